/- Core.Step's way to its memory, which lies behind an interface; the bytes of an instruction. Conditions: as each theorem names them. -/
import Derived.Test.YtelgmffmekfndaaCoreMemG
import Derived.Deep.RegionHeld3
import Derived.Deep.DrawnRows
set_option linter.unusedVariables false
namespace Go.Proofs.Ytelgmffmekfndaa
open Go.ChangeShapes Go.WideShapes Go.ChangeAt Go.RowKit

theorem least_some (l : List String) (p : String → Bool) (g : String → String) (s : String) (h : l = [s]) : ∃ m, (Instr.least (l.partition p).2 <|> Instr.least ((l.partition p).1.map g)) = some m := by
  subst h
  rw [List.partition_eq_filter_filter]
  cases hp : p s <;> simp [List.filter, hp, Instr.least]
theorem lacks_fetch : ∃ m, Instr.missingMethod #[("Fetch", 97)] Try.t52.methods = some m := by
  unfold Instr.missingMethod
  exact least_some _ _ _ "Fetch" (by kernel_rfl)
theorem assert_no (a : Addr) (w : World) : (Instr.typeAssert (.iface 52 (.pointer (some a))) 81 95 true).run Try.prog w = .ok (.tuple #[.nilIface, .bool false]) w := by
  obtain ⟨m, hm⟩ := lacks_fetch
  simp [Instr.typeAssert, go_sem, hm]
theorem ahead_load (a : Addr) (w : World) : (nilAhead 219 52 (.pointer (some a)) "Load").run Try.prog w = .ok (some false) w := by kernel_rfl
theorem method_load (a : Addr) (w : World) : (method 219 52 (.pointer (some a)) "Load").run Try.prog w = .ok (84, .pointer (some a)) w := by kernel_rfl
theorem ahead_store (a : Addr) (w : World) : (nilAhead 219 52 (.pointer (some a)) "Store").run Try.prog w = .ok (some false) w := by kernel_rfl
theorem method_store (a : Addr) (w : World) : (method 219 52 (.pointer (some a)) "Store").run Try.prog w = .ok (87, .pointer (some a)) w := by kernel_rfl

set_option maxRecDepth 100000 in
theorem fetch_yes {W : World} {M g n cap : Nat} {hole : Int} {f : Nat → Int} (h : MemAt W M g n cap hole f) (va : Nat) (hv : va ≤ 1000000) (hr : Reach n hole va 8) :
    Calls Try.prog 81 #[.iface 52 (.pointer (some ⟨M, 0, none⟩)), .int .i64 va] W fun e w' => e = .returned (.tuple #[.int .u64 (ldv (fun i => f (va + i)) 8), .bool true]) ∧ W = w' := by
  have HL := Lib.hid (load_yes h va 8 hv (by decide) (by decide) hr)
  have ha := assert_no ⟨M, 0, none⟩
  have hme := method_load ⟨M, 0, none⟩
  clear h
  go_enter Try.func81, Try.ntmps81
  go_wp2_with fail
  refine HL.out.mono ?_
  rintro e w' ⟨rfl, rfl⟩
  go_wp2_with fail
  exact bodyPost_ret (v := .tuple #[.int .u64 (ldv (fun i => f (va + i)) 8), .bool true]) (by simp [results, Try.results81, go_sem]) rfl ⟨rfl, rfl⟩
set_option maxRecDepth 100000 in
theorem fetch_no {W : World} {M g n cap : Nat} {hole : Int} {f : Nat → Int} (h : MemAt W M g n cap hole f) (va : Nat) (hv : va ≤ 1000000) (hr : ¬ Reach n hole va 8) :
    Calls Try.prog 81 #[.iface 52 (.pointer (some ⟨M, 0, none⟩)), .int .i64 va] W fun e w' => e = .returned (.tuple #[.int .u64 0, .bool false]) ∧ W = w' := by
  have HL := Lib.hid (load_no h va 8 hv (by decide) hr)
  have ha := assert_no ⟨M, 0, none⟩
  have hme := method_load ⟨M, 0, none⟩
  clear h
  go_enter Try.func81, Try.ntmps81
  go_wp2_with fail
  refine HL.out.mono ?_
  rintro e w' ⟨rfl, rfl⟩
  go_wp2_with fail
  exact bodyPost_ret (v := .tuple #[.int .u64 0, .bool false]) (by simp [results, Try.results81, go_sem]) rfl ⟨rfl, rfl⟩
end Go.Proofs.Ytelgmffmekfndaa
