/- The walk of the law RingFull: the law returns true at every number and changes nothing that existed. Condition: the number fits 64 bits. -/
import Derived.Test.YtmnhnjljapabdaaRingFit
import Derived.Test.YtmnhnjljapabdaaRingPut
set_option linter.unusedVariables false
namespace Go.Proofs.Ytmnhnjljapabdaa
open Go.ChangeShapes Go.WideShapes Go.ChangeAt Go.RowKit

/-- the numbers that went out -/
def gone (x : Int) (k : Nat) : List Value := (List.range k).map fun (i : Nat) => .int .u64 (IntKind.u64.wrap (x + i))
theorem gone_succ (x : Int) (k : Nat) : gone x (k + 1) = gone x k ++ [.int .u64 (IntKind.u64.wrap (x + k))] := by
  unfold gone; rw [List.range_succ, List.map_append]; rfl
theorem gone_one (x : Int) (k : Nat) : ∀ u ∈ gone x k, u.oneCell' = true := by
  intro u hu
  unfold gone at hu
  obtain ⟨i, _, rfl⟩ := List.mem_map.1 hu
  rfl
theorem gone_at (x : Int) (k i : Nat) (h : i < k) : (gone x k)[i]? = some (.int .u64 (IntKind.u64.wrap (x + i))) := by
  unfold gone
  rw [List.getElem?_map, List.getElem?_range h]; rfl

structure FullRel (b k : Nat) (x : Int) (w0 wr : World) : Prop where
  row : ∃ v, wr.cell? ⟨b, 11, none⟩ = some v ∧ wr.ownsRow (b + 1) 33 1 v k (gone x k)
  fr : wr.frozen? ⟨b, 11, none⟩ = false
  hb : b < wr.heap.size
  bl : Below b w0 wr

theorem FullRel.put {b k : Nat} {x : Int} {w0 wr : World} (h : FullRel b k x w0 wr) (hk : k < 1024) :
    Calls Try.prog 11 #[.pointer (some ⟨b, 0, none⟩), .int .u64 (IntKind.u64.wrap (x + k))] wr fun e w' => e = .returned (.bool true) ∧ FullRel b (k + 1) x w0 w' := by
  obtain ⟨v, hc, ho⟩ := h.row
  refine (put_any b _ k v _ wr hc h.fr ho hk h.hb).mono ?_
  rintro e w' ⟨rfl, v', hc', hf', ho', hbl⟩
  refine ⟨rfl, ⟨v', hc', by rw [gone_succ]; exact ho'⟩, hf', ?_, h.bl.trans hbl⟩
  have := hbl.size
  have := h.hb
  omega

theorem full_start (x : Int) (w : World) : FullRel w.heap.size 0 x w (w.alloc (.cells #[.slice none 0 0, .slice none 0 0, .slice none 0 0, .slice none 0 0, .slice none 0 0, .slice none 0 0, .slice none 0 0, .slice none 0 0, .int .i64 0, .int .i64 0, .int .i64 0, .slice none 0 0] 27)) :=
  ⟨⟨.slice none 0 0, by simp, World.ownsRow_nil _ _ _ _⟩, by simp, by simp, (Below.refl _ _).alloc (Nat.le_refl _) _⟩

set_option maxRecDepth 100000 in
set_option maxHeartbeats 1000000 in
theorem lawFull (x : Int) (x0 : 0 ≤ x) (x1 : x < 18446744073709551616) (w : World) :
    Calls Try.prog 4 #[.int .u64 x] w fun e w' => e = .returned (.bool true) ∧ Below w.heap.size w w' := by
  go_enter Try.func4, Try.ntmps4
  go_wp2_with fail
  refine (fit_any _).mono ?_
  rintro e w1 ⟨rfl, hb1⟩
  have hs := full_start x w1
  have HS := Lib.hid hs
  clear hs
  go_wp2_with fail
  go_loopw [8] (fun s8 wr => ∃ k : Nat, k ≤ 1024 ∧ s8 = .int .u64 k ∧ FullRel w1.heap.size k x w1 wr) (fun s8 _ => 1024 - (intOf s8).toNat)
  case atStart => exact ⟨0, by omega, rfl, HS.out⟩
  case round =>
    obtain ⟨k, hk, rfl, hr⟩ := hrel
    by_cases h8 : k < 1024
    · have hp := FullRel.put hr h8
      have HP := Lib.hid hp
      clear hp hr
      go_wp2_with fail
      refine HP.out.mono ?_
      rintro e w2 ⟨rfl, hr2⟩
      have HR2 := Lib.hid hr2
      clear hr2
      go_wp2_with fail
      go_roundw
      case rel => exact ⟨k + 1, by omega, by go_num, HR2.out⟩
      case measure => simp [intOf]; omega
    · obtain rfl : k = 1024 := by omega
      obtain ⟨⟨v, hc, ho⟩, hf, hb, hbl⟩ := hr
      obtain ⟨g, cap, rfl, _⟩ := own_form ho
      have hout := out_any _ g cap 1024 _ wr hc ho (gone_one x 1024) (by omega)
      have HOUT := Lib.hid hout
      clear ho hout
      have y0 : IntKind.u64.wrap (x + ((0 : Nat) : Int)) = x := by rw [IntKind.wrap_u64]; omega
      have y1 : IntKind.u64.wrap (IntKind.u64.wrap (x + 1024) - 1) = IntKind.u64.wrap (x + 1023) := by rw [IntKind.wrap_u64, IntKind.wrap_u64, IntKind.wrap_u64]; omega
      go_wp2_with fail
      refine HOUT.out.mono ?_
      rintro e w2 ⟨v2, rfl, ho2, hb2⟩
      obtain ⟨g2, cap2, rfl, _⟩ := own_form ho2
      have hcs := ho2.cells (g := g2) rfl
      have d0 : w2.cell? ⟨g2, 0, none⟩ = some (.int .u64 x) := by
        have := hcs 0 _ (gone_at x 1024 0 (by omega))
        rw [y0] at this
        simpa [Addr.add] using this
      have d1 : w2.cell? ⟨g2, 1023, none⟩ = some (.int .u64 (IntKind.u64.wrap (x + 1023))) := by
        have := hcs 1023 _ (gone_at x 1024 1023 (by omega))
        simpa [Addr.add] using this
      have hcf := (hb2.cell (p := ⟨w1.heap.size, 11, none⟩) hb).trans hc
      have hpf := put_full w1.heap.size g cap x w2 hcf
      have HPF := Lib.hid hpf
      clear hcs ho2 hpf hcf
      go_wp2_with fail
      refine HPF.out.mono ?_
      rintro e w3 ⟨rfl, rfl⟩
      go_wp2_with fail
      go_ret
      exact ⟨rfl, (hb1.trans (hbl.mono hb1.size)).trans (hb2.mono (by have := hb1.size; have := hbl.size; omega))⟩
end Go.Proofs.Ytmnhnjljapabdaa
