/- The law PurseRuns' argument opened; the law at more calls than a hundred. Conditions: as each theorem names them. -/
import Derived.Test.YteflfflmedkdiaaPurseRuns
import Derived.Deep.Slices
import Derived.Deep.Fields
namespace Go.Proofs.Yteflfflmedkdiaa
open Go.ChangeShapes Go.WideShapes Go.ChangeAt Go.RowKit Go.Joins Go.Deep

theorem cells42 : Try.prog.cellsOf 42 = 3 := by kernel_rfl
theorem cells3' : Try.prog.cellsOf 3 = 1 := by kernel_rfl
theorem cells2' : Try.prog.cellsOf 2 = 1 := by kernel_rfl

/-- the number that a cell holds -/
def num (w : World) (a : Addr) : Int := match w.cell? a with | some (.int _ z) => z | _ => 0
theorem num_of {w : World} {a : Addr} {k : IntKind} {z : Int} (h : w.cell? a = some (.int k z)) : num w a = z := by unfold num; rw [h]
theorem i64_in {z : Int} (h : (Lit.int .i64 z).wf = true) : -9223372036854775808 ≤ z ∧ z ≤ 9223372036854775807 := i64_of h

theorem open_calls {H : Type} {enc : TypeId × Value → H} {w : World} {b0 : Nat} {v : Value} {d : DataW H} {p : List MemPlace} {r : Reach} (hv : Value.okWide Try.prog w r b0 36 v) (h : DataW.Trod enc Try.prog w 0 (fun _ => true) true 36 v d p) :
    ∃ (ao : Option Addr) (m c : Nat) (kd at_ n : Nat → Int), v = .slice ao m c ∧
      (∀ i, -9223372036854775808 ≤ kd i ∧ kd i ≤ 9223372036854775807 ∧ -9223372036854775808 ≤ at_ i ∧ at_ i ≤ 9223372036854775807 ∧ -9223372036854775808 ≤ n i ∧ n i ≤ 9223372036854775807) ∧
      (0 < m → ∃ a, ao = some a ∧ ∀ i, i < m → w.cell? (a.add (i * 3)) = some (.int .i64 (kd i)) ∧ w.cell? ((a.add (i * 3)).add 1) = some (.int .i64 (at_ i)) ∧ w.cell? ((a.add (i * 3)).add 2) = some (.int .i64 (n i))) := by
  obtain ⟨ao, len, cap, rfl⟩ := okWide_slice Try.underlying36 hv
  obtain ⟨fuel, hf⟩ := h
  rcases open_slice Try.underlying36 hf with ⟨hcs, _⟩ | ⟨a, len', cap', m, n, D, Pl, hcs, _, hl, hm, hmm, _, hi⟩
  · simp [Value.cells] at hcs
    obtain ⟨rfl, rfl, rfl⟩ := hcs
    exact ⟨none, 0, 0, fun _ => 0, fun _ => 0, fun _ => 0, rfl, fun i => by simp, fun h => absurd h (Nat.lt_irrefl 0)⟩
  · simp [Value.cells] at hcs
    obtain ⟨rfl, rfl, rfl⟩ := hcs
    have hm' : len ≤ m := by simp at hmm; omega
    rw [cells42] at hi
    have key : ∀ i, i < len → ∃ x y z : Int, (w.cell? (a.add (i * 3)) = some (.int .i64 x) ∧ w.cell? ((a.add (i * 3)).add 1) = some (.int .i64 y) ∧ w.cell? ((a.add (i * 3)).add 2) = some (.int .i64 z)) ∧ (Lit.int .i64 x).wf = true ∧ (Lit.int .i64 y).wf = true ∧ (Lit.int .i64 z).wf = true := by
      intro i hil
      obtain ⟨cs, hc, ht⟩ := hi i (by omega)
      obtain ⟨xs, n', _, _, hlen, hxs, hg⟩ := DataW.trod_struct Try.underlying42 ht
      obtain ⟨_, hl3, hat⟩ := World.cells?_some hc
      match cs, hl3 with
      | [c0, c1, c2], _ =>
        have g0 := hg 0 ⟨ "Kind", 3, 0, false, "", "", 0⟩ rfl
        have g1 := hg 1 ⟨ "At", 3, 1, false, "", "", 8⟩ rfl
        have g2 := hg 2 ⟨ "N", 2, 2, false, "", "", 16⟩ rfl
        simp only [cells3', cells2', List.drop_zero, List.take_succ_cons, List.take_zero, List.drop_succ_cons] at g0 g1 g2
        have hx3 : xs.length = 3 := hxs
        rw [List.getElem?_eq_getElem (by omega)] at g0 g1 g2
        obtain ⟨x, ex, _, wx⟩ := DataW.trod_int Try.underlying3 g0
        obtain ⟨y, ey, _, wy⟩ := DataW.trod_int Try.underlying3 g1
        obtain ⟨z, ez, _, wz⟩ := DataW.trod_int Try.underlying2 g2
        simp at ex ey ez
        subst ex ey ez
        have a0 := hat 0 (by omega)
        have a1 := hat 1 (by omega)
        have a2 := hat 2 (by omega)
        exact ⟨x, y, z, ⟨by simpa [Addr.add] using a0, by simpa using a1, by simpa using a2⟩, wx, wy, wz⟩
    refine ⟨some a, len, cap, fun i => if i < len then num w (a.add (i * 3)) else 0, fun i => if i < len then num w ((a.add (i * 3)).add 1) else 0, fun i => if i < len then num w ((a.add (i * 3)).add 2) else 0, rfl, fun i => ?_, fun _ => ⟨a, rfl, fun i hil => ?_⟩⟩
    · by_cases hil : i < len
      · obtain ⟨x, y, z, ⟨h0, h1, h2⟩, wx, wy, wz⟩ := key i hil
        simp only [if_pos hil, num_of h0, num_of h1, num_of h2]
        obtain ⟨a1, a2⟩ := i64_in wx
        obtain ⟨b1, b2⟩ := i64_in wy
        obtain ⟨c1, c2⟩ := i64_in wz
        exact ⟨a1, a2, b1, b2, c1, c2⟩
      · simp only [if_neg hil]; omega
    · obtain ⟨x, y, z, ⟨h0, h1, h2⟩, _⟩ := key i hil
      simp only [if_pos hil, num_of h0, num_of h1, num_of h2]
      exact ⟨h0, h1, h2⟩

set_option maxRecDepth 100000 in
theorem lawRuns_long (l0 : Int) (ao : Option Addr) (m c : Nat) (hm : 100 < m) (w : World) :
    Calls Try.prog 6 #[.int .i64 l0, .slice ao m c] w fun e w' => e = .returned (.bool true) ∧ Below w.heap.size w w' := by
  have hgI : (100 : Int) < (m : Int) := by omega
  go_enter Try.func6, Try.ntmps6
  go_wp2_with fail
  refine (fit_any _).mono ?_
  rintro e w1 ⟨rfl, hb1⟩
  go_wp2_with fail
  go_ret
  exact ⟨rfl, hb1⟩
end Go.Proofs.Yteflfflmedkdiaa
