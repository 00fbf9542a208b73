/- PurseTree: for every limit and all numbers the law returns true, and each argument reads behind the call as it read before. No conditions. -/
import Derived.Test.YteflfflmedkdiaaPurseTree
import Derived.Test.YteflfflmedkdiaaOpen
namespace Go.Proofs.Yteflfflmedkdiaa
open Go.ChangeShapes Go.WideShapes Go.ChangeAt Go.RowKit Go.Joins

theorem cells2 : Try.prog.cellsOf 2 = 1 := by kernel_rfl

theorem open_nums {H : Type} {enc : TypeId × Value → H} {w : World} {b0 : Nat} {v : Value} {d : DataW H} {p : List MemPlace} {r : Reach} (hv : Value.okWide Try.prog w r b0 27 v) (h : DataW.Trod enc Try.prog w 0 (fun _ => true) true 27 v d p) :
    ∃ (ao : Option Addr) (m c : Nat) (zs : Nat → Int), v = .slice ao m c ∧ (0 < m → ∃ a, ao = some a ∧ ∀ i, i < m → w.cell? (a.add i) = some (.int .i64 (zs i))) := by
  obtain ⟨ao, len, cap, rfl⟩ := okWide_slice Try.underlying27 hv
  obtain ⟨fuel, hf⟩ := h
  rcases open_ints Try.underlying27 Try.underlying2 cells2 hf with ⟨hcs, hx⟩ | ⟨a, len', cap', zs, hcs, _, hl, hm, hz, hx, hcell, hwz⟩
  · simp [Value.cells] at hcs
    obtain ⟨rfl, rfl, rfl⟩ := hcs
    exact ⟨none, 0, 0, fun _ => 0, rfl, fun h => absurd h (Nat.lt_irrefl 0)⟩
  · simp [Value.cells] at hcs
    obtain ⟨rfl, rfl, rfl⟩ := hcs
    refine ⟨some a, len, cap, fun i => zs.getD i 0, rfl, fun _ => ⟨a, rfl, fun i hi => hcell i ?_⟩⟩
    simp at hz
    omega

set_option maxRecDepth 100000 in
theorem purseTree_lifted (os : Os) (started : os.Started) (H : Type) (enc : TypeId × Value → H) :
    ReturnsInHanded {} Try.checked os 4 .any (Rows.purseTreeSpec.pre6 enc Try.prog Try.f4 Rows.purseTreeRow.domain false) (Rows.purseTreeSpec.post enc Try.prog Try.f4 false true false false) := by
  refine law_lifted (C := Try.checked) own started (by kernel_rfl) Try.func4
    (ChangeSpec.witness6 (enc := enc) (C := Try.checked) false ⟨#[], #[.int .i64 0, .slice none 0 0, .slice none 0 0], []⟩ 8 (by kernel_rfl) (by kernel_rfl) (by kernel_rfl) (by kernel_rfl))
    laidOut (by rw [Try.params4]; intro t ht; simp at ht; rcases ht with rfl | rfl <;> exact ⟨by kernel_rfl, of_decide_eq_true (by kernel_rfl)⟩) (by kernel_rfl) Try.underlying4 rfl
    (by rw [Try.params4]; intro ds h; match ds, h with | [a0, a1, a2], _ => rfl) ?_
  intro W base args ds ps hval hA _
  rw [Try.params4] at hA hval
  obtain ⟨v0, v1, v2, d0, d1, d2, p0, p1, p2, hargs, rfl, rfl, h0, h1, h2⟩ := trodAll_three hA
  obtain rfl : args = #[v0, v1, v2] := by cases args; simp_all
  obtain ⟨l0, rfl, rfl, rfl, w0⟩ := open_int Try.underlying2 (hval 0 2 v0 rfl rfl) h0
  obtain ⟨gao, gm, gc, gs, rfl, hga⟩ := open_nums (hval 1 27 v1 rfl rfl) h1
  obtain ⟨tao, tm, tc, ts, rfl, hta⟩ := open_nums (hval 2 27 v2 rfl rfl) h2
  by_cases c : 30 < gm ∨ 60 < tm
  · exact lawTree_long l0 gao tao gm gc tm tc c W
  · exact lawTree_some l0 gao tao gm gc tm tc gs ts (by omega) (by omega) W hga hta

theorem purseTree_over : Rows.purseTreeRow.holds Try.pinned (OpenSpec.ofChange Rows.purseTreeSpec) :=
  OpenClaim.holds_of_wide 4 Try.f4 rfl rfl rfl rfl rfl rfl rfl ⟨rfl, rfl, rfl, rfl, rfl⟩ rfl rfl rfl rfl rfl (by kernel_rfl) Try.func4 (by kernel_rfl)
    (of_decide_eq_true (by kernel_rfl)) (by unfold Func.isWrapper; first | (rw [if_pos (by decide +kernel)]; kernel_rfl) | (rw [if_neg (by decide +kernel)]; exact ⟨rfl, rfl⟩))
    (fun os started H enc _ => purseTree_lifted os started H enc)

theorem purseTree_holds : Rows.PurseTreeSaid := purseTree_over
end Go.Proofs.Yteflfflmedkdiaa
