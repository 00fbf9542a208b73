/- CoreLoops: for every count and number the law returns true, and each argument reads behind the call as it read before. No conditions. -/
import Derived.Test.YtelgmffmekfndaaCoreLoopsWG
namespace Go.Proofs.Ytelgmffmekfndaa
open Go.ChangeShapes Go.WideShapes Go.ChangeAt Go.RowKit Go.Joins

set_option maxRecDepth 100000 in
theorem coreLoops_lifted (os : Os) (started : os.Started) (H : Type) (enc : TypeId × Value → H) :
    ReturnsInHanded {} Try.checked os 19 .any (Rows.coreLoopsSpec.pre6 enc Try.prog Try.f19 Rows.coreLoopsRow.domain false) (Rows.coreLoopsSpec.post enc Try.prog Try.f19 false true false false) := by
  refine law_lifted (C := Try.checked) own started (by kernel_rfl) Try.func19
    (ChangeSpec.witness6 (enc := enc) (C := Try.checked) false ⟨#[], #[.int .i64 0, .int .i32 0], []⟩ 8 (by kernel_rfl) (by kernel_rfl) (by kernel_rfl) (by kernel_rfl))
    laidOut (by rw [Try.params19]; intro t ht; simp at ht; rcases ht with rfl | rfl <;> exact ⟨by kernel_rfl, of_decide_eq_true (by kernel_rfl)⟩) (by kernel_rfl) Try.underlying4 rfl
    (by rw [Try.params19]; intro ds h; match ds, h with | [a0, a1], _ => rfl) ?_
  intro W base args ds ps hval hA _
  rw [Try.params19] at hA hval
  obtain ⟨v0, v1, d0, d1, p0, p1, hargs, rfl, rfl, h0, h1⟩ := trodAll_two hA
  obtain rfl : args = #[v0, v1] := by cases args; simp_all
  obtain ⟨n, rfl, rfl, rfl, w0⟩ := open_int Try.underlying3 (hval 0 3 v0 rfl rfl) h0
  obtain ⟨add, rfl, rfl, rfl, w1⟩ := open_int Try.underlying21 (hval 1 21 v1 rfl rfl) h1
  exact lawLoops n add (i32_of w1).1 (i32_of w1).2 W

theorem coreLoops_over : Rows.coreLoopsRow.holds Try.pinned (OpenSpec.ofChange Rows.coreLoopsSpec) :=
  OpenClaim.holds_of_wide 19 Try.f19 rfl rfl rfl rfl rfl rfl rfl ⟨rfl, rfl, rfl, rfl, rfl⟩ rfl rfl rfl rfl rfl (by kernel_rfl) Try.func19 (by kernel_rfl)
    (of_decide_eq_true (by kernel_rfl)) (by unfold Func.isWrapper; first | (rw [if_pos (by decide +kernel)]; kernel_rfl) | (rw [if_neg (by decide +kernel)]; exact ⟨rfl, rfl⟩))
    (fun os started H enc _ => coreLoops_lifted os started H enc)

theorem coreLoops_holds : Rows.CoreLoopsSaid := coreLoops_over
end Go.Proofs.Ytelgmffmekfndaa
