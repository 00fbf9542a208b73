/- PurseRuns: for every limit and all calls the law returns true, and each argument reads behind the call as it read before. No conditions. -/
import Derived.Test.YteflfflmedkdiaaPurseRunsB
import Derived.Test.YteflfflmedkdiaaPurseOpen
namespace Go.Proofs.Yteflfflmedkdiaa
open Go.ChangeShapes Go.WideShapes Go.ChangeAt Go.RowKit Go.Joins

set_option maxRecDepth 100000 in
theorem purseRuns_lifted (os : Os) (started : os.Started) (H : Type) (enc : TypeId × Value → H) :
    ReturnsInHanded {} Try.checked os 6 .any (Rows.purseRunsSpec.pre6 enc Try.prog Try.f6 Rows.purseRunsRow.domain false) (Rows.purseRunsSpec.post enc Try.prog Try.f6 false true false false) := by
  refine law_lifted (C := Try.checked) own started (by kernel_rfl) Try.func6
    (ChangeSpec.witness6 (enc := enc) (C := Try.checked) false ⟨#[], #[.int .i64 0, .slice none 0 0], []⟩ 8 (by kernel_rfl) (by kernel_rfl) (by kernel_rfl) (by kernel_rfl))
    laidOut (by rw [Try.params6]; intro t ht; simp at ht; rcases ht with rfl | rfl <;> exact ⟨by kernel_rfl, of_decide_eq_true (by kernel_rfl)⟩) (by kernel_rfl) Try.underlying4 rfl
    (by rw [Try.params6]; intro ds h; match ds, h with | [a0, a1], _ => rfl) ?_
  intro W base args ds ps hval hA _
  rw [Try.params6] at hA hval
  obtain ⟨v0, v1, d0, d1, p0, p1, hargs, rfl, rfl, h0, h1⟩ := trodAll_two hA
  obtain rfl : args = #[v0, v1] := by cases args; simp_all
  obtain ⟨l0, rfl, rfl, rfl, w0⟩ := open_int Try.underlying2 (hval 0 2 v0 rfl rfl) h0
  obtain ⟨ao, m, c, kd, at_, n, rfl, hw, ha⟩ := open_calls (hval 1 36 v1 rfl rfl) h1
  by_cases hc : m ≤ 100
  · exact lawRuns_some l0 ao m c kd at_ n hc W hw ha
  · exact lawRuns_long l0 ao m c (by omega) W

theorem purseRuns_over : Rows.purseRunsRow.holds Try.pinned (OpenSpec.ofChange Rows.purseRunsSpec) :=
  OpenClaim.holds_of_wide 6 Try.f6 rfl rfl rfl rfl rfl rfl rfl ⟨rfl, rfl, rfl, rfl, rfl⟩ rfl rfl rfl rfl rfl (by kernel_rfl) Try.func6 (by kernel_rfl)
    (of_decide_eq_true (by kernel_rfl)) (by unfold Func.isWrapper; first | (rw [if_pos (by decide +kernel)]; kernel_rfl) | (rw [if_neg (by decide +kernel)]; exact ⟨rfl, rfl⟩))
    (fun os started H enc _ => purseRuns_lifted os started H enc)

theorem purseRuns_holds : Rows.PurseRunsSaid := purseRuns_over
end Go.Proofs.Yteflfflmedkdiaa
