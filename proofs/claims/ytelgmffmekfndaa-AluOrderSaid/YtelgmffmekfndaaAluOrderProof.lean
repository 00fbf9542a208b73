/- AluOrder: for every two words the law returns true, and each argument reads behind the call as it read before. No conditions. -/
import Derived.Test.YtelgmffmekfndaaAluOrder
namespace Go.Proofs.Ytelgmffmekfndaa
open Go.ChangeShapes Go.WideShapes Go.ChangeAt Go.RowKit Go.Joins

set_option maxRecDepth 100000 in
theorem aluOrder_lifted (os : Os) (started : os.Started) (H : Type) (enc : TypeId × Value → H) :
    ReturnsInHanded {} Try.checked os 15 .any (Rows.aluOrderSpec.pre6 enc Try.prog Try.f15 Rows.aluOrderRow.domain false) (Rows.aluOrderSpec.post enc Try.prog Try.f15 false true false false) := by
  refine law_lifted (C := Try.checked) own started (by kernel_rfl) Try.func15
    (ChangeSpec.witness6 (enc := enc) (C := Try.checked) false ⟨#[], #[.int .u64 0, .int .u64 0], []⟩ 8 (by kernel_rfl) (by kernel_rfl) (by kernel_rfl) (by kernel_rfl))
    laidOut (by rw [Try.params15]; intro t ht; simp at ht; obtain rfl := ht; exact ⟨by kernel_rfl, of_decide_eq_true (by kernel_rfl)⟩) (by kernel_rfl) Try.underlying4 rfl
    (by rw [Try.params15]; intro ds h; match ds, h with | [a0, a1], _ => rfl) ?_
  intro W base args ds ps hval hA _
  rw [Try.params15] at hA hval
  obtain ⟨v0, v1, d0, d1, p0, p1, hargs, rfl, rfl, h0, h1⟩ := trodAll_two hA
  obtain rfl : args = #[v0, v1] := by cases args; simp_all
  obtain ⟨a, rfl, rfl, rfl, w0⟩ := open_int Try.underlying22 (hval 0 22 v0 rfl rfl) h0
  obtain ⟨b, rfl, rfl, rfl, w1⟩ := open_int Try.underlying22 (hval 1 22 v1 rfl rfl) h1
  exact lawOrder a b (u64_of w0).1 (u64_of w0).2 (u64_of w1).1 (u64_of w1).2 W

theorem aluOrder_over : Rows.aluOrderRow.holds Try.pinned (OpenSpec.ofChange Rows.aluOrderSpec) :=
  OpenClaim.holds_of_wide 15 Try.f15 rfl rfl rfl rfl rfl rfl rfl ⟨rfl, rfl, rfl, rfl, rfl⟩ rfl rfl rfl rfl rfl (by kernel_rfl) Try.func15 (by kernel_rfl)
    (of_decide_eq_true (by kernel_rfl)) (by unfold Func.isWrapper; first | (rw [if_pos (by decide +kernel)]; kernel_rfl) | (rw [if_neg (by decide +kernel)]; exact ⟨rfl, rfl⟩))
    (fun os started H enc _ => aluOrder_lifted os started H enc)

theorem aluOrder_holds : Rows.AluOrderSaid := aluOrder_over
end Go.Proofs.Ytelgmffmekfndaa
