/- AluBits: for every two words the law returns true, and each argument reads behind the call as it read before. No conditions. -/
import Derived.Test.YtelgmffmekfndaaAluBits
namespace Go.Proofs.Ytelgmffmekfndaa
open Go.ChangeShapes Go.WideShapes Go.ChangeAt Go.RowKit Go.Joins

set_option maxRecDepth 100000 in
theorem aluBits_lifted (os : Os) (started : os.Started) (H : Type) (enc : TypeId × Value → H) :
    ReturnsInHanded {} Try.checked os 14 .any (Rows.aluBitsSpec.pre6 enc Try.prog Try.f14 Rows.aluBitsRow.domain false) (Rows.aluBitsSpec.post enc Try.prog Try.f14 false true false false) := by
  refine law_lifted (C := Try.checked) own started (by kernel_rfl) Try.func14
    (ChangeSpec.witness6 (enc := enc) (C := Try.checked) false ⟨#[], #[.int .u64 0, .int .u64 0], []⟩ 8 (by kernel_rfl) (by kernel_rfl) (by kernel_rfl) (by kernel_rfl))
    laidOut (by rw [Try.params14]; intro t ht; simp at ht; obtain rfl := ht; exact ⟨by kernel_rfl, of_decide_eq_true (by kernel_rfl)⟩) (by kernel_rfl) Try.underlying4 rfl
    (by rw [Try.params14]; intro ds h; match ds, h with | [a0, a1], _ => rfl) ?_
  intro W base args ds ps hval hA _
  rw [Try.params14] at hA hval
  obtain ⟨v0, v1, d0, d1, p0, p1, hargs, rfl, rfl, h0, h1⟩ := trodAll_two hA
  obtain rfl : args = #[v0, v1] := by cases args; simp_all
  obtain ⟨a, rfl, rfl, rfl, w0⟩ := open_int Try.underlying22 (hval 0 22 v0 rfl rfl) h0
  obtain ⟨b, rfl, rfl, rfl, w1⟩ := open_int Try.underlying22 (hval 1 22 v1 rfl rfl) h1
  exact lawBits a b (u64_of w0).1 (u64_of w0).2 (u64_of w1).1 (u64_of w1).2 W

theorem aluBits_over : Rows.aluBitsRow.holds Try.pinned (OpenSpec.ofChange Rows.aluBitsSpec) :=
  OpenClaim.holds_of_wide 14 Try.f14 rfl rfl rfl rfl rfl rfl rfl ⟨rfl, rfl, rfl, rfl, rfl⟩ rfl rfl rfl rfl rfl (by kernel_rfl) Try.func14 (by kernel_rfl)
    (of_decide_eq_true (by kernel_rfl)) (by unfold Func.isWrapper; first | (rw [if_pos (by decide +kernel)]; kernel_rfl) | (rw [if_neg (by decide +kernel)]; exact ⟨rfl, rfl⟩))
    (fun os started H enc _ => aluBits_lifted os started H enc)

theorem aluBits_holds : Rows.AluBitsSaid := aluBits_over
end Go.Proofs.Ytelgmffmekfndaa
