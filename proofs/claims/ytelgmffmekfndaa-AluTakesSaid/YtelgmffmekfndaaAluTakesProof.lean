/- AluTakes: for every operation, every two words and every number the law returns true, and each argument reads behind the call as it read before. No conditions. -/
import Derived.Test.YtelgmffmekfndaaAluTakes
import Derived.Test.YtelgmffmekfndaaOpen
namespace Go.Proofs.Ytelgmffmekfndaa
open Go.ChangeShapes Go.WideShapes Go.ChangeAt Go.RowKit Go.Joins

theorem cells22 : Try.prog.cellsOf 22 = 1 := by kernel_rfl
theorem cells41 : Try.prog.cellsOf 41 = 2 := by kernel_rfl

set_option maxRecDepth 100000 in
theorem aluTakes_lifted (os : Os) (started : os.Started) (H : Type) (enc : TypeId × Value → H) :
    ReturnsInHanded {} Try.checked os 16 .any (Rows.aluTakesSpec.pre6 enc Try.prog Try.f16 Rows.aluTakesRow.domain false) (Rows.aluTakesSpec.post enc Try.prog Try.f16 false true false false) := by
  refine law_lifted (C := Try.checked) own started (by kernel_rfl) Try.func16
    (ChangeSpec.witness6 (enc := enc) (C := Try.checked) false ⟨#[], #[.int .i64 0, .agg #[.int .u64 0, .int .u64 0], .int .i32 0], []⟩ 8 (by kernel_rfl) (by kernel_rfl) (by kernel_rfl) (by kernel_rfl))
    laidOut (by rw [Try.params16]; intro t ht; simp at ht; rcases ht with rfl | rfl | rfl <;> exact ⟨by kernel_rfl, of_decide_eq_true (by kernel_rfl)⟩) (by kernel_rfl) Try.underlying4 rfl
    (by rw [Try.params16]; intro ds h; match ds, h with | [a, b, c], _ => rfl) ?_
  intro W base args ds ps hval hA _
  rw [Try.params16] at hA hval
  obtain ⟨v0, v1, v2, d0, d1, d2, p0, p1, p2, hargs, rfl, rfl, h0, h1, h2⟩ := trodAll_three hA
  obtain rfl : args = #[v0, v1, v2] := by cases args; simp_all
  obtain ⟨op, rfl, rfl, rfl, w0⟩ := open_int Try.underlying3 (hval 0 3 v0 rfl rfl) h0
  obtain ⟨a, b, rfl, w1, w2⟩ := open_arr2 Try.underlying41 Try.underlying22 cells41 cells22 (hval 1 41 v1 rfl rfl) h1
  obtain ⟨imm, rfl, rfl, rfl, w3⟩ := open_int Try.underlying21 (hval 2 21 v2 rfl rfl) h2
  exact lawTakes op a b imm (i64_of w0).1 (i64_of w0).2 (u64_of w1).1 (u64_of w1).2 (u64_of w2).1 (u64_of w2).2 (i32_of w3).1 (i32_of w3).2 W

theorem aluTakes_over : Rows.aluTakesRow.holds Try.pinned (OpenSpec.ofChange Rows.aluTakesSpec) :=
  OpenClaim.holds_of_wide 16 Try.f16 rfl rfl rfl rfl rfl rfl rfl ⟨rfl, rfl, rfl, rfl, rfl⟩ rfl rfl rfl rfl rfl (by kernel_rfl) Try.func16 (by kernel_rfl)
    (of_decide_eq_true (by kernel_rfl)) (by unfold Func.isWrapper; first | (rw [if_pos (by decide +kernel)]; kernel_rfl) | (rw [if_neg (by decide +kernel)]; exact ⟨rfl, rfl⟩))
    (fun os started H enc _ => aluTakes_lifted os started H enc)

theorem aluTakes_holds : Rows.AluTakesSaid := aluTakes_over
end Go.Proofs.Ytelgmffmekfndaa
