/- CoreEnds: for every instruction, every registers and every place the law returns true, and each argument reads behind the call as it read before. No conditions. -/
import Derived.Test.YtelgmffmekfndaaCoreEndsG
import Derived.Test.YtelgmffmekfndaaCoreOpenG
namespace Go.Proofs.Ytelgmffmekfndaa
open Go.ChangeShapes Go.WideShapes Go.ChangeAt Go.RowKit Go.Joins

set_option maxRecDepth 100000 in
theorem coreEnds_lifted (os : Os) (started : os.Started) (H : Type) (enc : TypeId × Value → H) :
    ReturnsInHanded {} Try.checked os 18 .any (Rows.coreEndsSpec.pre6 enc Try.prog Try.f18 Rows.coreEndsRow.domain false) (Rows.coreEndsSpec.post enc Try.prog Try.f18 false true false false) := by
  refine law_lifted (C := Try.checked) own started (by kernel_rfl) Try.func18
    (ChangeSpec.witness6 (enc := enc) (C := Try.checked) false ⟨#[], #[.agg #[.int .i64 0, .int .i64 0, .int .i64 0, .int .i64 0, .int .i32 0], .slice none 0 0, .int .u64 0], []⟩ 8 (by kernel_rfl) (by kernel_rfl) (by kernel_rfl) (by kernel_rfl))
    laidOut (by rw [Try.params18]; intro t ht; simp at ht; rcases ht with rfl | rfl | rfl <;> exact ⟨by kernel_rfl, of_decide_eq_true (by kernel_rfl)⟩) (by kernel_rfl) Try.underlying4 rfl
    (by rw [Try.params18]; intro ds h; match ds, h with | [a0, a1, a2], _ => rfl) ?_
  intro W base args ds ps hval hA _
  rw [Try.params18] at hA hval
  obtain ⟨v0, v1, v2, d0, d1, d2, p0, p1, p2, hargs, rfl, rfl, h0, h1, h2⟩ := trodAll_three hA
  obtain rfl : args = #[v0, v1, v2] := by cases args; simp_all
  obtain ⟨op, A, B, C, imm, rfl, _, _⟩ := open_ins (hval 0 50 v0 rfl rfl) h0
  obtain ⟨n, zs, hr, hn⟩ := open_regs (hval 1 35 v1 rfl rfl) h1
  obtain ⟨pc, rfl, rfl, rfl, w2⟩ := open_int Try.underlying22 (hval 2 22 v2 rfl rfl) h2
  exact lawEnds op A B C imm pc (u64_of w2).1 (u64_of w2).2 v1 n zs W hr hn

theorem coreEnds_over : Rows.coreEndsRow.holds Try.pinned (OpenSpec.ofChange Rows.coreEndsSpec) :=
  OpenClaim.holds_of_wide 18 Try.f18 rfl rfl rfl rfl rfl rfl rfl ⟨rfl, rfl, rfl, rfl, rfl⟩ rfl rfl rfl rfl rfl (by kernel_rfl) Try.func18 (by kernel_rfl)
    (of_decide_eq_true (by kernel_rfl)) (by unfold Func.isWrapper; first | (rw [if_pos (by decide +kernel)]; kernel_rfl) | (rw [if_neg (by decide +kernel)]; exact ⟨rfl, rfl⟩))
    (fun os started H enc _ => coreEnds_lifted os started H enc)

theorem coreEnds_holds : Rows.CoreEndsSaid := coreEnds_over
end Go.Proofs.Ytelgmffmekfndaa
