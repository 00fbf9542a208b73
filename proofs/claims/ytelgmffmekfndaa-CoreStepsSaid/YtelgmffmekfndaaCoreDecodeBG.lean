/- isa.Decode where there is no instruction. Conditions: as each theorem names them. -/
import Derived.Test.YtelgmffmekfndaaCoreDecodeG
set_option linter.unusedVariables false
namespace Go.Proofs.Ytelgmffmekfndaa
open Go.ChangeShapes Go.WideShapes Go.ChangeAt Go.RowKit

set_option maxRecDepth 100000 in
set_option maxHeartbeats 4000000 in
theorem decode_no (W : World) (b : Nat) (y : Nat → Int) (h : Eight W b y) (hr : ¬ Rightly (y 0) (y 1) (y 2) (y 3)) :
    Calls Try.prog 82 #[.slice (some ⟨b, 0, none⟩) 8 8] W fun e w' => e = .returned (.tuple #[ins 0 0 0 0 0, .bool false]) ∧ Below W.heap.size W w' := by
  have c0 := h.c 0 (by omega)
  have c1 := h.c 1 (by omega)
  have c2 := h.c 2 (by omega)
  have c3 := h.c 3 (by omega)
  have c4 := h.c 4 (by omega)
  have c5 := h.c 5 (by omega)
  have c6 := h.c 6 (by omega)
  have c7 := h.c 7 (by omega)
  obtain ⟨r0, s0⟩ := h.r 0
  obtain ⟨r1, s1⟩ := h.r 1
  obtain ⟨r2, s2⟩ := h.r 2
  obtain ⟨r3, s3⟩ := h.r 3
  obtain ⟨r4, s4⟩ := h.r 4
  obtain ⟨r5, s5⟩ := h.r 5
  obtain ⟨r6, s6⟩ := h.r 6
  obtain ⟨r7, s7⟩ := h.r 7
  generalize y 0 = y0 at *
  generalize y 1 = y1 at *
  generalize y 2 = y2 at *
  generalize y 3 = y3 at *
  generalize y 4 = y4 at *
  generalize y 5 = y5 at *
  generalize y 6 = y6 at *
  generalize y 7 = y7 at *
  have HRT := Lib.hid hr
  have w0 : IntKind.i64.wrap y0 = y0 := by rw [IntKind.wrap_i64]; omega
  have w1 : IntKind.i64.wrap y1 = y1 := by rw [IntKind.wrap_i64]; omega
  have w2 : IntKind.i64.wrap y2 = y2 := by rw [IntKind.wrap_i64]; omega
  have w3 : IntKind.i64.wrap y3 = y3 := by rw [IntKind.wrap_i64]; omega
  have w4 : IntKind.u32.wrap y4 = y4 := by rw [IntKind.wrap_u32]; omega
  have w5 : IntKind.u32.wrap y5 = y5 := by rw [IntKind.wrap_u32]; omega
  have w6 : IntKind.u32.wrap y6 = y6 := by rw [IntKind.wrap_u32]; omega
  have w7 : IntKind.u32.wrap y7 = y7 := by rw [IntKind.wrap_u32]; omega
  obtain ⟨q4, e4⟩ : ∃ q, y4 * 16777216 = q := ⟨_, rfl⟩
  obtain ⟨q5, e5⟩ : ∃ q, y5 * 65536 = q := ⟨_, rfl⟩
  obtain ⟨q6, e6⟩ : ∃ q, y6 * 256 = q := ⟨_, rfl⟩
  have v4 : IntKind.u32.wrap q4 = q4 := by rw [IntKind.wrap_u32]; omega
  have v5 : IntKind.u32.wrap q5 = q5 := by rw [IntKind.wrap_u32]; omega
  have v6 : IntKind.u32.wrap q6 = q6 := by rw [IntKind.wrap_u32]; omega
  obtain ⟨o1, f1⟩ : ∃ q, bits .or .u32 q4 q5 = q := ⟨_, rfl⟩
  obtain ⟨o2, f2⟩ : ∃ q, bits .or .u32 o1 q6 = q := ⟨_, rfl⟩
  obtain ⟨o3, f3⟩ : ∃ q, bits .or .u32 o2 y7 = q := ⟨_, rfl⟩
  obtain ⟨imm, f4⟩ : ∃ q, wrap32 o3 = q := ⟨_, rfl⟩
  clear h hr
  go_enter Try.func82, Try.ntmps82
  go_wp2_with fail
  go_region_held3 (fun w' => w'.cell? ⟨b, 0, none⟩ = some (.int .u8 y0) ∧ w'.cell? ⟨b, 1, none⟩ = some (.int .u8 y1) ∧ w'.cell? ⟨b, 2, none⟩ = some (.int .u8 y2) ∧ w'.cell? ⟨b, 3, none⟩ = some (.int .u8 y3) ∧ w'.cell? ⟨b, 4, none⟩ = some (.int .u8 y4) ∧ w'.cell? ⟨b, 5, none⟩ = some (.int .u8 y5) ∧ w'.cell? ⟨b, 6, none⟩ = some (.int .u8 y6) ∧ w'.cell? ⟨b, 7, none⟩ = some (.int .u8 y7)) (go_keep) (fail)
  go_wp2_with fail
  refine (right_no y0 y1 y2 y3 imm r1 r2 r3 HRT.out _).mono ?_
  rintro e w' ⟨rfl, rfl⟩
  go_wp2_with fail
  refine bodyPost_ret (v := .tuple #[ins 0 0 0 0 0, .bool false]) (by simp [results, Try.f82, ins, go_sem]) rfl ⟨rfl, ?_⟩
  exact (((Below.refl _ W).alloc (Nat.le_refl _) _).alloc (by simp) _).drew.alloc (by simp; omega) _
end Go.Proofs.Ytelgmffmekfndaa
