/- isa.Right and isa.Decode: the instruction of eight bytes. Conditions: as each theorem names them. -/
import Derived.Test.YtelgmffmekfndaaCoreFetchG
import Derived.RegionTactic
import Derived.Deep.QuietTactic
import Derived.BigQuiet
set_option linter.unusedVariables false
namespace Go.Proofs.Ytelgmffmekfndaa
open Go.ChangeShapes Go.WideShapes Go.ChangeAt Go.RowKit

/-- may it be an instruction? -/
def Rightly (op A B C : Int) : Prop := A < 16 ∧ B < 16 ∧ C < 16 ∧ 1 ≤ op ∧ op < 44
/-- an instruction's cells -/
def ins (op A B C imm : Int) : Value := .agg #[.int .i64 op, .int .i64 A, .int .i64 B, .int .i64 C, .int .i32 imm]
abbrev insO (op A B C imm : Int) : Obj := .cells #[.int .i64 op, .int .i64 A, .int .i64 B, .int .i64 C, .int .i32 imm] 50

theorem ix0 (x0 x1 x2 : Value) (w : World) : (Instr.index 102 (.agg #[x0, x1, x2]) (.int .i64 0)).run Try.prog w = .ok x0 w := by kernel_rfl
theorem ix1 (x0 x1 x2 : Value) (w : World) : (Instr.index 102 (.agg #[x0, x1, x2]) (.int .i64 1)).run Try.prog w = .ok x1 w := by kernel_rfl
theorem ix2 (x0 x1 x2 : Value) (w : World) : (Instr.index 102 (.agg #[x0, x1, x2]) (.int .i64 2)).run Try.prog w = .ok x2 w := by kernel_rfl

set_option maxRecDepth 100000 in
set_option maxHeartbeats 2000000 in
theorem right_yes (op A B C imm : Int) (hA : 0 ≤ A) (hB : 0 ≤ B) (hC : 0 ≤ C) (h : Rightly op A B C) (w : World) :
    Calls Try.prog 92 #[.agg #[.int .i64 op, .int .i64 A, .int .i64 B, .int .i64 C, .int .i32 imm]] w fun e w' => e = .returned (.bool true) ∧ w.alloc (insO op A B C imm) = w' := by
  obtain ⟨a1, b1, c1, o1, o2⟩ := h
  have i0 := ix0 (.int .i64 A) (.int .i64 B) (.int .i64 C)
  have i1 := ix1 (.int .i64 A) (.int .i64 B) (.int .i64 C)
  have i2 := ix2 (.int .i64 A) (.int .i64 B) (.int .i64 C)
  go_enter Try.func92, Try.ntmps92
  go_wp2_with fail
  go_loop [12] (fun s12 => ∃ k : Nat, k ≤ 3 ∧ s12 = .int .i64 k) (fun s12 => 3 - (intOf s12).toNat)
  case atStart => exact ⟨0, by omega, rfl⟩
  case round =>
    obtain ⟨k, hk, rfl⟩ := hrel
    rcases (by omega : k = 0 ∨ k = 1 ∨ k = 2 ∨ k = 3) with rfl | rfl | rfl | rfl
    · go_wp2_with fail
      go_round
      case rel => exact ⟨1, by omega, by go_num⟩
      case measure => simp [intOf]
    · go_wp2_with fail
      go_round
      case rel => exact ⟨2, by omega, by go_num⟩
      case measure => simp [intOf]
    · go_wp2_with fail
      go_round
      case rel => exact ⟨3, by omega, by go_num⟩
      case measure => simp [intOf]
    · go_wp2_with fail
      go_ret
      exact ⟨rfl, rfl⟩
set_option maxRecDepth 100000 in
set_option maxHeartbeats 4000000 in
theorem right_no (op A B C imm : Int) (hA : 0 ≤ A) (hB : 0 ≤ B) (hC : 0 ≤ C) (h : ¬ Rightly op A B C) (w : World) :
    Calls Try.prog 92 #[.agg #[.int .i64 op, .int .i64 A, .int .i64 B, .int .i64 C, .int .i32 imm]] w fun e w' => e = .returned (.bool false) ∧ w.alloc (insO op A B C imm) = w' := by
  unfold Rightly at h
  have i0 := ix0 (.int .i64 A) (.int .i64 B) (.int .i64 C)
  have i1 := ix1 (.int .i64 A) (.int .i64 B) (.int .i64 C)
  have i2 := ix2 (.int .i64 A) (.int .i64 B) (.int .i64 C)
  by_cases a1 : A < 16
  rotate_left
  · clear h
    go_enter Try.func92, Try.ntmps92
    go_wp2_with fail
    go_loop [12] (fun s12 => ∃ k : Nat, k ≤ 0 ∧ s12 = .int .i64 k) (fun s12 => 0 - (intOf s12).toNat)
    case atStart => exact ⟨0, by omega, rfl⟩
    case round =>
      obtain ⟨k, hk, rfl⟩ := hrel
      obtain rfl : k = 0 := by omega
      go_wp2_with fail
      go_ret
      exact ⟨rfl, rfl⟩
  by_cases b1 : B < 16
  rotate_left
  · clear h
    go_enter Try.func92, Try.ntmps92
    go_wp2_with fail
    go_loop [12] (fun s12 => ∃ k : Nat, k ≤ 1 ∧ s12 = .int .i64 k) (fun s12 => 1 - (intOf s12).toNat)
    case atStart => exact ⟨0, by omega, rfl⟩
    case round =>
      obtain ⟨k, hk, rfl⟩ := hrel
      rcases (by omega : k = 0 ∨ k = 1) with rfl | rfl
      · go_wp2_with fail
        go_round
        case rel => exact ⟨1, by omega, by go_num⟩
        case measure => simp [intOf]
      · go_wp2_with fail
        go_ret
        exact ⟨rfl, rfl⟩
  by_cases c1 : C < 16
  rotate_left
  · clear h
    go_enter Try.func92, Try.ntmps92
    go_wp2_with fail
    go_loop [12] (fun s12 => ∃ k : Nat, k ≤ 2 ∧ s12 = .int .i64 k) (fun s12 => 2 - (intOf s12).toNat)
    case atStart => exact ⟨0, by omega, rfl⟩
    case round =>
      obtain ⟨k, hk, rfl⟩ := hrel
      rcases (by omega : k = 0 ∨ k = 1 ∨ k = 2) with rfl | rfl | rfl
      · go_wp2_with fail
        go_round
        case rel => exact ⟨1, by omega, by go_num⟩
        case measure => simp [intOf]
      · go_wp2_with fail
        go_round
        case rel => exact ⟨2, by omega, by go_num⟩
        case measure => simp [intOf]
      · go_wp2_with fail
        go_ret
        exact ⟨rfl, rfl⟩
  by_cases o1 : 1 ≤ op
  rotate_left
  · clear h
    go_enter Try.func92, Try.ntmps92
    go_wp2_with fail
    go_loop [12] (fun s12 => ∃ k : Nat, k ≤ 3 ∧ s12 = .int .i64 k) (fun s12 => 3 - (intOf s12).toNat)
    case atStart => exact ⟨0, by omega, rfl⟩
    case round =>
      obtain ⟨k, hk, rfl⟩ := hrel
      rcases (by omega : k = 0 ∨ k = 1 ∨ k = 2 ∨ k = 3) with rfl | rfl | rfl | rfl
      · go_wp2_with fail
        go_round
        case rel => exact ⟨1, by omega, by go_num⟩
        case measure => simp [intOf]
      · go_wp2_with fail
        go_round
        case rel => exact ⟨2, by omega, by go_num⟩
        case measure => simp [intOf]
      · go_wp2_with fail
        go_round
        case rel => exact ⟨3, by omega, by go_num⟩
        case measure => simp [intOf]
      · go_wp2_with fail
        go_ret
        exact ⟨rfl, rfl⟩
  · have o2 : ¬ op < 44 := fun e => h ⟨a1, b1, c1, o1, e⟩
    have o3 : decide (op < 44) = false := by simpa using o2
    clear h o2
    go_enter Try.func92, Try.ntmps92
    go_wp2_with fail
    go_loop [12] (fun s12 => ∃ k : Nat, k ≤ 3 ∧ s12 = .int .i64 k) (fun s12 => 3 - (intOf s12).toNat)
    case atStart => exact ⟨0, by omega, rfl⟩
    case round =>
      obtain ⟨k, hk, rfl⟩ := hrel
      rcases (by omega : k = 0 ∨ k = 1 ∨ k = 2 ∨ k = 3) with rfl | rfl | rfl | rfl
      · go_wp2_with fail
        go_round
        case rel => exact ⟨1, by omega, by go_num⟩
        case measure => simp [intOf]
      · go_wp2_with fail
        go_round
        case rel => exact ⟨2, by omega, by go_num⟩
        case measure => simp [intOf]
      · go_wp2_with fail
        go_round
        case rel => exact ⟨3, by omega, by go_num⟩
        case measure => simp [intOf]
      · go_wp2_with fail
        go_ret
        exact ⟨rfl, rfl⟩
/-- four bytes' number, with a sign -/
def immOf (a b c d : Int) : Int := wrap32 (bits .or .u32 (bits .or .u32 (bits .or .u32 (a * 16777216) (b * 65536)) (c * 256)) d)
theorem immOf_bd (a b c d : Int) : -2147483648 ≤ immOf a b c d ∧ immOf a b c d ≤ 2147483647 := by unfold immOf wrap32; omega
/-- eight bytes in a block -/
structure Eight (W : World) (b : Nat) (y : Nat → Int) : Prop where
  c : ∀ i, i < 8 → W.cell? ⟨b, i, none⟩ = some (.int .u8 (y i))
  r : ∀ i, 0 ≤ y i ∧ y i ≤ 255

set_option maxRecDepth 100000 in
set_option maxHeartbeats 4000000 in
theorem decode_yes (W : World) (b : Nat) (y : Nat → Int) (h : Eight W b y) (hr : Rightly (y 0) (y 1) (y 2) (y 3)) :
    Calls Try.prog 82 #[.slice (some ⟨b, 0, none⟩) 8 8] W fun e w' => e = .returned (.tuple #[ins (y 0) (y 1) (y 2) (y 3) (immOf (y 4) (y 5) (y 6) (y 7)), .bool true]) ∧ Below W.heap.size W w' := by
  have c0 := h.c 0 (by omega)
  have c1 := h.c 1 (by omega)
  have c2 := h.c 2 (by omega)
  have c3 := h.c 3 (by omega)
  have c4 := h.c 4 (by omega)
  have c5 := h.c 5 (by omega)
  have c6 := h.c 6 (by omega)
  have c7 := h.c 7 (by omega)
  obtain ⟨r0, s0⟩ := h.r 0
  obtain ⟨r1, s1⟩ := h.r 1
  obtain ⟨r2, s2⟩ := h.r 2
  obtain ⟨r3, s3⟩ := h.r 3
  obtain ⟨r4, s4⟩ := h.r 4
  obtain ⟨r5, s5⟩ := h.r 5
  obtain ⟨r6, s6⟩ := h.r 6
  obtain ⟨r7, s7⟩ := h.r 7
  generalize y 0 = y0 at *
  generalize y 1 = y1 at *
  generalize y 2 = y2 at *
  generalize y 3 = y3 at *
  generalize y 4 = y4 at *
  generalize y 5 = y5 at *
  generalize y 6 = y6 at *
  generalize y 7 = y7 at *
  have HRT := Lib.hid hr
  have w0 : IntKind.i64.wrap y0 = y0 := by rw [IntKind.wrap_i64]; omega
  have w1 : IntKind.i64.wrap y1 = y1 := by rw [IntKind.wrap_i64]; omega
  have w2 : IntKind.i64.wrap y2 = y2 := by rw [IntKind.wrap_i64]; omega
  have w3 : IntKind.i64.wrap y3 = y3 := by rw [IntKind.wrap_i64]; omega
  have w4 : IntKind.u32.wrap y4 = y4 := by rw [IntKind.wrap_u32]; omega
  have w5 : IntKind.u32.wrap y5 = y5 := by rw [IntKind.wrap_u32]; omega
  have w6 : IntKind.u32.wrap y6 = y6 := by rw [IntKind.wrap_u32]; omega
  have w7 : IntKind.u32.wrap y7 = y7 := by rw [IntKind.wrap_u32]; omega
  obtain ⟨q4, e4⟩ : ∃ q, y4 * 16777216 = q := ⟨_, rfl⟩
  obtain ⟨q5, e5⟩ : ∃ q, y5 * 65536 = q := ⟨_, rfl⟩
  obtain ⟨q6, e6⟩ : ∃ q, y6 * 256 = q := ⟨_, rfl⟩
  have v4 : IntKind.u32.wrap q4 = q4 := by rw [IntKind.wrap_u32]; omega
  have v5 : IntKind.u32.wrap q5 = q5 := by rw [IntKind.wrap_u32]; omega
  have v6 : IntKind.u32.wrap q6 = q6 := by rw [IntKind.wrap_u32]; omega
  obtain ⟨o1, f1⟩ : ∃ q, bits .or .u32 q4 q5 = q := ⟨_, rfl⟩
  obtain ⟨o2, f2⟩ : ∃ q, bits .or .u32 o1 q6 = q := ⟨_, rfl⟩
  obtain ⟨o3, f3⟩ : ∃ q, bits .or .u32 o2 y7 = q := ⟨_, rfl⟩
  obtain ⟨imm, f4⟩ : ∃ q, wrap32 o3 = q := ⟨_, rfl⟩
  have him : immOf y4 y5 y6 y7 = imm := by unfold immOf; rw [e4, e5, e6, f1, f2, f3, f4]
  rw [him]
  clear h hr him
  go_enter Try.func82, Try.ntmps82
  go_wp2_with fail
  go_region_held3 (fun w' => w'.cell? ⟨b, 0, none⟩ = some (.int .u8 y0) ∧ w'.cell? ⟨b, 1, none⟩ = some (.int .u8 y1) ∧ w'.cell? ⟨b, 2, none⟩ = some (.int .u8 y2) ∧ w'.cell? ⟨b, 3, none⟩ = some (.int .u8 y3) ∧ w'.cell? ⟨b, 4, none⟩ = some (.int .u8 y4) ∧ w'.cell? ⟨b, 5, none⟩ = some (.int .u8 y5) ∧ w'.cell? ⟨b, 6, none⟩ = some (.int .u8 y6) ∧ w'.cell? ⟨b, 7, none⟩ = some (.int .u8 y7)) (go_keep) (fail)
  go_wp2_with fail
  refine (right_yes y0 y1 y2 y3 imm r1 r2 r3 HRT.out _).mono ?_
  rintro e w' ⟨rfl, rfl⟩
  go_wp2_with fail
  refine bodyPost_ret (v := .tuple #[ins y0 y1 y2 y3 imm, .bool true]) (by simp [results, Try.f82, ins, go_sem]) rfl ⟨rfl, ?_⟩
  exact (((Below.refl _ W).alloc (Nat.le_refl _) _).alloc (by simp) _).drew.alloc (by simp; omega) _
end Go.Proofs.Ytelgmffmekfndaa
