/- The document's Decode, Need and Low. Conditions: as each theorem names them. -/
import Derived.Test.YtelgmffmekfndaaCoreArithG
import Derived.Test.YtelgmffmekfndaaCoreDecodeBG
import Derived.Test.YtelgmffmekfndaaCoreOnesG
import Derived.BigRegion
set_option linter.unusedVariables false
namespace Go.Proofs.Ytelgmffmekfndaa
open Go.ChangeShapes Go.WideShapes Go.ChangeAt Go.RowKit

set_option maxRecDepth 100000 in
set_option maxHeartbeats 4000000 in
theorem rdecode_yes (x : Int) (x0 : 0 ≤ x) (x1 : x < 18446744073709551616) (y0 y1 y2 y3 imm : Int) (e0 : stb x 8 0 = y0) (e1 : stb x 8 1 = y1) (e2 : stb x 8 2 = y2) (e3 : stb x 8 3 = y3) (e4 : wrap32 (IntKind.u32.wrap x) = imm) (hr : Rightly y0 y1 y2 y3) (w : World) :
    Calls Try.prog 85 #[.int .u64 x] w fun e w' => e = .returned (.tuple #[ins y0 y1 y2 y3 imm, .bool true]) ∧ Below w.heap.size w w' := by
  have b0 := stb_bd x 8 0
  have b1 := stb_bd x 8 1
  have b2 := stb_bd x 8 2
  have b3 := stb_bd x 8 3
  obtain ⟨q0, hq0⟩ : ∃ q, x / 72057594037927936 = q := ⟨_, rfl⟩
  obtain ⟨q1, hq1⟩ : ∃ q, x / 281474976710656 = q := ⟨_, rfl⟩
  obtain ⟨q2, hq2⟩ : ∃ q, x / 1099511627776 = q := ⟨_, rfl⟩
  obtain ⟨q3, hq3⟩ : ∃ q, x / 4294967296 = q := ⟨_, rfl⟩
  have h0 : q0 = y0 := by rw [← e0, ← hq0]; unfold stb; simp only [Nat.reduceSub, Nat.reduceMul]; omega
  have h1 : bits .and .u64 q1 255 = y1 := by rw [low1 q1 (by omega) (by omega), ← e1, ← hq1]; rfl
  have h2 : bits .and .u64 q2 255 = y2 := by rw [low1 q2 (by omega) (by omega), ← e2, ← hq2]; rfl
  have h3 : bits .and .u64 q3 255 = y3 := by rw [low1 q3 (by omega) (by omega), ← e3, ← hq3]; rfl
  rw [h0] at hq0
  clear h0
  rw [e0] at b0
  rw [e1] at b1
  rw [e2] at b2
  rw [e3] at b3
  have w0 : IntKind.i64.wrap y0 = y0 := by rw [IntKind.wrap_i64]; omega
  have w1 : IntKind.i64.wrap y1 = y1 := by rw [IntKind.wrap_i64]; omega
  have w2 : IntKind.i64.wrap y2 = y2 := by rw [IntKind.wrap_i64]; omega
  have w3 : IntKind.i64.wrap y3 = y3 := by rw [IntKind.wrap_i64]; omega
  obtain ⟨u, hu⟩ : ∃ u, IntKind.u32.wrap x = u := ⟨_, rfl⟩
  rw [hu] at e4
  clear e0 e1 e2 e3
  obtain ⟨a1, a2, a3, a4, a5⟩ := hr
  have t0 : decide (1 ≤ y0) = true := by simpa using a4
  have t1 : decide (y0 ≤ 43) = true := by simp; omega
  have t2 : decide (y1 < 16) = true := by simpa using a1
  have t3 : decide (y2 < 16) = true := by simpa using a2
  have t4 : decide (y3 < 16) = true := by simpa using a3
  go_enter Try.func85, Try.ntmps85
  go_wp2_with fail
  go_region_held3 (fun w' => w'.cell? ⟨w.heap.size + 1, 0, none⟩ = some (.int .i64 y0) ∧ w'.cell? ⟨w.heap.size + 1, 1, none⟩ = some (.int .i64 y1) ∧ w'.cell? ⟨w.heap.size + 1, 2, none⟩ = some (.int .i64 y2) ∧ w'.cell? ⟨w.heap.size + 1, 3, none⟩ = some (.int .i64 y3) ∧ w'.cell? ⟨w.heap.size + 1, 4, none⟩ = some (.int .i32 imm)) (go_keep) (fail)
  go_wp2_with fail
  refine bodyPost_ret (v := .tuple #[ins y0 y1 y2 y3 imm, .bool true]) (by simp [results, Try.f85, ins, go_sem]) rfl ⟨rfl, ?_⟩
  exact (((Below.refl _ w).alloc (Nat.le_refl _) _).alloc (by simp) _).drew
set_option maxRecDepth 100000 in
set_option maxHeartbeats 4000000 in
theorem rdecode_no0 (x : Int) (x0 : 0 ≤ x) (x1 : x < 18446744073709551616) (y0 y1 y2 y3 imm : Int) (e0 : stb x 8 0 = y0) (e1 : stb x 8 1 = y1) (e2 : stb x 8 2 = y2) (e3 : stb x 8 3 = y3) (e4 : wrap32 (IntKind.u32.wrap x) = imm) (p0 : ¬ 1 ≤ y0) (w : World) :
    Calls Try.prog 85 #[.int .u64 x] w fun e w' => e = .returned (.tuple #[ins y0 y1 y2 y3 imm, .bool false]) ∧ Below w.heap.size w w' := by
  have b0 := stb_bd x 8 0
  have b1 := stb_bd x 8 1
  have b2 := stb_bd x 8 2
  have b3 := stb_bd x 8 3
  obtain ⟨q0, hq0⟩ : ∃ q, x / 72057594037927936 = q := ⟨_, rfl⟩
  obtain ⟨q1, hq1⟩ : ∃ q, x / 281474976710656 = q := ⟨_, rfl⟩
  obtain ⟨q2, hq2⟩ : ∃ q, x / 1099511627776 = q := ⟨_, rfl⟩
  obtain ⟨q3, hq3⟩ : ∃ q, x / 4294967296 = q := ⟨_, rfl⟩
  have h0 : q0 = y0 := by rw [← e0, ← hq0]; unfold stb; simp only [Nat.reduceSub, Nat.reduceMul]; omega
  have h1 : bits .and .u64 q1 255 = y1 := by rw [low1 q1 (by omega) (by omega), ← e1, ← hq1]; rfl
  have h2 : bits .and .u64 q2 255 = y2 := by rw [low1 q2 (by omega) (by omega), ← e2, ← hq2]; rfl
  have h3 : bits .and .u64 q3 255 = y3 := by rw [low1 q3 (by omega) (by omega), ← e3, ← hq3]; rfl
  rw [h0] at hq0
  clear h0
  rw [e0] at b0
  rw [e1] at b1
  rw [e2] at b2
  rw [e3] at b3
  have w0 : IntKind.i64.wrap y0 = y0 := by rw [IntKind.wrap_i64]; omega
  have w1 : IntKind.i64.wrap y1 = y1 := by rw [IntKind.wrap_i64]; omega
  have w2 : IntKind.i64.wrap y2 = y2 := by rw [IntKind.wrap_i64]; omega
  have w3 : IntKind.i64.wrap y3 = y3 := by rw [IntKind.wrap_i64]; omega
  obtain ⟨u, hu⟩ : ∃ u, IntKind.u32.wrap x = u := ⟨_, rfl⟩
  rw [hu] at e4
  clear e0 e1 e2 e3
  have t0 : decide (1 ≤ y0) = false := by simp; omega
  clear p0
  go_enter Try.func85, Try.ntmps85
  go_wp2_with fail
  go_region
  go_wp2_with fail
  refine bodyPost_ret (v := .tuple #[ins y0 y1 y2 y3 imm, .bool false]) (by simp [results, Try.f85, ins, go_sem]) rfl ⟨rfl, ?_⟩
  exact (((Below.refl _ w).alloc (Nat.le_refl _) _).alloc (by simp) _).drew
set_option maxRecDepth 100000 in
set_option maxHeartbeats 4000000 in
theorem rdecode_no1 (x : Int) (x0 : 0 ≤ x) (x1 : x < 18446744073709551616) (y0 y1 y2 y3 imm : Int) (e0 : stb x 8 0 = y0) (e1 : stb x 8 1 = y1) (e2 : stb x 8 2 = y2) (e3 : stb x 8 3 = y3) (e4 : wrap32 (IntKind.u32.wrap x) = imm) (p0 : 1 ≤ y0) (p1 : ¬ y0 < 44) (w : World) :
    Calls Try.prog 85 #[.int .u64 x] w fun e w' => e = .returned (.tuple #[ins y0 y1 y2 y3 imm, .bool false]) ∧ Below w.heap.size w w' := by
  have b0 := stb_bd x 8 0
  have b1 := stb_bd x 8 1
  have b2 := stb_bd x 8 2
  have b3 := stb_bd x 8 3
  obtain ⟨q0, hq0⟩ : ∃ q, x / 72057594037927936 = q := ⟨_, rfl⟩
  obtain ⟨q1, hq1⟩ : ∃ q, x / 281474976710656 = q := ⟨_, rfl⟩
  obtain ⟨q2, hq2⟩ : ∃ q, x / 1099511627776 = q := ⟨_, rfl⟩
  obtain ⟨q3, hq3⟩ : ∃ q, x / 4294967296 = q := ⟨_, rfl⟩
  have h0 : q0 = y0 := by rw [← e0, ← hq0]; unfold stb; simp only [Nat.reduceSub, Nat.reduceMul]; omega
  have h1 : bits .and .u64 q1 255 = y1 := by rw [low1 q1 (by omega) (by omega), ← e1, ← hq1]; rfl
  have h2 : bits .and .u64 q2 255 = y2 := by rw [low1 q2 (by omega) (by omega), ← e2, ← hq2]; rfl
  have h3 : bits .and .u64 q3 255 = y3 := by rw [low1 q3 (by omega) (by omega), ← e3, ← hq3]; rfl
  rw [h0] at hq0
  clear h0
  rw [e0] at b0
  rw [e1] at b1
  rw [e2] at b2
  rw [e3] at b3
  have w0 : IntKind.i64.wrap y0 = y0 := by rw [IntKind.wrap_i64]; omega
  have w1 : IntKind.i64.wrap y1 = y1 := by rw [IntKind.wrap_i64]; omega
  have w2 : IntKind.i64.wrap y2 = y2 := by rw [IntKind.wrap_i64]; omega
  have w3 : IntKind.i64.wrap y3 = y3 := by rw [IntKind.wrap_i64]; omega
  obtain ⟨u, hu⟩ : ∃ u, IntKind.u32.wrap x = u := ⟨_, rfl⟩
  rw [hu] at e4
  clear e0 e1 e2 e3
  have t0 : decide (1 ≤ y0) = true := by simp; omega
  have t1 : decide (y0 ≤ 43) = false := by simp; omega
  clear p1
  go_enter Try.func85, Try.ntmps85
  go_wp2_with fail
  go_region
  go_wp2_with fail
  refine bodyPost_ret (v := .tuple #[ins y0 y1 y2 y3 imm, .bool false]) (by simp [results, Try.f85, ins, go_sem]) rfl ⟨rfl, ?_⟩
  exact (((Below.refl _ w).alloc (Nat.le_refl _) _).alloc (by simp) _).drew
set_option maxRecDepth 100000 in
set_option maxHeartbeats 4000000 in
theorem rdecode_no2 (x : Int) (x0 : 0 ≤ x) (x1 : x < 18446744073709551616) (y0 y1 y2 y3 imm : Int) (e0 : stb x 8 0 = y0) (e1 : stb x 8 1 = y1) (e2 : stb x 8 2 = y2) (e3 : stb x 8 3 = y3) (e4 : wrap32 (IntKind.u32.wrap x) = imm) (p0 : 1 ≤ y0) (p1 : y0 < 44) (p2 : ¬ y1 < 16) (w : World) :
    Calls Try.prog 85 #[.int .u64 x] w fun e w' => e = .returned (.tuple #[ins y0 y1 y2 y3 imm, .bool false]) ∧ Below w.heap.size w w' := by
  have b0 := stb_bd x 8 0
  have b1 := stb_bd x 8 1
  have b2 := stb_bd x 8 2
  have b3 := stb_bd x 8 3
  obtain ⟨q0, hq0⟩ : ∃ q, x / 72057594037927936 = q := ⟨_, rfl⟩
  obtain ⟨q1, hq1⟩ : ∃ q, x / 281474976710656 = q := ⟨_, rfl⟩
  obtain ⟨q2, hq2⟩ : ∃ q, x / 1099511627776 = q := ⟨_, rfl⟩
  obtain ⟨q3, hq3⟩ : ∃ q, x / 4294967296 = q := ⟨_, rfl⟩
  have h0 : q0 = y0 := by rw [← e0, ← hq0]; unfold stb; simp only [Nat.reduceSub, Nat.reduceMul]; omega
  have h1 : bits .and .u64 q1 255 = y1 := by rw [low1 q1 (by omega) (by omega), ← e1, ← hq1]; rfl
  have h2 : bits .and .u64 q2 255 = y2 := by rw [low1 q2 (by omega) (by omega), ← e2, ← hq2]; rfl
  have h3 : bits .and .u64 q3 255 = y3 := by rw [low1 q3 (by omega) (by omega), ← e3, ← hq3]; rfl
  rw [h0] at hq0
  clear h0
  rw [e0] at b0
  rw [e1] at b1
  rw [e2] at b2
  rw [e3] at b3
  have w0 : IntKind.i64.wrap y0 = y0 := by rw [IntKind.wrap_i64]; omega
  have w1 : IntKind.i64.wrap y1 = y1 := by rw [IntKind.wrap_i64]; omega
  have w2 : IntKind.i64.wrap y2 = y2 := by rw [IntKind.wrap_i64]; omega
  have w3 : IntKind.i64.wrap y3 = y3 := by rw [IntKind.wrap_i64]; omega
  obtain ⟨u, hu⟩ : ∃ u, IntKind.u32.wrap x = u := ⟨_, rfl⟩
  rw [hu] at e4
  clear e0 e1 e2 e3
  have t0 : decide (1 ≤ y0) = true := by simp; omega
  have t1 : decide (y0 ≤ 43) = true := by simp; omega
  have t2 : decide (y1 < 16) = false := by simp; omega
  clear p2
  go_enter Try.func85, Try.ntmps85
  go_wp2_with fail
  go_region
  go_wp2_with fail
  refine bodyPost_ret (v := .tuple #[ins y0 y1 y2 y3 imm, .bool false]) (by simp [results, Try.f85, ins, go_sem]) rfl ⟨rfl, ?_⟩
  exact (((Below.refl _ w).alloc (Nat.le_refl _) _).alloc (by simp) _).drew
set_option maxRecDepth 100000 in
set_option maxHeartbeats 4000000 in
theorem rdecode_no3 (x : Int) (x0 : 0 ≤ x) (x1 : x < 18446744073709551616) (y0 y1 y2 y3 imm : Int) (e0 : stb x 8 0 = y0) (e1 : stb x 8 1 = y1) (e2 : stb x 8 2 = y2) (e3 : stb x 8 3 = y3) (e4 : wrap32 (IntKind.u32.wrap x) = imm) (p0 : 1 ≤ y0) (p1 : y0 < 44) (p2 : y1 < 16) (p3 : ¬ y2 < 16) (w : World) :
    Calls Try.prog 85 #[.int .u64 x] w fun e w' => e = .returned (.tuple #[ins y0 y1 y2 y3 imm, .bool false]) ∧ Below w.heap.size w w' := by
  have b0 := stb_bd x 8 0
  have b1 := stb_bd x 8 1
  have b2 := stb_bd x 8 2
  have b3 := stb_bd x 8 3
  obtain ⟨q0, hq0⟩ : ∃ q, x / 72057594037927936 = q := ⟨_, rfl⟩
  obtain ⟨q1, hq1⟩ : ∃ q, x / 281474976710656 = q := ⟨_, rfl⟩
  obtain ⟨q2, hq2⟩ : ∃ q, x / 1099511627776 = q := ⟨_, rfl⟩
  obtain ⟨q3, hq3⟩ : ∃ q, x / 4294967296 = q := ⟨_, rfl⟩
  have h0 : q0 = y0 := by rw [← e0, ← hq0]; unfold stb; simp only [Nat.reduceSub, Nat.reduceMul]; omega
  have h1 : bits .and .u64 q1 255 = y1 := by rw [low1 q1 (by omega) (by omega), ← e1, ← hq1]; rfl
  have h2 : bits .and .u64 q2 255 = y2 := by rw [low1 q2 (by omega) (by omega), ← e2, ← hq2]; rfl
  have h3 : bits .and .u64 q3 255 = y3 := by rw [low1 q3 (by omega) (by omega), ← e3, ← hq3]; rfl
  rw [h0] at hq0
  clear h0
  rw [e0] at b0
  rw [e1] at b1
  rw [e2] at b2
  rw [e3] at b3
  have w0 : IntKind.i64.wrap y0 = y0 := by rw [IntKind.wrap_i64]; omega
  have w1 : IntKind.i64.wrap y1 = y1 := by rw [IntKind.wrap_i64]; omega
  have w2 : IntKind.i64.wrap y2 = y2 := by rw [IntKind.wrap_i64]; omega
  have w3 : IntKind.i64.wrap y3 = y3 := by rw [IntKind.wrap_i64]; omega
  obtain ⟨u, hu⟩ : ∃ u, IntKind.u32.wrap x = u := ⟨_, rfl⟩
  rw [hu] at e4
  clear e0 e1 e2 e3
  have t0 : decide (1 ≤ y0) = true := by simp; omega
  have t1 : decide (y0 ≤ 43) = true := by simp; omega
  have t2 : decide (y1 < 16) = true := by simp; omega
  have t3 : decide (y2 < 16) = false := by simp; omega
  clear p3
  go_enter Try.func85, Try.ntmps85
  go_wp2_with fail
  go_region
  go_wp2_with fail
  refine bodyPost_ret (v := .tuple #[ins y0 y1 y2 y3 imm, .bool false]) (by simp [results, Try.f85, ins, go_sem]) rfl ⟨rfl, ?_⟩
  exact (((Below.refl _ w).alloc (Nat.le_refl _) _).alloc (by simp) _).drew
set_option maxRecDepth 100000 in
set_option maxHeartbeats 4000000 in
theorem rdecode_no4 (x : Int) (x0 : 0 ≤ x) (x1 : x < 18446744073709551616) (y0 y1 y2 y3 imm : Int) (e0 : stb x 8 0 = y0) (e1 : stb x 8 1 = y1) (e2 : stb x 8 2 = y2) (e3 : stb x 8 3 = y3) (e4 : wrap32 (IntKind.u32.wrap x) = imm) (p0 : 1 ≤ y0) (p1 : y0 < 44) (p2 : y1 < 16) (p3 : y2 < 16) (p4 : ¬ y3 < 16) (w : World) :
    Calls Try.prog 85 #[.int .u64 x] w fun e w' => e = .returned (.tuple #[ins y0 y1 y2 y3 imm, .bool false]) ∧ Below w.heap.size w w' := by
  have b0 := stb_bd x 8 0
  have b1 := stb_bd x 8 1
  have b2 := stb_bd x 8 2
  have b3 := stb_bd x 8 3
  obtain ⟨q0, hq0⟩ : ∃ q, x / 72057594037927936 = q := ⟨_, rfl⟩
  obtain ⟨q1, hq1⟩ : ∃ q, x / 281474976710656 = q := ⟨_, rfl⟩
  obtain ⟨q2, hq2⟩ : ∃ q, x / 1099511627776 = q := ⟨_, rfl⟩
  obtain ⟨q3, hq3⟩ : ∃ q, x / 4294967296 = q := ⟨_, rfl⟩
  have h0 : q0 = y0 := by rw [← e0, ← hq0]; unfold stb; simp only [Nat.reduceSub, Nat.reduceMul]; omega
  have h1 : bits .and .u64 q1 255 = y1 := by rw [low1 q1 (by omega) (by omega), ← e1, ← hq1]; rfl
  have h2 : bits .and .u64 q2 255 = y2 := by rw [low1 q2 (by omega) (by omega), ← e2, ← hq2]; rfl
  have h3 : bits .and .u64 q3 255 = y3 := by rw [low1 q3 (by omega) (by omega), ← e3, ← hq3]; rfl
  rw [h0] at hq0
  clear h0
  rw [e0] at b0
  rw [e1] at b1
  rw [e2] at b2
  rw [e3] at b3
  have w0 : IntKind.i64.wrap y0 = y0 := by rw [IntKind.wrap_i64]; omega
  have w1 : IntKind.i64.wrap y1 = y1 := by rw [IntKind.wrap_i64]; omega
  have w2 : IntKind.i64.wrap y2 = y2 := by rw [IntKind.wrap_i64]; omega
  have w3 : IntKind.i64.wrap y3 = y3 := by rw [IntKind.wrap_i64]; omega
  obtain ⟨u, hu⟩ : ∃ u, IntKind.u32.wrap x = u := ⟨_, rfl⟩
  rw [hu] at e4
  clear e0 e1 e2 e3
  have t0 : decide (1 ≤ y0) = true := by simp; omega
  have t1 : decide (y0 ≤ 43) = true := by simp; omega
  have t2 : decide (y1 < 16) = true := by simp; omega
  have t3 : decide (y2 < 16) = true := by simp; omega
  have t4 : decide (y3 < 16) = false := by simp; omega
  clear p4
  go_enter Try.func85, Try.ntmps85
  go_wp2_with fail
  go_region
  go_wp2_with fail
  refine bodyPost_ret (v := .tuple #[ins y0 y1 y2 y3 imm, .bool false]) (by simp [results, Try.f85, ins, go_sem]) rfl ⟨rfl, ?_⟩
  exact (((Below.refl _ w).alloc (Nat.le_refl _) _).alloc (by simp) _).drew
theorem rdecode_no (x : Int) (x0 : 0 ≤ x) (x1 : x < 18446744073709551616) (y0 y1 y2 y3 imm : Int) (e0 : stb x 8 0 = y0) (e1 : stb x 8 1 = y1) (e2 : stb x 8 2 = y2) (e3 : stb x 8 3 = y3) (e4 : wrap32 (IntKind.u32.wrap x) = imm) (hr : ¬ Rightly y0 y1 y2 y3) (w : World) :
    Calls Try.prog 85 #[.int .u64 x] w fun e w' => e = .returned (.tuple #[ins y0 y1 y2 y3 imm, .bool false]) ∧ Below w.heap.size w w' := by
  by_cases p0 : 1 ≤ y0
  · by_cases p1 : y0 < 44
    · by_cases p2 : y1 < 16
      · by_cases p3 : y2 < 16
        · by_cases p4 : y3 < 16
          · exact absurd ⟨p2, p3, p4, p0, p1⟩ hr
          · exact rdecode_no4 x x0 x1 y0 y1 y2 y3 imm e0 e1 e2 e3 e4 p0 p1 p2 p3 p4 w
        · exact rdecode_no3 x x0 x1 y0 y1 y2 y3 imm e0 e1 e2 e3 e4 p0 p1 p2 p3 w
      · exact rdecode_no2 x x0 x1 y0 y1 y2 y3 imm e0 e1 e2 e3 e4 p0 p1 p2 w
    · exact rdecode_no1 x x0 x1 y0 y1 y2 y3 imm e0 e1 e2 e3 e4 p0 p1 w
  · exact rdecode_no0 x x0 x1 y0 y1 y2 y3 imm e0 e1 e2 e3 e4 p0 w

theorem low_eight (x : Int) (w : World) : Calls Try.prog 88 #[.int .u64 x, .int .i64 8] w fun e w' => e = .returned (.int .u64 x) ∧ w = w' := by
  go_enter Try.func88, Try.ntmps88
  go_wp2_with fail
  go_ret
  exact ⟨rfl, rfl⟩
theorem low_four (x : Int) (x0 : 0 ≤ x) (w : World) : Calls Try.prog 88 #[.int .u64 x, .int .i64 4] w fun e w' => e = .returned (.int .u64 (x % 4294967296)) ∧ w = w' := by
  have h : x.tmod 4294967296 = x % 4294967296 := Int.tmod_eq_emod_of_nonneg x0
  go_enter Try.func88, Try.ntmps88
  go_wp2_with fail
  go_ret
  exact ⟨rfl, rfl⟩
theorem low_one (x : Int) (x0 : 0 ≤ x) (w : World) : Calls Try.prog 88 #[.int .u64 x, .int .i64 1] w fun e w' => e = .returned (.int .u64 (x % 256)) ∧ w = w' := by
  have h : x.tmod 256 = x % 256 := Int.tmod_eq_emod_of_nonneg x0
  go_enter Try.func88, Try.ntmps88
  go_wp2_with fail
  go_ret
  exact ⟨rfl, rfl⟩

set_option maxRecDepth 100000 in
set_option maxHeartbeats 2000000 in
theorem need_none {W : World} {c : Nat} {R : Nat → Int} {pc : Int} (h : CoreAt W c R pc) (op A B C imm : Int) (hw : ∀ w, Calls Try.prog 58 #[.int .i64 op] w fun e w' => e = .returned (.tuple #[.int .i64 0, .bool false]) ∧ w = w') :
    Calls Try.prog 86 #[.pointer (some ⟨c, 0, none⟩), .agg #[.int .i64 op, .int .i64 A, .int .i64 B, .int .i64 C, .int .i32 imm]] W fun e w' => e = .returned (.tuple #[.int .i64 0, .int .i64 0, .bool false, .bool true]) ∧ W.grownBy w' none := by
  clear h
  go_enter Try.func86, Try.ntmps86
  go_wp2_with fail
  refine (hw _).mono ?_
  rintro e w3 ⟨rfl, rfl⟩
  go_wp2_with fail
  refine bodyPost_ret (v := .tuple #[.int .i64 0, .int .i64 0, .bool false, .bool true]) (by simp [results, Try.results86, go_sem]) rfl ⟨rfl, ?_⟩
  exact ⟨rfl, rfl, rfl, by simp, fun k hk _ => Below.heap_alloc _ _ _ hk⟩
set_option maxRecDepth 100000 in
set_option maxHeartbeats 2000000 in
theorem need_place {W : World} {c : Nat} {R : Nat → Int} {pc : Int} (h : CoreAt W c R pc) (op A C imm : Int) (B : Nat) (hB : B < 16) (wd pl : Int) (st ok : Bool) (hwd : (wd == 0) = false) (hw : ∀ w, Calls Try.prog 58 #[.int .i64 op] w fun e w' => e = .returned (.tuple #[.int .i64 wd, .bool st]) ∧ w = w') (hp : ∀ w, Calls Try.prog 61 #[.int .u64 (R B), .int .i32 imm, .int .i64 wd] w fun e w' => e = .returned (.tuple #[.int .i64 pl, .bool ok]) ∧ w = w') :
    Calls Try.prog 86 #[.pointer (some ⟨c, 0, none⟩), .agg #[.int .i64 op, .int .i64 A, .int .i64 B, .int .i64 C, .int .i32 imm]] W fun e w' => e = .returned (.tuple #[.int .i64 pl, .int .i64 wd, .bool st, .bool ok]) ∧ W.grownBy w' none := by
  have HC := Lib.hid h
  have hB0 : (0 : Int) ≤ (B : Int) := by omega
  have hB1 : (B : Int) < 16 := by omega
  clear h
  go_enter Try.func86, Try.ntmps86
  go_wp2_with fail
  refine (hw _).mono ?_
  rintro e w3 ⟨rfl, rfl⟩
  have hg2 : W.grownBy ((W.alloc (insO op A B C imm))) none := ⟨rfl, rfl, rfl, by show W.heap.size ≤ (W.alloc (insO op A B C imm)).heap.size; simp, fun k hk _ => Below.heap_alloc _ _ _ hk⟩
  have hc2 := HC.out.grown hg2 (by simp)
  have x2 : ((W.alloc (insO op A B C imm))).cell? ⟨W.heap.size, 2, none⟩ = some (.int .i64 B) := by simp
  have x4 : ((W.alloc (insO op A B C imm))).cell? ⟨W.heap.size, 4, none⟩ = some (.int .i32 imm) := by simp
  generalize (W.alloc _) = w2 at *
  generalize W.heap.size = X at *
  have cB := hc2.r B hB
  have HG2 := Lib.hid hg2
  clear hc2 hg2
  go_wp2_with fail
  go_region_held3 (fun w' => w' = w2.drew) (first | rfl | assumption) (first | (go_at_call 61; refine (hp _).mono ?_; rintro e w4 ⟨rfl, rfl⟩) | fail)
  go_wp2_with fail
  refine bodyPost_ret (v := .tuple #[.int .i64 pl, .int .i64 wd, .bool st, .bool ok]) (by simp [results, Try.results86, go_sem]) rfl ⟨rfl, ?_⟩
  exact ⟨HG2.out.os, HG2.out.tape, HG2.out.output, HG2.out.size, HG2.out.block⟩
end Go.Proofs.Ytelgmffmekfndaa
