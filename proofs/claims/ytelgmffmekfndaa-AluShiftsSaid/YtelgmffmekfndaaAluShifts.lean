/- The walk of the law AluShifts: the law returns true at every two words and changes nothing that existed. Condition: the words fit 64 bits. -/
import Derived.Test.YtelgmffmekfndaaAluLaws
import Derived.Test.YtelgmffmekfndaaAluFit
import Derived.Deep.LoopGhost
set_option linter.unusedVariables false
namespace Go.Proofs.Ytelgmffmekfndaa
open Go.ChangeShapes Go.WideShapes Go.ChangeAt Go.RowKit

theorem sdo_any (op x y v : Int) (ok : Bool) (h : ∀ w, Calls Try.prog 50 #[.int .i64 op, .int .u64 x, .int .u64 y] w fun e w' => e = .returned (.tuple #[.int .u64 v, .bool ok]) ∧ w = w') (w : World) :
    Calls Try.prog 53 #[.int .i64 op, .int .u64 x, .int .u64 y] w fun e w' => e = .returned (.int .u64 v) ∧ w = w' := by
  go_enter Try.func53, Try.ntmps53
  go_wp2_with fail
  refine (h _).mono ?_
  rintro e w1 ⟨rfl, rfl⟩
  go_wp2_with fail
  go_ret
  exact ⟨rfl, rfl⟩

theorem shifts_all (a : Int) (a0 : 0 ≤ a) (a1 : a < 18446744073709551616) : ∃ X Y Z : Nat → Int, Alu.Shifts a X Y Z ∧ ∀ n : Nat, IntKind.u64.wrap (a * 2 ^ n) = X n ∧ a / 2 ^ n = Y n ∧ IntKind.u64.wrap (wrap64 a / 2 ^ n) = Z n :=
  ⟨_, _, _, Alu.shifts a a0 a1, fun n => ⟨rfl, rfl, rfl⟩⟩

/-- after k rounds -/
def OneRel (X : Nat → Int) (n : Int) (s7 s16 : Value) : Prop := ∃ k : Nat, (k : Int) ≤ n ∧ s7 = .int .u64 (X k) ∧ s16 = .int .u64 k
def TwoRel (Y Z : Nat → Int) (n : Int) (s8 s9 s16 : Value) : Prop := ∃ k : Nat, (k : Int) ≤ n ∧ s8 = .int .u64 (Y k) ∧ s9 = .int .u64 (Z k) ∧ s16 = .int .u64 k

set_option maxHeartbeats 1000000 in
theorem lawShifts (a b : Int) (a0 : 0 ≤ a) (a1 : a < 18446744073709551616) (b0 : 0 ≤ b) (b1 : b < 18446744073709551616) (w : World) :
    Calls Try.prog 13 #[.int .u64 a, .int .u64 b] w fun e w' => e = .returned (.bool true) ∧ Below w.heap.size w w' := by
  have hn := Alu.low6 b b0 b1
  have f1 := reck12 a b a0 a1 b0 b1
  have f2 := reck13 a b a0 a1 b0 b1
  have f3 := reck14 a b a0 a1 b0 b1
  generalize hnn : b % 64 = n at hn f1 f2 f3
  have n0 : 0 ≤ n ∧ n < 64 := by omega
  obtain ⟨X, Y, Z, ⟨x0, y0, z0, xb, yb, zb, x1, y1, z1⟩, hE⟩ := shifts_all a a0 a1
  have f6 := reck13 (X n.toNat) n (xb n.toNat).1 (xb n.toNat).2 n0.1 (by omega)
  have hq := Alu.back_forth a a0 a1 n.toNat (by omega)
  have f5 := reck12 a n a0 a1 n0.1 (by omega)
  have en : n % 64 = n := by omega
  rw [en] at f5 f6
  rw [(hE n.toNat).1] at hq f1 f5
  rw [(hE n.toNat).2.1] at f2
  rw [(hE n.toNat).2.2] at f3
  rw [hq] at f6
  have hm : ∃ M, bits .and .u64 a (18446744073709551615 / 2 ^ n.toNat) = M := ⟨_, rfl⟩
  obtain ⟨M, hM⟩ := hm
  rw [hM] at f6
  clear hq
  have f7 := reck12 a 1 a0 a1 (by omega) (by omega)
  have f8 := reck4 a a a0 a1 a0 a1
  have f9 := reck12 a 64 a0 a1 (by omega) (by omega)
  have e8 : IntKind.u64.wrap (a * 2 ^ ((1 : Int) % 64).toNat) = IntKind.u64.wrap (a + a) := by rw [Alu.pow_one_int]; congr 1; omega
  have e9 : IntKind.u64.wrap (a * 2 ^ ((64 : Int) % 64).toNat) = a := by
    rw [show (2 : Int) ^ ((64 : Int) % 64).toNat = 1 by decide, Int.mul_one]; exact Alu.u64_id a0 a1
  rw [e8] at f7
  rw [e9] at f9
  clear e8 e9
  clear hE
  generalize IntKind.u64.wrap (a + a) = S at *
  have s1 : ∀ k : Nat, _ := fun k => sdo_any _ _ _ _ _ (reck12 (X k) 1 (xb k).1 (xb k).2 (by omega) (by omega))
  have s2 : ∀ k : Nat, _ := fun k => sdo_any _ _ _ _ _ (reck13 (Y k) 1 (yb k).1 (yb k).2 (by omega) (by omega))
  have s3 : ∀ k : Nat, _ := fun k => sdo_any _ _ _ _ _ (reck14 (Z k) 1 (zb k).1 (zb k).2 (by omega) (by omega))
  simp only [x1] at s1
  simp only [y1] at s2
  simp only [z1] at s3
  have S1 := Lib.hid s1
  have S2 := Lib.hid s2
  have S3 := Lib.hid s3
  have F1 := Lib.hid (sdo_any _ _ _ _ _ f1)
  have F2 := Lib.hid (sdo_any _ _ _ _ _ f2)
  have F3 := Lib.hid (sdo_any _ _ _ _ _ f3)
  have F5 := Lib.hid (sdo_any _ _ _ _ _ f5)
  have F6 := Lib.hid (sdo_any _ _ _ _ _ f6)
  have F7 := Lib.hid (sdo_any _ _ _ _ _ f7)
  have F8 := Lib.hid (sdo_any _ _ _ _ _ f8)
  have F9 := Lib.hid (sdo_any _ _ _ _ _ f9)
  have X0 := Lib.hid x0
  have Y0 := Lib.hid y0
  have Z0 := Lib.hid z0
  clear s1 s2 s3 f1 f2 f3 f5 f6 f7 f8 f9 x0 y0 z0 x1 y1 z1 xb yb zb hnn en
  go_enter Try.func13, Try.ntmps13
  go_wp2_with fail
  refine (afit_any _).mono ?_
  rintro e w1 ⟨rfl, hb1⟩
  go_wp2_with fail
  go_loop [7, 16] (fun s7 s16 => OneRel X n s7 s16) (fun _ s16 => 64 - (intOf s16).toNat)
  case atStart => exact ⟨0, by omega, by rw [X0.out], rfl⟩
  case round =>
    obtain ⟨k, k0, rfl, rfl⟩ := hrel
    by_cases hk : (k : Int) < n
    · go_wp2_with fail
      refine (S1.out k _).mono ?_
      rintro e w2 ⟨rfl, rfl⟩
      go_wp2_with fail
      go_round
      case rel => exact ⟨k + 1, by omega, rfl, rfl⟩
      case measure => simp [intOf]; omega
    · obtain rfl : (k : Int) = n := by omega
      go_wp2_with fail
      go_loop [8, 9, 25] (fun s8 s9 s25 => TwoRel Y Z k s8 s9 s25) (fun _ _ s25 => 64 - (intOf s25).toNat)
      case atStart => exact ⟨0, by omega, by rw [Y0.out], by rw [Z0.out], rfl⟩
      case round =>
        obtain ⟨j, j0, rfl, rfl, rfl⟩ := hrel
        by_cases hj : (j : Int) < k
        · go_wp2_with fail
          refine (S2.out j _).mono ?_
          rintro e w2 ⟨rfl, rfl⟩
          go_wp2_with fail
          refine (S3.out j _).mono ?_
          rintro e w2 ⟨rfl, rfl⟩
          go_wp2_with fail
          go_round
          case rel => exact ⟨j + 1, by omega, rfl, rfl, rfl⟩
          case measure => simp [intOf]; omega
        · obtain rfl : j = k := by omega
          rw [Int.toNat_natCast] at F1 F2 F3 F5 F6 hM
          go_wp2_with fail
          refine (F1.out _).mono ?_
          rintro e w2 ⟨rfl, rfl⟩
          go_wp2_with fail
          refine (F2.out _).mono ?_
          rintro e w2 ⟨rfl, rfl⟩
          go_wp2_with fail
          refine (F3.out _).mono ?_
          rintro e w2 ⟨rfl, rfl⟩
          go_wp2_with fail
          refine (F7.out _).mono ?_
          rintro e w2 ⟨rfl, rfl⟩
          go_wp2_with fail
          refine (F8.out _).mono ?_
          rintro e w2 ⟨rfl, rfl⟩
          go_wp2_with fail
          refine (F9.out _).mono ?_
          rintro e w2 ⟨rfl, rfl⟩
          go_wp2_with fail
          refine (F5.out _).mono ?_
          rintro e w2 ⟨rfl, rfl⟩
          go_wp2_with fail
          refine (F6.out _).mono ?_
          rintro e w2 ⟨rfl, rfl⟩
          go_wp2_with fail
          go_ret
          exact ⟨rfl, hb1⟩
end Go.Proofs.Ytelgmffmekfndaa
