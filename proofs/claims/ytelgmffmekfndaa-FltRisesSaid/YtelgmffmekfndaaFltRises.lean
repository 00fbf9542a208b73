/- The walk of the law FltRises: the law returns true at every three words and changes nothing that existed. Condition: the words fit 64 bits. -/
import Derived.Test.YtelgmffmekfndaaFltRisesLaw
import Derived.Test.YtelgmffmekfndaaFltSign
import Derived.Test.YtelgmffmekfndaaFltOrd
import Derived.Test.YtelgmffmekfndaaFltProgB
set_option linter.unusedVariables false
namespace Go.Proofs.Ytelgmffmekfndaa
open Go.ChangeShapes Go.WideShapes Go.ChangeAt Go.RowKit
open Fl (numOf isN lessN upN)

theorem up_any (a b : Int) (a0 : 0 ≤ a) (a1 : a < 18446744073709551616) (b0 : 0 ≤ b) (b1 : b < 18446744073709551616) (w : World) :
    Calls Try.prog 46 #[.int .u64 a, .int .u64 b] w fun e w' => e = .returned (.bool (upN a.toNat b.toNat)) ∧ w = w' := by
  have ha := none_any a a0 a1
  have hb := none_any b b0 b1
  have hl := less_any b a b0 b1 a0 a1
  unfold upN
  generalize (!decide (isN a.toNat)) = N at *
  generalize (!decide (isN b.toNat)) = M at *
  generalize lessN b.toNat a.toNat = L at *
  have HA := Lib.hid ha
  have HB := Lib.hid hb
  have HL := Lib.hid hl
  clear ha hb hl
  go_enter Try.func46, Try.ntmps46
  go_wp2_with fail
  refine (HA.out _).mono ?_
  rintro e w1 ⟨rfl, rfl⟩
  cases N
  · go_wp2_with fail
    refine (HB.out _).mono ?_
    rintro e w1 ⟨rfl, rfl⟩
    cases M
    · go_wp2_with fail
      refine (HL.out _).mono ?_
      rintro e w1 ⟨rfl, rfl⟩
      cases L
      · go_wp2_with fail
        go_ret
        exact ⟨rfl, rfl⟩
      · go_wp2_with fail
        go_ret
        exact ⟨rfl, rfl⟩
    · go_wp2_with fail
      go_ret
      exact ⟨rfl, rfl⟩
  · go_wp2_with fail
    go_ret
    exact ⟨rfl, rfl⟩

theorem clear_top (a : Int) (a0 : 0 ≤ a) (a1 : a < 18446744073709551616) : bits .andNot .u64 a 9223372036854775808 = ((a.toNat % 2 ^ 63 : Nat) : Int) := by
  have e := u64_andNot a 9223372036854775808 a0 a1 (by omega) (by omega)
  rw [e, show (18446744073709551615 - (9223372036854775808 : Int).toNat : Nat) = 2 ^ 63 - 1 by rfl, Nat.and_two_pow_sub_one_eq_mod]

theorem num_bd {o : Option Nat} (h : ∀ r, o = some r → r < 2 ^ 64 ∧ r % 2 ^ 63 ≤ 2047 * 2 ^ 52) : ((numOf o : Nat) : Int) < 18446744073709551616 := by
  cases o with
  | none => decide
  | some r => have := (h r rfl).1; show (r : Int) < _; omega

theorem up_at {o o' : Option Nat} (h : ∀ r, o = some r → r < 2 ^ 64 ∧ r % 2 ^ 63 ≤ 2047 * 2 ^ 52) (h' : ∀ r, o' = some r → r < 2 ^ 64 ∧ r % 2 ^ 63 ≤ 2047 * 2 ^ 52) (hu : upN (numOf o) (numOf o') = true) (w : World) :
    Calls Try.prog 46 #[.int .u64 (numOf o : Nat), .int .u64 (numOf o' : Nat)] w fun e w' => e = .returned (.bool true) ∧ w = w' := by
  have := up_any _ _ (Int.natCast_nonneg _) (num_bd h) (Int.natCast_nonneg _) (num_bd h') w
  rw [Int.toNat_natCast, Int.toNat_natCast, hu] at this
  exact this

set_option maxHeartbeats 1000000 in
theorem lawRises (a b c : Int) (a0 : 0 ≤ a) (a1 : a < 18446744073709551616) (b0 : 0 ≤ b) (b1 : b < 18446744073709551616) (c0 : 0 ≤ c) (c1 : c < 18446744073709551616) (w : World) :
    Calls Try.prog 9 #[.int .u64 a, .int .u64 b, .int .u64 c] w fun e w' => e = .returned (.bool true) ∧ Below w.heap.size w w' := by
  have hl := less_any a b a0 a1 b0 b1
  cases hlt : lessN a.toNat b.toNat
  · rw [hlt] at hl
    go_enter Try.func9, Try.ntmps9
    go_wp2_with fail
    refine (fit_any _).mono ?_
    rintro e w1 ⟨rfl, hb1⟩
    go_wp2_with fail
    refine (hl _).mono ?_
    rintro e w2 ⟨rfl, rfl⟩
    go_wp2_with fail
    go_ret
    exact ⟨rfl, hb1⟩
  · rw [hlt] at hl
    have la : a.toNat < 2 ^ 64 := by omega
    have lb : b.toNat < 2 ^ 64 := by omega
    have lc : c.toNat < 2 ^ 64 := by omega
    have hd := abs_any c _ (clear_top c c0 c1)
    have d1 : ((c.toNat % 2 ^ 63 : Nat) : Int) < 18446744073709551616 := by omega
    have dn : c.toNat % 2 ^ 63 < 2 ^ 63 := Nat.mod_lt _ (by decide)
    have s1 := add_any a c a0 a1 c0 c1
    have s2 := add_any b c b0 b1 c0 c1
    have m1 := mul_any a _ a0 a1 (Int.natCast_nonneg _) d1
    have m2 := mul_any b _ b0 b1 (Int.natCast_nonneg _) d1
    have q1 := div_any a _ a0 a1 (Int.natCast_nonneg _) d1
    have q2 := div_any b _ b0 b1 (Int.natCast_nonneg _) d1
    have r1 := sqrt_any a a0 a1
    have r2 := sqrt_any b b0 b1
    have t1 := sub_any c b c0 c1 b0 b1
    have t2 := sub_any c a c0 c1 a0 a1
    rw [Int.toNat_natCast] at m1 m2 q1 q2
    have u1 := up_at (fun r => Fl.add_bd) (fun r => Fl.add_bd) (Fl.up_add c.toNat la lb hlt)
    have u2 := up_at (fun r => Fl.mul_bd) (fun r => Fl.mul_bd) (Fl.up_mul dn la lb hlt)
    have u3 := up_at (fun r => Fl.div_bd) (fun r => Fl.div_bd) (Fl.up_div dn la lb hlt)
    have u4 := up_at (fun r => Fl.sqrt_bd) (fun r => Fl.sqrt_bd) (Fl.up_sqrt la lb hlt)
    have u5 := up_at (fun r => Fl.sub_bd) (fun r => Fl.sub_bd) (Fl.up_sub c.toNat la lb hlt)
    generalize ((c.toNat % 2 ^ 63 : Nat) : Int) = D at hd m1 m2 q1 q2
    generalize ((numOf (Ieee.double.add a.toNat c.toNat) : Nat) : Int) = S1 at s1 u1
    generalize ((numOf (Ieee.double.add b.toNat c.toNat) : Nat) : Int) = S2 at s2 u1
    generalize ((numOf (Ieee.double.mul a.toNat (c.toNat % 2 ^ 63)) : Nat) : Int) = M1 at m1 u2
    generalize ((numOf (Ieee.double.mul b.toNat (c.toNat % 2 ^ 63)) : Nat) : Int) = M2 at m2 u2
    generalize ((numOf (Ieee.double.div a.toNat (c.toNat % 2 ^ 63)) : Nat) : Int) = Q1 at q1 u3
    generalize ((numOf (Ieee.double.div b.toNat (c.toNat % 2 ^ 63)) : Nat) : Int) = Q2 at q2 u3
    generalize ((numOf (Ieee.double.sqrt a.toNat) : Nat) : Int) = R1 at r1 u4
    generalize ((numOf (Ieee.double.sqrt b.toNat) : Nat) : Int) = R2 at r2 u4
    generalize ((numOf (Ieee.double.sub c.toNat b.toNat) : Nat) : Int) = T1 at t1 u5
    generalize ((numOf (Ieee.double.sub c.toNat a.toNat) : Nat) : Int) = T2 at t2 u5
    clear hlt la lb lc d1 dn
    have HL := Lib.hid hl
    have HD := Lib.hid hd
    have S1' := Lib.hid s1
    have S2' := Lib.hid s2
    have M1' := Lib.hid m1
    have M2' := Lib.hid m2
    have Q1' := Lib.hid q1
    have Q2' := Lib.hid q2
    have R1' := Lib.hid r1
    have R2' := Lib.hid r2
    have T1' := Lib.hid t1
    have T2' := Lib.hid t2
    have U1 := Lib.hid u1
    have U2 := Lib.hid u2
    have U3 := Lib.hid u3
    have U4 := Lib.hid u4
    have U5 := Lib.hid u5
    clear hl hd s1 s2 m1 m2 q1 q2 r1 r2 t1 t2 u1 u2 u3 u4 u5
    go_enter Try.func9, Try.ntmps9
    go_wp2_with fail
    refine (fit_any _).mono ?_
    rintro e w1 ⟨rfl, hb1⟩
    go_wp2_with fail
    refine (HL.out _).mono ?_
    rintro e w2 ⟨rfl, rfl⟩
    go_wp2_with fail
    refine (HD.out _).mono ?_
    rintro e w2 ⟨rfl, rfl⟩
    go_wp2_with fail
    refine (S1'.out _).mono ?_
    rintro e w2 ⟨rfl, hb2⟩
    go_wp2_with fail
    refine (S2'.out _).mono ?_
    rintro e w3 ⟨rfl, hb3⟩
    go_wp2_with fail
    refine (U1.out _).mono ?_
    rintro e w ⟨rfl, rfl⟩
    go_wp2_with fail
    refine (M1'.out _).mono ?_
    rintro e w4 ⟨rfl, hb4⟩
    go_wp2_with fail
    refine (M2'.out _).mono ?_
    rintro e w5 ⟨rfl, hb5⟩
    go_wp2_with fail
    refine (U2.out _).mono ?_
    rintro e w ⟨rfl, rfl⟩
    go_wp2_with fail
    refine (Q1'.out _).mono ?_
    rintro e w6 ⟨rfl, hb6⟩
    go_wp2_with fail
    refine (Q2'.out _).mono ?_
    rintro e w7 ⟨rfl, hb7⟩
    go_wp2_with fail
    refine (U3.out _).mono ?_
    rintro e w ⟨rfl, rfl⟩
    go_wp2_with fail
    refine (R1'.out _).mono ?_
    rintro e w8 ⟨rfl, hb8⟩
    go_wp2_with fail
    refine (R2'.out _).mono ?_
    rintro e w9 ⟨rfl, hb9⟩
    go_wp2_with fail
    refine (U4.out _).mono ?_
    rintro e w ⟨rfl, rfl⟩
    go_wp2_with fail
    refine (T1'.out _).mono ?_
    rintro e w10 ⟨rfl, hb10⟩
    go_wp2_with fail
    refine (T2'.out _).mono ?_
    rintro e w11 ⟨rfl, hb11⟩
    go_wp2_with fail
    refine (U5.out _).mono ?_
    rintro e w ⟨rfl, rfl⟩
    go_wp2_with fail
    go_ret
    refine ⟨rfl, ?_⟩
    have z1 := hb1.size
    have z2 := hb2.size
    have z3 := hb3.size
    have z4 := hb4.size
    have z5 := hb5.size
    have z6 := hb6.size
    have z7 := hb7.size
    have z8 := hb8.size
    have z9 := hb9.size
    have z10 := hb10.size
    have z11 := hb11.size
    exact ((((((((((hb1).trans (hb2.mono (by omega))).trans (hb3.mono (by omega))).trans (hb4.mono (by omega))).trans (hb5.mono (by omega))).trans (hb6.mono (by omega))).trans (hb7.mono (by omega))).trans (hb8.mono (by omega))).trans (hb9.mono (by omega))).trans (hb10.mono (by omega))).trans (hb11.mono (by omega))
end Go.Proofs.Ytelgmffmekfndaa
