/- The contract of the reference's Mul: it answers the product that the standard gives, of whatever two words. Condition: the words fit 64 bits. The contract of the reference's Mul: it answers the product that the standard gives, of whatever two words. Condition: the words fit 64 bits. -/
import Derived.Test.YtelgmffmekfndaaFltAddsG
import Derived.Test.YtelgmffmekfndaaFltLawsG
import Derived.BigRegion
set_option linter.unusedVariables false
namespace Go.Proofs.Ytelgmffmekfndaa
open Go.ChangeShapes Go.WideShapes Go.ChangeAt Go.RowKit
open Fl (sg exf fr kindOf mant expo ups word rung numOf)

set_option maxRecDepth 100000 in
set_option maxHeartbeats 2000000 in
theorem mul_sticky (x y : Int) (sa sb : Bool) (ma ea mb eb : Int) (hx : OfIs x 102 sa ma ea) (hy : OfIs y 102 sb mb eb)
    (a0 : (ma == 0) = false) (a1 : 4503599627370496 ≤ ma) (a2 : ma < 9007199254740992) (u0 : -1126 ≤ ea) (u1 : ea ≤ 971) (b0 : (mb == 0) = false) (b1 : 4503599627370496 ≤ mb) (b2 : mb < 9007199254740992) (v0 : -1126 ≤ eb) (v1 : eb ≤ 971)
    (A0 A1 B0 B1 P Q Z H Ml Lw M R M2 : Int) (hA1 : ma / 67108864 = A1) (hA0 : bits .and .u64 ma 67108863 = A0) (hB1 : mb / 67108864 = B1) (hB0 : bits .and .u64 mb 67108863 = B0)
    (hP : IntKind.u64.wrap (A1 * B0) = P) (p0 : 0 ≤ P) (p1 : P < 18014398509481984) (hQ : IntKind.u64.wrap (A0 * B1) = Q) (q0 : 0 ≤ Q) (q1 : Q < 18014398509481984)
    (hml : bits .and .u64 (P + Q) 67108863 = Ml) (l0 : 0 ≤ Ml) (l1 : Ml < 67108864) (hZ : IntKind.u64.wrap (A0 * B0) = Z) (z0 : 0 ≤ Z) (z1 : Z < 4503599627370496)
    (hH : IntKind.u64.wrap (A1 * B1) = H) (c0 : 0 ≤ H) (c1 : H < 18014398509481984) (hLw : bits .and .u64 (Z + Ml * 67108864) 4503599627370495 = Lw) (w0 : 0 ≤ Lw) (w1 : Lw < 4503599627370496)
    (hM : bits .or .u64 ((H + (P + Q) / 67108864 + (Z + Ml * 67108864) / 4503599627370496) * 256) (Lw / 17592186044416) = M) (hR : bits .and .u64 Lw 17592186044415 = R) (hR1 : (R != 0) = true) (hM2 : bits .or .u64 M 1 = M2) (m0 : 0 ≤ M2) (m1 : M2 < 18446744073709551616) (w : World) :
    Calls Try.prog 26 #[.int .u64 x, .int .u64 y] w fun e w' => e = .returned (.int .u64 (word (!(sa == sb)) (rung M2.toNat (ea + eb + 44)))) ∧ Below w.heap.size w w' := by
  go_enter Try.func26, Try.ntmps26
  go_wp2_with fail
  refine (hx _).mono ?_
  rintro e w1 ⟨rfl, hb1⟩
  obtain ⟨hc1, hf1⟩ := bcell hb1
  go_wp2_with fail
  refine (hy _).mono ?_
  rintro e w2 ⟨rfl, hb2⟩
  obtain ⟨hc2, hf2⟩ := bcell hb2
  have hz1 := hb1.size
  have hz2 := hb2.size
  go_wp2_with fail
  go_region
  go_wp2_with fail
  refine (round_any _ _ _ (by omega) (by omega) (by omega) (by omega) _).mono ?_
  rintro e w3 ⟨rfl, rfl⟩
  go_wp2_with fail
  go_ret
  refine ⟨rfl, ?_⟩
  go_light
  (repeat (first | exact Below.refl _ _ | exact hb1 | (refine Below.alloc ?_ (by first | omega | (simp; done) | (simp; omega)) _) | refine Below.drew ?_ | (refine Below.setCell ?_ (by first | omega | (simp; done) | (simp; omega)) _) | (refine Below.trans ?_ (hb2.mono (by first | omega | (simp; done) | (simp; omega)))) | (refine Below.trans ?_ (hb1.mono (by first | omega | (simp; done) | (simp; omega))))))

set_option maxRecDepth 100000 in
set_option maxHeartbeats 2000000 in
theorem mul_exact (x y : Int) (sa sb : Bool) (ma ea mb eb : Int) (hx : OfIs x 102 sa ma ea) (hy : OfIs y 102 sb mb eb)
    (a0 : (ma == 0) = false) (a1 : 4503599627370496 ≤ ma) (a2 : ma < 9007199254740992) (u0 : -1126 ≤ ea) (u1 : ea ≤ 971) (b0 : (mb == 0) = false) (b1 : 4503599627370496 ≤ mb) (b2 : mb < 9007199254740992) (v0 : -1126 ≤ eb) (v1 : eb ≤ 971)
    (A0 A1 B0 B1 P Q Z H Ml Lw M R : Int) (hA1 : ma / 67108864 = A1) (hA0 : bits .and .u64 ma 67108863 = A0) (hB1 : mb / 67108864 = B1) (hB0 : bits .and .u64 mb 67108863 = B0)
    (hP : IntKind.u64.wrap (A1 * B0) = P) (p0 : 0 ≤ P) (p1 : P < 18014398509481984) (hQ : IntKind.u64.wrap (A0 * B1) = Q) (q0 : 0 ≤ Q) (q1 : Q < 18014398509481984)
    (hml : bits .and .u64 (P + Q) 67108863 = Ml) (l0 : 0 ≤ Ml) (l1 : Ml < 67108864) (hZ : IntKind.u64.wrap (A0 * B0) = Z) (z0 : 0 ≤ Z) (z1 : Z < 4503599627370496)
    (hH : IntKind.u64.wrap (A1 * B1) = H) (c0 : 0 ≤ H) (c1 : H < 18014398509481984) (hLw : bits .and .u64 (Z + Ml * 67108864) 4503599627370495 = Lw) (w0 : 0 ≤ Lw) (w1 : Lw < 4503599627370496)
    (hM : bits .or .u64 ((H + (P + Q) / 67108864 + (Z + Ml * 67108864) / 4503599627370496) * 256) (Lw / 17592186044416) = M) (hR : bits .and .u64 Lw 17592186044415 = R) (hR1 : (R != 0) = false) (m0 : 0 ≤ M) (m1 : M < 18446744073709551616) (w : World) :
    Calls Try.prog 26 #[.int .u64 x, .int .u64 y] w fun e w' => e = .returned (.int .u64 (word (!(sa == sb)) (rung M.toNat (ea + eb + 44)))) ∧ Below w.heap.size w w' := by
  go_enter Try.func26, Try.ntmps26
  go_wp2_with fail
  refine (hx _).mono ?_
  rintro e w1 ⟨rfl, hb1⟩
  obtain ⟨hc1, hf1⟩ := bcell hb1
  go_wp2_with fail
  refine (hy _).mono ?_
  rintro e w2 ⟨rfl, hb2⟩
  obtain ⟨hc2, hf2⟩ := bcell hb2
  have hz1 := hb1.size
  have hz2 := hb2.size
  go_wp2_with fail
  go_region
  go_wp2_with fail
  refine (round_any _ _ _ (by omega) (by omega) (by omega) (by omega) _).mono ?_
  rintro e w3 ⟨rfl, rfl⟩
  go_wp2_with fail
  go_ret
  refine ⟨rfl, ?_⟩
  go_light
  (repeat (first | exact Below.refl _ _ | exact hb1 | (refine Below.alloc ?_ (by first | omega | (simp; done) | (simp; omega)) _) | refine Below.drew ?_ | (refine Below.setCell ?_ (by first | omega | (simp; done) | (simp; omega)) _) | (refine Below.trans ?_ (hb2.mono (by first | omega | (simp; done) | (simp; omega)))) | (refine Below.trans ?_ (hb1.mono (by first | omega | (simp; done) | (simp; omega))))))

set_option maxRecDepth 100000 in
theorem mul_nan_a (x y : Int) (sa sb : Bool) (ma ea mb eb : Int) (kb : Int) (hx : OfIs x 110 sa ma ea) (hy : OfIs y kb sb mb eb) (w : World) :
    Calls Try.prog 26 #[.int .u64 x, .int .u64 y] w fun e w' => e = .returned (.int .u64 9221120237041090560) ∧ Below w.heap.size w w' := by
  go_enter Try.func26, Try.ntmps26
  go_wp2_with fail
  refine (hx _).mono ?_
  rintro e w1 ⟨rfl, hb1⟩
  obtain ⟨hc1, hf1⟩ := bcell hb1
  go_wp2_with fail
  refine (hy _).mono ?_
  rintro e w2 ⟨rfl, hb2⟩
  obtain ⟨hc2, hf2⟩ := bcell hb2
  have hz1 := hb1.size
  have hz2 := hb2.size
  go_wp2_with fail
  go_ret
  refine ⟨rfl, ?_⟩
  go_light
  (repeat (first | exact Below.refl _ _ | exact hb1 | (refine Below.alloc ?_ (by first | omega | (simp; done) | (simp; omega)) _) | refine Below.drew ?_ | (refine Below.setCell ?_ (by first | omega | (simp; done) | (simp; omega)) _) | (refine Below.trans ?_ (hb2.mono (by first | omega | (simp; done) | (simp; omega)))) | (refine Below.trans ?_ (hb1.mono (by first | omega | (simp; done) | (simp; omega))))))

set_option maxRecDepth 100000 in
theorem mul_nan_b (x y : Int) (sa sb : Bool) (ma ea mb eb : Int) (hx : OfIs x 105 sa ma ea) (hy : OfIs y 110 sb mb eb) (w : World) :
    Calls Try.prog 26 #[.int .u64 x, .int .u64 y] w fun e w' => e = .returned (.int .u64 9221120237041090560) ∧ Below w.heap.size w w' := by
  go_enter Try.func26, Try.ntmps26
  go_wp2_with fail
  refine (hx _).mono ?_
  rintro e w1 ⟨rfl, hb1⟩
  obtain ⟨hc1, hf1⟩ := bcell hb1
  go_wp2_with fail
  refine (hy _).mono ?_
  rintro e w2 ⟨rfl, hb2⟩
  obtain ⟨hc2, hf2⟩ := bcell hb2
  have hz1 := hb1.size
  have hz2 := hb2.size
  go_wp2_with fail
  go_ret
  refine ⟨rfl, ?_⟩
  go_light
  (repeat (first | exact Below.refl _ _ | exact hb1 | (refine Below.alloc ?_ (by first | omega | (simp; done) | (simp; omega)) _) | refine Below.drew ?_ | (refine Below.setCell ?_ (by first | omega | (simp; done) | (simp; omega)) _) | (refine Below.trans ?_ (hb2.mono (by first | omega | (simp; done) | (simp; omega)))) | (refine Below.trans ?_ (hb1.mono (by first | omega | (simp; done) | (simp; omega))))))

set_option maxRecDepth 100000 in
theorem mul_nan_c (x y : Int) (sa sb : Bool) (ma ea mb eb : Int) (hx : OfIs x 102 sa ma ea) (hy : OfIs y 110 sb mb eb) (w : World) :
    Calls Try.prog 26 #[.int .u64 x, .int .u64 y] w fun e w' => e = .returned (.int .u64 9221120237041090560) ∧ Below w.heap.size w w' := by
  go_enter Try.func26, Try.ntmps26
  go_wp2_with fail
  refine (hx _).mono ?_
  rintro e w1 ⟨rfl, hb1⟩
  obtain ⟨hc1, hf1⟩ := bcell hb1
  go_wp2_with fail
  refine (hy _).mono ?_
  rintro e w2 ⟨rfl, hb2⟩
  obtain ⟨hc2, hf2⟩ := bcell hb2
  have hz1 := hb1.size
  have hz2 := hb2.size
  go_wp2_with fail
  go_ret
  refine ⟨rfl, ?_⟩
  go_light
  (repeat (first | exact Below.refl _ _ | exact hb1 | (refine Below.alloc ?_ (by first | omega | (simp; done) | (simp; omega)) _) | refine Below.drew ?_ | (refine Below.setCell ?_ (by first | omega | (simp; done) | (simp; omega)) _) | (refine Below.trans ?_ (hb2.mono (by first | omega | (simp; done) | (simp; omega)))) | (refine Below.trans ?_ (hb1.mono (by first | omega | (simp; done) | (simp; omega))))))

set_option maxRecDepth 100000 in
theorem mul_inf_inf (x y : Int) (sa sb : Bool) (ma ea mb eb : Int) (hx : OfIs x 105 sa ma ea) (hy : OfIs y 105 sb mb eb) (w : World) :
    Calls Try.prog 26 #[.int .u64 x, .int .u64 y] w fun e w' => e = .returned (.int .u64 (word (!(sa == sb)) 9218868437227405312)) ∧ Below w.heap.size w w' := by
  go_enter Try.func26, Try.ntmps26
  go_wp2_with fail
  refine (hx _).mono ?_
  rintro e w1 ⟨rfl, hb1⟩
  obtain ⟨hc1, hf1⟩ := bcell hb1
  go_wp2_with fail
  refine (hy _).mono ?_
  rintro e w2 ⟨rfl, hb2⟩
  obtain ⟨hc2, hf2⟩ := bcell hb2
  have hz1 := hb1.size
  have hz2 := hb2.size
  go_wp2_with fail
  refine (sign_to _ 9218868437227405312 9218868437227405312 rfl (by decide) _).mono ?_
  rintro e w3 ⟨rfl, rfl⟩
  go_wp2_with fail
  go_ret
  refine ⟨rfl, ?_⟩
  go_light
  (repeat (first | exact Below.refl _ _ | exact hb1 | (refine Below.alloc ?_ (by first | omega | (simp; done) | (simp; omega)) _) | refine Below.drew ?_ | (refine Below.setCell ?_ (by first | omega | (simp; done) | (simp; omega)) _) | (refine Below.trans ?_ (hb2.mono (by first | omega | (simp; done) | (simp; omega)))) | (refine Below.trans ?_ (hb1.mono (by first | omega | (simp; done) | (simp; omega))))))

set_option maxRecDepth 100000 in
theorem mul_inf_z (x y : Int) (sa sb : Bool) (ma ea mb eb : Int) (hx : OfIs x 105 sa ma ea) (hy : OfIs y 102 sb mb eb) (zb : (mb == 0) = true) (w : World) :
    Calls Try.prog 26 #[.int .u64 x, .int .u64 y] w fun e w' => e = .returned (.int .u64 9221120237041090560) ∧ Below w.heap.size w w' := by
  go_enter Try.func26, Try.ntmps26
  go_wp2_with fail
  refine (hx _).mono ?_
  rintro e w1 ⟨rfl, hb1⟩
  obtain ⟨hc1, hf1⟩ := bcell hb1
  go_wp2_with fail
  refine (hy _).mono ?_
  rintro e w2 ⟨rfl, hb2⟩
  obtain ⟨hc2, hf2⟩ := bcell hb2
  have hz1 := hb1.size
  have hz2 := hb2.size
  go_wp2_with fail
  go_ret
  refine ⟨rfl, ?_⟩
  go_light
  (repeat (first | exact Below.refl _ _ | exact hb1 | (refine Below.alloc ?_ (by first | omega | (simp; done) | (simp; omega)) _) | refine Below.drew ?_ | (refine Below.setCell ?_ (by first | omega | (simp; done) | (simp; omega)) _) | (refine Below.trans ?_ (hb2.mono (by first | omega | (simp; done) | (simp; omega)))) | (refine Below.trans ?_ (hb1.mono (by first | omega | (simp; done) | (simp; omega))))))

set_option maxRecDepth 100000 in
theorem mul_inf_f (x y : Int) (sa sb : Bool) (ma ea mb eb : Int) (hx : OfIs x 105 sa ma ea) (hy : OfIs y 102 sb mb eb) (zb : (mb == 0) = false) (w : World) :
    Calls Try.prog 26 #[.int .u64 x, .int .u64 y] w fun e w' => e = .returned (.int .u64 (word (!(sa == sb)) 9218868437227405312)) ∧ Below w.heap.size w w' := by
  go_enter Try.func26, Try.ntmps26
  go_wp2_with fail
  refine (hx _).mono ?_
  rintro e w1 ⟨rfl, hb1⟩
  obtain ⟨hc1, hf1⟩ := bcell hb1
  go_wp2_with fail
  refine (hy _).mono ?_
  rintro e w2 ⟨rfl, hb2⟩
  obtain ⟨hc2, hf2⟩ := bcell hb2
  have hz1 := hb1.size
  have hz2 := hb2.size
  go_wp2_with fail
  refine (sign_to _ 9218868437227405312 9218868437227405312 rfl (by decide) _).mono ?_
  rintro e w3 ⟨rfl, rfl⟩
  go_wp2_with fail
  go_ret
  refine ⟨rfl, ?_⟩
  go_light
  (repeat (first | exact Below.refl _ _ | exact hb1 | (refine Below.alloc ?_ (by first | omega | (simp; done) | (simp; omega)) _) | refine Below.drew ?_ | (refine Below.setCell ?_ (by first | omega | (simp; done) | (simp; omega)) _) | (refine Below.trans ?_ (hb2.mono (by first | omega | (simp; done) | (simp; omega)))) | (refine Below.trans ?_ (hb1.mono (by first | omega | (simp; done) | (simp; omega))))))

set_option maxRecDepth 100000 in
theorem mul_z_inf (x y : Int) (sa sb : Bool) (ma ea mb eb : Int) (hx : OfIs x 102 sa ma ea) (hy : OfIs y 105 sb mb eb) (za : (ma == 0) = true) (w : World) :
    Calls Try.prog 26 #[.int .u64 x, .int .u64 y] w fun e w' => e = .returned (.int .u64 9221120237041090560) ∧ Below w.heap.size w w' := by
  go_enter Try.func26, Try.ntmps26
  go_wp2_with fail
  refine (hx _).mono ?_
  rintro e w1 ⟨rfl, hb1⟩
  obtain ⟨hc1, hf1⟩ := bcell hb1
  go_wp2_with fail
  refine (hy _).mono ?_
  rintro e w2 ⟨rfl, hb2⟩
  obtain ⟨hc2, hf2⟩ := bcell hb2
  have hz1 := hb1.size
  have hz2 := hb2.size
  go_wp2_with fail
  go_ret
  refine ⟨rfl, ?_⟩
  go_light
  (repeat (first | exact Below.refl _ _ | exact hb1 | (refine Below.alloc ?_ (by first | omega | (simp; done) | (simp; omega)) _) | refine Below.drew ?_ | (refine Below.setCell ?_ (by first | omega | (simp; done) | (simp; omega)) _) | (refine Below.trans ?_ (hb2.mono (by first | omega | (simp; done) | (simp; omega)))) | (refine Below.trans ?_ (hb1.mono (by first | omega | (simp; done) | (simp; omega))))))

set_option maxRecDepth 100000 in
theorem mul_f_inf (x y : Int) (sa sb : Bool) (ma ea mb eb : Int) (hx : OfIs x 102 sa ma ea) (hy : OfIs y 105 sb mb eb) (za : (ma == 0) = false) (w : World) :
    Calls Try.prog 26 #[.int .u64 x, .int .u64 y] w fun e w' => e = .returned (.int .u64 (word (!(sa == sb)) 9218868437227405312)) ∧ Below w.heap.size w w' := by
  go_enter Try.func26, Try.ntmps26
  go_wp2_with fail
  refine (hx _).mono ?_
  rintro e w1 ⟨rfl, hb1⟩
  obtain ⟨hc1, hf1⟩ := bcell hb1
  go_wp2_with fail
  refine (hy _).mono ?_
  rintro e w2 ⟨rfl, hb2⟩
  obtain ⟨hc2, hf2⟩ := bcell hb2
  have hz1 := hb1.size
  have hz2 := hb2.size
  go_wp2_with fail
  refine (sign_to _ 9218868437227405312 9218868437227405312 rfl (by decide) _).mono ?_
  rintro e w3 ⟨rfl, rfl⟩
  go_wp2_with fail
  go_ret
  refine ⟨rfl, ?_⟩
  go_light
  (repeat (first | exact Below.refl _ _ | exact hb1 | (refine Below.alloc ?_ (by first | omega | (simp; done) | (simp; omega)) _) | refine Below.drew ?_ | (refine Below.setCell ?_ (by first | omega | (simp; done) | (simp; omega)) _) | (refine Below.trans ?_ (hb2.mono (by first | omega | (simp; done) | (simp; omega)))) | (refine Below.trans ?_ (hb1.mono (by first | omega | (simp; done) | (simp; omega))))))

set_option maxRecDepth 100000 in
theorem mul_za (x y : Int) (sa sb : Bool) (ma ea mb eb : Int) (hx : OfIs x 102 sa ma ea) (hy : OfIs y 102 sb mb eb) (za : (ma == 0) = true) (w : World) :
    Calls Try.prog 26 #[.int .u64 x, .int .u64 y] w fun e w' => e = .returned (.int .u64 (word (!(sa == sb)) 0)) ∧ Below w.heap.size w w' := by
  go_enter Try.func26, Try.ntmps26
  go_wp2_with fail
  refine (hx _).mono ?_
  rintro e w1 ⟨rfl, hb1⟩
  obtain ⟨hc1, hf1⟩ := bcell hb1
  go_wp2_with fail
  refine (hy _).mono ?_
  rintro e w2 ⟨rfl, hb2⟩
  obtain ⟨hc2, hf2⟩ := bcell hb2
  have hz1 := hb1.size
  have hz2 := hb2.size
  go_wp2_with fail
  refine (sign_to _ 0 0 rfl (by decide) _).mono ?_
  rintro e w3 ⟨rfl, rfl⟩
  go_wp2_with fail
  go_ret
  refine ⟨rfl, ?_⟩
  go_light
  (repeat (first | exact Below.refl _ _ | exact hb1 | (refine Below.alloc ?_ (by first | omega | (simp; done) | (simp; omega)) _) | refine Below.drew ?_ | (refine Below.setCell ?_ (by first | omega | (simp; done) | (simp; omega)) _) | (refine Below.trans ?_ (hb2.mono (by first | omega | (simp; done) | (simp; omega)))) | (refine Below.trans ?_ (hb1.mono (by first | omega | (simp; done) | (simp; omega))))))

set_option maxRecDepth 100000 in
theorem mul_zb (x y : Int) (sa sb : Bool) (ma ea mb eb : Int) (hx : OfIs x 102 sa ma ea) (hy : OfIs y 102 sb mb eb) (za : (ma == 0) = false) (zb : (mb == 0) = true) (w : World) :
    Calls Try.prog 26 #[.int .u64 x, .int .u64 y] w fun e w' => e = .returned (.int .u64 (word (!(sa == sb)) 0)) ∧ Below w.heap.size w w' := by
  go_enter Try.func26, Try.ntmps26
  go_wp2_with fail
  refine (hx _).mono ?_
  rintro e w1 ⟨rfl, hb1⟩
  obtain ⟨hc1, hf1⟩ := bcell hb1
  go_wp2_with fail
  refine (hy _).mono ?_
  rintro e w2 ⟨rfl, hb2⟩
  obtain ⟨hc2, hf2⟩ := bcell hb2
  have hz1 := hb1.size
  have hz2 := hb2.size
  go_wp2_with fail
  refine (sign_to _ 0 0 rfl (by decide) _).mono ?_
  rintro e w3 ⟨rfl, rfl⟩
  go_wp2_with fail
  go_ret
  refine ⟨rfl, ?_⟩
  go_light
  (repeat (first | exact Below.refl _ _ | exact hb1 | (refine Below.alloc ?_ (by first | omega | (simp; done) | (simp; omega)) _) | refine Below.drew ?_ | (refine Below.setCell ?_ (by first | omega | (simp; done) | (simp; omega)) _) | (refine Below.trans ?_ (hb2.mono (by first | omega | (simp; done) | (simp; omega)))) | (refine Below.trans ?_ (hb1.mono (by first | omega | (simp; done) | (simp; omega))))))

end Go.Proofs.Ytelgmffmekfndaa
set_option linter.unusedVariables false
namespace Go.Proofs.Ytelgmffmekfndaa
open Go.ChangeShapes Go.WideShapes Go.ChangeAt Go.RowKit
open Fl (sg exf fr kindOf mant expo ups word rung numOf stick)

theorem wrap_nat (n : Nat) (h : n < 18446744073709551616) : IntKind.u64.wrap (n : Int) = n := by
  rw [IntKind.wrap_u64]; omega
theorem wrap_prod (a b : Nat) (h : a * b < 18446744073709551616) : IntKind.u64.wrap ((a : Int) * (b : Int)) = ((a * b : Nat) : Int) := by
  rw [← Int.natCast_mul]; exact wrap_nat _ h
theorem mask_nat (n k : Nat) (h : n < 18446744073709551616) (hk : k ≤ 64) : bits .and .u64 (n : Int) ((2 ^ k - 1 : Nat) : Int) = ((n % 2 ^ k : Nat) : Int) := by
  have := mask_u64 (n : Int) (by omega) (by omega) k hk
  rw [Int.toNat_natCast] at this
  exact this

theorem mul_fin (x y : Int) (sa sb : Bool) (X Y : Nat) (ea eb : Int) (hx : OfIs x 102 sa X ea) (hy : OfIs y 102 sb Y eb)
    (a1 : 4503599627370496 ≤ X) (a2 : X < 9007199254740992) (u0 : -1126 ≤ ea) (u1 : ea ≤ 971) (b1 : 4503599627370496 ≤ Y) (b2 : Y < 9007199254740992) (v0 : -1126 ≤ eb) (v1 : eb ≤ 971) (w : World) :
    Calls Try.prog 26 #[.int .u64 x, .int .u64 y] w fun e w' => e = .returned (.int .u64 (word (!(sa == sb)) (rung (stick (X * Y) 44) (ea + eb + 44)))) ∧ Below w.heap.size w w' := by
  have hh := Fl.halves X Y
  have za : ((X : Int) == 0) = false := by simp; omega
  have zb : ((Y : Int) == 0) = false := by simp; omega
  have hA1 : (X : Int) / 67108864 = ((X / 67108864 : Nat) : Int) := by omega
  have hB1 : (Y : Int) / 67108864 = ((Y / 67108864 : Nat) : Int) := by omega
  have hA0 : bits .and .u64 (X : Int) 67108863 = ((X % 67108864 : Nat) : Int) := mask_nat X 26 (by omega) (by omega)
  have hB0 : bits .and .u64 (Y : Int) 67108863 = ((Y % 67108864 : Nat) : Int) := mask_nat Y 26 (by omega) (by omega)
  have ra1 : X / 67108864 < 134217728 := by omega
  have rb1 : Y / 67108864 < 134217728 := by omega
  have ra0 : X % 67108864 < 67108864 := by omega
  have rb0 : Y % 67108864 < 67108864 := by omega
  unfold stick
  generalize X / 67108864 = A1 at *
  generalize Y / 67108864 = B1 at *
  generalize X % 67108864 = A0 at *
  generalize Y % 67108864 = B0 at *
  have hP := Nat.mul_lt_mul'' ra1 rb0
  have hQ := Nat.mul_lt_mul'' ra0 rb1
  have hZ := Nat.mul_lt_mul'' ra0 rb0
  have hH := Nat.mul_lt_mul'' ra1 rb1
  have wP := wrap_prod A1 B0 (by omega)
  have wQ := wrap_prod A0 B1 (by omega)
  have wZ := wrap_prod A0 B0 (by omega)
  have wH := wrap_prod A1 B1 (by omega)
  generalize A1 * B0 = P at *
  generalize A0 * B1 = Q at *
  generalize A0 * B0 = Z at *
  generalize A1 * B1 = H at *
  generalize X * Y = T at *
  have hml : bits .and .u64 ((P : Int) + (Q : Int)) 67108863 = (((P + Q) % 67108864 : Nat) : Int) := mask_nat (P + Q) 26 (by omega) (by omega)
  have hLw : bits .and .u64 ((Z : Int) + (((P + Q) % 67108864 : Nat) : Int) * 67108864) 4503599627370495 = (((Z + (P + Q) % 67108864 * 67108864) % 4503599627370496 : Nat) : Int) := mask_nat (Z + (P + Q) % 67108864 * 67108864) 52 (by omega) (by omega)
  have hR : bits .and .u64 (((Z + (P + Q) % 67108864 * 67108864) % 4503599627370496 : Nat) : Int) 17592186044415 = ((T % 17592186044416 : Nat) : Int) := by
    have := mask_nat ((Z + (P + Q) % 67108864 * 67108864) % 4503599627370496) 44 (by omega) (by omega)
    rw [show ((2 ^ 44 - 1 : Nat) : Int) = 17592186044415 by rfl] at this
    rw [this]
    omega
  have hM : bits .or .u64 (((H : Int) + ((P : Int) + (Q : Int)) / 67108864 + ((Z : Int) + (((P + Q) % 67108864 : Nat) : Int) * 67108864) / 4503599627370496) * 256) ((((Z + (P + Q) % 67108864 * 67108864) % 4503599627370496 : Nat) : Int) / 17592186044416) = ((T / 17592186044416 : Nat) : Int) := by
    have := u64_or_nat ((H + (P + Q) / 67108864 + (Z + (P + Q) % 67108864 * 67108864) / 4503599627370496) * 256) ((Z + (P + Q) % 67108864 * 67108864) % 4503599627370496 / 17592186044416) (by omega) (by omega)
    rw [nat_join 8 _ _ (by omega) (by omega)] at this
    have e1 : (((H : Int) + ((P : Int) + (Q : Int)) / 67108864 + ((Z : Int) + (((P + Q) % 67108864 : Nat) : Int) * 67108864) / 4503599627370496) * 256) = (((H + (P + Q) / 67108864 + (Z + (P + Q) % 67108864 * 67108864) / 4503599627370496) * 256 : Nat) : Int) := by omega
    have e2 : ((((Z + (P + Q) % 67108864 * 67108864) % 4503599627370496 : Nat) : Int) / 17592186044416) = (((Z + (P + Q) % 67108864 * 67108864) % 4503599627370496 / 17592186044416 : Nat) : Int) := by omega
    rw [e1, e2, this]
    omega
  by_cases hr : T % 2 ^ 44 = 0
  · rw [if_pos hr]
    have W := mul_exact x y sa sb X ea Y eb hx hy za (by omega) (by omega) u0 u1 zb (by omega) (by omega) v0 v1 A0 A1 B0 B1 P Q Z H _ _ _ _ hA1 hA0 hB1 hB0 wP (by omega) (by omega) wQ (by omega) (by omega) hml (by omega) (by omega) wZ (by omega) (by omega) wH (by omega) (by omega) hLw (by omega) (by omega) hM hR (by simp; omega) (by omega) (by omega) w
    rw [Int.toNat_natCast] at W
    exact W
  · rw [if_neg hr]
    have ho := Fl.or_one (T / 17592186044416)
    have hob : T / 17592186044416 ||| 1 ≤ T / 17592186044416 + 1 := by rw [ho]; split <;> omega
    have W := mul_sticky x y sa sb X ea Y eb hx hy za (by omega) (by omega) u0 u1 zb (by omega) (by omega) v0 v1 A0 A1 B0 B1 P Q Z H _ _ _ _ ((T / 17592186044416 ||| 1 : Nat) : Int) hA1 hA0 hB1 hB0 wP (by omega) (by omega) wQ (by omega) (by omega) hml (by omega) (by omega) wZ (by omega) (by omega) wH (by omega) (by omega) hLw (by omega) (by omega) hM hR (by simp; omega) (or_form _ (by omega)) (by omega) (by omega) w
    rw [Int.toNat_natCast] at W
    exact W

theorem refmul_any (x y : Int) (x0 : 0 ≤ x) (x1 : x < 18446744073709551616) (y0 : 0 ≤ y) (y1 : y < 18446744073709551616) (w : World) :
    Calls Try.prog 26 #[.int .u64 x, .int .u64 y] w fun e w' => e = .returned (.int .u64 (numOf (Ieee.double.mul x.toNat y.toNat))) ∧ Below w.heap.size w w' := by
  have hx : x.toNat < 2 ^ 64 := by omega
  have hy : y.toNat < 2 ^ 64 := by omega
  have bc : ∀ s t : Bool, (!(s == t)) = (!(t == s)) := by intro s t; cases s <;> cases t <;> rfl
  by_cases kx : exf x.toNat = 2047
  · by_cases fx : fr x.toNat = 0
    · have ix := is_inf x x0 x1 kx fx
      by_cases ky : exf y.toNat = 2047
      · by_cases fy : fr y.toNat = 0
        · rw [Fl.mul_inf_inf _ _ hx hy kx fx ky fy]
          exact mul_inf_inf x y _ _ _ _ _ _ ix (is_inf y y0 y1 ky fy) w
        · rw [Fl.mul_nan_r _ _ hy ky fy]
          exact mul_nan_b x y _ _ _ _ _ _ ix (is_nan y y0 y1 ky fy) w
      · have iy := is_fin y y0 y1 ky
        rw [Fl.mul_inf_fin _ _ hx hy kx fx ky]
        by_cases zy : mant y.toNat = 0
        · rw [if_pos zy]
          exact mul_inf_z x y _ _ _ _ _ _ ix iy (by simp; omega) w
        · rw [if_neg zy]
          exact mul_inf_f x y _ _ _ _ _ _ ix iy (by simp; omega) w
    · rw [Fl.mul_nan_l _ _ hx kx fx]
      exact mul_nan_a x y _ _ _ _ _ _ _ (is_nan x x0 x1 kx fx) (of_is y y0 y1) w
  have ix := is_fin x x0 x1 kx
  by_cases ky : exf y.toNat = 2047
  · by_cases fy : fr y.toNat = 0
    · have iy := is_inf y y0 y1 ky fy
      rw [Fl.mul_comm, Fl.mul_inf_fin _ _ hy hx ky fy kx, bc]
      by_cases zx : mant x.toNat = 0
      · rw [if_pos zx]
        exact mul_z_inf x y _ _ _ _ _ _ ix iy (by simp; omega) w
      · rw [if_neg zx]
        exact mul_f_inf x y _ _ _ _ _ _ ix iy (by simp; omega) w
    · rw [Fl.mul_nan_r _ _ hy ky fy]
      exact mul_nan_c x y _ _ _ _ _ _ ix (is_nan y y0 y1 ky fy) w
  have iy := is_fin y y0 y1 ky
  by_cases zx : mant x.toNat = 0
  · rw [Fl.mul_fin_eq _ _ hx hy kx ky, zx, Nat.zero_mul, Fl.rung_zero]
    exact mul_za x y _ _ _ _ _ _ ix iy (by simp; omega) w
  by_cases zy : mant y.toNat = 0
  · rw [Fl.mul_fin_eq _ _ hx hy kx ky, zy, Nat.mul_zero, Fl.rung_zero]
    exact mul_zb x y _ _ _ _ _ _ ix iy (by simp; omega) (by simp; omega) w
  have mx0 := Fl.mant_ge _ kx zx
  have mx1 := Fl.mant_lt x.toNat
  have my0 := Fl.mant_ge _ ky zy
  have my1 := Fl.mant_lt y.toNat
  rw [Fl.mul_law _ _ hx hy kx ky zx zy]
  exact mul_fin x y _ _ _ _ _ _ ix iy (by omega) (by omega) (Fl.expo_bd _).1 (Fl.expo_fin _ kx) (by omega) (by omega) (Fl.expo_bd _).1 (Fl.expo_fin _ ky) w

end Go.Proofs.Ytelgmffmekfndaa
