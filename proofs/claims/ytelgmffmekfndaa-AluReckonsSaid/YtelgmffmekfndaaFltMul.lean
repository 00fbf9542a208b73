/- The contract of the reference's Mul: it answers the product that the standard gives, of whatever two words. Condition: the words fit 64 bits. -/
import Derived.Test.YtelgmffmekfndaaFltAddC
import Derived.Test.YtelgmffmekfndaaFltMulLaw
import Derived.BigRegion
set_option linter.unusedVariables false
namespace Go.Proofs.Ytelgmffmekfndaa
open Go.ChangeShapes Go.WideShapes Go.ChangeAt Go.RowKit
open Fl (sg exf fr kindOf mant expo ups word rung numOf)

set_option maxRecDepth 100000 in
set_option maxHeartbeats 2000000 in
theorem mul_sticky (x y : Int) (sa sb : Bool) (ma ea mb eb : Int) (hx : OfIs x 102 sa ma ea) (hy : OfIs y 102 sb mb eb)
    (a0 : (ma == 0) = false) (a1 : 4503599627370496 ≤ ma) (a2 : ma < 9007199254740992) (u0 : -1126 ≤ ea) (u1 : ea ≤ 971) (b0 : (mb == 0) = false) (b1 : 4503599627370496 ≤ mb) (b2 : mb < 9007199254740992) (v0 : -1126 ≤ eb) (v1 : eb ≤ 971)
    (A0 A1 B0 B1 P Q Z H Ml Lw M R M2 : Int) (hA1 : ma / 67108864 = A1) (hA0 : bits .and .u64 ma 67108863 = A0) (hB1 : mb / 67108864 = B1) (hB0 : bits .and .u64 mb 67108863 = B0)
    (hP : IntKind.u64.wrap (A1 * B0) = P) (p0 : 0 ≤ P) (p1 : P < 18014398509481984) (hQ : IntKind.u64.wrap (A0 * B1) = Q) (q0 : 0 ≤ Q) (q1 : Q < 18014398509481984)
    (hml : bits .and .u64 (P + Q) 67108863 = Ml) (l0 : 0 ≤ Ml) (l1 : Ml < 67108864) (hZ : IntKind.u64.wrap (A0 * B0) = Z) (z0 : 0 ≤ Z) (z1 : Z < 4503599627370496)
    (hH : IntKind.u64.wrap (A1 * B1) = H) (c0 : 0 ≤ H) (c1 : H < 18014398509481984) (hLw : bits .and .u64 (Z + Ml * 67108864) 4503599627370495 = Lw) (w0 : 0 ≤ Lw) (w1 : Lw < 4503599627370496)
    (hM : bits .or .u64 ((H + (P + Q) / 67108864 + (Z + Ml * 67108864) / 4503599627370496) * 256) (Lw / 17592186044416) = M) (hR : bits .and .u64 Lw 17592186044415 = R) (hR1 : (R != 0) = true) (hM2 : bits .or .u64 M 1 = M2) (m0 : 0 ≤ M2) (m1 : M2 < 18446744073709551616) (w : World) :
    Calls Try.prog 26 #[.int .u64 x, .int .u64 y] w fun e w' => e = .returned (.int .u64 (word (!(sa == sb)) (rung M2.toNat (ea + eb + 44)))) ∧ Below w.heap.size w w' := by
  go_enter Try.func26, Try.ntmps26
  go_wp2_with fail
  refine (hx _).mono ?_
  rintro e w1 ⟨rfl, hb1⟩
  obtain ⟨hc1, hf1⟩ := bcell hb1
  go_wp2_with fail
  refine (hy _).mono ?_
  rintro e w2 ⟨rfl, hb2⟩
  obtain ⟨hc2, hf2⟩ := bcell hb2
  have hz1 := hb1.size
  have hz2 := hb2.size
  go_wp2_with fail
  go_region
  go_wp2_with fail
  refine (round_any _ _ _ (by omega) (by omega) (by omega) (by omega) _).mono ?_
  rintro e w3 ⟨rfl, rfl⟩
  go_wp2_with fail
  go_ret
  refine ⟨rfl, ?_⟩
  go_light
  (repeat (first | exact Below.refl _ _ | exact hb1 | (refine Below.alloc ?_ (by first | omega | (simp; done) | (simp; omega)) _) | refine Below.drew ?_ | (refine Below.setCell ?_ (by first | omega | (simp; done) | (simp; omega)) _) | (refine Below.trans ?_ (hb2.mono (by first | omega | (simp; done) | (simp; omega)))) | (refine Below.trans ?_ (hb1.mono (by first | omega | (simp; done) | (simp; omega))))))

set_option maxRecDepth 100000 in
set_option maxHeartbeats 2000000 in
theorem mul_exact (x y : Int) (sa sb : Bool) (ma ea mb eb : Int) (hx : OfIs x 102 sa ma ea) (hy : OfIs y 102 sb mb eb)
    (a0 : (ma == 0) = false) (a1 : 4503599627370496 ≤ ma) (a2 : ma < 9007199254740992) (u0 : -1126 ≤ ea) (u1 : ea ≤ 971) (b0 : (mb == 0) = false) (b1 : 4503599627370496 ≤ mb) (b2 : mb < 9007199254740992) (v0 : -1126 ≤ eb) (v1 : eb ≤ 971)
    (A0 A1 B0 B1 P Q Z H Ml Lw M R : Int) (hA1 : ma / 67108864 = A1) (hA0 : bits .and .u64 ma 67108863 = A0) (hB1 : mb / 67108864 = B1) (hB0 : bits .and .u64 mb 67108863 = B0)
    (hP : IntKind.u64.wrap (A1 * B0) = P) (p0 : 0 ≤ P) (p1 : P < 18014398509481984) (hQ : IntKind.u64.wrap (A0 * B1) = Q) (q0 : 0 ≤ Q) (q1 : Q < 18014398509481984)
    (hml : bits .and .u64 (P + Q) 67108863 = Ml) (l0 : 0 ≤ Ml) (l1 : Ml < 67108864) (hZ : IntKind.u64.wrap (A0 * B0) = Z) (z0 : 0 ≤ Z) (z1 : Z < 4503599627370496)
    (hH : IntKind.u64.wrap (A1 * B1) = H) (c0 : 0 ≤ H) (c1 : H < 18014398509481984) (hLw : bits .and .u64 (Z + Ml * 67108864) 4503599627370495 = Lw) (w0 : 0 ≤ Lw) (w1 : Lw < 4503599627370496)
    (hM : bits .or .u64 ((H + (P + Q) / 67108864 + (Z + Ml * 67108864) / 4503599627370496) * 256) (Lw / 17592186044416) = M) (hR : bits .and .u64 Lw 17592186044415 = R) (hR1 : (R != 0) = false) (m0 : 0 ≤ M) (m1 : M < 18446744073709551616) (w : World) :
    Calls Try.prog 26 #[.int .u64 x, .int .u64 y] w fun e w' => e = .returned (.int .u64 (word (!(sa == sb)) (rung M.toNat (ea + eb + 44)))) ∧ Below w.heap.size w w' := by
  go_enter Try.func26, Try.ntmps26
  go_wp2_with fail
  refine (hx _).mono ?_
  rintro e w1 ⟨rfl, hb1⟩
  obtain ⟨hc1, hf1⟩ := bcell hb1
  go_wp2_with fail
  refine (hy _).mono ?_
  rintro e w2 ⟨rfl, hb2⟩
  obtain ⟨hc2, hf2⟩ := bcell hb2
  have hz1 := hb1.size
  have hz2 := hb2.size
  go_wp2_with fail
  go_region
  go_wp2_with fail
  refine (round_any _ _ _ (by omega) (by omega) (by omega) (by omega) _).mono ?_
  rintro e w3 ⟨rfl, rfl⟩
  go_wp2_with fail
  go_ret
  refine ⟨rfl, ?_⟩
  go_light
  (repeat (first | exact Below.refl _ _ | exact hb1 | (refine Below.alloc ?_ (by first | omega | (simp; done) | (simp; omega)) _) | refine Below.drew ?_ | (refine Below.setCell ?_ (by first | omega | (simp; done) | (simp; omega)) _) | (refine Below.trans ?_ (hb2.mono (by first | omega | (simp; done) | (simp; omega)))) | (refine Below.trans ?_ (hb1.mono (by first | omega | (simp; done) | (simp; omega))))))

set_option maxRecDepth 100000 in
theorem mul_nan_a (x y : Int) (sa sb : Bool) (ma ea mb eb : Int) (kb : Int) (hx : OfIs x 110 sa ma ea) (hy : OfIs y kb sb mb eb) (w : World) :
    Calls Try.prog 26 #[.int .u64 x, .int .u64 y] w fun e w' => e = .returned (.int .u64 9221120237041090560) ∧ Below w.heap.size w w' := by
  go_enter Try.func26, Try.ntmps26
  go_wp2_with fail
  refine (hx _).mono ?_
  rintro e w1 ⟨rfl, hb1⟩
  obtain ⟨hc1, hf1⟩ := bcell hb1
  go_wp2_with fail
  refine (hy _).mono ?_
  rintro e w2 ⟨rfl, hb2⟩
  obtain ⟨hc2, hf2⟩ := bcell hb2
  have hz1 := hb1.size
  have hz2 := hb2.size
  go_wp2_with fail
  go_ret
  refine ⟨rfl, ?_⟩
  go_light
  (repeat (first | exact Below.refl _ _ | exact hb1 | (refine Below.alloc ?_ (by first | omega | (simp; done) | (simp; omega)) _) | refine Below.drew ?_ | (refine Below.setCell ?_ (by first | omega | (simp; done) | (simp; omega)) _) | (refine Below.trans ?_ (hb2.mono (by first | omega | (simp; done) | (simp; omega)))) | (refine Below.trans ?_ (hb1.mono (by first | omega | (simp; done) | (simp; omega))))))

set_option maxRecDepth 100000 in
theorem mul_nan_b (x y : Int) (sa sb : Bool) (ma ea mb eb : Int) (hx : OfIs x 105 sa ma ea) (hy : OfIs y 110 sb mb eb) (w : World) :
    Calls Try.prog 26 #[.int .u64 x, .int .u64 y] w fun e w' => e = .returned (.int .u64 9221120237041090560) ∧ Below w.heap.size w w' := by
  go_enter Try.func26, Try.ntmps26
  go_wp2_with fail
  refine (hx _).mono ?_
  rintro e w1 ⟨rfl, hb1⟩
  obtain ⟨hc1, hf1⟩ := bcell hb1
  go_wp2_with fail
  refine (hy _).mono ?_
  rintro e w2 ⟨rfl, hb2⟩
  obtain ⟨hc2, hf2⟩ := bcell hb2
  have hz1 := hb1.size
  have hz2 := hb2.size
  go_wp2_with fail
  go_ret
  refine ⟨rfl, ?_⟩
  go_light
  (repeat (first | exact Below.refl _ _ | exact hb1 | (refine Below.alloc ?_ (by first | omega | (simp; done) | (simp; omega)) _) | refine Below.drew ?_ | (refine Below.setCell ?_ (by first | omega | (simp; done) | (simp; omega)) _) | (refine Below.trans ?_ (hb2.mono (by first | omega | (simp; done) | (simp; omega)))) | (refine Below.trans ?_ (hb1.mono (by first | omega | (simp; done) | (simp; omega))))))

set_option maxRecDepth 100000 in
theorem mul_nan_c (x y : Int) (sa sb : Bool) (ma ea mb eb : Int) (hx : OfIs x 102 sa ma ea) (hy : OfIs y 110 sb mb eb) (w : World) :
    Calls Try.prog 26 #[.int .u64 x, .int .u64 y] w fun e w' => e = .returned (.int .u64 9221120237041090560) ∧ Below w.heap.size w w' := by
  go_enter Try.func26, Try.ntmps26
  go_wp2_with fail
  refine (hx _).mono ?_
  rintro e w1 ⟨rfl, hb1⟩
  obtain ⟨hc1, hf1⟩ := bcell hb1
  go_wp2_with fail
  refine (hy _).mono ?_
  rintro e w2 ⟨rfl, hb2⟩
  obtain ⟨hc2, hf2⟩ := bcell hb2
  have hz1 := hb1.size
  have hz2 := hb2.size
  go_wp2_with fail
  go_ret
  refine ⟨rfl, ?_⟩
  go_light
  (repeat (first | exact Below.refl _ _ | exact hb1 | (refine Below.alloc ?_ (by first | omega | (simp; done) | (simp; omega)) _) | refine Below.drew ?_ | (refine Below.setCell ?_ (by first | omega | (simp; done) | (simp; omega)) _) | (refine Below.trans ?_ (hb2.mono (by first | omega | (simp; done) | (simp; omega)))) | (refine Below.trans ?_ (hb1.mono (by first | omega | (simp; done) | (simp; omega))))))

set_option maxRecDepth 100000 in
theorem mul_inf_inf (x y : Int) (sa sb : Bool) (ma ea mb eb : Int) (hx : OfIs x 105 sa ma ea) (hy : OfIs y 105 sb mb eb) (w : World) :
    Calls Try.prog 26 #[.int .u64 x, .int .u64 y] w fun e w' => e = .returned (.int .u64 (word (!(sa == sb)) 9218868437227405312)) ∧ Below w.heap.size w w' := by
  go_enter Try.func26, Try.ntmps26
  go_wp2_with fail
  refine (hx _).mono ?_
  rintro e w1 ⟨rfl, hb1⟩
  obtain ⟨hc1, hf1⟩ := bcell hb1
  go_wp2_with fail
  refine (hy _).mono ?_
  rintro e w2 ⟨rfl, hb2⟩
  obtain ⟨hc2, hf2⟩ := bcell hb2
  have hz1 := hb1.size
  have hz2 := hb2.size
  go_wp2_with fail
  refine (sign_to _ 9218868437227405312 9218868437227405312 rfl (by decide) _).mono ?_
  rintro e w3 ⟨rfl, rfl⟩
  go_wp2_with fail
  go_ret
  refine ⟨rfl, ?_⟩
  go_light
  (repeat (first | exact Below.refl _ _ | exact hb1 | (refine Below.alloc ?_ (by first | omega | (simp; done) | (simp; omega)) _) | refine Below.drew ?_ | (refine Below.setCell ?_ (by first | omega | (simp; done) | (simp; omega)) _) | (refine Below.trans ?_ (hb2.mono (by first | omega | (simp; done) | (simp; omega)))) | (refine Below.trans ?_ (hb1.mono (by first | omega | (simp; done) | (simp; omega))))))

set_option maxRecDepth 100000 in
theorem mul_inf_z (x y : Int) (sa sb : Bool) (ma ea mb eb : Int) (hx : OfIs x 105 sa ma ea) (hy : OfIs y 102 sb mb eb) (zb : (mb == 0) = true) (w : World) :
    Calls Try.prog 26 #[.int .u64 x, .int .u64 y] w fun e w' => e = .returned (.int .u64 9221120237041090560) ∧ Below w.heap.size w w' := by
  go_enter Try.func26, Try.ntmps26
  go_wp2_with fail
  refine (hx _).mono ?_
  rintro e w1 ⟨rfl, hb1⟩
  obtain ⟨hc1, hf1⟩ := bcell hb1
  go_wp2_with fail
  refine (hy _).mono ?_
  rintro e w2 ⟨rfl, hb2⟩
  obtain ⟨hc2, hf2⟩ := bcell hb2
  have hz1 := hb1.size
  have hz2 := hb2.size
  go_wp2_with fail
  go_ret
  refine ⟨rfl, ?_⟩
  go_light
  (repeat (first | exact Below.refl _ _ | exact hb1 | (refine Below.alloc ?_ (by first | omega | (simp; done) | (simp; omega)) _) | refine Below.drew ?_ | (refine Below.setCell ?_ (by first | omega | (simp; done) | (simp; omega)) _) | (refine Below.trans ?_ (hb2.mono (by first | omega | (simp; done) | (simp; omega)))) | (refine Below.trans ?_ (hb1.mono (by first | omega | (simp; done) | (simp; omega))))))

set_option maxRecDepth 100000 in
theorem mul_inf_f (x y : Int) (sa sb : Bool) (ma ea mb eb : Int) (hx : OfIs x 105 sa ma ea) (hy : OfIs y 102 sb mb eb) (zb : (mb == 0) = false) (w : World) :
    Calls Try.prog 26 #[.int .u64 x, .int .u64 y] w fun e w' => e = .returned (.int .u64 (word (!(sa == sb)) 9218868437227405312)) ∧ Below w.heap.size w w' := by
  go_enter Try.func26, Try.ntmps26
  go_wp2_with fail
  refine (hx _).mono ?_
  rintro e w1 ⟨rfl, hb1⟩
  obtain ⟨hc1, hf1⟩ := bcell hb1
  go_wp2_with fail
  refine (hy _).mono ?_
  rintro e w2 ⟨rfl, hb2⟩
  obtain ⟨hc2, hf2⟩ := bcell hb2
  have hz1 := hb1.size
  have hz2 := hb2.size
  go_wp2_with fail
  refine (sign_to _ 9218868437227405312 9218868437227405312 rfl (by decide) _).mono ?_
  rintro e w3 ⟨rfl, rfl⟩
  go_wp2_with fail
  go_ret
  refine ⟨rfl, ?_⟩
  go_light
  (repeat (first | exact Below.refl _ _ | exact hb1 | (refine Below.alloc ?_ (by first | omega | (simp; done) | (simp; omega)) _) | refine Below.drew ?_ | (refine Below.setCell ?_ (by first | omega | (simp; done) | (simp; omega)) _) | (refine Below.trans ?_ (hb2.mono (by first | omega | (simp; done) | (simp; omega)))) | (refine Below.trans ?_ (hb1.mono (by first | omega | (simp; done) | (simp; omega))))))

set_option maxRecDepth 100000 in
theorem mul_z_inf (x y : Int) (sa sb : Bool) (ma ea mb eb : Int) (hx : OfIs x 102 sa ma ea) (hy : OfIs y 105 sb mb eb) (za : (ma == 0) = true) (w : World) :
    Calls Try.prog 26 #[.int .u64 x, .int .u64 y] w fun e w' => e = .returned (.int .u64 9221120237041090560) ∧ Below w.heap.size w w' := by
  go_enter Try.func26, Try.ntmps26
  go_wp2_with fail
  refine (hx _).mono ?_
  rintro e w1 ⟨rfl, hb1⟩
  obtain ⟨hc1, hf1⟩ := bcell hb1
  go_wp2_with fail
  refine (hy _).mono ?_
  rintro e w2 ⟨rfl, hb2⟩
  obtain ⟨hc2, hf2⟩ := bcell hb2
  have hz1 := hb1.size
  have hz2 := hb2.size
  go_wp2_with fail
  go_ret
  refine ⟨rfl, ?_⟩
  go_light
  (repeat (first | exact Below.refl _ _ | exact hb1 | (refine Below.alloc ?_ (by first | omega | (simp; done) | (simp; omega)) _) | refine Below.drew ?_ | (refine Below.setCell ?_ (by first | omega | (simp; done) | (simp; omega)) _) | (refine Below.trans ?_ (hb2.mono (by first | omega | (simp; done) | (simp; omega)))) | (refine Below.trans ?_ (hb1.mono (by first | omega | (simp; done) | (simp; omega))))))

set_option maxRecDepth 100000 in
theorem mul_f_inf (x y : Int) (sa sb : Bool) (ma ea mb eb : Int) (hx : OfIs x 102 sa ma ea) (hy : OfIs y 105 sb mb eb) (za : (ma == 0) = false) (w : World) :
    Calls Try.prog 26 #[.int .u64 x, .int .u64 y] w fun e w' => e = .returned (.int .u64 (word (!(sa == sb)) 9218868437227405312)) ∧ Below w.heap.size w w' := by
  go_enter Try.func26, Try.ntmps26
  go_wp2_with fail
  refine (hx _).mono ?_
  rintro e w1 ⟨rfl, hb1⟩
  obtain ⟨hc1, hf1⟩ := bcell hb1
  go_wp2_with fail
  refine (hy _).mono ?_
  rintro e w2 ⟨rfl, hb2⟩
  obtain ⟨hc2, hf2⟩ := bcell hb2
  have hz1 := hb1.size
  have hz2 := hb2.size
  go_wp2_with fail
  refine (sign_to _ 9218868437227405312 9218868437227405312 rfl (by decide) _).mono ?_
  rintro e w3 ⟨rfl, rfl⟩
  go_wp2_with fail
  go_ret
  refine ⟨rfl, ?_⟩
  go_light
  (repeat (first | exact Below.refl _ _ | exact hb1 | (refine Below.alloc ?_ (by first | omega | (simp; done) | (simp; omega)) _) | refine Below.drew ?_ | (refine Below.setCell ?_ (by first | omega | (simp; done) | (simp; omega)) _) | (refine Below.trans ?_ (hb2.mono (by first | omega | (simp; done) | (simp; omega)))) | (refine Below.trans ?_ (hb1.mono (by first | omega | (simp; done) | (simp; omega))))))

set_option maxRecDepth 100000 in
theorem mul_za (x y : Int) (sa sb : Bool) (ma ea mb eb : Int) (hx : OfIs x 102 sa ma ea) (hy : OfIs y 102 sb mb eb) (za : (ma == 0) = true) (w : World) :
    Calls Try.prog 26 #[.int .u64 x, .int .u64 y] w fun e w' => e = .returned (.int .u64 (word (!(sa == sb)) 0)) ∧ Below w.heap.size w w' := by
  go_enter Try.func26, Try.ntmps26
  go_wp2_with fail
  refine (hx _).mono ?_
  rintro e w1 ⟨rfl, hb1⟩
  obtain ⟨hc1, hf1⟩ := bcell hb1
  go_wp2_with fail
  refine (hy _).mono ?_
  rintro e w2 ⟨rfl, hb2⟩
  obtain ⟨hc2, hf2⟩ := bcell hb2
  have hz1 := hb1.size
  have hz2 := hb2.size
  go_wp2_with fail
  refine (sign_to _ 0 0 rfl (by decide) _).mono ?_
  rintro e w3 ⟨rfl, rfl⟩
  go_wp2_with fail
  go_ret
  refine ⟨rfl, ?_⟩
  go_light
  (repeat (first | exact Below.refl _ _ | exact hb1 | (refine Below.alloc ?_ (by first | omega | (simp; done) | (simp; omega)) _) | refine Below.drew ?_ | (refine Below.setCell ?_ (by first | omega | (simp; done) | (simp; omega)) _) | (refine Below.trans ?_ (hb2.mono (by first | omega | (simp; done) | (simp; omega)))) | (refine Below.trans ?_ (hb1.mono (by first | omega | (simp; done) | (simp; omega))))))

set_option maxRecDepth 100000 in
theorem mul_zb (x y : Int) (sa sb : Bool) (ma ea mb eb : Int) (hx : OfIs x 102 sa ma ea) (hy : OfIs y 102 sb mb eb) (za : (ma == 0) = false) (zb : (mb == 0) = true) (w : World) :
    Calls Try.prog 26 #[.int .u64 x, .int .u64 y] w fun e w' => e = .returned (.int .u64 (word (!(sa == sb)) 0)) ∧ Below w.heap.size w w' := by
  go_enter Try.func26, Try.ntmps26
  go_wp2_with fail
  refine (hx _).mono ?_
  rintro e w1 ⟨rfl, hb1⟩
  obtain ⟨hc1, hf1⟩ := bcell hb1
  go_wp2_with fail
  refine (hy _).mono ?_
  rintro e w2 ⟨rfl, hb2⟩
  obtain ⟨hc2, hf2⟩ := bcell hb2
  have hz1 := hb1.size
  have hz2 := hb2.size
  go_wp2_with fail
  refine (sign_to _ 0 0 rfl (by decide) _).mono ?_
  rintro e w3 ⟨rfl, rfl⟩
  go_wp2_with fail
  go_ret
  refine ⟨rfl, ?_⟩
  go_light
  (repeat (first | exact Below.refl _ _ | exact hb1 | (refine Below.alloc ?_ (by first | omega | (simp; done) | (simp; omega)) _) | refine Below.drew ?_ | (refine Below.setCell ?_ (by first | omega | (simp; done) | (simp; omega)) _) | (refine Below.trans ?_ (hb2.mono (by first | omega | (simp; done) | (simp; omega)))) | (refine Below.trans ?_ (hb1.mono (by first | omega | (simp; done) | (simp; omega))))))

end Go.Proofs.Ytelgmffmekfndaa
