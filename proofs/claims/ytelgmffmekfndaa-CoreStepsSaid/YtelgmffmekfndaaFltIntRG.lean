/- The contracts of the reference's FromInt and ToInt: they answer what the program's do. Condition: the word fits 64 bits. -/
import Derived.Test.YtelgmffmekfndaaFltLawsG
import Derived.Test.YtelgmffmekfndaaFltAddsG
set_option linter.unusedVariables false
namespace Go.Proofs.Ytelgmffmekfndaa
open Go.ChangeShapes Go.WideShapes Go.ChangeAt Go.RowKit
open Fl (sg exf fr word rung whole plc mag mant expo kindOf)

theorem reffrom_any (n : Int) (n0 : -9223372036854775808 ≤ n) (n1 : n ≤ 9223372036854775807) (w : World) :
    Calls Try.prog 32 #[.int .i64 n] w fun e w' => e = .returned (.int .u64 (word (decide (n < 0)) (rung n.natAbs 0))) ∧ w = w' := by
  by_cases h : n < 0
  · have e1 : IntKind.u64.wrap (-IntKind.u64.wrap n) = -n := by
      simp only [IntKind.wrap, IntKind.signed, IntKind.bits]; simp; omega
    have e2 : (-n).toNat = n.natAbs := by omega
    have hr := round_any (-n) true 0 (by omega) (by omega) (by omega) (by omega)
    rw [e2] at hr
    rw [decide_eq_true h]
    generalize hR : word true (rung n.natAbs 0) = R at *
    clear hR e2
    go_enter Try.func32, Try.ntmps32
    go_wp2_with fail
    refine (hr _).mono ?_
    rintro e w1 ⟨rfl, rfl⟩
    go_wp2_with fail
    go_ret
    exact ⟨rfl, rfl⟩
  · have e2 : n.toNat = n.natAbs := by omega
    have hr := round_any n false 0 (by omega) (by omega) (by omega) (by omega)
    rw [e2] at hr
    rw [decide_eq_false h]
    generalize hR : word false (rung n.natAbs 0) = R at *
    clear hR e2
    go_enter Try.func32, Try.ntmps32
    go_wp2_with fail
    refine (hr _).mono ?_
    rintro e w1 ⟨rfl, rfl⟩
    go_wp2_with fail
    go_ret
    exact ⟨rfl, rfl⟩

set_option maxRecDepth 100000 in
theorem reftoint_n (x : Int) (sa : Bool) (ma ea : Int) (hx : OfIs x 110 sa ma ea) (w : World) :
    Calls Try.prog 34 #[.int .u64 x] w fun e w' => e = .returned (.int .i64 0) ∧ Below w.heap.size w w' := by
  go_enter Try.func34, Try.ntmps34
  go_wp2_with fail
  refine (hx _).mono ?_
  rintro e w1 ⟨rfl, hb1⟩
  obtain ⟨hc1, hf1⟩ := bcell hb1
  have hz1 := hb1.size
  go_wp2_with fail
  go_ret
  refine ⟨rfl, ?_⟩
  go_light
  (repeat (first | exact Below.refl _ _ | exact hb1 | refine below_drewN ?_ _ | (refine Below.alloc ?_ (by first | omega | (simp; done) | (simp; omega)) _) | refine Below.drew ?_ | (refine Below.setCell ?_ (by first | omega | (simp; done) | (simp; omega)) _) | (refine Below.trans ?_ (hb1.mono (by first | omega | (simp; done) | (simp; omega))))))

set_option maxRecDepth 100000 in
theorem reftoint_ip (x : Int) (sa : Bool) (ma ea : Int) (hx : OfIs x 105 false ma ea) (w : World) :
    Calls Try.prog 34 #[.int .u64 x] w fun e w' => e = .returned (.int .i64 9223372036854775807) ∧ Below w.heap.size w w' := by
  go_enter Try.func34, Try.ntmps34
  go_wp2_with fail
  refine (hx _).mono ?_
  rintro e w1 ⟨rfl, hb1⟩
  obtain ⟨hc1, hf1⟩ := bcell hb1
  have hz1 := hb1.size
  go_wp2_with fail
  go_ret
  refine ⟨rfl, ?_⟩
  go_light
  (repeat (first | exact Below.refl _ _ | exact hb1 | refine below_drewN ?_ _ | (refine Below.alloc ?_ (by first | omega | (simp; done) | (simp; omega)) _) | refine Below.drew ?_ | (refine Below.setCell ?_ (by first | omega | (simp; done) | (simp; omega)) _) | (refine Below.trans ?_ (hb1.mono (by first | omega | (simp; done) | (simp; omega))))))

set_option maxRecDepth 100000 in
theorem reftoint_im (x : Int) (sa : Bool) (ma ea : Int) (hx : OfIs x 105 true ma ea) (w : World) :
    Calls Try.prog 34 #[.int .u64 x] w fun e w' => e = .returned (.int .i64 (-9223372036854775808)) ∧ Below w.heap.size w w' := by
  go_enter Try.func34, Try.ntmps34
  go_wp2_with fail
  refine (hx _).mono ?_
  rintro e w1 ⟨rfl, hb1⟩
  obtain ⟨hc1, hf1⟩ := bcell hb1
  have hz1 := hb1.size
  go_wp2_with fail
  go_ret
  refine ⟨rfl, ?_⟩
  go_light
  (repeat (first | exact Below.refl _ _ | exact hb1 | refine below_drewN ?_ _ | (refine Below.alloc ?_ (by first | omega | (simp; done) | (simp; omega)) _) | refine Below.drew ?_ | (refine Below.setCell ?_ (by first | omega | (simp; done) | (simp; omega)) _) | (refine Below.trans ?_ (hb1.mono (by first | omega | (simp; done) | (simp; omega))))))

set_option maxRecDepth 100000 in
theorem reftoint_z (x : Int) (sa : Bool) (ma ea : Int) (hx : OfIs x 102 sa ma ea) (z : (ma == 0) = true) (w : World) :
    Calls Try.prog 34 #[.int .u64 x] w fun e w' => e = .returned (.int .i64 0) ∧ Below w.heap.size w w' := by
  go_enter Try.func34, Try.ntmps34
  go_wp2_with fail
  refine (hx _).mono ?_
  rintro e w1 ⟨rfl, hb1⟩
  obtain ⟨hc1, hf1⟩ := bcell hb1
  have hz1 := hb1.size
  go_wp2_with fail
  go_ret
  refine ⟨rfl, ?_⟩
  go_light
  (repeat (first | exact Below.refl _ _ | exact hb1 | refine below_drewN ?_ _ | (refine Below.alloc ?_ (by first | omega | (simp; done) | (simp; omega)) _) | refine Below.drew ?_ | (refine Below.setCell ?_ (by first | omega | (simp; done) | (simp; omega)) _) | (refine Below.trans ?_ (hb1.mono (by first | omega | (simp; done) | (simp; omega))))))

set_option maxRecDepth 100000 in
theorem reftoint_low (x : Int) (sa : Bool) (ma ea : Int) (hx : OfIs x 102 sa ma ea) (z : (ma == 0) = false) (h : ea < -53) (w : World) :
    Calls Try.prog 34 #[.int .u64 x] w fun e w' => e = .returned (.int .i64 0) ∧ Below w.heap.size w w' := by
  go_enter Try.func34, Try.ntmps34
  go_wp2_with fail
  refine (hx _).mono ?_
  rintro e w1 ⟨rfl, hb1⟩
  obtain ⟨hc1, hf1⟩ := bcell hb1
  have hz1 := hb1.size
  go_wp2_with fail
  go_ret
  refine ⟨rfl, ?_⟩
  go_light
  (repeat (first | exact Below.refl _ _ | exact hb1 | refine below_drewN ?_ _ | (refine Below.alloc ?_ (by first | omega | (simp; done) | (simp; omega)) _) | refine Below.drew ?_ | (refine Below.setCell ?_ (by first | omega | (simp; done) | (simp; omega)) _) | (refine Below.trans ?_ (hb1.mono (by first | omega | (simp; done) | (simp; omega))))))

set_option maxRecDepth 100000 in
theorem reftoint_hp (x : Int) (sa : Bool) (ma ea : Int) (hx : OfIs x 102 false ma ea) (z : (ma == 0) = false) (h : 10 < ea) (w : World) :
    Calls Try.prog 34 #[.int .u64 x] w fun e w' => e = .returned (.int .i64 9223372036854775807) ∧ Below w.heap.size w w' := by
  go_enter Try.func34, Try.ntmps34
  go_wp2_with fail
  refine (hx _).mono ?_
  rintro e w1 ⟨rfl, hb1⟩
  obtain ⟨hc1, hf1⟩ := bcell hb1
  have hz1 := hb1.size
  go_wp2_with fail
  go_ret
  refine ⟨rfl, ?_⟩
  go_light
  (repeat (first | exact Below.refl _ _ | exact hb1 | refine below_drewN ?_ _ | (refine Below.alloc ?_ (by first | omega | (simp; done) | (simp; omega)) _) | refine Below.drew ?_ | (refine Below.setCell ?_ (by first | omega | (simp; done) | (simp; omega)) _) | (refine Below.trans ?_ (hb1.mono (by first | omega | (simp; done) | (simp; omega))))))

set_option maxRecDepth 100000 in
theorem reftoint_hm (x : Int) (sa : Bool) (ma ea : Int) (hx : OfIs x 102 true ma ea) (z : (ma == 0) = false) (h : 10 < ea) (w : World) :
    Calls Try.prog 34 #[.int .u64 x] w fun e w' => e = .returned (.int .i64 (-9223372036854775808)) ∧ Below w.heap.size w w' := by
  go_enter Try.func34, Try.ntmps34
  go_wp2_with fail
  refine (hx _).mono ?_
  rintro e w1 ⟨rfl, hb1⟩
  obtain ⟨hc1, hf1⟩ := bcell hb1
  have hz1 := hb1.size
  go_wp2_with fail
  go_ret
  refine ⟨rfl, ?_⟩
  go_light
  (repeat (first | exact Below.refl _ _ | exact hb1 | refine below_drewN ?_ _ | (refine Below.alloc ?_ (by first | omega | (simp; done) | (simp; omega)) _) | refine Below.drew ?_ | (refine Below.setCell ?_ (by first | omega | (simp; done) | (simp; omega)) _) | (refine Below.trans ?_ (hb1.mono (by first | omega | (simp; done) | (simp; omega))))))

set_option maxRecDepth 100000 in
theorem reftoint_dp (x : Int) (sa : Bool) (ma ea : Int) (hx : OfIs x 102 false ma ea) (z : (ma == 0) = false) (K : Int) (k0 : 0 ≤ K) (k1 : K < 9223372036854775808) (h0 : -53 ≤ ea) (h1 : ea < 0) (hK : ma / 2 ^ (-ea).toNat = K) (w : World) :
    Calls Try.prog 34 #[.int .u64 x] w fun e w' => e = .returned (.int .i64 K) ∧ Below w.heap.size w w' := by
  go_enter Try.func34, Try.ntmps34
  go_wp2_with fail
  refine (hx _).mono ?_
  rintro e w1 ⟨rfl, hb1⟩
  obtain ⟨hc1, hf1⟩ := bcell hb1
  have hz1 := hb1.size
  go_wp2_with fail
  go_ret
  refine ⟨rfl, ?_⟩
  go_light
  (repeat (first | exact Below.refl _ _ | exact hb1 | refine below_drewN ?_ _ | (refine Below.alloc ?_ (by first | omega | (simp; done) | (simp; omega)) _) | refine Below.drew ?_ | (refine Below.setCell ?_ (by first | omega | (simp; done) | (simp; omega)) _) | (refine Below.trans ?_ (hb1.mono (by first | omega | (simp; done) | (simp; omega))))))

set_option maxRecDepth 100000 in
theorem reftoint_dm (x : Int) (sa : Bool) (ma ea : Int) (hx : OfIs x 102 true ma ea) (z : (ma == 0) = false) (K : Int) (k0 : 0 ≤ K) (k1 : K < 9223372036854775808) (h0 : -53 ≤ ea) (h1 : ea < 0) (hK : ma / 2 ^ (-ea).toNat = K) (w : World) :
    Calls Try.prog 34 #[.int .u64 x] w fun e w' => e = .returned (.int .i64 (-K)) ∧ Below w.heap.size w w' := by
  go_enter Try.func34, Try.ntmps34
  go_wp2_with fail
  refine (hx _).mono ?_
  rintro e w1 ⟨rfl, hb1⟩
  obtain ⟨hc1, hf1⟩ := bcell hb1
  have hz1 := hb1.size
  go_wp2_with fail
  go_ret
  refine ⟨rfl, ?_⟩
  go_light
  (repeat (first | exact Below.refl _ _ | exact hb1 | refine below_drewN ?_ _ | (refine Below.alloc ?_ (by first | omega | (simp; done) | (simp; omega)) _) | refine Below.drew ?_ | (refine Below.setCell ?_ (by first | omega | (simp; done) | (simp; omega)) _) | (refine Below.trans ?_ (hb1.mono (by first | omega | (simp; done) | (simp; omega))))))

set_option maxRecDepth 100000 in
theorem reftoint_up (x : Int) (sa : Bool) (ma ea : Int) (hx : OfIs x 102 false ma ea) (z : (ma == 0) = false) (K : Int) (k0 : 0 ≤ K) (k1 : K < 9223372036854775808) (h0 : 0 ≤ ea) (h1 : ea ≤ 10) (hK : IntKind.u64.wrap (ma * 2 ^ ea.toNat) = K) (w : World) :
    Calls Try.prog 34 #[.int .u64 x] w fun e w' => e = .returned (.int .i64 K) ∧ Below w.heap.size w w' := by
  go_enter Try.func34, Try.ntmps34
  go_wp2_with fail
  refine (hx _).mono ?_
  rintro e w1 ⟨rfl, hb1⟩
  obtain ⟨hc1, hf1⟩ := bcell hb1
  have hz1 := hb1.size
  go_wp2_with fail
  go_ret
  refine ⟨rfl, ?_⟩
  go_light
  (repeat (first | exact Below.refl _ _ | exact hb1 | refine below_drewN ?_ _ | (refine Below.alloc ?_ (by first | omega | (simp; done) | (simp; omega)) _) | refine Below.drew ?_ | (refine Below.setCell ?_ (by first | omega | (simp; done) | (simp; omega)) _) | (refine Below.trans ?_ (hb1.mono (by first | omega | (simp; done) | (simp; omega))))))

set_option maxRecDepth 100000 in
theorem reftoint_um (x : Int) (sa : Bool) (ma ea : Int) (hx : OfIs x 102 true ma ea) (z : (ma == 0) = false) (K : Int) (k0 : 0 ≤ K) (k1 : K < 9223372036854775808) (h0 : 0 ≤ ea) (h1 : ea ≤ 10) (hK : IntKind.u64.wrap (ma * 2 ^ ea.toNat) = K) (w : World) :
    Calls Try.prog 34 #[.int .u64 x] w fun e w' => e = .returned (.int .i64 (-K)) ∧ Below w.heap.size w w' := by
  go_enter Try.func34, Try.ntmps34
  go_wp2_with fail
  refine (hx _).mono ?_
  rintro e w1 ⟨rfl, hb1⟩
  obtain ⟨hc1, hf1⟩ := bcell hb1
  have hz1 := hb1.size
  go_wp2_with fail
  go_ret
  refine ⟨rfl, ?_⟩
  go_light
  (repeat (first | exact Below.refl _ _ | exact hb1 | refine below_drewN ?_ _ | (refine Below.alloc ?_ (by first | omega | (simp; done) | (simp; omega)) _) | refine Below.drew ?_ | (refine Below.setCell ?_ (by first | omega | (simp; done) | (simp; omega)) _) | (refine Below.trans ?_ (hb1.mono (by first | omega | (simp; done) | (simp; omega))))))

theorem reftoint_any (x : Int) (x0 : 0 ≤ x) (x1 : x < 18446744073709551616) (w : World) :
    Calls Try.prog 34 #[.int .u64 x] w fun e w' => e = .returned (.int .i64 (whole x.toNat)) ∧ Below w.heap.size w w' := by
  have hx : x.toNat < 2 ^ 64 := by omega
  by_cases kx : exf x.toNat = 2047
  · by_cases fx : fr x.toNat = 0
    · have ix := is_inf x x0 x1 kx fx
      have hw : whole x.toNat = if sg x.toNat then -9223372036854775808 else 9223372036854775807 := by unfold whole; rw [if_pos kx, if_pos fx]
      rw [hw]
      cases hs : sg x.toNat <;> rw [hs] at ix
      · exact reftoint_ip x false _ _ ix w
      · exact reftoint_im x true _ _ ix w
    · have hw : whole x.toNat = 0 := by unfold whole; rw [if_pos kx, if_neg fx]
      rw [hw]
      exact reftoint_n x _ _ _ (is_nan x x0 x1 kx fx) w
  have ix := is_fin x x0 x1 kx
  by_cases z : mant x.toNat = 0
  · rw [Fl.whole_low kx (.inl z)]
    exact reftoint_z x _ _ _ ix (by simp; omega) w
  have zf : ((mant x.toNat : Int) == 0) = false := by simp; omega
  have m1 := Fl.mant_lt x.toNat
  by_cases h : expo x.toNat < -53
  · rw [Fl.whole_low kx (.inr h)]
    exact reftoint_low x _ _ _ ix zf h w
  by_cases g : 10 < expo x.toNat
  · have hw : whole x.toNat = if sg x.toNat then -9223372036854775808 else 9223372036854775807 := by unfold whole; rw [if_neg kx, if_neg (by omega), if_pos g]
    rw [hw]
    cases hs : sg x.toNat <;> rw [hs] at ix
    · exact reftoint_hp x false _ _ ix zf g w
    · exact reftoint_hm x true _ _ ix zf g w
  rw [Fl.whole_mid kx (by omega) g]
  by_cases f : expo x.toNat < 0
  · rw [if_pos f]
    have e1 : (mant x.toNat : Int) / 2 ^ (-expo x.toNat).toNat = ((mant x.toNat / 2 ^ (-expo x.toNat).toNat : Nat) : Int) := by
      rw [pow_cast, Int.natCast_ediv]
    have e2 := Nat.div_le_self (mant x.toNat) (2 ^ (-expo x.toNat).toNat)
    generalize mant x.toNat / 2 ^ (-expo x.toNat).toNat = Q at *
    cases hs : sg x.toNat <;> rw [hs] at ix
    · exact reftoint_dp x false _ _ ix zf _ (by omega) (by omega) (by omega) f e1 w
    · exact reftoint_dm x true _ _ ix zf _ (by omega) (by omega) (by omega) f e1 w
  · rw [if_neg f]
    have e2 : 2 ^ (expo x.toNat).toNat ≤ 2 ^ 10 := Nat.pow_le_pow_right (by omega) (by omega)
    have e3 := Nat.mul_le_mul_left (mant x.toNat) e2
    have e1 : IntKind.u64.wrap ((mant x.toNat : Int) * 2 ^ (expo x.toNat).toNat) = ((mant x.toNat * 2 ^ (expo x.toNat).toNat : Nat) : Int) := by
      rw [pow_cast, ← Int.natCast_mul, IntKind.wrap_u64]
      omega
    cases hs : sg x.toNat <;> rw [hs] at ix
    · exact reftoint_up x false _ _ ix zf _ (by omega) (by omega) (by omega) (by omega) e1 w
    · exact reftoint_um x true _ _ ix zf _ (by omega) (by omega) (by omega) (by omega) e1 w
end Go.Proofs.Ytelgmffmekfndaa
