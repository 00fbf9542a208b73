/- The contract of the reference's Sqrt: it answers the root that the standard gives, of whatever word. Condition: the word fits 64 bits. -/
import Derived.Test.YtelgmffmekfndaaFltSqrt
set_option linter.unusedVariables false
namespace Go.Proofs.Ytelgmffmekfndaa
open Go.ChangeShapes Go.WideShapes Go.ChangeAt Go.RowKit
open Fl (sg exf fr kindOf mant expo ups word rung numOf RootInv two twor IsRoot)

theorem half_even (e : Int) (h : e % 2 = 0) : e.tmod 2 = 0 ∧ e.tdiv 2 = e / 2 := by
  obtain ⟨k, rfl⟩ : ∃ k, e = 2 * k := ⟨e / 2, by omega⟩
  refine ⟨Int.mul_tmod_right 2 k, ?_⟩
  rw [Int.mul_tdiv_cancel_left k (by decide)]
  omega

theorem half_odd (e : Int) (h : ¬ e % 2 = 0) : e.tmod 2 ≠ 0 ∧ (e - 1).tdiv 2 = (e - 1) / 2 := by
  refine ⟨fun t => ?_, (half_even _ (by omega)).2⟩
  have q := Int.mul_tdiv_add_tmod e 2
  rw [t] at q
  omega

set_option maxRecDepth 100000 in
theorem sqrt_z (x : Int) (sa : Bool) (ma ea : Int) (hx : OfIs x 102 sa ma ea) (z : (ma == 0) = true) (w : World) :
    Calls Try.prog 30 #[.int .u64 x] w fun e w' => e = .returned (.int .u64 x) ∧ Below w.heap.size w w' := by
  go_enter Try.func30, Try.ntmps30
  go_wp2_with fail
  refine (hx _).mono ?_
  rintro e w1 ⟨rfl, hb1⟩
  obtain ⟨hc1, hf1⟩ := bcell hb1
  have hz1 := hb1.size
  go_wp2_with fail
  go_ret
  refine ⟨rfl, ?_⟩
  go_light
  (repeat (first | exact Below.refl _ _ | exact hb1 | refine below_drewN ?_ _ | (refine Below.alloc ?_ (by first | omega | (simp; done) | (simp; omega)) _) | refine Below.drew ?_ | (refine Below.setCell ?_ (by first | omega | (simp; done) | (simp; omega)) _) | (refine Below.trans ?_ (hb1.mono (by first | omega | (simp; done) | (simp; omega))))))

set_option maxRecDepth 100000 in
theorem sqrt_n (x : Int) (sa : Bool) (ma ea : Int) (hx : OfIs x 110 sa ma ea) (w : World) :
    Calls Try.prog 30 #[.int .u64 x] w fun e w' => e = .returned (.int .u64 9221120237041090560) ∧ Below w.heap.size w w' := by
  go_enter Try.func30, Try.ntmps30
  go_wp2_with fail
  refine (hx _).mono ?_
  rintro e w1 ⟨rfl, hb1⟩
  obtain ⟨hc1, hf1⟩ := bcell hb1
  have hz1 := hb1.size
  go_wp2_with fail
  go_ret
  refine ⟨rfl, ?_⟩
  go_light
  (repeat (first | exact Below.refl _ _ | exact hb1 | refine below_drewN ?_ _ | (refine Below.alloc ?_ (by first | omega | (simp; done) | (simp; omega)) _) | refine Below.drew ?_ | (refine Below.setCell ?_ (by first | omega | (simp; done) | (simp; omega)) _) | (refine Below.trans ?_ (hb1.mono (by first | omega | (simp; done) | (simp; omega))))))

set_option maxRecDepth 100000 in
theorem sqrt_i (x : Int) (sa : Bool) (ma ea : Int) (hx : OfIs x 105 false ma ea) (w : World) :
    Calls Try.prog 30 #[.int .u64 x] w fun e w' => e = .returned (.int .u64 x) ∧ Below w.heap.size w w' := by
  go_enter Try.func30, Try.ntmps30
  go_wp2_with fail
  refine (hx _).mono ?_
  rintro e w1 ⟨rfl, hb1⟩
  obtain ⟨hc1, hf1⟩ := bcell hb1
  have hz1 := hb1.size
  go_wp2_with fail
  go_ret
  refine ⟨rfl, ?_⟩
  go_light
  (repeat (first | exact Below.refl _ _ | exact hb1 | refine below_drewN ?_ _ | (refine Below.alloc ?_ (by first | omega | (simp; done) | (simp; omega)) _) | refine Below.drew ?_ | (refine Below.setCell ?_ (by first | omega | (simp; done) | (simp; omega)) _) | (refine Below.trans ?_ (hb1.mono (by first | omega | (simp; done) | (simp; omega))))))

set_option maxRecDepth 100000 in
theorem sqrt_in (x : Int) (sa : Bool) (ma ea : Int) (hx : OfIs x 105 true ma ea) (w : World) :
    Calls Try.prog 30 #[.int .u64 x] w fun e w' => e = .returned (.int .u64 9221120237041090560) ∧ Below w.heap.size w w' := by
  go_enter Try.func30, Try.ntmps30
  go_wp2_with fail
  refine (hx _).mono ?_
  rintro e w1 ⟨rfl, hb1⟩
  obtain ⟨hc1, hf1⟩ := bcell hb1
  have hz1 := hb1.size
  go_wp2_with fail
  go_ret
  refine ⟨rfl, ?_⟩
  go_light
  (repeat (first | exact Below.refl _ _ | exact hb1 | refine below_drewN ?_ _ | (refine Below.alloc ?_ (by first | omega | (simp; done) | (simp; omega)) _) | refine Below.drew ?_ | (refine Below.setCell ?_ (by first | omega | (simp; done) | (simp; omega)) _) | (refine Below.trans ?_ (hb1.mono (by first | omega | (simp; done) | (simp; omega))))))

set_option maxRecDepth 100000 in
theorem sqrt_neg (x : Int) (sa : Bool) (ma ea : Int) (hx : OfIs x 102 true ma ea) (z : (ma == 0) = false) (w : World) :
    Calls Try.prog 30 #[.int .u64 x] w fun e w' => e = .returned (.int .u64 9221120237041090560) ∧ Below w.heap.size w w' := by
  go_enter Try.func30, Try.ntmps30
  go_wp2_with fail
  refine (hx _).mono ?_
  rintro e w1 ⟨rfl, hb1⟩
  obtain ⟨hc1, hf1⟩ := bcell hb1
  have hz1 := hb1.size
  go_wp2_with fail
  go_ret
  refine ⟨rfl, ?_⟩
  go_light
  (repeat (first | exact Below.refl _ _ | exact hb1 | refine below_drewN ?_ _ | (refine Below.alloc ?_ (by first | omega | (simp; done) | (simp; omega)) _) | refine Below.drew ?_ | (refine Below.setCell ?_ (by first | omega | (simp; done) | (simp; omega)) _) | (refine Below.trans ?_ (hb1.mono (by first | omega | (simp; done) | (simp; omega))))))

theorem refsqrt_any (x : Int) (x0 : 0 ≤ x) (x1 : x < 18446744073709551616) (w : World) :
    Calls Try.prog 30 #[.int .u64 x] w fun e w' => e = .returned (.int .u64 (numOf (Ieee.double.sqrt x.toNat))) ∧ Below w.heap.size w w' := by
  have hx : x.toNat < 2 ^ 64 := by omega
  have vx : ((x.toNat : Nat) : Int) = x := Int.toNat_of_nonneg x0
  by_cases kx : exf x.toNat = 2047
  · by_cases fx : fr x.toNat = 0
    · have ix := is_inf x x0 x1 kx fx
      rw [Fl.sqrt_inf _ hx kx fx]
      cases hs : sg x.toNat <;> rw [hs] at ix
      · rw [if_neg (by simp), vx]; exact sqrt_i x false _ _ ix w
      · rw [if_pos rfl]; exact sqrt_in x true _ _ ix w
    · rw [Fl.sqrt_nan _ hx kx fx]
      exact sqrt_n x _ _ _ (is_nan x x0 x1 kx fx) w
  have ix := is_fin x x0 x1 kx
  by_cases z : mant x.toNat = 0
  · rw [Fl.sqrt_zero _ hx kx z, vx]
    exact sqrt_z x _ _ _ ix (by simp; omega) w
  have zf : ((mant x.toNat : Int) == 0) = false := by simp; omega
  cases hs : sg x.toNat <;> rw [hs] at ix
  · have mx0 := Fl.mant_ge _ kx z
    have mx1 := Fl.mant_lt x.toNat
    have e0 := (Fl.expo_bd x.toNat).1
    have e1 := Fl.expo_fin _ kx
    by_cases he : expo x.toNat % 2 = 0
    · have t2 := (half_even _ he).1
      have hH := (half_even _ he).2
      refine sqrt_even x _ _ (expo x.toNat / 2) _ ix zf (by omega) (by omega) e0 e1 (by rw [t2]; rfl) hH (by omega) (by omega) ?_ w
      intro R hR
      rw [Int.toNat_natCast] at hR ⊢
      have L := Fl.sqrt_law x.toNat hx kx z hs 0 (by omega) (by omega) R (by simpa using hR)
      rw [L]
      simp
    · have t2 : ((expo x.toNat).tmod 2 != 0) = true := by rw [bne_iff_ne]; exact (half_odd _ he).1
      have hH := (half_odd _ he).2
      refine sqrt_odd x _ _ ((expo x.toNat - 1) / 2) _ ix zf (by omega) (by omega) e0 e1 t2 hH (by omega) (by omega) ?_ w
      intro R hR
      have e2 : ((mant x.toNat : Int) * 2).toNat = mant x.toNat * 2 ^ 1 := by omega
      rw [e2] at hR ⊢
      have L := Fl.sqrt_law x.toNat hx kx z hs 1 (by omega) (by omega) R hR
      exact L
  · rw [Fl.sqrt_neg _ hx kx z hs]
    exact sqrt_neg x true _ _ ix zf w
end Go.Proofs.Ytelgmffmekfndaa
