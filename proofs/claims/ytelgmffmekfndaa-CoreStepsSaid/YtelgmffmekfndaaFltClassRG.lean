/- The contract of the reference's Class. Condition: the word fits 64 bits. -/
import Derived.Test.YtelgmffmekfndaaFltOrdRG
set_option linter.unusedVariables false
namespace Go.Proofs.Ytelgmffmekfndaa
open Go.ChangeShapes Go.WideShapes Go.ChangeAt Go.RowKit
open Fl (sg exf fr kindOf mant expo)

set_option maxRecDepth 100000 in
theorem refclass_n (x : Int) (sa : Bool) (ma ea : Int) (hx : OfIs x 110 sa ma ea) (w : World) :
    Calls Try.prog 45 #[.int .u64 x] w fun e w' => e = .returned (.int .i64 4) ∧ Below w.heap.size w w' := by
  go_enter Try.func45, Try.ntmps45
  go_wp2_with fail
  refine (hx _).mono ?_
  rintro e w1 ⟨rfl, hb1⟩
  obtain ⟨hc1, hf1⟩ := bcell hb1
  have hz1 := hb1.size
  go_wp2_with fail
  go_ret
  refine ⟨rfl, ?_⟩
  go_light
  (repeat (first | exact Below.refl _ _ | exact hb1 | refine below_drewN ?_ _ | (refine Below.alloc ?_ (by first | omega | (simp; done) | (simp; omega)) _) | refine Below.drew ?_ | (refine Below.setCell ?_ (by first | omega | (simp; done) | (simp; omega)) _) | (refine Below.trans ?_ (hb1.mono (by first | omega | (simp; done) | (simp; omega))))))

set_option maxRecDepth 100000 in
theorem refclass_i (x : Int) (sa : Bool) (ma ea : Int) (hx : OfIs x 105 sa ma ea) (w : World) :
    Calls Try.prog 45 #[.int .u64 x] w fun e w' => e = .returned (.int .i64 3) ∧ Below w.heap.size w w' := by
  go_enter Try.func45, Try.ntmps45
  go_wp2_with fail
  refine (hx _).mono ?_
  rintro e w1 ⟨rfl, hb1⟩
  obtain ⟨hc1, hf1⟩ := bcell hb1
  have hz1 := hb1.size
  go_wp2_with fail
  go_ret
  refine ⟨rfl, ?_⟩
  go_light
  (repeat (first | exact Below.refl _ _ | exact hb1 | refine below_drewN ?_ _ | (refine Below.alloc ?_ (by first | omega | (simp; done) | (simp; omega)) _) | refine Below.drew ?_ | (refine Below.setCell ?_ (by first | omega | (simp; done) | (simp; omega)) _) | (refine Below.trans ?_ (hb1.mono (by first | omega | (simp; done) | (simp; omega))))))

set_option maxRecDepth 100000 in
theorem refclass_z (x : Int) (sa : Bool) (ma ea : Int) (hx : OfIs x 102 sa ma ea) (z : (ma == 0) = true) (w : World) :
    Calls Try.prog 45 #[.int .u64 x] w fun e w' => e = .returned (.int .i64 0) ∧ Below w.heap.size w w' := by
  go_enter Try.func45, Try.ntmps45
  go_wp2_with fail
  refine (hx _).mono ?_
  rintro e w1 ⟨rfl, hb1⟩
  obtain ⟨hc1, hf1⟩ := bcell hb1
  have hz1 := hb1.size
  go_wp2_with fail
  go_ret
  refine ⟨rfl, ?_⟩
  go_light
  (repeat (first | exact Below.refl _ _ | exact hb1 | refine below_drewN ?_ _ | (refine Below.alloc ?_ (by first | omega | (simp; done) | (simp; omega)) _) | refine Below.drew ?_ | (refine Below.setCell ?_ (by first | omega | (simp; done) | (simp; omega)) _) | (refine Below.trans ?_ (hb1.mono (by first | omega | (simp; done) | (simp; omega))))))

set_option maxRecDepth 100000 in
theorem refclass_s (x X : Int) (sa : Bool) (ma ea : Int) (hx : OfIs x 102 sa ma ea) (z : (ma == 0) = false) (hX : bits .and .u64 (x / 4503599627370496) 2047 = X) (t : (X == 0) = true) (w : World) :
    Calls Try.prog 45 #[.int .u64 x] w fun e w' => e = .returned (.int .i64 1) ∧ Below w.heap.size w w' := by
  go_enter Try.func45, Try.ntmps45
  go_wp2_with fail
  refine (hx _).mono ?_
  rintro e w1 ⟨rfl, hb1⟩
  obtain ⟨hc1, hf1⟩ := bcell hb1
  have hz1 := hb1.size
  go_wp2_with fail
  go_ret
  refine ⟨rfl, ?_⟩
  go_light
  (repeat (first | exact Below.refl _ _ | exact hb1 | refine below_drewN ?_ _ | (refine Below.alloc ?_ (by first | omega | (simp; done) | (simp; omega)) _) | refine Below.drew ?_ | (refine Below.setCell ?_ (by first | omega | (simp; done) | (simp; omega)) _) | (refine Below.trans ?_ (hb1.mono (by first | omega | (simp; done) | (simp; omega))))))

set_option maxRecDepth 100000 in
theorem refclass_o (x X : Int) (sa : Bool) (ma ea : Int) (hx : OfIs x 102 sa ma ea) (z : (ma == 0) = false) (hX : bits .and .u64 (x / 4503599627370496) 2047 = X) (t : (X == 0) = false) (w : World) :
    Calls Try.prog 45 #[.int .u64 x] w fun e w' => e = .returned (.int .i64 2) ∧ Below w.heap.size w w' := by
  go_enter Try.func45, Try.ntmps45
  go_wp2_with fail
  refine (hx _).mono ?_
  rintro e w1 ⟨rfl, hb1⟩
  obtain ⟨hc1, hf1⟩ := bcell hb1
  have hz1 := hb1.size
  go_wp2_with fail
  go_ret
  refine ⟨rfl, ?_⟩
  go_light
  (repeat (first | exact Below.refl _ _ | exact hb1 | refine below_drewN ?_ _ | (refine Below.alloc ?_ (by first | omega | (simp; done) | (simp; omega)) _) | refine Below.drew ?_ | (refine Below.setCell ?_ (by first | omega | (simp; done) | (simp; omega)) _) | (refine Below.trans ?_ (hb1.mono (by first | omega | (simp; done) | (simp; omega))))))

theorem refclass_any (x : Int) (x0 : 0 ≤ x) (x1 : x < 18446744073709551616) (w : World) :
    Calls Try.prog 45 #[.int .u64 x] w fun e w' => e = .returned (.int .i64 (classN x.toNat)) ∧ Below w.heap.size w w' := by
  have hX : bits .and .u64 (x / 4503599627370496) 2047 = (exf x.toNat : Int) := by
    have := mask_u64 (x / 4503599627370496) (by omega) (by omega) 11 (by omega)
    rw [show ((2 ^ 11 - 1 : Nat) : Int) = 2047 by rfl] at this
    rw [this]
    unfold exf
    omega
  unfold classN
  by_cases kx : exf x.toNat = 2047
  · by_cases fx : fr x.toNat = 0
    · rw [if_pos kx, if_pos fx]
      exact refclass_i x _ _ _ (is_inf x x0 x1 kx fx) w
    · rw [if_pos kx, if_neg fx]
      exact refclass_n x _ _ _ (is_nan x x0 x1 kx fx) w
  have ix := is_fin x x0 x1 kx
  have mz := Fl.mag_zero x.toNat kx
  unfold Fl.mag at mz
  rw [if_neg kx]
  by_cases z : mant x.toNat = 0
  · have q := mz.2 z
    have e0 : exf x.toNat = 0 := by
      by_cases e0 : exf x.toNat = 0
      · exact e0
      · rw [if_neg e0] at q; omega
    rw [if_pos e0] at q ⊢
    rw [if_pos q]
    exact refclass_z x _ _ _ ix (by simp; omega) w
  · have zf : ((mant x.toNat : Int) == 0) = false := by simp; omega
    by_cases e0 : exf x.toNat = 0
    · rw [if_pos e0] at mz ⊢
      rw [if_neg (fun q => z (mz.1 q))]
      exact refclass_s x _ _ _ _ ix zf hX (by simp; omega) w
    · rw [if_neg e0]
      exact refclass_o x _ _ _ _ ix zf hX (by simp; omega) w
end Go.Proofs.Ytelgmffmekfndaa
