/- The contract of the reference's Div: it answers the quotient that the standard gives, of whatever two words. Condition: the words fit 64 bits. -/
import Derived.Test.YtelgmffmekfndaaFltDivB
set_option linter.unusedVariables false
namespace Go.Proofs.Ytelgmffmekfndaa
open Go.ChangeShapes Go.WideShapes Go.ChangeAt Go.RowKit
open Fl (sg exf fr kindOf mant expo ups word rung numOf divm)

theorem refdiv_any (x y : Int) (x0 : 0 ≤ x) (x1 : x < 18446744073709551616) (y0 : 0 ≤ y) (y1 : y < 18446744073709551616) (w : World) :
    Calls Try.prog 28 #[.int .u64 x, .int .u64 y] w fun e w' => e = .returned (.int .u64 (numOf (Ieee.double.div x.toNat y.toNat))) ∧ Below w.heap.size w w' := by
  have hx : x.toNat < 2 ^ 64 := by omega
  have hy : y.toNat < 2 ^ 64 := by omega
  have tz : ∀ n : Nat, n = 0 → (((n : Nat) : Int) == 0) = true := by intro n h; simp; omega
  have fz : ∀ n : Nat, n ≠ 0 → (((n : Nat) : Int) == 0) = false := by intro n h; simp; omega
  by_cases kx : exf x.toNat = 2047
  · by_cases fx : fr x.toNat = 0
    · have ix := is_inf x x0 x1 kx fx
      by_cases ky : exf y.toNat = 2047
      · by_cases fy : fr y.toNat = 0
        · rw [Fl.div_inf_inf _ _ hx hy kx fx ky fy]
          exact div_ii x y _ _ _ _ _ _ ix (is_inf y y0 y1 ky fy) w
        · rw [Fl.div_nan_r _ _ hy ky fy]
          exact div_n5 x y _ _ _ _ _ _ ix (is_nan y y0 y1 ky fy) w
      · have iy := is_fin y y0 y1 ky
        rw [Fl.div_inf_fin _ _ hx hy kx fx ky]
        by_cases zy : mant y.toNat = 0
        · exact div_iz x y _ _ _ _ _ _ ix iy (tz _ zy) w
        · exact div_if x y _ _ _ _ _ _ ix iy (fz _ zy) w
    · rw [Fl.div_nan_l _ _ hx kx fx]
      have ix := is_nan x x0 x1 kx fx
      by_cases ky : exf y.toNat = 2047
      · by_cases fy : fr y.toNat = 0
        · exact div_n2 x y _ _ _ _ _ _ ix (is_inf y y0 y1 ky fy) w
        · exact div_n1 x y _ _ _ _ _ _ ix (is_nan y y0 y1 ky fy) w
      · have iy := is_fin y y0 y1 ky
        by_cases zy : mant y.toNat = 0
        · exact div_n3 x y _ _ _ _ _ _ ix iy (tz _ zy) w
        · exact div_n4 x y _ _ _ _ _ _ ix iy (fz _ zy) w
  have ix := is_fin x x0 x1 kx
  by_cases ky : exf y.toNat = 2047
  · by_cases fy : fr y.toNat = 0
    · have iy := is_inf y y0 y1 ky fy
      rw [Fl.div_fin_inf _ _ hx hy kx ky fy]
      by_cases zx : mant x.toNat = 0
      · exact div_zi x y _ _ _ _ _ _ ix iy (tz _ zx) w
      · exact div_fi x y _ _ _ _ _ _ ix iy (fz _ zx) w
    · rw [Fl.div_nan_r _ _ hy ky fy]
      have iy := is_nan y y0 y1 ky fy
      by_cases zx : mant x.toNat = 0
      · exact div_n6 x y _ _ _ _ _ _ ix iy (tz _ zx) w
      · exact div_n7 x y _ _ _ _ _ _ ix iy (fz _ zx) w
  have iy := is_fin y y0 y1 ky
  by_cases zy : mant y.toNat = 0
  · rw [Fl.div_by_zero _ _ hx hy kx ky zy]
    by_cases zx : mant x.toNat = 0
    · rw [if_pos zx]
      exact div_zz x y _ _ _ _ _ _ ix iy (tz _ zx) (tz _ zy) w
    · rw [if_neg zx]
      exact div_fz x y _ _ _ _ _ _ ix iy (fz _ zx) (tz _ zy) w
  by_cases zx : mant x.toNat = 0
  · rw [Fl.zero_div _ _ hx hy kx ky zx zy]
    exact div_zf x y _ _ _ _ _ _ ix iy (tz _ zx) (fz _ zy) w
  have mx0 := Fl.mant_ge _ kx zx
  have mx1 := Fl.mant_lt x.toNat
  have my0 := Fl.mant_ge _ ky zy
  have my1 := Fl.mant_lt y.toNat
  rw [Fl.div_law _ _ hx hy kx ky zx zy]
  have W := div_fin x y _ _ _ _ _ _ ix iy (fz _ zx) (by omega) (by omega) (Fl.expo_bd _).1 (Fl.expo_fin _ kx) (fz _ zy) (by omega) (by omega) (Fl.expo_bd _).1 (Fl.expo_fin _ ky) w
  rw [Int.toNat_natCast, Int.toNat_natCast] at W
  exact W
end Go.Proofs.Ytelgmffmekfndaa
