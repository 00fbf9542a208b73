/- Numbers in order: the given reading's order is that of the signed rungs; both noughts are one. Plain law, no program. Condition: the words fit 64 bits. -/
import Derived.Test.YtelgmffmekfndaaFltIntLaw
namespace Go.Proofs.Ytelgmffmekfndaa.Fl
open Ieee (double)

/-- the place in the row of numbers -/
def rankN (b : Nat) : Int := if sg b then -((b % 2 ^ 63 : Nat) : Int) else ((b % 2 ^ 63 : Nat) : Int)
/-- is it a number -/
def isN (b : Nat) : Prop := ¬ (exf b = 2047 ∧ fr b ≠ 0)

theorem cmp_congr {a b c d : Int} (h1 : a < b → c < d) (h2 : b < a → d < c) (h3 : a = b → c = d) : compare c d = compare a b := by
  rcases Int.lt_trichotomy a b with h | h | h
  · rw [cmp_lt h, cmp_lt (h1 h)]
  · rw [h, cmp_eq, h3 h, cmp_eq]
  · rw [cmp_gt h, cmp_gt (h2 h)]

theorem rung_parts (x y : Nat) (hx : x < 2 ^ 64) (hy : y < 2 ^ 64) (h : x % 2 ^ 63 = y % 2 ^ 63) : mag x = mag y ∧ plc x = plc y := by
  have rx := rungOf x hx
  have ry := rungOf y hy
  have fx := fr_lt x
  have fy := fr_lt y
  have e1 : exf x = exf y := by omega
  have e2 : fr x = fr y := by omega
  unfold mag plc
  rw [e1, e2]
  exact ⟨rfl, rfl⟩

theorem rung_order (x y : Nat) (hx : x < 2 ^ 64) (hy : y < 2 ^ 64) (kx : exf x ≠ 2047) (ky : exf y ≠ 2047) (i j : Nat) (e : plc x - i = plc y - j) (h : x % 2 ^ 63 < y % 2 ^ 63) :
    mag x * 2 ^ i < mag y * 2 ^ j := by
  rcases Nat.lt_or_ge (mag x * 2 ^ i) (mag y * 2 ^ j) with g | g
  · exact g
  · have := rung_mono2 j i e.symm g
    rw [rung_self x hx kx, rung_self y hy ky] at this
    omega

theorem rung_none (x : Nat) (hx : x < 2 ^ 64) : x % 2 ^ 63 = 0 ↔ mag x = 0 := by
  have rx := rungOf x hx
  unfold mag
  split <;> omega

theorem order_fin (x y : Nat) (hx : x < 2 ^ 64) (hy : y < 2 ^ 64) (kx : exf x ≠ 2047) (ky : exf y ≠ 2047) : double.order x y = some (compare (rankN x) (rankN y)) := by
  unfold Ieee.Format.order
  rw [read_fin x hx kx, read_fin y hy ky]
  unfold Ieee.Datum.order
  simp only [signed_eq]
  congr 1
  have e : plc x - ((plc x - min (plc x) (plc y)).toNat : Int) = plc y - ((plc y - min (plc x) (plc y)).toNat : Int) := by omega
  have l1 := rung_order x y hx hy kx ky _ _ e
  have l2 := rung_order y x hy hx ky kx _ _ e.symm
  have l3 : x % 2 ^ 63 = y % 2 ^ 63 → mag x * 2 ^ (plc x - min (plc x) (plc y)).toNat = mag y * 2 ^ (plc y - min (plc x) (plc y)).toNat := by
    intro h
    obtain ⟨e1, e2⟩ := rung_parts x y hx hy h
    rw [e1, e2]
  have nx := rung_none x hx
  have ny := rung_none y hy
  have px : 0 < 2 ^ (plc x - min (plc x) (plc y)).toNat := Nat.two_pow_pos _
  have py : 0 < 2 ^ (plc y - min (plc x) (plc y)).toNat := Nat.two_pow_pos _
  have z1 : mag x = 0 ↔ mag x * 2 ^ (plc x - min (plc x) (plc y)).toNat = 0 := by rw [Nat.mul_eq_zero]; omega
  have z2 : mag y = 0 ↔ mag y * 2 ^ (plc y - min (plc x) (plc y)).toNat = 0 := by rw [Nat.mul_eq_zero]; omega
  rw [z1] at nx
  rw [z2] at ny
  clear z1 z2 px py e
  unfold rankN
  generalize mag x * 2 ^ (plc x - min (plc x) (plc y)).toNat = A at *
  generalize mag y * 2 ^ (plc y - min (plc x) (plc y)).toNat = B at *
  generalize x % 2 ^ 63 = r at *
  generalize y % 2 ^ 63 = s at *
  apply cmp_congr <;> cases sg x <;> cases sg y <;> simp <;> omega

theorem isN_lt (b : Nat) (hb : b < 2 ^ 64) (k : exf b ≠ 2047) : b % 2 ^ 63 < 2047 * 2 ^ 52 := by
  have := rungOf b hb
  have := fr_lt b
  have := exf_lt b
  omega

theorem rank_bd (b : Nat) (hb : b < 2 ^ 64) (k : exf b ≠ 2047) : -9218868437227405312 < rankN b ∧ rankN b < 9218868437227405312 := by
  have := isN_lt b hb k
  unfold rankN
  split <;> omega

theorem rank_inf (b : Nat) (hb : b < 2 ^ 64) (k : exf b = 2047) (f : fr b = 0) : rankN b = if sg b then -9218868437227405312 else 9218868437227405312 := by
  have := rungOf b hb
  unfold rankN
  split <;> omega

/-- the order of numbers -/
theorem order_rank (x y : Nat) (hx : x < 2 ^ 64) (hy : y < 2 ^ 64) (nx : isN x) (ny : isN y) : double.order x y = some (compare (rankN x) (rankN y)) := by
  by_cases kx : exf x = 2047
  · have fx : fr x = 0 := by unfold isN at nx; omega
    by_cases ky : exf y = 2047
    · have fy : fr y = 0 := by unfold isN at ny; omega
      rw [rank_inf x hx kx fx, rank_inf y hy ky fy]
      unfold Ieee.Format.order
      rw [read_inf x hx kx fx, read_inf y hy ky fy]
      cases sg x <;> cases sg y <;> rfl
    · have b := rank_bd y hy ky
      rw [rank_inf x hx kx fx]
      unfold Ieee.Format.order
      rw [read_inf x hx kx fx, read_fin y hy ky]
      cases sg x
      · simp only [Bool.false_eq_true, if_false]; rw [cmp_gt (by omega)]; rfl
      · simp only [if_true]; rw [cmp_lt (by omega)]; rfl
  · by_cases ky : exf y = 2047
    · have fy : fr y = 0 := by unfold isN at ny; omega
      have b := rank_bd x hx kx
      rw [rank_inf y hy ky fy]
      unfold Ieee.Format.order
      rw [read_fin x hx kx, read_inf y hy ky fy]
      cases sg y
      · simp only [Bool.false_eq_true, if_false]; rw [cmp_lt (by omega)]; rfl
      · simp only [if_true]; rw [cmp_gt (by omega)]; rfl
    · exact order_fin x y hx hy kx ky

theorem order_none (x y : Nat) (hx : x < 2 ^ 64) (hy : y < 2 ^ 64) (h : ¬ isN x ∨ ¬ isN y) : double.order x y = none := by
  rcases h with h | h
  · have r := rungOf x hx
    unfold isN at h
    exact order_nan x (by omega) hx y
  · have r := rungOf y hy
    unfold isN at h
    exact order_nan_r y (by omega) hy x

instance (b : Nat) : Decidable (isN b) := by unfold isN; infer_instance

/-- less, and equal, as tests -/
def lessN (x y : Nat) : Bool := decide (isN x) && decide (isN y) && decide (rankN x < rankN y)
def sameN (x y : Nat) : Bool := decide (isN x) && decide (isN y) && decide (rankN x = rankN y)

theorem less_eq (x y : Nat) (hx : x < 2 ^ 64) (hy : y < 2 ^ 64) : (double.order x y == some .lt) = lessN x y := by
  unfold lessN
  by_cases nx : isN x
  · by_cases ny : isN y
    · rw [order_rank x y hx hy nx ny]
      rcases Int.lt_trichotomy (rankN x) (rankN y) with h | h | h
      · rw [cmp_lt h]; simp [nx, ny, h]
      · rw [h, cmp_eq]; simp
      · rw [cmp_gt h]; have : ¬ rankN x < rankN y := by omega
        simp [this]
    · rw [order_none x y hx hy (.inr ny)]; simp [ny]
  · rw [order_none x y hx hy (.inl nx)]; simp [nx]

theorem same_eq (x y : Nat) (hx : x < 2 ^ 64) (hy : y < 2 ^ 64) : (double.order x y == some .eq) = sameN x y := by
  unfold sameN
  by_cases nx : isN x
  · by_cases ny : isN y
    · rw [order_rank x y hx hy nx ny]
      rcases Int.lt_trichotomy (rankN x) (rankN y) with h | h | h
      · rw [cmp_lt h]; have : ¬ rankN x = rankN y := by omega
        simp [this]
      · rw [h, cmp_eq]; simp [nx, ny]
      · rw [cmp_gt h]; have : ¬ rankN x = rankN y := by omega
        simp [this]
    · rw [order_none x y hx hy (.inr ny)]; simp [ny]
  · rw [order_none x y hx hy (.inl nx)]; simp [nx]
end Go.Proofs.Ytelgmffmekfndaa.Fl
