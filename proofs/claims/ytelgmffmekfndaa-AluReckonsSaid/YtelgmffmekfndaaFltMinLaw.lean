/- The lesser and the greater of two numbers. Plain law, no program. Condition: the words fit 64 bits. -/
import Derived.Test.YtelgmffmekfndaaFltOrdLaw
namespace Go.Proofs.Ytelgmffmekfndaa.Fl
open Ieee (double)

def minF (x y : Nat) : Option Nat := match double.order x y with | none => none | some .lt => some x | some .gt => some y | some .eq => some (if (double.read x).neg then x else y)
def maxF (x y : Nat) : Option Nat := match double.order x y with | none => none | some .lt => some y | some .gt => some x | some .eq => some (if (double.read x).neg then y else x)
def minN (x y : Nat) : Nat := if lessN y x || (sameN x y && sg y) then y else x
def maxN (x y : Nat) : Nat := if lessN x y || (sameN x y && !sg y) then y else x
def minW (x y : Nat) : Nat := if isN x ∧ isN y then minN x y else nanW
def maxW (x y : Nat) : Nat := if isN x ∧ isN y then maxN x y else nanW

theorem read_neg (x : Nat) (hx : x < 2 ^ 64) : (double.read x).neg = sg x := by
  rw [read_eq x hx]
  split
  · split <;> rfl
  · rfl

theorem same_word (x y : Nat) (hx : x < 2 ^ 64) (hy : y < 2 ^ 64) (h : rankN x = rankN y) (s : sg x = sg y) : x = y := by
  rw [← word_self x hx, ← word_self y hy, s]
  unfold rankN at h
  rw [s] at h
  congr 1
  cases t : sg y <;> rw [t] at h <;> simp at h <;> omega

theorem min_num (x y : Nat) (hx : x < 2 ^ 64) (hy : y < 2 ^ 64) (nx : isN x) (ny : isN y) : minF x y = some (minN x y) := by
  unfold minF minN lessN sameN
  rw [order_rank x y hx hy nx ny, read_neg x hx]
  rcases Int.lt_trichotomy (rankN x) (rankN y) with h | h | h
  · rw [cmp_lt h]
    have h1 : ¬ rankN y < rankN x := by omega
    have h2 : ¬ rankN x = rankN y := by omega
    simp [h1, h2]
  · have e := same_word x y hx hy h
    rw [h, cmp_eq]
    simp only [nx, ny]
    cases s : sg x <;> cases t : sg y <;> simp
    · exact (e (by rw [s, t])).symm
    · exact e (by rw [s, t])
  · rw [cmp_gt h]
    simp [nx, ny, h]

theorem max_num (x y : Nat) (hx : x < 2 ^ 64) (hy : y < 2 ^ 64) (nx : isN x) (ny : isN y) : maxF x y = some (maxN x y) := by
  unfold maxF maxN lessN sameN
  rw [order_rank x y hx hy nx ny, read_neg x hx]
  rcases Int.lt_trichotomy (rankN x) (rankN y) with h | h | h
  · rw [cmp_lt h]
    simp [nx, ny, h]
  · have e := same_word x y hx hy h
    rw [h, cmp_eq]
    simp only [nx, ny]
    cases s : sg x <;> cases t : sg y <;> simp
    · exact e (by rw [s, t])
    · exact (e (by rw [s, t])).symm
  · rw [cmp_gt h]
    have h1 : ¬ rankN x < rankN y := by omega
    have h2 : ¬ rankN x = rankN y := by omega
    simp [h1, h2]

theorem min_none (x y : Nat) (hx : x < 2 ^ 64) (hy : y < 2 ^ 64) (h : ¬ (isN x ∧ isN y)) : minF x y = none := by
  unfold minF
  rw [order_none x y hx hy (by by_cases isN x <;> simp_all)]
theorem max_none (x y : Nat) (hx : x < 2 ^ 64) (hy : y < 2 ^ 64) (h : ¬ (isN x ∧ isN y)) : maxF x y = none := by
  unfold maxF
  rw [order_none x y hx hy (by by_cases isN x <;> simp_all)]

theorem self_num (x : Nat) (hx : x < 2 ^ 64) (nx : isN x) : double.order x x = some .eq := by
  rw [order_rank x x hx hx nx nx, cmp_eq]
theorem min_self (x y : Nat) (hx : x < 2 ^ 64) (hy : y < 2 ^ 64) (nx : isN x) (ny : isN y) : double.order (minN x y) (minN x y) = some .eq := by
  unfold minN
  split
  · exact self_num y hy ny
  · exact self_num x hx nx
theorem max_self (x y : Nat) (hx : x < 2 ^ 64) (hy : y < 2 ^ 64) (nx : isN x) (ny : isN y) : double.order (maxN x y) (maxN x y) = some .eq := by
  unfold maxN
  split
  · exact self_num y hy ny
  · exact self_num x hx nx
end Go.Proofs.Ytelgmffmekfndaa.Fl
