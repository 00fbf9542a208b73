/- What is no number makes no number, and only one word is no number. Plain law, no program. Condition: the words fit 64 bits. -/
import Derived.Test.YtelgmffmekfndaaFltMinLaw
namespace Go.Proofs.Ytelgmffmekfndaa.Fl
open Ieee (double)

theorem isN_le (r : Nat) (hr : r < 2 ^ 64) (h : r % 2 ^ 63 ≤ 2047 * 2 ^ 52) : isN r := by
  have q := rungOf r hr
  have f := fr_lt r
  unfold isN
  omega

theorem num_ok (o : Option Nat) (h : ∀ r, o = some r → r < 2 ^ 64 ∧ r % 2 ^ 63 ≤ 2047 * 2 ^ 52) : isN (numOf o) ∨ numOf o = nanW := by
  cases o with
  | none => exact .inr rfl
  | some r => exact .inl (isN_le r (h r rfl).1 (h r rfl).2)

theorem read_bad (x : Nat) (hx : x < 2 ^ 64) (h : ¬ isN x) : ∃ s t, double.read x = .nan s t := by
  unfold isN at h
  refine ⟨sg x, fr x, ?_⟩
  rw [read_nan x hx (by omega) (by omega)]

theorem bad_add (x y : Nat) (hx : x < 2 ^ 64) (hy : y < 2 ^ 64) (h : ¬ isN x ∨ ¬ isN y) : double.add x y = none := by
  unfold Ieee.Format.add
  rcases h with h | h
  · obtain ⟨s, t, e⟩ := read_bad x hx h
    rw [e]; rfl
  · obtain ⟨s, t, e⟩ := read_bad y hy h
    rw [e]; cases double.read x <;> rfl
theorem bad_sub (x y : Nat) (hx : x < 2 ^ 64) (hy : y < 2 ^ 64) (h : ¬ isN x ∨ ¬ isN y) : double.sub x y = none := by
  unfold Ieee.Format.sub
  rcases h with h | h
  · obtain ⟨s, t, e⟩ := read_bad x hx h
    rw [e]; rfl
  · obtain ⟨s, t, e⟩ := read_bad y hy h
    rw [e]; cases double.read x <;> rfl
theorem bad_mul (x y : Nat) (hx : x < 2 ^ 64) (hy : y < 2 ^ 64) (h : ¬ isN x ∨ ¬ isN y) : double.mul x y = none := by
  unfold Ieee.Format.mul
  rcases h with h | h
  · obtain ⟨s, t, e⟩ := read_bad x hx h
    rw [e]; rfl
  · obtain ⟨s, t, e⟩ := read_bad y hy h
    rw [e]; cases double.read x <;> rfl
theorem bad_div (x y : Nat) (hx : x < 2 ^ 64) (hy : y < 2 ^ 64) (h : ¬ isN x ∨ ¬ isN y) : double.div x y = none := by
  unfold Ieee.Format.div
  rcases h with h | h
  · obtain ⟨s, t, e⟩ := read_bad x hx h
    rw [e]; rfl
  · obtain ⟨s, t, e⟩ := read_bad y hy h
    rw [e]; cases double.read x <;> rfl

theorem min_ok (x y : Nat) : isN (minW x y) ∨ minW x y = nanW := by
  unfold minW
  split
  · rename_i h
    left; unfold minN; split
    · exact h.2
    · exact h.1
  · exact .inr rfl
theorem max_ok (x y : Nat) : isN (maxW x y) ∨ maxW x y = nanW := by
  unfold maxW
  split
  · rename_i h
    left; unfold maxN; split
    · exact h.2
    · exact h.1
  · exact .inr rfl
end Go.Proofs.Ytelgmffmekfndaa.Fl
