/- What is no number compares with nothing; what the operations write is a number. Plain law, no program. -/
import Derived.Test.YtelgmffmekfndaaFltSumLaw
set_option linter.unusedVariables false
namespace Go.Proofs.Ytelgmffmekfndaa.Fl
open Ieee (double)

theorem order_nan (x : Nat) (h : 2047 * 2 ^ 52 < x % 2 ^ 63) (hx : x < 2 ^ 64) (y : Nat) : double.order x y = none := by
  have hr := rungOf x hx
  have hf := fr_lt x
  have he := exf_lt x
  have k : exf x = 2047 := by omega
  have f : fr x ≠ 0 := by intro e; rw [k, e] at hr; omega
  unfold Ieee.Format.order
  rw [read_nan x hx k f]
  rfl

theorem order_nan_r (x : Nat) (h : 2047 * 2 ^ 52 < x % 2 ^ 63) (hx : x < 2 ^ 64) (y : Nat) : double.order y x = none := by
  have hr := rungOf x hx
  have hf := fr_lt x
  have he := exf_lt x
  have k : exf x = 2047 := by omega
  have f : fr x ≠ 0 := by intro e; rw [k, e] at hr; omega
  unfold Ieee.Format.order
  rw [read_nan x hx k f]
  cases double.read y <;> rfl

theorem order_self (x : Nat) (h : x % 2 ^ 63 ≤ 2047 * 2 ^ 52) (hx : x < 2 ^ 64) : double.order x x = some .eq := by
  have hr := rungOf x hx
  have hf := fr_lt x
  have he := exf_lt x
  unfold Ieee.Format.order
  by_cases k : exf x = 2047
  · have f : fr x = 0 := by rw [k] at hr; omega
    rw [read_inf x hx k f]
    cases sg x <;> rfl
  · rw [read_fin x hx k]
    unfold Ieee.Datum.order
    simp only [Int.sub_self, Int.min_self]
    simp [compare, compareOfLessAndEq]

def notNan (d : Ieee.Datum) : Bool := match d with | .nan .. => false | _ => true

theorem write_bd (d : Ieee.Datum) (h : notNan d = true) : double.write d < 2 ^ 64 ∧ double.write d % 2 ^ 63 ≤ 2047 * 2 ^ 52 := by
  cases d with
  | nan s f => cases h
  | infinity s =>
    rw [write_inf]
    exact ⟨word_lt _ _ (by decide), by rw [word_mod _ _ (by decide)]; exact Nat.le_refl _⟩
  | number s m p =>
    rw [write_number]
    have := rung_le m p
    exact ⟨word_lt _ _ (by omega), by rw [word_mod _ _ (by omega)]; exact this⟩

theorem sum_num (a b d : Ieee.Datum) (h : a.sum b = some d) : notNan d = true := by
  cases a <;> cases b <;> simp only [Ieee.Datum.sum] at h
  all_goals first
    | (cases h; done)
    | (cases h; rfl)
    | (split at h <;> cases h; rfl)
theorem product_num (a b d : Ieee.Datum) (h : a.product b = some d) : notNan d = true := by
  cases a <;> cases b <;> simp only [Ieee.Datum.product] at h
  all_goals first
    | (cases h; done)
    | (cases h; rfl)
    | (split at h <;> cases h; rfl)
theorem quotient_num (k : Nat) (a b d : Ieee.Datum) (h : a.quotient k b = some d) : notNan d = true := by
  cases a <;> cases b <;> simp only [Ieee.Datum.quotient] at h
  all_goals first
    | (cases h; done)
    | (cases h; rfl)
    | (split at h <;> first | (cases h; done) | (cases h; rfl) | (split at h <;> cases h; rfl))
theorem root_num (k : Nat) (a d : Ieee.Datum) (h : a.root k = some d) : notNan d = true := by
  cases a <;> simp only [Ieee.Datum.root] at h
  all_goals first
    | (cases h; done)
    | (cases h; rfl)
    | (split at h <;> first | (cases h; done) | (cases h; rfl) | (split at h <;> first | (cases h; done) | (cases h; rfl)))

theorem map_bd {o : Option Ieee.Datum} {r : Nat} (hd : ∀ d, o = some d → notNan d = true) (h : o.map double.write = some r) : r < 2 ^ 64 ∧ r % 2 ^ 63 ≤ 2047 * 2 ^ 52 := by
  cases o with
  | none => cases h
  | some d =>
    simp only [Option.map_some] at h
    cases h
    exact write_bd d (hd d rfl)
theorem add_bd {x y r : Nat} (h : double.add x y = some r) : r < 2 ^ 64 ∧ r % 2 ^ 63 ≤ 2047 * 2 ^ 52 := map_bd (sum_num _ _) h
theorem sub_bd {x y r : Nat} (h : double.sub x y = some r) : r < 2 ^ 64 ∧ r % 2 ^ 63 ≤ 2047 * 2 ^ 52 := map_bd (sum_num _ _) h
theorem mul_bd {x y r : Nat} (h : double.mul x y = some r) : r < 2 ^ 64 ∧ r % 2 ^ 63 ≤ 2047 * 2 ^ 52 := map_bd (product_num _ _) h
theorem div_bd {x y r : Nat} (h : double.div x y = some r) : r < 2 ^ 64 ∧ r % 2 ^ 63 ≤ 2047 * 2 ^ 52 := map_bd (quotient_num _ _ _) h
theorem sqrt_bd {x r : Nat} (h : double.sqrt x = some r) : r < 2 ^ 64 ∧ r % 2 ^ 63 ≤ 2047 * 2 ^ 52 := map_bd (root_num _ _) h

/-- a difference is the sum with the opposite -/
theorem read_opp (y : Nat) (hy : y < 2 ^ 64) : double.read (y ^^^ 2 ^ 63) = (double.read y).opposite := by
  have hb : y ^^^ 2 ^ 63 = if sg y then y - 2 ^ 63 else y + 2 ^ 63 := by
    have h : y ^^^ 2 ^ 63 = if 2 ^ 63 ≤ y then y - 2 ^ 63 else y + 2 ^ 63 := by
      by_cases c : 2 ^ 63 ≤ y
      · rw [if_pos c]
        obtain ⟨z, rfl⟩ : ∃ z, y = 2 ^ 63 + z := ⟨y - 2 ^ 63, by omega⟩
        have hz : z < 2 ^ 63 := by omega
        rw [Nat.add_sub_cancel_left]
        have e : 2 ^ 63 + z = 2 ^ 63 ^^^ z := by
          have := Nat.two_pow_add_eq_or_of_lt hz 1
          simp only [Nat.mul_one] at this
          rw [this]
          apply Nat.eq_of_testBit_eq
          intro i
          rw [Nat.testBit_or, Nat.testBit_xor, Nat.testBit_two_pow]
          by_cases hi : 63 = i
          · subst hi
            rw [Nat.testBit_lt_two_pow hz]; simp
          · simp [hi]
        rw [e, Nat.xor_comm (2 ^ 63) z, Nat.xor_assoc, Nat.xor_self, Nat.xor_zero]
      · rw [if_neg c]
        have hz : y < 2 ^ 63 := by omega
        rw [Nat.add_comm]
        have := Nat.two_pow_add_eq_or_of_lt hz 1
        simp only [Nat.mul_one] at this
        rw [this]
        apply Nat.eq_of_testBit_eq
        intro i
        rw [Nat.testBit_or, Nat.testBit_xor, Nat.testBit_two_pow]
        by_cases hi : 63 = i
        · subst hi
          rw [Nat.testBit_lt_two_pow hz]; simp
        · simp [hi]
    rw [h]; unfold sg
    by_cases c : 2 ^ 63 ≤ y
    · rw [if_pos c, if_pos (by simpa using c)]
    · rw [if_neg c, if_neg (by simpa using c)]
  have hl : y ^^^ 2 ^ 63 < 2 ^ 64 := by rw [hb]; unfold sg; split <;> simp_all <;> omega
  have hm : (y ^^^ 2 ^ 63) % 2 ^ 63 = y % 2 ^ 63 := by rw [hb]; unfold sg; split <;> simp_all <;> omega
  have hs : sg (y ^^^ 2 ^ 63) = !sg y := by
    rw [hb]
    by_cases c : 2 ^ 63 ≤ y
    · have e : sg y = true := by unfold sg; simpa using c
      rw [e, if_pos rfl]; unfold sg; simp; omega
    · have e : sg y = false := by unfold sg; simpa using c
      rw [e, if_neg (by simp)]; unfold sg; simp <;> omega
  have e1 : exf (y ^^^ 2 ^ 63) = exf y := by
    have a := rungOf _ hl; have b := rungOf y hy
    have := fr_lt y; have := fr_lt (y ^^^ 2 ^ 63)
    omega
  have e2 : fr (y ^^^ 2 ^ 63) = fr y := by
    have a := rungOf _ hl; have b := rungOf y hy
    omega
  rw [read_eq _ hl, read_eq y hy, e1, e2, hs]
  have e3 : mag (y ^^^ 2 ^ 63) = mag y := by unfold mag; rw [e1, e2]
  have e4 : plc (y ^^^ 2 ^ 63) = plc y := by unfold plc; rw [e1]
  rw [e3, e4]
  split
  · split <;> rfl
  · rfl

theorem sub_add (x y : Nat) (hy : y < 2 ^ 64) : double.sub x y = double.add x (y ^^^ 2 ^ 63) := by
  unfold Ieee.Format.sub Ieee.Format.add
  rw [read_opp y hy]
end Go.Proofs.Ytelgmffmekfndaa.Fl
