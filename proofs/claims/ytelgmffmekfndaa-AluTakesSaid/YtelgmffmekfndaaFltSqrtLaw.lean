/- The root of a word, as the reference reckons it, is the root that the standard gives. Plain law, no program. Condition: the word fits 64 bits. -/
import Derived.Test.YtelgmffmekfndaaFltMulLaw
set_option linter.unusedVariables false
namespace Go.Proofs.Ytelgmffmekfndaa.Fl
open Ieee (double)

/-- r is the whole root of n -/
def IsRoot (n r : Nat) : Prop := r * r ≤ n ∧ n < (r + 1) * (r + 1)

theorem IsRoot.uniq {n r s : Nat} (h : IsRoot n r) (k : IsRoot n s) : r = s := by
  unfold IsRoot at *
  rcases Nat.lt_trichotomy r s with c | c | c
  · have := Nat.mul_le_mul (show r + 1 ≤ s by omega) (show r + 1 ≤ s by omega); omega
  · exact c
  · have := Nat.mul_le_mul (show s + 1 ≤ r by omega) (show s + 1 ≤ r by omega); omega

theorem rootFrom_spec (n : Nat) : ∀ (todo root : Nat), root * root ≤ n → n < (root + 2 ^ todo) * (root + 2 ^ todo) → IsRoot n (Ieee.Datum.rootFrom n todo root)
  | 0, root, h1, h2 => by
    unfold Ieee.Datum.rootFrom
    exact ⟨h1, by simpa using h2⟩
  | todo + 1, root, h1, h2 => by
    unfold Ieee.Datum.rootFrom
    simp only [Nat.one_shiftLeft]
    by_cases c : (root + 2 ^ todo) * (root + 2 ^ todo) ≤ n
    · rw [if_pos c]
      refine rootFrom_spec n todo _ c ?_
      rw [Nat.add_assoc, show 2 ^ todo + 2 ^ todo = 2 ^ (todo + 1) by rw [Nat.pow_succ]; omega]
      exact h2
    · rw [if_neg c]
      exact rootFrom_spec n todo root h1 (by omega)

theorem root_is (n : Nat) (hn : n ≠ 0) : IsRoot n (Ieee.Datum.rootFrom n (n.log2 / 2 + 1) 0) := by
  refine rootFrom_spec n _ 0 (by omega) ?_
  rw [Nat.zero_add, ← Nat.pow_add]
  have h : n < 2 ^ (n.log2 + 1) := Nat.lt_log2_self
  exact Nat.lt_of_lt_of_le h (Nat.pow_le_pow_right (by omega) (by omega))

/-- twice the whole root, and one bit for what is left -/
def twor (n r : Nat) : Nat := 2 * r + (r * r != n).toNat

theorem twor_scale {n r R k : Nat} (h : IsRoot n r) (H : IsRoot (n * 2 ^ (2 * k)) R) : Sticky k (twor (n * 2 ^ (2 * k)) R) (twor n r) := by
  unfold twor Sticky
  have hp := Nat.two_pow_pos k
  have ek : 2 ^ (2 * k) = 2 ^ k * 2 ^ k := by rw [Nat.two_mul, Nat.pow_add]
  rw [ek] at H ⊢
  generalize 2 ^ k = X at *
  have sq : ∀ a : Nat, a * X * (a * X) = a * a * (X * X) := by intro a; rw [Nat.mul_mul_mul_comm]
  have hXX : 0 < X * X := Nat.mul_pos hp hp
  have lo : r * X ≤ R := by
    rcases Nat.lt_or_ge R (r * X) with c | c
    · exfalso
      have h1 := Nat.mul_le_mul (show R + 1 ≤ r * X by omega) (show R + 1 ≤ r * X by omega)
      rw [sq r] at h1
      have h2 := Nat.mul_le_mul_right (X * X) h.1
      have := H.2
      omega
    · exact c
  have hi : R < (r + 1) * X := by
    rcases Nat.lt_or_ge R ((r + 1) * X) with c | c
    · exact c
    · exfalso
      have h1 := Nat.mul_le_mul c c
      rw [sq (r + 1)] at h1
      have h2 := Nat.mul_lt_mul_of_pos_right h.2 hXX
      have := H.1
      omega
  by_cases c : r * r = n
  · left
    have e : R = r * X := by
      refine H.uniq ⟨?_, ?_⟩
      · rw [sq r, c]; exact Nat.le_refl _
      · have h1 := sq r
        rw [c] at h1
        have : (r * X + 1) * (r * X + 1) = r * X * (r * X) + 2 * (r * X) + 1 := by
          rw [Nat.add_mul, Nat.mul_add, Nat.one_mul, Nat.mul_one]; omega
        omega
    rw [e, sq r, c]
    simp
    rw [Nat.mul_assoc]
  · right
    rw [show (r * r != n) = true by simpa using c, show true.toNat = 1 by rfl]
    have hb : (R * R != n * (X * X)).toNat ≤ 1 := by cases (R * R != n * (X * X)) <;> decide
    have hne : R = r * X → (R * R != n * (X * X)).toNat = 1 := by
      intro e
      have : R * R ≠ n * (X * X) := by
        rw [e, sq r]
        intro e2
        exact c (Nat.eq_of_mul_eq_mul_right hXX e2)
      rw [show (R * R != n * (X * X)) = true by simpa using this]; rfl
    generalize (R * R != n * (X * X)).toNat = b at *
    have e1 : (2 * r + 1 - 1) * X = 2 * (r * X) := by rw [Nat.add_sub_cancel, Nat.mul_assoc]
    have e2 : (2 * r + 1 + 1) * X = 2 * ((r + 1) * X) := by rw [show 2 * r + 1 + 1 = 2 * (r + 1) by omega, Nat.mul_assoc]
    rw [e1, e2]
    refine ⟨by omega, ?_, by omega⟩
    by_cases e : R = r * X
    · have := hne e; omega
    · omega

theorem sqrt_nan (x : Nat) (hx : x < 2 ^ 64) (k : exf x = 2047) (f : fr x ≠ 0) : numOf (double.sqrt x) = nanW := by
  unfold Ieee.Format.sqrt
  rw [read_nan x hx k f]; rfl
theorem sqrt_inf (x : Nat) (hx : x < 2 ^ 64) (k : exf x = 2047) (f : fr x = 0) : numOf (double.sqrt x) = if sg x then nanW else x := by
  unfold Ieee.Format.sqrt
  rw [read_inf x hx k f]
  have h := inf_self x hx k f
  cases hs : sg x
  · rw [hs] at h
    show numOf ((some (Ieee.Datum.infinity false)).map double.write) = x
    rw [Option.map_some, write_inf, h]; rfl
  · rfl
theorem root_num_eq (s : Bool) (m : Nat) (i : Int) : Ieee.Datum.root 54 (.number s m i) =
    if m = 0 then some (.number s m i) else if s then none else
      (let more := 108 - m.log2 + ((i - (108 - m.log2 : Nat)) % 2).toNat
       let n := m * 2 ^ more
       let whole := Ieee.Datum.rootFrom n (n.log2 / 2 + 1) 0
       some (.number false (twor n whole) ((i - more) / 2 - 1))) := by
  unfold Ieee.Datum.root twor
  simp only [Nat.shiftLeft_eq]
theorem sqrt_zero (x : Nat) (hx : x < 2 ^ 64) (k : exf x ≠ 2047) (z : mant x = 0) : numOf (double.sqrt x) = x := by
  unfold Ieee.Format.sqrt
  rw [read_fin x hx k, show double.fractionBits + 2 = 54 by rfl, root_num_eq, if_pos ((mag_zero x k).2 z), Option.map_some, write_number, rung_self x hx k, word_self x hx]; rfl
theorem sqrt_neg (x : Nat) (hx : x < 2 ^ 64) (k : exf x ≠ 2047) (z : mant x ≠ 0) (s : sg x = true) : numOf (double.sqrt x) = nanW := by
  unfold Ieee.Format.sqrt
  rw [read_fin x hx k, show double.fractionBits + 2 = 54 by rfl, root_num_eq, if_neg (fun e => z ((mag_zero x k).1 e)), if_pos s]; rfl

/-- a: one doubling more where the place is odd; R: the whole root of the 53 or 54 bits and 62 noughts -/
theorem sqrt_law (x : Nat) (hx : x < 2 ^ 64) (k : exf x ≠ 2047) (z : mant x ≠ 0) (s : sg x = false) (a : Nat) (ha : a ≤ 1) (he : (expo x - a) % 2 = 0) (R : Nat) (hR : IsRoot (mant x * 2 ^ a * 2 ^ 62) R) :
    numOf (double.sqrt x) = word false (rung (twor (mant x * 2 ^ a * 2 ^ 62) R) ((expo x - a) / 2 - 32)) := by
  have hx0 := mant_ge x k z
  have hx1 := mant_lt x
  have mx := mant_mag x k
  have ex := expo_plc x k
  have zm : mag x ≠ 0 := fun e => z ((mag_zero x k).1 e)
  have lx : (mant x).log2 = 52 := by rw [Nat.log2_eq_iff z]; omega
  have lm : (mag x).log2 + upn x = 52 := by rw [← log2_mul_pow _ _ zm, ← mx]; exact lx
  unfold Ieee.Format.sqrt
  rw [read_fin x hx k, show double.fractionBits + 2 = 54 by rfl, root_num_eq, if_neg zm, if_neg (by rw [s]; simp)]
  simp only [Option.map_some, write_number, numOf_some]
  congr 1
  generalize hmo : 108 - (mag x).log2 + ((plc x - (108 - (mag x).log2 : Nat)) % 2).toNat = more
  have hmore : more = upn x + a + 56 := by omega
  have hn0 : mag x * 2 ^ more ≠ 0 := Nat.mul_ne_zero zm (by have := Nat.two_pow_pos more; omega)
  have hroot := root_is _ hn0
  generalize Ieee.Datum.rootFrom (mag x * 2 ^ more) ((mag x * 2 ^ more).log2 / 2 + 1) 0 = r at hroot ⊢
  have eN : mant x * 2 ^ a * 2 ^ 62 = mag x * 2 ^ more * 2 ^ (2 * 3) := by
    rw [mx, hmore, Nat.mul_assoc, Nat.mul_assoc, Nat.mul_assoc, ← Nat.pow_add, ← Nat.pow_add, ← Nat.pow_add]
    congr 2
  rw [eN] at hR ⊢
  have hst := twor_scale (k := 3) hroot hR
  have hr54 : 2 ^ 54 ≤ r := by
    have e1 : mag x * 2 ^ more = mant x * 2 ^ (a + 56) := by
      rw [mx, hmore, Nat.mul_assoc, ← Nat.pow_add]
      congr 2
    have h1 : 2 ^ 108 ≤ mag x * 2 ^ more := by
      rw [e1]
      calc 2 ^ 108 = 2 ^ 52 * 2 ^ 56 := by rw [← Nat.pow_add]
        _ ≤ mant x * 2 ^ (a + 56) := Nat.mul_le_mul hx0 (Nat.pow_le_pow_right (by omega) (by omega))
    rcases Nat.lt_or_ge r (2 ^ 54) with c | c
    · exfalso
      have h2 := Nat.mul_le_mul (show r + 1 ≤ 2 ^ 54 by omega) (show r + 1 ≤ 2 ^ 54 by omega)
      have h3 := hroot.2
      have h4 : (2 : Nat) ^ 54 * 2 ^ 54 = 2 ^ 108 := by rw [← Nat.pow_add]
      omega
    · exact c
  rw [hst.rung (by unfold twor; omega)]
  congr 1
  omega

/-- the number's pairs of digits down to the j-th, noughts behind them -/
def pj (M j : Nat) : Nat := if j ≤ 27 then M / 4 ^ (27 - j) else M * 4 ^ (j - 27)
def two (M j : Nat) : Nat := if j ≤ 26 then M / 4 ^ (26 - j) % 4 else 0
theorem two_le (M j : Nat) : two M j ≤ 3 := by unfold two; split <;> omega
theorem pj_zero (M : Nat) (h : M < 2 ^ 54) : pj M 0 = 0 := by
  unfold pj
  rw [if_pos (by omega)]
  exact Nat.div_eq_of_lt (by simpa using h)
theorem pj_step (M j : Nat) : pj M (j + 1) = 4 * pj M j + two M j := by
  unfold pj two
  by_cases c : j ≤ 26
  · rw [if_pos (by omega), if_pos (by omega), if_pos c]
    rw [show 27 - (j + 1) = 26 - j by omega, show 27 - j = (26 - j) + 1 by omega, Nat.pow_succ, ← Nat.div_div_eq_div_mul]
    omega
  · rw [if_neg (by omega), if_neg c]
    by_cases d : j = 27
    · subst d
      rw [if_pos (by omega)]
      simp; omega
    · rw [if_neg (by omega), show j + 1 - 27 = (j - 27) + 1 by omega, Nat.pow_succ, ← Nat.mul_assoc]
      omega
theorem pj_lt (M j : Nat) (h : M < 2 ^ 54) : pj M j < 4 ^ j := by
  unfold pj
  have e : (2 : Nat) ^ 54 = 4 ^ 27 := by decide
  by_cases c : j ≤ 27
  · rw [if_pos c, Nat.div_lt_iff_lt_mul (Nat.pow_pos (by omega)), ← Nat.pow_add, show j + (27 - j) = 27 by omega, ← e]
    exact h
  · rw [if_neg c]
    have : 4 ^ j = 4 ^ 27 * 4 ^ (j - 27) := by rw [← Nat.pow_add]; congr 1; omega
    rw [this, ← e]
    exact Nat.mul_lt_mul_of_pos_right h (Nat.pow_pos (by omega))
theorem pj_end (M : Nat) : pj M 58 = M * 2 ^ 62 := by
  unfold pj
  rw [if_neg (by omega)]

/-- the whole root of the digits so far, and what is left -/
def RootInv (M j root rest : Nat) : Prop := root * root + rest = pj M j ∧ rest ≤ 2 * root

theorem RootInv.lt {M j root rest : Nat} (h : RootInv M j root rest) (hM : M < 2 ^ 54) : root < 2 ^ j := by
  rcases Nat.lt_or_ge root (2 ^ j) with c | c
  · exact c
  · exfalso
    have h1 := Nat.mul_le_mul c c
    have h2 := pj_lt M j hM
    have h3 := h.1
    have e : (4 : Nat) ^ j = 2 ^ j * 2 ^ j := by rw [show (4 : Nat) = 2 * 2 by rfl, Nat.mul_pow]
    omega

theorem RootInv.yes {M j root rest : Nat} (h : RootInv M j root rest) (c : root * 4 + 1 ≤ rest * 4 + two M j) : RootInv M (j + 1) (root * 2 + 1) (rest * 4 + two M j - (root * 4 + 1)) := by
  have t := two_le M j
  unfold RootInv at *
  rw [pj_step, ← h.1]
  have e : (root * 2 + 1) * (root * 2 + 1) = 4 * (root * root) + 4 * root + 1 := by
    rw [Nat.add_mul, Nat.mul_add, Nat.one_mul, Nat.mul_one, Nat.mul_mul_mul_comm]; omega
  rw [e]
  generalize root * root = q at *
  omega
theorem RootInv.no {M j root rest : Nat} (h : RootInv M j root rest) (c : rest * 4 + two M j < root * 4 + 1) : RootInv M (j + 1) (root * 2) (rest * 4 + two M j) := by
  unfold RootInv at *
  rw [pj_step, ← h.1]
  have e : (root * 2) * (root * 2) = 4 * (root * root) := by rw [Nat.mul_mul_mul_comm]; omega
  rw [e]
  generalize root * root = q at *
  omega
theorem RootInv.done {M root rest : Nat} (h : RootInv M 58 root rest) : IsRoot (M * 2 ^ 62) root ∧ twor (M * 2 ^ 62) root = if rest = 0 then root * 2 else root * 2 + 1 := by
  unfold RootInv at h
  rw [pj_end] at h
  obtain ⟨h1, h2⟩ := h
  have e : (root + 1) * (root + 1) = root * root + 2 * root + 1 := by rw [Nat.add_mul, Nat.mul_add, Nat.one_mul, Nat.mul_one]; omega
  unfold IsRoot twor
  rw [← h1, e]
  refine ⟨by omega, ?_⟩
  by_cases c : rest = 0
  · rw [if_pos c, c]; simp; omega
  · rw [if_neg c, show (root * root != root * root + rest) = true by simp; omega, show true.toNat = 1 by rfl]; omega
end Go.Proofs.Ytelgmffmekfndaa.Fl
