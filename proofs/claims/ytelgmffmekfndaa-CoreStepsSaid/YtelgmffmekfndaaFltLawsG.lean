/- Rounding to the nearest, as a rung: the given reading of the standard is this. Plain law, no program. No conditions. Rounding: the same number of a finer unit; a number told by its highest bits and one bit for the rest. Plain law. No conditions. Rounding: greater numbers are not rounded below lesser ones; how the word comes of what is kept. Plain law. No conditions. Rounding as the reference does it: how many bits; each branch of its text gives the rung. Plain law, no program. No conditions beyond those named. What a word stands for, as the reference's Of has it: sign, field, fraction, and the number of 53 bits. Plain law, no program. No conditions beyond those named. What the given reading of the standard makes of a word, in the reference's terms. Plain law, no program. Condition: the word fits 64 bits. The sum of two words, as the reference reckons it, is the sum that the standard gives. Plain law, no program. Condition: the words fit 64 bits. What is no number compares with nothing; what the operations write is a number. Plain law, no program. A number made whole towards 0, never beyond the greatest; whole numbers made numbers. Plain law, no program. No conditions beyond those named. Numbers in order: the given reading's order is that of the signed rungs; both noughts are one. Plain law, no program. Condition: the words fit 64 bits. The product of two words, as the reference reckons it, is the product that the standard gives. Plain law, no program. Condition: the words fit 64 bits. The root of a word, as the reference reckons it, is the root that the standard gives. Plain law, no program. Condition: the word fits 64 bits. The quotient of two words, as the reference reckons it, is the quotient that the standard gives. Plain law, no program. Condition: the words fit 64 bits. Small whole numbers are reckoned as whole numbers are. Plain law, no program. Conditions: the numbers are below 2^25. The lesser and the greater of two numbers. Plain law, no program. Condition: the words fit 64 bits. -/
import Ieee.Arith
namespace Go.Proofs.Ytelgmffmekfndaa.Fl

/-- to the nearest, to even ones in the middle -/
def rne (n d : Nat) : Nat := n / 2 ^ d + (if 2 ^ d < 2 * (n % 2 ^ d) ∨ (2 ^ d = 2 * (n % 2 ^ d) ∧ n / 2 ^ d % 2 = 1) then 1 else 0)
def last (mag : Nat) (place : Int) : Int := max (place + mag.log2 - 52) (-1074)
def kept (mag : Nat) (place : Int) : Nat := rne (mag * 2 ^ (place - last mag place).toNat) (last mag place - place).toNat
def rung (mag : Nat) (place : Int) : Nat := if mag = 0 then 0 else min ((last mag place + 1074).toNat * 2 ^ 52 + kept mag place) (2047 * 2 ^ 52)
def word (neg : Bool) (r : Nat) : Nat := if neg then 2 ^ 63 + r else r

theorem cut_eq (neg : Bool) (n d : Nat) : Ieee.Toward.even.cut neg n d = rne n d := by
  unfold Ieee.Toward.cut rne
  simp only [Nat.one_shiftLeft]
  by_cases h : d ≤ n.log2 + 2
  · rw [Nat.min_eq_left h]
    congr 1
    by_cases h1 : 2 ^ d < 2 * (n % 2 ^ d)
    · simp [h1]
    · by_cases h2 : 2 ^ d = 2 * (n % 2 ^ d)
      · by_cases h3 : n / 2 ^ d % 2 = 1
        · rw [if_pos (.inr ⟨h2, h3⟩)]
          have e1 : (2 ^ d == 2 * (n % 2 ^ d)) = true := by simpa using h2
          have e2 : (n / 2 ^ d % 2 == 1) = true := by simpa using h3
          simp [e1, e2]
        · rw [if_neg (by rintro (h | h); exact h1 h; exact h3 h.2)]
          have e2 : (n / 2 ^ d % 2 == 1) = false := by simpa using h3
          simp [h1, e2]
      · rw [if_neg (by rintro (h | h); exact h1 h; exact h2 h.1)]
        have e2 : (2 ^ d == 2 * (n % 2 ^ d)) = false := by simpa using h2
        simp [h1, e2]
  · rw [Nat.min_eq_right (by omega)]
    have hn : n < 2 ^ (n.log2 + 1) := Nat.lt_log2_self
    have e1 : 2 ^ (n.log2 + 2) = 2 * 2 ^ (n.log2 + 1) := by rw [Nat.pow_succ]; omega
    have e2 : 2 ^ (n.log2 + 2) ≤ 2 ^ d := Nat.pow_le_pow_right (by omega) (by omega)
    have a1 : n < 2 ^ (n.log2 + 2) := by omega
    have a2 : n < 2 ^ d := by omega
    rw [Nat.div_eq_of_lt a1, Nat.mod_eq_of_lt a1, Nat.div_eq_of_lt a2, Nat.mod_eq_of_lt a2]
    rw [if_neg (by omega)]
    have e3 : ¬ 2 ^ (n.log2 + 2) < 2 * n := by omega
    simp [e3]

theorem nearest_eq (neg : Bool) (mag : Nat) (place : Int) : Ieee.double.nearest neg mag place = word neg (rung mag place) := by
  unfold Ieee.Format.nearest rung word
  have hw : ∀ r, Ieee.double.word neg r = if neg then 2 ^ 63 + r else r := by
    intro r; unfold Ieee.Format.word; rfl
  have hl : Ieee.double.leastPlace = -1074 := by decide
  by_cases h : mag = 0
  · simp [h, hw]
  · rw [if_neg h, if_neg h]
    simp only [hw, cut_eq, hl, Nat.shiftLeft_eq]
    have e1 : Ieee.double.infRung = 2047 * 2 ^ 52 := by decide
    have e2 : Ieee.double.binade = 2 ^ 52 := by decide
    have e3 : (Ieee.double.fractionBits : Int) = 52 := rfl
    rw [e1, e2, e3]
    have e4 : ∀ x : Int, x - (-1074) = x + 1074 := by intro x; omega
    simp only [e4]
    rfl
end Go.Proofs.Ytelgmffmekfndaa.Fl
namespace Go.Proofs.Ytelgmffmekfndaa.Fl

theorem two_pow_pos (k : Nat) : 0 < 2 ^ k := Nat.two_pow_pos k

theorem log2_mul_pow (m k : Nat) (h : m ≠ 0) : (m * 2 ^ k).log2 = m.log2 + k := by
  have hp := two_pow_pos k
  have h1 : m * 2 ^ k ≠ 0 := Nat.mul_ne_zero h (by omega)
  have a : m.log2 + k ≤ (m * 2 ^ k).log2 := by
    rw [Nat.le_log2 h1, Nat.pow_add]
    exact Nat.mul_le_mul_right _ (Nat.log2_self_le h)
  have b : (m * 2 ^ k).log2 < m.log2 + k + 1 := by
    rw [Nat.log2_lt h1, show m.log2 + k + 1 = (m.log2 + 1) + k by omega, Nat.pow_add]
    exact Nat.mul_lt_mul_of_pos_right Nat.lt_log2_self hp
  omega

theorem rne_zero (n : Nat) : rne n 0 = n := by
  unfold rne
  simp [Nat.mod_one]

/-- 'the same number of a finer unit' -/
theorem rne_mul (n d k : Nat) : rne (n * 2 ^ k) (d + k) = rne n d := by
  unfold rne
  have hp := two_pow_pos k
  rw [Nat.pow_add, Nat.mul_mod_mul_right, Nat.mul_div_mul_right _ _ hp]
  congr 1
  have e : 2 * (n % 2 ^ d * 2 ^ k) = (2 * (n % 2 ^ d)) * 2 ^ k := by rw [Nat.mul_assoc]
  rw [e]
  have c1 : (2 ^ d * 2 ^ k < 2 * (n % 2 ^ d) * 2 ^ k) ↔ 2 ^ d < 2 * (n % 2 ^ d) := Nat.mul_lt_mul_right hp
  have c2 : (2 ^ d * 2 ^ k = 2 * (n % 2 ^ d) * 2 ^ k) ↔ 2 ^ d = 2 * (n % 2 ^ d) := Nat.mul_left_inj (by omega)
  simp only [c1, c2]

theorem last_mul (m : Nat) (p : Int) (k : Nat) (h : m ≠ 0) : last (m * 2 ^ k) (p - k) = last m p := by
  unfold last
  rw [log2_mul_pow m k h]
  congr 1
  omega

theorem kept_mul (m : Nat) (p : Int) (k : Nat) (h : m ≠ 0) : kept (m * 2 ^ k) (p - k) = kept m p := by
  unfold kept
  rw [last_mul m p k h]
  generalize last m p = L
  by_cases h1 : L ≤ p - k
  · have e1 : (L - (p - k)).toNat = 0 := by omega
    have e2 : (L - p).toNat = 0 := by omega
    have e3 : (p - L).toNat = (p - k - L).toNat + k := by omega
    rw [e1, e2, e3, rne_zero, rne_zero, Nat.pow_add]
    rw [Nat.mul_assoc, Nat.mul_comm (2 ^ k)]
  · by_cases h2 : L ≤ p
    · have e1 : (p - k - L).toNat = 0 := by omega
      have e2 : (L - p).toNat = 0 := by omega
      have e3 : k = (p - L).toNat + (L - (p - k)).toNat := by omega
      rw [e1, e2, rne_zero]
      generalize (L - (p - k)).toNat = a at *
      generalize (p - L).toNat = b at *
      rw [e3, Nat.pow_add, Nat.pow_zero, Nat.mul_one, ← Nat.mul_assoc]
      have := rne_mul (m * 2 ^ b) 0 a
      rw [Nat.zero_add, rne_zero] at this
      exact this
    · have e1 : (p - k - L).toNat = 0 := by omega
      have e2 : (p - L).toNat = 0 := by omega
      have e3 : (L - (p - k)).toNat = (L - p).toNat + k := by omega
      rw [e1, e2, e3, Nat.pow_zero, Nat.mul_one, Nat.mul_one, rne_mul]

theorem rung_mul (m : Nat) (p : Int) (k : Nat) : rung (m * 2 ^ k) (p - k) = rung m p := by
  unfold rung
  by_cases h : m = 0
  · subst h; simp
  · have h1 : m * 2 ^ k ≠ 0 := Nat.mul_ne_zero h (by have := two_pow_pos k; omega)
    rw [if_neg h, if_neg h1, last_mul m p k h, kept_mul m p k h]

/-- m stands for N / 2^d: just, or, being odd, for whatever lies between its neighbours -/
def Sticky (d N m : Nat) : Prop := N = m * 2 ^ d ∨ (m % 2 = 1 ∧ (m - 1) * 2 ^ d < N ∧ N < (m + 1) * 2 ^ d)

theorem Sticky.log2 {d N m : Nat} (h : Sticky d N m) (h2 : 2 ≤ m) : N.log2 = m.log2 + d := by
  rcases h with rfl | ⟨ho, hl, hh⟩
  · exact log2_mul_pow m d (by omega)
  · have hp := two_pow_pos d
    have hN : N ≠ 0 := by omega
    have hk : 1 ≤ m.log2 := by rw [Nat.le_log2 (by omega)]; omega
    have a0 := Nat.log2_self_le (n := m) (by omega)
    have a1 : m < 2 ^ (m.log2 + 1) := Nat.lt_log2_self
    obtain ⟨k, ek⟩ : ∃ k, m.log2 = k + 1 := ⟨m.log2 - 1, by omega⟩
    rw [ek] at a0 a1 ⊢
    have e0 : 2 ^ (k + 1) = 2 * 2 ^ k := by rw [Nat.pow_succ]; omega
    have e1 : 2 ^ (k + 1 + 1) = 2 * 2 ^ (k + 1) := by rw [Nat.pow_succ 2 (k + 1)]; omega
    have b1 : 2 ^ (k + 1) ≤ m - 1 := by omega
    have b2 : m + 1 ≤ 2 ^ (k + 1 + 1) := by omega
    have c1 : 2 ^ (k + 1 + d) ≤ N := by
      rw [Nat.pow_add]
      exact Nat.le_of_lt (Nat.lt_of_le_of_lt (Nat.mul_le_mul_right _ b1) hl)
    have c2 : N < 2 ^ (k + 1 + d + 1) := by
      rw [show k + 1 + d + 1 = (k + 1 + 1) + d by omega, Nat.pow_add]
      exact Nat.lt_of_lt_of_le hh (Nat.mul_le_mul_right _ b2)
    have := (Nat.le_log2 hN).2 c1
    have := (Nat.log2_lt hN).2 c2
    omega

theorem Sticky.rne {d N m e : Nat} (h : Sticky d N m) (he : 2 ≤ e) : rne N (e + d) = rne m e := by
  rcases h with rfl | ⟨ho, hl, hh⟩
  · exact rne_mul m e d
  · obtain ⟨t, ht⟩ : ∃ t, 2 ^ e = 4 * t := ⟨2 ^ (e - 2), by
      rw [show e = (e - 2) + 2 by omega, Nat.pow_add]
      simp only [Nat.add_sub_cancel]
      omega⟩
    have ht0 : 0 < t := by have := two_pow_pos e; omega
    have hX := two_pow_pos d
    unfold Fl.rne
    rw [Nat.pow_add, ht]
    generalize 2 ^ d = X at *
    have hdm := Nat.div_add_mod m (4 * t)
    have hr := Nat.mod_lt m (show 0 < 4 * t by omega)
    generalize m / (4 * t) = q at *
    generalize m % (4 * t) = r at *
    have hro : r % 2 = 1 := by
      have e1 : 4 * t * q = 2 * (2 * t * q) := by rw [show 4 * t = 2 * (2 * t) by omega, Nat.mul_assoc]
      omega
    -- N lies in (4 t q + r - 1, 4 t q + r + 1) * X
    have e1 : (m - 1) * X = 4 * t * q * X + (r - 1) * X := by rw [← Nat.add_mul]; congr 1; omega
    have e2 : (m + 1) * X = 4 * t * q * X + (r + 1) * X := by rw [← Nat.add_mul]; congr 1; omega
    rw [e1] at hl
    rw [e2] at hh
    have e3 : 4 * t * q * X = 4 * t * X * q := by rw [Nat.mul_right_comm]
    rw [e3] at hl hh
    have hDX : 0 < 4 * t * X := Nat.mul_pos (by omega) hX
    obtain ⟨R, rfl⟩ : ∃ R, N = 4 * t * X * q + R := ⟨N - 4 * t * X * q, by omega⟩
    have hRl : (r - 1) * X < R := by omega
    have hRh : R < (r + 1) * X := by omega
    have hR4 : (r + 1) * X ≤ 4 * t * X := Nat.mul_le_mul_right _ (by omega)
    have hRlt : R < 4 * t * X := by omega
    have d1 : (4 * t * X * q + R) / (4 * t * X) = q := by
      rw [Nat.mul_add_div hDX, Nat.div_eq_of_lt hRlt]; rfl
    have d2 : (4 * t * X * q + R) % (4 * t * X) = R := by
      rw [Nat.mul_add_mod, Nat.mod_eq_of_lt hRlt]
    rw [d1, d2]
    congr 1
    have e4 : 4 * t * X = 2 * (2 * t * X) := by rw [show 4 * t = 2 * (2 * t) by omega, Nat.mul_assoc]
    rw [e4]
    by_cases hc : r < 2 * t
    · have : (r + 1) * X ≤ 2 * t * X := Nat.mul_le_mul_right _ (by omega)
      rw [if_neg (by omega), if_neg (by omega)]
    · have : 2 * t * X ≤ (r - 1) * X := Nat.mul_le_mul_right _ (by omega)
      rw [if_pos (by omega), if_pos (by omega)]

/-- what was cut off, told by the last bit alone, is rounded as the whole is -/
theorem Sticky.rung {d N m : Nat} {p : Int} (h : Sticky d N m) (h54 : 2 ^ 54 ≤ m) : rung N p = Fl.rung m (p + d) := by
  have h2 : 2 ≤ m := Nat.le_trans (by decide) h54
  have hl := h.log2 h2
  have h54' : 54 ≤ m.log2 := (Nat.le_log2 (by omega)).2 h54
  have hN : N ≠ 0 := by
    intro e; subst e
    rw [show Nat.log2 0 = 0 from rfl] at hl
    omega
  unfold Fl.rung
  rw [if_neg hN, if_neg (by omega)]
  have eL : last N p = last m (p + d) := by unfold last; rw [hl]; congr 1; omega
  have hge : p + d + 2 ≤ last m (p + d) := by unfold last; omega
  unfold kept
  rw [eL]
  generalize last m (p + d) = L at *
  have e1 : (p - L).toNat = 0 := by omega
  have e2 : (p + d - L).toNat = 0 := by omega
  have e3 : (L - p).toNat = (L - (p + d)).toNat + d := by omega
  rw [e1, e2, e3, Nat.pow_zero, Nat.mul_one, Nat.mul_one, h.rne (by omega)]
end Go.Proofs.Ytelgmffmekfndaa.Fl
namespace Go.Proofs.Ytelgmffmekfndaa.Fl

theorem rne_le (n d k : Nat) (h : n < 2 ^ (d + k)) : rne n d ≤ 2 ^ k := by
  unfold rne
  have : n / 2 ^ d < 2 ^ k := by
    rw [Nat.div_lt_iff_lt_mul (two_pow_pos d), Nat.mul_comm, ← Nat.pow_add]
    exact h
  split <;> omega

theorem rne_ge (n d k : Nat) (h : 2 ^ (d + k) ≤ n) : 2 ^ k ≤ rne n d := by
  unfold rne
  have : 2 ^ k ≤ n / 2 ^ d := by
    rw [Nat.le_div_iff_mul_le (two_pow_pos d), Nat.mul_comm, ← Nat.pow_add]
    exact h
  omega

theorem rne_mono (d : Nat) {a b : Nat} (h : a ≤ b) : rne a d ≤ rne b d := by
  unfold rne
  have hp := two_pow_pos d
  have hq := Nat.div_le_div_right (c := 2 ^ d) h
  rcases Nat.lt_or_ge (a / 2 ^ d) (b / 2 ^ d) with hlt | hge
  · split <;> split <;> omega
  · have e : a / 2 ^ d = b / 2 ^ d := by omega
    have h1 := Nat.div_add_mod a (2 ^ d)
    have h2 := Nat.div_add_mod b (2 ^ d)
    rw [e] at h1 ⊢
    split <;> split <;> omega

theorem kept_le (m : Nat) (p : Int) (_h : m ≠ 0) : kept m p ≤ 2 ^ 53 := by
  unfold kept
  have hm : m < 2 ^ (m.log2 + 1) := Nat.lt_log2_self
  have hL : p + m.log2 - 52 ≤ last m p := by unfold last; omega
  generalize last m p = L at *
  refine rne_le _ _ 53 ?_
  have a : m * 2 ^ (p - L).toNat < 2 ^ (m.log2 + 1 + (p - L).toNat) := by
    rw [Nat.pow_add]
    exact Nat.mul_lt_mul_of_pos_right hm (two_pow_pos _)
  exact Nat.lt_of_lt_of_le a (Nat.pow_le_pow_right (by omega) (by omega))

theorem kept_ge (m : Nat) (p : Int) (h : m ≠ 0) (hL : -1074 < last m p) : 2 ^ 52 ≤ kept m p := by
  unfold kept
  have hm := Nat.log2_self_le h
  have hL : p + m.log2 - 52 = last m p := by unfold last at *; omega
  generalize last m p = L at *
  refine rne_ge _ _ 52 ?_
  have a : 2 ^ (m.log2 + (p - L).toNat) ≤ m * 2 ^ (p - L).toNat := by
    rw [Nat.pow_add]
    exact Nat.mul_le_mul_right _ hm
  exact Nat.le_trans (Nat.pow_le_pow_right (by omega) (by omega)) a

theorem last_ge (m : Nat) (p : Int) : -1074 ≤ last m p := by unfold last; omega

/-- a greater number is not rounded below a lesser one -/
theorem rung_mono (p : Int) {a b : Nat} (h : a ≤ b) : rung a p ≤ rung b p := by
  unfold rung
  by_cases ha : a = 0
  · rw [if_pos ha]; omega
  · have hb : b ≠ 0 := by omega
    rw [if_neg ha, if_neg hb]
    have hlog : a.log2 ≤ b.log2 := by
      rw [Nat.le_log2 hb]
      exact Nat.le_trans (Nat.log2_self_le ha) h
    have hL : last a p ≤ last b p := by unfold last; omega
    by_cases e : last a p = last b p
    · have : kept a p ≤ kept b p := by
        unfold kept
        rw [e]
        exact rne_mono _ (Nat.mul_le_mul_right _ h)
      rw [e]
      omega
    · have h1 := kept_le a p ha
      have h0 := last_ge a p
      have h2 := kept_ge b p hb (by omega)
      omega

theorem rung_le (m : Nat) (p : Int) : rung m p ≤ 2047 * 2 ^ 52 := by
  unfold rung
  split <;> omega

/-- how the word comes of its last place and of what is kept -/
def fin (L : Int) (K : Nat) : Nat :=
  if K = 2 ^ 53 then (if 971 < L + 1 then 2047 * 2 ^ 52 else (L + 1 + 1075).toNat * 2 ^ 52)
  else if 971 < L then 2047 * 2 ^ 52 else if K < 2 ^ 52 then K else (L + 1075).toNat * 2 ^ 52 + (K - 2 ^ 52)

theorem rung_fin (m : Nat) (p : Int) (h : m ≠ 0) : rung m p = fin (last m p) (kept m p) := by
  unfold rung fin
  rw [if_neg h]
  have h0 := last_ge m p
  have h1 := kept_le m p h
  have h2 := kept_ge m p h
  generalize last m p = L at *
  generalize kept m p = K at *
  split
  · split <;> omega
  · split
    · omega
    · split
      · have : L = -1074 := by omega
        omega
      · omega

/-- the same comparison at two places: a * 2^p ≤ b * 2^q -/
theorem rung_mono2 {a b : Nat} {p q : Int} (i j : Nat) (e : p - i = q - j) (h : a * 2 ^ i ≤ b * 2 ^ j) : rung a p ≤ rung b q := by
  rw [← rung_mul a p i, ← rung_mul b q j, e]
  exact rung_mono _ h

theorem rung_eq2 {a b : Nat} {p q : Int} (i j : Nat) (e : p - i = q - j) (h : a * 2 ^ i = b * 2 ^ j) : rung a p = rung b q := by
  rw [← rung_mul a p i, ← rung_mul b q j, e, h]

/-- a number of the format is its own nearest one -/
theorem rung_small (r : Nat) (h : r < 2 ^ 53) : rung r (-1074) = r := by
  unfold rung
  by_cases h0 : r = 0
  · rw [if_pos h0, h0]
  · rw [if_neg h0]
    have hl : r.log2 < 53 := (Nat.log2_lt h0).2 h
    have e : last r (-1074) = -1074 := by unfold last; omega
    unfold kept
    rw [e]
    simp only [Int.sub_self, Int.toNat_zero, rne_zero]
    omega

theorem rung_exact (f : Nat) (p : Int) (h0 : 2 ^ 52 ≤ f) (h : f < 2 ^ 53) (hp : -1074 ≤ p) (hp2 : p ≤ 971) : rung f p = (p + 1075).toNat * 2 ^ 52 + (f - 2 ^ 52) := by
  unfold rung
  rw [if_neg (by omega)]
  have hl : f.log2 = 52 := by rw [Nat.log2_eq_iff (by omega)]; omega
  have e : last f p = p := by unfold last; rw [hl]; omega
  unfold kept
  rw [e]
  simp only [Int.sub_self, Int.toNat_zero, rne_zero]
  omega
end Go.Proofs.Ytelgmffmekfndaa.Fl
namespace Go.Proofs.Ytelgmffmekfndaa.Fl

/-- how many bits a number has -/
def sz (m : Nat) : Nat := if m = 0 then 0 else m.log2 + 1
theorem sz_zero : sz 0 = 0 := rfl
theorem sz_half {m : Nat} (h : m ≠ 0) : sz m = sz (m / 2) + 1 := by
  unfold sz
  rw [if_neg h]
  rw [Nat.log2_def m]
  by_cases h2 : 2 ≤ m
  · rw [if_pos h2, if_neg (by omega)]
  · rw [if_neg h2, if_pos (by omega)]
theorem sz_le {m : Nat} (h : m < 2 ^ 64) : sz m ≤ 64 := by
  unfold sz
  by_cases h0 : m = 0
  · rw [if_pos h0]; omega
  · rw [if_neg h0]
    have := (Nat.log2_lt h0).2 h
    omega

/-- how many of the last bits go -/
def dropOf (m : Nat) (e : Int) : Int := max ((sz m : Int) - 53) (-1074 - e)

theorem last_drop {m : Nat} (h : m ≠ 0) (e : Int) : last m e = e + dropOf m e := by
  unfold last dropOf sz
  rw [if_neg h]
  omega

theorem rung_zero (e : Int) : rung 0 e = 0 := by unfold rung; simp

theorem rung_far {m : Nat} {e : Int} (h : m < 2 ^ 64) (hd : 64 < dropOf m e) : rung m e = 0 := by
  by_cases h0 : m = 0
  · subst h0; exact rung_zero e
  · have hs := sz_le h
    have hL : last m e = -1074 := by rw [last_drop h0]; unfold dropOf at *; omega
    have hk : kept m e = 0 := by
      unfold kept
      rw [hL]
      have e1 : (e - -1074).toNat = 0 := by unfold dropOf at hd; omega
      rw [e1, Nat.pow_zero, Nat.mul_one]
      have hd2 : 65 ≤ (-1074 - e).toNat := by unfold dropOf at hd; omega
      generalize (-1074 - e).toNat = d at *
      have hp : 2 ^ 65 ≤ 2 ^ d := Nat.pow_le_pow_right (by omega) hd2
      unfold rne
      rw [Nat.div_eq_of_lt (by omega), Nat.mod_eq_of_lt (by omega), if_neg (by omega)]
    unfold rung
    rw [if_neg h0, hL, hk]
    rfl

theorem kept_up {m : Nat} {e : Int} (h0 : m ≠ 0) (hd : dropOf m e ≤ 0) : kept m e = m * 2 ^ (- dropOf m e).toNat := by
  unfold kept
  rw [last_drop h0]
  have e1 : (e + dropOf m e - e).toNat = 0 := by omega
  have e2 : (e - (e + dropOf m e)).toNat = (- dropOf m e).toNat := by congr 1; omega
  rw [e1, e2, rne_zero]

theorem kept_down {m : Nat} {e : Int} (h0 : m ≠ 0) (hd : 0 ≤ dropOf m e) : kept m e = rne m (dropOf m e).toNat := by
  unfold kept
  rw [last_drop h0]
  have e1 : (e + dropOf m e - e).toNat = (dropOf m e).toNat := by congr 1; omega
  have e2 : (e - (e + dropOf m e)).toNat = 0 := by omega
  rw [e1, e2, Nat.pow_zero, Nat.mul_one]

theorem rne_64 {m : Nat} (h : m < 2 ^ 64) : rne m 64 = if 2 ^ 63 < m then 1 else 0 := by
  unfold rne
  rw [Nat.div_eq_of_lt h, Nat.mod_eq_of_lt h]
  by_cases c : 2 ^ 63 < m
  · rw [if_pos c, if_pos (by omega)]
  · rw [if_neg c, if_neg (by omega)]

theorem rne_mid (m : Nat) {d : Nat} (hd : 1 ≤ d) : rne m d = m / 2 ^ d + (if 2 ^ (d - 1) < m % 2 ^ d ∨ (m % 2 ^ d = 2 ^ (d - 1) ∧ m / 2 ^ d % 2 = 1) then 1 else 0) := by
  unfold rne
  have e : 2 ^ d = 2 * 2 ^ (d - 1) := by
    conv => lhs; rw [show d = (d - 1) + 1 by omega, Nat.pow_succ]
    omega
  congr 1
  generalize m % 2 ^ d = r at *
  generalize m / 2 ^ d = q at *
  rw [e]
  split <;> split <;> omega
end Go.Proofs.Ytelgmffmekfndaa.Fl
namespace Go.Proofs.Ytelgmffmekfndaa.Fl

def sg (b : Nat) : Bool := decide (2 ^ 63 ≤ b)
def exf (b : Nat) : Nat := b / 2 ^ 52 % 2048
def fr (b : Nat) : Nat := b % 2 ^ 52
def kindOf (b : Nat) : Nat := if exf b = 2047 then (if fr b = 0 then 105 else 110) else 102
/-- how often the number must be doubled -/
def ups (m : Nat) : Nat := if m = 0 then 0 else 52 - m.log2
def mant (b : Nat) : Nat := if exf b = 2047 then fr b else if exf b = 0 then fr b * 2 ^ ups (fr b) else 2 ^ 52 + fr b
def expo (b : Nat) : Int := if exf b = 2047 then 2047 else if exf b = 0 then -1074 - ups (fr b) else (exf b : Int) - 1075

theorem fr_lt (b : Nat) : fr b < 2 ^ 52 := Nat.mod_lt _ (by decide)
theorem exf_lt (b : Nat) : exf b < 2048 := Nat.mod_lt _ (by decide)
theorem log2_fr {m : Nat} (h : m < 2 ^ 52) : m.log2 ≤ 51 := by
  by_cases h0 : m = 0
  · subst h0; decide
  · have := (Nat.log2_lt h0).2 h
    omega
theorem ups_le (m : Nat) : ups m ≤ 52 := by unfold ups; split <;> omega
theorem ups_top {m : Nat} (h0 : m ≠ 0) (h : m < 2 ^ 52) : 2 ^ 52 ≤ m * 2 ^ ups m ∧ m * 2 ^ ups m < 2 ^ 53 := by
  have hl := log2_fr h
  unfold ups
  rw [if_neg h0]
  have a := Nat.log2_self_le h0
  have b : m < 2 ^ (m.log2 + 1) := Nat.lt_log2_self
  constructor
  · calc 2 ^ 52 = 2 ^ m.log2 * 2 ^ (52 - m.log2) := by rw [← Nat.pow_add]; congr 1; omega
      _ ≤ _ := Nat.mul_le_mul_right _ a
  · calc _ < 2 ^ (m.log2 + 1) * 2 ^ (52 - m.log2) := Nat.mul_lt_mul_of_pos_right b (Nat.two_pow_pos _)
      _ = 2 ^ 53 := by rw [← Nat.pow_add]; congr 1; omega
theorem ups_below {m j : Nat} (h0 : m ≠ 0) (h : m < 2 ^ 52) (hj : j < ups m) : m * 2 ^ j < 2 ^ 52 := by
  have hl := log2_fr h
  unfold ups at hj
  rw [if_neg h0] at hj
  have b : m < 2 ^ (m.log2 + 1) := Nat.lt_log2_self
  calc m * 2 ^ j < 2 ^ (m.log2 + 1) * 2 ^ j := Nat.mul_lt_mul_of_pos_right b (Nat.two_pow_pos _)
    _ = 2 ^ (m.log2 + 1 + j) := by rw [← Nat.pow_add]
    _ ≤ 2 ^ 52 := Nat.pow_le_pow_right (by omega) (by omega)

theorem mant_lt (b : Nat) : mant b < 2 ^ 53 := by
  unfold mant
  have hf := fr_lt b
  split
  · omega
  · split
    · by_cases h0 : fr b = 0
      · rw [h0]; simp
      · exact (ups_top h0 hf).2
    · omega
/-- a finite number's 53 bits: none, or the highest is set -/
theorem mant_ge (b : Nat) (hk : exf b ≠ 2047) (h0 : mant b ≠ 0) : 2 ^ 52 ≤ mant b := by
  unfold mant at *
  rw [if_neg hk] at *
  have hf := fr_lt b
  split
  · rename_i h
    rw [if_pos h] at h0
    have h1 : fr b ≠ 0 := by intro e; rw [e] at h0; simp at h0
    exact (ups_top h1 hf).1
  · omega
theorem expo_bd (b : Nat) : -1126 ≤ expo b ∧ expo b ≤ 2047 := by
  unfold expo
  have := ups_le (fr b)
  have := exf_lt b
  split
  · omega
  · split <;> omega
theorem expo_fin (b : Nat) (hk : exf b ≠ 2047) : expo b ≤ 971 := by
  unfold expo
  have := exf_lt b
  rw [if_neg hk]
  split <;> omega
end Go.Proofs.Ytelgmffmekfndaa.Fl
set_option linter.unusedVariables false
namespace Go.Proofs.Ytelgmffmekfndaa.Fl
open Ieee (double)

def nanW : Nat := 9221120237041090560
def numOf (o : Option Nat) : Nat := o.getD nanW

def mag (b : Nat) : Nat := if exf b = 0 then fr b else 2 ^ 52 + fr b
def plc (b : Nat) : Int := if exf b = 0 then -1074 else (exf b : Int) - 1075
def upn (b : Nat) : Nat := if exf b = 0 then ups (fr b) else 0

theorem mant_mag (b : Nat) (h : exf b ≠ 2047) : mant b = mag b * 2 ^ upn b := by
  unfold mant mag upn
  rw [if_neg h]
  split <;> simp
theorem expo_plc (b : Nat) (h : exf b ≠ 2047) : expo b = plc b - upn b := by
  unfold expo plc upn
  rw [if_neg h]
  split <;> simp
theorem mag_zero (b : Nat) (h : exf b ≠ 2047) : mag b = 0 ↔ mant b = 0 := by
  rw [mant_mag b h]
  have := Nat.two_pow_pos (upn b)
  constructor
  · intro e; rw [e]; simp
  · intro e
    rcases Nat.mul_eq_zero.1 e with h1 | h1
    · exact h1
    · omega

theorem parts (b : Nat) (hb : b < 2 ^ 64) : b = (if sg b then 2 ^ 63 else 0) + exf b * 2 ^ 52 + fr b := by
  unfold sg exf fr
  by_cases h : 2 ^ 63 ≤ b
  · rw [if_pos (by simpa using h)]; omega
  · rw [if_neg (by simpa using h)]; omega

theorem rungOf (b : Nat) (hb : b < 2 ^ 64) : b % 2 ^ 63 = exf b * 2 ^ 52 + fr b := by
  unfold exf fr
  omega

theorem neg_eq (b : Nat) (hb : b < 2 ^ 64) : (b / 2 ^ 63 % 2 == 1) = sg b := by
  unfold sg
  rw [Bool.eq_iff_iff]
  simp
  omega

theorem read_eq (b : Nat) (hb : b < 2 ^ 64) : double.read b =
    if exf b = 2047 then (if fr b = 0 then .infinity (sg b) else .nan (sg b) (fr b)) else .number (sg b) (mag b) (plc b) := by
  have hw : double.signWeight = 2 ^ 63 := by decide
  have hl : double.leastPlace = -1074 := by decide
  have e1 : double.infRung = 2047 * 2 ^ 52 := by decide
  have e2 : double.binade = 2 ^ 52 := by decide
  have hf := fr_lt b
  have hx := exf_lt b
  unfold Ieee.Format.read
  simp only [hw, hl, e1, e2]
  rw [neg_eq b hb, rungOf b hb]
  by_cases c : exf b = 0
  · rw [c, if_pos (by omega), if_neg (by omega)]
    unfold mag plc
    rw [if_pos c, if_pos c]
    simp
  · rw [if_neg (by omega)]
    by_cases d : exf b = 2047
    · rw [d, if_neg (by omega), if_pos rfl]
      by_cases f : fr b = 0
      · rw [f, if_pos (by omega), if_pos rfl]
      · rw [if_neg (by omega), if_neg f, Nat.add_sub_cancel_left]
    · rw [if_pos (by omega), if_neg d]
      unfold mag plc
      rw [if_neg c, if_neg c]
      congr 1
      · omega
      · omega

theorem word_lt (s : Bool) (r : Nat) (h : r < 2 ^ 63) : word s r < 2 ^ 64 := by
  unfold word; split <;> omega
theorem word_mod (s : Bool) (r : Nat) (h : r < 2 ^ 63) : word s r % 2 ^ 63 = r := by
  unfold word; split <;> omega
theorem word_sg (s : Bool) (r : Nat) (h : r < 2 ^ 63) : sg (word s r) = s := by
  unfold word sg; cases s <;> simp <;> omega

/-- a word is its sign over its rung -/
theorem word_self (b : Nat) (hb : b < 2 ^ 64) : word (sg b) (b % 2 ^ 63) = b := by
  unfold word sg
  by_cases h : 2 ^ 63 ≤ b
  · rw [if_pos (by simpa using h)]; omega
  · rw [if_neg (by simpa using h)]; omega

/-- a finite word is the nearest to the number that it stands for -/
theorem rung_self (b : Nat) (hb : b < 2 ^ 64) (h : exf b ≠ 2047) : rung (mag b) (plc b) = b % 2 ^ 63 := by
  rw [rungOf b hb]
  have hf := fr_lt b
  have hx := exf_lt b
  unfold mag plc
  by_cases c : exf b = 0
  · rw [if_pos c, if_pos c, c, rung_small _ (by omega)]; omega
  · rw [if_neg c, if_neg c, rung_exact _ _ (by omega) (by omega) (by omega) (by omega)]
    omega

theorem write_number (s : Bool) (m : Nat) (p : Int) : double.write (.number s m p) = word s (rung m p) := nearest_eq s m p
theorem write_inf (s : Bool) : double.write (.infinity s) = word s (2047 * 2 ^ 52) := by
  cases s <;> decide

theorem signed_eq (s : Bool) (m k : Nat) : Ieee.signed s m k = if s then -((m * 2 ^ k : Nat) : Int) else ((m * 2 ^ k : Nat) : Int) := by
  unfold Ieee.signed
  rw [Nat.shiftLeft_eq]

theorem signed_mul (s : Bool) (m a k : Nat) : Ieee.signed s m (a + k) = Ieee.signed s m a * ((2 ^ k : Nat) : Int) := by
  rw [signed_eq, signed_eq, Nat.pow_add, ← Nat.mul_assoc]
  cases s
  · simp
  · simp only [if_true, Int.natCast_mul]
    rw [Int.neg_mul]

/-- a sum, reckoned at whatever place is low enough -/
theorem sum_write (s t : Bool) (m n : Nat) (i j p : Int) (hi : p ≤ i) (hj : p ≤ j) :
    ((Ieee.Datum.sum (.number s m i) (.number t n j)).map double.write) =
      some (let T := Ieee.signed s m (i - p).toNat + Ieee.signed t n (j - p).toNat; if T = 0 then word (s && t) 0 else word (decide (T < 0)) (rung T.natAbs p)) := by
  unfold Ieee.Datum.sum
  simp only [Option.map_some, write_number]
  generalize hb : min i j = base
  have hpb : p ≤ base := by omega
  obtain ⟨k, hk⟩ : ∃ k : Nat, (k : Int) = base - p := ⟨(base - p).toNat, by omega⟩
  have ei : (i - p).toNat = (i - base).toNat + k := by omega
  have ej : (j - p).toNat = (j - base).toNat + k := by omega
  rw [ei, ej, signed_mul, signed_mul, ← Int.add_mul]
  generalize Ieee.signed s m (i - base).toNat + Ieee.signed t n (j - base).toNat = X
  have hpk := Nat.two_pow_pos k
  congr 1
  by_cases h0 : X = 0
  · subst h0
    simp [rung_zero]
  · have h1 : X * ((2 ^ k : Nat) : Int) ≠ 0 := Int.mul_ne_zero h0 (by omega)
    rw [if_neg h0, if_neg h1]
    have e1 : decide (X * ((2 ^ k : Nat) : Int) < 0) = decide (X < 0) := by
      rw [decide_eq_decide]
      constructor
      · intro h
        by_cases hx : X < 0
        · exact hx
        · have := Int.mul_nonneg (show 0 ≤ X by omega) (show (0 : Int) ≤ ((2 ^ k : Nat) : Int) by omega)
          omega
      · intro h
        exact Int.mul_neg_of_neg_of_pos h (by omega)
    rw [e1, Int.natAbs_mul, Int.natAbs_natCast]
    have e2 : p = base - k := by omega
    rw [e2, rung_mul]
end Go.Proofs.Ytelgmffmekfndaa.Fl
set_option linter.unusedVariables false
namespace Go.Proofs.Ytelgmffmekfndaa.Fl
open Ieee (double)

theorem Sticky.sum {d A B b : Nat} (h : Sticky d B b) (hA : A % 2 = 0) : Sticky d (A * 2 ^ d + B) (A + b) := by
  unfold Sticky at *
  rcases h with h | ⟨h1, h2, h3⟩
  · left; rw [h, Nat.add_mul]
  · right
    refine ⟨by omega, ?_, ?_⟩
    · rw [show A + b - 1 = A + (b - 1) by omega, Nat.add_mul]; omega
    · rw [show A + b + 1 = A + (b + 1) by omega, Nat.add_mul]; omega

theorem Sticky.diff {d A B b : Nat} (h : Sticky d B b) (hA : A % 2 = 0) (hb : b ≤ A) : Sticky d (A * 2 ^ d - B) (A - b) := by
  unfold Sticky at *
  rcases h with h | ⟨h1, h2, h3⟩
  · left; rw [h, Nat.sub_mul]
  · right
    have e1 : (b + 1) * 2 ^ d ≤ A * 2 ^ d := Nat.mul_le_mul_right _ (by omega)
    refine ⟨by omega, ?_, ?_⟩
    · have : (A - b - 1) * 2 ^ d = A * 2 ^ d - (b + 1) * 2 ^ d := by rw [show A - b - 1 = A - (b + 1) by omega, Nat.sub_mul]
      omega
    · have : (A - b + 1) * 2 ^ d = A * 2 ^ d - (b - 1) * 2 ^ d := by rw [show A - b + 1 = A - (b - 1) by omega, Nat.sub_mul]
      have e2 : (b - 1) * 2 ^ d ≤ A * 2 ^ d := Nat.mul_le_mul_right _ (by omega)
      omega

/-- the number of 53 bits, at a lower place -/
theorem mag_at (b : Nat) (h : exf b ≠ 2047) (p : Int) (hp : p ≤ expo b) : mag b * 2 ^ (plc b - p).toNat = mant b * 2 ^ (expo b - p).toNat := by
  have e := expo_plc b h
  rw [mant_mag b h, Nat.mul_assoc, ← Nat.pow_add]
  congr 2
  omega

theorem numOf_some (r : Nat) : numOf (some r) = r := rfl

theorem add_fin_eq (x y : Nat) (hx : x < 2 ^ 64) (hy : y < 2 ^ 64) (kx : exf x ≠ 2047) (ky : exf y ≠ 2047) (p : Int) (px : p ≤ expo x) (py : p ≤ expo y) :
    numOf (double.add x y) = (let T := Ieee.signed (sg x) (mant x) (expo x - p).toNat + Ieee.signed (sg y) (mant y) (expo y - p).toNat; if T = 0 then word (sg x && sg y) 0 else word (decide (T < 0)) (rung T.natAbs p)) := by
  unfold Ieee.Format.add
  rw [read_eq x hx, read_eq y hy, if_neg kx, if_neg ky]
  have ex := expo_plc x kx
  have ey := expo_plc y ky
  rw [sum_write _ _ _ _ _ _ p (by omega) (by omega), numOf_some]
  simp only [signed_eq, mag_at x kx p px, mag_at y ky p py]

theorem sum_comm (a b : Ieee.Datum) : a.sum b = b.sum a := by
  cases a with
  | nan s f => cases b <;> rfl
  | infinity s =>
    cases b with
    | nan t g => rfl
    | infinity t =>
      cases s <;> cases t <;> rfl
    | number t n j => rfl
  | number s m i =>
    cases b with
    | nan t g => rfl
    | infinity t => rfl
    | number t n j =>
      unfold Ieee.Datum.sum
      simp only
      rw [Int.min_comm i j, Bool.and_comm s t, Int.add_comm]

theorem add_comm (x y : Nat) : double.add x y = double.add y x := by
  unfold Ieee.Format.add
  rw [sum_comm]

theorem add_signs (s t : Bool) (A B : Nat) (p : Int) (R1 R2 : Nat) (hA0 : 0 < A) (hB0 : 0 < B) (hlt : s = t ∨ B < A) (rs : rung (A + B) p = R1) (rd : rung (A - B) p = R2) :
    (if (if s then -((A : Nat) : Int) else ((A : Nat) : Int)) + (if t then -((B : Nat) : Int) else ((B : Nat) : Int)) = 0 then word (s && t) 0
      else word (decide ((if s then -((A : Nat) : Int) else ((A : Nat) : Int)) + (if t then -((B : Nat) : Int) else ((B : Nat) : Int)) < 0)) (rung ((if s then -((A : Nat) : Int) else ((A : Nat) : Int)) + (if t then -((B : Nat) : Int) else ((B : Nat) : Int))).natAbs p))
      = if s = t then word s R1 else word s R2 := by
  subst rs rd
  cases s <;> cases t <;> simp only [Bool.false_eq_true, Bool.true_eq_false, if_false, if_true]
  · rw [if_neg (by omega), show decide ((A : Int) + (B : Int) < 0) = false by simp; omega]
    congr 2
  · have hlt' : B < A := by rcases hlt with h | h; cases h; exact h
    rw [if_neg (by omega), show decide ((A : Int) + -(B : Int) < 0) = false by simp; omega]
    congr 2
    omega
  · have hlt' : B < A := by rcases hlt with h | h; cases h; exact h
    rw [if_neg (by omega), show decide (-(A : Int) + (B : Int) < 0) = true by simp; omega]
    congr 2
    omega
  · rw [if_neg (by omega), show decide (-(A : Int) + -(B : Int) < 0) = true by simp; omega]
    congr 2
    omega

/-- two finite numbers, neither of them nought: the second one brought to the first one's place -/
theorem add_gen (x y b d : Nat) (hx : x < 2 ^ 64) (hy : y < 2 ^ 64) (kx : exf x ≠ 2047) (ky : exf y ≠ 2047) (zx : mant x ≠ 0) (zy : mant y ≠ 0) (hd : expo x = expo y + d)
    (hS : Sticky d (mant y * 512) b) (hb : b ≤ mant x * 512) (h10 : mant y * 512 = b * 2 ^ d ∨ 10 ≤ d) (hlt : sg x = sg y ∨ mant y * 512 < mant x * 512 * 2 ^ d) (h54 : 10 ≤ d → b + 2 ^ 54 ≤ mant x * 512) :
    numOf (double.add x y) = if sg x = sg y then word (sg x) (rung (mant x * 512 + b) (expo x - 9)) else word (sg x) (rung (mant x * 512 - b) (expo x - 9)) := by
  rw [add_fin_eq x y hx hy kx ky (expo y - 9) (by omega) (by omega)]
  have e1 : (expo x - (expo y - 9)).toNat = 9 + d := by omega
  have e2 : (expo y - (expo y - 9)).toNat = 9 := by omega
  rw [e1, e2]
  simp only [signed_eq]
  have e3 : mant x * 2 ^ (9 + d) = mant x * 512 * 2 ^ d := by rw [Nat.pow_add, ← Nat.mul_assoc]
  have e4 : mant y * 2 ^ 9 = mant y * 512 := rfl
  rw [e3, e4]
  have hpl : expo y - 9 + d = expo x - 9 := by omega
  have hp := Nat.two_pow_pos d
  have hA0 : 0 < mant x * 512 * 2 ^ d := Nat.mul_pos (by omega) hp
  have hA2 : mant x * 512 % 2 = 0 := by omega
  have rs : rung (mant x * 512 * 2 ^ d + mant y * 512) (expo y - 9) = rung (mant x * 512 + b) (expo x - 9) := by
    have hs := hS.sum hA2
    rcases h10 with h10 | h10
    · rw [h10, ← Nat.add_mul, ← hpl]
      have := rung_mul (mant x * 512 + b) (expo y - 9 + d) d
      rw [show expo y - 9 + (d : Int) - d = expo y - 9 by omega] at this
      exact this
    · rw [hs.rung (by have := h54 h10; omega), hpl]
  have rd : rung (mant x * 512 * 2 ^ d - mant y * 512) (expo y - 9) = rung (mant x * 512 - b) (expo x - 9) := by
    have hs := hS.diff hA2 hb
    rcases h10 with h10 | h10
    · rw [h10, ← Nat.sub_mul, ← hpl]
      have := rung_mul (mant x * 512 - b) (expo y - 9 + d) d
      rw [show expo y - 9 + (d : Int) - d = expo y - 9 by omega] at this
      exact this
    · rw [hs.rung (by have := h54 h10; omega), hpl]
  exact add_signs (sg x) (sg y) _ _ _ _ _ hA0 (by omega) hlt rs rd

theorem add_opp (x y : Nat) (hx : x < 2 ^ 64) (hy : y < 2 ^ 64) (kx : exf x ≠ 2047) (ky : exf y ≠ 2047) (he : expo x = expo y) (hm : mant x = mant y) (hs : sg x ≠ sg y) : numOf (double.add x y) = 0 := by
  rw [add_fin_eq x y hx hy kx ky (expo y) (by omega) (by omega), he, hm]
  simp only [Int.sub_self, Int.toNat_zero, signed_eq]
  cases hsx : sg x <;> cases hsy : sg y <;> simp_all
  · rw [if_pos (by omega)]; rfl
  · rw [if_pos (by omega)]; rfl

theorem add_zero_both (x y : Nat) (hx : x < 2 ^ 64) (hy : y < 2 ^ 64) (kx : exf x ≠ 2047) (ky : exf y ≠ 2047) (zx : mant x = 0) (zy : mant y = 0) : numOf (double.add x y) = word (sg x && sg y) 0 := by
  rw [add_fin_eq x y hx hy kx ky (min (expo x) (expo y)) (by omega) (by omega), zx, zy]
  simp [signed_eq]

theorem add_zero_left (x y : Nat) (hx : x < 2 ^ 64) (hy : y < 2 ^ 64) (kx : exf x ≠ 2047) (ky : exf y ≠ 2047) (zx : mant x = 0) (zy : mant y ≠ 0) : numOf (double.add x y) = y := by
  unfold Ieee.Format.add
  rw [read_eq x hx, read_eq y hy, if_neg kx, if_neg ky]
  have hm0 : mag x = 0 := (mag_zero x kx).2 zx
  have hm1 : mag y ≠ 0 := fun e => zy ((mag_zero y ky).1 e)
  rw [hm0, sum_write _ _ _ _ _ _ (min (plc x) (plc y)) (by omega) (by omega), numOf_some]
  have hp : ∃ k : Nat, plc y - k = min (plc x) (plc y) := ⟨(plc y - min (plc x) (plc y)).toNat, by omega⟩
  obtain ⟨k, hk⟩ := hp
  have hk2 : (plc y - min (plc x) (plc y)).toNat = k := by omega
  simp only [signed_eq, hk2, Nat.zero_mul]
  have hpk := Nat.two_pow_pos k
  have hne : 0 < mag y * 2 ^ k := Nat.mul_pos (by omega) hpk
  rw [← hk]
  have hr := rung_mul (mag y) (plc y) k
  have hself := rung_self y hy ky
  have hw := word_self y hy
  generalize mag y * 2 ^ k = A at *
  cases hsy : sg y
  · have e1 : ((if sg x = true then -((0 : Nat) : Int) else ((0 : Nat) : Int)) + if false = true then -(A : Int) else (A : Int)) = A := by split <;> simp
    rw [e1, if_neg (by omega)]
    have e5 : decide ((A : Int) < 0) = false := by simp
    rw [e5, Int.natAbs_natCast, hr, hself, ← hsy]
    exact hw
  · have e1 : ((if sg x = true then -((0 : Nat) : Int) else ((0 : Nat) : Int)) + if true = true then -(A : Int) else (A : Int)) = -A := by split <;> simp
    rw [e1, if_neg (by omega)]
    have e5 : decide (-(A : Int) < 0) = true := by simp; omega
    rw [e5, Int.natAbs_neg, Int.natAbs_natCast, hr, hself, ← hsy]
    exact hw

theorem read_nan (x : Nat) (hx : x < 2 ^ 64) (k : exf x = 2047) (f : fr x ≠ 0) : double.read x = .nan (sg x) (fr x) := by rw [read_eq x hx, if_pos k, if_neg f]
theorem read_inf (x : Nat) (hx : x < 2 ^ 64) (k : exf x = 2047) (f : fr x = 0) : double.read x = .infinity (sg x) := by rw [read_eq x hx, if_pos k, if_pos f]
theorem read_fin (x : Nat) (hx : x < 2 ^ 64) (k : exf x ≠ 2047) : double.read x = .number (sg x) (mag x) (plc x) := by rw [read_eq x hx, if_neg k]
theorem inf_self (x : Nat) (hx : x < 2 ^ 64) (k : exf x = 2047) (f : fr x = 0) : word (sg x) (2047 * 2 ^ 52) = x := by
  have h := word_self x hx
  rw [rungOf x hx, k, f] at h
  exact h

theorem add_nan_l (x y : Nat) (hx : x < 2 ^ 64) (k : exf x = 2047) (f : fr x ≠ 0) : numOf (double.add x y) = nanW := by
  unfold Ieee.Format.add
  rw [read_nan x hx k f]; rfl
theorem add_nan_r (x y : Nat) (hy : y < 2 ^ 64) (k : exf y = 2047) (f : fr y ≠ 0) : numOf (double.add x y) = nanW := by
  rw [add_comm]; exact add_nan_l y x hy k f
theorem add_inf_inf (x y : Nat) (hx : x < 2 ^ 64) (hy : y < 2 ^ 64) (k : exf x = 2047) (f : fr x = 0) (k2 : exf y = 2047) (f2 : fr y = 0) : numOf (double.add x y) = if sg x = sg y then x else nanW := by
  unfold Ieee.Format.add
  rw [read_inf x hx k f, read_inf y hy k2 f2]
  have h := inf_self x hx k f
  by_cases c : sg x = sg y
  · rw [if_pos c]
    show numOf ((if sg x = sg y then some (Ieee.Datum.infinity (sg x)) else none).map double.write) = x
    rw [if_pos c, Option.map_some, write_inf, h]; rfl
  · rw [if_neg c]
    show numOf ((if sg x = sg y then some (Ieee.Datum.infinity (sg x)) else none).map double.write) = nanW
    rw [if_neg c]; rfl
theorem add_inf_l (x y : Nat) (hx : x < 2 ^ 64) (hy : y < 2 ^ 64) (k : exf x = 2047) (f : fr x = 0) (k2 : exf y ≠ 2047) : numOf (double.add x y) = x := by
  unfold Ieee.Format.add
  rw [read_inf x hx k f, read_fin y hy k2]
  have h := inf_self x hx k f
  show numOf ((some (Ieee.Datum.infinity (sg x))).map double.write) = x
  rw [Option.map_some, write_inf, h]; rfl

/-- the last bit set -/
theorem or_one (q : Nat) : q ||| 1 = if q % 2 = 1 then q else q + 1 := by
  apply Nat.eq_of_testBit_eq
  intro i
  rw [Nat.testBit_or]
  cases i with
  | zero =>
    simp only [Nat.testBit_zero]
    split <;> simp <;> omega
  | succ i =>
    simp only [Nat.testBit_succ]
    split
    · simp
    · simp
      congr 1
      omega

theorem sticky_far (B d : Nat) (h0 : 0 < B) (h : B < 2 ^ 62) (hd : 62 ≤ d) : Sticky d B 1 := by
  right
  have : 2 ^ 62 ≤ 2 ^ d := Nat.pow_le_pow_right (by omega) hd
  refine ⟨rfl, by simpa using h0, by omega⟩

theorem sticky_near (B d : Nat) (hr : B % 2 ^ d ≠ 0) : Sticky d B (B / 2 ^ d ||| 1) := by
  right
  have hp := Nat.two_pow_pos d
  have hm := Nat.mod_lt B hp
  have hdm := Nat.div_add_mod B (2 ^ d)
  rw [Nat.mul_comm] at hdm
  generalize B / 2 ^ d = Q at *
  generalize B % 2 ^ d = R at *
  generalize 2 ^ d = X at *
  subst hdm
  rw [or_one]
  split
  · rename_i h
    refine ⟨h, ?_, ?_⟩
    · have : (Q - 1) * X ≤ Q * X := Nat.mul_le_mul_right _ (by omega)
      omega
    · rw [Nat.add_mul]; omega
  · rename_i h
    refine ⟨by omega, ?_, ?_⟩
    · rw [Nat.add_sub_cancel]; omega
    · rw [show Q + 1 + 1 = Q + 2 by omega, Nat.add_mul]; omega

theorem exact_near (B d : Nat) (hr : B % 2 ^ d = 0) : B = B / 2 ^ d * 2 ^ d := by
  have hdm := Nat.div_add_mod B (2 ^ d)
  rw [hr, Nat.mul_comm] at hdm
  omega

theorem ten (m d : Nat) (hr : m * 512 % 2 ^ d ≠ 0) : 10 ≤ d := by
  rcases Nat.lt_or_ge d 10 with h | h
  · exfalso
    apply hr
    have e : m * 512 = m * 2 ^ (9 - d) * 2 ^ d := by
      rw [Nat.mul_assoc, ← Nat.pow_add, show 9 - d + d = 9 by omega]
    rw [e, Nat.mul_mod_left]
  · exact h
end Go.Proofs.Ytelgmffmekfndaa.Fl
set_option linter.unusedVariables false
namespace Go.Proofs.Ytelgmffmekfndaa.Fl
open Ieee (double)

theorem order_nan (x : Nat) (h : 2047 * 2 ^ 52 < x % 2 ^ 63) (hx : x < 2 ^ 64) (y : Nat) : double.order x y = none := by
  have hr := rungOf x hx
  have hf := fr_lt x
  have he := exf_lt x
  have k : exf x = 2047 := by omega
  have f : fr x ≠ 0 := by intro e; rw [k, e] at hr; omega
  unfold Ieee.Format.order
  rw [read_nan x hx k f]
  rfl

theorem order_nan_r (x : Nat) (h : 2047 * 2 ^ 52 < x % 2 ^ 63) (hx : x < 2 ^ 64) (y : Nat) : double.order y x = none := by
  have hr := rungOf x hx
  have hf := fr_lt x
  have he := exf_lt x
  have k : exf x = 2047 := by omega
  have f : fr x ≠ 0 := by intro e; rw [k, e] at hr; omega
  unfold Ieee.Format.order
  rw [read_nan x hx k f]
  cases double.read y <;> rfl

theorem order_self (x : Nat) (h : x % 2 ^ 63 ≤ 2047 * 2 ^ 52) (hx : x < 2 ^ 64) : double.order x x = some .eq := by
  have hr := rungOf x hx
  have hf := fr_lt x
  have he := exf_lt x
  unfold Ieee.Format.order
  by_cases k : exf x = 2047
  · have f : fr x = 0 := by rw [k] at hr; omega
    rw [read_inf x hx k f]
    cases sg x <;> rfl
  · rw [read_fin x hx k]
    unfold Ieee.Datum.order
    simp only [Int.sub_self, Int.min_self]
    simp [compare, compareOfLessAndEq]

def notNan (d : Ieee.Datum) : Bool := match d with | .nan .. => false | _ => true

theorem write_bd (d : Ieee.Datum) (h : notNan d = true) : double.write d < 2 ^ 64 ∧ double.write d % 2 ^ 63 ≤ 2047 * 2 ^ 52 := by
  cases d with
  | nan s f => cases h
  | infinity s =>
    rw [write_inf]
    exact ⟨word_lt _ _ (by decide), by rw [word_mod _ _ (by decide)]; exact Nat.le_refl _⟩
  | number s m p =>
    rw [write_number]
    have := rung_le m p
    exact ⟨word_lt _ _ (by omega), by rw [word_mod _ _ (by omega)]; exact this⟩

theorem sum_num (a b d : Ieee.Datum) (h : a.sum b = some d) : notNan d = true := by
  cases a <;> cases b <;> simp only [Ieee.Datum.sum] at h
  all_goals first
    | (cases h; done)
    | (cases h; rfl)
    | (split at h <;> cases h; rfl)
theorem product_num (a b d : Ieee.Datum) (h : a.product b = some d) : notNan d = true := by
  cases a <;> cases b <;> simp only [Ieee.Datum.product] at h
  all_goals first
    | (cases h; done)
    | (cases h; rfl)
    | (split at h <;> cases h; rfl)
theorem quotient_num (k : Nat) (a b d : Ieee.Datum) (h : a.quotient k b = some d) : notNan d = true := by
  cases a <;> cases b <;> simp only [Ieee.Datum.quotient] at h
  all_goals first
    | (cases h; done)
    | (cases h; rfl)
    | (split at h <;> first | (cases h; done) | (cases h; rfl) | (split at h <;> cases h; rfl))
theorem root_num (k : Nat) (a d : Ieee.Datum) (h : a.root k = some d) : notNan d = true := by
  cases a <;> simp only [Ieee.Datum.root] at h
  all_goals first
    | (cases h; done)
    | (cases h; rfl)
    | (split at h <;> first | (cases h; done) | (cases h; rfl) | (split at h <;> first | (cases h; done) | (cases h; rfl)))

theorem map_bd {o : Option Ieee.Datum} {r : Nat} (hd : ∀ d, o = some d → notNan d = true) (h : o.map double.write = some r) : r < 2 ^ 64 ∧ r % 2 ^ 63 ≤ 2047 * 2 ^ 52 := by
  cases o with
  | none => cases h
  | some d =>
    simp only [Option.map_some] at h
    cases h
    exact write_bd d (hd d rfl)
theorem add_bd {x y r : Nat} (h : double.add x y = some r) : r < 2 ^ 64 ∧ r % 2 ^ 63 ≤ 2047 * 2 ^ 52 := map_bd (sum_num _ _) h
theorem sub_bd {x y r : Nat} (h : double.sub x y = some r) : r < 2 ^ 64 ∧ r % 2 ^ 63 ≤ 2047 * 2 ^ 52 := map_bd (sum_num _ _) h
theorem mul_bd {x y r : Nat} (h : double.mul x y = some r) : r < 2 ^ 64 ∧ r % 2 ^ 63 ≤ 2047 * 2 ^ 52 := map_bd (product_num _ _) h
theorem div_bd {x y r : Nat} (h : double.div x y = some r) : r < 2 ^ 64 ∧ r % 2 ^ 63 ≤ 2047 * 2 ^ 52 := map_bd (quotient_num _ _ _) h
theorem sqrt_bd {x r : Nat} (h : double.sqrt x = some r) : r < 2 ^ 64 ∧ r % 2 ^ 63 ≤ 2047 * 2 ^ 52 := map_bd (root_num _ _) h

/-- a difference is the sum with the opposite -/
theorem read_opp (y : Nat) (hy : y < 2 ^ 64) : double.read (y ^^^ 2 ^ 63) = (double.read y).opposite := by
  have hb : y ^^^ 2 ^ 63 = if sg y then y - 2 ^ 63 else y + 2 ^ 63 := by
    have h : y ^^^ 2 ^ 63 = if 2 ^ 63 ≤ y then y - 2 ^ 63 else y + 2 ^ 63 := by
      by_cases c : 2 ^ 63 ≤ y
      · rw [if_pos c]
        obtain ⟨z, rfl⟩ : ∃ z, y = 2 ^ 63 + z := ⟨y - 2 ^ 63, by omega⟩
        have hz : z < 2 ^ 63 := by omega
        rw [Nat.add_sub_cancel_left]
        have e : 2 ^ 63 + z = 2 ^ 63 ^^^ z := by
          have := Nat.two_pow_add_eq_or_of_lt hz 1
          simp only [Nat.mul_one] at this
          rw [this]
          apply Nat.eq_of_testBit_eq
          intro i
          rw [Nat.testBit_or, Nat.testBit_xor, Nat.testBit_two_pow]
          by_cases hi : 63 = i
          · subst hi
            rw [Nat.testBit_lt_two_pow hz]; simp
          · simp [hi]
        rw [e, Nat.xor_comm (2 ^ 63) z, Nat.xor_assoc, Nat.xor_self, Nat.xor_zero]
      · rw [if_neg c]
        have hz : y < 2 ^ 63 := by omega
        rw [Nat.add_comm]
        have := Nat.two_pow_add_eq_or_of_lt hz 1
        simp only [Nat.mul_one] at this
        rw [this]
        apply Nat.eq_of_testBit_eq
        intro i
        rw [Nat.testBit_or, Nat.testBit_xor, Nat.testBit_two_pow]
        by_cases hi : 63 = i
        · subst hi
          rw [Nat.testBit_lt_two_pow hz]; simp
        · simp [hi]
    rw [h]; unfold sg
    by_cases c : 2 ^ 63 ≤ y
    · rw [if_pos c, if_pos (by simpa using c)]
    · rw [if_neg c, if_neg (by simpa using c)]
  have hl : y ^^^ 2 ^ 63 < 2 ^ 64 := by rw [hb]; unfold sg; split <;> simp_all <;> omega
  have hm : (y ^^^ 2 ^ 63) % 2 ^ 63 = y % 2 ^ 63 := by rw [hb]; unfold sg; split <;> simp_all <;> omega
  have hs : sg (y ^^^ 2 ^ 63) = !sg y := by
    rw [hb]
    by_cases c : 2 ^ 63 ≤ y
    · have e : sg y = true := by unfold sg; simpa using c
      rw [e, if_pos rfl]; unfold sg; simp; omega
    · have e : sg y = false := by unfold sg; simpa using c
      rw [e, if_neg (by simp)]; unfold sg; simp <;> omega
  have e1 : exf (y ^^^ 2 ^ 63) = exf y := by
    have a := rungOf _ hl; have b := rungOf y hy
    have := fr_lt y; have := fr_lt (y ^^^ 2 ^ 63)
    omega
  have e2 : fr (y ^^^ 2 ^ 63) = fr y := by
    have a := rungOf _ hl; have b := rungOf y hy
    omega
  rw [read_eq _ hl, read_eq y hy, e1, e2, hs]
  have e3 : mag (y ^^^ 2 ^ 63) = mag y := by unfold mag; rw [e1, e2]
  have e4 : plc (y ^^^ 2 ^ 63) = plc y := by unfold plc; rw [e1]
  rw [e3, e4]
  split
  · split <;> rfl
  · rfl

theorem sub_add (x y : Nat) (hy : y < 2 ^ 64) : double.sub x y = double.add x (y ^^^ 2 ^ 63) := by
  unfold Ieee.Format.sub Ieee.Format.add
  rw [read_opp y hy]
end Go.Proofs.Ytelgmffmekfndaa.Fl
namespace Go.Proofs.Ytelgmffmekfndaa.Fl
open Ieee (double)

def whole (b : Nat) : Int :=
  if exf b = 2047 then (if fr b = 0 then (if sg b then -9223372036854775808 else 9223372036854775807) else 0)
  else if mant b = 0 ∨ expo b < -53 then 0
  else if 10 < expo b then (if sg b then -9223372036854775808 else 9223372036854775807)
  else
    let m : Nat := if expo b < 0 then mant b / 2 ^ (-expo b).toNat else mant b * 2 ^ (expo b).toNat
    if sg b then -(m : Int) else m

theorem cut_zero (s : Bool) (n d : Nat) : Ieee.Toward.zero.cut s n d = n / 2 ^ d := by
  unfold Ieee.Toward.cut
  simp only [Nat.one_shiftLeft, Bool.toNat_false, Nat.add_zero]
  by_cases h : d ≤ n.log2 + 2
  · rw [Nat.min_eq_left h]
  · rw [Nat.min_eq_right (by omega)]
    have hn : n < 2 ^ (n.log2 + 1) := Nat.lt_log2_self
    have e1 : 2 ^ (n.log2 + 2) = 2 * 2 ^ (n.log2 + 1) := by rw [Nat.pow_succ]; omega
    have e2 : 2 ^ (n.log2 + 2) ≤ 2 ^ d := Nat.pow_le_pow_right (by omega) (by omega)
    rw [Nat.div_eq_of_lt (by omega), Nat.div_eq_of_lt (by omega)]

theorem toInt_fin (b : Nat) (hb : b < 2 ^ 64) (k : exf b ≠ 2047) :
    (double.read b).toInt .zero = some (if sg b then -((mag b * 2 ^ (plc b).toNat / 2 ^ (-plc b).toNat : Nat) : Int) else ((mag b * 2 ^ (plc b).toNat / 2 ^ (-plc b).toNat : Nat) : Int)) := by
  rw [read_fin b hb k]
  unfold Ieee.Datum.toInt Ieee.Datum.integral
  simp only [cut_zero, Nat.shiftLeft_eq, signed_eq, Nat.pow_zero, Nat.mul_one]

theorem mag_norm {b : Nat} (k : exf b ≠ 2047) (c : exf b ≠ 0) : mant b = mag b ∧ expo b = plc b ∧ 2 ^ 52 ≤ mag b ∧ mag b < 2 ^ 53 ∧ mag b = 2 ^ 52 + fr b := by
  have hf := fr_lt b
  unfold mant mag expo plc
  rw [if_neg k, if_neg c, if_neg c, if_neg k, if_neg c, if_neg c]
  omega

theorem mag_sub {b : Nat} (c : exf b = 0) : mag b = fr b ∧ plc b = -1074 ∧ expo b ≤ -1074 := by
  unfold mag plc expo
  rw [if_pos c, if_pos c, c, if_neg (by omega), if_pos rfl]
  omega

theorem whole_low {b : Nat} (k : exf b ≠ 2047) (h : mant b = 0 ∨ expo b < -53) : whole b = 0 := by
  unfold whole
  rw [if_neg k, if_pos h]

theorem whole_mid {b : Nat} (k : exf b ≠ 2047) (h : ¬ (mant b = 0 ∨ expo b < -53)) (h1 : ¬ 10 < expo b) : whole b =
    if sg b then -((if expo b < 0 then mant b / 2 ^ (-expo b).toNat else mant b * 2 ^ (expo b).toNat : Nat) : Int) else ((if expo b < 0 then mant b / 2 ^ (-expo b).toNat else mant b * 2 ^ (expo b).toNat : Nat) : Int) := by
  unfold whole
  rw [if_neg k, if_neg h, if_neg h1]

theorem div_none {m n k : Nat} (h : m < 2 ^ k) (hn : k ≤ n) : m / 2 ^ n = 0 :=
  Nat.div_eq_of_lt (Nat.lt_of_lt_of_le h (Nat.pow_le_pow_right (by omega) hn))

theorem toInt_whole (b : Nat) (hb : b < 2 ^ 64) (k : exf b ≠ 2047) (h : plc b ≤ 10) : (double.read b).toInt .zero = some (whole b) := by
  rw [toInt_fin b hb k]
  congr 1
  have hf := fr_lt b
  by_cases c : exf b = 0
  · obtain ⟨m1, p1, e1⟩ := mag_sub c
    rw [whole_low k (.inr (by omega))]
    have e3 : (plc b).toNat = 0 := by omega
    rw [e3, Nat.pow_zero, Nat.mul_one, m1, div_none hf (by omega)]
    simp
  · obtain ⟨m1, p1, g1, g2, _⟩ := mag_norm k c
    by_cases f : expo b < -53
    · rw [whole_low k (.inr f)]
      have e3 : (plc b).toNat = 0 := by omega
      rw [e3, Nat.pow_zero, Nat.mul_one, div_none g2 (by omega)]
      simp
    · rw [whole_mid k (by omega) (by omega), m1, p1]
      by_cases g : plc b < 0
      · have e3 : (plc b).toNat = 0 := by omega
        rw [if_pos g, e3, Nat.pow_zero, Nat.mul_one]
      · have e3 : (-plc b).toNat = 0 := by omega
        rw [if_neg g, e3, Nat.pow_zero, Nat.div_one]

theorem read_top : double.read 4890909195324358656 = .number false (2 ^ 52) 11 := by decide
theorem read_bottom : double.read 14114281232179134464 = .number true (2 ^ 52) 11 := by decide

theorem order_top (b : Nat) (hb : b < 2 ^ 64) (k : exf b ≠ 2047) : double.order b 4890909195324358656 = some (compare (if sg b then -((mag b * 2 ^ (plc b - min (plc b) 11).toNat : Nat) : Int) else ((mag b * 2 ^ (plc b - min (plc b) 11).toNat : Nat) : Int)) ((2 ^ 52 * 2 ^ (11 - min (plc b) 11).toNat : Nat) : Int)) := by
  unfold Ieee.Format.order
  rw [read_fin b hb k, read_top]
  unfold Ieee.Datum.order
  simp only [signed_eq, Bool.false_eq_true, if_false]

theorem order_bottom (b : Nat) (hb : b < 2 ^ 64) (k : exf b ≠ 2047) : double.order b 14114281232179134464 = some (compare (if sg b then -((mag b * 2 ^ (plc b - min (plc b) 11).toNat : Nat) : Int) else ((mag b * 2 ^ (plc b - min (plc b) 11).toNat : Nat) : Int)) (-((2 ^ 52 * 2 ^ (11 - min (plc b) 11).toNat : Nat) : Int))) := by
  unfold Ieee.Format.order
  rw [read_fin b hb k, read_bottom]
  unfold Ieee.Datum.order
  simp only [signed_eq, if_true]

theorem cmp_lt {a b : Int} (h : a < b) : compare a b = .lt := by
  simp [compare, compareOfLessAndEq, h]
theorem cmp_gt {a b : Int} (h : b < a) : compare a b = .gt := by
  have h1 : ¬ a < b := by omega
  have h2 : a ≠ b := by omega
  simp [compare, compareOfLessAndEq, h1, h2]
theorem cmp_eq (a : Int) : compare a a = .eq := by
  simp [compare, compareOfLessAndEq]

/-- up to place 10 a number lies between the two bounds -/
theorem order_mid (b : Nat) (hb : b < 2 ^ 64) (k : exf b ≠ 2047) (h : plc b ≤ 10) : double.order b 4890909195324358656 = some .lt ∧ double.order b 14114281232179134464 = some .gt := by
  rw [order_top b hb k, order_bottom b hb k]
  have hm : mag b < 2 ^ 53 := by have := fr_lt b; unfold mag; split <;> omega
  have e1 : (plc b - min (plc b) 11).toNat = 0 := by omega
  have e2 : (2 : Nat) ^ 1 ≤ 2 ^ (11 - min (plc b) 11).toNat := Nat.pow_le_pow_right (by omega) (by omega)
  rw [e1, Nat.pow_zero, Nat.mul_one]
  generalize 2 ^ (11 - min (plc b) 11).toNat = T at *
  have e3 : 2 ^ 52 * 2 ≤ 2 ^ 52 * T := Nat.mul_le_mul_left _ e2
  generalize 2 ^ 52 * T = U at *
  constructor
  · rw [cmp_lt]; split <;> omega
  · rw [cmp_gt]; split <;> omega

/-- beyond, by its sign -/
theorem order_far (b : Nat) (hb : b < 2 ^ 64) (k : exf b ≠ 2047) (h : 11 ≤ plc b) :
    (sg b = false → (double.order b 4890909195324358656 = some .gt ∨ double.order b 4890909195324358656 = some .eq)) ∧
    (sg b = true → double.order b 4890909195324358656 = some .lt ∧ (double.order b 14114281232179134464 = some .lt ∨ (double.order b 14114281232179134464 = some .eq ∧ mag b * 2 ^ (plc b - 11).toNat = 2 ^ 52))) := by
  rw [order_top b hb k, order_bottom b hb k]
  have c : exf b ≠ 0 := by intro c; have := (mag_sub c).2.1; omega
  have g := (mag_norm k c).2.2.1
  have e1 : min (plc b) 11 = 11 := by omega
  rw [e1]
  have e2 : 1 ≤ 2 ^ (plc b - 11).toNat := Nat.two_pow_pos _
  have e3 : mag b * 1 ≤ mag b * 2 ^ (plc b - 11).toNat := Nat.mul_le_mul_left _ e2
  generalize mag b * 2 ^ (plc b - 11).toNat = U at *
  have e4 : (2 ^ 52 * 2 ^ ((11 : Int) - 11).toNat : Nat) = 2 ^ 52 := rfl
  rw [e4]
  have e5 : 2 ^ 52 ≤ U := by omega
  constructor
  · intro s
    rw [s]
    simp only [Bool.false_eq_true, if_false]
    by_cases q : U = 2 ^ 52
    · right; rw [q, cmp_eq]
    · left; rw [cmp_gt]; omega
  · intro s
    rw [s]
    simp only [if_true]
    refine ⟨by rw [cmp_lt]; omega, ?_⟩
    by_cases q : U = 2 ^ 52
    · right; rw [q, cmp_eq]; exact ⟨rfl, rfl⟩
    · left; rw [cmp_lt]; omega

theorem whole_far (b : Nat) (k : exf b ≠ 2047) (h : 11 ≤ plc b) : whole b = if sg b then -9223372036854775808 else 9223372036854775807 := by
  have c : exf b ≠ 0 := by intro c; have := (mag_sub c).2.1; omega
  obtain ⟨m1, p1, g1, g2, _⟩ := mag_norm k c
  unfold whole
  rw [if_neg k, if_neg (by omega), if_pos (by omega)]

/-- the least one of all is whole already -/
theorem toInt_least (b : Nat) (hb : b < 2 ^ 64) (k : exf b ≠ 2047) (h : 11 ≤ plc b) (s : sg b = true) (q : mag b * 2 ^ (plc b - 11).toNat = 2 ^ 52) : (double.read b).toInt .zero = some (whole b) := by
  rw [toInt_fin b hb k, whole_far b k h, s]
  have e3 : (-plc b).toNat = 0 := by omega
  have e4 : (plc b).toNat = (plc b - 11).toNat + 11 := by omega
  rw [e3, e4, Nat.pow_add, ← Nat.mul_assoc, q]
  rfl

theorem whole_bd (b : Nat) : -9223372036854775808 ≤ whole b ∧ whole b ≤ 9223372036854775807 := by
  have hm := mant_lt b
  unfold whole
  split
  · split
    · split <;> omega
    · omega
  · split
    · omega
    · split
      · split <;> omega
      · rename_i h1 h2
        have key : (if expo b < 0 then mant b / 2 ^ (-expo b).toNat else mant b * 2 ^ (expo b).toNat) ≤ 9223372036854775807 := by
          split
          · have := Nat.div_le_self (mant b) (2 ^ (-expo b).toNat); omega
          · have e1 : 2 ^ (expo b).toNat ≤ 2 ^ 10 := Nat.pow_le_pow_right (by omega) (by omega)
            have e2 := Nat.mul_le_mul_left (mant b) e1
            omega
        dsimp only
        split <;> omega

theorem order_inf (b : Nat) (hb : b < 2 ^ 64) (k : exf b = 2047) (f : fr b = 0) :
    double.order b b = some .eq ∧ (sg b = false → double.order b 4890909195324358656 = some .gt) ∧ (sg b = true → double.order b 4890909195324358656 = some .lt ∧ double.order b 14114281232179134464 = some .lt) := by
  refine ⟨order_self b (by have := rungOf b hb; omega) hb, ?_, ?_⟩ <;> intro s <;> unfold Ieee.Format.order <;> rw [read_inf b hb k f, read_top]
  · rw [s]; rfl
  · rw [read_bottom, s]; exact ⟨rfl, rfl⟩

/-- a whole number of 53 bits is the number, and back -/
theorem whole_small (s : Bool) (m : Nat) (h : m < 2 ^ 53) : whole (word s (rung m 0)) = if s then -(m : Int) else m := by
  by_cases z : m = 0
  · subst z
    rw [rung_zero]
    cases s <;> decide
  have l0 := Nat.log2_self_le z
  have l1 : m < 2 ^ (m.log2 + 1) := Nat.lt_log2_self
  have l2 : m.log2 < 53 := (Nat.log2_lt z).2 h
  generalize m.log2 = L at *
  have r1 : rung m 0 = rung (m * 2 ^ (52 - L)) (0 - ((52 - L : Nat) : Int)) := (rung_mul m 0 (52 - L)).symm
  have b0 : 2 ^ 52 ≤ m * 2 ^ (52 - L) := by
    calc 2 ^ 52 = 2 ^ L * 2 ^ (52 - L) := by rw [← Nat.pow_add]; congr 1; omega
      _ ≤ _ := Nat.mul_le_mul_right _ l0
  have b1 : m * 2 ^ (52 - L) < 2 ^ 53 := by
    calc _ < 2 ^ (L + 1) * 2 ^ (52 - L) := Nat.mul_lt_mul_of_pos_right l1 (Nat.two_pow_pos _)
      _ = 2 ^ 53 := by rw [← Nat.pow_add]; congr 1; omega
  have q : m * 2 ^ (52 - L) / 2 ^ (52 - L) = m := Nat.mul_div_cancel _ (Nat.two_pow_pos _)
  rw [rung_exact _ _ b0 b1 (by omega) (by omega)] at r1
  generalize m * 2 ^ (52 - L) = F at *
  have r2 : rung m 0 = (L + 1023) * 2 ^ 52 + (F - 2 ^ 52) := by rw [r1]; congr 2; omega
  rw [r2]
  clear r1 r2
  have hx : exf (word s ((L + 1023) * 2 ^ 52 + (F - 2 ^ 52))) = L + 1023 := by
    unfold exf word; split <;> omega
  have hf : fr (word s ((L + 1023) * 2 ^ 52 + (F - 2 ^ 52))) = F - 2 ^ 52 := by
    unfold fr word; split <;> omega
  have hs : sg (word s ((L + 1023) * 2 ^ 52 + (F - 2 ^ 52))) = s := word_sg _ _ (by omega)
  generalize word s ((L + 1023) * 2 ^ 52 + (F - 2 ^ 52)) = b at *
  have hm : mant b = F := by unfold mant; rw [if_neg (by omega), if_neg (by omega)]; omega
  have he : expo b = (L : Int) - 52 := by unfold expo; rw [if_neg (by omega), if_neg (by omega)]; omega
  unfold whole
  rw [if_neg (by omega), if_neg (by omega), if_neg (by omega), hm, he, hs]
  by_cases g : L = 52
  · subst g
    simp at q
    subst q
    simp
  · have e1 : (-((L : Int) - 52)).toNat = 52 - L := by omega
    have e2 : ((L : Int) - 52 < 0) := by omega
    simp only [if_pos e2, e1, q]
end Go.Proofs.Ytelgmffmekfndaa.Fl
namespace Go.Proofs.Ytelgmffmekfndaa.Fl
open Ieee (double)

/-- the place in the row of numbers -/
def rankN (b : Nat) : Int := if sg b then -((b % 2 ^ 63 : Nat) : Int) else ((b % 2 ^ 63 : Nat) : Int)
/-- is it a number -/
def isN (b : Nat) : Prop := ¬ (exf b = 2047 ∧ fr b ≠ 0)

theorem cmp_congr {a b c d : Int} (h1 : a < b → c < d) (h2 : b < a → d < c) (h3 : a = b → c = d) : compare c d = compare a b := by
  rcases Int.lt_trichotomy a b with h | h | h
  · rw [cmp_lt h, cmp_lt (h1 h)]
  · rw [h, cmp_eq, h3 h, cmp_eq]
  · rw [cmp_gt h, cmp_gt (h2 h)]

theorem rung_parts (x y : Nat) (hx : x < 2 ^ 64) (hy : y < 2 ^ 64) (h : x % 2 ^ 63 = y % 2 ^ 63) : mag x = mag y ∧ plc x = plc y := by
  have rx := rungOf x hx
  have ry := rungOf y hy
  have fx := fr_lt x
  have fy := fr_lt y
  have e1 : exf x = exf y := by omega
  have e2 : fr x = fr y := by omega
  unfold mag plc
  rw [e1, e2]
  exact ⟨rfl, rfl⟩

theorem rung_order (x y : Nat) (hx : x < 2 ^ 64) (hy : y < 2 ^ 64) (kx : exf x ≠ 2047) (ky : exf y ≠ 2047) (i j : Nat) (e : plc x - i = plc y - j) (h : x % 2 ^ 63 < y % 2 ^ 63) :
    mag x * 2 ^ i < mag y * 2 ^ j := by
  rcases Nat.lt_or_ge (mag x * 2 ^ i) (mag y * 2 ^ j) with g | g
  · exact g
  · have := rung_mono2 j i e.symm g
    rw [rung_self x hx kx, rung_self y hy ky] at this
    omega

theorem rung_none (x : Nat) (hx : x < 2 ^ 64) : x % 2 ^ 63 = 0 ↔ mag x = 0 := by
  have rx := rungOf x hx
  unfold mag
  split <;> omega

theorem order_fin (x y : Nat) (hx : x < 2 ^ 64) (hy : y < 2 ^ 64) (kx : exf x ≠ 2047) (ky : exf y ≠ 2047) : double.order x y = some (compare (rankN x) (rankN y)) := by
  unfold Ieee.Format.order
  rw [read_fin x hx kx, read_fin y hy ky]
  unfold Ieee.Datum.order
  simp only [signed_eq]
  congr 1
  have e : plc x - ((plc x - min (plc x) (plc y)).toNat : Int) = plc y - ((plc y - min (plc x) (plc y)).toNat : Int) := by omega
  have l1 := rung_order x y hx hy kx ky _ _ e
  have l2 := rung_order y x hy hx ky kx _ _ e.symm
  have l3 : x % 2 ^ 63 = y % 2 ^ 63 → mag x * 2 ^ (plc x - min (plc x) (plc y)).toNat = mag y * 2 ^ (plc y - min (plc x) (plc y)).toNat := by
    intro h
    obtain ⟨e1, e2⟩ := rung_parts x y hx hy h
    rw [e1, e2]
  have nx := rung_none x hx
  have ny := rung_none y hy
  have px : 0 < 2 ^ (plc x - min (plc x) (plc y)).toNat := Nat.two_pow_pos _
  have py : 0 < 2 ^ (plc y - min (plc x) (plc y)).toNat := Nat.two_pow_pos _
  have z1 : mag x = 0 ↔ mag x * 2 ^ (plc x - min (plc x) (plc y)).toNat = 0 := by rw [Nat.mul_eq_zero]; omega
  have z2 : mag y = 0 ↔ mag y * 2 ^ (plc y - min (plc x) (plc y)).toNat = 0 := by rw [Nat.mul_eq_zero]; omega
  rw [z1] at nx
  rw [z2] at ny
  clear z1 z2 px py e
  unfold rankN
  generalize mag x * 2 ^ (plc x - min (plc x) (plc y)).toNat = A at *
  generalize mag y * 2 ^ (plc y - min (plc x) (plc y)).toNat = B at *
  generalize x % 2 ^ 63 = r at *
  generalize y % 2 ^ 63 = s at *
  apply cmp_congr <;> cases sg x <;> cases sg y <;> simp <;> omega

theorem isN_lt (b : Nat) (hb : b < 2 ^ 64) (k : exf b ≠ 2047) : b % 2 ^ 63 < 2047 * 2 ^ 52 := by
  have := rungOf b hb
  have := fr_lt b
  have := exf_lt b
  omega

theorem rank_bd (b : Nat) (hb : b < 2 ^ 64) (k : exf b ≠ 2047) : -9218868437227405312 < rankN b ∧ rankN b < 9218868437227405312 := by
  have := isN_lt b hb k
  unfold rankN
  split <;> omega

theorem rank_inf (b : Nat) (hb : b < 2 ^ 64) (k : exf b = 2047) (f : fr b = 0) : rankN b = if sg b then -9218868437227405312 else 9218868437227405312 := by
  have := rungOf b hb
  unfold rankN
  split <;> omega

/-- the order of numbers -/
theorem order_rank (x y : Nat) (hx : x < 2 ^ 64) (hy : y < 2 ^ 64) (nx : isN x) (ny : isN y) : double.order x y = some (compare (rankN x) (rankN y)) := by
  by_cases kx : exf x = 2047
  · have fx : fr x = 0 := by unfold isN at nx; omega
    by_cases ky : exf y = 2047
    · have fy : fr y = 0 := by unfold isN at ny; omega
      rw [rank_inf x hx kx fx, rank_inf y hy ky fy]
      unfold Ieee.Format.order
      rw [read_inf x hx kx fx, read_inf y hy ky fy]
      cases sg x <;> cases sg y <;> rfl
    · have b := rank_bd y hy ky
      rw [rank_inf x hx kx fx]
      unfold Ieee.Format.order
      rw [read_inf x hx kx fx, read_fin y hy ky]
      cases sg x
      · simp only [Bool.false_eq_true, if_false]; rw [cmp_gt (by omega)]; rfl
      · simp only [if_true]; rw [cmp_lt (by omega)]; rfl
  · by_cases ky : exf y = 2047
    · have fy : fr y = 0 := by unfold isN at ny; omega
      have b := rank_bd x hx kx
      rw [rank_inf y hy ky fy]
      unfold Ieee.Format.order
      rw [read_fin x hx kx, read_inf y hy ky fy]
      cases sg y
      · simp only [Bool.false_eq_true, if_false]; rw [cmp_lt (by omega)]; rfl
      · simp only [if_true]; rw [cmp_gt (by omega)]; rfl
    · exact order_fin x y hx hy kx ky

theorem order_none (x y : Nat) (hx : x < 2 ^ 64) (hy : y < 2 ^ 64) (h : ¬ isN x ∨ ¬ isN y) : double.order x y = none := by
  rcases h with h | h
  · have r := rungOf x hx
    unfold isN at h
    exact order_nan x (by omega) hx y
  · have r := rungOf y hy
    unfold isN at h
    exact order_nan_r y (by omega) hy x

instance (b : Nat) : Decidable (isN b) := by unfold isN; infer_instance

/-- less, and equal, as tests -/
def lessN (x y : Nat) : Bool := decide (isN x) && decide (isN y) && decide (rankN x < rankN y)
def sameN (x y : Nat) : Bool := decide (isN x) && decide (isN y) && decide (rankN x = rankN y)

theorem less_eq (x y : Nat) (hx : x < 2 ^ 64) (hy : y < 2 ^ 64) : (double.order x y == some .lt) = lessN x y := by
  unfold lessN
  by_cases nx : isN x
  · by_cases ny : isN y
    · rw [order_rank x y hx hy nx ny]
      rcases Int.lt_trichotomy (rankN x) (rankN y) with h | h | h
      · rw [cmp_lt h]; simp [nx, ny, h]
      · rw [h, cmp_eq]; simp
      · rw [cmp_gt h]; have : ¬ rankN x < rankN y := by omega
        simp [this]
    · rw [order_none x y hx hy (.inr ny)]; simp [ny]
  · rw [order_none x y hx hy (.inl nx)]; simp [nx]

theorem same_eq (x y : Nat) (hx : x < 2 ^ 64) (hy : y < 2 ^ 64) : (double.order x y == some .eq) = sameN x y := by
  unfold sameN
  by_cases nx : isN x
  · by_cases ny : isN y
    · rw [order_rank x y hx hy nx ny]
      rcases Int.lt_trichotomy (rankN x) (rankN y) with h | h | h
      · rw [cmp_lt h]; have : ¬ rankN x = rankN y := by omega
        simp [this]
      · rw [h, cmp_eq]; simp [nx, ny]
      · rw [cmp_gt h]; have : ¬ rankN x = rankN y := by omega
        simp [this]
    · rw [order_none x y hx hy (.inr ny)]; simp [ny]
  · rw [order_none x y hx hy (.inl nx)]; simp [nx]
end Go.Proofs.Ytelgmffmekfndaa.Fl
set_option linter.unusedVariables false
namespace Go.Proofs.Ytelgmffmekfndaa.Fl
open Ieee (double)

theorem product_comm (a b : Ieee.Datum) : a.product b = b.product a := by
  cases a with
  | nan s f => cases b <;> rfl
  | infinity s =>
    cases b with
    | nan t g => rfl
    | infinity t => cases s <;> cases t <;> rfl
    | number t n j => rfl
  | number s m i =>
    cases b with
    | nan t g => rfl
    | infinity t => rfl
    | number t n j =>
      unfold Ieee.Datum.product
      simp only
      rw [Bool.xor_comm, Nat.mul_comm, Int.add_comm]

theorem mul_comm (x y : Nat) : double.mul x y = double.mul y x := by
  unfold Ieee.Format.mul
  rw [product_comm]

theorem xor_eq (s t : Bool) : (s ^^ t) = !(s == t) := by cases s <;> cases t <;> rfl

theorem mul_nan_l (x y : Nat) (hx : x < 2 ^ 64) (k : exf x = 2047) (f : fr x ≠ 0) : numOf (double.mul x y) = nanW := by
  unfold Ieee.Format.mul
  rw [read_nan x hx k f]; rfl
theorem mul_nan_r (x y : Nat) (hy : y < 2 ^ 64) (k : exf y = 2047) (f : fr y ≠ 0) : numOf (double.mul x y) = nanW := by
  rw [mul_comm]; exact mul_nan_l y x hy k f
theorem mul_inf_inf (x y : Nat) (hx : x < 2 ^ 64) (hy : y < 2 ^ 64) (k : exf x = 2047) (f : fr x = 0) (k2 : exf y = 2047) (f2 : fr y = 0) : numOf (double.mul x y) = word (!(sg x == sg y)) (2047 * 2 ^ 52) := by
  unfold Ieee.Format.mul
  rw [read_inf x hx k f, read_inf y hy k2 f2]
  show numOf ((some (Ieee.Datum.infinity (sg x ^^ sg y))).map double.write) = _
  rw [Option.map_some, write_inf, xor_eq]; rfl
theorem mul_inf_fin (x y : Nat) (hx : x < 2 ^ 64) (hy : y < 2 ^ 64) (k : exf x = 2047) (f : fr x = 0) (k2 : exf y ≠ 2047) :
    numOf (double.mul x y) = if mant y = 0 then nanW else word (!(sg x == sg y)) (2047 * 2 ^ 52) := by
  unfold Ieee.Format.mul
  rw [read_inf x hx k f, read_fin y hy k2]
  show numOf ((if mag y = 0 then none else some (Ieee.Datum.infinity (sg x ^^ sg y))).map double.write) = _
  by_cases h : mag y = 0
  · rw [if_pos h, if_pos ((mag_zero y k2).1 h)]; rfl
  · rw [if_neg h, if_neg (fun e => h ((mag_zero y k2).2 e)), Option.map_some, write_inf, xor_eq]; rfl

theorem mul_fin_eq (x y : Nat) (hx : x < 2 ^ 64) (hy : y < 2 ^ 64) (kx : exf x ≠ 2047) (ky : exf y ≠ 2047) :
    numOf (double.mul x y) = word (!(sg x == sg y)) (rung (mant x * mant y) (expo x + expo y)) := by
  unfold Ieee.Format.mul
  rw [read_fin x hx kx, read_fin y hy ky]
  show numOf ((some (Ieee.Datum.number (sg x ^^ sg y) (mag x * mag y) (plc x + plc y))).map double.write) = _
  rw [Option.map_some, write_number, numOf_some, xor_eq, mant_mag x kx, mant_mag y ky, expo_plc x kx, expo_plc y ky]
  congr 1
  rw [show mag x * 2 ^ upn x * (mag y * 2 ^ upn y) = mag x * mag y * 2 ^ (upn x + upn y) by rw [Nat.pow_add, Nat.mul_mul_mul_comm]]
  rw [show plc x - (upn x : Int) + (plc y - (upn y : Int)) = plc x + plc y - ((upn x + upn y : Nat) : Int) by omega, rung_mul]

/-- a great number's highest bits, one bit for the rest -/
def stick (n k : Nat) : Nat := if n % 2 ^ k = 0 then n / 2 ^ k else (n / 2 ^ k ||| 1)

theorem stick_is (n k : Nat) : Sticky k n (stick n k) := by
  unfold stick
  by_cases h : n % 2 ^ k = 0
  · rw [if_pos h]; exact .inl (exact_near n k h)
  · rw [if_neg h]; exact sticky_near n k h
theorem stick_ge (n k : Nat) : n / 2 ^ k ≤ stick n k := by
  unfold stick
  split
  · exact Nat.le_refl _
  · rw [or_one]; split <;> omega
theorem stick_rung (n k : Nat) (p : Int) (h : 2 ^ 54 ≤ n / 2 ^ k) : rung (stick n k) (p + k) = rung n p := ((stick_is n k).rung (Nat.le_trans h (stick_ge n k))).symm

/-- the four products of halves -/
theorem halves (X Y : Nat) : X * Y = X / 67108864 * (Y / 67108864) * 4503599627370496 + (X / 67108864 * (Y % 67108864) + X % 67108864 * (Y / 67108864)) * 67108864 + X % 67108864 * (Y % 67108864) := by
  have ex := Nat.div_add_mod X 67108864
  have ey := Nat.div_add_mod Y 67108864
  generalize X / 67108864 = a1 at *
  generalize X % 67108864 = a0 at *
  generalize Y / 67108864 = b1 at *
  generalize Y % 67108864 = b0 at *
  subst ex ey
  rw [Nat.add_mul, Nat.mul_add, Nat.mul_add]
  have e1 : 67108864 * a1 * (67108864 * b1) = a1 * b1 * 4503599627370496 := by
    rw [Nat.mul_mul_mul_comm, Nat.mul_comm]
  have e2 : 67108864 * a1 * b0 = a1 * b0 * 67108864 := by rw [Nat.mul_assoc, Nat.mul_comm]
  have e3 : a0 * (67108864 * b1) = a0 * b1 * 67108864 := by rw [Nat.mul_left_comm, Nat.mul_comm]
  rw [e1, e2, e3, Nat.add_mul]
  omega

theorem mul_law (x y : Nat) (hx : x < 2 ^ 64) (hy : y < 2 ^ 64) (kx : exf x ≠ 2047) (ky : exf y ≠ 2047) (zx : mant x ≠ 0) (zy : mant y ≠ 0) :
    numOf (double.mul x y) = word (!(sg x == sg y)) (rung (stick (mant x * mant y) 44) (expo x + expo y + 44)) := by
  rw [mul_fin_eq x y hx hy kx ky]
  congr 1
  have h1 := mant_ge x kx zx
  have h2 := mant_ge y ky zy
  have h3 : 2 ^ 52 * 2 ^ 52 ≤ mant x * mant y := Nat.mul_le_mul h1 h2
  have := stick_rung (mant x * mant y) 44 (expo x + expo y) (by
    rw [Nat.le_div_iff_mul_le (by decide)]
    exact Nat.le_trans (by decide) h3)
  exact this.symm
end Go.Proofs.Ytelgmffmekfndaa.Fl
set_option linter.unusedVariables false
namespace Go.Proofs.Ytelgmffmekfndaa.Fl
open Ieee (double)

/-- r is the whole root of n -/
def IsRoot (n r : Nat) : Prop := r * r ≤ n ∧ n < (r + 1) * (r + 1)

theorem IsRoot.uniq {n r s : Nat} (h : IsRoot n r) (k : IsRoot n s) : r = s := by
  unfold IsRoot at *
  rcases Nat.lt_trichotomy r s with c | c | c
  · have := Nat.mul_le_mul (show r + 1 ≤ s by omega) (show r + 1 ≤ s by omega); omega
  · exact c
  · have := Nat.mul_le_mul (show s + 1 ≤ r by omega) (show s + 1 ≤ r by omega); omega

theorem rootFrom_spec (n : Nat) : ∀ (todo root : Nat), root * root ≤ n → n < (root + 2 ^ todo) * (root + 2 ^ todo) → IsRoot n (Ieee.Datum.rootFrom n todo root)
  | 0, root, h1, h2 => by
    unfold Ieee.Datum.rootFrom
    exact ⟨h1, by simpa using h2⟩
  | todo + 1, root, h1, h2 => by
    unfold Ieee.Datum.rootFrom
    simp only [Nat.one_shiftLeft]
    by_cases c : (root + 2 ^ todo) * (root + 2 ^ todo) ≤ n
    · rw [if_pos c]
      refine rootFrom_spec n todo _ c ?_
      rw [Nat.add_assoc, show 2 ^ todo + 2 ^ todo = 2 ^ (todo + 1) by rw [Nat.pow_succ]; omega]
      exact h2
    · rw [if_neg c]
      exact rootFrom_spec n todo root h1 (by omega)

theorem root_is (n : Nat) (hn : n ≠ 0) : IsRoot n (Ieee.Datum.rootFrom n (n.log2 / 2 + 1) 0) := by
  refine rootFrom_spec n _ 0 (by omega) ?_
  rw [Nat.zero_add, ← Nat.pow_add]
  have h : n < 2 ^ (n.log2 + 1) := Nat.lt_log2_self
  exact Nat.lt_of_lt_of_le h (Nat.pow_le_pow_right (by omega) (by omega))

/-- twice the whole root, and one bit for what is left -/
def twor (n r : Nat) : Nat := 2 * r + (r * r != n).toNat

theorem twor_scale {n r R k : Nat} (h : IsRoot n r) (H : IsRoot (n * 2 ^ (2 * k)) R) : Sticky k (twor (n * 2 ^ (2 * k)) R) (twor n r) := by
  unfold twor Sticky
  have hp := Nat.two_pow_pos k
  have ek : 2 ^ (2 * k) = 2 ^ k * 2 ^ k := by rw [Nat.two_mul, Nat.pow_add]
  rw [ek] at H ⊢
  generalize 2 ^ k = X at *
  have sq : ∀ a : Nat, a * X * (a * X) = a * a * (X * X) := by intro a; rw [Nat.mul_mul_mul_comm]
  have hXX : 0 < X * X := Nat.mul_pos hp hp
  have lo : r * X ≤ R := by
    rcases Nat.lt_or_ge R (r * X) with c | c
    · exfalso
      have h1 := Nat.mul_le_mul (show R + 1 ≤ r * X by omega) (show R + 1 ≤ r * X by omega)
      rw [sq r] at h1
      have h2 := Nat.mul_le_mul_right (X * X) h.1
      have := H.2
      omega
    · exact c
  have hi : R < (r + 1) * X := by
    rcases Nat.lt_or_ge R ((r + 1) * X) with c | c
    · exact c
    · exfalso
      have h1 := Nat.mul_le_mul c c
      rw [sq (r + 1)] at h1
      have h2 := Nat.mul_lt_mul_of_pos_right h.2 hXX
      have := H.1
      omega
  by_cases c : r * r = n
  · left
    have e : R = r * X := by
      refine H.uniq ⟨?_, ?_⟩
      · rw [sq r, c]; exact Nat.le_refl _
      · have h1 := sq r
        rw [c] at h1
        have : (r * X + 1) * (r * X + 1) = r * X * (r * X) + 2 * (r * X) + 1 := by
          rw [Nat.add_mul, Nat.mul_add, Nat.one_mul, Nat.mul_one]; omega
        omega
    rw [e, sq r, c]
    simp
    rw [Nat.mul_assoc]
  · right
    rw [show (r * r != n) = true by simpa using c, show true.toNat = 1 by rfl]
    have hb : (R * R != n * (X * X)).toNat ≤ 1 := by cases (R * R != n * (X * X)) <;> decide
    have hne : R = r * X → (R * R != n * (X * X)).toNat = 1 := by
      intro e
      have : R * R ≠ n * (X * X) := by
        rw [e, sq r]
        intro e2
        exact c (Nat.eq_of_mul_eq_mul_right hXX e2)
      rw [show (R * R != n * (X * X)) = true by simpa using this]; rfl
    generalize (R * R != n * (X * X)).toNat = b at *
    have e1 : (2 * r + 1 - 1) * X = 2 * (r * X) := by rw [Nat.add_sub_cancel, Nat.mul_assoc]
    have e2 : (2 * r + 1 + 1) * X = 2 * ((r + 1) * X) := by rw [show 2 * r + 1 + 1 = 2 * (r + 1) by omega, Nat.mul_assoc]
    rw [e1, e2]
    refine ⟨by omega, ?_, by omega⟩
    by_cases e : R = r * X
    · have := hne e; omega
    · omega

theorem sqrt_nan (x : Nat) (hx : x < 2 ^ 64) (k : exf x = 2047) (f : fr x ≠ 0) : numOf (double.sqrt x) = nanW := by
  unfold Ieee.Format.sqrt
  rw [read_nan x hx k f]; rfl
theorem sqrt_inf (x : Nat) (hx : x < 2 ^ 64) (k : exf x = 2047) (f : fr x = 0) : numOf (double.sqrt x) = if sg x then nanW else x := by
  unfold Ieee.Format.sqrt
  rw [read_inf x hx k f]
  have h := inf_self x hx k f
  cases hs : sg x
  · rw [hs] at h
    show numOf ((some (Ieee.Datum.infinity false)).map double.write) = x
    rw [Option.map_some, write_inf, h]; rfl
  · rfl
theorem root_num_eq (s : Bool) (m : Nat) (i : Int) : Ieee.Datum.root 54 (.number s m i) =
    if m = 0 then some (.number s m i) else if s then none else
      (let more := 108 - m.log2 + ((i - (108 - m.log2 : Nat)) % 2).toNat
       let n := m * 2 ^ more
       let whole := Ieee.Datum.rootFrom n (n.log2 / 2 + 1) 0
       some (.number false (twor n whole) ((i - more) / 2 - 1))) := by
  unfold Ieee.Datum.root twor
  simp only [Nat.shiftLeft_eq]
theorem sqrt_zero (x : Nat) (hx : x < 2 ^ 64) (k : exf x ≠ 2047) (z : mant x = 0) : numOf (double.sqrt x) = x := by
  unfold Ieee.Format.sqrt
  rw [read_fin x hx k, show double.fractionBits + 2 = 54 by rfl, root_num_eq, if_pos ((mag_zero x k).2 z), Option.map_some, write_number, rung_self x hx k, word_self x hx]; rfl
theorem sqrt_neg (x : Nat) (hx : x < 2 ^ 64) (k : exf x ≠ 2047) (z : mant x ≠ 0) (s : sg x = true) : numOf (double.sqrt x) = nanW := by
  unfold Ieee.Format.sqrt
  rw [read_fin x hx k, show double.fractionBits + 2 = 54 by rfl, root_num_eq, if_neg (fun e => z ((mag_zero x k).1 e)), if_pos s]; rfl

/-- a: one doubling more where the place is odd; R: the whole root of the 53 or 54 bits and 62 noughts -/
theorem sqrt_law (x : Nat) (hx : x < 2 ^ 64) (k : exf x ≠ 2047) (z : mant x ≠ 0) (s : sg x = false) (a : Nat) (ha : a ≤ 1) (he : (expo x - a) % 2 = 0) (R : Nat) (hR : IsRoot (mant x * 2 ^ a * 2 ^ 62) R) :
    numOf (double.sqrt x) = word false (rung (twor (mant x * 2 ^ a * 2 ^ 62) R) ((expo x - a) / 2 - 32)) := by
  have hx0 := mant_ge x k z
  have hx1 := mant_lt x
  have mx := mant_mag x k
  have ex := expo_plc x k
  have zm : mag x ≠ 0 := fun e => z ((mag_zero x k).1 e)
  have lx : (mant x).log2 = 52 := by rw [Nat.log2_eq_iff z]; omega
  have lm : (mag x).log2 + upn x = 52 := by rw [← log2_mul_pow _ _ zm, ← mx]; exact lx
  unfold Ieee.Format.sqrt
  rw [read_fin x hx k, show double.fractionBits + 2 = 54 by rfl, root_num_eq, if_neg zm, if_neg (by rw [s]; simp)]
  simp only [Option.map_some, write_number, numOf_some]
  congr 1
  generalize hmo : 108 - (mag x).log2 + ((plc x - (108 - (mag x).log2 : Nat)) % 2).toNat = more
  have hmore : more = upn x + a + 56 := by omega
  have hn0 : mag x * 2 ^ more ≠ 0 := Nat.mul_ne_zero zm (by have := Nat.two_pow_pos more; omega)
  have hroot := root_is _ hn0
  generalize Ieee.Datum.rootFrom (mag x * 2 ^ more) ((mag x * 2 ^ more).log2 / 2 + 1) 0 = r at hroot ⊢
  have eN : mant x * 2 ^ a * 2 ^ 62 = mag x * 2 ^ more * 2 ^ (2 * 3) := by
    rw [mx, hmore, Nat.mul_assoc, Nat.mul_assoc, Nat.mul_assoc, ← Nat.pow_add, ← Nat.pow_add, ← Nat.pow_add]
    congr 2
  rw [eN] at hR ⊢
  have hst := twor_scale (k := 3) hroot hR
  have hr54 : 2 ^ 54 ≤ r := by
    have e1 : mag x * 2 ^ more = mant x * 2 ^ (a + 56) := by
      rw [mx, hmore, Nat.mul_assoc, ← Nat.pow_add]
      congr 2
    have h1 : 2 ^ 108 ≤ mag x * 2 ^ more := by
      rw [e1]
      calc 2 ^ 108 = 2 ^ 52 * 2 ^ 56 := by rw [← Nat.pow_add]
        _ ≤ mant x * 2 ^ (a + 56) := Nat.mul_le_mul hx0 (Nat.pow_le_pow_right (by omega) (by omega))
    rcases Nat.lt_or_ge r (2 ^ 54) with c | c
    · exfalso
      have h2 := Nat.mul_le_mul (show r + 1 ≤ 2 ^ 54 by omega) (show r + 1 ≤ 2 ^ 54 by omega)
      have h3 := hroot.2
      have h4 : (2 : Nat) ^ 54 * 2 ^ 54 = 2 ^ 108 := by rw [← Nat.pow_add]
      omega
    · exact c
  rw [hst.rung (by unfold twor; omega)]
  congr 1
  omega

/-- the number's pairs of digits down to the j-th, noughts behind them -/
def pj (M j : Nat) : Nat := if j ≤ 27 then M / 4 ^ (27 - j) else M * 4 ^ (j - 27)
def two (M j : Nat) : Nat := if j ≤ 26 then M / 4 ^ (26 - j) % 4 else 0
theorem two_le (M j : Nat) : two M j ≤ 3 := by unfold two; split <;> omega
theorem pj_zero (M : Nat) (h : M < 2 ^ 54) : pj M 0 = 0 := by
  unfold pj
  rw [if_pos (by omega)]
  exact Nat.div_eq_of_lt (by simpa using h)
theorem pj_step (M j : Nat) : pj M (j + 1) = 4 * pj M j + two M j := by
  unfold pj two
  by_cases c : j ≤ 26
  · rw [if_pos (by omega), if_pos (by omega), if_pos c]
    rw [show 27 - (j + 1) = 26 - j by omega, show 27 - j = (26 - j) + 1 by omega, Nat.pow_succ, ← Nat.div_div_eq_div_mul]
    omega
  · rw [if_neg (by omega), if_neg c]
    by_cases d : j = 27
    · subst d
      rw [if_pos (by omega)]
      simp; omega
    · rw [if_neg (by omega), show j + 1 - 27 = (j - 27) + 1 by omega, Nat.pow_succ, ← Nat.mul_assoc]
      omega
theorem pj_lt (M j : Nat) (h : M < 2 ^ 54) : pj M j < 4 ^ j := by
  unfold pj
  have e : (2 : Nat) ^ 54 = 4 ^ 27 := by decide
  by_cases c : j ≤ 27
  · rw [if_pos c, Nat.div_lt_iff_lt_mul (Nat.pow_pos (by omega)), ← Nat.pow_add, show j + (27 - j) = 27 by omega, ← e]
    exact h
  · rw [if_neg c]
    have : 4 ^ j = 4 ^ 27 * 4 ^ (j - 27) := by rw [← Nat.pow_add]; congr 1; omega
    rw [this, ← e]
    exact Nat.mul_lt_mul_of_pos_right h (Nat.pow_pos (by omega))
theorem pj_end (M : Nat) : pj M 58 = M * 2 ^ 62 := by
  unfold pj
  rw [if_neg (by omega)]

/-- the whole root of the digits so far, and what is left -/
def RootInv (M j root rest : Nat) : Prop := root * root + rest = pj M j ∧ rest ≤ 2 * root

theorem RootInv.lt {M j root rest : Nat} (h : RootInv M j root rest) (hM : M < 2 ^ 54) : root < 2 ^ j := by
  rcases Nat.lt_or_ge root (2 ^ j) with c | c
  · exact c
  · exfalso
    have h1 := Nat.mul_le_mul c c
    have h2 := pj_lt M j hM
    have h3 := h.1
    have e : (4 : Nat) ^ j = 2 ^ j * 2 ^ j := by rw [show (4 : Nat) = 2 * 2 by rfl, Nat.mul_pow]
    omega

theorem RootInv.yes {M j root rest : Nat} (h : RootInv M j root rest) (c : root * 4 + 1 ≤ rest * 4 + two M j) : RootInv M (j + 1) (root * 2 + 1) (rest * 4 + two M j - (root * 4 + 1)) := by
  have t := two_le M j
  unfold RootInv at *
  rw [pj_step, ← h.1]
  have e : (root * 2 + 1) * (root * 2 + 1) = 4 * (root * root) + 4 * root + 1 := by
    rw [Nat.add_mul, Nat.mul_add, Nat.one_mul, Nat.mul_one, Nat.mul_mul_mul_comm]; omega
  rw [e]
  generalize root * root = q at *
  omega
theorem RootInv.no {M j root rest : Nat} (h : RootInv M j root rest) (c : rest * 4 + two M j < root * 4 + 1) : RootInv M (j + 1) (root * 2) (rest * 4 + two M j) := by
  unfold RootInv at *
  rw [pj_step, ← h.1]
  have e : (root * 2) * (root * 2) = 4 * (root * root) := by rw [Nat.mul_mul_mul_comm]; omega
  rw [e]
  generalize root * root = q at *
  omega
theorem RootInv.done {M root rest : Nat} (h : RootInv M 58 root rest) : IsRoot (M * 2 ^ 62) root ∧ twor (M * 2 ^ 62) root = if rest = 0 then root * 2 else root * 2 + 1 := by
  unfold RootInv at h
  rw [pj_end] at h
  obtain ⟨h1, h2⟩ := h
  have e : (root + 1) * (root + 1) = root * root + 2 * root + 1 := by rw [Nat.add_mul, Nat.mul_add, Nat.one_mul, Nat.mul_one]; omega
  unfold IsRoot twor
  rw [← h1, e]
  refine ⟨by omega, ?_⟩
  by_cases c : rest = 0
  · rw [if_pos c, c]; simp; omega
  · rw [if_neg c, show (root * root != root * root + rest) = true by simp; omega, show true.toNat = 1 by rfl]; omega
end Go.Proofs.Ytelgmffmekfndaa.Fl
set_option linter.unusedVariables false
namespace Go.Proofs.Ytelgmffmekfndaa.Fl
open Ieee (double)

/-- the quotient of numbers of 53 bits, and one bit for what is left -/
def divm (X Y : Nat) : Nat := if X * 2 ^ 56 % Y = 0 then X * 2 ^ 56 / Y else (X * 2 ^ 56 / Y ||| 1)

theorem quot_of (N Y q r : Nat) (hY : 0 < Y) (h : 2 * N = 2 * (q * Y) + r) (hr : r < 2 * Y) : (if N % Y = 0 then N / Y else (N / Y ||| 1)) = if r = 0 then q else (q ||| 1) := by
  obtain ⟨t, ht⟩ : ∃ t, r = 2 * t := ⟨r / 2, by omega⟩
  have h2 : N = Y * q + t := by rw [Nat.mul_comm Y]; omega
  have d1 : N / Y = q := by rw [h2, Nat.mul_add_div hY, Nat.div_eq_of_lt (by omega)]; rfl
  have d2 : N % Y = t := by rw [h2, Nat.mul_add_mod, Nat.mod_eq_of_lt (by omega)]
  rw [d1, d2]
  by_cases c : t = 0
  · rw [if_pos c, if_pos (by omega)]
  · rw [if_neg c, if_neg (by omega)]

theorem pow57 (X : Nat) : X * 2 ^ 57 = 2 * (X * 2 ^ 56) := by
  have e0 : (2 : Nat) ^ 57 = 2 ^ 56 * 2 := rfl
  rw [e0, ← Nat.mul_assoc, Nat.mul_comm]

theorem divm_of (X Y q r : Nat) (hY : 0 < Y) (h : X * 2 ^ 57 = 2 * (q * Y) + r) (hr : r < 2 * Y) : divm X Y = if r = 0 then q else (q ||| 1) :=
  quot_of _ Y q r hY ((pow57 X).symm.trans h) hr

theorem step_yes (X Y q r i : Nat) (h : X * 2 ^ i = 2 * (q * Y) + r) (hr : Y ≤ r) : X * 2 ^ (i + 1) = 2 * ((q * 2 + 1) * Y) + (r - Y) * 2 := by
  rw [Nat.pow_succ, ← Nat.mul_assoc, h, Nat.add_mul (q * 2) 1 Y, Nat.one_mul, Nat.mul_right_comm q 2 Y, Nat.add_mul]
  generalize q * Y = Z
  omega
theorem step_no (X Y q r i : Nat) (h : X * 2 ^ i = 2 * (q * Y) + r) : X * 2 ^ (i + 1) = 2 * ((q * 2) * Y) + r * 2 := by
  rw [Nat.pow_succ, ← Nat.mul_assoc, h, Nat.mul_right_comm q 2 Y]
  generalize q * Y = Z
  omega
theorem step_lt (q i : Nat) (h : q < 2 ^ i) (hi : i < 57) : q * 2 + 1 < 2 ^ (i + 1) ∧ q * 2 + 1 < 2 ^ 57 := by
  have e : 2 ^ (i + 1) = 2 ^ i * 2 := Nat.pow_succ ..
  have l : 2 ^ (i + 1) ≤ 2 ^ 57 := Nat.pow_le_pow_right (by omega) (by omega)
  omega

theorem div_nan_l (x y : Nat) (hx : x < 2 ^ 64) (k : exf x = 2047) (f : fr x ≠ 0) : numOf (double.div x y) = nanW := by
  unfold Ieee.Format.div
  rw [read_nan x hx k f]; rfl
theorem div_nan_r (x y : Nat) (hy : y < 2 ^ 64) (k : exf y = 2047) (f : fr y ≠ 0) : numOf (double.div x y) = nanW := by
  unfold Ieee.Format.div
  rw [read_nan y hy k f]
  cases double.read x <;> rfl
theorem div_inf_inf (x y : Nat) (hx : x < 2 ^ 64) (hy : y < 2 ^ 64) (k : exf x = 2047) (f : fr x = 0) (k2 : exf y = 2047) (f2 : fr y = 0) : numOf (double.div x y) = nanW := by
  unfold Ieee.Format.div
  rw [read_inf x hx k f, read_inf y hy k2 f2]; rfl
theorem div_inf_fin (x y : Nat) (hx : x < 2 ^ 64) (hy : y < 2 ^ 64) (k : exf x = 2047) (f : fr x = 0) (k2 : exf y ≠ 2047) : numOf (double.div x y) = word (!(sg x == sg y)) (2047 * 2 ^ 52) := by
  unfold Ieee.Format.div
  rw [read_inf x hx k f, read_fin y hy k2]
  show numOf ((some (Ieee.Datum.infinity (sg x ^^ sg y))).map double.write) = _
  rw [Option.map_some, write_inf, xor_eq]; rfl
theorem div_fin_inf (x y : Nat) (hx : x < 2 ^ 64) (hy : y < 2 ^ 64) (k : exf x ≠ 2047) (k2 : exf y = 2047) (f2 : fr y = 0) : numOf (double.div x y) = word (!(sg x == sg y)) 0 := by
  unfold Ieee.Format.div
  rw [read_fin x hx k, read_inf y hy k2 f2]
  show numOf ((some (Ieee.Datum.number (sg x ^^ sg y) 0 0)).map double.write) = _
  rw [Option.map_some, write_number, xor_eq, rung_zero]; rfl

theorem quotient_fin (s t : Bool) (m n : Nat) (i j : Int) : Ieee.Datum.quotient 54 (.number s m i) (.number t n j) =
    if n = 0 then (if m = 0 then none else some (.infinity (s ^^ t))) else
      some (.number (s ^^ t) (2 * (m * 2 ^ (54 + n.log2 - m.log2) / n) + (m * 2 ^ (54 + n.log2 - m.log2) % n != 0).toNat) (i - j - (54 + n.log2 - m.log2 : Nat) - 1)) := by
  unfold Ieee.Datum.quotient
  simp only [Nat.shiftLeft_eq]

theorem div_by_zero (x y : Nat) (hx : x < 2 ^ 64) (hy : y < 2 ^ 64) (k : exf x ≠ 2047) (k2 : exf y ≠ 2047) (zy : mant y = 0) :
    numOf (double.div x y) = if mant x = 0 then nanW else word (!(sg x == sg y)) (2047 * 2 ^ 52) := by
  unfold Ieee.Format.div
  rw [read_fin x hx k, read_fin y hy k2, show double.fractionBits + 2 = 54 by rfl, quotient_fin, if_pos ((mag_zero y k2).2 zy)]
  by_cases h : mag x = 0
  · rw [if_pos h, if_pos ((mag_zero x k).1 h)]; rfl
  · rw [if_neg h, if_neg (fun e => h ((mag_zero x k).2 e)), Option.map_some, write_inf, xor_eq]; rfl

theorem zero_div (x y : Nat) (hx : x < 2 ^ 64) (hy : y < 2 ^ 64) (k : exf x ≠ 2047) (k2 : exf y ≠ 2047) (zx : mant x = 0) (zy : mant y ≠ 0) : numOf (double.div x y) = word (!(sg x == sg y)) 0 := by
  unfold Ieee.Format.div
  rw [read_fin x hx k, read_fin y hy k2, show double.fractionBits + 2 = 54 by rfl, quotient_fin, if_neg (fun e => zy ((mag_zero y k2).1 e)), (mag_zero x k).2 zx]
  rw [Option.map_some, write_number, xor_eq]
  simp only [Nat.zero_mul, Nat.zero_div, Nat.zero_mod]
  rw [show 2 * 0 + ((0 : Nat) != 0).toNat = 0 by rfl, rung_zero]; rfl

/-- twice the quotient, and one bit for what is left -/
def twoq (N Y : Nat) : Nat := 2 * (N / Y) + (N % Y != 0).toNat

theorem twoq_scale (N Y v : Nat) : twoq (N * 2 ^ v) (Y * 2 ^ v) = twoq N Y := by
  unfold twoq
  have hp := Nat.two_pow_pos v
  rw [Nat.mul_div_mul_right _ _ hp, Nat.mul_mod_mul_right]
  congr 2
  have e : (N % Y * 2 ^ v = 0) ↔ N % Y = 0 := by rw [Nat.mul_eq_zero]; omega
  rw [Bool.eq_iff_iff]
  simp only [bne_iff_ne, ne_eq, e]

theorem twoq_stick (N Y : Nat) : stick (twoq N Y) 1 = if N % Y = 0 then N / Y else (N / Y ||| 1) := by
  unfold stick twoq
  by_cases h : N % Y = 0
  · rw [h, if_pos rfl]
    rw [show ((0 : Nat) != 0).toNat = 0 by rfl, if_pos (by omega)]
    omega
  · rw [if_neg h, show (N % Y != 0) = true by simpa using h, show true.toNat = 1 by rfl, if_neg (by omega)]
    congr 1
    omega

theorem twoq_four (N Y : Nat) (hY : 0 < Y) : Sticky 2 (twoq (4 * N) Y) (twoq N Y) := by
  unfold Sticky twoq
  have hdm := Nat.div_add_mod N Y
  have hm := Nat.mod_lt N hY
  generalize hq : N / Y = q at *
  generalize hr : N % Y = r at *
  have e4 : 4 * N = Y * (4 * q) + 4 * r := by rw [← hdm, Nat.mul_left_comm]; omega
  have d1 : 4 * N / Y = 4 * q + 4 * r / Y := by rw [e4, Nat.mul_add_div hY]
  have d2 : 4 * N % Y = 4 * r % Y := by rw [e4, Nat.mul_add_mod]
  rw [d1, d2]
  by_cases c : r = 0
  · subst c
    left
    simp
    omega
  · right
    rw [show (r != 0) = true by simpa using c, show true.toNat = 1 by rfl]
    have h3 : 4 * r / Y < 4 := by rw [Nat.div_lt_iff_lt_mul hY]; omega
    have hb : (4 * r % Y != 0).toNat ≤ 1 := by cases (4 * r % Y != 0) <;> decide
    have hpos : 0 < 2 * (4 * r / Y) + (4 * r % Y != 0).toNat := by
      by_cases c2 : 4 * r < Y
      · rw [Nat.mod_eq_of_lt c2, show (4 * r != 0) = true by simp; omega, show true.toNat = 1 by rfl]; omega
      · have : 1 ≤ 4 * r / Y := by rw [Nat.le_div_iff_mul_le hY]; omega
        omega
    generalize 4 * r / Y = z at *
    generalize (4 * r % Y != 0).toNat = b at *
    omega

theorem div_law (x y : Nat) (hx : x < 2 ^ 64) (hy : y < 2 ^ 64) (k : exf x ≠ 2047) (k2 : exf y ≠ 2047) (zx : mant x ≠ 0) (zy : mant y ≠ 0) :
    numOf (double.div x y) = word (!(sg x == sg y)) (rung (divm (mant x) (mant y)) (expo x - expo y - 56)) := by
  have hx0 := mant_ge x k zx
  have hx1 := mant_lt x
  have hy0 := mant_ge y k2 zy
  have hy1 := mant_lt y
  have mx := mant_mag x k
  have my := mant_mag y k2
  have ex := expo_plc x k
  have ey := expo_plc y k2
  have zmx : mag x ≠ 0 := fun e => zx ((mag_zero x k).1 e)
  have zmy : mag y ≠ 0 := fun e => zy ((mag_zero y k2).1 e)
  have lx : (mant x).log2 = 52 := by rw [Nat.log2_eq_iff zx]; omega
  have ly : (mant y).log2 = 52 := by rw [Nat.log2_eq_iff zy]; omega
  have lmx : (mag x).log2 + upn x = 52 := by rw [← log2_mul_pow _ _ zmx, ← mx]; exact lx
  have lmy : (mag y).log2 + upn y = 52 := by rw [← log2_mul_pow _ _ zmy, ← my]; exact ly
  unfold Ieee.Format.div
  rw [read_fin x hx k, read_fin y hy k2, show double.fractionBits + 2 = 54 by rfl, quotient_fin, if_neg zmy, Option.map_some, write_number, numOf_some, xor_eq]
  congr 1
  generalize hmo : 54 + (mag y).log2 - (mag x).log2 = more
  have hmore : more + upn y = 54 + upn x := by omega
  have eT : 2 * (mag x * 2 ^ more / mag y) + (mag x * 2 ^ more % mag y != 0).toNat = twoq (mant x * 2 ^ 54) (mant y) := by
    show twoq (mag x * 2 ^ more) (mag y) = _
    rw [← twoq_scale (mag x * 2 ^ more) (mag y) (upn y), ← my, Nat.mul_assoc, ← Nat.pow_add, hmore, Nat.add_comm 54, Nat.pow_add, ← Nat.mul_assoc, ← mx]
  rw [eT]
  have ep : plc x - plc y - (more : Int) - 1 = expo x - expo y - 57 + ((2 : Nat) : Int) := by omega
  rw [ep]
  have e56 : mant x * 2 ^ 56 = 4 * (mant x * 2 ^ 54) := by
    have e0 : (2 : Nat) ^ 56 = 2 ^ 54 * 4 := rfl
    rw [e0, ← Nat.mul_assoc, Nat.mul_comm]
  have hq : 2 ^ 53 ≤ mant x * 2 ^ 54 / mant y := by
    rw [Nat.le_div_iff_mul_le (by omega)]
    calc 2 ^ 53 * mant y ≤ 2 ^ 53 * 2 ^ 53 := Nat.mul_le_mul_left _ (by omega)
      _ = 2 ^ 52 * 2 ^ 54 := by decide
      _ ≤ _ := Nat.mul_le_mul_right _ hx0
  have hT : 2 ^ 54 ≤ twoq (mant x * 2 ^ 54) (mant y) := by unfold twoq; omega
  rw [← (twoq_four (mant x * 2 ^ 54) (mant y) (by omega)).rung hT, ← e56]
  have hd : divm (mant x) (mant y) = stick (twoq (mant x * 2 ^ 56) (mant y)) 1 := (twoq_stick _ _).symm
  rw [hd]
  have hq2 : 2 ^ 54 ≤ twoq (mant x * 2 ^ 56) (mant y) / 2 ^ 1 := by
    have : 2 ^ 55 ≤ mant x * 2 ^ 56 / mant y := by
      rw [Nat.le_div_iff_mul_le (by omega)]
      calc 2 ^ 55 * mant y ≤ 2 ^ 55 * 2 ^ 53 := Nat.mul_le_mul_left _ (by omega)
        _ = 2 ^ 52 * 2 ^ 56 := by decide
        _ ≤ _ := Nat.mul_le_mul_right _ hx0
    unfold twoq
    omega
  have := stick_rung (twoq (mant x * 2 ^ 56) (mant y)) 1 (expo x - expo y - 57) hq2
  rw [← this]
  congr 1
  omega
end Go.Proofs.Ytelgmffmekfndaa.Fl
namespace Go.Proofs.Ytelgmffmekfndaa.Fl
open Ieee (double)

/-- a size with its sign -/
def sv (s : Bool) (m : Nat) : Int := if s then -(m : Int) else m

/-- what a number of 53 bits stands for, as the word that is nearest to it holds it -/
theorem exact_parts (s : Bool) (m : Nat) (p : Int) (h : m < 2 ^ 53) (h1 : -1022 ≤ p) (h2 : p ≤ 0) :
    ∃ k : Nat, (m ≠ 0 → k = 52 - m.log2 ∧ m.log2 ≤ 52) ∧ exf (word s (rung m p)) ≠ 2047 ∧ mag (word s (rung m p)) = m * 2 ^ k ∧ plc (word s (rung m p)) = p - k ∧ sg (word s (rung m p)) = s ∧ word s (rung m p) < 2 ^ 64 ∧ word s (rung m p) % 2 ^ 63 = rung m p := by
  by_cases z : m = 0
  · subst z
    have hx : exf (word s 0) = 0 := by cases s <;> decide
    have hf : fr (word s 0) = 0 := by cases s <;> decide
    rw [rung_zero]
    refine ⟨(p + 1074).toNat, fun c => absurd rfl c, by omega, ?_, ?_, word_sg _ _ (by omega), word_lt _ _ (by omega), word_mod _ _ (by omega)⟩
    · unfold mag; rw [if_pos hx, hf, Nat.zero_mul]
    · unfold plc; rw [if_pos hx]; omega
  have l0 := Nat.log2_self_le z
  have l1 : m < 2 ^ (m.log2 + 1) := Nat.lt_log2_self
  have l2 : m.log2 < 53 := (Nat.log2_lt z).2 h
  generalize m.log2 = L at *
  have r1 : rung m p = rung (m * 2 ^ (52 - L)) (p - ((52 - L : Nat) : Int)) := (rung_mul m p (52 - L)).symm
  have b0 : 2 ^ 52 ≤ m * 2 ^ (52 - L) := by
    calc 2 ^ 52 = 2 ^ L * 2 ^ (52 - L) := by rw [← Nat.pow_add]; congr 1; omega
      _ ≤ _ := Nat.mul_le_mul_right _ l0
  have b1 : m * 2 ^ (52 - L) < 2 ^ 53 := by
    calc _ < 2 ^ (L + 1) * 2 ^ (52 - L) := Nat.mul_lt_mul_of_pos_right l1 (Nat.two_pow_pos _)
      _ = 2 ^ 53 := by rw [← Nat.pow_add]; congr 1; omega
  rw [rung_exact _ _ b0 b1 (by omega) (by omega)] at r1
  refine ⟨52 - L, fun _ => ⟨rfl, by omega⟩, ?_⟩
  rw [r1]
  clear r1
  generalize m * 2 ^ (52 - L) = F at *
  generalize hK : (p - ((52 - L : Nat) : Int) + 1075).toNat = K
  have hx : exf (word s (K * 2 ^ 52 + (F - 2 ^ 52))) = K := by
    unfold exf word; split <;> omega
  have hf : fr (word s (K * 2 ^ 52 + (F - 2 ^ 52))) = F - 2 ^ 52 := by
    unfold fr word; split <;> omega
  refine ⟨by omega, ?_, ?_, word_sg _ _ (by omega), word_lt _ _ (by omega), word_mod _ _ (by omega)⟩
  · unfold mag; rw [if_neg (by omega)]; omega
  · unfold plc; rw [if_neg (by omega)]; omega

theorem read_small (s : Bool) (m : Nat) (h : m < 2 ^ 53) :
    ∃ k : Nat, (m ≠ 0 → k = 52 - m.log2 ∧ m.log2 ≤ 52) ∧ double.read (word s (rung m 0)) = .number s (m * 2 ^ k) (-(k : Int)) := by
  obtain ⟨k, hk, h1, h2, h3, h4, h5, _⟩ := exact_parts s m 0 h (by omega) (by omega)
  refine ⟨k, hk, ?_⟩
  rw [read_fin _ h5 h1, h2, h3, h4]
  congr 1
  omega

theorem signed_sv (s : Bool) (m k l : Nat) : Ieee.signed s (m * 2 ^ k) l = sv s m * ((2 ^ (k + l) : Nat) : Int) := by
  rw [signed_eq, Nat.mul_assoc, ← Nat.pow_add]
  unfold sv
  cases s
  · simp
  · simp only [if_true, Int.natCast_mul]
    rw [Int.neg_mul]

theorem word_zero (s : Bool) : whole (word s 0) = 0 := by
  have := whole_small s 0 (by decide)
  rw [rung_zero] at this
  rw [this]; cases s <;> rfl

theorem whole_sv (s : Bool) (m : Nat) (h : m < 2 ^ 53) : whole (word s (rung m 0)) = sv s m := whole_small s m h

theorem sv_bd (s : Bool) (m : Nat) : -(m : Int) ≤ sv s m ∧ sv s m ≤ m := by unfold sv; split <;> omega

theorem whole_add (s t : Bool) (m n : Nat) (hm : m < 2 ^ 52) (hn : n < 2 ^ 52) :
    whole (numOf (double.add (word s (rung m 0)) (word t (rung n 0)))) = sv s m + sv t n := by
  obtain ⟨k, _, ek⟩ := read_small s m (by omega)
  obtain ⟨l, _, el⟩ := read_small t n (by omega)
  unfold Ieee.Format.add
  rw [ek, el, sum_write s t _ _ _ _ (-((k + l : Nat) : Int)) (by omega) (by omega), signed_sv, signed_sv]
  have e1 : (-(k : Int) - -((k + l : Nat) : Int)).toNat = l := by omega
  have e2 : (-(l : Int) - -((k + l : Nat) : Int)).toNat = k := by omega
  rw [e1, e2, Nat.add_comm l k, ← Int.add_mul]
  have b1 := sv_bd s m
  have b2 := sv_bd t n
  have hV : (sv s m + sv t n).natAbs < 2 ^ 53 := by omega
  generalize sv s m + sv t n = V at *
  have hp := Nat.two_pow_pos (k + l)
  rw [numOf_some]
  by_cases h0 : V = 0
  · subst h0
    simp only [Int.zero_mul, if_true]
    exact word_zero _
  · have h1 : V * ((2 ^ (k + l) : Nat) : Int) ≠ 0 := Int.mul_ne_zero h0 (by omega)
    have e3 : decide (V * ((2 ^ (k + l) : Nat) : Int) < 0) = decide (V < 0) := by
      rw [decide_eq_decide]
      constructor
      · intro h
        by_cases hx : V < 0
        · exact hx
        · have := Int.mul_nonneg (show 0 ≤ V by omega) (show (0 : Int) ≤ ((2 ^ (k + l) : Nat) : Int) by omega)
          omega
      · intro h
        exact Int.mul_neg_of_neg_of_pos h (by omega)
    have e4 : (-((k + l : Nat) : Int)) = 0 - ((k + l : Nat) : Int) := by omega
    simp only [if_neg h1, e3, Int.natAbs_mul, Int.natAbs_natCast]
    rw [e4, rung_mul, whole_sv _ _ hV]
    unfold sv
    by_cases c : V < 0
    · simp only [c, decide_true, if_true]; omega
    · simp only [c, decide_false, Bool.false_eq_true, if_false]; omega

theorem mul_small (s t : Bool) (m n : Nat) (hm : m < 2 ^ 53) (hn : n < 2 ^ 53) :
    numOf (double.mul (word s (rung m 0)) (word t (rung n 0))) = word (s ^^ t) (rung (m * n) 0) := by
  obtain ⟨k, _, ek⟩ := read_small s m hm
  obtain ⟨l, _, el⟩ := read_small t n hn
  unfold Ieee.Format.mul
  rw [ek, el]
  show numOf ((some (Ieee.Datum.number (s ^^ t) (m * 2 ^ k * (n * 2 ^ l)) (-(k : Int) + -(l : Int)))).map double.write) = _
  rw [Option.map_some, write_number, numOf_some]
  congr 1
  rw [Nat.mul_mul_mul_comm, ← Nat.pow_add, show -(k : Int) + -(l : Int) = 0 - ((k + l : Nat) : Int) by omega, rung_mul]

theorem sqrt_small (m : Nat) (hm : m * m < 2 ^ 53) : numOf (double.sqrt (word false (rung (m * m) 0))) = word false (rung m 0) := by
  obtain ⟨k, _, ek⟩ := read_small false (m * m) hm
  unfold Ieee.Format.sqrt
  rw [ek, show double.fractionBits + 2 = 54 by rfl, root_num_eq]
  by_cases z : m = 0
  · subst z
    simp only [Nat.zero_mul, if_true]
    rw [Option.map_some, write_number, rung_zero, rung_zero]; rfl
  · have hn0 : m * m * 2 ^ k ≠ 0 := Nat.mul_ne_zero (Nat.mul_ne_zero z z) (by have := Nat.two_pow_pos k; omega)
    rw [if_neg hn0, if_neg (by simp), Option.map_some]
    simp only [write_number, numOf_some]
    congr 1
    generalize hmo : 108 - (m * m * 2 ^ k).log2 + ((-(k : Int) - (108 - (m * m * 2 ^ k).log2 : Nat)) % 2).toNat = more
    obtain ⟨g, hg⟩ : ∃ g, k + more = 2 * g := ⟨(k + more) / 2, by omega⟩
    have en : m * m * 2 ^ k * 2 ^ more = m * 2 ^ g * (m * 2 ^ g) := by
      rw [Nat.mul_assoc, ← Nat.pow_add, hg, Nat.two_mul, Nat.pow_add, Nat.mul_mul_mul_comm]
    rw [en]
    have hp : 0 < m * 2 ^ g := Nat.mul_pos (by omega) (Nat.two_pow_pos g)
    generalize hX : m * 2 ^ g = X at *
    have hr := root_is (X * X) (Nat.mul_ne_zero (by omega) (by omega))
    have hx : IsRoot (X * X) X := ⟨Nat.le_refl _, by rw [Nat.add_mul, Nat.mul_add]; omega⟩
    rw [hr.uniq hx]
    unfold twor
    rw [show (X * X != X * X) = false by simp, show false.toNat = 0 by rfl, ← hX, Nat.add_zero]
    have e1 : (-(k : Int) - (more : Int)) / 2 - 1 = 0 - ((g + 1 : Nat) : Int) := by omega
    have e2 : 2 * (m * 2 ^ g) = m * 2 ^ (g + 1) := by rw [Nat.pow_succ, Nat.mul_comm (2 ^ g) 2, Nat.mul_left_comm]
    rw [e1, e2, rung_mul]

theorem less_small (s t : Bool) (m n : Nat) (hm : m < 2 ^ 53) (hn : n < 2 ^ 53) :
    lessN (word s (rung m 0)) (word t (rung n 0)) = decide (sv s m < sv t n) := by
  obtain ⟨k, _, _, _, _, _, hx, _⟩ := exact_parts s m 0 hm (by omega) (by omega)
  obtain ⟨l, _, _, _, _, _, hy, _⟩ := exact_parts t n 0 hn (by omega) (by omega)
  obtain ⟨k, _, ek⟩ := read_small s m hm
  obtain ⟨l, _, el⟩ := read_small t n hn
  rw [← less_eq _ _ hx hy]
  unfold Ieee.Format.order
  rw [ek, el]
  unfold Ieee.Datum.order
  simp only [signed_sv]
  have e1 : k + (-(k : Int) - min (-(k : Int)) (-(l : Int))).toNat = max k l := by omega
  have e2 : l + (-(l : Int) - min (-(k : Int)) (-(l : Int))).toNat = max k l := by omega
  rw [e1, e2]
  have hp := Nat.two_pow_pos (max k l)
  generalize sv s m = A at *
  generalize sv t n = B at *
  have hp2 : (0 : Int) < ((2 ^ max k l : Nat) : Int) := by omega
  generalize ((2 ^ max k l : Nat) : Int) = X at *
  have hc : compare (A * X) (B * X) = compare A B := by
    apply cmp_congr
    · intro h; exact Int.mul_lt_mul_of_pos_right h hp2
    · intro h; exact Int.mul_lt_mul_of_pos_right h hp2
    · intro h; rw [h]
  rw [hc]
  rcases Int.lt_trichotomy A B with h | h | h
  · rw [cmp_lt h]; simp [h]
  · rw [h, cmp_eq]; simp
  · rw [cmp_gt h]; have : ¬ A < B := by omega
    simp [this]

theorem rung_order_le (x y : Nat) (hx : x < 2 ^ 64) (hy : y < 2 ^ 64) (kx : exf x ≠ 2047) (ky : exf y ≠ 2047) (i j : Nat) (e : plc x - i = plc y - j) (h : x % 2 ^ 63 ≤ y % 2 ^ 63) :
    mag x * 2 ^ i ≤ mag y * 2 ^ j := by
  rcases Nat.lt_or_eq_of_le h with c | c
  · exact Nat.le_of_lt (rung_order x y hx hy kx ky i j e c)
  · obtain ⟨e1, e2⟩ := rung_parts x y hx hy c
    have : i = j := by omega
    rw [e1, this]; exact Nat.le_refl _

/-- between a whole number and less than the next the whole part is it -/
theorem whole_between (s : Bool) (q R : Nat) (hq : q < 2 ^ 25) (h1 : rung q 0 ≤ R) (h2 : R ≤ rung ((q + 1) * 2 ^ 25 - 1) (-25)) :
    whole (word s R) = sv s q := by
  obtain ⟨k, _, k1, k2, k3, k4, k5, k6⟩ := exact_parts s q 0 (by omega) (by omega) (by omega)
  obtain ⟨l, hl, l1, l2, l3, l4, l5, l6⟩ := exact_parts s ((q + 1) * 2 ^ 25 - 1) (-25) (by omega) (by omega) (by omega)
  have hR : R < 2 ^ 63 := by have := rung_le ((q + 1) * 2 ^ 25 - 1) (-25); omega
  have hb := word_lt s R hR
  have hbm := word_mod s R hR
  have hbs := word_sg s R hR
  generalize word s R = b at *
  generalize word s (rung q 0) = y at *
  generalize word s (rung ((q + 1) * 2 ^ 25 - 1) (-25)) = z at *
  have ez := rungOf z l5
  have eb := rungOf b hb
  have fz := fr_lt z
  have fb := fr_lt b
  have xz := exf_lt z
  have hxx : exf b ≤ exf z := by omega
  have kb : exf b ≠ 2047 := by omega
  have hp : plc b ≤ plc z := by unfold plc; split <;> split <;> omega
  have o1 := rung_order_le y b k5 hb k1 kb (-plc b).toNat k (by omega) (by omega)
  have o2 := rung_order_le b z hb l5 kb l1 (25 + l) (-plc b).toNat (by omega) (by omega)
  rw [k2] at o1
  rw [l2] at o2
  have w1 := toInt_whole b hb kb (by omega)
  rw [toInt_fin b hb kb] at w1
  have w2 := (Option.some.inj w1).symm
  rw [w2, hbs]
  have e3 : (plc b).toNat = 0 := by omega
  rw [e3, Nat.pow_zero, Nat.mul_one]
  generalize (-plc b).toNat = P at *
  have hd : mag b / 2 ^ P = q := by
    have p1 := Nat.two_pow_pos k
    have p2 := Nat.two_pow_pos l
    have p3 := Nat.two_pow_pos P
    have g1 : q * 2 ^ P ≤ mag b := by
      rw [Nat.mul_right_comm] at o1
      exact Nat.le_of_mul_le_mul_right o1 p1
    have g2 : mag b * 2 ^ 25 ≤ ((q + 1) * 2 ^ 25 - 1) * 2 ^ P := by
      rw [Nat.pow_add, ← Nat.mul_assoc, Nat.mul_right_comm _ (2 ^ l) (2 ^ P)] at o2
      exact Nat.le_of_mul_le_mul_right o2 p2
    have g3 : mag b < (q + 1) * 2 ^ P := by
      have g4 : ((q + 1) * 2 ^ 25 - 1) * 2 ^ P < (q + 1) * 2 ^ 25 * 2 ^ P := Nat.mul_lt_mul_of_pos_right (by omega) p3
      rw [Nat.mul_right_comm] at g4
      exact Nat.lt_of_mul_lt_mul_right (Nat.lt_of_le_of_lt g2 g4)
    rw [Nat.div_eq_iff p3]
    constructor
    · exact g1
    · have : (q + 1) * 2 ^ P = q * 2 ^ P + 2 ^ P := by rw [Nat.add_mul, Nat.one_mul]
      omega
  rw [hd]
  rfl

theorem whole_div (s t : Bool) (m n : Nat) (hm : m < 2 ^ 25) (hn : n < 2 ^ 25) (z : n ≠ 0) :
    whole (numOf (double.div (word s (rung m 0)) (word t (rung n 0)))) = sv (s ^^ t) (m / n) := by
  obtain ⟨k, hk, ek⟩ := read_small s m (by omega)
  obtain ⟨l, hl, el⟩ := read_small t n (by omega)
  unfold Ieee.Format.div
  have pl := Nat.two_pow_pos l
  have hn0 : n * 2 ^ l ≠ 0 := Nat.mul_ne_zero z (by omega)
  rw [ek, el, show double.fractionBits + 2 = 54 by rfl, quotient_fin, if_neg hn0, Option.map_some, write_number, numOf_some]
  by_cases y : m = 0
  · subst y
    simp only [Nat.zero_mul, Nat.zero_div, Nat.zero_mod]
    rw [show 2 * 0 + ((0 : Nat) != 0).toNat = 0 by rfl, rung_zero, word_zero]
    unfold sv; split <;> rfl
  obtain ⟨hk, lk⟩ := hk y
  obtain ⟨hl, ll⟩ := hl z
  rw [log2_mul_pow _ _ z, log2_mul_pow _ _ y]
  have l2 : m.log2 < 25 := (Nat.log2_lt y).2 hm
  have e1 : 54 + (n.log2 + l) - (m.log2 + k) = 54 := by omega
  rw [e1]
  have hc : m * 2 ^ k * 2 ^ 54 = m * 2 ^ (k + 54) := by rw [Nat.mul_assoc, ← Nat.pow_add]
  rw [hc]
  obtain ⟨c, hcd⟩ : ∃ c, k + 54 = l + (c + 25) := ⟨k + 54 - l - 25, by omega⟩
  have ep : -(k : Int) - -(l : Int) - ((54 : Nat) : Int) - 1 = 0 - ((c + 25 + 1 : Nat) : Int) := by omega
  rw [ep]
  have ep2 : (0 : Int) - ((c + 25 + 1 : Nat) : Int) = -25 - ((c + 1 : Nat) : Int) := by omega
  apply whole_between
  · exact Nat.lt_of_le_of_lt (Nat.div_le_self m n) hm
  · rw [← rung_mul (m / n) 0 (c + 25 + 1)]
    apply rung_mono
    have : m / n * 2 ^ (c + 25) ≤ m * 2 ^ (k + 54) / (n * 2 ^ l) := by
      rw [Nat.le_div_iff_mul_le (by omega), Nat.mul_mul_mul_comm, ← Nat.pow_add, hcd, Nat.add_comm l]
      exact Nat.mul_le_mul_right _ (Nat.div_mul_le_self m n)
    rw [Nat.pow_succ, ← Nat.mul_assoc]
    omega
  · rw [ep2, ← rung_mul ((m / n + 1) * 2 ^ 25 - 1) (-25) (c + 1)]
    apply rung_mono
    rw [show 2 ^ (c + 1) = 2 ^ c * 2 from Nat.pow_succ .., ← Nat.mul_assoc]
    generalize hU : ((m / n + 1) * 2 ^ 25 - 1) * 2 ^ c = U
    have key : m * 2 ^ (k + 54) ≤ U * (n * 2 ^ l) := by
      rw [← hU, Nat.mul_mul_mul_comm, ← Nat.pow_add, hcd, show l + (c + 25) = 25 + (c + l) by omega, Nat.pow_add 2 25, ← Nat.mul_assoc]
      apply Nat.mul_le_mul_right
      have hdm := Nat.div_add_mod m n
      have hr := Nat.mod_lt m (show n > 0 by omega)
      have : ((m / n + 1) * 2 ^ 25 - 1) * n = (m / n + 1) * 2 ^ 25 * n - n := by rw [Nat.sub_mul, Nat.one_mul]
      have e5 : (m / n + 1) * 2 ^ 25 * n = (n * (m / n) + n) * 2 ^ 25 := by
        rw [Nat.mul_right_comm, Nat.add_mul, Nat.one_mul, Nat.mul_comm (m / n) n]
      rw [this, e5]
      omega
    have hD : 0 < n * 2 ^ l := by omega
    generalize n * 2 ^ l = D at *
    generalize m * 2 ^ (k + 54) = N at *
    have hdm := Nat.div_add_mod N D
    rcases Nat.lt_or_ge (N / D) U with g | g
    · have hb : (N % D != 0).toNat ≤ 1 := by cases (N % D != 0) <;> decide
      omega
    · have h3 : D * U ≤ D * (N / D) := Nat.mul_le_mul_left D g
      rw [Nat.mul_comm U D] at key
      have h4 : N % D = 0 := by omega
      have h5 : N / D = U := Nat.eq_of_mul_eq_mul_left hD (by omega)
      rw [h4, h5, show ((0 : Nat) != 0).toNat = 0 by rfl]
      omega

/-- the nearest word of a whole number -/
def iw (n : Int) : Nat := word (decide (n < 0)) (rung n.natAbs 0)
theorem sv_abs (n : Int) : sv (decide (n < 0)) n.natAbs = n := by
  unfold sv
  by_cases c : n < 0
  · simp only [c, decide_true, if_true]; omega
  · simp only [c, decide_false, Bool.false_eq_true, if_false]; omega
theorem sv_mul (s t : Bool) (m n : Nat) : sv (s ^^ t) (m * n) = sv s m * sv t n := by
  unfold sv
  cases s <;> cases t <;> simp [Int.neg_mul, Int.mul_neg]
theorem sv_div (s t : Bool) (m n : Nat) : sv (s ^^ t) (m / n) = (sv s m).tdiv (sv t n) := by
  unfold sv
  cases s <;> cases t <;> simp

theorem iw_add {a b : Int} (ha : a.natAbs < 2 ^ 25) (hb : b.natAbs < 2 ^ 25) : whole (numOf (double.add (iw a) (iw b))) = a + b := by
  unfold iw; rw [whole_add _ _ _ _ (by omega) (by omega), sv_abs, sv_abs]
theorem abs_sq_lt {m n : Nat} (ha : m < 2 ^ 25) (hb : n < 2 ^ 25) : m * n < 2 ^ 53 :=
  calc m * n ≤ 2 ^ 25 * 2 ^ 25 := Nat.mul_le_mul (by omega) (by omega)
    _ < 2 ^ 53 := by decide
theorem iw_mul {a b : Int} (ha : a.natAbs < 2 ^ 25) (hb : b.natAbs < 2 ^ 25) : whole (numOf (double.mul (iw a) (iw b))) = a * b := by
  unfold iw; rw [mul_small _ _ _ _ (by omega) (by omega), whole_sv _ _ (abs_sq_lt ha hb), sv_mul, sv_abs, sv_abs]
theorem iw_sqrt {a : Int} (ha : a.natAbs < 2 ^ 25) : whole (numOf (double.sqrt (numOf (double.mul (iw a) (iw a))))) = max a (-a) := by
  unfold iw; rw [mul_small _ _ _ _ (by omega) (by omega), Bool.xor_self, sqrt_small _ (abs_sq_lt ha ha), whole_sv _ _ (by omega)]
  unfold sv; simp only [Bool.false_eq_true, if_false]; omega
theorem iw_less {a b : Int} (ha : a.natAbs < 2 ^ 25) (hb : b.natAbs < 2 ^ 25) : lessN (iw a) (iw b) = decide (a < b) := by
  unfold iw; rw [less_small _ _ _ _ (by omega) (by omega), sv_abs, sv_abs]
theorem iw_div {a b : Int} (ha : a.natAbs < 2 ^ 25) (hb : b.natAbs < 2 ^ 25) (z : b ≠ 0) : whole (numOf (double.div (iw a) (iw b))) = a.tdiv b := by
  unfold iw; rw [whole_div _ _ _ _ ha hb (by omega), sv_div, sv_abs, sv_abs]
end Go.Proofs.Ytelgmffmekfndaa.Fl
namespace Go.Proofs.Ytelgmffmekfndaa.Fl
open Ieee (double)

def minF (x y : Nat) : Option Nat := match double.order x y with | none => none | some .lt => some x | some .gt => some y | some .eq => some (if (double.read x).neg then x else y)
def maxF (x y : Nat) : Option Nat := match double.order x y with | none => none | some .lt => some y | some .gt => some x | some .eq => some (if (double.read x).neg then y else x)
def minN (x y : Nat) : Nat := if lessN y x || (sameN x y && sg y) then y else x
def maxN (x y : Nat) : Nat := if lessN x y || (sameN x y && !sg y) then y else x
def minW (x y : Nat) : Nat := if isN x ∧ isN y then minN x y else nanW
def maxW (x y : Nat) : Nat := if isN x ∧ isN y then maxN x y else nanW

theorem read_neg (x : Nat) (hx : x < 2 ^ 64) : (double.read x).neg = sg x := by
  rw [read_eq x hx]
  split
  · split <;> rfl
  · rfl

theorem same_word (x y : Nat) (hx : x < 2 ^ 64) (hy : y < 2 ^ 64) (h : rankN x = rankN y) (s : sg x = sg y) : x = y := by
  rw [← word_self x hx, ← word_self y hy, s]
  unfold rankN at h
  rw [s] at h
  congr 1
  cases t : sg y <;> rw [t] at h <;> simp at h <;> omega

theorem min_num (x y : Nat) (hx : x < 2 ^ 64) (hy : y < 2 ^ 64) (nx : isN x) (ny : isN y) : minF x y = some (minN x y) := by
  unfold minF minN lessN sameN
  rw [order_rank x y hx hy nx ny, read_neg x hx]
  rcases Int.lt_trichotomy (rankN x) (rankN y) with h | h | h
  · rw [cmp_lt h]
    have h1 : ¬ rankN y < rankN x := by omega
    have h2 : ¬ rankN x = rankN y := by omega
    simp [h1, h2]
  · have e := same_word x y hx hy h
    rw [h, cmp_eq]
    simp only [nx, ny]
    cases s : sg x <;> cases t : sg y <;> simp
    · exact (e (by rw [s, t])).symm
    · exact e (by rw [s, t])
  · rw [cmp_gt h]
    simp [nx, ny, h]

theorem max_num (x y : Nat) (hx : x < 2 ^ 64) (hy : y < 2 ^ 64) (nx : isN x) (ny : isN y) : maxF x y = some (maxN x y) := by
  unfold maxF maxN lessN sameN
  rw [order_rank x y hx hy nx ny, read_neg x hx]
  rcases Int.lt_trichotomy (rankN x) (rankN y) with h | h | h
  · rw [cmp_lt h]
    simp [nx, ny, h]
  · have e := same_word x y hx hy h
    rw [h, cmp_eq]
    simp only [nx, ny]
    cases s : sg x <;> cases t : sg y <;> simp
    · exact e (by rw [s, t])
    · exact (e (by rw [s, t])).symm
  · rw [cmp_gt h]
    have h1 : ¬ rankN x < rankN y := by omega
    have h2 : ¬ rankN x = rankN y := by omega
    simp [h1, h2]

theorem min_none (x y : Nat) (hx : x < 2 ^ 64) (hy : y < 2 ^ 64) (h : ¬ (isN x ∧ isN y)) : minF x y = none := by
  unfold minF
  rw [order_none x y hx hy (by by_cases isN x <;> simp_all)]
theorem max_none (x y : Nat) (hx : x < 2 ^ 64) (hy : y < 2 ^ 64) (h : ¬ (isN x ∧ isN y)) : maxF x y = none := by
  unfold maxF
  rw [order_none x y hx hy (by by_cases isN x <;> simp_all)]

theorem self_num (x : Nat) (hx : x < 2 ^ 64) (nx : isN x) : double.order x x = some .eq := by
  rw [order_rank x x hx hx nx nx, cmp_eq]
theorem min_self (x y : Nat) (hx : x < 2 ^ 64) (hy : y < 2 ^ 64) (nx : isN x) (ny : isN y) : double.order (minN x y) (minN x y) = some .eq := by
  unfold minN
  split
  · exact self_num y hy ny
  · exact self_num x hx nx
theorem max_self (x y : Nat) (hx : x < 2 ^ 64) (hy : y < 2 ^ 64) (nx : isN x) (ny : isN y) : double.order (maxN x y) (maxN x y) = some .eq := by
  unfold maxN
  split
  · exact self_num y hy ny
  · exact self_num x hx nx
end Go.Proofs.Ytelgmffmekfndaa.Fl
