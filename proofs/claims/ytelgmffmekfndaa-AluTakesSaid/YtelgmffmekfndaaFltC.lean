/- Rounding: greater numbers are not rounded below lesser ones; how the word comes of what is kept. Plain law. No conditions. -/
import Derived.Test.YtelgmffmekfndaaFltB
namespace Go.Proofs.Ytelgmffmekfndaa.Fl

theorem rne_le (n d k : Nat) (h : n < 2 ^ (d + k)) : rne n d ≤ 2 ^ k := by
  unfold rne
  have : n / 2 ^ d < 2 ^ k := by
    rw [Nat.div_lt_iff_lt_mul (two_pow_pos d), Nat.mul_comm, ← Nat.pow_add]
    exact h
  split <;> omega

theorem rne_ge (n d k : Nat) (h : 2 ^ (d + k) ≤ n) : 2 ^ k ≤ rne n d := by
  unfold rne
  have : 2 ^ k ≤ n / 2 ^ d := by
    rw [Nat.le_div_iff_mul_le (two_pow_pos d), Nat.mul_comm, ← Nat.pow_add]
    exact h
  omega

theorem rne_mono (d : Nat) {a b : Nat} (h : a ≤ b) : rne a d ≤ rne b d := by
  unfold rne
  have hp := two_pow_pos d
  have hq := Nat.div_le_div_right (c := 2 ^ d) h
  rcases Nat.lt_or_ge (a / 2 ^ d) (b / 2 ^ d) with hlt | hge
  · split <;> split <;> omega
  · have e : a / 2 ^ d = b / 2 ^ d := by omega
    have h1 := Nat.div_add_mod a (2 ^ d)
    have h2 := Nat.div_add_mod b (2 ^ d)
    rw [e] at h1 ⊢
    split <;> split <;> omega

theorem kept_le (m : Nat) (p : Int) (_h : m ≠ 0) : kept m p ≤ 2 ^ 53 := by
  unfold kept
  have hm : m < 2 ^ (m.log2 + 1) := Nat.lt_log2_self
  have hL : p + m.log2 - 52 ≤ last m p := by unfold last; omega
  generalize last m p = L at *
  refine rne_le _ _ 53 ?_
  have a : m * 2 ^ (p - L).toNat < 2 ^ (m.log2 + 1 + (p - L).toNat) := by
    rw [Nat.pow_add]
    exact Nat.mul_lt_mul_of_pos_right hm (two_pow_pos _)
  exact Nat.lt_of_lt_of_le a (Nat.pow_le_pow_right (by omega) (by omega))

theorem kept_ge (m : Nat) (p : Int) (h : m ≠ 0) (hL : -1074 < last m p) : 2 ^ 52 ≤ kept m p := by
  unfold kept
  have hm := Nat.log2_self_le h
  have hL : p + m.log2 - 52 = last m p := by unfold last at *; omega
  generalize last m p = L at *
  refine rne_ge _ _ 52 ?_
  have a : 2 ^ (m.log2 + (p - L).toNat) ≤ m * 2 ^ (p - L).toNat := by
    rw [Nat.pow_add]
    exact Nat.mul_le_mul_right _ hm
  exact Nat.le_trans (Nat.pow_le_pow_right (by omega) (by omega)) a

theorem last_ge (m : Nat) (p : Int) : -1074 ≤ last m p := by unfold last; omega

/-- a greater number is not rounded below a lesser one -/
theorem rung_mono (p : Int) {a b : Nat} (h : a ≤ b) : rung a p ≤ rung b p := by
  unfold rung
  by_cases ha : a = 0
  · rw [if_pos ha]; omega
  · have hb : b ≠ 0 := by omega
    rw [if_neg ha, if_neg hb]
    have hlog : a.log2 ≤ b.log2 := by
      rw [Nat.le_log2 hb]
      exact Nat.le_trans (Nat.log2_self_le ha) h
    have hL : last a p ≤ last b p := by unfold last; omega
    by_cases e : last a p = last b p
    · have : kept a p ≤ kept b p := by
        unfold kept
        rw [e]
        exact rne_mono _ (Nat.mul_le_mul_right _ h)
      rw [e]
      omega
    · have h1 := kept_le a p ha
      have h0 := last_ge a p
      have h2 := kept_ge b p hb (by omega)
      omega

theorem rung_le (m : Nat) (p : Int) : rung m p ≤ 2047 * 2 ^ 52 := by
  unfold rung
  split <;> omega

/-- how the word comes of its last place and of what is kept -/
def fin (L : Int) (K : Nat) : Nat :=
  if K = 2 ^ 53 then (if 971 < L + 1 then 2047 * 2 ^ 52 else (L + 1 + 1075).toNat * 2 ^ 52)
  else if 971 < L then 2047 * 2 ^ 52 else if K < 2 ^ 52 then K else (L + 1075).toNat * 2 ^ 52 + (K - 2 ^ 52)

theorem rung_fin (m : Nat) (p : Int) (h : m ≠ 0) : rung m p = fin (last m p) (kept m p) := by
  unfold rung fin
  rw [if_neg h]
  have h0 := last_ge m p
  have h1 := kept_le m p h
  have h2 := kept_ge m p h
  generalize last m p = L at *
  generalize kept m p = K at *
  split
  · split <;> omega
  · split
    · omega
    · split
      · have : L = -1074 := by omega
        omega
      · omega

/-- the same comparison at two places: a * 2^p ≤ b * 2^q -/
theorem rung_mono2 {a b : Nat} {p q : Int} (i j : Nat) (e : p - i = q - j) (h : a * 2 ^ i ≤ b * 2 ^ j) : rung a p ≤ rung b q := by
  rw [← rung_mul a p i, ← rung_mul b q j, e]
  exact rung_mono _ h

theorem rung_eq2 {a b : Nat} {p q : Int} (i j : Nat) (e : p - i = q - j) (h : a * 2 ^ i = b * 2 ^ j) : rung a p = rung b q := by
  rw [← rung_mul a p i, ← rung_mul b q j, e, h]

/-- a number of the format is its own nearest one -/
theorem rung_small (r : Nat) (h : r < 2 ^ 53) : rung r (-1074) = r := by
  unfold rung
  by_cases h0 : r = 0
  · rw [if_pos h0, h0]
  · rw [if_neg h0]
    have hl : r.log2 < 53 := (Nat.log2_lt h0).2 h
    have e : last r (-1074) = -1074 := by unfold last; omega
    unfold kept
    rw [e]
    simp only [Int.sub_self, Int.toNat_zero, rne_zero]
    omega

theorem rung_exact (f : Nat) (p : Int) (h0 : 2 ^ 52 ≤ f) (h : f < 2 ^ 53) (hp : -1074 ≤ p) (hp2 : p ≤ 971) : rung f p = (p + 1075).toNat * 2 ^ 52 + (f - 2 ^ 52) := by
  unfold rung
  rw [if_neg (by omega)]
  have hl : f.log2 = 52 := by rw [Nat.log2_eq_iff (by omega)]; omega
  have e : last f p = p := by unfold last; rw [hl]; omega
  unfold kept
  rw [e]
  simp only [Int.sub_self, Int.toNat_zero, rne_zero]
  omega
end Go.Proofs.Ytelgmffmekfndaa.Fl
