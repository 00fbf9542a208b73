/- Sums, products and quotients by what is not below 0 rise as their first part does, roots as their number does. Plain law, no program. Condition: the words fit 64 bits. -/
import Derived.Test.YtelgmffmekfndaaFltWholeLaw
import Derived.Test.YtelgmffmekfndaaFltNum
set_option linter.unusedVariables false
namespace Go.Proofs.Ytelgmffmekfndaa.Fl
open Ieee (double Datum)

theorem rank_word (s : Bool) (r : Nat) (h : r < 2 ^ 63) : rankN (word s r) = sv s r := by
  unfold rankN sv
  rw [word_sg s r h, word_mod s r h]

/-- what the datum reads as in the row of numbers -/
def rkD (d : Datum) : Int := rankN (double.write d)
theorem rk_num (s : Bool) (m : Nat) (i : Int) : rkD (.number s m i) = sv s (rung m i) := by
  unfold rkD
  rw [write_number, rank_word _ _ (by have := rung_le m i; omega)]
theorem rk_inf (s : Bool) : rkD (.infinity s) = sv s (2047 * 2 ^ 52) := by
  unfold rkD
  rw [write_inf, rank_word _ _ (by omega)]
theorem rk_bd (d : Datum) (h : notNan d = true) : -(2047 * 2 ^ 52) ≤ rkD d ∧ rkD d ≤ 2047 * 2 ^ 52 := by
  have := write_bd d h
  unfold rkD rankN
  split <;> omega

/-- one datum is not above the other -/
def Le (d e : Datum) : Prop :=
  match d, e with
  | .number s m i, .number t n j => ∀ p : Int, p ≤ i → p ≤ j → Ieee.signed s m (i - p).toNat ≤ Ieee.signed t n (j - p).toNat
  | .infinity true, _ => True
  | _, .infinity false => True
  | _, _ => False

theorem num_mono {s t : Bool} {m n : Nat} {i j : Int} (p : Int) (hi : p ≤ i) (hj : p ≤ j) (h : Ieee.signed s m (i - p).toNat ≤ Ieee.signed t n (j - p).toNat) :
    sv s (rung m i) ≤ sv t (rung n j) := by
  rw [signed_eq, signed_eq] at h
  have e : i - ((i - p).toNat : Int) = j - ((j - p).toNat : Int) := by omega
  unfold sv
  have pi := Nat.two_pow_pos (i - p).toNat
  have pj := Nat.two_pow_pos (j - p).toNat
  cases s
  · cases t
    · simp only [Bool.false_eq_true, if_false] at h ⊢
      have := rung_mono2 _ _ e (show m * 2 ^ (i - p).toNat ≤ n * 2 ^ (j - p).toNat by omega)
      omega
    · simp only [Bool.false_eq_true, if_false, if_true] at h ⊢
      have hm : m * 2 ^ (i - p).toNat = 0 := by omega
      have hn : n * 2 ^ (j - p).toNat = 0 := by omega
      rw [Nat.mul_eq_zero] at hm hn
      have zm : m = 0 := by omega
      have zn : n = 0 := by omega
      rw [zm, zn, rung_zero, rung_zero]; decide
  · cases t
    · simp only [Bool.false_eq_true, if_false, if_true] at h ⊢
      omega
    · simp only [if_true] at h ⊢
      have := rung_mono2 _ _ e.symm (show n * 2 ^ (j - p).toNat ≤ m * 2 ^ (i - p).toNat by omega)
      omega

theorem le_read {x y : Nat} (hx : x < 2 ^ 64) (hy : y < 2 ^ 64) (nx : isN x) (ny : isN y) (h : rankN x ≤ rankN y) : Le (double.read x) (double.read y) := by
  by_cases kx : exf x = 2047
  · have fx : fr x = 0 := by unfold isN at nx; omega
    rw [read_inf x hx kx fx]
    cases sx : sg x
    · by_cases ky : exf y = 2047
      · have fy : fr y = 0 := by unfold isN at ny; omega
        rw [read_inf y hy ky fy]
        cases sy : sg y
        · exact trivial
        · rw [rank_inf x hx kx fx, rank_inf y hy ky fy, sx, sy] at h
          simp at h
      · have b := rank_bd y hy ky
        rw [rank_inf x hx kx fx, sx] at h
        simp at h
        omega
    · unfold Le; split <;> trivial
  · rw [read_fin x hx kx]
    by_cases ky : exf y = 2047
    · have fy : fr y = 0 := by unfold isN at ny; omega
      rw [read_inf y hy ky fy]
      cases sy : sg y
      · exact trivial
      · have b := rank_bd x hx kx
        rw [rank_inf y hy ky fy, sy] at h
        simp at h
        omega
    · rw [read_fin y hy ky]
      intro p hi hj
      rw [signed_eq, signed_eq]
      have e : plc x - ((plc x - p).toNat : Int) = plc y - ((plc y - p).toNat : Int) := by omega
      have l1 := rung_order_le x y hx hy kx ky _ _ e
      have l2 := rung_order_le y x hy hx ky kx _ _ e.symm
      have nx := rung_none x hx
      have ny := rung_none y hy
      have px : mag x = 0 → mag x * 2 ^ (plc x - p).toNat = 0 := by intro z; rw [z, Nat.zero_mul]
      have py : mag y = 0 → mag y * 2 ^ (plc y - p).toNat = 0 := by intro z; rw [z, Nat.zero_mul]
      unfold rankN at h
      generalize mag x * 2 ^ (plc x - p).toNat = A at *
      generalize mag y * 2 ^ (plc y - p).toNat = B at *
      cases sx : sg x <;> cases sy : sg y <;> rw [sx, sy] at h <;> simp only [Bool.false_eq_true, if_false, if_true] at h ⊢ <;> omega

theorem some_word {T p : Int} {s : Bool} : rankN (if T = 0 then word s 0 else word (decide (T < 0)) (rung T.natAbs p)) = if T < 0 then -(rung T.natAbs p : Int) else rung T.natAbs p := by
  have hr := rung_le T.natAbs p
  by_cases z : T = 0
  · subst z
    rw [if_pos rfl, rank_word _ _ (by omega)]
    unfold sv
    simp [rung_zero]
  · rw [if_neg z, rank_word _ _ (by omega)]
    unfold sv
    by_cases c : T < 0
    · simp [c]
    · simp [c]

theorem total_mono {T U p : Int} (h : T ≤ U) : (if T < 0 then -(rung T.natAbs p : Int) else rung T.natAbs p) ≤ (if U < 0 then -(rung U.natAbs p : Int) else rung U.natAbs p) := by
  split
  · split
    · have := rung_mono p (show U.natAbs ≤ T.natAbs by omega); omega
    · omega
  · split
    · omega
    · have := rung_mono p (show T.natAbs ≤ U.natAbs by omega); omega

theorem rk_sum {s t : Bool} {m n : Nat} {i j p : Int} {d : Datum} (hi : p ≤ i) (hj : p ≤ j) (h : Datum.sum (.number s m i) (.number t n j) = some d) :
    rkD d = if Ieee.signed s m (i - p).toNat + Ieee.signed t n (j - p).toNat < 0 then -(rung (Ieee.signed s m (i - p).toNat + Ieee.signed t n (j - p).toNat).natAbs p : Int) else rung (Ieee.signed s m (i - p).toNat + Ieee.signed t n (j - p).toNat).natAbs p := by
  have e := sum_write s t m n i j p hi hj
  rw [h, Option.map_some] at e
  have e2 := Option.some.inj e
  unfold rkD
  rw [e2]
  exact some_word

theorem low (d e : Datum) (he : notNan e = true) (h : d = .infinity true) : rkD d ≤ rkD e := by
  rw [h, rk_inf]; have := (rk_bd e he).1; unfold sv; simp only [if_true]; omega
theorem high (d e : Datum) (hd : notNan d = true) (h : e = .infinity false) : rkD d ≤ rkD e := by
  rw [h, rk_inf]; have := (rk_bd d hd).2; unfold sv; simp only [Bool.false_eq_true, if_false]; omega

theorem sum_mono {a b c d e : Datum} (h : Le a b) (hd : a.sum c = some d) (he : b.sum c = some e) : rkD d ≤ rkD e := by
  have nd := sum_num _ _ _ hd
  have ne := sum_num _ _ _ he
  cases a with
  | nan s f => simp [Datum.sum] at hd
  | infinity s =>
    cases s
    · cases b with
      | nan t g => simp [Datum.sum] at he
      | infinity t =>
        cases t
        · rw [hd] at he; cases he; exact Int.le_refl _
        · exact absurd h (by simp [Le])
      | number t n j => exact absurd h (by simp [Le])
    · refine low d e ne ?_
      cases c with
      | nan u f => simp [Datum.sum] at hd
      | infinity u => cases u <;> simp [Datum.sum] at hd; exact hd.symm
      | number u k l => simp [Datum.sum] at hd; exact hd.symm
  | number s m i =>
    cases b with
    | nan t g => simp [Datum.sum] at he
    | infinity t =>
      cases t
      · refine high d e nd ?_
        cases c with
        | nan u f => simp [Datum.sum] at hd
        | infinity u => cases u <;> simp [Datum.sum] at he; exact he.symm
        | number u k l => simp [Datum.sum] at he; exact he.symm
      · exact absurd h (by simp [Le])
    | number t n j =>
      cases c with
      | nan u f => simp [Datum.sum] at hd
      | infinity u =>
        simp [Datum.sum] at hd he
        rw [← hd, ← he]; exact Int.le_refl _
      | number u k l =>
        have hp : ∃ p : Int, p ≤ i ∧ p ≤ j ∧ p ≤ l := ⟨min i (min j l), by omega, by omega, by omega⟩
        obtain ⟨p, pi, pj, pl⟩ := hp
        rw [rk_sum pi pl hd, rk_sum pj pl he]
        have := h p pi pj
        exact total_mono (by omega)

/-- not below 0 -/
def up0 (d : Datum) : Prop := match d with | .number s _ _ => s = false | .infinity s => s = false | .nan _ _ => True

theorem signed_scale (s : Bool) (m k a : Nat) : Ieee.signed s (m * k) a = Ieee.signed s m a * (k : Int) := by
  rw [signed_eq, signed_eq, Nat.mul_right_comm]
  cases s
  · simp
  · simp only [if_true, Int.natCast_mul]
    rw [Int.neg_mul]

theorem le_signs {s t : Bool} {m n : Nat} {i j : Int} (h : Le (.number s m i) (.number t n j)) (hs : s = false) (ht : t = true) : m = 0 ∧ n = 0 := by
  have h1 := h (min i j) (by omega) (by omega)
  rw [signed_eq, signed_eq, hs, ht] at h1
  simp only [Bool.false_eq_true, if_false, if_true] at h1
  have pi := Nat.two_pow_pos (i - min i j).toNat
  have pj := Nat.two_pow_pos (j - min i j).toNat
  have hm : m * 2 ^ (i - min i j).toNat = 0 := by omega
  have hn : n * 2 ^ (j - min i j).toNat = 0 := by omega
  rw [Nat.mul_eq_zero] at hm hn
  omega

theorem inf_mono {s t : Bool} {m n : Nat} {i j : Int} (h : Le (.number s m i) (.number t n j)) (hm : m ≠ 0) : rkD (.infinity s) ≤ rkD (.infinity t) := by
  rw [rk_inf, rk_inf]
  cases s
  · cases t
    · exact Int.le_refl _
    · exact absurd (le_signs h rfl rfl).1 hm
  · unfold sv; cases t <;> simp

theorem product_mono {a b c d e : Datum} (h : Le a b) (h0 : up0 c) (hd : a.product c = some d) (he : b.product c = some e) : rkD d ≤ rkD e := by
  have nd := product_num _ _ _ hd
  have ne := product_num _ _ _ he
  cases a with
  | nan s f => simp [Datum.product] at hd
  | infinity s =>
    cases s
    · cases b with
      | nan t g => simp [Datum.product] at he
      | infinity t =>
        cases t
        · rw [hd] at he; cases he; exact Int.le_refl _
        · exact absurd h (by simp [Le])
      | number t n j => exact absurd h (by simp [Le])
    · refine low d e ne ?_
      cases c with
      | nan u f => simp [Datum.product] at hd
      | infinity u => cases u <;> simp [up0] at h0; simp [Datum.product] at hd; exact hd.symm
      | number u k l => cases u <;> simp [up0] at h0; simp [Datum.product] at hd; exact hd.2.symm
  | number s m i =>
    cases b with
    | nan t g => simp [Datum.product] at he
    | infinity t =>
      cases t
      · refine high d e nd ?_
        cases c with
        | nan u f => simp [Datum.product] at hd
        | infinity u => cases u <;> simp [up0] at h0; simp [Datum.product] at he; exact he.symm
        | number u k l => cases u <;> simp [up0] at h0; simp [Datum.product] at he; exact he.2.symm
      · exact absurd h (by simp [Le])
    | number t n j =>
      cases c with
      | nan u f => simp [Datum.product] at hd
      | infinity u =>
        cases u <;> simp [up0] at h0
        simp [Datum.product] at hd he
        rw [← hd.2, ← he.2]
        exact inf_mono h hd.1
      | number u k l =>
        cases u <;> simp [up0] at h0
        simp [Datum.product] at hd he
        rw [← hd, ← he, rk_num, rk_num]
        have h1 := h (min i j) (by omega) (by omega)
        refine num_mono (min i j + l) (by omega) (by omega) ?_
        rw [signed_scale, signed_scale, show i + l - (min i j + l) = i - min i j by omega, show j + l - (min i j + l) = j - min i j by omega]
        exact Int.mul_le_mul_of_nonneg_right h1 (by omega)

theorem twoq_mono {N M D : Nat} (h : N ≤ M) : twoq N D ≤ twoq M D := by
  unfold twoq
  have h1 := Nat.div_le_div_right (c := D) h
  have b1 : (N % D != 0).toNat ≤ 1 := by cases (N % D != 0) <;> decide
  rcases Nat.lt_or_eq_of_le h1 with c | c
  · omega
  · rw [c]
    have d1 := Nat.div_add_mod N D
    have d2 := Nat.div_add_mod M D
    rw [c] at d1
    have : (N % D != 0).toNat ≤ (M % D != 0).toNat := by
      by_cases z : N % D = 0
      · rw [z]; exact Nat.zero_le _
      · rw [show (M % D != 0) = true by simp; omega]
        exact b1
    omega

theorem twoq_up (N D c : Nat) (hD : 0 < D) : Sticky c (twoq (N * 2 ^ c) D) (twoq N D) := by
  unfold Sticky twoq
  have hp := Nat.two_pow_pos c
  generalize 2 ^ c = X at *
  have hdm := Nat.div_add_mod N D
  have hm := Nat.mod_lt N hD
  generalize hq : N / D = q at *
  generalize hr : N % D = r at *
  have e4 : N * X = D * (q * X) + r * X := by rw [← hdm, Nat.add_mul, Nat.mul_assoc]
  have d1 : N * X / D = q * X + r * X / D := by rw [e4, Nat.mul_add_div hD]
  have d2 : N * X % D = r * X % D := by rw [e4, Nat.mul_add_mod]
  rw [d1, d2]
  by_cases z : r = 0
  · subst z
    left
    simp [Nat.mul_assoc]
  · right
    rw [show (r != 0) = true by simpa using z, show true.toNat = 1 by rfl]
    have h3 : r * X / D < X := by rw [Nat.div_lt_iff_lt_mul hD, Nat.mul_comm X D]; exact Nat.mul_lt_mul_of_pos_right hm hp
    have hb : (r * X % D != 0).toNat ≤ 1 := by cases (r * X % D != 0) <;> decide
    have hpos : 0 < 2 * (r * X / D) + (r * X % D != 0).toNat := by
      have hrx : 0 < r * X := Nat.mul_pos (by omega) hp
      by_cases c2 : r * X < D
      · rw [Nat.mod_eq_of_lt c2, show (r * X != 0) = true by simp; omega, show true.toNat = 1 by rfl]; omega
      · have : 1 ≤ r * X / D := by rw [Nat.le_div_iff_mul_le hD]; omega
        omega
    have e1 : (2 * q + 1 - 1) * X = 2 * (q * X) := by rw [Nat.add_sub_cancel, Nat.mul_assoc]
    have e2 : (2 * q + 1 + 1) * X = 2 * (q * X) + 2 * X := by rw [show 2 * q + 1 + 1 = 2 * q + 2 by omega, Nat.add_mul, Nat.mul_assoc]
    rw [e1, e2]
    generalize r * X / D = y at *
    generalize (r * X % D != 0).toNat = b at *
    omega

/-- a quotient, reckoned at whatever place is low enough -/
theorem quot_rung (m k : Nat) (i l p : Int) (hm : m ≠ 0) (hk : k ≠ 0) (hl : m.log2 ≤ 52) (hp : p + (54 + k.log2 : Nat) ≤ i) :
    rung (twoq (m * 2 ^ (54 + k.log2 - m.log2)) k) (i - l - (54 + k.log2 - m.log2 : Nat) - 1) = rung (twoq (m * 2 ^ (i - p).toNat) k) (p - l - 1) := by
  generalize hmo : 54 + k.log2 - m.log2 = more
  obtain ⟨c, hc⟩ : ∃ c : Nat, (i - p).toNat = more + c := ⟨(i - p).toNat - more, by omega⟩
  have hq : 2 ^ 53 ≤ m * 2 ^ more / k := by
    rw [Nat.le_div_iff_mul_le (by omega)]
    have h1 := Nat.log2_self_le hm
    have h2 : k < 2 ^ (k.log2 + 1) := Nat.lt_log2_self
    calc 2 ^ 53 * k ≤ 2 ^ 53 * 2 ^ (k.log2 + 1) := Nat.mul_le_mul_left _ (by omega)
      _ = 2 ^ m.log2 * 2 ^ more := by rw [← Nat.pow_add, ← Nat.pow_add]; congr 1; omega
      _ ≤ m * 2 ^ more := Nat.mul_le_mul_right _ h1
  rw [hc, Nat.pow_add, ← Nat.mul_assoc, (twoq_up (m * 2 ^ more) k c (by omega)).rung (by unfold twoq; omega)]
  congr 1
  omega

theorem quotient_mono {a b c d e : Datum} (h : Le a b) (h0 : up0 c) (ha : ∀ s m i, a = .number s m i → m.log2 ≤ 52) (hb : ∀ s m i, b = .number s m i → m.log2 ≤ 52) (hd : a.quotient 54 c = some d) (he : b.quotient 54 c = some e) : rkD d ≤ rkD e := by
  have nd := quotient_num _ _ _ _ hd
  have ne := quotient_num _ _ _ _ he
  cases a with
  | nan s f => simp [Datum.quotient] at hd
  | infinity s =>
    cases s
    · cases b with
      | nan t g => simp [Datum.quotient] at he
      | infinity t =>
        cases t
        · rw [hd] at he; cases he; exact Int.le_refl _
        · exact absurd h (by simp [Le])
      | number t n j => exact absurd h (by simp [Le])
    · refine low d e ne ?_
      cases c with
      | nan u f => simp [Datum.quotient] at hd
      | infinity u => simp [Datum.quotient] at hd
      | number u k l => cases u <;> simp [up0] at h0; simp [Datum.quotient] at hd; exact hd.symm
  | number s m i =>
    cases b with
    | nan t g => simp [Datum.quotient] at he
    | infinity t =>
      cases t
      · refine high d e nd ?_
        cases c with
        | nan u f => simp [Datum.quotient] at hd
        | infinity u => simp [Datum.quotient] at he
        | number u k l => cases u <;> simp [up0] at h0; simp [Datum.quotient] at he; exact he.symm
      · exact absurd h (by simp [Le])
    | number t n j =>
      cases c with
      | nan u f => simp [Datum.quotient] at hd
      | infinity u =>
        simp [Datum.quotient] at hd he
        rw [← hd, ← he, rk_num, rk_num, rung_zero]
        unfold sv; split <;> split <;> simp
      | number u k l =>
        cases u <;> simp [up0] at h0
        rw [quotient_fin] at hd he
        by_cases zk : k = 0
        · rw [if_pos zk] at hd he
          by_cases zm : m = 0
          · rw [if_pos zm] at hd; cases hd
          · by_cases zn : n = 0
            · rw [if_pos zn] at he; cases he
            · rw [if_neg zm] at hd
              rw [if_neg zn] at he
              simp at hd he
              rw [← hd, ← he]
              exact inf_mono h zm
        · rw [if_neg zk] at hd he
          have hd2 := Option.some.inj hd
          have he2 := Option.some.inj he
          rw [← hd2, ← he2, rk_num, rk_num, Bool.xor_false, Bool.xor_false]
          show sv s (rung (twoq (m * 2 ^ (54 + k.log2 - m.log2)) k) _) ≤ sv t (rung (twoq (n * 2 ^ (54 + k.log2 - n.log2)) k) _)
          have hz : ∀ x, rung (twoq (0 * 2 ^ x) k) (i - l - (54 + k.log2 - m.log2 : Nat) - 1) = 0 ∧ rung (twoq (0 * 2 ^ x) k) (j - l - (54 + k.log2 - n.log2 : Nat) - 1) = 0 := by
            intro x
            have : twoq (0 * 2 ^ x) k = 0 := by unfold twoq; simp
            rw [this, rung_zero, rung_zero]; exact ⟨rfl, rfl⟩
          generalize hp : min i j - (54 + k.log2 : Nat) = p
          have h1 := h p (by omega) (by omega)
          rw [signed_eq, signed_eq] at h1
          by_cases zm : m = 0
          · subst zm
            rw [(hz _).1]
            cases t
            · unfold sv; split <;> simp
            · cases s
              · have := (le_signs h rfl rfl).2
                subst this
                rw [(hz _).2]; decide
              · simp only [if_true, Nat.zero_mul] at h1
                have pj := Nat.two_pow_pos (j - p).toNat
                have hn : n * 2 ^ (j - p).toNat = 0 := by omega
                rw [Nat.mul_eq_zero] at hn
                have zn : n = 0 := by omega
                subst zn
                rw [(hz _).2]; decide
          · by_cases zn : n = 0
            · subst zn
              rw [(hz _).2]
              cases s
              · cases t
                · simp only [Bool.false_eq_true, if_false, Nat.zero_mul] at h1
                  have pi := Nat.two_pow_pos (i - p).toNat
                  have hm : m * 2 ^ (i - p).toNat = 0 := by omega
                  rw [Nat.mul_eq_zero] at hm
                  omega
                · exact absurd (le_signs h rfl rfl).1 zm
              · unfold sv; simp only [if_true]; split <;> omega
            · rw [quot_rung m k i l p zm zk (ha _ _ _ rfl) (by omega), quot_rung n k j l p zn zk (hb _ _ _ rfl) (by omega)]
              cases s
              · cases t
                · simp only [Bool.false_eq_true, if_false] at h1
                  unfold sv
                  simp only [Bool.false_eq_true, if_false]
                  have := rung_mono (p - l - 1) (twoq_mono (D := k) (show m * 2 ^ (i - p).toNat ≤ n * 2 ^ (j - p).toNat by omega))
                  omega
                · exact absurd (le_signs h rfl rfl).1 zm
              · cases t
                · unfold sv; simp only [Bool.false_eq_true, if_false, if_true]; omega
                · simp only [if_true] at h1
                  unfold sv
                  simp only [if_true]
                  have := rung_mono (p - l - 1) (twoq_mono (D := k) (show n * 2 ^ (j - p).toNat ≤ m * 2 ^ (i - p).toNat by omega))
                  omega

theorem twor_mono {n m r s : Nat} (hr : IsRoot n r) (hs : IsRoot m s) (h : n ≤ m) : twor n r ≤ twor m s := by
  unfold IsRoot twor at *
  have b1 : (r * r != n).toNat ≤ 1 := by cases (r * r != n) <;> decide
  have hrs : r ≤ s := by
    rcases Nat.lt_or_ge s r with c | c
    · have := Nat.mul_le_mul (show s + 1 ≤ r by omega) (show s + 1 ≤ r by omega); omega
    · exact c
  rcases Nat.lt_or_eq_of_le hrs with c | c
  · omega
  · subst c
    have : (r * r != n).toNat ≤ (r * r != m).toNat := by
      by_cases z : r * r = n
      · rw [show (r * r != n) = false by simpa using z]; exact Nat.zero_le _
      · rw [show (r * r != m) = true by simp; omega]
        exact b1
    omega

/-- a root, reckoned at whatever place is low enough -/
theorem root_rung (m : Nat) (i q : Int) (hm : m ≠ 0) (hl : m.log2 ≤ 52) (hq : 2 * q + 110 ≤ i) :
    ∃ R, IsRoot (m * 2 ^ (i - 2 * q).toNat) R ∧ rung (twor (m * 2 ^ (108 - m.log2 + ((i - (108 - m.log2 : Nat)) % 2).toNat)) (Datum.rootFrom (m * 2 ^ (108 - m.log2 + ((i - (108 - m.log2 : Nat)) % 2).toNat)) ((m * 2 ^ (108 - m.log2 + ((i - (108 - m.log2 : Nat)) % 2).toNat)).log2 / 2 + 1) 0)) ((i - (108 - m.log2 + ((i - (108 - m.log2 : Nat)) % 2).toNat : Nat)) / 2 - 1) = rung (twor (m * 2 ^ (i - 2 * q).toNat) R) (q - 1) := by
  generalize hmo : 108 - m.log2 + ((i - (108 - m.log2 : Nat)) % 2).toNat = more
  obtain ⟨c, hc⟩ : ∃ c : Nat, (i - 2 * q).toNat = more + 2 * c := ⟨((i - 2 * q).toNat - more) / 2, by omega⟩
  have hn0 : m * 2 ^ more ≠ 0 := Nat.mul_ne_zero hm (by have := Nat.two_pow_pos more; omega)
  have hr := root_is _ hn0
  generalize Datum.rootFrom (m * 2 ^ more) ((m * 2 ^ more).log2 / 2 + 1) 0 = r at *
  rw [hc, Nat.pow_add, ← Nat.mul_assoc]
  have hn1 : m * 2 ^ more * 2 ^ (2 * c) ≠ 0 := Nat.mul_ne_zero hn0 (by have := Nat.two_pow_pos (2 * c); omega)
  refine ⟨_, root_is _ hn1, ?_⟩
  have hst := twor_scale (k := c) hr (root_is _ hn1)
  have h54 : 2 ^ 54 ≤ r := by
    have h1 : 2 ^ 108 ≤ m * 2 ^ more := by
      have h2 := Nat.log2_self_le hm
      calc 2 ^ 108 = 2 ^ m.log2 * 2 ^ (108 - m.log2) := by rw [← Nat.pow_add]; congr 1; omega
        _ ≤ m * 2 ^ more := Nat.mul_le_mul h2 (Nat.pow_le_pow_right (by omega) (by omega))
    rcases Nat.lt_or_ge r (2 ^ 54) with g | g
    · exfalso
      have h2 := Nat.mul_le_mul (show r + 1 ≤ 2 ^ 54 by omega) (show r + 1 ≤ 2 ^ 54 by omega)
      have h3 := hr.2
      have h4 : (2 : Nat) ^ 54 * 2 ^ 54 = 2 ^ 108 := by rw [← Nat.pow_add]
      omega
    · exact g
  rw [hst.rung (by unfold twor; omega)]
  congr 1
  omega

theorem root_mono {a b d e : Datum} (h : Le a b) (ha : ∀ s m i, a = .number s m i → m.log2 ≤ 52) (hb : ∀ s m i, b = .number s m i → m.log2 ≤ 52) (hd : a.root 54 = some d) (he : b.root 54 = some e) : rkD d ≤ rkD e := by
  have nd := root_num _ _ _ hd
  have ne := root_num _ _ _ he
  cases a with
  | nan s f => simp [Datum.root] at hd
  | infinity s =>
    cases s
    · cases b with
      | nan t g => simp [Datum.root] at he
      | infinity t =>
        cases t
        · rw [hd] at he; cases he; exact Int.le_refl _
        · exact absurd h (by simp [Le])
      | number t n j => exact absurd h (by simp [Le])
    · simp [Datum.root] at hd
  | number s m i =>
    cases b with
    | nan t g => simp [Datum.root] at he
    | infinity t =>
      cases t
      · refine high d e nd ?_
        simp [Datum.root] at he; exact he.symm
      · exact absurd h (by simp [Le])
    | number t n j =>
      rw [root_num_eq] at hd he
      by_cases zm : m = 0
      · rw [if_pos zm] at hd
        have hd2 := Option.some.inj hd
        rw [← hd2, rk_num, zm, rung_zero]
        by_cases zn : n = 0
        · rw [if_pos zn] at he
          have he2 := Option.some.inj he
          rw [← he2, rk_num, zn, rung_zero]
          unfold sv; split <;> split <;> simp
        · rw [if_neg zn] at he
          cases t
          · rw [if_neg (by simp)] at he
            have he2 := Option.some.inj he
            rw [← he2, rk_num]
            unfold sv; split <;> simp
          · rw [if_pos rfl] at he; cases he
      · rw [if_neg zm] at hd
        cases s
        · rw [if_neg (by simp)] at hd
          have hd2 := Option.some.inj hd
          cases t
          · have h1 := h (min i j) (by omega) (by omega)
            rw [signed_eq, signed_eq] at h1
            simp only [Bool.false_eq_true, if_false] at h1
            by_cases zn : n = 0
            · subst zn
              have pi := Nat.two_pow_pos (i - min i j).toNat
              have hm : m * 2 ^ (i - min i j).toNat = 0 := by omega
              rw [Nat.mul_eq_zero] at hm
              omega
            · rw [if_neg zn, if_neg (by simp)] at he
              have he2 := Option.some.inj he
              rw [← hd2, ← he2, rk_num, rk_num]
              generalize hq : (min i j - 111) / 2 = q
              obtain ⟨R, hR, eR⟩ := root_rung m i q zm (ha _ _ _ rfl) (by omega)
              obtain ⟨S, hS, eS⟩ := root_rung n j q zn (hb _ _ _ rfl) (by omega)
              have h2 := h (2 * q) (by omega) (by omega)
              rw [signed_eq, signed_eq] at h2
              simp only [Bool.false_eq_true, if_false] at h2
              have := rung_mono (q - 1) (twor_mono hR hS (by omega))
              show sv false (rung _ _) ≤ sv false (rung _ _)
              rw [eR, eS]
              unfold sv
              simp only [Bool.false_eq_true, if_false]
              omega
          · exact absurd (le_signs h rfl rfl).1 zm
        · rw [if_pos rfl] at hd; cases hd

/-- the law's test -/
def upN (x y : Nat) : Bool := !decide (isN x) || (!decide (isN y) || !lessN y x)
theorem not_nanW : ¬ isN nanW := by decide
theorem upN_of {o o' : Option Datum} (h : ∀ d e, o = some d → o' = some e → rkD d ≤ rkD e) : upN (numOf (o.map double.write)) (numOf (o'.map double.write)) = true := by
  unfold upN
  cases o with
  | none => rw [Option.map_none, show numOf none = nanW by rfl]; simp [not_nanW]
  | some d =>
    cases o' with
    | none => rw [Option.map_none, show numOf none = nanW by rfl]; simp [not_nanW]
    | some e =>
      have := h d e rfl rfl
      unfold rkD at this
      rw [Option.map_some, Option.map_some, numOf_some, numOf_some]
      unfold lessN
      have h2 : ¬ rankN (double.write e) < rankN (double.write d) := by omega
      simp [h2]

theorem log_read {x : Nat} (hx : x < 2 ^ 64) (s : Bool) (m : Nat) (i : Int) (h : double.read x = .number s m i) : m.log2 ≤ 52 := by
  rw [read_eq x hx] at h
  split at h
  · split at h <;> cases h
  · cases h
    have := fr_lt x
    have hm : mag x < 2 ^ 53 := by unfold mag; split <;> omega
    by_cases z : mag x = 0
    · rw [z]; decide
    · have := (Nat.log2_lt z).2 hm; omega

/-- the less of two numbers, and what is made of them -/
theorem less_rank {x y : Nat} (h : lessN x y = true) : isN x ∧ isN y ∧ rankN x < rankN y := by
  unfold lessN at h
  simpa [Bool.and_eq_true, decide_eq_true_eq, and_assoc] using h

theorem up_add {a b : Nat} (c : Nat) (ha : a < 2 ^ 64) (hb : b < 2 ^ 64) (h : lessN a b = true) : upN (numOf (double.add a c)) (numOf (double.add b c)) = true := by
  obtain ⟨na, nb, hr⟩ := less_rank h
  unfold Ieee.Format.add
  exact upN_of fun d e hd he => sum_mono (le_read ha hb na nb (by omega)) hd he

theorem up0_read {c : Nat} (hc : c < 2 ^ 63) : up0 (double.read c) := by
  have : sg c = false := by unfold sg; simp; omega
  rw [read_eq c (by omega), this]
  split
  · split <;> exact (by first | rfl | trivial)
  · rfl

theorem up_mul {a b c : Nat} (hc : c < 2 ^ 63) (ha : a < 2 ^ 64) (hb : b < 2 ^ 64) (h : lessN a b = true) : upN (numOf (double.mul a c)) (numOf (double.mul b c)) = true := by
  obtain ⟨na, nb, hr⟩ := less_rank h
  unfold Ieee.Format.mul
  exact upN_of fun d e hd he => product_mono (le_read ha hb na nb (by omega)) (up0_read hc) hd he

theorem up_div {a b c : Nat} (hc : c < 2 ^ 63) (ha : a < 2 ^ 64) (hb : b < 2 ^ 64) (h : lessN a b = true) : upN (numOf (double.div a c)) (numOf (double.div b c)) = true := by
  obtain ⟨na, nb, hr⟩ := less_rank h
  unfold Ieee.Format.div
  rw [show double.fractionBits + 2 = 54 by rfl]
  exact upN_of fun d e hd he => quotient_mono (le_read ha hb na nb (by omega)) (up0_read hc) (log_read ha) (log_read hb) hd he

theorem up_sqrt {a b : Nat} (ha : a < 2 ^ 64) (hb : b < 2 ^ 64) (h : lessN a b = true) : upN (numOf (double.sqrt a)) (numOf (double.sqrt b)) = true := by
  obtain ⟨na, nb, hr⟩ := less_rank h
  unfold Ieee.Format.sqrt
  rw [show double.fractionBits + 2 = 54 by rfl]
  exact upN_of fun d e hd he => root_mono (le_read ha hb na nb (by omega)) (log_read ha) (log_read hb) hd he

theorem le_opp {a b : Datum} (h : Le a b) : Le b.opposite a.opposite := by
  cases a with
  | nan s f =>
    cases b with
    | nan t g => exact absurd h (by simp [Le])
    | infinity t => cases t <;> simp_all [Le, Datum.opposite]
    | number t n j => exact absurd h (by simp [Le])
  | infinity s =>
    cases s
    · cases b with
      | nan t g => exact absurd h (by simp [Le])
      | infinity t => cases t <;> simp_all [Le, Datum.opposite]
      | number t n j => exact absurd h (by simp [Le])
    · cases b with
      | nan t g => trivial
      | infinity t => cases t <;> trivial
      | number t n j => trivial
  | number s m i =>
    cases b with
    | nan t g => exact absurd h (by simp [Le])
    | infinity t => cases t <;> simp_all [Le, Datum.opposite]
    | number t n j =>
      intro p hj hi
      have := h p hi hj
      rw [signed_eq, signed_eq] at this ⊢
      cases s <;> cases t <;> simp only [Bool.not_false, Bool.not_true, Bool.false_eq_true, if_false, if_true] at this ⊢ <;> omega

theorem up_sub {a b : Nat} (c : Nat) (ha : a < 2 ^ 64) (hb : b < 2 ^ 64) (h : lessN a b = true) : upN (numOf (double.sub c b)) (numOf (double.sub c a)) = true := by
  obtain ⟨na, nb, hr⟩ := less_rank h
  unfold Ieee.Format.sub
  refine upN_of fun d e hd he => ?_
  rw [sum_comm] at hd he
  exact sum_mono (le_opp (le_read ha hb na nb (by omega))) hd he
end Go.Proofs.Ytelgmffmekfndaa.Fl
