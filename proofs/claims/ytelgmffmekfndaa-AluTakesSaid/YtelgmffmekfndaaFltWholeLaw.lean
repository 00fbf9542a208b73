/- Small whole numbers are reckoned as whole numbers are. Plain law, no program. Conditions: the numbers are below 2^25. -/
import Derived.Test.YtelgmffmekfndaaFltOrdLaw
import Derived.Test.YtelgmffmekfndaaFltSqrtLaw
import Derived.Test.YtelgmffmekfndaaFltDivLaw
namespace Go.Proofs.Ytelgmffmekfndaa.Fl
open Ieee (double)

/-- a size with its sign -/
def sv (s : Bool) (m : Nat) : Int := if s then -(m : Int) else m

/-- what a number of 53 bits stands for, as the word that is nearest to it holds it -/
theorem exact_parts (s : Bool) (m : Nat) (p : Int) (h : m < 2 ^ 53) (h1 : -1022 ≤ p) (h2 : p ≤ 0) :
    ∃ k : Nat, (m ≠ 0 → k = 52 - m.log2 ∧ m.log2 ≤ 52) ∧ exf (word s (rung m p)) ≠ 2047 ∧ mag (word s (rung m p)) = m * 2 ^ k ∧ plc (word s (rung m p)) = p - k ∧ sg (word s (rung m p)) = s ∧ word s (rung m p) < 2 ^ 64 ∧ word s (rung m p) % 2 ^ 63 = rung m p := by
  by_cases z : m = 0
  · subst z
    have hx : exf (word s 0) = 0 := by cases s <;> decide
    have hf : fr (word s 0) = 0 := by cases s <;> decide
    rw [rung_zero]
    refine ⟨(p + 1074).toNat, fun c => absurd rfl c, by omega, ?_, ?_, word_sg _ _ (by omega), word_lt _ _ (by omega), word_mod _ _ (by omega)⟩
    · unfold mag; rw [if_pos hx, hf, Nat.zero_mul]
    · unfold plc; rw [if_pos hx]; omega
  have l0 := Nat.log2_self_le z
  have l1 : m < 2 ^ (m.log2 + 1) := Nat.lt_log2_self
  have l2 : m.log2 < 53 := (Nat.log2_lt z).2 h
  generalize m.log2 = L at *
  have r1 : rung m p = rung (m * 2 ^ (52 - L)) (p - ((52 - L : Nat) : Int)) := (rung_mul m p (52 - L)).symm
  have b0 : 2 ^ 52 ≤ m * 2 ^ (52 - L) := by
    calc 2 ^ 52 = 2 ^ L * 2 ^ (52 - L) := by rw [← Nat.pow_add]; congr 1; omega
      _ ≤ _ := Nat.mul_le_mul_right _ l0
  have b1 : m * 2 ^ (52 - L) < 2 ^ 53 := by
    calc _ < 2 ^ (L + 1) * 2 ^ (52 - L) := Nat.mul_lt_mul_of_pos_right l1 (Nat.two_pow_pos _)
      _ = 2 ^ 53 := by rw [← Nat.pow_add]; congr 1; omega
  rw [rung_exact _ _ b0 b1 (by omega) (by omega)] at r1
  refine ⟨52 - L, fun _ => ⟨rfl, by omega⟩, ?_⟩
  rw [r1]
  clear r1
  generalize m * 2 ^ (52 - L) = F at *
  generalize hK : (p - ((52 - L : Nat) : Int) + 1075).toNat = K
  have hx : exf (word s (K * 2 ^ 52 + (F - 2 ^ 52))) = K := by
    unfold exf word; split <;> omega
  have hf : fr (word s (K * 2 ^ 52 + (F - 2 ^ 52))) = F - 2 ^ 52 := by
    unfold fr word; split <;> omega
  refine ⟨by omega, ?_, ?_, word_sg _ _ (by omega), word_lt _ _ (by omega), word_mod _ _ (by omega)⟩
  · unfold mag; rw [if_neg (by omega)]; omega
  · unfold plc; rw [if_neg (by omega)]; omega

theorem read_small (s : Bool) (m : Nat) (h : m < 2 ^ 53) :
    ∃ k : Nat, (m ≠ 0 → k = 52 - m.log2 ∧ m.log2 ≤ 52) ∧ double.read (word s (rung m 0)) = .number s (m * 2 ^ k) (-(k : Int)) := by
  obtain ⟨k, hk, h1, h2, h3, h4, h5, _⟩ := exact_parts s m 0 h (by omega) (by omega)
  refine ⟨k, hk, ?_⟩
  rw [read_fin _ h5 h1, h2, h3, h4]
  congr 1
  omega

theorem signed_sv (s : Bool) (m k l : Nat) : Ieee.signed s (m * 2 ^ k) l = sv s m * ((2 ^ (k + l) : Nat) : Int) := by
  rw [signed_eq, Nat.mul_assoc, ← Nat.pow_add]
  unfold sv
  cases s
  · simp
  · simp only [if_true, Int.natCast_mul]
    rw [Int.neg_mul]

theorem word_zero (s : Bool) : whole (word s 0) = 0 := by
  have := whole_small s 0 (by decide)
  rw [rung_zero] at this
  rw [this]; cases s <;> rfl

theorem whole_sv (s : Bool) (m : Nat) (h : m < 2 ^ 53) : whole (word s (rung m 0)) = sv s m := whole_small s m h

theorem sv_bd (s : Bool) (m : Nat) : -(m : Int) ≤ sv s m ∧ sv s m ≤ m := by unfold sv; split <;> omega

theorem whole_add (s t : Bool) (m n : Nat) (hm : m < 2 ^ 52) (hn : n < 2 ^ 52) :
    whole (numOf (double.add (word s (rung m 0)) (word t (rung n 0)))) = sv s m + sv t n := by
  obtain ⟨k, _, ek⟩ := read_small s m (by omega)
  obtain ⟨l, _, el⟩ := read_small t n (by omega)
  unfold Ieee.Format.add
  rw [ek, el, sum_write s t _ _ _ _ (-((k + l : Nat) : Int)) (by omega) (by omega), signed_sv, signed_sv]
  have e1 : (-(k : Int) - -((k + l : Nat) : Int)).toNat = l := by omega
  have e2 : (-(l : Int) - -((k + l : Nat) : Int)).toNat = k := by omega
  rw [e1, e2, Nat.add_comm l k, ← Int.add_mul]
  have b1 := sv_bd s m
  have b2 := sv_bd t n
  have hV : (sv s m + sv t n).natAbs < 2 ^ 53 := by omega
  generalize sv s m + sv t n = V at *
  have hp := Nat.two_pow_pos (k + l)
  rw [numOf_some]
  by_cases h0 : V = 0
  · subst h0
    simp only [Int.zero_mul, if_true]
    exact word_zero _
  · have h1 : V * ((2 ^ (k + l) : Nat) : Int) ≠ 0 := Int.mul_ne_zero h0 (by omega)
    have e3 : decide (V * ((2 ^ (k + l) : Nat) : Int) < 0) = decide (V < 0) := by
      rw [decide_eq_decide]
      constructor
      · intro h
        by_cases hx : V < 0
        · exact hx
        · have := Int.mul_nonneg (show 0 ≤ V by omega) (show (0 : Int) ≤ ((2 ^ (k + l) : Nat) : Int) by omega)
          omega
      · intro h
        exact Int.mul_neg_of_neg_of_pos h (by omega)
    have e4 : (-((k + l : Nat) : Int)) = 0 - ((k + l : Nat) : Int) := by omega
    simp only [if_neg h1, e3, Int.natAbs_mul, Int.natAbs_natCast]
    rw [e4, rung_mul, whole_sv _ _ hV]
    unfold sv
    by_cases c : V < 0
    · simp only [c, decide_true, if_true]; omega
    · simp only [c, decide_false, Bool.false_eq_true, if_false]; omega

theorem mul_small (s t : Bool) (m n : Nat) (hm : m < 2 ^ 53) (hn : n < 2 ^ 53) :
    numOf (double.mul (word s (rung m 0)) (word t (rung n 0))) = word (s ^^ t) (rung (m * n) 0) := by
  obtain ⟨k, _, ek⟩ := read_small s m hm
  obtain ⟨l, _, el⟩ := read_small t n hn
  unfold Ieee.Format.mul
  rw [ek, el]
  show numOf ((some (Ieee.Datum.number (s ^^ t) (m * 2 ^ k * (n * 2 ^ l)) (-(k : Int) + -(l : Int)))).map double.write) = _
  rw [Option.map_some, write_number, numOf_some]
  congr 1
  rw [Nat.mul_mul_mul_comm, ← Nat.pow_add, show -(k : Int) + -(l : Int) = 0 - ((k + l : Nat) : Int) by omega, rung_mul]

theorem sqrt_small (m : Nat) (hm : m * m < 2 ^ 53) : numOf (double.sqrt (word false (rung (m * m) 0))) = word false (rung m 0) := by
  obtain ⟨k, _, ek⟩ := read_small false (m * m) hm
  unfold Ieee.Format.sqrt
  rw [ek, show double.fractionBits + 2 = 54 by rfl, root_num_eq]
  by_cases z : m = 0
  · subst z
    simp only [Nat.zero_mul, if_true]
    rw [Option.map_some, write_number, rung_zero, rung_zero]; rfl
  · have hn0 : m * m * 2 ^ k ≠ 0 := Nat.mul_ne_zero (Nat.mul_ne_zero z z) (by have := Nat.two_pow_pos k; omega)
    rw [if_neg hn0, if_neg (by simp), Option.map_some]
    simp only [write_number, numOf_some]
    congr 1
    generalize hmo : 108 - (m * m * 2 ^ k).log2 + ((-(k : Int) - (108 - (m * m * 2 ^ k).log2 : Nat)) % 2).toNat = more
    obtain ⟨g, hg⟩ : ∃ g, k + more = 2 * g := ⟨(k + more) / 2, by omega⟩
    have en : m * m * 2 ^ k * 2 ^ more = m * 2 ^ g * (m * 2 ^ g) := by
      rw [Nat.mul_assoc, ← Nat.pow_add, hg, Nat.two_mul, Nat.pow_add, Nat.mul_mul_mul_comm]
    rw [en]
    have hp : 0 < m * 2 ^ g := Nat.mul_pos (by omega) (Nat.two_pow_pos g)
    generalize hX : m * 2 ^ g = X at *
    have hr := root_is (X * X) (Nat.mul_ne_zero (by omega) (by omega))
    have hx : IsRoot (X * X) X := ⟨Nat.le_refl _, by rw [Nat.add_mul, Nat.mul_add]; omega⟩
    rw [hr.uniq hx]
    unfold twor
    rw [show (X * X != X * X) = false by simp, show false.toNat = 0 by rfl, ← hX, Nat.add_zero]
    have e1 : (-(k : Int) - (more : Int)) / 2 - 1 = 0 - ((g + 1 : Nat) : Int) := by omega
    have e2 : 2 * (m * 2 ^ g) = m * 2 ^ (g + 1) := by rw [Nat.pow_succ, Nat.mul_comm (2 ^ g) 2, Nat.mul_left_comm]
    rw [e1, e2, rung_mul]

theorem less_small (s t : Bool) (m n : Nat) (hm : m < 2 ^ 53) (hn : n < 2 ^ 53) :
    lessN (word s (rung m 0)) (word t (rung n 0)) = decide (sv s m < sv t n) := by
  obtain ⟨k, _, _, _, _, _, hx, _⟩ := exact_parts s m 0 hm (by omega) (by omega)
  obtain ⟨l, _, _, _, _, _, hy, _⟩ := exact_parts t n 0 hn (by omega) (by omega)
  obtain ⟨k, _, ek⟩ := read_small s m hm
  obtain ⟨l, _, el⟩ := read_small t n hn
  rw [← less_eq _ _ hx hy]
  unfold Ieee.Format.order
  rw [ek, el]
  unfold Ieee.Datum.order
  simp only [signed_sv]
  have e1 : k + (-(k : Int) - min (-(k : Int)) (-(l : Int))).toNat = max k l := by omega
  have e2 : l + (-(l : Int) - min (-(k : Int)) (-(l : Int))).toNat = max k l := by omega
  rw [e1, e2]
  have hp := Nat.two_pow_pos (max k l)
  generalize sv s m = A at *
  generalize sv t n = B at *
  have hp2 : (0 : Int) < ((2 ^ max k l : Nat) : Int) := by omega
  generalize ((2 ^ max k l : Nat) : Int) = X at *
  have hc : compare (A * X) (B * X) = compare A B := by
    apply cmp_congr
    · intro h; exact Int.mul_lt_mul_of_pos_right h hp2
    · intro h; exact Int.mul_lt_mul_of_pos_right h hp2
    · intro h; rw [h]
  rw [hc]
  rcases Int.lt_trichotomy A B with h | h | h
  · rw [cmp_lt h]; simp [h]
  · rw [h, cmp_eq]; simp
  · rw [cmp_gt h]; have : ¬ A < B := by omega
    simp [this]

theorem rung_order_le (x y : Nat) (hx : x < 2 ^ 64) (hy : y < 2 ^ 64) (kx : exf x ≠ 2047) (ky : exf y ≠ 2047) (i j : Nat) (e : plc x - i = plc y - j) (h : x % 2 ^ 63 ≤ y % 2 ^ 63) :
    mag x * 2 ^ i ≤ mag y * 2 ^ j := by
  rcases Nat.lt_or_eq_of_le h with c | c
  · exact Nat.le_of_lt (rung_order x y hx hy kx ky i j e c)
  · obtain ⟨e1, e2⟩ := rung_parts x y hx hy c
    have : i = j := by omega
    rw [e1, this]; exact Nat.le_refl _

/-- between a whole number and less than the next the whole part is it -/
theorem whole_between (s : Bool) (q R : Nat) (hq : q < 2 ^ 25) (h1 : rung q 0 ≤ R) (h2 : R ≤ rung ((q + 1) * 2 ^ 25 - 1) (-25)) :
    whole (word s R) = sv s q := by
  obtain ⟨k, _, k1, k2, k3, k4, k5, k6⟩ := exact_parts s q 0 (by omega) (by omega) (by omega)
  obtain ⟨l, hl, l1, l2, l3, l4, l5, l6⟩ := exact_parts s ((q + 1) * 2 ^ 25 - 1) (-25) (by omega) (by omega) (by omega)
  have hR : R < 2 ^ 63 := by have := rung_le ((q + 1) * 2 ^ 25 - 1) (-25); omega
  have hb := word_lt s R hR
  have hbm := word_mod s R hR
  have hbs := word_sg s R hR
  generalize word s R = b at *
  generalize word s (rung q 0) = y at *
  generalize word s (rung ((q + 1) * 2 ^ 25 - 1) (-25)) = z at *
  have ez := rungOf z l5
  have eb := rungOf b hb
  have fz := fr_lt z
  have fb := fr_lt b
  have xz := exf_lt z
  have hxx : exf b ≤ exf z := by omega
  have kb : exf b ≠ 2047 := by omega
  have hp : plc b ≤ plc z := by unfold plc; split <;> split <;> omega
  have o1 := rung_order_le y b k5 hb k1 kb (-plc b).toNat k (by omega) (by omega)
  have o2 := rung_order_le b z hb l5 kb l1 (25 + l) (-plc b).toNat (by omega) (by omega)
  rw [k2] at o1
  rw [l2] at o2
  have w1 := toInt_whole b hb kb (by omega)
  rw [toInt_fin b hb kb] at w1
  have w2 := (Option.some.inj w1).symm
  rw [w2, hbs]
  have e3 : (plc b).toNat = 0 := by omega
  rw [e3, Nat.pow_zero, Nat.mul_one]
  generalize (-plc b).toNat = P at *
  have hd : mag b / 2 ^ P = q := by
    have p1 := Nat.two_pow_pos k
    have p2 := Nat.two_pow_pos l
    have p3 := Nat.two_pow_pos P
    have g1 : q * 2 ^ P ≤ mag b := by
      rw [Nat.mul_right_comm] at o1
      exact Nat.le_of_mul_le_mul_right o1 p1
    have g2 : mag b * 2 ^ 25 ≤ ((q + 1) * 2 ^ 25 - 1) * 2 ^ P := by
      rw [Nat.pow_add, ← Nat.mul_assoc, Nat.mul_right_comm _ (2 ^ l) (2 ^ P)] at o2
      exact Nat.le_of_mul_le_mul_right o2 p2
    have g3 : mag b < (q + 1) * 2 ^ P := by
      have g4 : ((q + 1) * 2 ^ 25 - 1) * 2 ^ P < (q + 1) * 2 ^ 25 * 2 ^ P := Nat.mul_lt_mul_of_pos_right (by omega) p3
      rw [Nat.mul_right_comm] at g4
      exact Nat.lt_of_mul_lt_mul_right (Nat.lt_of_le_of_lt g2 g4)
    rw [Nat.div_eq_iff p3]
    constructor
    · exact g1
    · have : (q + 1) * 2 ^ P = q * 2 ^ P + 2 ^ P := by rw [Nat.add_mul, Nat.one_mul]
      omega
  rw [hd]
  rfl

theorem whole_div (s t : Bool) (m n : Nat) (hm : m < 2 ^ 25) (hn : n < 2 ^ 25) (z : n ≠ 0) :
    whole (numOf (double.div (word s (rung m 0)) (word t (rung n 0)))) = sv (s ^^ t) (m / n) := by
  obtain ⟨k, hk, ek⟩ := read_small s m (by omega)
  obtain ⟨l, hl, el⟩ := read_small t n (by omega)
  unfold Ieee.Format.div
  have pl := Nat.two_pow_pos l
  have hn0 : n * 2 ^ l ≠ 0 := Nat.mul_ne_zero z (by omega)
  rw [ek, el, show double.fractionBits + 2 = 54 by rfl, quotient_fin, if_neg hn0, Option.map_some, write_number, numOf_some]
  by_cases y : m = 0
  · subst y
    simp only [Nat.zero_mul, Nat.zero_div, Nat.zero_mod]
    rw [show 2 * 0 + ((0 : Nat) != 0).toNat = 0 by rfl, rung_zero, word_zero]
    unfold sv; split <;> rfl
  obtain ⟨hk, lk⟩ := hk y
  obtain ⟨hl, ll⟩ := hl z
  rw [log2_mul_pow _ _ z, log2_mul_pow _ _ y]
  have l2 : m.log2 < 25 := (Nat.log2_lt y).2 hm
  have e1 : 54 + (n.log2 + l) - (m.log2 + k) = 54 := by omega
  rw [e1]
  have hc : m * 2 ^ k * 2 ^ 54 = m * 2 ^ (k + 54) := by rw [Nat.mul_assoc, ← Nat.pow_add]
  rw [hc]
  obtain ⟨c, hcd⟩ : ∃ c, k + 54 = l + (c + 25) := ⟨k + 54 - l - 25, by omega⟩
  have ep : -(k : Int) - -(l : Int) - ((54 : Nat) : Int) - 1 = 0 - ((c + 25 + 1 : Nat) : Int) := by omega
  rw [ep]
  have ep2 : (0 : Int) - ((c + 25 + 1 : Nat) : Int) = -25 - ((c + 1 : Nat) : Int) := by omega
  apply whole_between
  · exact Nat.lt_of_le_of_lt (Nat.div_le_self m n) hm
  · rw [← rung_mul (m / n) 0 (c + 25 + 1)]
    apply rung_mono
    have : m / n * 2 ^ (c + 25) ≤ m * 2 ^ (k + 54) / (n * 2 ^ l) := by
      rw [Nat.le_div_iff_mul_le (by omega), Nat.mul_mul_mul_comm, ← Nat.pow_add, hcd, Nat.add_comm l]
      exact Nat.mul_le_mul_right _ (Nat.div_mul_le_self m n)
    rw [Nat.pow_succ, ← Nat.mul_assoc]
    omega
  · rw [ep2, ← rung_mul ((m / n + 1) * 2 ^ 25 - 1) (-25) (c + 1)]
    apply rung_mono
    rw [show 2 ^ (c + 1) = 2 ^ c * 2 from Nat.pow_succ .., ← Nat.mul_assoc]
    generalize hU : ((m / n + 1) * 2 ^ 25 - 1) * 2 ^ c = U
    have key : m * 2 ^ (k + 54) ≤ U * (n * 2 ^ l) := by
      rw [← hU, Nat.mul_mul_mul_comm, ← Nat.pow_add, hcd, show l + (c + 25) = 25 + (c + l) by omega, Nat.pow_add 2 25, ← Nat.mul_assoc]
      apply Nat.mul_le_mul_right
      have hdm := Nat.div_add_mod m n
      have hr := Nat.mod_lt m (show n > 0 by omega)
      have : ((m / n + 1) * 2 ^ 25 - 1) * n = (m / n + 1) * 2 ^ 25 * n - n := by rw [Nat.sub_mul, Nat.one_mul]
      have e5 : (m / n + 1) * 2 ^ 25 * n = (n * (m / n) + n) * 2 ^ 25 := by
        rw [Nat.mul_right_comm, Nat.add_mul, Nat.one_mul, Nat.mul_comm (m / n) n]
      rw [this, e5]
      omega
    have hD : 0 < n * 2 ^ l := by omega
    generalize n * 2 ^ l = D at *
    generalize m * 2 ^ (k + 54) = N at *
    have hdm := Nat.div_add_mod N D
    rcases Nat.lt_or_ge (N / D) U with g | g
    · have hb : (N % D != 0).toNat ≤ 1 := by cases (N % D != 0) <;> decide
      omega
    · have h3 : D * U ≤ D * (N / D) := Nat.mul_le_mul_left D g
      rw [Nat.mul_comm U D] at key
      have h4 : N % D = 0 := by omega
      have h5 : N / D = U := Nat.eq_of_mul_eq_mul_left hD (by omega)
      rw [h4, h5, show ((0 : Nat) != 0).toNat = 0 by rfl]
      omega

/-- the nearest word of a whole number -/
def iw (n : Int) : Nat := word (decide (n < 0)) (rung n.natAbs 0)
theorem sv_abs (n : Int) : sv (decide (n < 0)) n.natAbs = n := by
  unfold sv
  by_cases c : n < 0
  · simp only [c, decide_true, if_true]; omega
  · simp only [c, decide_false, Bool.false_eq_true, if_false]; omega
theorem sv_mul (s t : Bool) (m n : Nat) : sv (s ^^ t) (m * n) = sv s m * sv t n := by
  unfold sv
  cases s <;> cases t <;> simp [Int.neg_mul, Int.mul_neg]
theorem sv_div (s t : Bool) (m n : Nat) : sv (s ^^ t) (m / n) = (sv s m).tdiv (sv t n) := by
  unfold sv
  cases s <;> cases t <;> simp

theorem iw_add {a b : Int} (ha : a.natAbs < 2 ^ 25) (hb : b.natAbs < 2 ^ 25) : whole (numOf (double.add (iw a) (iw b))) = a + b := by
  unfold iw; rw [whole_add _ _ _ _ (by omega) (by omega), sv_abs, sv_abs]
theorem abs_sq_lt {m n : Nat} (ha : m < 2 ^ 25) (hb : n < 2 ^ 25) : m * n < 2 ^ 53 :=
  calc m * n ≤ 2 ^ 25 * 2 ^ 25 := Nat.mul_le_mul (by omega) (by omega)
    _ < 2 ^ 53 := by decide
theorem iw_mul {a b : Int} (ha : a.natAbs < 2 ^ 25) (hb : b.natAbs < 2 ^ 25) : whole (numOf (double.mul (iw a) (iw b))) = a * b := by
  unfold iw; rw [mul_small _ _ _ _ (by omega) (by omega), whole_sv _ _ (abs_sq_lt ha hb), sv_mul, sv_abs, sv_abs]
theorem iw_sqrt {a : Int} (ha : a.natAbs < 2 ^ 25) : whole (numOf (double.sqrt (numOf (double.mul (iw a) (iw a))))) = max a (-a) := by
  unfold iw; rw [mul_small _ _ _ _ (by omega) (by omega), Bool.xor_self, sqrt_small _ (abs_sq_lt ha ha), whole_sv _ _ (by omega)]
  unfold sv; simp only [Bool.false_eq_true, if_false]; omega
theorem iw_less {a b : Int} (ha : a.natAbs < 2 ^ 25) (hb : b.natAbs < 2 ^ 25) : lessN (iw a) (iw b) = decide (a < b) := by
  unfold iw; rw [less_small _ _ _ _ (by omega) (by omega), sv_abs, sv_abs]
theorem iw_div {a b : Int} (ha : a.natAbs < 2 ^ 25) (hb : b.natAbs < 2 ^ 25) (z : b ≠ 0) : whole (numOf (double.div (iw a) (iw b))) = a.tdiv b := by
  unfold iw; rw [whole_div _ _ _ _ ha hb (by omega), sv_div, sv_abs, sv_abs]
end Go.Proofs.Ytelgmffmekfndaa.Fl
