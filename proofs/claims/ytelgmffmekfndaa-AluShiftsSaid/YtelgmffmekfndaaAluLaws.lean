/- The laws of quotients, bits and order that alu's operations keep. Plain laws, no program. Conditions: the words fit 64 bits. -/
import Derived.Test.YtelgmffmekfndaaAluLaw
set_option linter.unusedVariables false
namespace Go.Proofs.Ytelgmffmekfndaa.Alu
open Go Go.RowKit

theorem and_or_add (n : Nat) : ∀ x y : Nat, x < 2 ^ n → (x &&& y) + (x ||| y) = x + y := by
  induction n with
  | zero => intro x y h; have : x = 0 := by simpa using h
            subst this; simp
  | succ n ih =>
    intro x y h
    have hx : x / 2 < 2 ^ n := by rw [Nat.pow_succ] at h; omega
    have i := ih (x / 2) (y / 2) hx
    have a1 : (x &&& y) / 2 = x / 2 &&& y / 2 := Nat.and_div_two
    have o1 : (x ||| y) / 2 = x / 2 ||| y / 2 := Nat.or_div_two
    have a2 : (x &&& y) % 2 = 1 ↔ x % 2 = 1 ∧ y % 2 = 1 := by rw [Nat.and_mod_two_eq_one]
    have o2 : (x ||| y) % 2 = 1 ↔ x % 2 = 1 ∨ y % 2 = 1 := by rw [Nat.or_mod_two_eq_one]
    omega

theorem xor_and_xor (x y : Nat) : (x &&& y) ^^^ (x ^^^ y) = x ||| y := by
  apply Nat.eq_of_testBit_eq
  intro i
  rw [Nat.testBit_xor, Nat.testBit_and, Nat.testBit_xor, Nat.testBit_or]
  cases x.testBit i <;> cases y.testBit i <;> rfl
theorem and_and_xor (x y : Nat) : (x &&& y) &&& (x ^^^ y) = 0 := by
  apply Nat.eq_of_testBit_eq
  intro i
  rw [Nat.testBit_and, Nat.testBit_and, Nat.testBit_xor, Nat.zero_testBit]
  cases x.testBit i <;> cases y.testBit i <;> rfl

/-- what the law of bits asks -/
structure Bits (a b A O X : Int) : Prop where
  a0 : 0 ≤ A ∧ A < 18446744073709551616
  o0 : 0 ≤ O ∧ O < 18446744073709551616
  x0 : 0 ≤ X ∧ X < 18446744073709551616
  e1 : bits .and .u64 a b = A
  e2 : bits .or .u64 a b = O
  e3 : bits .xor .u64 a b = X
  e4 : bits .xor .u64 A X = O
  e5 : bits .and .u64 A X = 0
  e6 : bits .xor .u64 X b = a
  e7 : IntKind.u64.wrap (A + O) = IntKind.u64.wrap (a + b)

theorem bits_law (a b : Int) (a0 : 0 ≤ a) (a1 : a < 18446744073709551616) (b0 : 0 ≤ b) (b1 : b < 18446744073709551616) : ∃ A O X, Bits a b A O X := by
  have la : a.toNat < 2 ^ 64 := by omega
  have lb : b.toNat < 2 ^ 64 := by omega
  have nA : a.toNat &&& b.toNat < 2 ^ 64 := Nat.and_lt_two_pow _ lb
  have nO : a.toNat ||| b.toNat < 2 ^ 64 := Nat.or_lt_two_pow la lb
  have nX : a.toNat ^^^ b.toNat < 2 ^ 64 := Nat.xor_lt_two_pow la lb
  refine ⟨((a.toNat &&& b.toNat : Nat) : Int), ((a.toNat ||| b.toNat : Nat) : Int), ((a.toNat ^^^ b.toNat : Nat) : Int), ⟨by omega, by omega⟩, ⟨by omega, by omega⟩, ⟨by omega, by omega⟩, u64_and a b a0 a1 b0 b1, u64_or a b a0 a1 b0 b1, u64_xor a b a0 a1 b0 b1, ?_, ?_, ?_, ?_⟩
  · rw [u64_xor_nat _ _ (by omega) (by omega), xor_and_xor]
  · rw [u64_and_nat _ _ (by omega) (by omega), and_and_xor]; rfl
  · rw [u64_xor _ b (by omega) (by omega) b0 b1, Int.toNat_natCast, Nat.xor_assoc, Nat.xor_self, Nat.xor_zero]; omega
  · have := and_or_add 64 a.toNat b.toNat la
    congr 1
    omega

theorem sub_back (a b : Int) (a0 : 0 ≤ a) (a1 : a < 18446744073709551616) : IntKind.u64.wrap (IntKind.u64.wrap (a + b) - b) = a := by
  rw [IntKind.wrap_u64, IntKind.wrap_u64]; omega
theorem thrice (a : Int) : IntKind.u64.wrap (a + IntKind.u64.wrap (a + a)) = IntKind.u64.wrap (a * 3) := by
  rw [IntKind.wrap_u64, IntKind.wrap_u64, IntKind.wrap_u64]; omega

/-- how great, with a sign -/
def size (x : Int) : Int := if x < 9223372036854775808 then x else 18446744073709551616 - x

theorem size_wrap (t : Int) (t0 : -9223372036854775808 < t) (t1 : t < 9223372036854775808) : size (IntKind.u64.wrap t) = t.natAbs := by
  rw [IntKind.wrap_u64]; unfold size; split <;> omega

theorem quo_back {a b : Int} (a0 : 0 ≤ a) (a1 : a < 18446744073709551616) (b0 : 0 ≤ b) (b1 : b < 18446744073709551616) :
    IntKind.u64.wrap (IntKind.u64.wrap (IntKind.u64.wrap ((wrap64 a).tdiv (wrap64 b)) * b) + IntKind.u64.wrap ((wrap64 a).tmod (wrap64 b))) = a := by
  have h := Int.tdiv_mul_add_tmod (wrap64 a) (wrap64 b)
  have ha : wrap64 a % 18446744073709551616 = a := by unfold wrap64; omega
  have hb : wrap64 b % 18446744073709551616 = b := by unfold wrap64; omega
  generalize (wrap64 a).tdiv (wrap64 b) = q at *
  generalize (wrap64 a).tmod (wrap64 b) = r at *
  simp only [IntKind.wrap_u64]
  have hm : q % 18446744073709551616 * b % 18446744073709551616 = q * wrap64 b % 18446744073709551616 := by
    rw [Int.mul_emod q (wrap64 b), hb, Int.mul_emod (q % 18446744073709551616) b, Int.emod_emod, Int.emod_eq_of_lt b0 b1]
  rw [hm]
  generalize q * wrap64 b = p at *
  omega

theorem rem_less {a b : Int} (a0 : 0 ≤ a) (a1 : a < 18446744073709551616) (b0 : 0 < b) (b1 : b < 18446744073709551616) :
    size (IntKind.u64.wrap ((wrap64 a).tmod (wrap64 b))) < size b ∧ (IntKind.u64.wrap ((wrap64 a).tmod (wrap64 b)) = 0 ∨ IntKind.u64.wrap ((wrap64 a).tmod (wrap64 b)) / 9223372036854775808 = a / 9223372036854775808) := by
  have hb : (wrap64 b).natAbs = size b ∧ wrap64 b ≠ 0 := by unfold wrap64 size; split <;> omega
  have hA : -9223372036854775808 ≤ wrap64 a ∧ wrap64 a < 9223372036854775808 ∧ (0 ≤ wrap64 a ↔ a < 9223372036854775808) := by unfold wrap64; omega
  have h1 : ((wrap64 a).tmod (wrap64 b)).natAbs < (wrap64 b).natAbs := by
    rw [Int.natAbs_tmod]
    exact Nat.mod_lt _ (by omega)
  have h2 : (wrap64 b).natAbs ≤ 9223372036854775808 := by unfold wrap64; omega
  have h3 : 0 ≤ wrap64 a → 0 ≤ (wrap64 a).tmod (wrap64 b) := fun h => Int.tmod_nonneg _ h
  have h4 : wrap64 a < 0 → (wrap64 a).tmod (wrap64 b) ≤ 0 := by
    intro h
    have := Int.tmod_nonneg (wrap64 b) (show 0 ≤ -wrap64 a by omega)
    rw [Int.neg_tmod] at this
    omega
  generalize (wrap64 a).tmod (wrap64 b) = r at *
  rw [size_wrap r (by omega) (by omega), ← hb.1]
  refine ⟨by omega, ?_⟩
  rw [IntKind.wrap_u64]
  omega
theorem sar_step (a : Int) (a0 : 0 ≤ a) (a1 : a < 18446744073709551616) (k : Nat) : wrap64 (IntKind.u64.wrap (wrap64 a / 2 ^ k)) = wrap64 a / 2 ^ k := by
  have hp : (0 : Int) < 2 ^ k := Int.pow_pos (by omega)
  have hA : -9223372036854775808 ≤ wrap64 a ∧ wrap64 a < 9223372036854775808 := by unfold wrap64; omega
  have h1 : wrap64 a / 2 ^ k < 9223372036854775808 := by
    rw [Int.ediv_lt_iff_lt_mul hp]
    have : (9223372036854775808 : Int) * 1 ≤ 9223372036854775808 * 2 ^ k := Int.mul_le_mul_of_nonneg_left (by omega) (by omega)
    omega
  have h2 : -9223372036854775808 ≤ wrap64 a / 2 ^ k := by
    rw [Int.le_ediv_iff_mul_le hp]
    have : (-9223372036854775808 : Int) * 2 ^ k ≤ -9223372036854775808 * 1 := Int.mul_le_mul_of_nonpos_left (by omega) (by omega)
    omega
  generalize wrap64 a / 2 ^ k = q at *
  rw [IntKind.wrap_u64]
  unfold wrap64
  omega

theorem pow_one_int : (2 : Int) ^ ((1 : Int) % 64).toNat = 2 := by decide

/-- the three shifts, place by place -/
structure Shifts (a : Int) (X Y Z : Nat → Int) : Prop where
  x0 : X 0 = a
  y0 : Y 0 = a
  z0 : Z 0 = a
  xb : ∀ k, 0 ≤ X k ∧ X k < 18446744073709551616
  yb : ∀ k, 0 ≤ Y k ∧ Y k < 18446744073709551616
  zb : ∀ k, 0 ≤ Z k ∧ Z k < 18446744073709551616
  x1 : ∀ k, IntKind.u64.wrap (X k * 2 ^ ((1 : Int) % 64).toNat) = X (k + 1)
  y1 : ∀ k, Y k / 2 ^ ((1 : Int) % 64).toNat = Y (k + 1)
  z1 : ∀ k, IntKind.u64.wrap (wrap64 (Z k) / 2 ^ ((1 : Int) % 64).toNat) = Z (k + 1)

theorem shifts (a : Int) (a0 : 0 ≤ a) (a1 : a < 18446744073709551616) : Shifts a (fun k => IntKind.u64.wrap (a * 2 ^ k)) (fun k => a / 2 ^ k) (fun k => IntKind.u64.wrap (wrap64 a / 2 ^ k)) where
  x0 := by show IntKind.u64.wrap (a * 2 ^ 0) = a; rw [Int.pow_zero, Int.mul_one]; exact u64_id a0 a1
  y0 := by show a / 2 ^ 0 = a; rw [Int.pow_zero, Int.ediv_one]
  z0 := by show IntKind.u64.wrap (wrap64 a / 2 ^ 0) = a; rw [Int.pow_zero, Int.ediv_one, IntKind.wrap_u64]; unfold wrap64; omega
  xb k := by show 0 ≤ IntKind.u64.wrap (a * 2 ^ k) ∧ IntKind.u64.wrap (a * 2 ^ k) < _; rw [IntKind.wrap_u64]; omega
  yb k := ⟨Int.ediv_nonneg a0 (Int.le_of_lt (Int.pow_pos (by omega))), Int.lt_of_le_of_lt (Int.ediv_le_self _ a0) a1⟩
  zb k := by show 0 ≤ IntKind.u64.wrap (wrap64 a / 2 ^ k) ∧ IntKind.u64.wrap (wrap64 a / 2 ^ k) < _; rw [IntKind.wrap_u64]; omega
  x1 k := by
    show IntKind.u64.wrap (IntKind.u64.wrap (a * 2 ^ k) * 2 ^ ((1 : Int) % 64).toNat) = IntKind.u64.wrap (a * 2 ^ (k + 1))
    rw [pow_one_int, Int.pow_succ, ← Int.mul_assoc]
    generalize a * 2 ^ k = q
    simp only [IntKind.wrap_u64]
    omega
  y1 k := by
    show a / 2 ^ k / 2 ^ ((1 : Int) % 64).toNat = a / 2 ^ (k + 1)
    rw [pow_one_int, Int.pow_succ, Int.ediv_ediv_of_nonneg (Int.le_of_lt (Int.pow_pos (by omega)))]
  z1 k := by
    show IntKind.u64.wrap (wrap64 (IntKind.u64.wrap (wrap64 a / 2 ^ k)) / 2 ^ ((1 : Int) % 64).toNat) = IntKind.u64.wrap (wrap64 a / 2 ^ (k + 1))
    rw [sar_step a a0 a1 k, pow_one_int, Int.pow_succ, Int.ediv_ediv_of_nonneg (Int.le_of_lt (Int.pow_pos (by omega)))]

theorem mask_div (n : Nat) (h : n ≤ 64) : (18446744073709551615 : Int) / 2 ^ n = ((2 ^ (64 - n) - 1 : Nat) : Int) := by
  have e : (2 : Nat) ^ 64 = 2 ^ (64 - n) * 2 ^ n := by rw [← Nat.pow_add]; congr 1; omega
  have p := Nat.two_pow_pos n
  have p2 := Nat.two_pow_pos (64 - n)
  have h1 : (2 ^ 64 - 1) / 2 ^ n = 2 ^ (64 - n) - 1 := by
    rw [Nat.div_eq_iff p, e, Nat.sub_mul, Nat.one_mul]
    omega
  have : ((2 ^ 64 - 1 : Nat) : Int) / ((2 ^ n : Nat) : Int) = (((2 ^ 64 - 1) / 2 ^ n : Nat) : Int) := by rw [Int.natCast_ediv]
  rw [h1] at this
  rw [← this, Int.natCast_pow]
  rfl

theorem back_forth (a : Int) (a0 : 0 ≤ a) (a1 : a < 18446744073709551616) (n : Nat) (h : n ≤ 64) : IntKind.u64.wrap (a * 2 ^ n) / 2 ^ n = bits .and .u64 a (18446744073709551615 / 2 ^ n) := by
  rw [mask_div n h, mask_u64 a a0 a1 (64 - n) (by omega), IntKind.wrap_u64]
  have e : (18446744073709551616 : Int) = ((2 ^ (64 - n) : Nat) : Int) * 2 ^ n := by
    have e0 : (2 : Nat) ^ 64 = 2 ^ (64 - n) * 2 ^ n := by rw [← Nat.pow_add]; congr 1; omega
    have e1 : ((2 ^ 64 : Nat) : Int) = ((2 ^ (64 - n) * 2 ^ n : Nat) : Int) := by rw [e0]
    rw [Int.natCast_mul, Int.natCast_pow 2 n] at e1
    exact e1
  have p : (0 : Int) < 2 ^ n := Int.pow_pos (by omega)
  rw [e, Int.mul_comm a, Int.mul_comm _ (2 ^ n), Int.mul_emod_mul_of_pos _ _ p, Int.mul_ediv_cancel_left _ (by omega), Int.natCast_emod, Int.toNat_of_nonneg a0]
end Go.Proofs.Ytelgmffmekfndaa.Alu
