/- Bytes and bits in plain numbers: what is put together of bytes, and taken apart. Plain law. Conditions: as each theorem names them. -/
import Derived.Test.YtelgmffmekfndaaCoreOnesG
import Derived.Laws.Bits64b
set_option linter.unusedVariables false
namespace Go.Proofs.Ytelgmffmekfndaa
open Go.ChangeShapes Go.WideShapes Go.ChangeAt Go.RowKit

theorem and_low (x : Int) (h0 : 0 ≤ x) (h1 : x < 18446744073709551616) (k : Nat) (hk : k ≤ 64) : bits .and .u64 x ((2 ^ k - 1 : Nat) : Int) = x % ((2 ^ k : Nat) : Int) := by
  rw [mask_u64 x h0 h1 k hk]
  obtain ⟨n, rfl⟩ := Int.eq_ofNat_of_zero_le h0
  rw [Int.toNat_natCast]
  omega
theorem nat_or_sum (a b k : Nat) (h : b < 2 ^ k) : a * 2 ^ k ||| b = a * 2 ^ k + b := by
  have := Nat.shiftLeft_add_eq_or_of_lt h a
  rw [Nat.shiftLeft_eq] at this
  exact this.symm
theorem or_sum (a b : Int) (k : Nat) (a0 : 0 ≤ a) (b0 : 0 ≤ b) (h : b < ((2 ^ k : Nat) : Int)) (hs : a * ((2 ^ k : Nat) : Int) + b < 18446744073709551616) : bits .or .u64 (a * ((2 ^ k : Nat) : Int)) b = a * ((2 ^ k : Nat) : Int) + b := by
  obtain ⟨m, rfl⟩ := Int.eq_ofNat_of_zero_le a0
  obtain ⟨n, rfl⟩ := Int.eq_ofNat_of_zero_le b0
  have e : ((m : Int) * ((2 ^ k : Nat) : Int)) = ((m * 2 ^ k : Nat) : Int) := by rw [Int.natCast_mul]
  rw [e] at hs ⊢
  rw [bits_or_u64_nat _ _ (by omega) (by omega), nat_or_sum _ _ _ (by omega)]
  omega
theorem or_sum' (a b : Int) (k : Nat) (a0 : 0 ≤ a) (b0 : 0 ≤ b) (h : b < ((2 ^ k : Nat) : Int)) (hs : a * ((2 ^ k : Nat) : Int) + b < 18446744073709551616) : bits .or .u64 b (a * ((2 ^ k : Nat) : Int)) = a * ((2 ^ k : Nat) : Int) + b := by
  obtain ⟨m, rfl⟩ := Int.eq_ofNat_of_zero_le a0
  obtain ⟨n, rfl⟩ := Int.eq_ofNat_of_zero_le b0
  have e : ((m : Int) * ((2 ^ k : Nat) : Int)) = ((m * 2 ^ k : Nat) : Int) := by rw [Int.natCast_mul]
  rw [e] at hs ⊢
  rw [bits_or_u64_nat _ _ (by omega) (by omega), Nat.or_comm, nat_or_sum _ _ _ (by omega)]
  omega
theorem bits_or_u32_nat (a b : Nat) (ha : a < 4294967296) (hb : b < 4294967296) :
    bits .or .u32 (a : Int) (b : Int) = ((a ||| b : Nat) : Int) := by
  have hx : a ||| b < 2 ^ 32 := Nat.or_lt_two_pow (by omega) (by omega)
  have h1 : (BitVec.ofInt 32 (a : Int)).toNat = a := by
    rw [BitVec.ofInt_natCast, BitVec.toNat_ofNat]; exact Nat.mod_eq_of_lt (by omega)
  have h2 : (BitVec.ofInt 32 (b : Int)).toNat = b := by
    rw [BitVec.ofInt_natCast, BitVec.toNat_ofNat]; exact Nat.mod_eq_of_lt (by omega)
  show IntKind.u32.wrap ((BitVec.ofInt 32 (a : Int) ||| BitVec.ofInt 32 (b : Int)).toNat : Int) = _
  rw [BitVec.toNat_or, h1, h2, IntKind.wrap_u32]
  omega
theorem or_sum32 (a b : Int) (k : Nat) (a0 : 0 ≤ a) (b0 : 0 ≤ b) (h : b < ((2 ^ k : Nat) : Int)) (hs : a * ((2 ^ k : Nat) : Int) + b < 4294967296) : bits .or .u32 (a * ((2 ^ k : Nat) : Int)) b = a * ((2 ^ k : Nat) : Int) + b := by
  obtain ⟨m, rfl⟩ := Int.eq_ofNat_of_zero_le a0
  obtain ⟨n, rfl⟩ := Int.eq_ofNat_of_zero_le b0
  have e : ((m : Int) * ((2 ^ k : Nat) : Int)) = ((m * 2 ^ k : Nat) : Int) := by rw [Int.natCast_mul]
  rw [e] at hs ⊢
  rw [bits_or_u32_nat _ _ (by omega) (by omega), nat_or_sum _ _ _ (by omega)]
  omega

/-- four bytes' number -/
theorem immOf_sum (a b c d : Int) (ha : 0 ≤ a ∧ a ≤ 255) (hb : 0 ≤ b ∧ b ≤ 255) (hc : 0 ≤ c ∧ c ≤ 255) (hd : 0 ≤ d ∧ d ≤ 255) : immOf a b c d = wrap32 (a * 16777216 + b * 65536 + c * 256 + d) := by
  unfold immOf
  have e1 : bits .or .u32 (a * 16777216) (b * 65536) = a * 16777216 + b * 65536 := or_sum32 a (b * 65536) 24 ha.1 (by omega) (by omega) (by omega)
  have e2 : bits .or .u32 (a * 16777216 + b * 65536) (c * 256) = a * 16777216 + b * 65536 + c * 256 := by
    have := or_sum32 (a * 256 + b) (c * 256) 16 (by omega) (by omega) (by omega) (by omega)
    rw [show (a * 256 + b) * ((2 ^ 16 : Nat) : Int) = a * 16777216 + b * 65536 by omega] at this
    exact this
  have e3 : bits .or .u32 (a * 16777216 + b * 65536 + c * 256) d = a * 16777216 + b * 65536 + c * 256 + d := by
    have := or_sum32 (a * 65536 + b * 256 + c) d 8 (by omega) (by omega) (by omega) (by omega)
    rw [show (a * 65536 + b * 256 + c) * ((2 ^ 8 : Nat) : Int) = a * 16777216 + b * 65536 + c * 256 by omega] at this
    exact this
  rw [e1, e2, e3]
theorem immOf_low (x : Int) (x0 : 0 ≤ x) (x1 : x < 18446744073709551616) : immOf (stb x 8 4) (stb x 8 5) (stb x 8 6) (stb x 8 7) = wrap32 (IntKind.u32.wrap x) := by
  rw [immOf_sum _ _ _ _ (stb_bd _ _ _) (stb_bd _ _ _) (stb_bd _ _ _) (stb_bd _ _ _)]
  congr 1
  unfold stb
  rw [IntKind.wrap_u32]
  simp only [Nat.reduceSub, Nat.reduceMul]
  omega

theorem hi_same (a imm : Int) (a0 : 0 ≤ a) (a1 : a < 18446744073709551616) : hiOf a imm = IntKind.u64.wrap (a % 4294967296 + IntKind.u32.wrap imm * 4294967296) := by
  unfold hiOf
  have hub : 0 ≤ IntKind.u32.wrap imm ∧ IntKind.u32.wrap imm < 4294967296 := by rw [IntKind.wrap_u32]; omega
  generalize IntKind.u32.wrap imm = u at *
  have e1 : bits .and .u64 a 4294967295 = a % 4294967296 := and_low a a0 a1 32 (by omega)
  have e2 := or_sum' u (a % 4294967296) 32 hub.1 (by omega) (by omega) (by omega)
  rw [e1, IntKind.wrap_u64]
  have e3 : bits .or .u64 (a % 4294967296) (u * 4294967296) = u * 4294967296 + a % 4294967296 := e2
  rw [e3]
  omega

theorem pow256_le (k m : Nat) (h : k ≤ m) : (256 : Int) ^ k ≤ 256 ^ m := by
  have h1 : (256 : Nat) ^ k ≤ 256 ^ m := Nat.pow_le_pow_right (by omega) h
  have h2 := Int.ofNat_le.2 h1
  rw [Int.natCast_pow, Int.natCast_pow] at h2
  exact h2

/-- the same number, reckoned without bounds -/
def lds (f : Nat → Int) : Nat → Int
  | 0 => 0
  | k + 1 => lds f k * 256 + f k
theorem lds_bd (f : Nat → Int) (h : ∀ i, 0 ≤ f i ∧ f i ≤ 255) : ∀ k, 0 ≤ lds f k ∧ lds f k < 256 ^ k
  | 0 => ⟨Int.le_refl _, by show (0 : Int) < 256 ^ 0; rw [Int.pow_zero]; decide⟩
  | k + 1 => by
    have ih := lds_bd f h k
    have hk := h k
    rw [Int.pow_succ]
    show 0 ≤ lds f k * 256 + f k ∧ lds f k * 256 + f k < _
    generalize (256 : Int) ^ k = p at *
    omega
theorem ldv_lds (f : Nat → Int) (h : ∀ i, 0 ≤ f i ∧ f i ≤ 255) : ∀ k, k ≤ 8 → ldv f k = lds f k
  | 0, _ => rfl
  | k + 1, hk => by
    have ih := ldv_lds f h k (by omega)
    have hb := lds_bd f h k
    have hk1 := h k
    show bits .or .u64 (IntKind.u64.wrap (ldv f k * 256)) (f k) = lds f k * 256 + f k
    rw [ih]
    have hp : (256 : Int) ^ k ≤ 256 ^ 7 := pow256_le k 7 (by omega)
    have hp7 : (256 : Int) ^ 7 = 72057594037927936 := by decide
    have e : IntKind.u64.wrap (lds f k * 256) = lds f k * 256 := by rw [IntKind.wrap_u64]; omega
    rw [e]
    exact or_sum (lds f k) (f k) 8 hb.1 hk1.1 (by omega) (by omega)
theorem ldv_bd (f : Nat → Int) (h : ∀ i, 0 ≤ f i ∧ f i ≤ 255) (k : Nat) (hk : k ≤ 8) : 0 ≤ ldv f k ∧ ldv f k < 18446744073709551616 := by
  rw [ldv_lds f h k hk]
  have hb := lds_bd f h k
  have hp : (256 : Int) ^ k ≤ 256 ^ 8 := pow256_le k 8 (by omega)
  have hp8 : (256 : Int) ^ 8 = 18446744073709551616 := by decide
  omega
theorem pow_256 (n : Nat) : (2 : Int) ^ (8 * n) = 256 ^ n := by
  rw [Int.pow_mul]; rfl
/-- a byte of what was put together -/
theorem stb_lds (f : Nat → Int) (h : ∀ i, 0 ≤ f i ∧ f i ≤ 255) : ∀ k i, i < k → stb (lds f k) k i = f i
  | 0, _, hi => absurd hi (Nat.not_lt_zero _)
  | k + 1, i, hi => by
    have hk := h k
    unfold stb
    rw [pow_256]
    by_cases e : i = k
    · subst e
      rw [show i + 1 - 1 - i = 0 by omega]
      show (lds f i * 256 + f i) / 256 ^ 0 % 256 = f i
      rw [Int.pow_zero]
      omega
    · have ih := stb_lds f h k i (by omega)
      unfold stb at ih
      rw [pow_256] at ih
      rw [show k + 1 - 1 - i = (k - 1 - i) + 1 by omega, Int.pow_succ, Int.mul_comm]
      show (lds f k * 256 + f k) / (256 * 256 ^ (k - 1 - i)) % 256 = f i
      rw [← Int.ediv_ediv_of_nonneg (by decide), show (lds f k * 256 + f k) / 256 = lds f k by omega]
      exact ih
/-- bytes of a number, put together again -/
theorem lds_stb (x : Int) (x0 : 0 ≤ x) (w : Nat) : ∀ k, k ≤ w → lds (stb x w) k = x / 256 ^ (w - k) % 256 ^ k
  | 0, _ => by show (0 : Int) = _; rw [Int.pow_zero]; omega
  | k + 1, hk => by
    have ih := lds_stb x x0 w k (by omega)
    show lds (stb x w) k * 256 + stb x w k = _
    rw [ih]
    unfold stb
    rw [pow_256, show w - 1 - k = w - (k + 1) by omega, show w - k = (w - (k + 1)) + 1 by omega, Int.pow_succ, ← Int.ediv_ediv_of_nonneg (by have : (0 : Int) < 256 ^ (w - (k + 1)) := Int.pow_pos (by decide); omega)]
    generalize x / 256 ^ (w - (k + 1)) = y
    have hp : (0 : Int) < 256 ^ k := Int.pow_pos (by decide)
    rw [Int.pow_succ, Int.mul_comm (256 ^ k) 256]
    have e := Int.emod_emod_of_dvd
    have h1 := Int.mul_ediv_add_emod y (256 * 256 ^ k)
    have h2 := Int.mul_ediv_add_emod (y / 256) (256 ^ k)
    have h3 : y / 256 / 256 ^ k = y / (256 * 256 ^ k) := Int.ediv_ediv_of_nonneg (by decide)
    rw [h3] at h2
    have h4 := Int.mul_ediv_add_emod y 256
    have h5 : 256 * 256 ^ k * (y / (256 * 256 ^ k)) = 256 * (256 ^ k * (y / (256 * 256 ^ k))) := by rw [Int.mul_assoc]
    omega
/-- a number's lowest bytes -/
theorem low8 (x : Int) (x0 : 0 ≤ x) (x1 : x < 18446744073709551616) : bits .and .u64 x 18446744073709551615 = x := by
  have := and_low x x0 x1 64 (by omega)
  rw [show (((2 ^ 64 - 1 : Nat) : Int)) = 18446744073709551615 by decide] at this
  rw [this]; omega
theorem low4 (x : Int) (x0 : 0 ≤ x) (x1 : x < 18446744073709551616) : bits .and .u64 x 4294967295 = x % 4294967296 := and_low x x0 x1 32 (by omega)
theorem low1 (x : Int) (x0 : 0 ≤ x) (x1 : x < 18446744073709551616) : bits .and .u64 x 255 = x % 256 := and_low x x0 x1 8 (by omega)
end Go.Proofs.Ytelgmffmekfndaa
