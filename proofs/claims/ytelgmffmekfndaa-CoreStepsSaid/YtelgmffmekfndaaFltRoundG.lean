/- The contracts of the reference's size, sign and round: round gives the word nearest to m times 2 to the e. Conditions: m fits its kind, e is not great. -/
import Derived.Test.YtelgmffmekfndaaFltLawsG
import Derived.Test.YtelgmffmekfndaaOpenG
import Derived.IntWalk
import Derived.WalkLawsBesides
import Derived.Deep.LoopGhost
import Derived.Laws.BitsAllLaws
import Derived.Lib.Hide
namespace Go.Proofs.Ytelgmffmekfndaa
open Go.ChangeShapes Go.WideShapes Go.ChangeAt Go.RowKit
open Fl (sz dropOf rung kept last word fin)

theorem sz_step {m : Nat} (h : m ≠ 0) : sz (m / 2) < sz m := by have := Fl.sz_half h; omega

theorem size_nat (m : Nat) (hm : m < 18446744073709551616) (w : World) :
    Calls Try.prog 90 #[.int .u64 m] w fun e w' => e = .returned (.int .i64 (sz m)) ∧ w = w' := by
  have hs := Fl.sz_le (m := m) (by omega)
  go_enter Try.func90, Try.ntmps90
  go_wp2
  go_loopg [0, 3] (sz m) (fun g s0 s3 wr => ∃ x n : Nat, g = sz x ∧ s0 = .int .u64 x ∧ s3 = .int .i64 n ∧ n + sz x = sz m ∧ x < 18446744073709551616 ∧ w = wr)
  case atStart => exact ⟨m, 0, rfl, rfl, rfl, by omega, by omega, rfl⟩
  case round =>
    obtain ⟨x, n, rfl, rfl, rfl, hn, hx, rfl⟩ := hrel
    by_cases h0 : x = 0
    · subst h0
      rw [Fl.sz_zero] at hn
      have hn' : n = sz m := by omega
      have HN := Lib.hid hn'
      clear hn hn'
      go_wp2
      go_ret
      exact ⟨ret_int (by rw [HN.out]), rfl⟩
    · have h1 : ((x : Int) != 0) = true := by simp; omega
      have hz := Fl.sz_half h0
      have hn64 : n ≤ 64 := by omega
      have HZ := Lib.hid hz
      have HN := Lib.hid hn
      clear hz hn h0
      go_wp2
      go_roundg (sz (x / 2))
      case measure => have := HZ.out; omega
      case rel => exact ⟨x / 2, n + 1, rfl, by go_num, by go_num, by have := HZ.out; have := HN.out; omega, by omega, rfl⟩

theorem size_any (m : Int) (h0 : 0 ≤ m) (h1 : m < 18446744073709551616) (w : World) :
    Calls Try.prog 90 #[.int .u64 m] w fun e w' => e = .returned (.int .i64 (sz m.toNat)) ∧ w = w' := by
  have H := size_nat m.toNat (by omega) w
  rw [Int.toNat_of_nonneg h0] at H
  exact H

theorem sign_any (neg : Bool) (b : Int) (b0 : 0 ≤ b) (hb : b < 9223372036854775808) (w : World) :
    Calls Try.prog 69 #[.bool neg, .int .u64 b] w fun e w' => e = .returned (.int .u64 (word neg b.toNat)) ∧ w = w' := by
  have ho : bits .or .u64 b 9223372036854775808 = 9223372036854775808 + b := by
    have := u64_or_nat b.toNat 9223372036854775808 (by omega) (by omega)
    rw [show ((9223372036854775808 : Nat) : Int) = 9223372036854775808 by rfl, Int.toNat_of_nonneg b0] at this
    rw [this, Nat.or_comm, nat_join 63 9223372036854775808 b.toNat (by decide) (by omega)]
    omega
  cases neg
  · go_enter Try.func69, Try.ntmps69
    go_wp2
    go_ret
    exact ⟨ret_int (by unfold word; rw [if_neg (by simp)]; omega), rfl⟩
  · go_enter Try.func69, Try.ntmps69
    go_wp2
    go_ret
    exact ⟨ret_int (by unfold word; rw [if_pos rfl]; omega), rfl⟩

theorem sign_to (neg : Bool) (X : Int) (R : Nat) (hX : X = R) (hR : R < 9223372036854775808) (w : World) :
    Calls Try.prog 69 #[.bool neg, .int .u64 X] w fun e w' => e = .returned (.int .u64 (word neg R)) ∧ w = w' := by
  have H := sign_any neg X (by omega) (by omega) w
  rw [hX, Int.toNat_natCast] at H
  rw [hX]
  exact H

/-- an exponent's field beside a fraction's -/
theorem or_pack (P x : Int) (p0 : 0 ≤ P) (p1 : P < 2048) (x0 : 0 ≤ x) (x1 : x < 18446744073709551616) :
    bits .or .u64 (P * 4503599627370496) (bits .and .u64 x 4503599627370495) = P * 4503599627370496 + x % 4503599627370496 := by
  have e1 : bits .and .u64 x 4503599627370495 = ((x.toNat % 4503599627370496 : Nat) : Int) := by
    have := u64_and x 4503599627370495 x0 x1 (by omega) (by omega)
    rw [this, show (4503599627370495 : Int).toNat = 2 ^ 52 - 1 by rfl, Nat.and_two_pow_sub_one_eq_mod]
  rw [e1]
  have := u64_or (P * 4503599627370496) ((x.toNat % 4503599627370496 : Nat) : Int) (by omega) (by omega) (by omega) (by omega)
  rw [this, Int.toNat_natCast, show (P * 4503599627370496).toNat = P.toNat * 4503599627370496 by omega]
  rw [nat_join 52 (P.toNat * 4503599627370496) (x.toNat % 4503599627370496) (by omega) (by omega)]
  omega

theorem fin_lt (L : Int) (K : Nat) (k1 : K ≤ 9007199254740992) : fin L K < 9223372036854775808 := by
  unfold fin
  split
  · split <;> omega
  · split
    · omega
    · split <;> omega

theorem fin_a (L K : Int) (k0 : (K == 9007199254740992) = true) (h : 971 < L + 1) : (9218868437227405312 : Int) = fin L K.toNat := by
  have k : K = 9007199254740992 := by simpa using k0
  unfold fin
  rw [if_pos (by omega), if_pos h]; rfl
theorem fin_b (L K : Int) (k0 : (K == 9007199254740992) = true) (h : L + 1 ≤ 971) (l0 : -1074 ≤ L) : bits .or .u64 ((L + 1 + 1075) * 4503599627370496) (bits .and .u64 (K / 2) 4503599627370495) = fin L K.toNat := by
  have k : K = 9007199254740992 := by simpa using k0
  rw [or_pack _ _ (by omega) (by omega) (by omega) (by omega)]
  unfold fin
  rw [if_pos (by omega), if_neg (by omega)]
  omega
theorem fin_c (L K : Int) (k0 : (K == 9007199254740992) = false) (h : 971 < L) (_k1 : 0 ≤ K) : (9218868437227405312 : Int) = fin L K.toNat := by
  have k : K ≠ 9007199254740992 := by simpa using k0
  unfold fin
  rw [if_neg (by omega), if_pos h]; rfl
theorem fin_d (L K : Int) (k0 : (K == 9007199254740992) = false) (h : L ≤ 971) (k1 : 0 ≤ K) (k2 : K < 4503599627370496) : K = fin L K.toNat := by
  have k : K ≠ 9007199254740992 := by simpa using k0
  unfold fin
  rw [if_neg (by omega), if_neg (by omega), if_pos (by omega)]
  omega
theorem fin_e (L K : Int) (k0 : (K == 9007199254740992) = false) (h : L ≤ 971) (l0 : -1074 ≤ L) (k1 : K ≤ 9007199254740992) (k2 : 4503599627370496 ≤ K) :
    bits .or .u64 ((L + 1075) * 4503599627370496) (bits .and .u64 K 4503599627370495) = fin L K.toNat := by
  have k : K ≠ 9007199254740992 := by simpa using k0
  rw [or_pack _ _ (by omega) (by omega) (by omega) (by omega)]
  unfold fin
  rw [if_neg (by omega), if_neg (by omega), if_neg (by omega)]
  omega

set_option maxRecDepth 100000 in
theorem round_up (m K : Int) (neg : Bool) (ex D L : Int) (hm0 : (m == 0) = false) (m0 : 0 ≤ m) (hm : m < 18446744073709551616) (h1 : -5000 ≤ ex) (h2 : ex ≤ 5000)
    (hD : (if (sz m.toNat : Int) - 53 < -1074 - ex then -1074 - ex else (sz m.toNat : Int) - 53) = D) (d0 : D ≤ 0) (d1 : -53 ≤ D)
    (hK : IntKind.u64.wrap (m * 2 ^ (-D).toNat) = K) (hL : ex + D = L) (l0 : -1074 ≤ L) (l1 : L ≤ 5000) (k0 : 0 ≤ K) (k1 : K ≤ 9007199254740992) (w : World) :
    Calls Try.prog 70 #[.bool neg, .int .u64 m, .int .i64 ex] w fun e w' => e = .returned (.int .u64 (word neg (fin L K.toNat))) ∧ w = w' := by
  have hs := Fl.sz_le (m := m.toNat) (by omega)
  have hfin : fin L K.toNat < 9223372036854775808 := fin_lt L K.toNat (by omega)
  generalize hS : sz m.toNat = S at *
  have HS := Lib.hid hS
  clear hS
  go_enter Try.func70, Try.ntmps70
  go_wp2_with fail
  refine (size_any m m0 hm _).mono ?_
  rw [HS.out]
  rintro e w1 ⟨rfl, rfl⟩
  go_wp2_with fail
  all_goals
    first
      | (with_reducible refine (sign_to neg _ (fin L K.toNat) (fin_a L K ‹_› ‹_›) hfin _).mono ?_)
      | (with_reducible refine (sign_to neg _ (fin L K.toNat) (fin_b L K ‹_› ‹_› l0) hfin _).mono ?_)
      | (with_reducible refine (sign_to neg _ (fin L K.toNat) (fin_c L K ‹_› ‹_› k0) hfin _).mono ?_)
      | (with_reducible refine (sign_to neg _ (fin L K.toNat) (fin_d L K ‹_› ‹_› k0 ‹_›) hfin _).mono ?_)
      | (with_reducible refine (sign_to neg _ (fin L K.toNat) (fin_e L K ‹_› ‹_› l0 k1 ‹_›) hfin _).mono ?_)
      | (have hk : K = 9007199254740992 := by simpa using ‹(K == 9007199254740992) = true›
         exact False.elim (by omega))
  all_goals
    rintro e w1 ⟨rfl, rfl⟩
    go_wp2_with fail
    go_ret
    exact ⟨rfl, rfl⟩
set_option maxRecDepth 100000 in
theorem round_mid_a (m K : Int) (neg : Bool) (ex D L : Int) (hm0 : (m == 0) = false) (m0 : 0 ≤ m) (hm : m < 18446744073709551616) (h1 : -5000 ≤ ex) (h2 : ex ≤ 5000)
    (hD : (if (sz m.toNat : Int) - 53 < -1074 - ex then -1074 - ex else (sz m.toNat : Int) - 53) = D) (d0 : 1 ≤ D) (d1 : D ≤ 63) (R H Q : Int) (hR : bits .and .u64 m (IntKind.u64.wrap (IntKind.u64.wrap (2 ^ D.toNat) - 1)) = R)
    (hH : IntKind.u64.wrap (2 ^ (D.toNat - 1)) = H) (hQ : m / 2 ^ D.toNat = Q) (hK : IntKind.u64.wrap (Q + 1) = K) (hlt : H < R)
    (hL : ex + D = L) (l0 : -1074 ≤ L) (l1 : L ≤ 5000) (k0 : 0 ≤ K) (k1 : K ≤ 9007199254740992) (w : World) :
    Calls Try.prog 70 #[.bool neg, .int .u64 m, .int .i64 ex] w fun e w' => e = .returned (.int .u64 (word neg (fin L K.toNat))) ∧ w = w' := by
  have hs := Fl.sz_le (m := m.toNat) (by omega)
  have hfin : fin L K.toNat < 9223372036854775808 := fin_lt L K.toNat (by omega)
  generalize hS : sz m.toNat = S at *
  have HS := Lib.hid hS
  clear hS
  have hne : (D == 64) = false := by simp; omega
  go_enter Try.func70, Try.ntmps70
  go_wp2_with fail
  refine (size_any m m0 hm _).mono ?_
  rw [HS.out]
  rintro e w1 ⟨rfl, rfl⟩
  go_wp2_with fail
  all_goals
    first
      | (with_reducible refine (sign_to neg _ (fin L K.toNat) (fin_a L K ‹_› ‹_›) hfin _).mono ?_)
      | (with_reducible refine (sign_to neg _ (fin L K.toNat) (fin_b L K ‹_› ‹_› l0) hfin _).mono ?_)
      | (with_reducible refine (sign_to neg _ (fin L K.toNat) (fin_c L K ‹_› ‹_› k0) hfin _).mono ?_)
      | (with_reducible refine (sign_to neg _ (fin L K.toNat) (fin_d L K ‹_› ‹_› k0 ‹_›) hfin _).mono ?_)
      | (with_reducible refine (sign_to neg _ (fin L K.toNat) (fin_e L K ‹_› ‹_› l0 k1 ‹_›) hfin _).mono ?_)
      | (have hk : K = 9007199254740992 := by simpa using ‹(K == 9007199254740992) = true›
         exact False.elim (by omega))
  all_goals
    rintro e w1 ⟨rfl, rfl⟩
    go_wp2_with fail
    go_ret
    exact ⟨rfl, rfl⟩
set_option maxRecDepth 100000 in
theorem round_mid_b (m K : Int) (neg : Bool) (ex D L : Int) (hm0 : (m == 0) = false) (m0 : 0 ≤ m) (hm : m < 18446744073709551616) (h1 : -5000 ≤ ex) (h2 : ex ≤ 5000)
    (hD : (if (sz m.toNat : Int) - 53 < -1074 - ex then -1074 - ex else (sz m.toNat : Int) - 53) = D) (d0 : 1 ≤ D) (d1 : D ≤ 63) (H Q : Int) (hR : bits .and .u64 m (IntKind.u64.wrap (IntKind.u64.wrap (2 ^ D.toNat) - 1)) = H)
    (hH : IntKind.u64.wrap (2 ^ (D.toNat - 1)) = H) (hQ : m / 2 ^ D.toNat = Q) (hK : IntKind.u64.wrap (Q + 1) = K) (hodd : (bits .and .u64 Q 1 == 1) = true)
    (hL : ex + D = L) (l0 : -1074 ≤ L) (l1 : L ≤ 5000) (k0 : 0 ≤ K) (k1 : K ≤ 9007199254740992) (w : World) :
    Calls Try.prog 70 #[.bool neg, .int .u64 m, .int .i64 ex] w fun e w' => e = .returned (.int .u64 (word neg (fin L K.toNat))) ∧ w = w' := by
  have hs := Fl.sz_le (m := m.toNat) (by omega)
  have hfin : fin L K.toNat < 9223372036854775808 := fin_lt L K.toNat (by omega)
  generalize hS : sz m.toNat = S at *
  have HS := Lib.hid hS
  clear hS
  have hne : (D == 64) = false := by simp; omega
  go_enter Try.func70, Try.ntmps70
  go_wp2_with fail
  refine (size_any m m0 hm _).mono ?_
  rw [HS.out]
  rintro e w1 ⟨rfl, rfl⟩
  go_wp2_with fail
  all_goals
    first
      | (with_reducible refine (sign_to neg _ (fin L K.toNat) (fin_a L K ‹_› ‹_›) hfin _).mono ?_)
      | (with_reducible refine (sign_to neg _ (fin L K.toNat) (fin_b L K ‹_› ‹_› l0) hfin _).mono ?_)
      | (with_reducible refine (sign_to neg _ (fin L K.toNat) (fin_c L K ‹_› ‹_› k0) hfin _).mono ?_)
      | (with_reducible refine (sign_to neg _ (fin L K.toNat) (fin_d L K ‹_› ‹_› k0 ‹_›) hfin _).mono ?_)
      | (with_reducible refine (sign_to neg _ (fin L K.toNat) (fin_e L K ‹_› ‹_› l0 k1 ‹_›) hfin _).mono ?_)
      | (have hk : K = 9007199254740992 := by simpa using ‹(K == 9007199254740992) = true›
         exact False.elim (by omega))
  all_goals
    rintro e w1 ⟨rfl, rfl⟩
    go_wp2_with fail
    go_ret
    exact ⟨rfl, rfl⟩
set_option maxRecDepth 100000 in
theorem round_mid_c (m : Int) (neg : Bool) (ex D L : Int) (hm0 : (m == 0) = false) (m0 : 0 ≤ m) (hm : m < 18446744073709551616) (h1 : -5000 ≤ ex) (h2 : ex ≤ 5000)
    (hD : (if (sz m.toNat : Int) - 53 < -1074 - ex then -1074 - ex else (sz m.toNat : Int) - 53) = D) (d0 : 1 ≤ D) (d1 : D ≤ 63) (R H K : Int) (hR : bits .and .u64 m (IntKind.u64.wrap (IntKind.u64.wrap (2 ^ D.toNat) - 1)) = R)
    (hH : IntKind.u64.wrap (2 ^ (D.toNat - 1)) = H) (hQ : m / 2 ^ D.toNat = K) (hlt : R < H)
    (hL : ex + D = L) (l0 : -1074 ≤ L) (l1 : L ≤ 5000) (k0 : 0 ≤ K) (k1 : K ≤ 9007199254740992) (w : World) :
    Calls Try.prog 70 #[.bool neg, .int .u64 m, .int .i64 ex] w fun e w' => e = .returned (.int .u64 (word neg (fin L K.toNat))) ∧ w = w' := by
  have hs := Fl.sz_le (m := m.toNat) (by omega)
  have hfin : fin L K.toNat < 9223372036854775808 := fin_lt L K.toNat (by omega)
  generalize hS : sz m.toNat = S at *
  have HS := Lib.hid hS
  clear hS
  have hne : (D == 64) = false := by simp; omega
  have hrh : (R == H) = false := by simp; omega
  go_enter Try.func70, Try.ntmps70
  go_wp2_with fail
  refine (size_any m m0 hm _).mono ?_
  rw [HS.out]
  rintro e w1 ⟨rfl, rfl⟩
  go_wp2_with fail
  all_goals
    first
      | (with_reducible refine (sign_to neg _ (fin L K.toNat) (fin_a L K ‹_› ‹_›) hfin _).mono ?_)
      | (with_reducible refine (sign_to neg _ (fin L K.toNat) (fin_b L K ‹_› ‹_› l0) hfin _).mono ?_)
      | (with_reducible refine (sign_to neg _ (fin L K.toNat) (fin_c L K ‹_› ‹_› k0) hfin _).mono ?_)
      | (with_reducible refine (sign_to neg _ (fin L K.toNat) (fin_d L K ‹_› ‹_› k0 ‹_›) hfin _).mono ?_)
      | (with_reducible refine (sign_to neg _ (fin L K.toNat) (fin_e L K ‹_› ‹_› l0 k1 ‹_›) hfin _).mono ?_)
      | (have hk : K = 9007199254740992 := by simpa using ‹(K == 9007199254740992) = true›
         exact False.elim (by omega))
  all_goals
    rintro e w1 ⟨rfl, rfl⟩
    go_wp2_with fail
    go_ret
    exact ⟨rfl, rfl⟩
set_option maxRecDepth 100000 in
theorem round_mid_d (m : Int) (neg : Bool) (ex D L : Int) (hm0 : (m == 0) = false) (m0 : 0 ≤ m) (hm : m < 18446744073709551616) (h1 : -5000 ≤ ex) (h2 : ex ≤ 5000)
    (hD : (if (sz m.toNat : Int) - 53 < -1074 - ex then -1074 - ex else (sz m.toNat : Int) - 53) = D) (d0 : 1 ≤ D) (d1 : D ≤ 63) (H K : Int) (hR : bits .and .u64 m (IntKind.u64.wrap (IntKind.u64.wrap (2 ^ D.toNat) - 1)) = H)
    (hH : IntKind.u64.wrap (2 ^ (D.toNat - 1)) = H) (hQ : m / 2 ^ D.toNat = K) (hodd : (bits .and .u64 K 1 == 1) = false)
    (hL : ex + D = L) (l0 : -1074 ≤ L) (l1 : L ≤ 5000) (k0 : 0 ≤ K) (k1 : K ≤ 9007199254740992) (w : World) :
    Calls Try.prog 70 #[.bool neg, .int .u64 m, .int .i64 ex] w fun e w' => e = .returned (.int .u64 (word neg (fin L K.toNat))) ∧ w = w' := by
  have hs := Fl.sz_le (m := m.toNat) (by omega)
  have hfin : fin L K.toNat < 9223372036854775808 := fin_lt L K.toNat (by omega)
  generalize hS : sz m.toNat = S at *
  have HS := Lib.hid hS
  clear hS
  have hne : (D == 64) = false := by simp; omega
  go_enter Try.func70, Try.ntmps70
  go_wp2_with fail
  refine (size_any m m0 hm _).mono ?_
  rw [HS.out]
  rintro e w1 ⟨rfl, rfl⟩
  go_wp2_with fail
  all_goals
    first
      | (with_reducible refine (sign_to neg _ (fin L K.toNat) (fin_a L K ‹_› ‹_›) hfin _).mono ?_)
      | (with_reducible refine (sign_to neg _ (fin L K.toNat) (fin_b L K ‹_› ‹_› l0) hfin _).mono ?_)
      | (with_reducible refine (sign_to neg _ (fin L K.toNat) (fin_c L K ‹_› ‹_› k0) hfin _).mono ?_)
      | (with_reducible refine (sign_to neg _ (fin L K.toNat) (fin_d L K ‹_› ‹_› k0 ‹_›) hfin _).mono ?_)
      | (with_reducible refine (sign_to neg _ (fin L K.toNat) (fin_e L K ‹_› ‹_› l0 k1 ‹_›) hfin _).mono ?_)
      | (have hk : K = 9007199254740992 := by simpa using ‹(K == 9007199254740992) = true›
         exact False.elim (by omega))
  all_goals
    rintro e w1 ⟨rfl, rfl⟩
    go_wp2_with fail
    go_ret
    exact ⟨rfl, rfl⟩

set_option maxRecDepth 100000 in
theorem round_zero (neg : Bool) (ex : Int) (h1 : -5000 ≤ ex) (h2 : ex ≤ 5000) (w : World) :
    Calls Try.prog 70 #[.bool neg, .int .u64 0, .int .i64 ex] w fun e w' => e = .returned (.int .u64 (word neg 0)) ∧ w = w' := by
  have hD : ∃ D, (if (sz (0 : Int).toNat : Int) - 53 < -1074 - ex then -1074 - ex else (sz (0 : Int).toNat : Int) - 53) = D := ⟨_, rfl⟩
  obtain ⟨D, hD⟩ := hD
  generalize hS : sz (0 : Int).toNat = S at *
  have HS := Lib.hid hS
  have hs : S ≤ 64 := by rw [← hS]; exact Fl.sz_le (by decide)
  clear hS
  go_enter Try.func70, Try.ntmps70
  go_wp2_with fail
  refine (size_any 0 (by omega) (by omega) _).mono ?_
  rw [HS.out]
  rintro e w1 ⟨rfl, rfl⟩
  go_wp2_with fail
  refine (sign_to neg 0 0 rfl (by omega) _).mono ?_
  rintro e w1 ⟨rfl, rfl⟩
  go_wp2_with fail
  go_ret
  exact ⟨rfl, rfl⟩

set_option maxRecDepth 100000 in
theorem round_far (m : Int) (neg : Bool) (ex D : Int) (hm0 : (m == 0) = false) (m0 : 0 ≤ m) (hm : m < 18446744073709551616) (h1 : -5000 ≤ ex) (h2 : ex ≤ 5000)
    (hD : (if (sz m.toNat : Int) - 53 < -1074 - ex then -1074 - ex else (sz m.toNat : Int) - 53) = D) (d0 : 64 < D) (w : World) :
    Calls Try.prog 70 #[.bool neg, .int .u64 m, .int .i64 ex] w fun e w' => e = .returned (.int .u64 (word neg 0)) ∧ w = w' := by
  have hs := Fl.sz_le (m := m.toNat) (by omega)
  generalize hS : sz m.toNat = S at *
  have HS := Lib.hid hS
  clear hS
  go_enter Try.func70, Try.ntmps70
  go_wp2_with fail
  refine (size_any m m0 hm _).mono ?_
  rw [HS.out]
  rintro e w1 ⟨rfl, rfl⟩
  go_wp2_with fail
  refine (sign_to neg 0 0 rfl (by omega) _).mono ?_
  rintro e w1 ⟨rfl, rfl⟩
  go_wp2_with fail
  go_ret
  exact ⟨rfl, rfl⟩

set_option maxRecDepth 100000 in
theorem round_64 (m : Int) (neg : Bool) (K : Nat) (hm0 : (m == 0) = false) (m0 : 0 ≤ m) (hm : m < 18446744073709551616)
    (_hD : (if (sz m.toNat : Int) - 53 < 64 then 64 else (sz m.toNat : Int) - 53) = 64) (hK : (9223372036854775808 < m ∧ K = 1) ∨ (m ≤ 9223372036854775808 ∧ K = 0)) (w : World) :
    Calls Try.prog 70 #[.bool neg, .int .u64 m, .int .i64 (-1138)] w fun e w' => e = .returned (.int .u64 (word neg K)) ∧ w = w' := by
  have hs := Fl.sz_le (m := m.toNat) (by omega)
  generalize hS : sz m.toNat = S at *
  have HS := Lib.hid hS
  clear hS
  rcases hK with ⟨hgt, hk⟩ | ⟨hle, hk⟩
  all_goals
    subst hk
    go_enter Try.func70, Try.ntmps70
    go_wp2_with fail
    refine (size_any m m0 hm _).mono ?_
    rw [HS.out]
    rintro e w1 ⟨rfl, rfl⟩
    go_wp2_with fail
    first | (with_reducible refine (sign_to neg 1 1 rfl (by decide) _).mono ?_) | (with_reducible refine (sign_to neg 0 0 rfl (by decide) _).mono ?_)
    rintro e w1 ⟨rfl, rfl⟩
    go_wp2_with fail
    go_ret
    exact ⟨rfl, rfl⟩

theorem odd_bit (Q : Int) (h0 : 0 ≤ Q) (h1 : Q < 18446744073709551616) : (bits .and .u64 Q 1 == 1) = decide (Q % 2 = 1) := by
  have := u64_and Q 1 h0 h1 (by omega) (by omega)
  rw [this, show (1 : Int).toNat = 1 by rfl, nat_mask1]
  rw [Bool.eq_iff_iff]
  simp
  omega

theorem pow_cast (d : Nat) : ((2 : Int) ^ d) = ((2 ^ d : Nat) : Int) := by norm_cast

/-- round gives the word nearest to m times 2 to the e -/
theorem round_any (m : Int) (neg : Bool) (ex : Int) (m0 : 0 ≤ m) (hm : m < 18446744073709551616) (h1 : -3000 ≤ ex) (h2 : ex ≤ 3000) (w : World) :
    Calls Try.prog 70 #[.bool neg, .int .u64 m, .int .i64 ex] w fun e w' => e = .returned (.int .u64 (word neg (rung m.toNat ex))) ∧ w = w' := by
  by_cases c0 : m = 0
  · subst c0
    rw [show rung (0 : Int).toNat ex = 0 from Fl.rung_zero ex]
    exact round_zero neg ex (by omega) (by omega) w
  have hm0 : (m == 0) = false := by simpa using c0
  have hn0 : m.toNat ≠ 0 := by omega
  have hlt : m.toNat < 2 ^ 64 := by omega
  have hsz := Fl.sz_le hlt
  have hD : (if (sz m.toNat : Int) - 53 < -1074 - ex then -1074 - ex else (sz m.toNat : Int) - 53) = dropOf m.toNat ex := by
    unfold dropOf; split <;> omega
  have hL := Fl.last_drop hn0 ex
  have hLge := Fl.last_ge m.toNat ex
  have hkle := Fl.kept_le m.toNat ex hn0
  have hfin := Fl.rung_fin m.toNat ex hn0
  have hdge : dropOf m.toNat ex ≥ -52 := by
    have : 1 ≤ sz m.toNat := by unfold sz; rw [if_neg hn0]; omega
    unfold dropOf; omega
  have hdle : dropOf m.toNat ex ≤ 3000 := by unfold dropOf; omega
  by_cases c1 : 64 < dropOf m.toNat ex
  · rw [Fl.rung_far hlt c1]
    exact round_far m neg ex _ hm0 m0 hm (by omega) (by omega) hD c1 w
  by_cases c2 : dropOf m.toNat ex ≤ 0
  · have hk := Fl.kept_up hn0 c2
    have hw : IntKind.u64.wrap (m * 2 ^ (- dropOf m.toNat ex).toNat) = (kept m.toNat ex : Int) := by
      have e1 : m * 2 ^ (- dropOf m.toNat ex).toNat = (kept m.toNat ex : Int) := by
        rw [hk, Int.natCast_mul, Int.toNat_of_nonneg m0, pow_cast]
      rw [e1, IntKind.wrap_u64]
      omega
    have H := round_up m _ neg ex _ _ hm0 m0 hm (by omega) (by omega) hD c2 (by omega) hw hL.symm hLge (by omega) (by omega) (by omega) w
    rw [Int.toNat_natCast, ← hfin] at H
    exact H
  by_cases c3 : dropOf m.toNat ex = 64
  · have hex : ex = -1138 := by unfold dropOf at c3; omega
    subst hex
    have hk := Fl.kept_down hn0 (e := -1138) (by omega)
    rw [c3, show (64 : Int).toNat = 64 by rfl, Fl.rne_64 hlt] at hk
    have hlast : last m.toNat (-1138) = -1074 := by rw [hL, c3]; rfl
    rw [hfin, hlast]
    have H := round_64 m neg (kept m.toNat (-1138)) hm0 m0 hm (by rw [c3] at hD; exact hD) (by
      rw [hk]
      by_cases c : 2 ^ 63 < m.toNat
      · rw [if_pos c]; left; omega
      · rw [if_neg c]; right; omega) w
    have hf : fin (-1074) (kept m.toNat (-1138)) = kept m.toNat (-1138) := by
      rw [hk]; split <;> rfl
    rw [hf]
    exact H
  · have hk := Fl.kept_down hn0 (e := ex) (by omega)
    generalize hd : dropOf m.toNat ex = D at *
    have hD1 : 1 ≤ D := by omega
    have hD2 : D ≤ 63 := by omega
    rw [Fl.rne_mid _ (d := D.toNat) (by omega)] at hk
    have hp := Nat.two_pow_pos D.toNat
    have hp1 := Nat.two_pow_pos (D.toNat - 1)
    have hpl : 2 ^ D.toNat ≤ 2 ^ 63 := Nat.pow_le_pow_right (by omega) (by omega)
    have hpl1 : 2 ^ (D.toNat - 1) ≤ 2 ^ 62 := Nat.pow_le_pow_right (by omega) (by omega)
    have hR : bits .and .u64 m (IntKind.u64.wrap (IntKind.u64.wrap (2 ^ D.toNat) - 1)) = ((m.toNat % 2 ^ D.toNat : Nat) : Int) := by
      have e1 : IntKind.u64.wrap (IntKind.u64.wrap (2 ^ D.toNat) - 1) = ((2 ^ D.toNat - 1 : Nat) : Int) := by
        rw [pow_cast]
        simp only [IntKind.wrap_u64]
        generalize 2 ^ D.toNat = X at *
        omega
      rw [e1]
      have := u64_and m ((2 ^ D.toNat - 1 : Nat) : Int) m0 hm (by omega) (by omega)
      rw [this, Int.toNat_natCast, Nat.and_two_pow_sub_one_eq_mod]
    have hH : IntKind.u64.wrap (2 ^ (D.toNat - 1)) = ((2 ^ (D.toNat - 1) : Nat) : Int) := by
      rw [pow_cast, IntKind.wrap_u64]
      generalize 2 ^ (D.toNat - 1) = X at *
      omega
    have hQ : m / 2 ^ D.toNat = ((m.toNat / 2 ^ D.toNat : Nat) : Int) := by
      rw [pow_cast, Int.natCast_ediv, Int.toNat_of_nonneg m0]
    have hQlt : m.toNat / 2 ^ D.toNat ≤ m.toNat := Nat.div_le_self _ _
    have hodd := odd_bit ((m.toNat / 2 ^ D.toNat : Nat) : Int) (Int.natCast_nonneg _) (by generalize m.toNat / 2 ^ D.toNat = X at *; omega)
    rw [hfin]
    generalize hk2 : kept m.toNat ex = K at *
    generalize hr : m.toNat % 2 ^ D.toNat = R at *
    generalize hq : m.toNat / 2 ^ D.toNat = Q at *
    generalize 2 ^ (D.toNat - 1) = H at *
    by_cases a1 : H < R
    · rw [if_pos (.inl a1)] at hk
      have W := round_mid_a m K neg ex D _ hm0 m0 hm (by omega) (by omega) hD hD1 hD2 R H Q hR hH hQ (by rw [IntKind.wrap_u64]; omega) (by omega) hL.symm hLge (by omega) (by omega) (by omega) w
      exact W
    · by_cases a2 : R = H
      · rw [a2] at hR hk
        by_cases a3 : Q % 2 = 1
        · rw [if_pos (.inr ⟨rfl, a3⟩)] at hk
          have W := round_mid_b m K neg ex D _ hm0 m0 hm (by omega) (by omega) hD hD1 hD2 H Q hR hH hQ (by rw [IntKind.wrap_u64]; omega) (by rw [hodd]; simp; omega) hL.symm hLge (by omega) (by omega) (by omega) w
          exact W
        · rw [if_neg (by omega)] at hk
          have W := round_mid_d m neg ex D _ hm0 m0 hm (by omega) (by omega) hD hD1 hD2 H K hR hH (by rw [hQ, hk]; rfl) (by rw [hk, Nat.add_zero, hodd]; simp; omega) hL.symm hLge (by omega) (by omega) (by omega) w
          exact W
      · rw [if_neg (by omega)] at hk
        have W := round_mid_c m neg ex D _ hm0 m0 hm (by omega) (by omega) hD hD1 hD2 R H K hR hH (by rw [hQ, hk]; rfl) (by omega) hL.symm hLge (by omega) (by omega) (by omega) w
        exact W
end Go.Proofs.Ytelgmffmekfndaa
