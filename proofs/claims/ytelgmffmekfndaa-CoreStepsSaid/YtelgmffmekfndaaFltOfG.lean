/- The contract of the reference's Of: what a word stands for. Condition: the word fits its kind. -/
import Derived.Test.YtelgmffmekfndaaFltLawsG
import Derived.Test.YtelgmffmekfndaaFltRoundG
import Derived.RegionTactic
import Derived.ChangeAlike
import Derived.Outline
namespace Go.Proofs.Ytelgmffmekfndaa
open Go.ChangeShapes Go.WideShapes Go.ChangeAt Go.RowKit
open Fl (sg exf fr kindOf mant expo ups)

abbrev nc (k : Int) (s : Bool) (m e : Int) : Obj := .cells #[.int .u8 k, .bool s, .int .u64 m, .int .i64 e] 70
abbrev nv (k : Int) (s : Bool) (m e : Int) : Value := .agg #[.int .u8 k, .bool s, .int .u64 m, .int .i64 e]

set_option maxRecDepth 100000 in
theorem of_nan (b X F : Int) (s : Bool) (hs : (b / 9223372036854775808 == 1) = s) (hx : bits .and .u64 (b / 4503599627370496) 2047 = X) (hx1 : (X == 2047) = true) (x0 : 0 ≤ X) (x1 : X ≤ 2047)
    (hf : bits .and .u64 b 4503599627370495 = F) (_f0 : 0 ≤ F) (hF : (F != 0) = true) (w : World) :
    Calls Try.prog 68 #[.int .u64 b] w fun e w' => e = .returned (nv 110 s F X) ∧ Below w.heap.size w w' := by
  go_enter Try.func68, Try.ntmps68
  go_wp2
  exact bodyPost_ret (v := nv 110 s F X) (by simp [results, Try.results68, go_sem]) rfl ⟨rfl, by repeat (first | exact Below.refl _ _ | (refine Below.alloc ?_ (by first | omega | (simp; done) | (simp; omega)) _))⟩

set_option maxRecDepth 100000 in
theorem of_inf (b X F : Int) (s : Bool) (hs : (b / 9223372036854775808 == 1) = s) (hx : bits .and .u64 (b / 4503599627370496) 2047 = X) (hx1 : (X == 2047) = true) (x0 : 0 ≤ X) (x1 : X ≤ 2047)
    (hf : bits .and .u64 b 4503599627370495 = F) (_f0 : 0 ≤ F) (hF : (F != 0) = false) (w : World) :
    Calls Try.prog 68 #[.int .u64 b] w fun e w' => e = .returned (nv 105 s F X) ∧ Below w.heap.size w w' := by
  go_enter Try.func68, Try.ntmps68
  go_wp2
  exact bodyPost_ret (v := nv 105 s F X) (by simp [results, Try.results68, go_sem]) rfl ⟨rfl, by repeat (first | exact Below.refl _ _ | (refine Below.alloc ?_ (by first | omega | (simp; done) | (simp; omega)) _))⟩

/-- the number from which the doubling starts, its place, and how often it is doubled -/
structure Doubling (M0 k : Nat) (E0 : Int) : Prop where
  le : k ≤ 52
  step : ∀ j, j < k → 0 < M0 * 2 ^ j ∧ M0 * 2 ^ j < 4503599627370496
  stop : M0 * 2 ^ k = 0 ∨ 4503599627370496 ≤ M0 * 2 ^ k
  e0 : -1074 ≤ E0
  e1 : E0 ≤ 971

set_option maxRecDepth 100000 in
set_option maxHeartbeats 1000000 in
theorem of_small (b X F : Int) (s : Bool) (k : Nat) (hs : (b / 9223372036854775808 == 1) = s) (hx : bits .and .u64 (b / 4503599627370496) 2047 = X) (hx1 : (X == 2047) = false) (hx2 : (X == 0) = true) (x0 : 0 ≤ X) (x1 : X ≤ 2047)
    (hf : bits .and .u64 b 4503599627370495 = F) (f0 : 0 ≤ F) (f1 : F < 4503599627370496) (D : Doubling F.toNat k (-1074)) (w : World) :
    Calls Try.prog 68 #[.int .u64 b] w fun e w' => e = .returned (nv 102 s ((F.toNat * 2 ^ k : Nat) : Int) (-1074 - k)) ∧ Below w.heap.size w w' := by
  have HD := Lib.hid D
  clear D
  go_enter Try.func68, Try.ntmps68
  go_wp2
  go_loopg [] k (fun g wr => ∃ (j : Nat) (M E : Int), (w.alloc (nc 0 false 0 0)).alloc (nc 102 s M E) = wr ∧ 0 ≤ M ∧ M ≤ 9007199254740992 ∧ -1126 ≤ E ∧ E ≤ 971 ∧ Aside (g = k - j ∧ j ≤ k ∧ M = ((F.toNat * 2 ^ j : Nat) : Int) ∧ E = -1074 - j))
  case atStart => exact ⟨0, F, -1074, rfl, by omega, by omega, by omega, by omega, by simp, by omega, by simp; omega, by simp⟩
  case round =>
    obtain ⟨j, M, E, rfl, m0, m1, e0, e1, A⟩ := hrel
    by_cases hj : j < k
    · have t := HD.out.step j hj
      have hM := A.out.2.2.1
      have t1 : (M != 0) = true := by simp; omega
      have t2 : M < 4503599627370496 := by omega
      have HE := Lib.hid (And.intro hj A.out)
      have hE : -1074 ≤ E + j := by have := A.out.2.2.2; omega
      have hj52 : j < 52 := by have := HD.out.le; omega
      clear t hM hj A
      go_wp2
      go_roundg (k - (j + 1))
      case measure => have := HE.out; omega
      case rel =>
        obtain ⟨a0, a1, a2, a3, a4⟩ := HE.out
        refine ⟨j + 1, M * 2, E - 1, rfl, by omega, by omega, by omega, by omega, ?_, by omega, ?_, by omega⟩
        · omega
        · rw [Nat.pow_succ, ← Nat.mul_assoc]; omega
    · have e : j = k := by have := A.out.2.1; omega
      subst e
      have hM := A.out.2.2.1
      have hE2 := A.out.2.2.2
      have t := HD.out.stop
      have t1 : M = 0 ∨ 4503599627370496 ≤ M := by omega
      have HE := Lib.hid (And.intro hM hE2)
      clear hj A t hM hE2
      rcases t1 with t1 | t1
      · subst t1
        go_wp2
        refine bodyPost_ret (v := nv 102 s 0 E) (by simp [results, Try.results68, go_sem]) rfl ⟨by rw [← HE.out.1, ← HE.out.2], ?_⟩
        repeat (first | exact Below.refl _ _ | (refine Below.alloc ?_ (by first | omega | (simp; done) | (simp; omega)) _))
      · have t2 : (M != 0) = true := by simp; omega
        go_wp2
        refine bodyPost_ret (v := nv 102 s M E) (by simp [results, Try.results68, go_sem]) rfl ⟨by rw [← HE.out.1, ← HE.out.2], ?_⟩
        repeat (first | exact Below.refl _ _ | (refine Below.alloc ?_ (by first | omega | (simp; done) | (simp; omega)) _))

set_option maxRecDepth 100000 in
theorem of_norm (b X F : Int) (s : Bool) (hs : (b / 9223372036854775808 == 1) = s) (hx : bits .and .u64 (b / 4503599627370496) 2047 = X) (hx1 : (X == 2047) = false) (hx2 : (X == 0) = false) (x0 : 0 ≤ X) (x1 : X ≤ 2047)
    (hf : bits .and .u64 b 4503599627370495 = F) (f0 : 0 ≤ F) (f1 : F < 4503599627370496) (w : World) :
    Calls Try.prog 68 #[.int .u64 b] w fun e w' => e = .returned (nv 102 s (F + 4503599627370496) (X - 1075)) ∧ Below w.heap.size w w' := by
  go_enter Try.func68, Try.ntmps68
  go_wp2
  go_loopg [] 1 (fun g wr => (w.alloc (nc 0 false 0 0)).alloc (nc 102 s (F + 4503599627370496) (X - 1075)) = wr)
  case atStart => rfl
  case round =>
    obtain rfl := hrel
    have t2 : (F + 4503599627370496 != 0) = true := by simp; omega
    go_wp2
    refine bodyPost_ret (v := nv 102 s (F + 4503599627370496) (X - 1075)) (by simp [results, Try.results68, go_sem]) rfl ⟨rfl, ?_⟩
    repeat (first | exact Below.refl _ _ | (refine Below.alloc ?_ (by first | omega | (simp; done) | (simp; omega)) _))

theorem mask_u64 (x : Int) (h0 : 0 ≤ x) (h1 : x < 18446744073709551616) (k : Nat) (hk : k ≤ 64) : bits .and .u64 x ((2 ^ k - 1 : Nat) : Int) = ((x.toNat % 2 ^ k : Nat) : Int) := by
  have hp : 2 ^ k ≤ 2 ^ 64 := Nat.pow_le_pow_right (by omega) hk
  have hp0 := Nat.two_pow_pos k
  have := u64_and x ((2 ^ k - 1 : Nat) : Int) h0 h1 (by omega) (by omega)
  rw [this, Int.toNat_natCast, Nat.and_two_pow_sub_one_eq_mod]

/-- Of: kind, sign, number, place -/
theorem of_any (b : Int) (h0 : 0 ≤ b) (h1 : b < 18446744073709551616) (w : World) :
    Calls Try.prog 68 #[.int .u64 b] w fun e w' => e = .returned (nv (kindOf b.toNat) (sg b.toNat) (mant b.toNat) (expo b.toNat)) ∧ Below w.heap.size w w' := by
  have hs : (b / 9223372036854775808 == 1) = sg b.toNat := by
    unfold sg
    rw [Bool.eq_iff_iff]
    simp
    omega
  have hx : bits .and .u64 (b / 4503599627370496) 2047 = (exf b.toNat : Int) := by
    have := mask_u64 (b / 4503599627370496) (by omega) (by omega) 11 (by omega)
    rw [show ((2 ^ 11 - 1 : Nat) : Int) = 2047 by rfl] at this
    rw [this]
    unfold exf
    omega
  have hf : bits .and .u64 b 4503599627370495 = (fr b.toNat : Int) := by
    have := mask_u64 b h0 h1 52 (by omega)
    rw [show ((2 ^ 52 - 1 : Nat) : Int) = 4503599627370495 by rfl] at this
    rw [this]
    rfl
  have hX := Fl.exf_lt b.toNat
  have hF := Fl.fr_lt b.toNat
  by_cases c1 : exf b.toNat = 2047
  · have m1 : mant b.toNat = fr b.toNat := by unfold mant; rw [if_pos c1]
    have m2 : expo b.toNat = (exf b.toNat : Int) := by unfold expo; rw [if_pos c1]; omega
    by_cases c2 : fr b.toNat = 0
    · have m3 : kindOf b.toNat = 105 := by unfold kindOf; rw [if_pos c1, if_pos c2]
      rw [m1, m2, m3]
      exact of_inf b _ _ _ hs hx (by simp; omega) (by omega) (by omega) hf (by omega) (by simp; omega) w
    · have m3 : kindOf b.toNat = 110 := by unfold kindOf; rw [if_pos c1, if_neg c2]
      rw [m1, m2, m3]
      exact of_nan b _ _ _ hs hx (by simp; omega) (by omega) (by omega) hf (by omega) (by simp; omega) w
  · have m3 : kindOf b.toNat = 102 := by unfold kindOf; rw [if_neg c1]
    rw [m3]
    by_cases c2 : exf b.toNat = 0
    · have m1 : mant b.toNat = fr b.toNat * 2 ^ ups (fr b.toNat) := by unfold mant; rw [if_neg c1, if_pos c2]
      have m2 : expo b.toNat = -1074 - ups (fr b.toNat) := by unfold expo; rw [if_neg c1, if_pos c2]
      rw [m1, m2]
      have H := of_small b _ (fr b.toNat) _ (ups (fr b.toNat)) hs hx (by simp; omega) (by simp; omega) (by omega) (by omega) hf (by omega) (by omega) ⟨Fl.ups_le _, ?_, ?_, by omega, by omega⟩ w
      · rw [Int.toNat_natCast] at H
        exact H
      · intro j hj
        rw [Int.toNat_natCast]
        have h0 : fr b.toNat ≠ 0 := by intro e; rw [e] at hj; simp [ups] at hj
        refine ⟨Nat.mul_pos (by omega) (Nat.two_pow_pos _), Fl.ups_below h0 hF hj⟩
      · rw [Int.toNat_natCast]
        by_cases h0 : fr b.toNat = 0
        · left; rw [h0]; simp
        · right; exact (Fl.ups_top h0 hF).1
    · have m1 : mant b.toNat = 2 ^ 52 + fr b.toNat := by unfold mant; rw [if_neg c1, if_neg c2]
      have m2 : expo b.toNat = (exf b.toNat : Int) - 1075 := by unfold expo; rw [if_neg c1, if_neg c2]
      rw [m1, m2]
      have H := of_norm b _ _ _ hs hx (by simp; omega) (by simp; omega) (by omega) (by omega) hf (by omega) (by omega) w
      rw [show ((2 ^ 52 + fr b.toNat : Nat) : Int) = (fr b.toNat : Int) + 4503599627370496 by omega]
      exact H
end Go.Proofs.Ytelgmffmekfndaa
