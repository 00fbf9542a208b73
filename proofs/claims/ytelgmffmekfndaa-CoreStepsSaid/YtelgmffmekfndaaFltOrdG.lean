/- The contracts of Less, Equal, none and rank. Condition: the words fit 64 bits. -/
import Derived.Test.YtelgmffmekfndaaFltLawsG
import Derived.Test.YtelgmffmekfndaaFltProgBG
set_option linter.unusedVariables false
namespace Go.Proofs.Ytelgmffmekfndaa
open Go.ChangeShapes Go.WideShapes Go.ChangeAt Go.RowKit
open Fl (sg exf fr isN lessN sameN rankN)

theorem less_any (a b : Int) (a0 : 0 ≤ a) (a1 : a < 18446744073709551616) (b0 : 0 ≤ b) (b1 : b < 18446744073709551616) (w : World) :
    Calls Try.prog 35 #[.int .u64 a, .int .u64 b] w fun e w' => e = .returned (.bool (lessN a.toNat b.toNat)) ∧ w = w' := by
  have hfa := fun w => call_from a w
  have hfb := fun w => call_from b w
  have t : (FloatKind.f64.format.order a.toNat b.toNat == some Ordering.lt) = lessN a.toNat b.toNat := Fl.less_eq _ _ (by omega) (by omega)
  generalize lessN a.toNat b.toNat = L at *
  go_enter Try.func35, Try.ntmps35
  go_wp2
  go_ret
  exact ⟨rfl, rfl⟩

theorem same_any (a b : Int) (a0 : 0 ≤ a) (a1 : a < 18446744073709551616) (b0 : 0 ≤ b) (b1 : b < 18446744073709551616) (w : World) :
    Calls Try.prog 36 #[.int .u64 a, .int .u64 b] w fun e w' => e = .returned (.bool (sameN a.toNat b.toNat)) ∧ w = w' := by
  have hfa := fun w => call_from a w
  have hfb := fun w => call_from b w
  have t : (FloatKind.f64.format.order a.toNat b.toNat == some Ordering.eq) = sameN a.toNat b.toNat := Fl.same_eq _ _ (by omega) (by omega)
  generalize sameN a.toNat b.toNat = L at *
  go_enter Try.func36, Try.ntmps36
  go_wp2
  go_ret
  exact ⟨rfl, rfl⟩

theorem none_any (a : Int) (a0 : 0 ≤ a) (a1 : a < 18446744073709551616) (w : World) :
    Calls Try.prog 37 #[.int .u64 a] w fun e w' => e = .returned (.bool (!decide (isN a.toNat))) ∧ w = w' := by
  have hx : bits .and .u64 (a / 4503599627370496) 2047 = (exf a.toNat : Int) := by
    have := mask_u64 (a / 4503599627370496) (by omega) (by omega) 11 (by omega)
    rw [show ((2 ^ 11 - 1 : Nat) : Int) = 2047 by rfl] at this
    rw [this]
    unfold exf
    omega
  have hf : IntKind.u64.wrap (a * 4096) = (fr a.toNat : Int) * 4096 := by
    rw [IntKind.wrap_u64]
    unfold fr
    omega
  have x0 : (!decide (isN a.toNat)) = (((exf a.toNat : Int) == 2047) && ((fr a.toNat : Int) * 4096 != 0)) := by
    unfold isN
    rw [Bool.eq_iff_iff]
    simp
    omega
  rw [x0]
  clear x0
  generalize (exf a.toNat : Int) = X at *
  generalize (fr a.toNat : Int) * 4096 = F at *
  cases t1 : (X == 2047)
  · go_enter Try.func37, Try.ntmps37
    go_wp2
    go_ret
    exact ⟨rfl, rfl⟩
  · cases t2 : (F != 0)
    all_goals (go_enter Try.func37, Try.ntmps37; go_wp2; go_ret; exact ⟨rfl, rfl⟩)

theorem rank_any (a : Int) (a0 : 0 ≤ a) (a1 : a < 18446744073709551616) (w : World) :
    Calls Try.prog 73 #[.int .u64 a] w fun e w' => e = .returned (.int .i64 (rankN a.toNat)) ∧ w = w' := by
  have hm := mask_u64 a a0 a1 63 (by omega)
  rw [show ((2 ^ 63 - 1 : Nat) : Int) = 9223372036854775807 by rfl] at hm
  have hb : a.toNat % 2 ^ 63 < 9223372036854775808 := Nat.mod_lt _ (by decide)
  unfold rankN sg
  by_cases s : 2 ^ 63 ≤ a.toNat
  · rw [if_pos (by simpa using s)]
    have t : (a / 9223372036854775808 == 1) = true := by simp; omega
    generalize a.toNat % 2 ^ 63 = M at *
    obtain ⟨R, hR⟩ : ∃ R : Int, R = (M : Int) := ⟨_, rfl⟩
    have r0 : 0 ≤ R := by omega
    have r1 : R < 9223372036854775808 := by omega
    rw [← hR] at hm ⊢
    clear hR hb s
    go_enter Try.func73, Try.ntmps73
    go_wp2
    go_ret
    exact ⟨rfl, rfl⟩
  · rw [if_neg (by simpa using s)]
    have t : (a / 9223372036854775808 == 1) = false := by simp; omega
    have e : ((a.toNat % 2 ^ 63 : Nat) : Int) = a := by omega
    have r1 : a < 9223372036854775808 := by omega
    rw [e]
    clear hm hb s e
    go_enter Try.func73, Try.ntmps73
    go_wp2
    go_ret
    exact ⟨rfl, rfl⟩
end Go.Proofs.Ytelgmffmekfndaa
