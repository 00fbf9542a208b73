/- The contracts of Min and Max. Condition: the words fit 64 bits. -/
import Derived.Test.YtelgmffmekfndaaFltLawsG
import Derived.Test.YtelgmffmekfndaaFltProgBG
set_option linter.unusedVariables false
namespace Go.Proofs.Ytelgmffmekfndaa
open Go.ChangeShapes Go.WideShapes Go.ChangeAt Go.RowKit
open Fl (sg exf fr isN lessN sameN rankN minF maxF minN maxN minW maxW nanW)

theorem run_min (x y r : Nat) (h : minF x y = some r) (ats : Array TypeId) (ty : TypeId) (w : World) :
    (Builtin.min_ ats ty #[.float .f64 x, .float .f64 y]).run Try.prog w = .ok (.float .f64 r) w := by
  have e : FloatKind.f64.format.order x y = Ieee.double.order x y := rfl
  have d : FloatKind.f64.decode x = Ieee.double.read x := rfl
  unfold minF at h
  cases o : Ieee.double.order x y with
  | none => rw [o] at h; cases h
  | some c =>
    rw [o] at h
    cases c <;> simp at h <;> subst h <;> simp [Builtin.min_, Builtin.min2, e, d, o]

theorem run_min_nan (x y : Nat) (h : minF x y = none) (ats : Array TypeId) (ty : TypeId) (w : World) :
    (Builtin.min_ ats ty #[.float .f64 x, .float .f64 y]).run Try.prog w = .ok (.float .f64 ((Question.nanMinMax .f64 false x y).cut (w.tape w.drawn (.nanMinMax .f64 false x y)))) w.drew := by
  have e : FloatKind.f64.format.order x y = Ieee.double.order x y := rfl
  unfold minF at h
  cases o : Ieee.double.order x y with
  | none => simp [Builtin.min_, Builtin.min2, e, o, Result.andThen, Question.forced]
  | some c => rw [o] at h; cases c <;> cases h

theorem run_max (x y r : Nat) (h : maxF x y = some r) (ats : Array TypeId) (ty : TypeId) (w : World) :
    (Builtin.max_ ats ty #[.float .f64 x, .float .f64 y]).run Try.prog w = .ok (.float .f64 r) w := by
  have e : FloatKind.f64.format.order x y = Ieee.double.order x y := rfl
  have d : FloatKind.f64.decode x = Ieee.double.read x := rfl
  unfold maxF at h
  cases o : Ieee.double.order x y with
  | none => rw [o] at h; cases h
  | some c =>
    rw [o] at h
    cases c <;> simp at h <;> subst h <;> simp [Builtin.max_, Builtin.max2, e, d, o]

theorem run_max_nan (x y : Nat) (h : maxF x y = none) (ats : Array TypeId) (ty : TypeId) (w : World) :
    (Builtin.max_ ats ty #[.float .f64 x, .float .f64 y]).run Try.prog w = .ok (.float .f64 ((Question.nanMinMax .f64 true x y).cut (w.tape w.drawn (.nanMinMax .f64 true x y)))) w.drew := by
  have e : FloatKind.f64.format.order x y = Ieee.double.order x y := rfl
  unfold maxF at h
  cases o : Ieee.double.order x y with
  | none => simp [Builtin.max_, Builtin.max2, e, o, Result.andThen, Question.forced]
  | some c => rw [o] at h; cases c <;> cases h

theorem min_any (a b : Int) (a0 : 0 ≤ a) (a1 : a < 18446744073709551616) (b0 : 0 ≤ b) (b1 : b < 18446744073709551616) (w : World) :
    Calls Try.prog 40 #[.int .u64 a, .int .u64 b] w fun e w' => e = .returned (.int .u64 (minW a.toNat b.toNat)) ∧ Below w.heap.size w w' := by
  have hfa := fun w => call_from a w
  have hfb := fun w => call_from b w
  have ha : a.toNat < 2 ^ 64 := by omega
  have hb : b.toNat < 2 ^ 64 := by omega
  unfold minW
  by_cases n : isN a.toNat ∧ isN b.toNat
  · rw [if_pos n]
    have hop := fun ats ty w => run_min _ _ _ (Fl.min_num _ _ ha hb n.1 n.2) ats ty w
    have HO := Lib.hid (Fl.min_self _ _ ha hb n.1 n.2)
    clear n ha hb
    generalize minN a.toNat b.toNat = r at *
    go_enter Try.func40, Try.ntmps40
    go_wp2_with (go_at_call 66; refine (out_num r HO.out _).mono ?_; rintro e w1 ⟨rfl, rfl⟩)
    go_ret
    exact ⟨rfl, Below.refl _ _⟩
  · rw [if_neg n]
    have hop := fun ats ty w => run_min_nan _ _ (Fl.min_none _ _ ha hb n) ats ty w
    have hnc := nan_cut (w.tape w.drawn (.nanMinMax .f64 false a.toNat b.toNat)) _ (.inr ⟨false, a.toNat, b.toNat, rfl⟩)
    have hno := Fl.order_nan _ hnc.2 hnc.1 ((Question.nanMinMax .f64 false a.toNat b.toNat).cut (w.tape w.drawn (.nanMinMax .f64 false a.toNat b.toNat)))
    have HO := Lib.hid hno
    clear n hnc hno ha hb
    go_enter Try.func40, Try.ntmps40
    go_wp2_with (go_at_call 66; refine (out_nan _ HO.out _).mono ?_; rintro e w1 ⟨rfl, rfl⟩)
    go_ret
    exact ⟨rfl, (Below.refl _ _).drew⟩

theorem max_any (a b : Int) (a0 : 0 ≤ a) (a1 : a < 18446744073709551616) (b0 : 0 ≤ b) (b1 : b < 18446744073709551616) (w : World) :
    Calls Try.prog 42 #[.int .u64 a, .int .u64 b] w fun e w' => e = .returned (.int .u64 (maxW a.toNat b.toNat)) ∧ Below w.heap.size w w' := by
  have hfa := fun w => call_from a w
  have hfb := fun w => call_from b w
  have ha : a.toNat < 2 ^ 64 := by omega
  have hb : b.toNat < 2 ^ 64 := by omega
  unfold maxW
  by_cases n : isN a.toNat ∧ isN b.toNat
  · rw [if_pos n]
    have hop := fun ats ty w => run_max _ _ _ (Fl.max_num _ _ ha hb n.1 n.2) ats ty w
    have HO := Lib.hid (Fl.max_self _ _ ha hb n.1 n.2)
    clear n ha hb
    generalize maxN a.toNat b.toNat = r at *
    go_enter Try.func42, Try.ntmps42
    go_wp2_with (go_at_call 66; refine (out_num r HO.out _).mono ?_; rintro e w1 ⟨rfl, rfl⟩)
    go_ret
    exact ⟨rfl, Below.refl _ _⟩
  · rw [if_neg n]
    have hop := fun ats ty w => run_max_nan _ _ (Fl.max_none _ _ ha hb n) ats ty w
    have hnc := nan_cut (w.tape w.drawn (.nanMinMax .f64 true a.toNat b.toNat)) _ (.inr ⟨true, a.toNat, b.toNat, rfl⟩)
    have hno := Fl.order_nan _ hnc.2 hnc.1 ((Question.nanMinMax .f64 true a.toNat b.toNat).cut (w.tape w.drawn (.nanMinMax .f64 true a.toNat b.toNat)))
    have HO := Lib.hid hno
    clear n hnc hno ha hb
    go_enter Try.func42, Try.ntmps42
    go_wp2_with (go_at_call 66; refine (out_nan _ HO.out _).mono ?_; rintro e w1 ⟨rfl, rfl⟩)
    go_ret
    exact ⟨rfl, (Below.refl _ _).drew⟩
end Go.Proofs.Ytelgmffmekfndaa
