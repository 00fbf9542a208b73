/- The contracts of flt's Sqrt, ToInt, Class, and of the laws' examples. Condition: the words fit 64 bits. -/
import Derived.Test.YtelgmffmekfndaaFltProgG
import Derived.Laws.LoneSync
set_option linter.unusedVariables false
namespace Go.Proofs.Ytelgmffmekfndaa
open Go.ChangeShapes Go.WideShapes Go.ChangeAt Go.RowKit
open Fl (numOf nanW exf fr)

/-- math.sqrt, as the model has it -/
noncomputable def sqrtSem (x : Nat) : Sem Value :=
  match FloatKind.f64.format.sqrt x with
  | some r => pure (.float .f64 r)
  | none => do pure (.float .f64 (← choose (.nanBits .f64 x x)))
theorem sqrt_is (x : Nat) : Extern.MathSqrt.sqrt #[.float .f64 x] = sqrtSem x := rfl

theorem run_sqrt (x : Nat) (w : World) : (callFunc 91 #[.float .f64 x]).run Try.prog w = ((sqrtSem x).run Try.prog w).andThen (fun v w => .ok (.value v) w) := by
  rw [run_callFunc_extern Try.func91 (by kernel_rfl) (by kernel_rfl) (by kernel_rfl) (e := Extern.MathSqrt.sqrt) (by kernel_rfl), sqrt_is]

theorem call_sqrt (x r : Nat) (h : Ieee.double.sqrt x = some r) (w : World) : (callFunc 91 #[.float .f64 x]).run Try.prog w = .ok (.value (.float .f64 r)) w := by
  rw [run_sqrt]
  have h2 : FloatKind.f64.format.sqrt x = some r := h
  simp [sqrtSem, h2, Result.andThen]
theorem call_sqrt_nan (x : Nat) (h : Ieee.double.sqrt x = none) (w : World) : (callFunc 91 #[.float .f64 x]).run Try.prog w = .ok (.value (.float .f64 ((Question.nanBits .f64 x x).cut (w.tape w.drawn (.nanBits .f64 x x))))) w.drew := by
  rw [run_sqrt]
  have h2 : FloatKind.f64.format.sqrt x = none := h
  simp [sqrtSem, h2, Result.andThen, Question.forced]

theorem sqrt_any (a : Int) (a0 : 0 ≤ a) (a1 : a < 18446744073709551616) (w : World) :
    Calls Try.prog 29 #[.int .u64 a] w fun e w' => e = .returned (.int .u64 (numOf (Ieee.double.sqrt a.toNat))) ∧ Below w.heap.size w w' := by
  have hfa := fun w => call_from a w
  cases h : Ieee.double.sqrt a.toNat with
  | some r =>
    have hbd := Fl.sqrt_bd h
    have hor := Fl.order_self r hbd.2 hbd.1
    have hop := fun w => call_sqrt a.toNat r h w
    clear h hbd
    have HO := Lib.hid hor
    clear hor
    go_enter Try.func29, Try.ntmps29
    go_wp2_with (first | (go_at_call 66; refine (out_num r HO.out _).mono ?_; rintro e w1 ⟨rfl, rfl⟩) | (go_at_call 71; go_in))
    go_ret
    exact ⟨rfl, Below.refl _ _⟩
  | none =>
    have hop := fun w => call_sqrt_nan a.toNat h w
    have hnc := nan_cut (w.tape w.drawn (.nanBits .f64 a.toNat a.toNat)) _ (.inl ⟨a.toNat, a.toNat, rfl⟩)
    have hno := Fl.order_nan _ hnc.2 hnc.1 ((Question.nanBits .f64 a.toNat a.toNat).cut (w.tape w.drawn (.nanBits .f64 a.toNat a.toNat)))
    have HO := Lib.hid hno
    clear h hnc hno
    go_enter Try.func29, Try.ntmps29
    go_wp2_with (first | (go_at_call 66; refine (out_nan _ HO.out _).mono ?_; rintro e w1 ⟨rfl, rfl⟩) | (go_at_call 71; go_in))
    go_ret
    exact ⟨rfl, (Below.refl _ _).drew⟩

/-- which class: nought, small, normal, infinite, none -/
def classN (a : Nat) : Nat := if exf a = 2047 then (if fr a = 0 then 3 else 4) else if exf a = 0 then (if fr a = 0 then 0 else 1) else 2

theorem class_any (a : Int) (a0 : 0 ≤ a) (a1 : a < 18446744073709551616) (w : World) :
    Calls Try.prog 44 #[.int .u64 a] w fun e w' => e = .returned (.int .i64 (classN a.toNat)) ∧ w = w' := by
  have hx : bits .and .u64 (a / 4503599627370496) 2047 = (exf a.toNat : Int) := by
    have := mask_u64 (a / 4503599627370496) (by omega) (by omega) 11 (by omega)
    rw [show ((2 ^ 11 - 1 : Nat) : Int) = 2047 by rfl] at this
    rw [this]
    unfold exf
    omega
  have hf : IntKind.u64.wrap (a * 4096) = (fr a.toNat : Int) * 4096 := by
    rw [IntKind.wrap_u64]
    unfold fr
    omega
  have hX := Fl.exf_lt a.toNat
  have hF := Fl.fr_lt a.toNat
  unfold classN
  generalize exf a.toNat = X at *
  generalize fr a.toNat = F at *
  obtain ⟨Xi, hXi⟩ : ∃ Xi : Int, Xi = X := ⟨_, rfl⟩
  rw [← hXi] at hx
  obtain ⟨Fi, hFi⟩ : ∃ Fi : Int, Fi = (F : Int) * 4096 := ⟨_, rfl⟩
  rw [← hFi] at hf
  by_cases c1 : X = 2047
  · have t1 : (Xi == 2047) = true := by simp; omega
    rw [if_pos c1]
    by_cases c2 : F = 0
    · have t2 : (Fi != 0) = false := by simp; omega
      rw [if_pos c2]
      clear c1 c2 hX hF hXi hFi
      go_enter Try.func44, Try.ntmps44
      go_wp2
      go_ret
      exact ⟨rfl, rfl⟩
    · have t2 : (Fi != 0) = true := by simp; omega
      rw [if_neg c2]
      clear c1 c2 hX hF hXi hFi
      go_enter Try.func44, Try.ntmps44
      go_wp2
      go_ret
      exact ⟨rfl, rfl⟩
  · have t1 : (Xi == 2047) = false := by simp; omega
    rw [if_neg c1]
    by_cases c3 : X = 0
    · have t3 : (Xi != 0) = false := by simp; omega
      rw [if_pos c3]
      by_cases c2 : F = 0
      · have t2 : (Fi != 0) = false := by simp; omega
        rw [if_pos c2]
        clear c1 c2 c3 hX hF hXi hFi
        go_enter Try.func44, Try.ntmps44
        go_wp2
        go_ret
        exact ⟨rfl, rfl⟩
      · have t2 : (Fi != 0) = true := by simp; omega
        rw [if_neg c2]
        clear c1 c2 c3 hX hF hXi hFi
        go_enter Try.func44, Try.ntmps44
        go_wp2
        go_ret
        exact ⟨rfl, rfl⟩
    · have t3 : (Xi != 0) = true := by simp; omega
      rw [if_neg c3]
      clear c1 c3 hX hF hXi hFi
      go_enter Try.func44, Try.ntmps44
      go_wp2
      go_ret
      exact ⟨rfl, rfl⟩

theorem toint_big (a : Int) (h0 : Ieee.double.order a.toNat a.toNat = some .eq) (h : Ieee.double.order a.toNat 4890909195324358656 = some .gt ∨ Ieee.double.order a.toNat 4890909195324358656 = some .eq) (w : World) :
    Calls Try.prog 33 #[.int .u64 a] w fun e w' => e = .returned (.int .i64 9223372036854775807) ∧ w = w' := by
  have hfa := fun w => call_from a w
  have t0 : (FloatKind.f64.format.order a.toNat a.toNat != some Ordering.eq) = false := by
    show (Ieee.double.order a.toNat a.toNat != some Ordering.eq) = false
    rw [h0]; rfl
  have t1 : (FloatKind.f64.format.order a.toNat 4890909195324358656 == some Ordering.gt || FloatKind.f64.format.order a.toNat 4890909195324358656 == some Ordering.eq) = true := by
    show (Ieee.double.order a.toNat 4890909195324358656 == some Ordering.gt || Ieee.double.order a.toNat 4890909195324358656 == some Ordering.eq) = true
    rcases h with h | h <;> rw [h] <;> rfl
  clear h h0
  go_enter Try.func33, Try.ntmps33
  go_wp2
  go_ret
  exact ⟨rfl, rfl⟩

set_option maxRecDepth 100000 in
theorem fit_any (w : World) : Calls Try.prog 21 #[] w fun e w' => e = .returned (.bool true) ∧ Below w.heap.size w w' := by
  have e1 : numOf (Ieee.double.add (0 : Int).toNat (9223372036854775808 : Int).toNat) = 0 := by decide
  have e2 : Ieee.double.order (4890909195324358656 : Int).toNat (4890909195324358656 : Int).toNat = some .eq := by decide
  have e3 : numOf (Ieee.double.sqrt (9223372036854775808 : Int).toNat) = 9223372036854775808 := by decide
  have e4 : classN (9221120237041090560 : Int).toNat = 4 := by decide
  have H1 := Lib.hid e1
  have H2 := Lib.hid e2
  have H3 := Lib.hid e3
  have H4 := Lib.hid e4
  clear e1 e2 e3 e4
  go_enter Try.func21, Try.ntmps21
  go_wp2_with fail
  refine (add_any 0 9223372036854775808 (by omega) (by omega) (by omega) (by omega) _).mono ?_
  rw [H1.out]
  rintro e w1 ⟨rfl, hb1⟩
  go_wp2_with fail
  refine (toint_big _ H2.out (.inr H2.out) _).mono ?_
  rintro e w2 ⟨rfl, rfl⟩
  go_wp2_with fail
  refine (sqrt_any 9223372036854775808 (by omega) (by omega) _).mono ?_
  rw [H3.out]
  rintro e w2 ⟨rfl, hb2⟩
  go_wp2_with fail
  refine (class_any 9221120237041090560 (by omega) (by omega) _).mono ?_
  rw [H4.out]
  rintro e w3 ⟨rfl, rfl⟩
  go_wp2_with fail
  go_ret
  exact ⟨rfl, hb1.trans (hb2.mono hb1.size)⟩
end Go.Proofs.Ytelgmffmekfndaa
