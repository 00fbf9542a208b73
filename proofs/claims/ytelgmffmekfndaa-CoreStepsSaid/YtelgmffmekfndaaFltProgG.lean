/- The contracts of the functions of flt: each answers what the given reading of the standard gives; what is no number is one word. Condition: the words fit 64 bits. -/
import Derived.Test.YtelgmffmekfndaaFltLawsG
import Derived.Test.YtelgmffmekfndaaFltAddsG
import Derived.Laws.FloatArith
import Derived.Deep.Draws
set_option linter.unusedVariables false
namespace Go.Proofs.Ytelgmffmekfndaa
open Go.ChangeShapes Go.WideShapes Go.ChangeAt Go.RowKit
open Fl (numOf nanW)

theorem call_from (n : Int) (w : World) : (callFunc 67 #[.int .u64 n]).run Try.prog w = .ok (.value (.float .f64 n.toNat)) w := by kernel_rfl
theorem call_bits (b : Nat) (w : World) : (callFunc 72 #[.float .f64 b]).run Try.prog w = .ok (.value (.int .u64 b)) w := by kernel_rfl

theorem out_num (x : Nat) (h : Ieee.double.order x x = some .eq) (w : World) :
    Calls Try.prog 66 #[.float .f64 x] w fun e w' => e = .returned (.int .u64 x) ∧ w = w' := by
  have h1 : (FloatKind.f64.format.order x x != some Ordering.eq) = false := by
    show (Ieee.double.order x x != some Ordering.eq) = false
    rw [h]; rfl
  have hb := fun w => call_bits x w
  go_enter Try.func66, Try.ntmps66
  go_wp2
  go_ret
  exact ⟨rfl, rfl⟩

theorem out_nan (x : Nat) (h : Ieee.double.order x x = none) (w : World) :
    Calls Try.prog 66 #[.float .f64 x] w fun e w' => e = .returned (.int .u64 9221120237041090560) ∧ w = w' := by
  have h1 : (FloatKind.f64.format.order x x != some Ordering.eq) = true := by
    show (Ieee.double.order x x != some Ordering.eq) = true
    rw [h]; rfl
  go_enter Try.func66, Try.ntmps66
  go_wp2
  go_ret
  exact ⟨rfl, rfl⟩

/-- a NaN that the tape chose -/
theorem nan_cut (t : Nat) (q : Question) (hq : (∃ x y, q = .nanBits .f64 x y) ∨ ∃ b x y, q = .nanMinMax .f64 b x y) : q.cut t < 2 ^ 64 ∧ 2047 * 2 ^ 52 < q.cut t % 2 ^ 63 := by
  have e : q.cut t = (t % 2) * 2 ^ 63 + 0x7ff0000000000000 + 1 + (t / 2) % (2 ^ 52 - 1) := by
    rcases hq with ⟨x, y, rfl⟩ | ⟨b, x, y, rfl⟩ <;> rfl
  rw [e]
  have hf : t / 2 % (2 ^ 52 - 1) < 2 ^ 52 - 1 := Nat.mod_lt _ (by decide)
  generalize t / 2 % (2 ^ 52 - 1) = f at *
  rcases Nat.mod_two_eq_zero_or_one t with h | h <;> rw [h] <;> omega

theorem add_any (a b : Int) (a0 : 0 ≤ a) (a1 : a < 18446744073709551616) (b0 : 0 ≤ b) (b1 : b < 18446744073709551616) (w : World) :
    Calls Try.prog 22 #[.int .u64 a, .int .u64 b] w fun e w' => e = .returned (.int .u64 (numOf (Ieee.double.add a.toNat b.toNat))) ∧ Below w.heap.size w w' := by
  have hfa := fun w => call_from a w
  have hfb := fun w => call_from b w
  cases h : Ieee.double.add a.toNat b.toNat with
  | some r =>
    have hbd := Fl.add_bd h
    have hor := Fl.order_self r hbd.2 hbd.1
    have hop : ∀ t w, (binOp .add t (.float .f64 a.toNat) (.float .f64 b.toNat)).run Try.prog w = .ok (.float .f64 r) w := fun t w => run_float_arith w .add t .f64 _ _ r h
    clear h hbd
    have HO := Lib.hid hor
    clear hor
    go_enter Try.func22, Try.ntmps22
    go_wp2_with fail
    refine (out_num r HO.out _).mono ?_
    rintro e w1 ⟨rfl, rfl⟩
    go_wp2_with fail
    go_ret
    exact ⟨rfl, Below.refl _ _⟩
  | none =>
    have hop : ∀ t w, (binOp .add t (.float .f64 a.toNat) (.float .f64 b.toNat)).run Try.prog w = .ok (.float .f64 ((Question.nanBits .f64 a.toNat b.toNat).cut (w.tape w.drawn (.nanBits .f64 a.toNat b.toNat)))) w.drew := fun t w => by
      have h2 : FloatKind.f64.format.add a.toNat b.toNat = none := h
      simp [binOp, Op.floatArith, h2, Question.forced]
    have hnc := nan_cut (w.tape w.drawn (.nanBits .f64 a.toNat b.toNat)) _ (.inl ⟨a.toNat, b.toNat, rfl⟩)
    have hno := Fl.order_nan _ hnc.2 hnc.1 ((Question.nanBits .f64 a.toNat b.toNat).cut (w.tape w.drawn (.nanBits .f64 a.toNat b.toNat)))
    have HO := Lib.hid hno
    clear h hnc hno
    go_enter Try.func22, Try.ntmps22
    go_wp2_with fail
    refine (out_nan _ HO.out _).mono ?_
    rintro e w1 ⟨rfl, rfl⟩
    go_wp2_with fail
    go_ret
    exact ⟨rfl, (Below.refl _ _).drew⟩

theorem sub_any (a b : Int) (a0 : 0 ≤ a) (a1 : a < 18446744073709551616) (b0 : 0 ≤ b) (b1 : b < 18446744073709551616) (w : World) :
    Calls Try.prog 24 #[.int .u64 a, .int .u64 b] w fun e w' => e = .returned (.int .u64 (numOf (Ieee.double.sub a.toNat b.toNat))) ∧ Below w.heap.size w w' := by
  have hfa := fun w => call_from a w
  have hfb := fun w => call_from b w
  cases h : Ieee.double.sub a.toNat b.toNat with
  | some r =>
    have hbd := Fl.sub_bd h
    have hor := Fl.order_self r hbd.2 hbd.1
    have hop : ∀ t w, (binOp .sub t (.float .f64 a.toNat) (.float .f64 b.toNat)).run Try.prog w = .ok (.float .f64 r) w := fun t w => run_float_arith w .sub t .f64 _ _ r h
    clear h hbd
    have HO := Lib.hid hor
    clear hor
    go_enter Try.func24, Try.ntmps24
    go_wp2_with fail
    refine (out_num r HO.out _).mono ?_
    rintro e w1 ⟨rfl, rfl⟩
    go_wp2_with fail
    go_ret
    exact ⟨rfl, Below.refl _ _⟩
  | none =>
    have hop : ∀ t w, (binOp .sub t (.float .f64 a.toNat) (.float .f64 b.toNat)).run Try.prog w = .ok (.float .f64 ((Question.nanBits .f64 a.toNat b.toNat).cut (w.tape w.drawn (.nanBits .f64 a.toNat b.toNat)))) w.drew := fun t w => by
      have h2 : FloatKind.f64.format.sub a.toNat b.toNat = none := h
      simp [binOp, Op.floatArith, h2, Question.forced]
    have hnc := nan_cut (w.tape w.drawn (.nanBits .f64 a.toNat b.toNat)) _ (.inl ⟨a.toNat, b.toNat, rfl⟩)
    have hno := Fl.order_nan _ hnc.2 hnc.1 ((Question.nanBits .f64 a.toNat b.toNat).cut (w.tape w.drawn (.nanBits .f64 a.toNat b.toNat)))
    have HO := Lib.hid hno
    clear h hnc hno
    go_enter Try.func24, Try.ntmps24
    go_wp2_with fail
    refine (out_nan _ HO.out _).mono ?_
    rintro e w1 ⟨rfl, rfl⟩
    go_wp2_with fail
    go_ret
    exact ⟨rfl, (Below.refl _ _).drew⟩

theorem mul_any (a b : Int) (a0 : 0 ≤ a) (a1 : a < 18446744073709551616) (b0 : 0 ≤ b) (b1 : b < 18446744073709551616) (w : World) :
    Calls Try.prog 25 #[.int .u64 a, .int .u64 b] w fun e w' => e = .returned (.int .u64 (numOf (Ieee.double.mul a.toNat b.toNat))) ∧ Below w.heap.size w w' := by
  have hfa := fun w => call_from a w
  have hfb := fun w => call_from b w
  cases h : Ieee.double.mul a.toNat b.toNat with
  | some r =>
    have hbd := Fl.mul_bd h
    have hor := Fl.order_self r hbd.2 hbd.1
    have hop : ∀ t w, (binOp .mul t (.float .f64 a.toNat) (.float .f64 b.toNat)).run Try.prog w = .ok (.float .f64 r) w := fun t w => run_float_arith w .mul t .f64 _ _ r h
    clear h hbd
    have HO := Lib.hid hor
    clear hor
    go_enter Try.func25, Try.ntmps25
    go_wp2_with fail
    refine (out_num r HO.out _).mono ?_
    rintro e w1 ⟨rfl, rfl⟩
    go_wp2_with fail
    go_ret
    exact ⟨rfl, Below.refl _ _⟩
  | none =>
    have hop : ∀ t w, (binOp .mul t (.float .f64 a.toNat) (.float .f64 b.toNat)).run Try.prog w = .ok (.float .f64 ((Question.nanBits .f64 a.toNat b.toNat).cut (w.tape w.drawn (.nanBits .f64 a.toNat b.toNat)))) w.drew := fun t w => by
      have h2 : FloatKind.f64.format.mul a.toNat b.toNat = none := h
      simp [binOp, Op.floatArith, h2, Question.forced]
    have hnc := nan_cut (w.tape w.drawn (.nanBits .f64 a.toNat b.toNat)) _ (.inl ⟨a.toNat, b.toNat, rfl⟩)
    have hno := Fl.order_nan _ hnc.2 hnc.1 ((Question.nanBits .f64 a.toNat b.toNat).cut (w.tape w.drawn (.nanBits .f64 a.toNat b.toNat)))
    have HO := Lib.hid hno
    clear h hnc hno
    go_enter Try.func25, Try.ntmps25
    go_wp2_with fail
    refine (out_nan _ HO.out _).mono ?_
    rintro e w1 ⟨rfl, rfl⟩
    go_wp2_with fail
    go_ret
    exact ⟨rfl, (Below.refl _ _).drew⟩

theorem div_any (a b : Int) (a0 : 0 ≤ a) (a1 : a < 18446744073709551616) (b0 : 0 ≤ b) (b1 : b < 18446744073709551616) (w : World) :
    Calls Try.prog 27 #[.int .u64 a, .int .u64 b] w fun e w' => e = .returned (.int .u64 (numOf (Ieee.double.div a.toNat b.toNat))) ∧ Below w.heap.size w w' := by
  have hfa := fun w => call_from a w
  have hfb := fun w => call_from b w
  cases h : Ieee.double.div a.toNat b.toNat with
  | some r =>
    have hbd := Fl.div_bd h
    have hor := Fl.order_self r hbd.2 hbd.1
    have hop : ∀ t w, (binOp .quo t (.float .f64 a.toNat) (.float .f64 b.toNat)).run Try.prog w = .ok (.float .f64 r) w := fun t w => run_float_arith w .quo t .f64 _ _ r h
    clear h hbd
    have HO := Lib.hid hor
    clear hor
    go_enter Try.func27, Try.ntmps27
    go_wp2_with fail
    refine (out_num r HO.out _).mono ?_
    rintro e w1 ⟨rfl, rfl⟩
    go_wp2_with fail
    go_ret
    exact ⟨rfl, Below.refl _ _⟩
  | none =>
    have hop : ∀ t w, (binOp .quo t (.float .f64 a.toNat) (.float .f64 b.toNat)).run Try.prog w = .ok (.float .f64 ((Question.nanBits .f64 a.toNat b.toNat).cut (w.tape w.drawn (.nanBits .f64 a.toNat b.toNat)))) w.drew := fun t w => by
      have h2 : FloatKind.f64.format.div a.toNat b.toNat = none := h
      simp [binOp, Op.floatArith, h2, Question.forced]
    have hnc := nan_cut (w.tape w.drawn (.nanBits .f64 a.toNat b.toNat)) _ (.inl ⟨a.toNat, b.toNat, rfl⟩)
    have hno := Fl.order_nan _ hnc.2 hnc.1 ((Question.nanBits .f64 a.toNat b.toNat).cut (w.tape w.drawn (.nanBits .f64 a.toNat b.toNat)))
    have HO := Lib.hid hno
    clear h hnc hno
    go_enter Try.func27, Try.ntmps27
    go_wp2_with fail
    refine (out_nan _ HO.out _).mono ?_
    rintro e w1 ⟨rfl, rfl⟩
    go_wp2_with fail
    go_ret
    exact ⟨rfl, (Below.refl _ _).drew⟩

end Go.Proofs.Ytelgmffmekfndaa
