/- The contracts of the program's FromInt and ToInt: the nearest number; the whole part towards 0, never beyond the greatest. Condition: the word fits 64 bits. -/
import Derived.Test.YtelgmffmekfndaaFltLawsG
import Derived.Test.YtelgmffmekfndaaFltProgBG
import Derived.Laws.Cover2
set_option linter.unusedVariables false
namespace Go.Proofs.Ytelgmffmekfndaa
open Go.ChangeShapes Go.WideShapes Go.ChangeAt Go.RowKit
open Fl (sg exf fr word rung whole plc mag)

theorem of_int (n : Int) : floatOfInt .f64 n = word (decide (n < 0)) (rung n.natAbs 0) := Fl.write_number _ _ _

theorem fromint_any (n : Int) (w : World) :
    Calls Try.prog 31 #[.int .i64 n] w fun e w' => e = .returned (.int .u64 (word (decide (n < 0)) (rung n.natAbs 0))) ∧ w = w' := by
  rw [← of_int]
  have hb := fun w => call_bits (floatOfInt .f64 n) w
  go_enter Try.func31, Try.ntmps31
  go_wp2
  go_ret
  exact ⟨rfl, rfl⟩

theorem toint_nan (a : Int) (h0 : Ieee.double.order a.toNat a.toNat = none) (w : World) :
    Calls Try.prog 33 #[.int .u64 a] w fun e w' => e = .returned (.int .i64 0) ∧ w = w' := by
  have hfa := fun w => call_from a w
  have t0 : (FloatKind.f64.format.order a.toNat a.toNat != some Ordering.eq) = true := by
    show (Ieee.double.order a.toNat a.toNat != some Ordering.eq) = true
    rw [h0]; rfl
  clear h0
  go_enter Try.func33, Try.ntmps33
  go_wp2
  go_ret
  exact ⟨rfl, rfl⟩

theorem toint_less (a : Int) (h0 : Ieee.double.order a.toNat a.toNat = some .eq) (h : Ieee.double.order a.toNat 4890909195324358656 = some .lt) (h2 : Ieee.double.order a.toNat 14114281232179134464 = some .lt) (w : World) :
    Calls Try.prog 33 #[.int .u64 a] w fun e w' => e = .returned (.int .i64 (-9223372036854775808)) ∧ w = w' := by
  have hfa := fun w => call_from a w
  have t0 : (FloatKind.f64.format.order a.toNat a.toNat != some Ordering.eq) = false := by
    show (Ieee.double.order a.toNat a.toNat != some Ordering.eq) = false
    rw [h0]; rfl
  have t1 : (FloatKind.f64.format.order a.toNat 4890909195324358656 == some Ordering.gt || FloatKind.f64.format.order a.toNat 4890909195324358656 == some Ordering.eq) = false := by
    show (Ieee.double.order a.toNat 4890909195324358656 == some Ordering.gt || Ieee.double.order a.toNat 4890909195324358656 == some Ordering.eq) = false
    rw [h]; rfl
  have t2 : (FloatKind.f64.format.order a.toNat 14114281232179134464 == some Ordering.lt) = true := by
    show (Ieee.double.order a.toNat 14114281232179134464 == some Ordering.lt) = true
    rw [h2]; rfl
  clear h h0 h2
  go_enter Try.func33, Try.ntmps33
  go_wp2
  go_ret
  exact ⟨rfl, rfl⟩

set_option maxRecDepth 100000 in
theorem toint_conv (a n : Int) (h0 : Ieee.double.order a.toNat a.toNat = some .eq) (h : Ieee.double.order a.toNat 4890909195324358656 = some .lt) (h2 : Ieee.double.order a.toNat 14114281232179134464 = some .eq ∨ Ieee.double.order a.toNat 14114281232179134464 = some .gt)
    (hn : floatToIntVal .f64 a.toNat .i64 = some n) (w : World) :
    Calls Try.prog 33 #[.int .u64 a] w fun e w' => e = .returned (.int .i64 n) ∧ w = w' := by
  have hfa := fun w => call_from a w
  have t0 : (FloatKind.f64.format.order a.toNat a.toNat != some Ordering.eq) = false := by
    show (Ieee.double.order a.toNat a.toNat != some Ordering.eq) = false
    rw [h0]; rfl
  have t1 : (FloatKind.f64.format.order a.toNat 4890909195324358656 == some Ordering.gt || FloatKind.f64.format.order a.toNat 4890909195324358656 == some Ordering.eq) = false := by
    show (Ieee.double.order a.toNat 4890909195324358656 == some Ordering.gt || Ieee.double.order a.toNat 4890909195324358656 == some Ordering.eq) = false
    rw [h]; rfl
  have t2 : (FloatKind.f64.format.order a.toNat 14114281232179134464 == some Ordering.lt) = false := by
    show (Ieee.double.order a.toNat 14114281232179134464 == some Ordering.lt) = false
    rcases h2 with h2 | h2 <;> rw [h2] <;> rfl
  have hc : ∀ w, (convert 67 2 (.float .f64 a.toNat)).run Try.prog w = .ok (.int .i64 n) w := fun w => run_convert_float_int w 67 2 .f64 .i64 a.toNat n (by rw [Try.underlying67]; rfl) Try.underlying2 hn
  clear h h0 h2 hn
  go_enter Try.func33, Try.ntmps33
  go_wp2_with (simp only [hc])
  all_goals (go_ret; exact ⟨rfl, rfl⟩)

theorem toint_any (a : Int) (a0 : 0 ≤ a) (a1 : a < 18446744073709551616) (w : World) :
    Calls Try.prog 33 #[.int .u64 a] w fun e w' => e = .returned (.int .i64 (whole a.toNat)) ∧ w = w' := by
  have hb : a.toNat < 2 ^ 64 := by omega
  have hr := Fl.rungOf _ hb
  have hf := Fl.fr_lt a.toNat
  have hx := Fl.exf_lt a.toNat
  have bd := Fl.whole_bd a.toNat
  by_cases k : exf a.toNat = 2047
  · by_cases f : fr a.toNat = 0
    · obtain ⟨o1, o2, o3⟩ := Fl.order_inf _ hb k f
      have hw : whole a.toNat = if sg a.toNat then -9223372036854775808 else 9223372036854775807 := by unfold whole; rw [if_pos k, if_pos f]
      rw [hw]
      cases s : sg a.toNat
      · exact toint_big a o1 (.inl (o2 s)) w
      · exact toint_less a o1 (o3 s).1 (o3 s).2 w
    · have hw : whole a.toNat = 0 := by unfold whole; rw [if_pos k, if_neg f]
      rw [hw]
      exact toint_nan a (Fl.order_nan _ (by omega) hb _) w
  have o1 := Fl.order_self a.toNat (by omega) hb
  have hv (h : (Ieee.double.read a.toNat).toInt .zero = some (whole a.toNat)) : floatToIntVal .f64 a.toNat .i64 = some (whole a.toNat) := by
    unfold floatToIntVal
    have h' : (FloatKind.f64.decode a.toNat).toInt .zero = some (whole a.toNat) := h
    rw [h']
    have : IntKind.i64.min ≤ whole a.toNat ∧ whole a.toNat ≤ IntKind.i64.max := ⟨bd.1, bd.2⟩
    simp only [this, and_self, if_true]
  by_cases q : plc a.toNat ≤ 10
  · have om := Fl.order_mid _ hb k q
    exact toint_conv a _ o1 om.1 (.inr om.2) (hv (Fl.toInt_whole _ hb k q)) w
  · have of := Fl.order_far _ hb k (by omega)
    cases s : sg a.toNat
    · rw [Fl.whole_far _ k (by omega), s]
      exact toint_big a o1 (of.1 s) w
    · obtain ⟨g1, g2 | ⟨g2, g3⟩⟩ := of.2 s
      · rw [Fl.whole_far _ k (by omega), s]
        exact toint_less a o1 g1 g2 w
      · exact toint_conv a _ o1 g1 (.inl g2) (hv (Fl.toInt_least _ hb k (by omega) s g3)) w
end Go.Proofs.Ytelgmffmekfndaa
