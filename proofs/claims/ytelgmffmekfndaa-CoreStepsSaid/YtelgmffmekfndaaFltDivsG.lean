/- The contract of the reference's Div. The contract of the reference's Div where an operand is no number, infinite, or nought. The contract of the reference's Div: it answers the quotient that the standard gives, of whatever two words. Condition: the words fit 64 bits. -/
import Derived.Test.YtelgmffmekfndaaFltAddsG
import Derived.Test.YtelgmffmekfndaaFltLawsG
import Derived.Deep.QuietTactic
import Derived.BigQuiet
import Derived.Outline
set_option linter.unusedVariables false
namespace Go.Proofs.Ytelgmffmekfndaa
open Go.ChangeShapes Go.WideShapes Go.ChangeAt Go.RowKit
open Fl (sg exf fr kindOf mant expo ups word rung numOf divm)

theorem or_one_even (q : Int) (h0 : 0 ≤ q) (h1 : q < 9223372036854775808) : bits .or .u64 (q * 2) 1 = q * 2 + 1 := by
  have e := u64_or (q * 2) 1 (by omega) (by omega) (by omega) (by omega)
  rw [e, show (1 : Int).toNat = 1 by rfl, Fl.or_one, if_neg (by omega)]
  omega
theorem or_one_int (q : Int) (h0 : 0 ≤ q) (h1 : q < 9223372036854775808) : bits .or .u64 q 1 = ((q.toNat ||| 1 : Nat) : Int) := by
  have e := u64_or q 1 (by omega) (by omega) (by omega) (by omega)
  rw [e, show (1 : Int).toNat = 1 by rfl]

/-- after i rounds: the quotient's digits so far, and what is left, twice -/
def DivRel (X Y : Nat) (s10 s11 s12 : Value) : Prop := ∃ (q r : Int) (i : Nat), s10 = .int .u64 q ∧ s11 = .int .u64 r ∧ s12 = .int .i64 i ∧ i ≤ 57 ∧ 0 ≤ q ∧ q < 144115188075855872 ∧ 0 ≤ r ∧ r < 2 * (Y : Int) ∧ X * 2 ^ i = 2 * (q.toNat * Y) + r.toNat ∧ q.toNat < 2 ^ i

set_option maxRecDepth 100000 in
set_option maxHeartbeats 4000000 in
theorem div_fin (x y : Int) (sa sb : Bool) (ma ea mb eb : Int) (hx : OfIs x 102 sa ma ea) (hy : OfIs y 102 sb mb eb)
    (a0 : (ma == 0) = false) (a1 : 4503599627370496 ≤ ma) (a2 : ma < 9007199254740992) (u0 : -1126 ≤ ea) (u1 : ea ≤ 971) (b0 : (mb == 0) = false) (b1 : 4503599627370496 ≤ mb) (b2 : mb < 9007199254740992) (v0 : -1126 ≤ eb) (v1 : eb ≤ 971) (w : World) :
    Calls Try.prog 28 #[.int .u64 x, .int .u64 y] w fun e w' => e = .returned (.int .u64 (word (!(sa == sb)) (rung (divm ma.toNat mb.toNat) (ea - eb - 56)))) ∧ Below w.heap.size w w' := by
  go_enter Try.func28, Try.ntmps28
  go_wp2_with fail
  refine (hx _).mono ?_
  rintro e w1 ⟨rfl, hb1⟩
  obtain ⟨hc1, hf1⟩ := bcell hb1
  go_wp2_with fail
  refine (hy _).mono ?_
  rintro e w2 ⟨rfl, hb2⟩
  obtain ⟨hc2, hf2⟩ := bcell hb2
  have hz1 := hb1.size
  have hz2 := hb2.size
  go_wp2_with fail
  go_quiet (fail)
  go_wp2_with fail
  go_quiet (fail)
  go_wp2_with fail
  go_loop [10, 11, 12] (fun s10 s11 s12 => DivRel ma.toNat mb.toNat s10 s11 s12) (fun _ _ s12 => 57 - (intOf s12).toNat)
  case atStart => exact ⟨0, ma, 0, rfl, rfl, rfl, by omega, by omega, by omega, by omega, by omega, by simp, by decide⟩
  case round =>
    obtain ⟨q, r, i, rfl, rfl, rfl, i0, q0, q1, r0, r1', HI'⟩ := hrel
    have r1 : r < 2 * mb := by omega
    have HI := Lib.hid HI'
    clear HI' r1'
    by_cases hi : i < 57
    · by_cases hr : mb ≤ r
      · have ho := or_one_even q q0 (by omega)
        go_wp2_with fail
        go_round
        case rel =>
          have t1 := Fl.step_yes _ _ _ _ _ HI.out.1 (show mb.toNat ≤ r.toNat by omega)
          have t2 := Fl.step_lt _ _ HI.out.2 hi
          have e1 : (q * 2 + 1).toNat = q.toNat * 2 + 1 := by omega
          have e2 : ((r - mb) * 2).toNat = (r.toNat - mb.toNat) * 2 := by omega
          exact ⟨.int .u64 (q * 2 + 1), .int .u64 ((r - mb) * 2), .int .i64 ((i + 1 : Nat) : Int), ⟨q * 2 + 1, (r - mb) * 2, i + 1, rfl, rfl, rfl, by omega, by omega, by omega, by omega, by omega, by rw [e1, e2]; exact ⟨t1, t2.1⟩⟩, rfl, rfl, by go_num⟩
        case measure => simp [intOf]; omega
      · go_wp2_with fail
        go_round
        case rel =>
          have t1 := Fl.step_no _ _ _ _ _ HI.out.1
          have t2 := Fl.step_lt _ _ HI.out.2 hi
          have e1 : (q * 2).toNat = q.toNat * 2 := by omega
          have e2 : (r * 2).toNat = r.toNat * 2 := by omega
          exact ⟨.int .u64 (q * 2), .int .u64 (r * 2), .int .i64 ((i + 1 : Nat) : Int), ⟨q * 2, r * 2, i + 1, rfl, rfl, rfl, by omega, by omega, by omega, by omega, by omega, by rw [e1, e2]; exact ⟨t1, by omega⟩⟩, rfl, rfl, by go_num⟩
        case measure => simp [intOf]; omega
    · obtain rfl : i = 57 := by omega
      have hd := Fl.divm_of _ _ _ _ (show 0 < mb.toNat by omega) HI.out.1 (by omega)
      by_cases hr : r = 0
      · subst hr
        rw [if_pos (by rfl)] at hd
        have HD := Lib.hid hd
        clear hd
        go_wp2_with fail
        refine (round_any _ _ _ (by omega) (by omega) (by omega) (by omega) _).mono ?_
        rintro e w3 ⟨rfl, rfl⟩
        go_wp2_with fail
        go_ret
        refine ⟨ret_int (by rw [HD.out]), ?_⟩
        go_light
        (repeat (first | exact Below.refl _ _ | exact hb1 | refine below_drewN ?_ _ | (refine Below.alloc ?_ (by first | omega | (simp; done) | (simp; omega)) _) | refine Below.drew ?_ | (refine Below.setCell ?_ (by first | omega | (simp; done) | (simp; omega)) _) | (refine Below.trans ?_ (hb2.mono (by first | omega | (simp; done) | (simp; omega)))) | (refine Below.trans ?_ (hb1.mono (by first | omega | (simp; done) | (simp; omega))))))
      · have hr1 : (r != 0) = true := by simp; omega
        rw [if_neg (by omega)] at hd
        have ho := or_one_int q q0 (by omega)
        have hle : q.toNat ||| 1 ≤ q.toNat + 1 := by rw [Fl.or_one]; split <;> omega
        generalize hg : q.toNat ||| 1 = M at *
        have HD := Lib.hid hd
        clear hd hg hr
        go_wp2_with fail
        refine (round_any _ _ _ (by omega) (by omega) (by omega) (by omega) _).mono ?_
        rintro e w3 ⟨rfl, rfl⟩
        go_wp2_with fail
        go_ret
        refine ⟨ret_int (by rw [HD.out]), ?_⟩
        go_light
        (repeat (first | exact Below.refl _ _ | exact hb1 | refine below_drewN ?_ _ | (refine Below.alloc ?_ (by first | omega | (simp; done) | (simp; omega)) _) | refine Below.drew ?_ | (refine Below.setCell ?_ (by first | omega | (simp; done) | (simp; omega)) _) | (refine Below.trans ?_ (hb2.mono (by first | omega | (simp; done) | (simp; omega)))) | (refine Below.trans ?_ (hb1.mono (by first | omega | (simp; done) | (simp; omega))))))
end Go.Proofs.Ytelgmffmekfndaa
set_option linter.unusedVariables false
namespace Go.Proofs.Ytelgmffmekfndaa
open Go.ChangeShapes Go.WideShapes Go.ChangeAt Go.RowKit
open Fl (sg exf fr kindOf mant expo ups word rung numOf)

set_option maxRecDepth 100000 in
theorem div_n1 (x y : Int) (sa sb : Bool) (ma ea mb eb : Int) (hx : OfIs x 110 sa ma ea) (hy : OfIs y 110 sb mb eb) (w : World) :
    Calls Try.prog 28 #[.int .u64 x, .int .u64 y] w fun e w' => e = .returned (.int .u64 9221120237041090560) ∧ Below w.heap.size w w' := by
  go_enter Try.func28, Try.ntmps28
  go_wp2_with fail
  refine (hx _).mono ?_
  rintro e w1 ⟨rfl, hb1⟩
  obtain ⟨hc1, hf1⟩ := bcell hb1
  go_wp2_with fail
  refine (hy _).mono ?_
  rintro e w2 ⟨rfl, hb2⟩
  obtain ⟨hc2, hf2⟩ := bcell hb2
  have hz1 := hb1.size
  have hz2 := hb2.size
  go_wp2_with fail
  go_quiet (fail)
  go_wp2_with fail
  go_ret
  refine ⟨rfl, ?_⟩
  go_light
  (repeat (first | exact Below.refl _ _ | exact hb1 | refine below_drewN ?_ _ | (refine Below.alloc ?_ (by first | omega | (simp; done) | (simp; omega)) _) | refine Below.drew ?_ | (refine Below.setCell ?_ (by first | omega | (simp; done) | (simp; omega)) _) | (refine Below.trans ?_ (hb2.mono (by first | omega | (simp; done) | (simp; omega)))) | (refine Below.trans ?_ (hb1.mono (by first | omega | (simp; done) | (simp; omega))))))

set_option maxRecDepth 100000 in
theorem div_n2 (x y : Int) (sa sb : Bool) (ma ea mb eb : Int) (hx : OfIs x 110 sa ma ea) (hy : OfIs y 105 sb mb eb) (w : World) :
    Calls Try.prog 28 #[.int .u64 x, .int .u64 y] w fun e w' => e = .returned (.int .u64 9221120237041090560) ∧ Below w.heap.size w w' := by
  go_enter Try.func28, Try.ntmps28
  go_wp2_with fail
  refine (hx _).mono ?_
  rintro e w1 ⟨rfl, hb1⟩
  obtain ⟨hc1, hf1⟩ := bcell hb1
  go_wp2_with fail
  refine (hy _).mono ?_
  rintro e w2 ⟨rfl, hb2⟩
  obtain ⟨hc2, hf2⟩ := bcell hb2
  have hz1 := hb1.size
  have hz2 := hb2.size
  go_wp2_with fail
  go_quiet (fail)
  go_wp2_with fail
  go_ret
  refine ⟨rfl, ?_⟩
  go_light
  (repeat (first | exact Below.refl _ _ | exact hb1 | refine below_drewN ?_ _ | (refine Below.alloc ?_ (by first | omega | (simp; done) | (simp; omega)) _) | refine Below.drew ?_ | (refine Below.setCell ?_ (by first | omega | (simp; done) | (simp; omega)) _) | (refine Below.trans ?_ (hb2.mono (by first | omega | (simp; done) | (simp; omega)))) | (refine Below.trans ?_ (hb1.mono (by first | omega | (simp; done) | (simp; omega))))))

set_option maxRecDepth 100000 in
theorem div_n3 (x y : Int) (sa sb : Bool) (ma ea mb eb : Int) (hx : OfIs x 110 sa ma ea) (hy : OfIs y 102 sb mb eb) (zb : (mb == 0) = true) (w : World) :
    Calls Try.prog 28 #[.int .u64 x, .int .u64 y] w fun e w' => e = .returned (.int .u64 9221120237041090560) ∧ Below w.heap.size w w' := by
  go_enter Try.func28, Try.ntmps28
  go_wp2_with fail
  refine (hx _).mono ?_
  rintro e w1 ⟨rfl, hb1⟩
  obtain ⟨hc1, hf1⟩ := bcell hb1
  go_wp2_with fail
  refine (hy _).mono ?_
  rintro e w2 ⟨rfl, hb2⟩
  obtain ⟨hc2, hf2⟩ := bcell hb2
  have hz1 := hb1.size
  have hz2 := hb2.size
  go_wp2_with fail
  go_quiet (fail)
  go_wp2_with fail
  go_ret
  refine ⟨rfl, ?_⟩
  go_light
  (repeat (first | exact Below.refl _ _ | exact hb1 | refine below_drewN ?_ _ | (refine Below.alloc ?_ (by first | omega | (simp; done) | (simp; omega)) _) | refine Below.drew ?_ | (refine Below.setCell ?_ (by first | omega | (simp; done) | (simp; omega)) _) | (refine Below.trans ?_ (hb2.mono (by first | omega | (simp; done) | (simp; omega)))) | (refine Below.trans ?_ (hb1.mono (by first | omega | (simp; done) | (simp; omega))))))

set_option maxRecDepth 100000 in
theorem div_n4 (x y : Int) (sa sb : Bool) (ma ea mb eb : Int) (hx : OfIs x 110 sa ma ea) (hy : OfIs y 102 sb mb eb) (zb : (mb == 0) = false) (w : World) :
    Calls Try.prog 28 #[.int .u64 x, .int .u64 y] w fun e w' => e = .returned (.int .u64 9221120237041090560) ∧ Below w.heap.size w w' := by
  go_enter Try.func28, Try.ntmps28
  go_wp2_with fail
  refine (hx _).mono ?_
  rintro e w1 ⟨rfl, hb1⟩
  obtain ⟨hc1, hf1⟩ := bcell hb1
  go_wp2_with fail
  refine (hy _).mono ?_
  rintro e w2 ⟨rfl, hb2⟩
  obtain ⟨hc2, hf2⟩ := bcell hb2
  have hz1 := hb1.size
  have hz2 := hb2.size
  go_wp2_with fail
  go_quiet (fail)
  go_wp2_with fail
  go_ret
  refine ⟨rfl, ?_⟩
  go_light
  (repeat (first | exact Below.refl _ _ | exact hb1 | refine below_drewN ?_ _ | (refine Below.alloc ?_ (by first | omega | (simp; done) | (simp; omega)) _) | refine Below.drew ?_ | (refine Below.setCell ?_ (by first | omega | (simp; done) | (simp; omega)) _) | (refine Below.trans ?_ (hb2.mono (by first | omega | (simp; done) | (simp; omega)))) | (refine Below.trans ?_ (hb1.mono (by first | omega | (simp; done) | (simp; omega))))))

set_option maxRecDepth 100000 in
theorem div_n5 (x y : Int) (sa sb : Bool) (ma ea mb eb : Int) (hx : OfIs x 105 sa ma ea) (hy : OfIs y 110 sb mb eb) (w : World) :
    Calls Try.prog 28 #[.int .u64 x, .int .u64 y] w fun e w' => e = .returned (.int .u64 9221120237041090560) ∧ Below w.heap.size w w' := by
  go_enter Try.func28, Try.ntmps28
  go_wp2_with fail
  refine (hx _).mono ?_
  rintro e w1 ⟨rfl, hb1⟩
  obtain ⟨hc1, hf1⟩ := bcell hb1
  go_wp2_with fail
  refine (hy _).mono ?_
  rintro e w2 ⟨rfl, hb2⟩
  obtain ⟨hc2, hf2⟩ := bcell hb2
  have hz1 := hb1.size
  have hz2 := hb2.size
  go_wp2_with fail
  go_quiet (fail)
  go_wp2_with fail
  go_ret
  refine ⟨rfl, ?_⟩
  go_light
  (repeat (first | exact Below.refl _ _ | exact hb1 | refine below_drewN ?_ _ | (refine Below.alloc ?_ (by first | omega | (simp; done) | (simp; omega)) _) | refine Below.drew ?_ | (refine Below.setCell ?_ (by first | omega | (simp; done) | (simp; omega)) _) | (refine Below.trans ?_ (hb2.mono (by first | omega | (simp; done) | (simp; omega)))) | (refine Below.trans ?_ (hb1.mono (by first | omega | (simp; done) | (simp; omega))))))

set_option maxRecDepth 100000 in
theorem div_n6 (x y : Int) (sa sb : Bool) (ma ea mb eb : Int) (hx : OfIs x 102 sa ma ea) (hy : OfIs y 110 sb mb eb) (za : (ma == 0) = true) (w : World) :
    Calls Try.prog 28 #[.int .u64 x, .int .u64 y] w fun e w' => e = .returned (.int .u64 9221120237041090560) ∧ Below w.heap.size w w' := by
  go_enter Try.func28, Try.ntmps28
  go_wp2_with fail
  refine (hx _).mono ?_
  rintro e w1 ⟨rfl, hb1⟩
  obtain ⟨hc1, hf1⟩ := bcell hb1
  go_wp2_with fail
  refine (hy _).mono ?_
  rintro e w2 ⟨rfl, hb2⟩
  obtain ⟨hc2, hf2⟩ := bcell hb2
  have hz1 := hb1.size
  have hz2 := hb2.size
  go_wp2_with fail
  go_quiet (fail)
  go_wp2_with fail
  go_ret
  refine ⟨rfl, ?_⟩
  go_light
  (repeat (first | exact Below.refl _ _ | exact hb1 | refine below_drewN ?_ _ | (refine Below.alloc ?_ (by first | omega | (simp; done) | (simp; omega)) _) | refine Below.drew ?_ | (refine Below.setCell ?_ (by first | omega | (simp; done) | (simp; omega)) _) | (refine Below.trans ?_ (hb2.mono (by first | omega | (simp; done) | (simp; omega)))) | (refine Below.trans ?_ (hb1.mono (by first | omega | (simp; done) | (simp; omega))))))

set_option maxRecDepth 100000 in
theorem div_n7 (x y : Int) (sa sb : Bool) (ma ea mb eb : Int) (hx : OfIs x 102 sa ma ea) (hy : OfIs y 110 sb mb eb) (za : (ma == 0) = false) (w : World) :
    Calls Try.prog 28 #[.int .u64 x, .int .u64 y] w fun e w' => e = .returned (.int .u64 9221120237041090560) ∧ Below w.heap.size w w' := by
  go_enter Try.func28, Try.ntmps28
  go_wp2_with fail
  refine (hx _).mono ?_
  rintro e w1 ⟨rfl, hb1⟩
  obtain ⟨hc1, hf1⟩ := bcell hb1
  go_wp2_with fail
  refine (hy _).mono ?_
  rintro e w2 ⟨rfl, hb2⟩
  obtain ⟨hc2, hf2⟩ := bcell hb2
  have hz1 := hb1.size
  have hz2 := hb2.size
  go_wp2_with fail
  go_quiet (fail)
  go_wp2_with fail
  go_ret
  refine ⟨rfl, ?_⟩
  go_light
  (repeat (first | exact Below.refl _ _ | exact hb1 | refine below_drewN ?_ _ | (refine Below.alloc ?_ (by first | omega | (simp; done) | (simp; omega)) _) | refine Below.drew ?_ | (refine Below.setCell ?_ (by first | omega | (simp; done) | (simp; omega)) _) | (refine Below.trans ?_ (hb2.mono (by first | omega | (simp; done) | (simp; omega)))) | (refine Below.trans ?_ (hb1.mono (by first | omega | (simp; done) | (simp; omega))))))

set_option maxRecDepth 100000 in
theorem div_ii (x y : Int) (sa sb : Bool) (ma ea mb eb : Int) (hx : OfIs x 105 sa ma ea) (hy : OfIs y 105 sb mb eb) (w : World) :
    Calls Try.prog 28 #[.int .u64 x, .int .u64 y] w fun e w' => e = .returned (.int .u64 9221120237041090560) ∧ Below w.heap.size w w' := by
  go_enter Try.func28, Try.ntmps28
  go_wp2_with fail
  refine (hx _).mono ?_
  rintro e w1 ⟨rfl, hb1⟩
  obtain ⟨hc1, hf1⟩ := bcell hb1
  go_wp2_with fail
  refine (hy _).mono ?_
  rintro e w2 ⟨rfl, hb2⟩
  obtain ⟨hc2, hf2⟩ := bcell hb2
  have hz1 := hb1.size
  have hz2 := hb2.size
  go_wp2_with fail
  go_quiet (fail)
  go_wp2_with fail
  go_ret
  refine ⟨rfl, ?_⟩
  go_light
  (repeat (first | exact Below.refl _ _ | exact hb1 | refine below_drewN ?_ _ | (refine Below.alloc ?_ (by first | omega | (simp; done) | (simp; omega)) _) | refine Below.drew ?_ | (refine Below.setCell ?_ (by first | omega | (simp; done) | (simp; omega)) _) | (refine Below.trans ?_ (hb2.mono (by first | omega | (simp; done) | (simp; omega)))) | (refine Below.trans ?_ (hb1.mono (by first | omega | (simp; done) | (simp; omega))))))

set_option maxRecDepth 100000 in
theorem div_iz (x y : Int) (sa sb : Bool) (ma ea mb eb : Int) (hx : OfIs x 105 sa ma ea) (hy : OfIs y 102 sb mb eb) (zb : (mb == 0) = true) (w : World) :
    Calls Try.prog 28 #[.int .u64 x, .int .u64 y] w fun e w' => e = .returned (.int .u64 (word (!(sa == sb)) 9218868437227405312)) ∧ Below w.heap.size w w' := by
  go_enter Try.func28, Try.ntmps28
  go_wp2_with fail
  refine (hx _).mono ?_
  rintro e w1 ⟨rfl, hb1⟩
  obtain ⟨hc1, hf1⟩ := bcell hb1
  go_wp2_with fail
  refine (hy _).mono ?_
  rintro e w2 ⟨rfl, hb2⟩
  obtain ⟨hc2, hf2⟩ := bcell hb2
  have hz1 := hb1.size
  have hz2 := hb2.size
  go_wp2_with fail
  go_quiet (fail)
  go_wp2_with fail
  refine (sign_to _ 9218868437227405312 9218868437227405312 rfl (by decide) _).mono ?_
  rintro e w3 ⟨rfl, rfl⟩
  go_wp2_with fail
  go_ret
  refine ⟨rfl, ?_⟩
  go_light
  (repeat (first | exact Below.refl _ _ | exact hb1 | refine below_drewN ?_ _ | (refine Below.alloc ?_ (by first | omega | (simp; done) | (simp; omega)) _) | refine Below.drew ?_ | (refine Below.setCell ?_ (by first | omega | (simp; done) | (simp; omega)) _) | (refine Below.trans ?_ (hb2.mono (by first | omega | (simp; done) | (simp; omega)))) | (refine Below.trans ?_ (hb1.mono (by first | omega | (simp; done) | (simp; omega))))))

set_option maxRecDepth 100000 in
theorem div_if (x y : Int) (sa sb : Bool) (ma ea mb eb : Int) (hx : OfIs x 105 sa ma ea) (hy : OfIs y 102 sb mb eb) (zb : (mb == 0) = false) (w : World) :
    Calls Try.prog 28 #[.int .u64 x, .int .u64 y] w fun e w' => e = .returned (.int .u64 (word (!(sa == sb)) 9218868437227405312)) ∧ Below w.heap.size w w' := by
  go_enter Try.func28, Try.ntmps28
  go_wp2_with fail
  refine (hx _).mono ?_
  rintro e w1 ⟨rfl, hb1⟩
  obtain ⟨hc1, hf1⟩ := bcell hb1
  go_wp2_with fail
  refine (hy _).mono ?_
  rintro e w2 ⟨rfl, hb2⟩
  obtain ⟨hc2, hf2⟩ := bcell hb2
  have hz1 := hb1.size
  have hz2 := hb2.size
  go_wp2_with fail
  go_quiet (fail)
  go_wp2_with fail
  refine (sign_to _ 9218868437227405312 9218868437227405312 rfl (by decide) _).mono ?_
  rintro e w3 ⟨rfl, rfl⟩
  go_wp2_with fail
  go_ret
  refine ⟨rfl, ?_⟩
  go_light
  (repeat (first | exact Below.refl _ _ | exact hb1 | refine below_drewN ?_ _ | (refine Below.alloc ?_ (by first | omega | (simp; done) | (simp; omega)) _) | refine Below.drew ?_ | (refine Below.setCell ?_ (by first | omega | (simp; done) | (simp; omega)) _) | (refine Below.trans ?_ (hb2.mono (by first | omega | (simp; done) | (simp; omega)))) | (refine Below.trans ?_ (hb1.mono (by first | omega | (simp; done) | (simp; omega))))))

set_option maxRecDepth 100000 in
theorem div_zi (x y : Int) (sa sb : Bool) (ma ea mb eb : Int) (hx : OfIs x 102 sa ma ea) (hy : OfIs y 105 sb mb eb) (za : (ma == 0) = true) (w : World) :
    Calls Try.prog 28 #[.int .u64 x, .int .u64 y] w fun e w' => e = .returned (.int .u64 (word (!(sa == sb)) 0)) ∧ Below w.heap.size w w' := by
  go_enter Try.func28, Try.ntmps28
  go_wp2_with fail
  refine (hx _).mono ?_
  rintro e w1 ⟨rfl, hb1⟩
  obtain ⟨hc1, hf1⟩ := bcell hb1
  go_wp2_with fail
  refine (hy _).mono ?_
  rintro e w2 ⟨rfl, hb2⟩
  obtain ⟨hc2, hf2⟩ := bcell hb2
  have hz1 := hb1.size
  have hz2 := hb2.size
  go_wp2_with fail
  go_quiet (fail)
  go_wp2_with fail
  refine (sign_to _ 0 0 rfl (by decide) _).mono ?_
  rintro e w3 ⟨rfl, rfl⟩
  go_wp2_with fail
  go_ret
  refine ⟨rfl, ?_⟩
  go_light
  (repeat (first | exact Below.refl _ _ | exact hb1 | refine below_drewN ?_ _ | (refine Below.alloc ?_ (by first | omega | (simp; done) | (simp; omega)) _) | refine Below.drew ?_ | (refine Below.setCell ?_ (by first | omega | (simp; done) | (simp; omega)) _) | (refine Below.trans ?_ (hb2.mono (by first | omega | (simp; done) | (simp; omega)))) | (refine Below.trans ?_ (hb1.mono (by first | omega | (simp; done) | (simp; omega))))))

set_option maxRecDepth 100000 in
theorem div_fi (x y : Int) (sa sb : Bool) (ma ea mb eb : Int) (hx : OfIs x 102 sa ma ea) (hy : OfIs y 105 sb mb eb) (za : (ma == 0) = false) (w : World) :
    Calls Try.prog 28 #[.int .u64 x, .int .u64 y] w fun e w' => e = .returned (.int .u64 (word (!(sa == sb)) 0)) ∧ Below w.heap.size w w' := by
  go_enter Try.func28, Try.ntmps28
  go_wp2_with fail
  refine (hx _).mono ?_
  rintro e w1 ⟨rfl, hb1⟩
  obtain ⟨hc1, hf1⟩ := bcell hb1
  go_wp2_with fail
  refine (hy _).mono ?_
  rintro e w2 ⟨rfl, hb2⟩
  obtain ⟨hc2, hf2⟩ := bcell hb2
  have hz1 := hb1.size
  have hz2 := hb2.size
  go_wp2_with fail
  go_quiet (fail)
  go_wp2_with fail
  refine (sign_to _ 0 0 rfl (by decide) _).mono ?_
  rintro e w3 ⟨rfl, rfl⟩
  go_wp2_with fail
  go_ret
  refine ⟨rfl, ?_⟩
  go_light
  (repeat (first | exact Below.refl _ _ | exact hb1 | refine below_drewN ?_ _ | (refine Below.alloc ?_ (by first | omega | (simp; done) | (simp; omega)) _) | refine Below.drew ?_ | (refine Below.setCell ?_ (by first | omega | (simp; done) | (simp; omega)) _) | (refine Below.trans ?_ (hb2.mono (by first | omega | (simp; done) | (simp; omega)))) | (refine Below.trans ?_ (hb1.mono (by first | omega | (simp; done) | (simp; omega))))))

set_option maxRecDepth 100000 in
theorem div_zz (x y : Int) (sa sb : Bool) (ma ea mb eb : Int) (hx : OfIs x 102 sa ma ea) (hy : OfIs y 102 sb mb eb) (za : (ma == 0) = true) (zb : (mb == 0) = true) (w : World) :
    Calls Try.prog 28 #[.int .u64 x, .int .u64 y] w fun e w' => e = .returned (.int .u64 9221120237041090560) ∧ Below w.heap.size w w' := by
  go_enter Try.func28, Try.ntmps28
  go_wp2_with fail
  refine (hx _).mono ?_
  rintro e w1 ⟨rfl, hb1⟩
  obtain ⟨hc1, hf1⟩ := bcell hb1
  go_wp2_with fail
  refine (hy _).mono ?_
  rintro e w2 ⟨rfl, hb2⟩
  obtain ⟨hc2, hf2⟩ := bcell hb2
  have hz1 := hb1.size
  have hz2 := hb2.size
  go_wp2_with fail
  go_quiet (fail)
  go_wp2_with fail
  go_ret
  refine ⟨rfl, ?_⟩
  go_light
  (repeat (first | exact Below.refl _ _ | exact hb1 | refine below_drewN ?_ _ | (refine Below.alloc ?_ (by first | omega | (simp; done) | (simp; omega)) _) | refine Below.drew ?_ | (refine Below.setCell ?_ (by first | omega | (simp; done) | (simp; omega)) _) | (refine Below.trans ?_ (hb2.mono (by first | omega | (simp; done) | (simp; omega)))) | (refine Below.trans ?_ (hb1.mono (by first | omega | (simp; done) | (simp; omega))))))

set_option maxRecDepth 100000 in
theorem div_zf (x y : Int) (sa sb : Bool) (ma ea mb eb : Int) (hx : OfIs x 102 sa ma ea) (hy : OfIs y 102 sb mb eb) (za : (ma == 0) = true) (zb : (mb == 0) = false) (w : World) :
    Calls Try.prog 28 #[.int .u64 x, .int .u64 y] w fun e w' => e = .returned (.int .u64 (word (!(sa == sb)) 0)) ∧ Below w.heap.size w w' := by
  go_enter Try.func28, Try.ntmps28
  go_wp2_with fail
  refine (hx _).mono ?_
  rintro e w1 ⟨rfl, hb1⟩
  obtain ⟨hc1, hf1⟩ := bcell hb1
  go_wp2_with fail
  refine (hy _).mono ?_
  rintro e w2 ⟨rfl, hb2⟩
  obtain ⟨hc2, hf2⟩ := bcell hb2
  have hz1 := hb1.size
  have hz2 := hb2.size
  go_wp2_with fail
  go_quiet (fail)
  go_wp2_with fail
  refine (sign_to _ 0 0 rfl (by decide) _).mono ?_
  rintro e w3 ⟨rfl, rfl⟩
  go_wp2_with fail
  go_ret
  refine ⟨rfl, ?_⟩
  go_light
  (repeat (first | exact Below.refl _ _ | exact hb1 | refine below_drewN ?_ _ | (refine Below.alloc ?_ (by first | omega | (simp; done) | (simp; omega)) _) | refine Below.drew ?_ | (refine Below.setCell ?_ (by first | omega | (simp; done) | (simp; omega)) _) | (refine Below.trans ?_ (hb2.mono (by first | omega | (simp; done) | (simp; omega)))) | (refine Below.trans ?_ (hb1.mono (by first | omega | (simp; done) | (simp; omega))))))

set_option maxRecDepth 100000 in
theorem div_fz (x y : Int) (sa sb : Bool) (ma ea mb eb : Int) (hx : OfIs x 102 sa ma ea) (hy : OfIs y 102 sb mb eb) (za : (ma == 0) = false) (zb : (mb == 0) = true) (w : World) :
    Calls Try.prog 28 #[.int .u64 x, .int .u64 y] w fun e w' => e = .returned (.int .u64 (word (!(sa == sb)) 9218868437227405312)) ∧ Below w.heap.size w w' := by
  go_enter Try.func28, Try.ntmps28
  go_wp2_with fail
  refine (hx _).mono ?_
  rintro e w1 ⟨rfl, hb1⟩
  obtain ⟨hc1, hf1⟩ := bcell hb1
  go_wp2_with fail
  refine (hy _).mono ?_
  rintro e w2 ⟨rfl, hb2⟩
  obtain ⟨hc2, hf2⟩ := bcell hb2
  have hz1 := hb1.size
  have hz2 := hb2.size
  go_wp2_with fail
  go_quiet (fail)
  go_wp2_with fail
  refine (sign_to _ 9218868437227405312 9218868437227405312 rfl (by decide) _).mono ?_
  rintro e w3 ⟨rfl, rfl⟩
  go_wp2_with fail
  go_ret
  refine ⟨rfl, ?_⟩
  go_light
  (repeat (first | exact Below.refl _ _ | exact hb1 | refine below_drewN ?_ _ | (refine Below.alloc ?_ (by first | omega | (simp; done) | (simp; omega)) _) | refine Below.drew ?_ | (refine Below.setCell ?_ (by first | omega | (simp; done) | (simp; omega)) _) | (refine Below.trans ?_ (hb2.mono (by first | omega | (simp; done) | (simp; omega)))) | (refine Below.trans ?_ (hb1.mono (by first | omega | (simp; done) | (simp; omega))))))

end Go.Proofs.Ytelgmffmekfndaa
set_option linter.unusedVariables false
namespace Go.Proofs.Ytelgmffmekfndaa
open Go.ChangeShapes Go.WideShapes Go.ChangeAt Go.RowKit
open Fl (sg exf fr kindOf mant expo ups word rung numOf divm)

theorem refdiv_any (x y : Int) (x0 : 0 ≤ x) (x1 : x < 18446744073709551616) (y0 : 0 ≤ y) (y1 : y < 18446744073709551616) (w : World) :
    Calls Try.prog 28 #[.int .u64 x, .int .u64 y] w fun e w' => e = .returned (.int .u64 (numOf (Ieee.double.div x.toNat y.toNat))) ∧ Below w.heap.size w w' := by
  have hx : x.toNat < 2 ^ 64 := by omega
  have hy : y.toNat < 2 ^ 64 := by omega
  have tz : ∀ n : Nat, n = 0 → (((n : Nat) : Int) == 0) = true := by intro n h; simp; omega
  have fz : ∀ n : Nat, n ≠ 0 → (((n : Nat) : Int) == 0) = false := by intro n h; simp; omega
  by_cases kx : exf x.toNat = 2047
  · by_cases fx : fr x.toNat = 0
    · have ix := is_inf x x0 x1 kx fx
      by_cases ky : exf y.toNat = 2047
      · by_cases fy : fr y.toNat = 0
        · rw [Fl.div_inf_inf _ _ hx hy kx fx ky fy]
          exact div_ii x y _ _ _ _ _ _ ix (is_inf y y0 y1 ky fy) w
        · rw [Fl.div_nan_r _ _ hy ky fy]
          exact div_n5 x y _ _ _ _ _ _ ix (is_nan y y0 y1 ky fy) w
      · have iy := is_fin y y0 y1 ky
        rw [Fl.div_inf_fin _ _ hx hy kx fx ky]
        by_cases zy : mant y.toNat = 0
        · exact div_iz x y _ _ _ _ _ _ ix iy (tz _ zy) w
        · exact div_if x y _ _ _ _ _ _ ix iy (fz _ zy) w
    · rw [Fl.div_nan_l _ _ hx kx fx]
      have ix := is_nan x x0 x1 kx fx
      by_cases ky : exf y.toNat = 2047
      · by_cases fy : fr y.toNat = 0
        · exact div_n2 x y _ _ _ _ _ _ ix (is_inf y y0 y1 ky fy) w
        · exact div_n1 x y _ _ _ _ _ _ ix (is_nan y y0 y1 ky fy) w
      · have iy := is_fin y y0 y1 ky
        by_cases zy : mant y.toNat = 0
        · exact div_n3 x y _ _ _ _ _ _ ix iy (tz _ zy) w
        · exact div_n4 x y _ _ _ _ _ _ ix iy (fz _ zy) w
  have ix := is_fin x x0 x1 kx
  by_cases ky : exf y.toNat = 2047
  · by_cases fy : fr y.toNat = 0
    · have iy := is_inf y y0 y1 ky fy
      rw [Fl.div_fin_inf _ _ hx hy kx ky fy]
      by_cases zx : mant x.toNat = 0
      · exact div_zi x y _ _ _ _ _ _ ix iy (tz _ zx) w
      · exact div_fi x y _ _ _ _ _ _ ix iy (fz _ zx) w
    · rw [Fl.div_nan_r _ _ hy ky fy]
      have iy := is_nan y y0 y1 ky fy
      by_cases zx : mant x.toNat = 0
      · exact div_n6 x y _ _ _ _ _ _ ix iy (tz _ zx) w
      · exact div_n7 x y _ _ _ _ _ _ ix iy (fz _ zx) w
  have iy := is_fin y y0 y1 ky
  by_cases zy : mant y.toNat = 0
  · rw [Fl.div_by_zero _ _ hx hy kx ky zy]
    by_cases zx : mant x.toNat = 0
    · rw [if_pos zx]
      exact div_zz x y _ _ _ _ _ _ ix iy (tz _ zx) (tz _ zy) w
    · rw [if_neg zx]
      exact div_fz x y _ _ _ _ _ _ ix iy (fz _ zx) (tz _ zy) w
  by_cases zx : mant x.toNat = 0
  · rw [Fl.zero_div _ _ hx hy kx ky zx zy]
    exact div_zf x y _ _ _ _ _ _ ix iy (tz _ zx) (fz _ zy) w
  have mx0 := Fl.mant_ge _ kx zx
  have mx1 := Fl.mant_lt x.toNat
  have my0 := Fl.mant_ge _ ky zy
  have my1 := Fl.mant_lt y.toNat
  rw [Fl.div_law _ _ hx hy kx ky zx zy]
  have W := div_fin x y _ _ _ _ _ _ ix iy (fz _ zx) (by omega) (by omega) (Fl.expo_bd _).1 (Fl.expo_fin _ kx) (fz _ zy) (by omega) (by omega) (Fl.expo_bd _).1 (Fl.expo_fin _ ky) w
  rw [Int.toNat_natCast, Int.toNat_natCast] at W
  exact W
end Go.Proofs.Ytelgmffmekfndaa
