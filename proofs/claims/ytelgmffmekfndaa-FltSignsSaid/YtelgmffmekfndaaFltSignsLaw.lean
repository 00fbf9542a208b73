/- The walk of the law FltSigns: the law returns true at every two words and changes nothing that existed. Condition: the words fit 64 bits. -/
import Derived.Test.YtelgmffmekfndaaFltSignLaw
import Derived.Test.YtelgmffmekfndaaFltSign
import Derived.Test.YtelgmffmekfndaaFltMin
import Derived.Test.YtelgmffmekfndaaFltOrd
set_option linter.unusedVariables false
namespace Go.Proofs.Ytelgmffmekfndaa
open Go.ChangeShapes Go.WideShapes Go.ChangeAt Go.RowKit
open Fl (isN numOf minW maxW nanW)

/-- the place in the row of six -/
def SixRel (s : Value) : Prop := s = .int .i64 0 ∨ s = .int .i64 1 ∨ s = .int .i64 2 ∨ s = .int .i64 3 ∨ s = .int .i64 4 ∨ s = .int .i64 5 ∨ s = .int .i64 6

set_option maxRecDepth 100000 in
set_option maxHeartbeats 4000000 in
theorem lawSigns_n (a b V1 V2 V3 V4 V5 V6 : Int) (c1 c2 c3 c4 c5 c6 : Bool) (a0 : 0 ≤ a) (a1 : a < 18446744073709551616) (b0 : 0 ≤ b) (b1 : b < 18446744073709551616) 
    (hA : (!decide (isN a.toNat)) = false) (hB : (!decide (isN b.toNat)) = false)
    (k1 : ∀ w : World, Calls Try.prog 22 #[.int .u64 a, .int .u64 b] w fun e w' => e = .returned (.int .u64 V1) ∧ Below w.heap.size w w')
    (n1 : ∀ w : World, Calls Try.prog 37 #[.int .u64 V1] w fun e w' => e = .returned (.bool c1) ∧ w = w') (t1 : c1 = false ∨ (V1 != 9221120237041090560) = false)
    (k2 : ∀ w : World, Calls Try.prog 24 #[.int .u64 a, .int .u64 b] w fun e w' => e = .returned (.int .u64 V2) ∧ Below w.heap.size w w')
    (n2 : ∀ w : World, Calls Try.prog 37 #[.int .u64 V2] w fun e w' => e = .returned (.bool c2) ∧ w = w') (t2 : c2 = false ∨ (V2 != 9221120237041090560) = false)
    (k3 : ∀ w : World, Calls Try.prog 25 #[.int .u64 a, .int .u64 b] w fun e w' => e = .returned (.int .u64 V3) ∧ Below w.heap.size w w')
    (n3 : ∀ w : World, Calls Try.prog 37 #[.int .u64 V3] w fun e w' => e = .returned (.bool c3) ∧ w = w') (t3 : c3 = false ∨ (V3 != 9221120237041090560) = false)
    (k4 : ∀ w : World, Calls Try.prog 27 #[.int .u64 a, .int .u64 b] w fun e w' => e = .returned (.int .u64 V4) ∧ Below w.heap.size w w')
    (n4 : ∀ w : World, Calls Try.prog 37 #[.int .u64 V4] w fun e w' => e = .returned (.bool c4) ∧ w = w') (t4 : c4 = false ∨ (V4 != 9221120237041090560) = false)
    (k5 : ∀ w : World, Calls Try.prog 40 #[.int .u64 a, .int .u64 b] w fun e w' => e = .returned (.int .u64 V5) ∧ Below w.heap.size w w')
    (n5 : ∀ w : World, Calls Try.prog 37 #[.int .u64 V5] w fun e w' => e = .returned (.bool c5) ∧ w = w') (t5 : c5 = false ∨ (V5 != 9221120237041090560) = false)
    (k6 : ∀ w : World, Calls Try.prog 42 #[.int .u64 a, .int .u64 b] w fun e w' => e = .returned (.int .u64 V6) ∧ Below w.heap.size w w')
    (n6 : ∀ w : World, Calls Try.prog 37 #[.int .u64 V6] w fun e w' => e = .returned (.bool c6) ∧ w = w') (t6 : c6 = false ∨ (V6 != 9221120237041090560) = false)
    (X Y Z : Int) (hX : bits .xor .u64 a 9223372036854775808 = X) (hY : bits .andNot .u64 a 9223372036854775808 = Y) (hY2 : bits .and .u64 a 9223372036854775807 = Y) (hXX : bits .xor .u64 X 9223372036854775808 = a) (hXY : bits .andNot .u64 X 9223372036854775808 = Y)
    (hZ : bits .xor .u64 b 9223372036854775808 = Z) (kz : ∀ w : World, Calls Try.prog 22 #[.int .u64 a, .int .u64 Z] w fun e w' => e = .returned (.int .u64 V2) ∧ Below w.heap.size w w') (w : World) :
    Calls Try.prog 10 #[.int .u64 a, .int .u64 b] w fun e w' => e = .returned (.bool true) ∧ Below w.heap.size w w' := by
  have NA := Lib.hid hA
  have NB := Lib.hid hB
  have KZ := Lib.hid kz
  have HXX := Lib.hid hXX
  have HXY := Lib.hid hXY
  have HZ := Lib.hid hZ
  clear kz hXX hXY hZ
  have K1 := Lib.hid k1
  have N1 := Lib.hid n1
  have T1 := Lib.hid t1
  have K2 := Lib.hid k2
  have N2 := Lib.hid n2
  have T2 := Lib.hid t2
  have K3 := Lib.hid k3
  have N3 := Lib.hid n3
  have T3 := Lib.hid t3
  have K4 := Lib.hid k4
  have N4 := Lib.hid n4
  have T4 := Lib.hid t4
  have K5 := Lib.hid k5
  have N5 := Lib.hid n5
  have T5 := Lib.hid t5
  have K6 := Lib.hid k6
  have N6 := Lib.hid n6
  have T6 := Lib.hid t6
  clear hA hB k1 n1 t1 k2 n2 t2 k3 n3 t3 k4 n4 t4 k5 n5 t5 k6 n6 t6
  go_enter Try.func10, Try.ntmps10
  go_wp2_with fail
  refine (fit_any _).mono ?_
  rintro e w1 ⟨rfl, hb1⟩
  obtain ⟨hc1, hf1⟩ := bcell hb1
  have hz1 := hb1.size
  go_wp2_with fail
  refine (none_any a a0 a1 _).mono ?_
  rw [NA.out]
  rintro e w2 ⟨rfl, rfl⟩
  go_wp2_with fail
  refine (none_any b b0 b1 _).mono ?_
  rw [NB.out]
  rintro e w2 ⟨rfl, rfl⟩
  go_wp2_with fail
  refine (K1.out _).mono ?_
  rintro e w2 ⟨rfl, hb2⟩
  obtain ⟨hc2, hf2⟩ := bcell hb2
  have hz2 := hb2.size
  go_wp2_with fail
  refine (K2.out _).mono ?_
  rintro e w3 ⟨rfl, hb3⟩
  obtain ⟨hc3, hf3⟩ := bcell hb3
  have hz3 := hb3.size
  go_wp2_with fail
  refine (K3.out _).mono ?_
  rintro e w4 ⟨rfl, hb4⟩
  obtain ⟨hc4, hf4⟩ := bcell hb4
  have hz4 := hb4.size
  go_wp2_with fail
  refine (K4.out _).mono ?_
  rintro e w5 ⟨rfl, hb5⟩
  obtain ⟨hc5, hf5⟩ := bcell hb5
  have hz5 := hb5.size
  go_wp2_with fail
  refine (K5.out _).mono ?_
  rintro e w6 ⟨rfl, hb6⟩
  obtain ⟨hc6, hf6⟩ := bcell hb6
  have hz6 := hb6.size
  go_wp2_with fail
  refine (K6.out _).mono ?_
  rintro e w7 ⟨rfl, hb7⟩
  obtain ⟨hc7, hf7⟩ := bcell hb7
  have hz7 := hb7.size
  go_wp2_with fail
  go_loop [36] (fun s36 => SixRel s36) (fun s36 => 6 - (intOf s36).toNat)
  case atStart => exact .inl rfl
  case round =>
    rcases hrel with rfl | rfl | rfl | rfl | rfl | rfl | rfl
    · go_wp2_with fail
      refine (N1.out _).mono ?_
      rintro e w2 ⟨rfl, rfl⟩
      rcases T1.out with t | t
      · subst t
        go_wp2_with fail
        go_round
        case rel => exact .inr (.inl rfl)
        case measure => simp [intOf]
      · cases c1
        all_goals
          go_wp2_with fail
          go_round
          case rel => exact .inr (.inl rfl)
          case measure => simp [intOf]
    · go_wp2_with fail
      refine (N2.out _).mono ?_
      rintro e w2 ⟨rfl, rfl⟩
      rcases T2.out with t | t
      · subst t
        go_wp2_with fail
        go_round
        case rel => exact .inr (.inr (.inl rfl))
        case measure => simp [intOf]
      · cases c2
        all_goals
          go_wp2_with fail
          go_round
          case rel => exact .inr (.inr (.inl rfl))
          case measure => simp [intOf]
    · go_wp2_with fail
      refine (N3.out _).mono ?_
      rintro e w2 ⟨rfl, rfl⟩
      rcases T3.out with t | t
      · subst t
        go_wp2_with fail
        go_round
        case rel => exact .inr (.inr (.inr (.inl rfl)))
        case measure => simp [intOf]
      · cases c3
        all_goals
          go_wp2_with fail
          go_round
          case rel => exact .inr (.inr (.inr (.inl rfl)))
          case measure => simp [intOf]
    · go_wp2_with fail
      refine (N4.out _).mono ?_
      rintro e w2 ⟨rfl, rfl⟩
      rcases T4.out with t | t
      · subst t
        go_wp2_with fail
        go_round
        case rel => exact .inr (.inr (.inr (.inr (.inl rfl))))
        case measure => simp [intOf]
      · cases c4
        all_goals
          go_wp2_with fail
          go_round
          case rel => exact .inr (.inr (.inr (.inr (.inl rfl))))
          case measure => simp [intOf]
    · go_wp2_with fail
      refine (N5.out _).mono ?_
      rintro e w2 ⟨rfl, rfl⟩
      rcases T5.out with t | t
      · subst t
        go_wp2_with fail
        go_round
        case rel => exact .inr (.inr (.inr (.inr (.inr (.inl rfl)))))
        case measure => simp [intOf]
      · cases c5
        all_goals
          go_wp2_with fail
          go_round
          case rel => exact .inr (.inr (.inr (.inr (.inr (.inl rfl)))))
          case measure => simp [intOf]
    · go_wp2_with fail
      refine (N6.out _).mono ?_
      rintro e w2 ⟨rfl, rfl⟩
      rcases T6.out with t | t
      · subst t
        go_wp2_with fail
        go_round
        case rel => exact .inr (.inr (.inr (.inr (.inr (.inr (rfl))))))
        case measure => simp [intOf]
      · cases c6
        all_goals
          go_wp2_with fail
          go_round
          case rel => exact .inr (.inr (.inr (.inr (.inr (.inr (rfl))))))
          case measure => simp [intOf]
    · go_wp2_with fail
      refine (neg_any a X hX _).mono ?_
      rintro e w2 ⟨rfl, rfl⟩
      go_wp2_with fail
      refine (abs_any a Y hY _).mono ?_
      rintro e w2 ⟨rfl, rfl⟩
      go_wp2_with fail
      refine (neg_any a X hX _).mono ?_
      rintro e w2 ⟨rfl, rfl⟩
      go_wp2_with fail
      refine (neg_any X a HXX.out _).mono ?_
      rintro e w2 ⟨rfl, rfl⟩
      go_wp2_with fail
      refine (neg_any a X hX _).mono ?_
      rintro e w2 ⟨rfl, rfl⟩
      go_wp2_with fail
      refine (abs_any X Y HXY.out _).mono ?_
      rintro e w2 ⟨rfl, rfl⟩
      go_wp2_with fail
      refine (abs_any a Y hY _).mono ?_
      rintro e w2 ⟨rfl, rfl⟩
      go_wp2_with fail
      refine (K2.out _).mono ?_
      rintro e w8 ⟨rfl, hb8⟩
      obtain ⟨hc8, hf8⟩ := bcell hb8
      have hz8 := hb8.size
      go_wp2_with fail
      refine (neg_any b Z HZ.out _).mono ?_
      rintro e w2 ⟨rfl, rfl⟩
      go_wp2_with fail
      refine (KZ.out _).mono ?_
      rintro e w9 ⟨rfl, hb9⟩
      obtain ⟨hc9, hf9⟩ := bcell hb9
      have hz9 := hb9.size
      go_wp2_with fail
      have hz8b : w7.heap.size ≤ w8.heap.size := Nat.le_trans (by simp) hb8.size
      go_ret
      refine ⟨rfl, ?_⟩
      go_light
      (repeat (first | exact Below.refl _ _ | refine below_drewN ?_ _ | (refine Below.alloc ?_ (by first | omega | (simp; done) | (simp; omega)) _) | refine Below.drew ?_ | (refine Below.setCell ?_ (by first | omega | (simp; done) | (simp; omega)) _) | exact hb9 | (refine Below.trans ?_ (hb9.mono (by first | omega | (simp; done) | (simp; omega)))) | exact hb8 | (refine Below.trans ?_ (hb8.mono (by first | omega | (simp; done) | (simp; omega)))) | exact hb7 | (refine Below.trans ?_ (hb7.mono (by first | omega | (simp; done) | (simp; omega)))) | exact hb6 | (refine Below.trans ?_ (hb6.mono (by first | omega | (simp; done) | (simp; omega)))) | exact hb5 | (refine Below.trans ?_ (hb5.mono (by first | omega | (simp; done) | (simp; omega)))) | exact hb4 | (refine Below.trans ?_ (hb4.mono (by first | omega | (simp; done) | (simp; omega)))) | exact hb3 | (refine Below.trans ?_ (hb3.mono (by first | omega | (simp; done) | (simp; omega)))) | exact hb2 | (refine Below.trans ?_ (hb2.mono (by first | omega | (simp; done) | (simp; omega)))) | exact hb1 | (refine Below.trans ?_ (hb1.mono (by first | omega | (simp; done) | (simp; omega)))) ))

set_option maxRecDepth 100000 in
set_option maxHeartbeats 4000000 in
theorem lawSigns_p (a b V1 V2 V3 V4 V5 V6 : Int) (a0 : 0 ≤ a) (a1 : a < 18446744073709551616) (b0 : 0 ≤ b) (b1 : b < 18446744073709551616) 
    (hA : (!decide (isN a.toNat)) = true) 
    (k1 : ∀ w : World, Calls Try.prog 22 #[.int .u64 a, .int .u64 b] w fun e w' => e = .returned (.int .u64 V1) ∧ Below w.heap.size w w')
    (n1 : ∀ w : World, Calls Try.prog 37 #[.int .u64 V1] w fun e w' => e = .returned (.bool true) ∧ w = w') (t1 : (V1 != 9221120237041090560) = false)
    (k2 : ∀ w : World, Calls Try.prog 24 #[.int .u64 a, .int .u64 b] w fun e w' => e = .returned (.int .u64 V2) ∧ Below w.heap.size w w')
    (n2 : ∀ w : World, Calls Try.prog 37 #[.int .u64 V2] w fun e w' => e = .returned (.bool true) ∧ w = w') (t2 : (V2 != 9221120237041090560) = false)
    (k3 : ∀ w : World, Calls Try.prog 25 #[.int .u64 a, .int .u64 b] w fun e w' => e = .returned (.int .u64 V3) ∧ Below w.heap.size w w')
    (n3 : ∀ w : World, Calls Try.prog 37 #[.int .u64 V3] w fun e w' => e = .returned (.bool true) ∧ w = w') (t3 : (V3 != 9221120237041090560) = false)
    (k4 : ∀ w : World, Calls Try.prog 27 #[.int .u64 a, .int .u64 b] w fun e w' => e = .returned (.int .u64 V4) ∧ Below w.heap.size w w')
    (n4 : ∀ w : World, Calls Try.prog 37 #[.int .u64 V4] w fun e w' => e = .returned (.bool true) ∧ w = w') (t4 : (V4 != 9221120237041090560) = false)
    (k5 : ∀ w : World, Calls Try.prog 40 #[.int .u64 a, .int .u64 b] w fun e w' => e = .returned (.int .u64 V5) ∧ Below w.heap.size w w')
    (n5 : ∀ w : World, Calls Try.prog 37 #[.int .u64 V5] w fun e w' => e = .returned (.bool true) ∧ w = w') (t5 : (V5 != 9221120237041090560) = false)
    (k6 : ∀ w : World, Calls Try.prog 42 #[.int .u64 a, .int .u64 b] w fun e w' => e = .returned (.int .u64 V6) ∧ Below w.heap.size w w')
    (n6 : ∀ w : World, Calls Try.prog 37 #[.int .u64 V6] w fun e w' => e = .returned (.bool true) ∧ w = w') (t6 : (V6 != 9221120237041090560) = false)
    (X Y Z : Int) (hX : bits .xor .u64 a 9223372036854775808 = X) (hY : bits .andNot .u64 a 9223372036854775808 = Y) (hY2 : bits .and .u64 a 9223372036854775807 = Y) (hXX : bits .xor .u64 X 9223372036854775808 = a) (hXY : bits .andNot .u64 X 9223372036854775808 = Y)
    (hZ : bits .xor .u64 b 9223372036854775808 = Z) (kz : ∀ w : World, Calls Try.prog 22 #[.int .u64 a, .int .u64 Z] w fun e w' => e = .returned (.int .u64 V2) ∧ Below w.heap.size w w') (w : World) :
    Calls Try.prog 10 #[.int .u64 a, .int .u64 b] w fun e w' => e = .returned (.bool true) ∧ Below w.heap.size w w' := by
  have NA := Lib.hid hA
  have KZ := Lib.hid kz
  have HXX := Lib.hid hXX
  have HXY := Lib.hid hXY
  have HZ := Lib.hid hZ
  clear kz hXX hXY hZ
  have K1 := Lib.hid k1
  have N1 := Lib.hid n1
  have T1 := Lib.hid t1
  have K2 := Lib.hid k2
  have N2 := Lib.hid n2
  have T2 := Lib.hid t2
  have K3 := Lib.hid k3
  have N3 := Lib.hid n3
  have T3 := Lib.hid t3
  have K4 := Lib.hid k4
  have N4 := Lib.hid n4
  have T4 := Lib.hid t4
  have K5 := Lib.hid k5
  have N5 := Lib.hid n5
  have T5 := Lib.hid t5
  have K6 := Lib.hid k6
  have N6 := Lib.hid n6
  have T6 := Lib.hid t6
  clear hA k1 n1 t1 k2 n2 t2 k3 n3 t3 k4 n4 t4 k5 n5 t5 k6 n6 t6
  go_enter Try.func10, Try.ntmps10
  go_wp2_with fail
  refine (fit_any _).mono ?_
  rintro e w1 ⟨rfl, hb1⟩
  obtain ⟨hc1, hf1⟩ := bcell hb1
  have hz1 := hb1.size
  go_wp2_with fail
  refine (none_any a a0 a1 _).mono ?_
  rw [NA.out]
  rintro e w2 ⟨rfl, rfl⟩
  go_wp2_with fail
  refine (K1.out _).mono ?_
  rintro e w2 ⟨rfl, hb2⟩
  obtain ⟨hc2, hf2⟩ := bcell hb2
  have hz2 := hb2.size
  go_wp2_with fail
  refine (K2.out _).mono ?_
  rintro e w3 ⟨rfl, hb3⟩
  obtain ⟨hc3, hf3⟩ := bcell hb3
  have hz3 := hb3.size
  go_wp2_with fail
  refine (K3.out _).mono ?_
  rintro e w4 ⟨rfl, hb4⟩
  obtain ⟨hc4, hf4⟩ := bcell hb4
  have hz4 := hb4.size
  go_wp2_with fail
  refine (K4.out _).mono ?_
  rintro e w5 ⟨rfl, hb5⟩
  obtain ⟨hc5, hf5⟩ := bcell hb5
  have hz5 := hb5.size
  go_wp2_with fail
  refine (K5.out _).mono ?_
  rintro e w6 ⟨rfl, hb6⟩
  obtain ⟨hc6, hf6⟩ := bcell hb6
  have hz6 := hb6.size
  go_wp2_with fail
  refine (K6.out _).mono ?_
  rintro e w7 ⟨rfl, hb7⟩
  obtain ⟨hc7, hf7⟩ := bcell hb7
  have hz7 := hb7.size
  go_wp2_with fail
  go_loop [36] (fun s36 => SixRel s36) (fun s36 => 6 - (intOf s36).toNat)
  case atStart => exact .inl rfl
  case round =>
    rcases hrel with rfl | rfl | rfl | rfl | rfl | rfl | rfl
    · have t := T1.out
      go_wp2_with fail
      refine (N1.out _).mono ?_
      rintro e w2 ⟨rfl, rfl⟩
      go_wp2_with fail
      go_round
      case rel => exact .inr (.inl rfl)
      case measure => simp [intOf]
    · have t := T2.out
      go_wp2_with fail
      refine (N2.out _).mono ?_
      rintro e w2 ⟨rfl, rfl⟩
      go_wp2_with fail
      go_round
      case rel => exact .inr (.inr (.inl rfl))
      case measure => simp [intOf]
    · have t := T3.out
      go_wp2_with fail
      refine (N3.out _).mono ?_
      rintro e w2 ⟨rfl, rfl⟩
      go_wp2_with fail
      go_round
      case rel => exact .inr (.inr (.inr (.inl rfl)))
      case measure => simp [intOf]
    · have t := T4.out
      go_wp2_with fail
      refine (N4.out _).mono ?_
      rintro e w2 ⟨rfl, rfl⟩
      go_wp2_with fail
      go_round
      case rel => exact .inr (.inr (.inr (.inr (.inl rfl))))
      case measure => simp [intOf]
    · have t := T5.out
      go_wp2_with fail
      refine (N5.out _).mono ?_
      rintro e w2 ⟨rfl, rfl⟩
      go_wp2_with fail
      go_round
      case rel => exact .inr (.inr (.inr (.inr (.inr (.inl rfl)))))
      case measure => simp [intOf]
    · have t := T6.out
      go_wp2_with fail
      refine (N6.out _).mono ?_
      rintro e w2 ⟨rfl, rfl⟩
      go_wp2_with fail
      go_round
      case rel => exact .inr (.inr (.inr (.inr (.inr (.inr (rfl))))))
      case measure => simp [intOf]
    · go_wp2_with fail
      refine (neg_any a X hX _).mono ?_
      rintro e w2 ⟨rfl, rfl⟩
      go_wp2_with fail
      refine (abs_any a Y hY _).mono ?_
      rintro e w2 ⟨rfl, rfl⟩
      go_wp2_with fail
      refine (neg_any a X hX _).mono ?_
      rintro e w2 ⟨rfl, rfl⟩
      go_wp2_with fail
      refine (neg_any X a HXX.out _).mono ?_
      rintro e w2 ⟨rfl, rfl⟩
      go_wp2_with fail
      refine (neg_any a X hX _).mono ?_
      rintro e w2 ⟨rfl, rfl⟩
      go_wp2_with fail
      refine (abs_any X Y HXY.out _).mono ?_
      rintro e w2 ⟨rfl, rfl⟩
      go_wp2_with fail
      refine (abs_any a Y hY _).mono ?_
      rintro e w2 ⟨rfl, rfl⟩
      go_wp2_with fail
      go_ret
      refine ⟨rfl, ?_⟩
      go_light
      (repeat (first | exact Below.refl _ _ | refine below_drewN ?_ _ | (refine Below.alloc ?_ (by first | omega | (simp; done) | (simp; omega)) _) | refine Below.drew ?_ | (refine Below.setCell ?_ (by first | omega | (simp; done) | (simp; omega)) _) | exact hb7 | (refine Below.trans ?_ (hb7.mono (by first | omega | (simp; done) | (simp; omega)))) | exact hb6 | (refine Below.trans ?_ (hb6.mono (by first | omega | (simp; done) | (simp; omega)))) | exact hb5 | (refine Below.trans ?_ (hb5.mono (by first | omega | (simp; done) | (simp; omega)))) | exact hb4 | (refine Below.trans ?_ (hb4.mono (by first | omega | (simp; done) | (simp; omega)))) | exact hb3 | (refine Below.trans ?_ (hb3.mono (by first | omega | (simp; done) | (simp; omega)))) | exact hb2 | (refine Below.trans ?_ (hb2.mono (by first | omega | (simp; done) | (simp; omega)))) | exact hb1 | (refine Below.trans ?_ (hb1.mono (by first | omega | (simp; done) | (simp; omega)))) ))

set_option maxRecDepth 100000 in
set_option maxHeartbeats 4000000 in
theorem lawSigns_q (a b V1 V2 V3 V4 V5 V6 : Int) (a0 : 0 ≤ a) (a1 : a < 18446744073709551616) (b0 : 0 ≤ b) (b1 : b < 18446744073709551616) 
    (hA : (!decide (isN a.toNat)) = false) (hB : (!decide (isN b.toNat)) = true)
    (k1 : ∀ w : World, Calls Try.prog 22 #[.int .u64 a, .int .u64 b] w fun e w' => e = .returned (.int .u64 V1) ∧ Below w.heap.size w w')
    (n1 : ∀ w : World, Calls Try.prog 37 #[.int .u64 V1] w fun e w' => e = .returned (.bool true) ∧ w = w') (t1 : (V1 != 9221120237041090560) = false)
    (k2 : ∀ w : World, Calls Try.prog 24 #[.int .u64 a, .int .u64 b] w fun e w' => e = .returned (.int .u64 V2) ∧ Below w.heap.size w w')
    (n2 : ∀ w : World, Calls Try.prog 37 #[.int .u64 V2] w fun e w' => e = .returned (.bool true) ∧ w = w') (t2 : (V2 != 9221120237041090560) = false)
    (k3 : ∀ w : World, Calls Try.prog 25 #[.int .u64 a, .int .u64 b] w fun e w' => e = .returned (.int .u64 V3) ∧ Below w.heap.size w w')
    (n3 : ∀ w : World, Calls Try.prog 37 #[.int .u64 V3] w fun e w' => e = .returned (.bool true) ∧ w = w') (t3 : (V3 != 9221120237041090560) = false)
    (k4 : ∀ w : World, Calls Try.prog 27 #[.int .u64 a, .int .u64 b] w fun e w' => e = .returned (.int .u64 V4) ∧ Below w.heap.size w w')
    (n4 : ∀ w : World, Calls Try.prog 37 #[.int .u64 V4] w fun e w' => e = .returned (.bool true) ∧ w = w') (t4 : (V4 != 9221120237041090560) = false)
    (k5 : ∀ w : World, Calls Try.prog 40 #[.int .u64 a, .int .u64 b] w fun e w' => e = .returned (.int .u64 V5) ∧ Below w.heap.size w w')
    (n5 : ∀ w : World, Calls Try.prog 37 #[.int .u64 V5] w fun e w' => e = .returned (.bool true) ∧ w = w') (t5 : (V5 != 9221120237041090560) = false)
    (k6 : ∀ w : World, Calls Try.prog 42 #[.int .u64 a, .int .u64 b] w fun e w' => e = .returned (.int .u64 V6) ∧ Below w.heap.size w w')
    (n6 : ∀ w : World, Calls Try.prog 37 #[.int .u64 V6] w fun e w' => e = .returned (.bool true) ∧ w = w') (t6 : (V6 != 9221120237041090560) = false)
    (X Y Z : Int) (hX : bits .xor .u64 a 9223372036854775808 = X) (hY : bits .andNot .u64 a 9223372036854775808 = Y) (hY2 : bits .and .u64 a 9223372036854775807 = Y) (hXX : bits .xor .u64 X 9223372036854775808 = a) (hXY : bits .andNot .u64 X 9223372036854775808 = Y)
    (hZ : bits .xor .u64 b 9223372036854775808 = Z) (kz : ∀ w : World, Calls Try.prog 22 #[.int .u64 a, .int .u64 Z] w fun e w' => e = .returned (.int .u64 V2) ∧ Below w.heap.size w w') (w : World) :
    Calls Try.prog 10 #[.int .u64 a, .int .u64 b] w fun e w' => e = .returned (.bool true) ∧ Below w.heap.size w w' := by
  have NA := Lib.hid hA
  have NB := Lib.hid hB
  have KZ := Lib.hid kz
  have HXX := Lib.hid hXX
  have HXY := Lib.hid hXY
  have HZ := Lib.hid hZ
  clear kz hXX hXY hZ
  have K1 := Lib.hid k1
  have N1 := Lib.hid n1
  have T1 := Lib.hid t1
  have K2 := Lib.hid k2
  have N2 := Lib.hid n2
  have T2 := Lib.hid t2
  have K3 := Lib.hid k3
  have N3 := Lib.hid n3
  have T3 := Lib.hid t3
  have K4 := Lib.hid k4
  have N4 := Lib.hid n4
  have T4 := Lib.hid t4
  have K5 := Lib.hid k5
  have N5 := Lib.hid n5
  have T5 := Lib.hid t5
  have K6 := Lib.hid k6
  have N6 := Lib.hid n6
  have T6 := Lib.hid t6
  clear hA hB k1 n1 t1 k2 n2 t2 k3 n3 t3 k4 n4 t4 k5 n5 t5 k6 n6 t6
  go_enter Try.func10, Try.ntmps10
  go_wp2_with fail
  refine (fit_any _).mono ?_
  rintro e w1 ⟨rfl, hb1⟩
  obtain ⟨hc1, hf1⟩ := bcell hb1
  have hz1 := hb1.size
  go_wp2_with fail
  refine (none_any a a0 a1 _).mono ?_
  rw [NA.out]
  rintro e w2 ⟨rfl, rfl⟩
  go_wp2_with fail
  refine (none_any b b0 b1 _).mono ?_
  rw [NB.out]
  rintro e w2 ⟨rfl, rfl⟩
  go_wp2_with fail
  refine (K1.out _).mono ?_
  rintro e w2 ⟨rfl, hb2⟩
  obtain ⟨hc2, hf2⟩ := bcell hb2
  have hz2 := hb2.size
  go_wp2_with fail
  refine (K2.out _).mono ?_
  rintro e w3 ⟨rfl, hb3⟩
  obtain ⟨hc3, hf3⟩ := bcell hb3
  have hz3 := hb3.size
  go_wp2_with fail
  refine (K3.out _).mono ?_
  rintro e w4 ⟨rfl, hb4⟩
  obtain ⟨hc4, hf4⟩ := bcell hb4
  have hz4 := hb4.size
  go_wp2_with fail
  refine (K4.out _).mono ?_
  rintro e w5 ⟨rfl, hb5⟩
  obtain ⟨hc5, hf5⟩ := bcell hb5
  have hz5 := hb5.size
  go_wp2_with fail
  refine (K5.out _).mono ?_
  rintro e w6 ⟨rfl, hb6⟩
  obtain ⟨hc6, hf6⟩ := bcell hb6
  have hz6 := hb6.size
  go_wp2_with fail
  refine (K6.out _).mono ?_
  rintro e w7 ⟨rfl, hb7⟩
  obtain ⟨hc7, hf7⟩ := bcell hb7
  have hz7 := hb7.size
  go_wp2_with fail
  go_loop [36] (fun s36 => SixRel s36) (fun s36 => 6 - (intOf s36).toNat)
  case atStart => exact .inl rfl
  case round =>
    rcases hrel with rfl | rfl | rfl | rfl | rfl | rfl | rfl
    · have t := T1.out
      go_wp2_with fail
      refine (N1.out _).mono ?_
      rintro e w2 ⟨rfl, rfl⟩
      go_wp2_with fail
      go_round
      case rel => exact .inr (.inl rfl)
      case measure => simp [intOf]
    · have t := T2.out
      go_wp2_with fail
      refine (N2.out _).mono ?_
      rintro e w2 ⟨rfl, rfl⟩
      go_wp2_with fail
      go_round
      case rel => exact .inr (.inr (.inl rfl))
      case measure => simp [intOf]
    · have t := T3.out
      go_wp2_with fail
      refine (N3.out _).mono ?_
      rintro e w2 ⟨rfl, rfl⟩
      go_wp2_with fail
      go_round
      case rel => exact .inr (.inr (.inr (.inl rfl)))
      case measure => simp [intOf]
    · have t := T4.out
      go_wp2_with fail
      refine (N4.out _).mono ?_
      rintro e w2 ⟨rfl, rfl⟩
      go_wp2_with fail
      go_round
      case rel => exact .inr (.inr (.inr (.inr (.inl rfl))))
      case measure => simp [intOf]
    · have t := T5.out
      go_wp2_with fail
      refine (N5.out _).mono ?_
      rintro e w2 ⟨rfl, rfl⟩
      go_wp2_with fail
      go_round
      case rel => exact .inr (.inr (.inr (.inr (.inr (.inl rfl)))))
      case measure => simp [intOf]
    · have t := T6.out
      go_wp2_with fail
      refine (N6.out _).mono ?_
      rintro e w2 ⟨rfl, rfl⟩
      go_wp2_with fail
      go_round
      case rel => exact .inr (.inr (.inr (.inr (.inr (.inr (rfl))))))
      case measure => simp [intOf]
    · go_wp2_with fail
      refine (neg_any a X hX _).mono ?_
      rintro e w2 ⟨rfl, rfl⟩
      go_wp2_with fail
      refine (abs_any a Y hY _).mono ?_
      rintro e w2 ⟨rfl, rfl⟩
      go_wp2_with fail
      refine (neg_any a X hX _).mono ?_
      rintro e w2 ⟨rfl, rfl⟩
      go_wp2_with fail
      refine (neg_any X a HXX.out _).mono ?_
      rintro e w2 ⟨rfl, rfl⟩
      go_wp2_with fail
      refine (neg_any a X hX _).mono ?_
      rintro e w2 ⟨rfl, rfl⟩
      go_wp2_with fail
      refine (abs_any X Y HXY.out _).mono ?_
      rintro e w2 ⟨rfl, rfl⟩
      go_wp2_with fail
      refine (abs_any a Y hY _).mono ?_
      rintro e w2 ⟨rfl, rfl⟩
      go_wp2_with fail
      go_ret
      refine ⟨rfl, ?_⟩
      go_light
      (repeat (first | exact Below.refl _ _ | refine below_drewN ?_ _ | (refine Below.alloc ?_ (by first | omega | (simp; done) | (simp; omega)) _) | refine Below.drew ?_ | (refine Below.setCell ?_ (by first | omega | (simp; done) | (simp; omega)) _) | exact hb7 | (refine Below.trans ?_ (hb7.mono (by first | omega | (simp; done) | (simp; omega)))) | exact hb6 | (refine Below.trans ?_ (hb6.mono (by first | omega | (simp; done) | (simp; omega)))) | exact hb5 | (refine Below.trans ?_ (hb5.mono (by first | omega | (simp; done) | (simp; omega)))) | exact hb4 | (refine Below.trans ?_ (hb4.mono (by first | omega | (simp; done) | (simp; omega)))) | exact hb3 | (refine Below.trans ?_ (hb3.mono (by first | omega | (simp; done) | (simp; omega)))) | exact hb2 | (refine Below.trans ?_ (hb2.mono (by first | omega | (simp; done) | (simp; omega)))) | exact hb1 | (refine Below.trans ?_ (hb1.mono (by first | omega | (simp; done) | (simp; omega)))) ))
end Go.Proofs.Ytelgmffmekfndaa
