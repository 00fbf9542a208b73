/- The walk of the law FltWhole: the law returns true at every two whole numbers and changes nothing that existed. Condition: the numbers fit int64. -/
import Derived.Test.YtelgmffmekfndaaFltWholeLaw
import Derived.Test.YtelgmffmekfndaaFltInt
import Derived.Test.YtelgmffmekfndaaFltOrd
import Derived.Deep.RegionHeld3
import Derived.BigQuiet
import Derived.Deep.QuietTactic
set_option linter.unusedVariables false
namespace Go.Proofs.Ytelgmffmekfndaa
open Go.ChangeShapes Go.WideShapes Go.ChangeAt Go.RowKit
open Fl (numOf whole rung word iw)

theorem tmod_small (a : Int) : (a.tmod 33554432).natAbs < 2 ^ 25 := by
  rw [Int.natAbs_tmod]
  exact Nat.mod_lt _ (by decide)

theorem wordBd (s : Bool) (m : Nat) (e : Int) : (Fl.word s (rung m e) : Int) < 18446744073709551616 := by
  have h := Fl.word_lt s (rung m e) (by have := Fl.rung_le m e; omega)
  omega

theorem some_bd {o : Option Nat} (h : ∀ r, o = some r → r < 2 ^ 64 ∧ r % 2 ^ 63 ≤ 2047 * 2 ^ 52) : ((numOf o : Nat) : Int) < 18446744073709551616 := by
  cases o with
  | none => decide
  | some r => have := (h r rfl).1; show (r : Int) < _; omega

theorem prod_bd {A B : Int} (ha : A.natAbs < 2 ^ 25) (hb : B.natAbs < 2 ^ 25) : -9007199254740992 < A * B ∧ A * B < 9007199254740992 := by
  have h := Fl.abs_sq_lt ha hb
  rw [← Int.natAbs_mul] at h
  omega

theorem quo_wrap {A B : Int} (h : -33554432 < A ∧ A < 33554432) : IntKind.i64.wrap (A.tdiv B) = A.tdiv B := by
  have h1 : (A.tdiv B).natAbs ≤ A.natAbs := by rw [Int.natAbs_tdiv]; exact Nat.div_le_self _ _
  generalize A.tdiv B = q at *
  rw [IntKind.wrap_i64]
  omega

set_option maxHeartbeats 1000000 in
theorem lawWhole (a b : Int) (a0 : -9223372036854775808 ≤ a) (a1 : a ≤ 9223372036854775807) (b0 : -9223372036854775808 ≤ b) (b1 : b ≤ 9223372036854775807) (w : World) :
    Calls Try.prog 8 #[.int .i64 a, .int .i64 b] w fun e w' => e = .returned (.bool true) ∧ Below w.heap.size w w' := by
  have ha := tmod_small a
  have hb := tmod_small b
  generalize hA : a.tmod 33554432 = A at ha
  generalize hB : b.tmod 33554432 = B at hb
  have HA := Lib.hid hA
  have HB := Lib.hid hB
  clear hA hB
  have pb := prod_bd ha hb
  have hx := fromint_any A
  have hy := fromint_any B
  have xb := wordBd (decide (A < 0)) A.natAbs 0
  have yb := wordBd (decide (B < 0)) B.natAbs 0
  generalize hX : ((word (decide (A < 0)) (rung A.natAbs 0) : Nat) : Int) = X at *
  generalize hY : ((word (decide (B < 0)) (rung B.natAbs 0) : Nat) : Int) = Y at *
  have eX : X.toNat = iw A := by rw [← hX, Int.toNat_natCast]; rfl
  have eY : Y.toNat = iw B := by rw [← hY, Int.toNat_natCast]; rfl
  have hs := add_any X Y (by omega) xb (by omega) yb
  have hm := mul_any X Y (by omega) xb (by omega) yb
  have hq := mul_any X X (by omega) xb (by omega) xb
  have hl := less_any X Y (by omega) xb (by omega) yb
  have hd := div_any X Y (by omega) xb (by omega) yb
  rw [eX, eY] at hs hm hd hl
  rw [eX] at hq
  rw [Fl.iw_less ha hb] at hl
  have ts := toint_any _ (Int.natCast_nonneg _) (some_bd (o := Ieee.double.add (iw A) (iw B)) fun r => Fl.add_bd)
  have tm := toint_any _ (Int.natCast_nonneg _) (some_bd (o := Ieee.double.mul (iw A) (iw B)) fun r => Fl.mul_bd)
  have bq := some_bd (o := Ieee.double.mul (iw A) (iw A)) fun r => Fl.mul_bd
  have sq := sqrt_any _ (Int.natCast_nonneg _) bq
  rw [Int.toNat_natCast] at sq
  have tq := toint_any _ (Int.natCast_nonneg _) (some_bd (o := Ieee.double.sqrt (numOf (Ieee.double.mul (iw A) (iw A)))) fun r => Fl.sqrt_bd)
  have td := toint_any _ (Int.natCast_nonneg _) (some_bd (o := Ieee.double.div (iw A) (iw B)) fun r => Fl.div_bd)
  rw [Int.toNat_natCast] at ts tm tq td
  rw [Fl.iw_add ha hb] at ts
  rw [Fl.iw_mul ha hb] at tm
  rw [Fl.iw_sqrt ha] at tq
  have hdv := fun z : B ≠ 0 => Fl.iw_div ha hb z
  generalize ((numOf (Ieee.double.add (iw A) (iw B)) : Nat) : Int) = S at hs ts
  generalize ((numOf (Ieee.double.mul (iw A) (iw B)) : Nat) : Int) = M at hm tm
  generalize ((numOf (Ieee.double.sqrt (numOf (Ieee.double.mul (iw A) (iw A)))) : Nat) : Int) = R at sq tq
  generalize ((numOf (Ieee.double.mul (iw A) (iw A)) : Nat) : Int) = Q at hq sq
  generalize whole (numOf (Ieee.double.div (iw A) (iw B))) = T at td hdv
  generalize ((numOf (Ieee.double.div (iw A) (iw B)) : Nat) : Int) = D at hd td
  clear eX eY hX hY xb yb bq
  have HX := Lib.hid hx
  have HY := Lib.hid hy
  have HS := Lib.hid hs
  have HM := Lib.hid hm
  have HQ := Lib.hid hq
  have HL := Lib.hid hl
  have HD := Lib.hid hd
  have TS := Lib.hid ts
  have TM := Lib.hid tm
  have SQ := Lib.hid sq
  have TQ := Lib.hid tq
  clear hx hy hs hm hq hl hd ts tm sq tq
  have ha2 : -33554432 < A ∧ A < 33554432 := by omega
  have hb2 : -33554432 < B ∧ B < 33554432 := by omega
  clear ha hb
  have hwq : IntKind.i64.wrap (A.tdiv B) = A.tdiv B := quo_wrap ha2
  cases z : (B == 0)
  · have z2 : B ≠ 0 := by simpa using z
    rw [hdv z2] at td
    have TD := Lib.hid td
    clear hdv td
    go_enter Try.func8, Try.ntmps8
    go_wp2_with fail
    refine (fit_any _).mono ?_
    rintro e w1 ⟨rfl, hb1⟩
    go_wp2_with fail
    rw [HA.out, HB.out]
    refine (HX.out _).mono ?_
    rintro e w2 ⟨rfl, rfl⟩
    go_wp2_with fail
    refine (HY.out _).mono ?_
    rintro e w2 ⟨rfl, rfl⟩
    go_wp2_with fail
    refine (HS.out _).mono ?_
    rintro e w2 ⟨rfl, hb2⟩
    go_wp2_with fail
    refine (TS.out _).mono ?_
    rintro e w3 ⟨rfl, rfl⟩
    go_wp2_with fail
    refine (HM.out _).mono ?_
    rintro e w3 ⟨rfl, hb3⟩
    go_wp2_with fail
    refine (TM.out _).mono ?_
    rintro e w4 ⟨rfl, rfl⟩
    go_wp2_with fail
    refine (HQ.out _).mono ?_
    rintro e w4 ⟨rfl, hb4⟩
    go_wp2_with fail
    refine (SQ.out _).mono ?_
    rintro e w5 ⟨rfl, hb5⟩
    go_wp2_with fail
    refine (TQ.out _).mono ?_
    rintro e w6 ⟨rfl, rfl⟩
    go_wp2_with fail
    all_goals
      refine (HL.out _).mono ?_
      rintro e w6 ⟨rfl, rfl⟩
      by_cases c : A < B
      all_goals
        simp only [c, decide_true, decide_false]
        have z1 := hb1.size
        have z2 := hb2.size
        have z3 := hb3.size
        have z4 := hb4.size
        have z5 := hb5.size
        have l5 : w.heap.size ≤ w5.heap.size := by omega
        have b5 := (((hb1.trans (hb2.mono (by omega))).trans (hb3.mono (by omega))).trans (hb4.mono (by omega))).trans (hb5.mono (by omega))
        clear z1 z2 z3 z4 z5
        go_wp2_with fail
        go_region_held3 (fun w' => Below w5.heap.size w5 w') (first | assumption | exact Below.drew (Below.refl _ _) | exact Below.trans (Below.drew (Below.refl _ _)) hb6 | (refine Below.trans ?_ (hb6.mono ?_); first | assumption | exact Below.drew (Below.refl _ _); (simp; done))) (first | (go_at_call 27; refine (HD.out _).mono ?_; rintro e w7 ⟨rfl, hb6⟩) | (go_at_call 33; refine (TD.out _).mono ?_; rintro e w8 ⟨rfl, rfl⟩))
        all_goals
          rename_i hHeld
          go_wp2_with fail
          go_ret
          refine ⟨rfl, ?_⟩
          exact b5.trans (hHeld.mono l5)
  · clear hdv td
    go_enter Try.func8, Try.ntmps8
    go_wp2_with fail
    refine (fit_any _).mono ?_
    rintro e w1 ⟨rfl, hb1⟩
    go_wp2_with fail
    rw [HA.out, HB.out]
    refine (HX.out _).mono ?_
    rintro e w2 ⟨rfl, rfl⟩
    go_wp2_with fail
    refine (HY.out _).mono ?_
    rintro e w2 ⟨rfl, rfl⟩
    go_wp2_with fail
    refine (HS.out _).mono ?_
    rintro e w2 ⟨rfl, hb2⟩
    go_wp2_with fail
    refine (TS.out _).mono ?_
    rintro e w3 ⟨rfl, rfl⟩
    go_wp2_with fail
    refine (HM.out _).mono ?_
    rintro e w3 ⟨rfl, hb3⟩
    go_wp2_with fail
    refine (TM.out _).mono ?_
    rintro e w4 ⟨rfl, rfl⟩
    go_wp2_with fail
    refine (HQ.out _).mono ?_
    rintro e w4 ⟨rfl, hb4⟩
    go_wp2_with fail
    refine (SQ.out _).mono ?_
    rintro e w5 ⟨rfl, hb5⟩
    go_wp2_with fail
    refine (TQ.out _).mono ?_
    rintro e w6 ⟨rfl, rfl⟩
    go_wp2_with fail
    all_goals
      refine (HL.out _).mono ?_
      rintro e w6 ⟨rfl, rfl⟩
      by_cases c : A < B
      all_goals
        simp only [c, decide_true, decide_false]
        have z1 := hb1.size
        have z2 := hb2.size
        have z3 := hb3.size
        have z4 := hb4.size
        have z5 := hb5.size
        have l5 : w.heap.size ≤ w5.heap.size := by omega
        have b5 := (((hb1.trans (hb2.mono (by omega))).trans (hb3.mono (by omega))).trans (hb4.mono (by omega))).trans (hb5.mono (by omega))
        clear z1 z2 z3 z4 z5
        go_wp2_with fail
        go_quiet (fail)
        go_wp2_with fail
        go_ret
        exact ⟨rfl, below_drewN b5 _⟩
end Go.Proofs.Ytelgmffmekfndaa
