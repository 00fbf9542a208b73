/- The walk of the law FltOrder: the law returns true at every two words and changes nothing that existed. Condition: the words fit 64 bits. -/
import Derived.Test.YtelgmffmekfndaaFltMinR
import Derived.Test.YtelgmffmekfndaaFltMin
import Derived.Test.YtelgmffmekfndaaFltClassR
set_option linter.unusedVariables false
namespace Go.Proofs.Ytelgmffmekfndaa
open Go.ChangeShapes Go.WideShapes Go.ChangeAt Go.RowKit
open Fl (isN lessN sameN minW maxW rankN)

/-- how many of the first ones hold -/
def OrdRel (n1 n2 n3 : Int) (s8 s28 : Value) : Prop := (s28 = .int .i64 0 ∧ s8 = .int .i64 0) ∨ (s28 = .int .i64 1 ∧ s8 = .int .i64 n1) ∨ (s28 = .int .i64 2 ∧ s8 = .int .i64 n2) ∨ (s28 = .int .i64 3 ∧ s8 = .int .i64 n3)

set_option maxRecDepth 100000 in
set_option maxHeartbeats 8000000 in
theorem lawOrder_a (a b : Int) (a0 : 0 ≤ a) (a1 : a < 18446744073709551616) (b0 : 0 ≤ b) (b1 : b < 18446744073709551616)
    (hL : lessN a.toNat b.toNat = true) (hM : lessN b.toNat a.toNat = false) (hS : sameN a.toNat b.toNat = false) (hA : (!decide (isN a.toNat)) = false) (hB : (!decide (isN b.toNat)) = false ∨ (!decide (isN a.toNat)) = true) (w : World) :
    Calls Try.prog 7 #[.int .u64 a, .int .u64 b] w fun e w' => e = .returned (.bool true) ∧ Below w.heap.size w w' := by
  have HL := Lib.hid hL
  have HM := Lib.hid hM
  have HS := Lib.hid hS
  have NA := Lib.hid hA
  have NB := Lib.hid (hB.resolve_right (by rw [hA]; decide))
  obtain ⟨mi, hmi⟩ : ∃ m, minW a.toNat b.toNat = m := ⟨_, rfl⟩
  obtain ⟨ma, hma⟩ : ∃ m, maxW a.toNat b.toNat = m := ⟨_, rfl⟩
  obtain ⟨cl, hcl⟩ : ∃ m, classN a.toNat = m := ⟨_, rfl⟩
  have HMi := Lib.hid hmi
  have HMa := Lib.hid hma
  have HC := Lib.hid hcl
  clear hL hM hS hA hB hmi hma hcl
  go_enter Try.func7, Try.ntmps7
  go_wp2_with fail
  refine (fit_any _).mono ?_
  rintro e w1 ⟨rfl, hb1⟩
  obtain ⟨hc1, hf1⟩ := bcell hb1
  have hz1 := hb1.size
  go_wp2_with fail
  refine (less_any a b a0 a1 b0 b1 _).mono ?_
  rw [HL.out]
  rintro e w2 ⟨rfl, rfl⟩
  go_wp2_with fail
  refine (less_any b a b0 b1 a0 a1 _).mono ?_
  rw [HM.out]
  rintro e w2 ⟨rfl, rfl⟩
  go_wp2_with fail
  refine (same_any a b a0 a1 b0 b1 _).mono ?_
  rw [HS.out]
  rintro e w2 ⟨rfl, rfl⟩
  go_wp2_with fail
  go_loop [8, 28] (fun s8 s28 => OrdRel 1 1 1 s8 s28) (fun _ s28 => 3 - (intOf s28).toNat)
  case atStart => exact .inl ⟨rfl, rfl⟩
  case round =>
    rcases hrel with ⟨rfl, rfl⟩ | ⟨rfl, rfl⟩ | ⟨rfl, rfl⟩ | ⟨rfl, rfl⟩
    · go_wp2_with fail
      go_round
      case rel => exact .inr (.inl ⟨rfl, rfl⟩)
      case measure => simp [intOf]
    · go_wp2_with fail
      go_round
      case rel => exact .inr (.inr (.inl ⟨rfl, rfl⟩))
      case measure => simp [intOf]
    · go_wp2_with fail
      go_round
      case rel => exact .inr (.inr (.inr ⟨rfl, rfl⟩))
      case measure => simp [intOf]
    · go_wp2_with fail
      refine (none_any a a0 a1 _).mono ?_
      rw [NA.out]
      rintro e w2 ⟨rfl, rfl⟩
      go_wp2_with fail
      refine (none_any b b0 b1 _).mono ?_
      rw [NB.out]
      rintro e w2 ⟨rfl, rfl⟩
      go_wp2_with fail
      refine (refless_any a b a0 a1 b0 b1 _).mono ?_
      rw [HL.out]
      rintro e w3 ⟨rfl, hb3⟩
      obtain ⟨hc3, hf3⟩ := bcell hb3
      have hz3 := hb3.size
      go_wp2_with fail
      have hz3b : w1.heap.size ≤ w3.heap.size := Nat.le_trans (by simp) hb3.size
      refine (refsame_any a b a0 a1 b0 b1 _).mono ?_
      rw [HS.out]
      rintro e w4 ⟨rfl, hb4⟩
      obtain ⟨hc4, hf4⟩ := bcell hb4
      have hz4 := hb4.size
      go_wp2_with fail
      refine (min_any a b a0 a1 b0 b1 _).mono ?_
      rw [HMi.out]
      rintro e w5 ⟨rfl, hb5⟩
      obtain ⟨hc5, hf5⟩ := bcell hb5
      have hz5 := hb5.size
      go_wp2_with fail
      refine (refmin_any a b a0 a1 b0 b1 _).mono ?_
      rw [HMi.out]
      rintro e w6 ⟨rfl, hb6⟩
      obtain ⟨hc6, hf6⟩ := bcell hb6
      have hz6 := hb6.size
      go_wp2_with fail
      refine (max_any a b a0 a1 b0 b1 _).mono ?_
      rw [HMa.out]
      rintro e w7 ⟨rfl, hb7⟩
      obtain ⟨hc7, hf7⟩ := bcell hb7
      have hz7 := hb7.size
      go_wp2_with fail
      refine (refmax_any a b a0 a1 b0 b1 _).mono ?_
      rw [HMa.out]
      rintro e w8 ⟨rfl, hb8⟩
      obtain ⟨hc8, hf8⟩ := bcell hb8
      have hz8 := hb8.size
      go_wp2_with fail
      refine (class_any a a0 a1 _).mono ?_
      rw [HC.out]
      rintro e w9 ⟨rfl, rfl⟩
      go_wp2_with fail
      refine (refclass_any a a0 a1 _).mono ?_
      rw [HC.out]
      rintro e w10 ⟨rfl, hb10⟩
      obtain ⟨hc10, hf10⟩ := bcell hb10
      have hz10 := hb10.size
      go_wp2_with fail
      go_ret
      refine ⟨rfl, ?_⟩
      go_light
      (repeat (first | exact Below.refl _ _ | refine below_drewN ?_ _ | (refine Below.alloc ?_ (by first | omega | (simp; done) | (simp; omega)) _) | refine Below.drew ?_ | (refine Below.setCell ?_ (by first | omega | (simp; done) | (simp; omega)) _) | exact hb10 | (refine Below.trans ?_ (hb10.mono (by first | omega | (simp; done) | (simp; omega)))) | exact hb8 | (refine Below.trans ?_ (hb8.mono (by first | omega | (simp; done) | (simp; omega)))) | exact hb7 | (refine Below.trans ?_ (hb7.mono (by first | omega | (simp; done) | (simp; omega)))) | exact hb6 | (refine Below.trans ?_ (hb6.mono (by first | omega | (simp; done) | (simp; omega)))) | exact hb5 | (refine Below.trans ?_ (hb5.mono (by first | omega | (simp; done) | (simp; omega)))) | exact hb4 | (refine Below.trans ?_ (hb4.mono (by first | omega | (simp; done) | (simp; omega)))) | exact hb3 | (refine Below.trans ?_ (hb3.mono (by first | omega | (simp; done) | (simp; omega)))) | exact hb1 | (refine Below.trans ?_ (hb1.mono (by first | omega | (simp; done) | (simp; omega)))) ))

set_option maxRecDepth 100000 in
set_option maxHeartbeats 8000000 in
theorem lawOrder_b (a b : Int) (a0 : 0 ≤ a) (a1 : a < 18446744073709551616) (b0 : 0 ≤ b) (b1 : b < 18446744073709551616)
    (hL : lessN a.toNat b.toNat = false) (hM : lessN b.toNat a.toNat = true) (hS : sameN a.toNat b.toNat = false) (hA : (!decide (isN a.toNat)) = false) (hB : (!decide (isN b.toNat)) = false ∨ (!decide (isN a.toNat)) = true) (w : World) :
    Calls Try.prog 7 #[.int .u64 a, .int .u64 b] w fun e w' => e = .returned (.bool true) ∧ Below w.heap.size w w' := by
  have HL := Lib.hid hL
  have HM := Lib.hid hM
  have HS := Lib.hid hS
  have NA := Lib.hid hA
  have NB := Lib.hid (hB.resolve_right (by rw [hA]; decide))
  obtain ⟨mi, hmi⟩ : ∃ m, minW a.toNat b.toNat = m := ⟨_, rfl⟩
  obtain ⟨ma, hma⟩ : ∃ m, maxW a.toNat b.toNat = m := ⟨_, rfl⟩
  obtain ⟨cl, hcl⟩ : ∃ m, classN a.toNat = m := ⟨_, rfl⟩
  have HMi := Lib.hid hmi
  have HMa := Lib.hid hma
  have HC := Lib.hid hcl
  clear hL hM hS hA hB hmi hma hcl
  go_enter Try.func7, Try.ntmps7
  go_wp2_with fail
  refine (fit_any _).mono ?_
  rintro e w1 ⟨rfl, hb1⟩
  obtain ⟨hc1, hf1⟩ := bcell hb1
  have hz1 := hb1.size
  go_wp2_with fail
  refine (less_any a b a0 a1 b0 b1 _).mono ?_
  rw [HL.out]
  rintro e w2 ⟨rfl, rfl⟩
  go_wp2_with fail
  refine (less_any b a b0 b1 a0 a1 _).mono ?_
  rw [HM.out]
  rintro e w2 ⟨rfl, rfl⟩
  go_wp2_with fail
  refine (same_any a b a0 a1 b0 b1 _).mono ?_
  rw [HS.out]
  rintro e w2 ⟨rfl, rfl⟩
  go_wp2_with fail
  go_loop [8, 28] (fun s8 s28 => OrdRel 0 1 1 s8 s28) (fun _ s28 => 3 - (intOf s28).toNat)
  case atStart => exact .inl ⟨rfl, rfl⟩
  case round =>
    rcases hrel with ⟨rfl, rfl⟩ | ⟨rfl, rfl⟩ | ⟨rfl, rfl⟩ | ⟨rfl, rfl⟩
    · go_wp2_with fail
      go_round
      case rel => exact .inr (.inl ⟨rfl, rfl⟩)
      case measure => simp [intOf]
    · go_wp2_with fail
      go_round
      case rel => exact .inr (.inr (.inl ⟨rfl, rfl⟩))
      case measure => simp [intOf]
    · go_wp2_with fail
      go_round
      case rel => exact .inr (.inr (.inr ⟨rfl, rfl⟩))
      case measure => simp [intOf]
    · go_wp2_with fail
      refine (none_any a a0 a1 _).mono ?_
      rw [NA.out]
      rintro e w2 ⟨rfl, rfl⟩
      go_wp2_with fail
      refine (none_any b b0 b1 _).mono ?_
      rw [NB.out]
      rintro e w2 ⟨rfl, rfl⟩
      go_wp2_with fail
      refine (refless_any a b a0 a1 b0 b1 _).mono ?_
      rw [HL.out]
      rintro e w3 ⟨rfl, hb3⟩
      obtain ⟨hc3, hf3⟩ := bcell hb3
      have hz3 := hb3.size
      go_wp2_with fail
      have hz3b : w1.heap.size ≤ w3.heap.size := Nat.le_trans (by simp) hb3.size
      refine (refsame_any a b a0 a1 b0 b1 _).mono ?_
      rw [HS.out]
      rintro e w4 ⟨rfl, hb4⟩
      obtain ⟨hc4, hf4⟩ := bcell hb4
      have hz4 := hb4.size
      go_wp2_with fail
      refine (min_any a b a0 a1 b0 b1 _).mono ?_
      rw [HMi.out]
      rintro e w5 ⟨rfl, hb5⟩
      obtain ⟨hc5, hf5⟩ := bcell hb5
      have hz5 := hb5.size
      go_wp2_with fail
      refine (refmin_any a b a0 a1 b0 b1 _).mono ?_
      rw [HMi.out]
      rintro e w6 ⟨rfl, hb6⟩
      obtain ⟨hc6, hf6⟩ := bcell hb6
      have hz6 := hb6.size
      go_wp2_with fail
      refine (max_any a b a0 a1 b0 b1 _).mono ?_
      rw [HMa.out]
      rintro e w7 ⟨rfl, hb7⟩
      obtain ⟨hc7, hf7⟩ := bcell hb7
      have hz7 := hb7.size
      go_wp2_with fail
      refine (refmax_any a b a0 a1 b0 b1 _).mono ?_
      rw [HMa.out]
      rintro e w8 ⟨rfl, hb8⟩
      obtain ⟨hc8, hf8⟩ := bcell hb8
      have hz8 := hb8.size
      go_wp2_with fail
      refine (class_any a a0 a1 _).mono ?_
      rw [HC.out]
      rintro e w9 ⟨rfl, rfl⟩
      go_wp2_with fail
      refine (refclass_any a a0 a1 _).mono ?_
      rw [HC.out]
      rintro e w10 ⟨rfl, hb10⟩
      obtain ⟨hc10, hf10⟩ := bcell hb10
      have hz10 := hb10.size
      go_wp2_with fail
      go_ret
      refine ⟨rfl, ?_⟩
      go_light
      (repeat (first | exact Below.refl _ _ | refine below_drewN ?_ _ | (refine Below.alloc ?_ (by first | omega | (simp; done) | (simp; omega)) _) | refine Below.drew ?_ | (refine Below.setCell ?_ (by first | omega | (simp; done) | (simp; omega)) _) | exact hb10 | (refine Below.trans ?_ (hb10.mono (by first | omega | (simp; done) | (simp; omega)))) | exact hb8 | (refine Below.trans ?_ (hb8.mono (by first | omega | (simp; done) | (simp; omega)))) | exact hb7 | (refine Below.trans ?_ (hb7.mono (by first | omega | (simp; done) | (simp; omega)))) | exact hb6 | (refine Below.trans ?_ (hb6.mono (by first | omega | (simp; done) | (simp; omega)))) | exact hb5 | (refine Below.trans ?_ (hb5.mono (by first | omega | (simp; done) | (simp; omega)))) | exact hb4 | (refine Below.trans ?_ (hb4.mono (by first | omega | (simp; done) | (simp; omega)))) | exact hb3 | (refine Below.trans ?_ (hb3.mono (by first | omega | (simp; done) | (simp; omega)))) | exact hb1 | (refine Below.trans ?_ (hb1.mono (by first | omega | (simp; done) | (simp; omega)))) ))

set_option maxRecDepth 100000 in
set_option maxHeartbeats 8000000 in
theorem lawOrder_c (a b : Int) (a0 : 0 ≤ a) (a1 : a < 18446744073709551616) (b0 : 0 ≤ b) (b1 : b < 18446744073709551616)
    (hL : lessN a.toNat b.toNat = false) (hM : lessN b.toNat a.toNat = false) (hS : sameN a.toNat b.toNat = true) (hA : (!decide (isN a.toNat)) = false) (hB : (!decide (isN b.toNat)) = false ∨ (!decide (isN a.toNat)) = true) (w : World) :
    Calls Try.prog 7 #[.int .u64 a, .int .u64 b] w fun e w' => e = .returned (.bool true) ∧ Below w.heap.size w w' := by
  have HL := Lib.hid hL
  have HM := Lib.hid hM
  have HS := Lib.hid hS
  have NA := Lib.hid hA
  have NB := Lib.hid (hB.resolve_right (by rw [hA]; decide))
  obtain ⟨mi, hmi⟩ : ∃ m, minW a.toNat b.toNat = m := ⟨_, rfl⟩
  obtain ⟨ma, hma⟩ : ∃ m, maxW a.toNat b.toNat = m := ⟨_, rfl⟩
  obtain ⟨cl, hcl⟩ : ∃ m, classN a.toNat = m := ⟨_, rfl⟩
  have HMi := Lib.hid hmi
  have HMa := Lib.hid hma
  have HC := Lib.hid hcl
  clear hL hM hS hA hB hmi hma hcl
  go_enter Try.func7, Try.ntmps7
  go_wp2_with fail
  refine (fit_any _).mono ?_
  rintro e w1 ⟨rfl, hb1⟩
  obtain ⟨hc1, hf1⟩ := bcell hb1
  have hz1 := hb1.size
  go_wp2_with fail
  refine (less_any a b a0 a1 b0 b1 _).mono ?_
  rw [HL.out]
  rintro e w2 ⟨rfl, rfl⟩
  go_wp2_with fail
  refine (less_any b a b0 b1 a0 a1 _).mono ?_
  rw [HM.out]
  rintro e w2 ⟨rfl, rfl⟩
  go_wp2_with fail
  refine (same_any a b a0 a1 b0 b1 _).mono ?_
  rw [HS.out]
  rintro e w2 ⟨rfl, rfl⟩
  go_wp2_with fail
  go_loop [8, 28] (fun s8 s28 => OrdRel 0 0 1 s8 s28) (fun _ s28 => 3 - (intOf s28).toNat)
  case atStart => exact .inl ⟨rfl, rfl⟩
  case round =>
    rcases hrel with ⟨rfl, rfl⟩ | ⟨rfl, rfl⟩ | ⟨rfl, rfl⟩ | ⟨rfl, rfl⟩
    · go_wp2_with fail
      go_round
      case rel => exact .inr (.inl ⟨rfl, rfl⟩)
      case measure => simp [intOf]
    · go_wp2_with fail
      go_round
      case rel => exact .inr (.inr (.inl ⟨rfl, rfl⟩))
      case measure => simp [intOf]
    · go_wp2_with fail
      go_round
      case rel => exact .inr (.inr (.inr ⟨rfl, rfl⟩))
      case measure => simp [intOf]
    · go_wp2_with fail
      refine (none_any a a0 a1 _).mono ?_
      rw [NA.out]
      rintro e w2 ⟨rfl, rfl⟩
      go_wp2_with fail
      refine (none_any b b0 b1 _).mono ?_
      rw [NB.out]
      rintro e w2 ⟨rfl, rfl⟩
      go_wp2_with fail
      refine (refless_any a b a0 a1 b0 b1 _).mono ?_
      rw [HL.out]
      rintro e w3 ⟨rfl, hb3⟩
      obtain ⟨hc3, hf3⟩ := bcell hb3
      have hz3 := hb3.size
      go_wp2_with fail
      have hz3b : w1.heap.size ≤ w3.heap.size := Nat.le_trans (by simp) hb3.size
      refine (refsame_any a b a0 a1 b0 b1 _).mono ?_
      rw [HS.out]
      rintro e w4 ⟨rfl, hb4⟩
      obtain ⟨hc4, hf4⟩ := bcell hb4
      have hz4 := hb4.size
      go_wp2_with fail
      refine (min_any a b a0 a1 b0 b1 _).mono ?_
      rw [HMi.out]
      rintro e w5 ⟨rfl, hb5⟩
      obtain ⟨hc5, hf5⟩ := bcell hb5
      have hz5 := hb5.size
      go_wp2_with fail
      refine (refmin_any a b a0 a1 b0 b1 _).mono ?_
      rw [HMi.out]
      rintro e w6 ⟨rfl, hb6⟩
      obtain ⟨hc6, hf6⟩ := bcell hb6
      have hz6 := hb6.size
      go_wp2_with fail
      refine (max_any a b a0 a1 b0 b1 _).mono ?_
      rw [HMa.out]
      rintro e w7 ⟨rfl, hb7⟩
      obtain ⟨hc7, hf7⟩ := bcell hb7
      have hz7 := hb7.size
      go_wp2_with fail
      refine (refmax_any a b a0 a1 b0 b1 _).mono ?_
      rw [HMa.out]
      rintro e w8 ⟨rfl, hb8⟩
      obtain ⟨hc8, hf8⟩ := bcell hb8
      have hz8 := hb8.size
      go_wp2_with fail
      refine (class_any a a0 a1 _).mono ?_
      rw [HC.out]
      rintro e w9 ⟨rfl, rfl⟩
      go_wp2_with fail
      refine (refclass_any a a0 a1 _).mono ?_
      rw [HC.out]
      rintro e w10 ⟨rfl, hb10⟩
      obtain ⟨hc10, hf10⟩ := bcell hb10
      have hz10 := hb10.size
      go_wp2_with fail
      go_ret
      refine ⟨rfl, ?_⟩
      go_light
      (repeat (first | exact Below.refl _ _ | refine below_drewN ?_ _ | (refine Below.alloc ?_ (by first | omega | (simp; done) | (simp; omega)) _) | refine Below.drew ?_ | (refine Below.setCell ?_ (by first | omega | (simp; done) | (simp; omega)) _) | exact hb10 | (refine Below.trans ?_ (hb10.mono (by first | omega | (simp; done) | (simp; omega)))) | exact hb8 | (refine Below.trans ?_ (hb8.mono (by first | omega | (simp; done) | (simp; omega)))) | exact hb7 | (refine Below.trans ?_ (hb7.mono (by first | omega | (simp; done) | (simp; omega)))) | exact hb6 | (refine Below.trans ?_ (hb6.mono (by first | omega | (simp; done) | (simp; omega)))) | exact hb5 | (refine Below.trans ?_ (hb5.mono (by first | omega | (simp; done) | (simp; omega)))) | exact hb4 | (refine Below.trans ?_ (hb4.mono (by first | omega | (simp; done) | (simp; omega)))) | exact hb3 | (refine Below.trans ?_ (hb3.mono (by first | omega | (simp; done) | (simp; omega)))) | exact hb1 | (refine Below.trans ?_ (hb1.mono (by first | omega | (simp; done) | (simp; omega)))) ))

set_option maxRecDepth 100000 in
set_option maxHeartbeats 8000000 in
theorem lawOrder_d (a b : Int) (a0 : 0 ≤ a) (a1 : a < 18446744073709551616) (b0 : 0 ≤ b) (b1 : b < 18446744073709551616)
    (hL : lessN a.toNat b.toNat = false) (hM : lessN b.toNat a.toNat = false) (hS : sameN a.toNat b.toNat = false) (hA : (!decide (isN a.toNat)) = false) (hB : (!decide (isN b.toNat)) = true ∨ (!decide (isN a.toNat)) = true) (w : World) :
    Calls Try.prog 7 #[.int .u64 a, .int .u64 b] w fun e w' => e = .returned (.bool true) ∧ Below w.heap.size w w' := by
  have HL := Lib.hid hL
  have HM := Lib.hid hM
  have HS := Lib.hid hS
  have NA := Lib.hid hA
  have NB := Lib.hid (hB.resolve_right (by rw [hA]; decide))
  obtain ⟨mi, hmi⟩ : ∃ m, minW a.toNat b.toNat = m := ⟨_, rfl⟩
  obtain ⟨ma, hma⟩ : ∃ m, maxW a.toNat b.toNat = m := ⟨_, rfl⟩
  obtain ⟨cl, hcl⟩ : ∃ m, classN a.toNat = m := ⟨_, rfl⟩
  have HMi := Lib.hid hmi
  have HMa := Lib.hid hma
  have HC := Lib.hid hcl
  clear hL hM hS hA hB hmi hma hcl
  go_enter Try.func7, Try.ntmps7
  go_wp2_with fail
  refine (fit_any _).mono ?_
  rintro e w1 ⟨rfl, hb1⟩
  obtain ⟨hc1, hf1⟩ := bcell hb1
  have hz1 := hb1.size
  go_wp2_with fail
  refine (less_any a b a0 a1 b0 b1 _).mono ?_
  rw [HL.out]
  rintro e w2 ⟨rfl, rfl⟩
  go_wp2_with fail
  refine (less_any b a b0 b1 a0 a1 _).mono ?_
  rw [HM.out]
  rintro e w2 ⟨rfl, rfl⟩
  go_wp2_with fail
  refine (same_any a b a0 a1 b0 b1 _).mono ?_
  rw [HS.out]
  rintro e w2 ⟨rfl, rfl⟩
  go_wp2_with fail
  go_loop [8, 28] (fun s8 s28 => OrdRel 0 0 0 s8 s28) (fun _ s28 => 3 - (intOf s28).toNat)
  case atStart => exact .inl ⟨rfl, rfl⟩
  case round =>
    rcases hrel with ⟨rfl, rfl⟩ | ⟨rfl, rfl⟩ | ⟨rfl, rfl⟩ | ⟨rfl, rfl⟩
    · go_wp2_with fail
      go_round
      case rel => exact .inr (.inl ⟨rfl, rfl⟩)
      case measure => simp [intOf]
    · go_wp2_with fail
      go_round
      case rel => exact .inr (.inr (.inl ⟨rfl, rfl⟩))
      case measure => simp [intOf]
    · go_wp2_with fail
      go_round
      case rel => exact .inr (.inr (.inr ⟨rfl, rfl⟩))
      case measure => simp [intOf]
    · go_wp2_with fail
      refine (none_any a a0 a1 _).mono ?_
      rw [NA.out]
      rintro e w2 ⟨rfl, rfl⟩
      go_wp2_with fail
      refine (none_any b b0 b1 _).mono ?_
      rw [NB.out]
      rintro e w2 ⟨rfl, rfl⟩
      go_wp2_with fail
      refine (refless_any a b a0 a1 b0 b1 _).mono ?_
      rw [HL.out]
      rintro e w3 ⟨rfl, hb3⟩
      obtain ⟨hc3, hf3⟩ := bcell hb3
      have hz3 := hb3.size
      go_wp2_with fail
      have hz3b : w1.heap.size ≤ w3.heap.size := Nat.le_trans (by simp) hb3.size
      refine (refsame_any a b a0 a1 b0 b1 _).mono ?_
      rw [HS.out]
      rintro e w4 ⟨rfl, hb4⟩
      obtain ⟨hc4, hf4⟩ := bcell hb4
      have hz4 := hb4.size
      go_wp2_with fail
      refine (min_any a b a0 a1 b0 b1 _).mono ?_
      rw [HMi.out]
      rintro e w5 ⟨rfl, hb5⟩
      obtain ⟨hc5, hf5⟩ := bcell hb5
      have hz5 := hb5.size
      go_wp2_with fail
      refine (refmin_any a b a0 a1 b0 b1 _).mono ?_
      rw [HMi.out]
      rintro e w6 ⟨rfl, hb6⟩
      obtain ⟨hc6, hf6⟩ := bcell hb6
      have hz6 := hb6.size
      go_wp2_with fail
      refine (max_any a b a0 a1 b0 b1 _).mono ?_
      rw [HMa.out]
      rintro e w7 ⟨rfl, hb7⟩
      obtain ⟨hc7, hf7⟩ := bcell hb7
      have hz7 := hb7.size
      go_wp2_with fail
      refine (refmax_any a b a0 a1 b0 b1 _).mono ?_
      rw [HMa.out]
      rintro e w8 ⟨rfl, hb8⟩
      obtain ⟨hc8, hf8⟩ := bcell hb8
      have hz8 := hb8.size
      go_wp2_with fail
      refine (class_any a a0 a1 _).mono ?_
      rw [HC.out]
      rintro e w9 ⟨rfl, rfl⟩
      go_wp2_with fail
      refine (refclass_any a a0 a1 _).mono ?_
      rw [HC.out]
      rintro e w10 ⟨rfl, hb10⟩
      obtain ⟨hc10, hf10⟩ := bcell hb10
      have hz10 := hb10.size
      go_wp2_with fail
      go_ret
      refine ⟨rfl, ?_⟩
      go_light
      (repeat (first | exact Below.refl _ _ | refine below_drewN ?_ _ | (refine Below.alloc ?_ (by first | omega | (simp; done) | (simp; omega)) _) | refine Below.drew ?_ | (refine Below.setCell ?_ (by first | omega | (simp; done) | (simp; omega)) _) | exact hb10 | (refine Below.trans ?_ (hb10.mono (by first | omega | (simp; done) | (simp; omega)))) | exact hb8 | (refine Below.trans ?_ (hb8.mono (by first | omega | (simp; done) | (simp; omega)))) | exact hb7 | (refine Below.trans ?_ (hb7.mono (by first | omega | (simp; done) | (simp; omega)))) | exact hb6 | (refine Below.trans ?_ (hb6.mono (by first | omega | (simp; done) | (simp; omega)))) | exact hb5 | (refine Below.trans ?_ (hb5.mono (by first | omega | (simp; done) | (simp; omega)))) | exact hb4 | (refine Below.trans ?_ (hb4.mono (by first | omega | (simp; done) | (simp; omega)))) | exact hb3 | (refine Below.trans ?_ (hb3.mono (by first | omega | (simp; done) | (simp; omega)))) | exact hb1 | (refine Below.trans ?_ (hb1.mono (by first | omega | (simp; done) | (simp; omega)))) ))

set_option maxRecDepth 100000 in
set_option maxHeartbeats 8000000 in
theorem lawOrder_e (a b : Int) (a0 : 0 ≤ a) (a1 : a < 18446744073709551616) (b0 : 0 ≤ b) (b1 : b < 18446744073709551616)
    (hL : lessN a.toNat b.toNat = false) (hM : lessN b.toNat a.toNat = false) (hS : sameN a.toNat b.toNat = false) (hA : (!decide (isN a.toNat)) = true) (hB : (!decide (isN b.toNat)) = false ∨ (!decide (isN a.toNat)) = true) (w : World) :
    Calls Try.prog 7 #[.int .u64 a, .int .u64 b] w fun e w' => e = .returned (.bool true) ∧ Below w.heap.size w w' := by
  have HL := Lib.hid hL
  have HM := Lib.hid hM
  have HS := Lib.hid hS
  have NA := Lib.hid hA
  obtain ⟨mi, hmi⟩ : ∃ m, minW a.toNat b.toNat = m := ⟨_, rfl⟩
  obtain ⟨ma, hma⟩ : ∃ m, maxW a.toNat b.toNat = m := ⟨_, rfl⟩
  obtain ⟨cl, hcl⟩ : ∃ m, classN a.toNat = m := ⟨_, rfl⟩
  have HMi := Lib.hid hmi
  have HMa := Lib.hid hma
  have HC := Lib.hid hcl
  clear hL hM hS hA hB hmi hma hcl
  go_enter Try.func7, Try.ntmps7
  go_wp2_with fail
  refine (fit_any _).mono ?_
  rintro e w1 ⟨rfl, hb1⟩
  obtain ⟨hc1, hf1⟩ := bcell hb1
  have hz1 := hb1.size
  go_wp2_with fail
  refine (less_any a b a0 a1 b0 b1 _).mono ?_
  rw [HL.out]
  rintro e w2 ⟨rfl, rfl⟩
  go_wp2_with fail
  refine (less_any b a b0 b1 a0 a1 _).mono ?_
  rw [HM.out]
  rintro e w2 ⟨rfl, rfl⟩
  go_wp2_with fail
  refine (same_any a b a0 a1 b0 b1 _).mono ?_
  rw [HS.out]
  rintro e w2 ⟨rfl, rfl⟩
  go_wp2_with fail
  go_loop [8, 28] (fun s8 s28 => OrdRel 0 0 0 s8 s28) (fun _ s28 => 3 - (intOf s28).toNat)
  case atStart => exact .inl ⟨rfl, rfl⟩
  case round =>
    rcases hrel with ⟨rfl, rfl⟩ | ⟨rfl, rfl⟩ | ⟨rfl, rfl⟩ | ⟨rfl, rfl⟩
    · go_wp2_with fail
      go_round
      case rel => exact .inr (.inl ⟨rfl, rfl⟩)
      case measure => simp [intOf]
    · go_wp2_with fail
      go_round
      case rel => exact .inr (.inr (.inl ⟨rfl, rfl⟩))
      case measure => simp [intOf]
    · go_wp2_with fail
      go_round
      case rel => exact .inr (.inr (.inr ⟨rfl, rfl⟩))
      case measure => simp [intOf]
    · go_wp2_with fail
      refine (none_any a a0 a1 _).mono ?_
      rw [NA.out]
      rintro e w2 ⟨rfl, rfl⟩
      go_wp2_with fail
      refine (refless_any a b a0 a1 b0 b1 _).mono ?_
      rw [HL.out]
      rintro e w3 ⟨rfl, hb3⟩
      obtain ⟨hc3, hf3⟩ := bcell hb3
      have hz3 := hb3.size
      go_wp2_with fail
      have hz3b : w1.heap.size ≤ w3.heap.size := Nat.le_trans (by simp) hb3.size
      refine (refsame_any a b a0 a1 b0 b1 _).mono ?_
      rw [HS.out]
      rintro e w4 ⟨rfl, hb4⟩
      obtain ⟨hc4, hf4⟩ := bcell hb4
      have hz4 := hb4.size
      go_wp2_with fail
      refine (min_any a b a0 a1 b0 b1 _).mono ?_
      rw [HMi.out]
      rintro e w5 ⟨rfl, hb5⟩
      obtain ⟨hc5, hf5⟩ := bcell hb5
      have hz5 := hb5.size
      go_wp2_with fail
      refine (refmin_any a b a0 a1 b0 b1 _).mono ?_
      rw [HMi.out]
      rintro e w6 ⟨rfl, hb6⟩
      obtain ⟨hc6, hf6⟩ := bcell hb6
      have hz6 := hb6.size
      go_wp2_with fail
      refine (max_any a b a0 a1 b0 b1 _).mono ?_
      rw [HMa.out]
      rintro e w7 ⟨rfl, hb7⟩
      obtain ⟨hc7, hf7⟩ := bcell hb7
      have hz7 := hb7.size
      go_wp2_with fail
      refine (refmax_any a b a0 a1 b0 b1 _).mono ?_
      rw [HMa.out]
      rintro e w8 ⟨rfl, hb8⟩
      obtain ⟨hc8, hf8⟩ := bcell hb8
      have hz8 := hb8.size
      go_wp2_with fail
      refine (class_any a a0 a1 _).mono ?_
      rw [HC.out]
      rintro e w9 ⟨rfl, rfl⟩
      go_wp2_with fail
      refine (refclass_any a a0 a1 _).mono ?_
      rw [HC.out]
      rintro e w10 ⟨rfl, hb10⟩
      obtain ⟨hc10, hf10⟩ := bcell hb10
      have hz10 := hb10.size
      go_wp2_with fail
      go_ret
      refine ⟨rfl, ?_⟩
      go_light
      (repeat (first | exact Below.refl _ _ | refine below_drewN ?_ _ | (refine Below.alloc ?_ (by first | omega | (simp; done) | (simp; omega)) _) | refine Below.drew ?_ | (refine Below.setCell ?_ (by first | omega | (simp; done) | (simp; omega)) _) | exact hb10 | (refine Below.trans ?_ (hb10.mono (by first | omega | (simp; done) | (simp; omega)))) | exact hb8 | (refine Below.trans ?_ (hb8.mono (by first | omega | (simp; done) | (simp; omega)))) | exact hb7 | (refine Below.trans ?_ (hb7.mono (by first | omega | (simp; done) | (simp; omega)))) | exact hb6 | (refine Below.trans ?_ (hb6.mono (by first | omega | (simp; done) | (simp; omega)))) | exact hb5 | (refine Below.trans ?_ (hb5.mono (by first | omega | (simp; done) | (simp; omega)))) | exact hb4 | (refine Below.trans ?_ (hb4.mono (by first | omega | (simp; done) | (simp; omega)))) | exact hb3 | (refine Below.trans ?_ (hb3.mono (by first | omega | (simp; done) | (simp; omega)))) | exact hb1 | (refine Below.trans ?_ (hb1.mono (by first | omega | (simp; done) | (simp; omega)))) ))

theorem lawOrder (a b : Int) (a0 : 0 ≤ a) (a1 : a < 18446744073709551616) (b0 : 0 ≤ b) (b1 : b < 18446744073709551616) (w : World) :
    Calls Try.prog 7 #[.int .u64 a, .int .u64 b] w fun e w' => e = .returned (.bool true) ∧ Below w.heap.size w w' := by
  by_cases na : isN a.toNat
  · by_cases nb : isN b.toNat
    · rcases Int.lt_trichotomy (rankN a.toNat) (rankN b.toNat) with h | h | h
      · exact lawOrder_a a b a0 a1 b0 b1 (by unfold lessN; simp [na, nb]; omega) (by unfold lessN; simp [na, nb]; omega) (by unfold sameN; simp [na, nb]; omega) (by simpa using na) (.inl (by simpa using nb)) w
      · exact lawOrder_c a b a0 a1 b0 b1 (by unfold lessN; simp [na, nb]; omega) (by unfold lessN; simp [na, nb]; omega) (by unfold sameN; simp [na, nb]; omega) (by simpa using na) (.inl (by simpa using nb)) w
      · exact lawOrder_b a b a0 a1 b0 b1 (by unfold lessN; simp [na, nb]; omega) (by unfold lessN; simp [na, nb]; omega) (by unfold sameN; simp [na, nb]; omega) (by simpa using na) (.inl (by simpa using nb)) w
    · exact lawOrder_d a b a0 a1 b0 b1 (by unfold lessN; simp [nb]) (by unfold lessN; simp [nb]) (by unfold sameN; simp [nb]) (by simpa using na) (.inl (by simpa using nb)) w
  · exact lawOrder_e a b a0 a1 b0 b1 (by unfold lessN; simp [na]) (by unfold lessN; simp [na]) (by unfold sameN; simp [na]) (by simpa using na) (.inr (by simpa using na)) w
end Go.Proofs.Ytelgmffmekfndaa
