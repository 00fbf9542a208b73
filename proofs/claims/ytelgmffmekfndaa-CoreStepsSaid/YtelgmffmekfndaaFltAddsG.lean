/- The contract of the reference's Add at two numbers that are finite and not nought: the greater one's 53 bits and nine more, the lesser one shifted beside them, one bit for what was cut. Conditions: as each theorem names them. The contract of the reference's Add: it answers the sum that the standard gives, of whatever two words; what is no number is one word. Condition: the words fit 64 bits. The contract of the reference's Add: it answers the sum that the standard gives, of whatever two words; what is no number is one word. Condition: the words fit 64 bits. -/
import Derived.Test.YtelgmffmekfndaaFltOfG
import Derived.Test.YtelgmffmekfndaaFltLawsG
set_option linter.unusedVariables false
namespace Go.Proofs.Ytelgmffmekfndaa
open Go.ChangeShapes Go.WideShapes Go.ChangeAt Go.RowKit
open Fl (sg exf fr kindOf mant expo ups word rung)

/-- what Of answers of a word -/
def OfIs (x k : Int) (s : Bool) (m e : Int) : Prop := ∀ w : World, Calls Try.prog 68 #[.int .u64 x] w fun r w' => r = .returned (nv k s m e) ∧ Below w.heap.size w w'

/-- the sum, or the difference, of what was brought to one place -/
def addR (s t : Bool) (A B e : Int) : Nat := if s = t then word s (rung (A + B).toNat e) else word s (rung (A - B).toNat e)
theorem addR_same {s t : Bool} (h : (s == t) = true) (A B e : Int) : addR s t A B e = word s (rung (A + B).toNat e) := by unfold addR; rw [if_pos (by simpa using h)]
theorem addR_diff {s t : Bool} (h : (s == t) = false) (A B e : Int) : addR s t A B e = word s (rung (A - B).toNat e) := by unfold addR; rw [if_neg (by simpa using h)]

set_option maxRecDepth 100000 in
set_option maxHeartbeats 2000000 in
theorem add_far (x y : Int) (sa sb : Bool) (ma ea mb eb B : Int) (hx : OfIs x 102 sa ma ea) (hy : OfIs y 102 sb mb eb)
    (a0 : (ma == 0) = false) (a1 : 4503599627370496 ≤ ma) (a2 : ma < 9007199254740992) (u0 : -1126 ≤ ea) (u1 : ea ≤ 971) (b0 : (mb == 0) = false) (b1 : 4503599627370496 ≤ mb) (b2 : mb < 9007199254740992) (v0 : -1126 ≤ eb) (v1 : eb ≤ 971)
    (hlt : eb < ea) (hfar : 62 < ea - eb) (hB : B = 1) (w : World) :
    Calls Try.prog 23 #[.int .u64 x, .int .u64 y] w fun e w' => e = .returned (.int .u64 (addR sa sb (ma * 512) B (ea - 9))) ∧ Below w.heap.size w w' := by
  have heq : (ea == eb) = false := by simp; omega
  subst hB
  have hne : (ma * 512 == 1) = false := by simp; omega
  go_enter Try.func23, Try.ntmps23
  go_wp2_with fail
  refine (hx _).mono ?_
  rintro e w1 ⟨rfl, hb1⟩
  obtain ⟨hc1, hf1⟩ := bcell hb1
  go_wp2_with fail
  refine (hy _).mono ?_
  rintro e w2 ⟨rfl, hb2⟩
  obtain ⟨hc2, hf2⟩ := bcell hb2
  have hz1 := hb1.size
  have hz2 := hb2.size
  go_wp2_with fail
  · refine (round_any _ _ _ (by omega) (by omega) (by omega) (by omega) _).mono ?_
    rintro e w3 ⟨rfl, rfl⟩
    go_wp2_with fail
    go_ret
    refine ⟨ret_int (by rw [addR_same ‹_›]), ?_⟩
    go_light
    (repeat (first | exact Below.refl _ _ | exact hb1 | (refine Below.alloc ?_ (by first | omega | (simp; done) | (simp; omega)) _) | refine Below.drew ?_ | (refine Below.setCell ?_ (by first | omega | (simp; done) | (simp; omega)) _) | (refine Below.trans ?_ (hb2.mono (by first | omega | (simp; done) | (simp; omega)))) | (refine Below.trans ?_ (hb1.mono (by first | omega | (simp; done) | (simp; omega))))))
  · refine (round_any _ _ _ (by omega) (by omega) (by omega) (by omega) _).mono ?_
    rintro e w3 ⟨rfl, rfl⟩
    go_wp2_with fail
    go_ret
    refine ⟨ret_int (by rw [addR_diff ‹_›]; first | done | rw [show (ma * 512 - 1).toNat = (ma * 512).toNat - 1 by omega]), ?_⟩
    go_light
    (repeat (first | exact Below.refl _ _ | exact hb1 | (refine Below.alloc ?_ (by first | omega | (simp; done) | (simp; omega)) _) | refine Below.drew ?_ | (refine Below.setCell ?_ (by first | omega | (simp; done) | (simp; omega)) _) | (refine Below.trans ?_ (hb2.mono (by first | omega | (simp; done) | (simp; omega)))) | (refine Below.trans ?_ (hb1.mono (by first | omega | (simp; done) | (simp; omega))))))
set_option maxRecDepth 100000 in
set_option maxHeartbeats 2000000 in
theorem add_sticky (x y : Int) (sa sb : Bool) (ma ea mb eb R Q B : Int) (hx : OfIs x 102 sa ma ea) (hy : OfIs y 102 sb mb eb)
    (a0 : (ma == 0) = false) (a1 : 4503599627370496 ≤ ma) (a2 : ma < 9007199254740992) (u0 : -1126 ≤ ea) (u1 : ea ≤ 971) (b0 : (mb == 0) = false) (b1 : 4503599627370496 ≤ mb) (b2 : mb < 9007199254740992) (v0 : -1126 ≤ eb) (v1 : eb ≤ 971)
    (hlt : eb < ea) (hnear : ea - eb ≤ 62) (hlow : bits .and .u64 (mb * 512) (IntKind.u64.wrap (IntKind.u64.wrap (2 ^ (ea - eb).toNat) - 1)) = R) (hQ : mb * 512 / 2 ^ (ea - eb).toNat = Q)
    (q0 : 0 ≤ Q) (q1 : Q < 2305843009213693952) (hR : (R != 0) = true) (hor : bits .or .u64 Q 1 = B) (B0 : 0 ≤ B) (B1 : B < 2305843009213693952) (w : World) :
    Calls Try.prog 23 #[.int .u64 x, .int .u64 y] w fun e w' => e = .returned (.int .u64 (addR sa sb (ma * 512) B (ea - 9))) ∧ Below w.heap.size w w' := by
  have heq : (ea == eb) = false := by simp; omega
  have hne : (ma * 512 == B) = false := by simp; omega
  go_enter Try.func23, Try.ntmps23
  go_wp2_with fail
  refine (hx _).mono ?_
  rintro e w1 ⟨rfl, hb1⟩
  obtain ⟨hc1, hf1⟩ := bcell hb1
  go_wp2_with fail
  refine (hy _).mono ?_
  rintro e w2 ⟨rfl, hb2⟩
  obtain ⟨hc2, hf2⟩ := bcell hb2
  have hz1 := hb1.size
  have hz2 := hb2.size
  go_wp2_with fail
  · refine (round_any _ _ _ (by omega) (by omega) (by omega) (by omega) _).mono ?_
    rintro e w3 ⟨rfl, rfl⟩
    go_wp2_with fail
    go_ret
    refine ⟨ret_int (by rw [addR_same ‹_›]), ?_⟩
    go_light
    (repeat (first | exact Below.refl _ _ | exact hb1 | (refine Below.alloc ?_ (by first | omega | (simp; done) | (simp; omega)) _) | refine Below.drew ?_ | (refine Below.setCell ?_ (by first | omega | (simp; done) | (simp; omega)) _) | (refine Below.trans ?_ (hb2.mono (by first | omega | (simp; done) | (simp; omega)))) | (refine Below.trans ?_ (hb1.mono (by first | omega | (simp; done) | (simp; omega))))))
  · refine (round_any _ _ _ (by omega) (by omega) (by omega) (by omega) _).mono ?_
    rintro e w3 ⟨rfl, rfl⟩
    go_wp2_with fail
    go_ret
    refine ⟨ret_int (by rw [addR_diff ‹_›]; first | done | rw [show (ma * 512 - 1).toNat = (ma * 512).toNat - 1 by omega]), ?_⟩
    go_light
    (repeat (first | exact Below.refl _ _ | exact hb1 | (refine Below.alloc ?_ (by first | omega | (simp; done) | (simp; omega)) _) | refine Below.drew ?_ | (refine Below.setCell ?_ (by first | omega | (simp; done) | (simp; omega)) _) | (refine Below.trans ?_ (hb2.mono (by first | omega | (simp; done) | (simp; omega)))) | (refine Below.trans ?_ (hb1.mono (by first | omega | (simp; done) | (simp; omega))))))
set_option maxRecDepth 100000 in
set_option maxHeartbeats 2000000 in
theorem add_exact (x y : Int) (sa sb : Bool) (ma ea mb eb R B : Int) (hx : OfIs x 102 sa ma ea) (hy : OfIs y 102 sb mb eb)
    (a0 : (ma == 0) = false) (a1 : 4503599627370496 ≤ ma) (a2 : ma < 9007199254740992) (u0 : -1126 ≤ ea) (u1 : ea ≤ 971) (b0 : (mb == 0) = false) (b1 : 4503599627370496 ≤ mb) (b2 : mb < 9007199254740992) (v0 : -1126 ≤ eb) (v1 : eb ≤ 971)
    (hlt : eb < ea) (hnear : ea - eb ≤ 62) (hlow : bits .and .u64 (mb * 512) (IntKind.u64.wrap (IntKind.u64.wrap (2 ^ (ea - eb).toNat) - 1)) = R) (hQ : mb * 512 / 2 ^ (ea - eb).toNat = B)
    (B0 : 0 ≤ B) (B1 : B < 2305843009213693952) (hR : (R != 0) = false) (w : World) :
    Calls Try.prog 23 #[.int .u64 x, .int .u64 y] w fun e w' => e = .returned (.int .u64 (addR sa sb (ma * 512) B (ea - 9))) ∧ Below w.heap.size w w' := by
  have heq : (ea == eb) = false := by simp; omega
  have hne : (ma * 512 == B) = false := by simp; omega
  go_enter Try.func23, Try.ntmps23
  go_wp2_with fail
  refine (hx _).mono ?_
  rintro e w1 ⟨rfl, hb1⟩
  obtain ⟨hc1, hf1⟩ := bcell hb1
  go_wp2_with fail
  refine (hy _).mono ?_
  rintro e w2 ⟨rfl, hb2⟩
  obtain ⟨hc2, hf2⟩ := bcell hb2
  have hz1 := hb1.size
  have hz2 := hb2.size
  go_wp2_with fail
  · refine (round_any _ _ _ (by omega) (by omega) (by omega) (by omega) _).mono ?_
    rintro e w3 ⟨rfl, rfl⟩
    go_wp2_with fail
    go_ret
    refine ⟨ret_int (by rw [addR_same ‹_›]), ?_⟩
    go_light
    (repeat (first | exact Below.refl _ _ | exact hb1 | (refine Below.alloc ?_ (by first | omega | (simp; done) | (simp; omega)) _) | refine Below.drew ?_ | (refine Below.setCell ?_ (by first | omega | (simp; done) | (simp; omega)) _) | (refine Below.trans ?_ (hb2.mono (by first | omega | (simp; done) | (simp; omega)))) | (refine Below.trans ?_ (hb1.mono (by first | omega | (simp; done) | (simp; omega))))))
  · refine (round_any _ _ _ (by omega) (by omega) (by omega) (by omega) _).mono ?_
    rintro e w3 ⟨rfl, rfl⟩
    go_wp2_with fail
    go_ret
    refine ⟨ret_int (by rw [addR_diff ‹_›]; first | done | rw [show (ma * 512 - 1).toNat = (ma * 512).toNat - 1 by omega]), ?_⟩
    go_light
    (repeat (first | exact Below.refl _ _ | exact hb1 | (refine Below.alloc ?_ (by first | omega | (simp; done) | (simp; omega)) _) | refine Below.drew ?_ | (refine Below.setCell ?_ (by first | omega | (simp; done) | (simp; omega)) _) | (refine Below.trans ?_ (hb2.mono (by first | omega | (simp; done) | (simp; omega)))) | (refine Below.trans ?_ (hb1.mono (by first | omega | (simp; done) | (simp; omega))))))
set_option maxRecDepth 100000 in
set_option maxHeartbeats 2000000 in
theorem add_far_s (x y : Int) (sa sb : Bool) (ma ea mb eb B : Int) (hx : OfIs x 102 sa ma ea) (hy : OfIs y 102 sb mb eb)
    (a0 : (ma == 0) = false) (a1 : 4503599627370496 ≤ ma) (a2 : ma < 9007199254740992) (u0 : -1126 ≤ ea) (u1 : ea ≤ 971) (b0 : (mb == 0) = false) (b1 : 4503599627370496 ≤ mb) (b2 : mb < 9007199254740992) (v0 : -1126 ≤ eb) (v1 : eb ≤ 971)
    (hlt : ea < eb) (hfar : 62 < eb - ea) (hB : B = 1) (w : World) :
    Calls Try.prog 23 #[.int .u64 x, .int .u64 y] w fun e w' => e = .returned (.int .u64 (addR sb sa (mb * 512) B (eb - 9))) ∧ Below w.heap.size w w' := by
  have heq : (ea == eb) = false := by simp; omega
  subst hB
  have hne : (mb * 512 == 1) = false := by simp; omega
  go_enter Try.func23, Try.ntmps23
  go_wp2_with fail
  refine (hx _).mono ?_
  rintro e w1 ⟨rfl, hb1⟩
  obtain ⟨hc1, hf1⟩ := bcell hb1
  go_wp2_with fail
  refine (hy _).mono ?_
  rintro e w2 ⟨rfl, hb2⟩
  obtain ⟨hc2, hf2⟩ := bcell hb2
  have hz1 := hb1.size
  have hz2 := hb2.size
  go_wp2_with fail
  · refine (round_any _ _ _ (by omega) (by omega) (by omega) (by omega) _).mono ?_
    rintro e w3 ⟨rfl, rfl⟩
    go_wp2_with fail
    go_ret
    refine ⟨ret_int (by rw [addR_same ‹_›]), ?_⟩
    go_light
    (repeat (first | exact Below.refl _ _ | exact hb1 | (refine Below.alloc ?_ (by first | omega | (simp; done) | (simp; omega)) _) | refine Below.drew ?_ | (refine Below.setCell ?_ (by first | omega | (simp; done) | (simp; omega)) _) | (refine Below.trans ?_ (hb2.mono (by first | omega | (simp; done) | (simp; omega)))) | (refine Below.trans ?_ (hb1.mono (by first | omega | (simp; done) | (simp; omega))))))
  · refine (round_any _ _ _ (by omega) (by omega) (by omega) (by omega) _).mono ?_
    rintro e w3 ⟨rfl, rfl⟩
    go_wp2_with fail
    go_ret
    refine ⟨ret_int (by rw [addR_diff ‹_›]; first | done | rw [show (mb * 512 - 1).toNat = (mb * 512).toNat - 1 by omega]), ?_⟩
    go_light
    (repeat (first | exact Below.refl _ _ | exact hb1 | (refine Below.alloc ?_ (by first | omega | (simp; done) | (simp; omega)) _) | refine Below.drew ?_ | (refine Below.setCell ?_ (by first | omega | (simp; done) | (simp; omega)) _) | (refine Below.trans ?_ (hb2.mono (by first | omega | (simp; done) | (simp; omega)))) | (refine Below.trans ?_ (hb1.mono (by first | omega | (simp; done) | (simp; omega))))))
set_option maxRecDepth 100000 in
set_option maxHeartbeats 2000000 in
theorem add_sticky_s (x y : Int) (sa sb : Bool) (ma ea mb eb R Q B : Int) (hx : OfIs x 102 sa ma ea) (hy : OfIs y 102 sb mb eb)
    (a0 : (ma == 0) = false) (a1 : 4503599627370496 ≤ ma) (a2 : ma < 9007199254740992) (u0 : -1126 ≤ ea) (u1 : ea ≤ 971) (b0 : (mb == 0) = false) (b1 : 4503599627370496 ≤ mb) (b2 : mb < 9007199254740992) (v0 : -1126 ≤ eb) (v1 : eb ≤ 971)
    (hlt : ea < eb) (hnear : eb - ea ≤ 62) (hlow : bits .and .u64 (ma * 512) (IntKind.u64.wrap (IntKind.u64.wrap (2 ^ (eb - ea).toNat) - 1)) = R) (hQ : ma * 512 / 2 ^ (eb - ea).toNat = Q)
    (q0 : 0 ≤ Q) (q1 : Q < 2305843009213693952) (hR : (R != 0) = true) (hor : bits .or .u64 Q 1 = B) (B0 : 0 ≤ B) (B1 : B < 2305843009213693952) (w : World) :
    Calls Try.prog 23 #[.int .u64 x, .int .u64 y] w fun e w' => e = .returned (.int .u64 (addR sb sa (mb * 512) B (eb - 9))) ∧ Below w.heap.size w w' := by
  have heq : (ea == eb) = false := by simp; omega
  have hne : (mb * 512 == B) = false := by simp; omega
  go_enter Try.func23, Try.ntmps23
  go_wp2_with fail
  refine (hx _).mono ?_
  rintro e w1 ⟨rfl, hb1⟩
  obtain ⟨hc1, hf1⟩ := bcell hb1
  go_wp2_with fail
  refine (hy _).mono ?_
  rintro e w2 ⟨rfl, hb2⟩
  obtain ⟨hc2, hf2⟩ := bcell hb2
  have hz1 := hb1.size
  have hz2 := hb2.size
  go_wp2_with fail
  · refine (round_any _ _ _ (by omega) (by omega) (by omega) (by omega) _).mono ?_
    rintro e w3 ⟨rfl, rfl⟩
    go_wp2_with fail
    go_ret
    refine ⟨ret_int (by rw [addR_same ‹_›]), ?_⟩
    go_light
    (repeat (first | exact Below.refl _ _ | exact hb1 | (refine Below.alloc ?_ (by first | omega | (simp; done) | (simp; omega)) _) | refine Below.drew ?_ | (refine Below.setCell ?_ (by first | omega | (simp; done) | (simp; omega)) _) | (refine Below.trans ?_ (hb2.mono (by first | omega | (simp; done) | (simp; omega)))) | (refine Below.trans ?_ (hb1.mono (by first | omega | (simp; done) | (simp; omega))))))
  · refine (round_any _ _ _ (by omega) (by omega) (by omega) (by omega) _).mono ?_
    rintro e w3 ⟨rfl, rfl⟩
    go_wp2_with fail
    go_ret
    refine ⟨ret_int (by rw [addR_diff ‹_›]; first | done | rw [show (mb * 512 - 1).toNat = (mb * 512).toNat - 1 by omega]), ?_⟩
    go_light
    (repeat (first | exact Below.refl _ _ | exact hb1 | (refine Below.alloc ?_ (by first | omega | (simp; done) | (simp; omega)) _) | refine Below.drew ?_ | (refine Below.setCell ?_ (by first | omega | (simp; done) | (simp; omega)) _) | (refine Below.trans ?_ (hb2.mono (by first | omega | (simp; done) | (simp; omega)))) | (refine Below.trans ?_ (hb1.mono (by first | omega | (simp; done) | (simp; omega))))))
set_option maxRecDepth 100000 in
set_option maxHeartbeats 2000000 in
theorem add_exact_s (x y : Int) (sa sb : Bool) (ma ea mb eb R B : Int) (hx : OfIs x 102 sa ma ea) (hy : OfIs y 102 sb mb eb)
    (a0 : (ma == 0) = false) (a1 : 4503599627370496 ≤ ma) (a2 : ma < 9007199254740992) (u0 : -1126 ≤ ea) (u1 : ea ≤ 971) (b0 : (mb == 0) = false) (b1 : 4503599627370496 ≤ mb) (b2 : mb < 9007199254740992) (v0 : -1126 ≤ eb) (v1 : eb ≤ 971)
    (hlt : ea < eb) (hnear : eb - ea ≤ 62) (hlow : bits .and .u64 (ma * 512) (IntKind.u64.wrap (IntKind.u64.wrap (2 ^ (eb - ea).toNat) - 1)) = R) (hQ : ma * 512 / 2 ^ (eb - ea).toNat = B)
    (B0 : 0 ≤ B) (B1 : B < 2305843009213693952) (hR : (R != 0) = false) (w : World) :
    Calls Try.prog 23 #[.int .u64 x, .int .u64 y] w fun e w' => e = .returned (.int .u64 (addR sb sa (mb * 512) B (eb - 9))) ∧ Below w.heap.size w w' := by
  have heq : (ea == eb) = false := by simp; omega
  have hne : (mb * 512 == B) = false := by simp; omega
  go_enter Try.func23, Try.ntmps23
  go_wp2_with fail
  refine (hx _).mono ?_
  rintro e w1 ⟨rfl, hb1⟩
  obtain ⟨hc1, hf1⟩ := bcell hb1
  go_wp2_with fail
  refine (hy _).mono ?_
  rintro e w2 ⟨rfl, hb2⟩
  obtain ⟨hc2, hf2⟩ := bcell hb2
  have hz1 := hb1.size
  have hz2 := hb2.size
  go_wp2_with fail
  · refine (round_any _ _ _ (by omega) (by omega) (by omega) (by omega) _).mono ?_
    rintro e w3 ⟨rfl, rfl⟩
    go_wp2_with fail
    go_ret
    refine ⟨ret_int (by rw [addR_same ‹_›]), ?_⟩
    go_light
    (repeat (first | exact Below.refl _ _ | exact hb1 | (refine Below.alloc ?_ (by first | omega | (simp; done) | (simp; omega)) _) | refine Below.drew ?_ | (refine Below.setCell ?_ (by first | omega | (simp; done) | (simp; omega)) _) | (refine Below.trans ?_ (hb2.mono (by first | omega | (simp; done) | (simp; omega)))) | (refine Below.trans ?_ (hb1.mono (by first | omega | (simp; done) | (simp; omega))))))
  · refine (round_any _ _ _ (by omega) (by omega) (by omega) (by omega) _).mono ?_
    rintro e w3 ⟨rfl, rfl⟩
    go_wp2_with fail
    go_ret
    refine ⟨ret_int (by rw [addR_diff ‹_›]; first | done | rw [show (mb * 512 - 1).toNat = (mb * 512).toNat - 1 by omega]), ?_⟩
    go_light
    (repeat (first | exact Below.refl _ _ | exact hb1 | (refine Below.alloc ?_ (by first | omega | (simp; done) | (simp; omega)) _) | refine Below.drew ?_ | (refine Below.setCell ?_ (by first | omega | (simp; done) | (simp; omega)) _) | (refine Below.trans ?_ (hb2.mono (by first | omega | (simp; done) | (simp; omega)))) | (refine Below.trans ?_ (hb1.mono (by first | omega | (simp; done) | (simp; omega))))))
set_option maxRecDepth 100000 in
set_option maxHeartbeats 2000000 in
theorem add_eq (x y : Int) (sa sb : Bool) (ma ea mb eb : Int) (hx : OfIs x 102 sa ma ea) (hy : OfIs y 102 sb mb eb)
    (a0 : (ma == 0) = false) (a1 : 4503599627370496 ≤ ma) (a2 : ma < 9007199254740992) (u0 : -1126 ≤ ea) (u1 : ea ≤ 971) (b0 : (mb == 0) = false) (b1 : 4503599627370496 ≤ mb) (b2 : mb < 9007199254740992) (v0 : -1126 ≤ eb) (v1 : eb ≤ 971)
    (heq : ea = eb) (hm : ma = mb) (hs : (sa == sb) = false) (w : World) :
    Calls Try.prog 23 #[.int .u64 x, .int .u64 y] w fun e w' => e = .returned (.int .u64 0) ∧ Below w.heap.size w w' := by
  subst heq hm
  have h0 : bits .and .u64 (ma * 512) 0 = 0 := by
    have := u64_and (ma * 512) 0 (by omega) (by omega) (by omega) (by omega)
    rw [this]; simp
  go_enter Try.func23, Try.ntmps23
  go_wp2_with fail
  refine (hx _).mono ?_
  rintro e w1 ⟨rfl, hb1⟩
  obtain ⟨hc1, hf1⟩ := bcell hb1
  go_wp2_with fail
  refine (hy _).mono ?_
  rintro e w2 ⟨rfl, hb2⟩
  obtain ⟨hc2, hf2⟩ := bcell hb2
  have hz1 := hb1.size
  have hz2 := hb2.size
  go_wp2_with fail
  go_ret
  refine ⟨rfl, ?_⟩
  go_light
  (repeat (first | exact Below.refl _ _ | exact hb1 | (refine Below.alloc ?_ (by first | omega | (simp; done) | (simp; omega)) _) | refine Below.drew ?_ | (refine Below.setCell ?_ (by first | omega | (simp; done) | (simp; omega)) _) | (refine Below.trans ?_ (hb2.mono (by first | omega | (simp; done) | (simp; omega)))) | (refine Below.trans ?_ (hb1.mono (by first | omega | (simp; done) | (simp; omega))))))
set_option maxRecDepth 100000 in
set_option maxHeartbeats 2000000 in
theorem add_same (x y : Int) (sa sb : Bool) (ma ea mb eb B : Int) (hx : OfIs x 102 sa ma ea) (hy : OfIs y 102 sb mb eb)
    (a0 : (ma == 0) = false) (a1 : 4503599627370496 ≤ ma) (a2 : ma < 9007199254740992) (u0 : -1126 ≤ ea) (u1 : ea ≤ 971) (b0 : (mb == 0) = false) (b1 : 4503599627370496 ≤ mb) (b2 : mb < 9007199254740992) (v0 : -1126 ≤ eb) (v1 : eb ≤ 971)
    (heq : ea = eb) (hm : mb < ma) (hB : B = mb * 512) (w : World) :
    Calls Try.prog 23 #[.int .u64 x, .int .u64 y] w fun e w' => e = .returned (.int .u64 (addR sa sb (ma * 512) B (ea - 9))) ∧ Below w.heap.size w w' := by
  subst heq hB
  have hne : (ma * 512 == mb * 512) = false := by simp; omega
  have h0 : bits .and .u64 (mb * 512) 0 = 0 := by
    have := u64_and (mb * 512) 0 (by omega) (by omega) (by omega) (by omega)
    rw [this]; simp
  go_enter Try.func23, Try.ntmps23
  go_wp2_with fail
  refine (hx _).mono ?_
  rintro e w1 ⟨rfl, hb1⟩
  obtain ⟨hc1, hf1⟩ := bcell hb1
  go_wp2_with fail
  refine (hy _).mono ?_
  rintro e w2 ⟨rfl, hb2⟩
  obtain ⟨hc2, hf2⟩ := bcell hb2
  have hz1 := hb1.size
  have hz2 := hb2.size
  go_wp2_with fail
  · refine (round_any _ _ _ (by omega) (by omega) (by omega) (by omega) _).mono ?_
    rintro e w3 ⟨rfl, rfl⟩
    go_wp2_with fail
    go_ret
    refine ⟨ret_int (by rw [addR_same ‹_›]), ?_⟩
    go_light
    (repeat (first | exact Below.refl _ _ | exact hb1 | (refine Below.alloc ?_ (by first | omega | (simp; done) | (simp; omega)) _) | refine Below.drew ?_ | (refine Below.setCell ?_ (by first | omega | (simp; done) | (simp; omega)) _) | (refine Below.trans ?_ (hb2.mono (by first | omega | (simp; done) | (simp; omega)))) | (refine Below.trans ?_ (hb1.mono (by first | omega | (simp; done) | (simp; omega))))))
  · refine (round_any _ _ _ (by omega) (by omega) (by omega) (by omega) _).mono ?_
    rintro e w3 ⟨rfl, rfl⟩
    go_wp2_with fail
    go_ret
    refine ⟨ret_int (by rw [addR_diff ‹_›]; first | done | rw [show (ma * 512 - 1).toNat = (ma * 512).toNat - 1 by omega]), ?_⟩
    go_light
    (repeat (first | exact Below.refl _ _ | exact hb1 | (refine Below.alloc ?_ (by first | omega | (simp; done) | (simp; omega)) _) | refine Below.drew ?_ | (refine Below.setCell ?_ (by first | omega | (simp; done) | (simp; omega)) _) | (refine Below.trans ?_ (hb2.mono (by first | omega | (simp; done) | (simp; omega)))) | (refine Below.trans ?_ (hb1.mono (by first | omega | (simp; done) | (simp; omega))))))
set_option maxRecDepth 100000 in
set_option maxHeartbeats 2000000 in
theorem add_twin (x y : Int) (sa sb : Bool) (ma ea mb eb B : Int) (hx : OfIs x 102 sa ma ea) (hy : OfIs y 102 sb mb eb)
    (a0 : (ma == 0) = false) (a1 : 4503599627370496 ≤ ma) (a2 : ma < 9007199254740992) (u0 : -1126 ≤ ea) (u1 : ea ≤ 971) (b0 : (mb == 0) = false) (b1 : 4503599627370496 ≤ mb) (b2 : mb < 9007199254740992) (v0 : -1126 ≤ eb) (v1 : eb ≤ 971)
    (heq : ea = eb) (hm : mb ≤ ma) (hB : B = mb * 512) (hs : (sa == sb) = true) (w : World) :
    Calls Try.prog 23 #[.int .u64 x, .int .u64 y] w fun e w' => e = .returned (.int .u64 (addR sa sb (ma * 512) B (ea - 9))) ∧ Below w.heap.size w w' := by
  subst heq hB
  have h0 : bits .and .u64 (mb * 512) 0 = 0 := by
    have := u64_and (mb * 512) 0 (by omega) (by omega) (by omega) (by omega)
    rw [this]; simp
  go_enter Try.func23, Try.ntmps23
  go_wp2_with fail
  refine (hx _).mono ?_
  rintro e w1 ⟨rfl, hb1⟩
  obtain ⟨hc1, hf1⟩ := bcell hb1
  go_wp2_with fail
  refine (hy _).mono ?_
  rintro e w2 ⟨rfl, hb2⟩
  obtain ⟨hc2, hf2⟩ := bcell hb2
  have hz1 := hb1.size
  have hz2 := hb2.size
  go_wp2_with fail
  refine (round_any _ _ _ (by omega) (by omega) (by omega) (by omega) _).mono ?_
  rintro e w3 ⟨rfl, rfl⟩
  go_wp2_with fail
  go_ret
  refine ⟨ret_int (by rw [addR_same hs]), ?_⟩
  go_light
  (repeat (first | exact Below.refl _ _ | exact hb1 | (refine Below.alloc ?_ (by first | omega | (simp; done) | (simp; omega)) _) | refine Below.drew ?_ | (refine Below.setCell ?_ (by first | omega | (simp; done) | (simp; omega)) _) | (refine Below.trans ?_ (hb2.mono (by first | omega | (simp; done) | (simp; omega)))) | (refine Below.trans ?_ (hb1.mono (by first | omega | (simp; done) | (simp; omega))))))
set_option maxRecDepth 100000 in
set_option maxHeartbeats 2000000 in
theorem add_same_s (x y : Int) (sa sb : Bool) (ma ea mb eb B : Int) (hx : OfIs x 102 sa ma ea) (hy : OfIs y 102 sb mb eb)
    (a0 : (ma == 0) = false) (a1 : 4503599627370496 ≤ ma) (a2 : ma < 9007199254740992) (u0 : -1126 ≤ ea) (u1 : ea ≤ 971) (b0 : (mb == 0) = false) (b1 : 4503599627370496 ≤ mb) (b2 : mb < 9007199254740992) (v0 : -1126 ≤ eb) (v1 : eb ≤ 971)
    (heq : ea = eb) (hm : ma < mb) (hB : B = ma * 512) (w : World) :
    Calls Try.prog 23 #[.int .u64 x, .int .u64 y] w fun e w' => e = .returned (.int .u64 (addR sb sa (mb * 512) B (eb - 9))) ∧ Below w.heap.size w w' := by
  subst heq hB
  have h0 : bits .and .u64 (ma * 512) 0 = 0 := by
    have := u64_and (ma * 512) 0 (by omega) (by omega) (by omega) (by omega)
    rw [this]; simp
  go_enter Try.func23, Try.ntmps23
  go_wp2_with fail
  refine (hx _).mono ?_
  rintro e w1 ⟨rfl, hb1⟩
  obtain ⟨hc1, hf1⟩ := bcell hb1
  go_wp2_with fail
  refine (hy _).mono ?_
  rintro e w2 ⟨rfl, hb2⟩
  obtain ⟨hc2, hf2⟩ := bcell hb2
  have hz1 := hb1.size
  have hz2 := hb2.size
  go_wp2_with fail
  · refine (round_any _ _ _ (by omega) (by omega) (by omega) (by omega) _).mono ?_
    rintro e w3 ⟨rfl, rfl⟩
    go_wp2_with fail
    go_ret
    refine ⟨ret_int (by rw [addR_same ‹_›]), ?_⟩
    go_light
    (repeat (first | exact Below.refl _ _ | exact hb1 | (refine Below.alloc ?_ (by first | omega | (simp; done) | (simp; omega)) _) | refine Below.drew ?_ | (refine Below.setCell ?_ (by first | omega | (simp; done) | (simp; omega)) _) | (refine Below.trans ?_ (hb2.mono (by first | omega | (simp; done) | (simp; omega)))) | (refine Below.trans ?_ (hb1.mono (by first | omega | (simp; done) | (simp; omega))))))
  · refine (round_any _ _ _ (by omega) (by omega) (by omega) (by omega) _).mono ?_
    rintro e w3 ⟨rfl, rfl⟩
    go_wp2_with fail
    go_ret
    refine ⟨ret_int (by rw [addR_diff ‹_›]; first | done | rw [show (mb * 512 - 1).toNat = (mb * 512).toNat - 1 by omega]), ?_⟩
    go_light
    (repeat (first | exact Below.refl _ _ | exact hb1 | (refine Below.alloc ?_ (by first | omega | (simp; done) | (simp; omega)) _) | refine Below.drew ?_ | (refine Below.setCell ?_ (by first | omega | (simp; done) | (simp; omega)) _) | (refine Below.trans ?_ (hb2.mono (by first | omega | (simp; done) | (simp; omega)))) | (refine Below.trans ?_ (hb1.mono (by first | omega | (simp; done) | (simp; omega))))))
end Go.Proofs.Ytelgmffmekfndaa
set_option linter.unusedVariables false
namespace Go.Proofs.Ytelgmffmekfndaa
open Go.ChangeShapes Go.WideShapes Go.ChangeAt Go.RowKit
open Fl (sg exf fr kindOf mant expo ups word rung numOf)

set_option maxRecDepth 100000 in
theorem add_nan_a (x y : Int) (sa sb : Bool) (ma ea mb eb : Int) (kb : Int) (hx : OfIs x 110 sa ma ea) (hy : OfIs y kb sb mb eb) (w : World) :
    Calls Try.prog 23 #[.int .u64 x, .int .u64 y] w fun e w' => e = .returned (.int .u64 9221120237041090560) ∧ Below w.heap.size w w' := by
  go_enter Try.func23, Try.ntmps23
  go_wp2_with fail
  refine (hx _).mono ?_
  rintro e w1 ⟨rfl, hb1⟩
  obtain ⟨hc1, hf1⟩ := bcell hb1
  go_wp2_with fail
  refine (hy _).mono ?_
  rintro e w2 ⟨rfl, hb2⟩
  obtain ⟨hc2, hf2⟩ := bcell hb2
  have hz1 := hb1.size
  have hz2 := hb2.size
  go_wp2_with fail
  go_ret
  refine ⟨rfl, ?_⟩
  go_light
  (repeat (first | exact Below.refl _ _ | exact hb1 | (refine Below.alloc ?_ (by first | omega | (simp; done) | (simp; omega)) _) | refine Below.drew ?_ | (refine Below.setCell ?_ (by first | omega | (simp; done) | (simp; omega)) _) | (refine Below.trans ?_ (hb2.mono (by first | omega | (simp; done) | (simp; omega)))) | (refine Below.trans ?_ (hb1.mono (by first | omega | (simp; done) | (simp; omega))))))

set_option maxRecDepth 100000 in
theorem add_nan_b (x y : Int) (sa sb : Bool) (ma ea mb eb : Int) (hx : OfIs x 105 sa ma ea) (hy : OfIs y 110 sb mb eb) (w : World) :
    Calls Try.prog 23 #[.int .u64 x, .int .u64 y] w fun e w' => e = .returned (.int .u64 9221120237041090560) ∧ Below w.heap.size w w' := by
  go_enter Try.func23, Try.ntmps23
  go_wp2_with fail
  refine (hx _).mono ?_
  rintro e w1 ⟨rfl, hb1⟩
  obtain ⟨hc1, hf1⟩ := bcell hb1
  go_wp2_with fail
  refine (hy _).mono ?_
  rintro e w2 ⟨rfl, hb2⟩
  obtain ⟨hc2, hf2⟩ := bcell hb2
  have hz1 := hb1.size
  have hz2 := hb2.size
  go_wp2_with fail
  go_ret
  refine ⟨rfl, ?_⟩
  go_light
  (repeat (first | exact Below.refl _ _ | exact hb1 | (refine Below.alloc ?_ (by first | omega | (simp; done) | (simp; omega)) _) | refine Below.drew ?_ | (refine Below.setCell ?_ (by first | omega | (simp; done) | (simp; omega)) _) | (refine Below.trans ?_ (hb2.mono (by first | omega | (simp; done) | (simp; omega)))) | (refine Below.trans ?_ (hb1.mono (by first | omega | (simp; done) | (simp; omega))))))

set_option maxRecDepth 100000 in
theorem add_nan_c (x y : Int) (sa sb : Bool) (ma ea mb eb : Int) (hx : OfIs x 102 sa ma ea) (hy : OfIs y 110 sb mb eb) (w : World) :
    Calls Try.prog 23 #[.int .u64 x, .int .u64 y] w fun e w' => e = .returned (.int .u64 9221120237041090560) ∧ Below w.heap.size w w' := by
  go_enter Try.func23, Try.ntmps23
  go_wp2_with fail
  refine (hx _).mono ?_
  rintro e w1 ⟨rfl, hb1⟩
  obtain ⟨hc1, hf1⟩ := bcell hb1
  go_wp2_with fail
  refine (hy _).mono ?_
  rintro e w2 ⟨rfl, hb2⟩
  obtain ⟨hc2, hf2⟩ := bcell hb2
  have hz1 := hb1.size
  have hz2 := hb2.size
  go_wp2_with fail
  go_ret
  refine ⟨rfl, ?_⟩
  go_light
  (repeat (first | exact Below.refl _ _ | exact hb1 | (refine Below.alloc ?_ (by first | omega | (simp; done) | (simp; omega)) _) | refine Below.drew ?_ | (refine Below.setCell ?_ (by first | omega | (simp; done) | (simp; omega)) _) | (refine Below.trans ?_ (hb2.mono (by first | omega | (simp; done) | (simp; omega)))) | (refine Below.trans ?_ (hb1.mono (by first | omega | (simp; done) | (simp; omega))))))

set_option maxRecDepth 100000 in
theorem add_inf_tt (x y : Int)  (ma ea mb eb : Int) (hx : OfIs x 105 true ma ea) (hy : OfIs y 105 true mb eb) (w : World) :
    Calls Try.prog 23 #[.int .u64 x, .int .u64 y] w fun e w' => e = .returned (.int .u64 x) ∧ Below w.heap.size w w' := by
  go_enter Try.func23, Try.ntmps23
  go_wp2_with fail
  refine (hx _).mono ?_
  rintro e w1 ⟨rfl, hb1⟩
  obtain ⟨hc1, hf1⟩ := bcell hb1
  go_wp2_with fail
  refine (hy _).mono ?_
  rintro e w2 ⟨rfl, hb2⟩
  obtain ⟨hc2, hf2⟩ := bcell hb2
  have hz1 := hb1.size
  have hz2 := hb2.size
  go_wp2_with fail
  go_ret
  refine ⟨rfl, ?_⟩
  go_light
  (repeat (first | exact Below.refl _ _ | exact hb1 | (refine Below.alloc ?_ (by first | omega | (simp; done) | (simp; omega)) _) | refine Below.drew ?_ | (refine Below.setCell ?_ (by first | omega | (simp; done) | (simp; omega)) _) | (refine Below.trans ?_ (hb2.mono (by first | omega | (simp; done) | (simp; omega)))) | (refine Below.trans ?_ (hb1.mono (by first | omega | (simp; done) | (simp; omega))))))

set_option maxRecDepth 100000 in
theorem add_inf_tf (x y : Int)  (ma ea mb eb : Int) (hx : OfIs x 105 true ma ea) (hy : OfIs y 105 false mb eb) (w : World) :
    Calls Try.prog 23 #[.int .u64 x, .int .u64 y] w fun e w' => e = .returned (.int .u64 9221120237041090560) ∧ Below w.heap.size w w' := by
  go_enter Try.func23, Try.ntmps23
  go_wp2_with fail
  refine (hx _).mono ?_
  rintro e w1 ⟨rfl, hb1⟩
  obtain ⟨hc1, hf1⟩ := bcell hb1
  go_wp2_with fail
  refine (hy _).mono ?_
  rintro e w2 ⟨rfl, hb2⟩
  obtain ⟨hc2, hf2⟩ := bcell hb2
  have hz1 := hb1.size
  have hz2 := hb2.size
  go_wp2_with fail
  go_ret
  refine ⟨rfl, ?_⟩
  go_light
  (repeat (first | exact Below.refl _ _ | exact hb1 | (refine Below.alloc ?_ (by first | omega | (simp; done) | (simp; omega)) _) | refine Below.drew ?_ | (refine Below.setCell ?_ (by first | omega | (simp; done) | (simp; omega)) _) | (refine Below.trans ?_ (hb2.mono (by first | omega | (simp; done) | (simp; omega)))) | (refine Below.trans ?_ (hb1.mono (by first | omega | (simp; done) | (simp; omega))))))

set_option maxRecDepth 100000 in
theorem add_inf_ft (x y : Int)  (ma ea mb eb : Int) (hx : OfIs x 105 false ma ea) (hy : OfIs y 105 true mb eb) (w : World) :
    Calls Try.prog 23 #[.int .u64 x, .int .u64 y] w fun e w' => e = .returned (.int .u64 9221120237041090560) ∧ Below w.heap.size w w' := by
  go_enter Try.func23, Try.ntmps23
  go_wp2_with fail
  refine (hx _).mono ?_
  rintro e w1 ⟨rfl, hb1⟩
  obtain ⟨hc1, hf1⟩ := bcell hb1
  go_wp2_with fail
  refine (hy _).mono ?_
  rintro e w2 ⟨rfl, hb2⟩
  obtain ⟨hc2, hf2⟩ := bcell hb2
  have hz1 := hb1.size
  have hz2 := hb2.size
  go_wp2_with fail
  go_ret
  refine ⟨rfl, ?_⟩
  go_light
  (repeat (first | exact Below.refl _ _ | exact hb1 | (refine Below.alloc ?_ (by first | omega | (simp; done) | (simp; omega)) _) | refine Below.drew ?_ | (refine Below.setCell ?_ (by first | omega | (simp; done) | (simp; omega)) _) | (refine Below.trans ?_ (hb2.mono (by first | omega | (simp; done) | (simp; omega)))) | (refine Below.trans ?_ (hb1.mono (by first | omega | (simp; done) | (simp; omega))))))

set_option maxRecDepth 100000 in
theorem add_inf_ff (x y : Int)  (ma ea mb eb : Int) (hx : OfIs x 105 false ma ea) (hy : OfIs y 105 false mb eb) (w : World) :
    Calls Try.prog 23 #[.int .u64 x, .int .u64 y] w fun e w' => e = .returned (.int .u64 x) ∧ Below w.heap.size w w' := by
  go_enter Try.func23, Try.ntmps23
  go_wp2_with fail
  refine (hx _).mono ?_
  rintro e w1 ⟨rfl, hb1⟩
  obtain ⟨hc1, hf1⟩ := bcell hb1
  go_wp2_with fail
  refine (hy _).mono ?_
  rintro e w2 ⟨rfl, hb2⟩
  obtain ⟨hc2, hf2⟩ := bcell hb2
  have hz1 := hb1.size
  have hz2 := hb2.size
  go_wp2_with fail
  go_ret
  refine ⟨rfl, ?_⟩
  go_light
  (repeat (first | exact Below.refl _ _ | exact hb1 | (refine Below.alloc ?_ (by first | omega | (simp; done) | (simp; omega)) _) | refine Below.drew ?_ | (refine Below.setCell ?_ (by first | omega | (simp; done) | (simp; omega)) _) | (refine Below.trans ?_ (hb2.mono (by first | omega | (simp; done) | (simp; omega)))) | (refine Below.trans ?_ (hb1.mono (by first | omega | (simp; done) | (simp; omega))))))

set_option maxRecDepth 100000 in
theorem add_inf_a (x y : Int) (sa sb : Bool) (ma ea mb eb : Int) (hx : OfIs x 105 sa ma ea) (hy : OfIs y 102 sb mb eb) (w : World) :
    Calls Try.prog 23 #[.int .u64 x, .int .u64 y] w fun e w' => e = .returned (.int .u64 x) ∧ Below w.heap.size w w' := by
  go_enter Try.func23, Try.ntmps23
  go_wp2_with fail
  refine (hx _).mono ?_
  rintro e w1 ⟨rfl, hb1⟩
  obtain ⟨hc1, hf1⟩ := bcell hb1
  go_wp2_with fail
  refine (hy _).mono ?_
  rintro e w2 ⟨rfl, hb2⟩
  obtain ⟨hc2, hf2⟩ := bcell hb2
  have hz1 := hb1.size
  have hz2 := hb2.size
  go_wp2_with fail
  go_ret
  refine ⟨rfl, ?_⟩
  go_light
  (repeat (first | exact Below.refl _ _ | exact hb1 | (refine Below.alloc ?_ (by first | omega | (simp; done) | (simp; omega)) _) | refine Below.drew ?_ | (refine Below.setCell ?_ (by first | omega | (simp; done) | (simp; omega)) _) | (refine Below.trans ?_ (hb2.mono (by first | omega | (simp; done) | (simp; omega)))) | (refine Below.trans ?_ (hb1.mono (by first | omega | (simp; done) | (simp; omega))))))

set_option maxRecDepth 100000 in
theorem add_inf_b (x y : Int) (sa sb : Bool) (ma ea mb eb : Int) (hx : OfIs x 102 sa ma ea) (hy : OfIs y 105 sb mb eb) (w : World) :
    Calls Try.prog 23 #[.int .u64 x, .int .u64 y] w fun e w' => e = .returned (.int .u64 y) ∧ Below w.heap.size w w' := by
  go_enter Try.func23, Try.ntmps23
  go_wp2_with fail
  refine (hx _).mono ?_
  rintro e w1 ⟨rfl, hb1⟩
  obtain ⟨hc1, hf1⟩ := bcell hb1
  go_wp2_with fail
  refine (hy _).mono ?_
  rintro e w2 ⟨rfl, hb2⟩
  obtain ⟨hc2, hf2⟩ := bcell hb2
  have hz1 := hb1.size
  have hz2 := hb2.size
  go_wp2_with fail
  go_ret
  refine ⟨rfl, ?_⟩
  go_light
  (repeat (first | exact Below.refl _ _ | exact hb1 | (refine Below.alloc ?_ (by first | omega | (simp; done) | (simp; omega)) _) | refine Below.drew ?_ | (refine Below.setCell ?_ (by first | omega | (simp; done) | (simp; omega)) _) | (refine Below.trans ?_ (hb2.mono (by first | omega | (simp; done) | (simp; omega)))) | (refine Below.trans ?_ (hb1.mono (by first | omega | (simp; done) | (simp; omega))))))

set_option maxRecDepth 100000 in
theorem add_z_t (x y : Int) (sb : Bool) (ma ea mb eb : Int) (hx : OfIs x 102 true ma ea) (hy : OfIs y 102 sb mb eb) (za : (ma == 0) = true) (zb : (mb == 0) = true) (w : World) :
    Calls Try.prog 23 #[.int .u64 x, .int .u64 y] w fun e w' => e = .returned (.int .u64 (word sb 0)) ∧ Below w.heap.size w w' := by
  go_enter Try.func23, Try.ntmps23
  go_wp2_with fail
  refine (hx _).mono ?_
  rintro e w1 ⟨rfl, hb1⟩
  obtain ⟨hc1, hf1⟩ := bcell hb1
  go_wp2_with fail
  refine (hy _).mono ?_
  rintro e w2 ⟨rfl, hb2⟩
  obtain ⟨hc2, hf2⟩ := bcell hb2
  have hz1 := hb1.size
  have hz2 := hb2.size
  go_wp2_with fail
  refine (sign_to _ 0 0 rfl (by decide) _).mono ?_
  rintro e w3 ⟨rfl, rfl⟩
  go_wp2_with fail
  go_ret
  refine ⟨rfl, ?_⟩
  go_light
  (repeat (first | exact Below.refl _ _ | exact hb1 | (refine Below.alloc ?_ (by first | omega | (simp; done) | (simp; omega)) _) | refine Below.drew ?_ | (refine Below.setCell ?_ (by first | omega | (simp; done) | (simp; omega)) _) | (refine Below.trans ?_ (hb2.mono (by first | omega | (simp; done) | (simp; omega)))) | (refine Below.trans ?_ (hb1.mono (by first | omega | (simp; done) | (simp; omega))))))

set_option maxRecDepth 100000 in
theorem add_z_f (x y : Int) (sb : Bool) (ma ea mb eb : Int) (hx : OfIs x 102 false ma ea) (hy : OfIs y 102 sb mb eb) (za : (ma == 0) = true) (zb : (mb == 0) = true) (w : World) :
    Calls Try.prog 23 #[.int .u64 x, .int .u64 y] w fun e w' => e = .returned (.int .u64 (word false 0)) ∧ Below w.heap.size w w' := by
  go_enter Try.func23, Try.ntmps23
  go_wp2_with fail
  refine (hx _).mono ?_
  rintro e w1 ⟨rfl, hb1⟩
  obtain ⟨hc1, hf1⟩ := bcell hb1
  go_wp2_with fail
  refine (hy _).mono ?_
  rintro e w2 ⟨rfl, hb2⟩
  obtain ⟨hc2, hf2⟩ := bcell hb2
  have hz1 := hb1.size
  have hz2 := hb2.size
  go_wp2_with fail
  refine (sign_to _ 0 0 rfl (by decide) _).mono ?_
  rintro e w3 ⟨rfl, rfl⟩
  go_wp2_with fail
  go_ret
  refine ⟨rfl, ?_⟩
  go_light
  (repeat (first | exact Below.refl _ _ | exact hb1 | (refine Below.alloc ?_ (by first | omega | (simp; done) | (simp; omega)) _) | refine Below.drew ?_ | (refine Below.setCell ?_ (by first | omega | (simp; done) | (simp; omega)) _) | (refine Below.trans ?_ (hb2.mono (by first | omega | (simp; done) | (simp; omega)))) | (refine Below.trans ?_ (hb1.mono (by first | omega | (simp; done) | (simp; omega))))))

set_option maxRecDepth 100000 in
theorem add_za (x y : Int) (sa sb : Bool) (ma ea mb eb : Int) (hx : OfIs x 102 sa ma ea) (hy : OfIs y 102 sb mb eb) (za : (ma == 0) = true) (zb : (mb == 0) = false) (w : World) :
    Calls Try.prog 23 #[.int .u64 x, .int .u64 y] w fun e w' => e = .returned (.int .u64 y) ∧ Below w.heap.size w w' := by
  go_enter Try.func23, Try.ntmps23
  go_wp2_with fail
  refine (hx _).mono ?_
  rintro e w1 ⟨rfl, hb1⟩
  obtain ⟨hc1, hf1⟩ := bcell hb1
  go_wp2_with fail
  refine (hy _).mono ?_
  rintro e w2 ⟨rfl, hb2⟩
  obtain ⟨hc2, hf2⟩ := bcell hb2
  have hz1 := hb1.size
  have hz2 := hb2.size
  go_wp2_with fail
  go_ret
  refine ⟨rfl, ?_⟩
  go_light
  (repeat (first | exact Below.refl _ _ | exact hb1 | (refine Below.alloc ?_ (by first | omega | (simp; done) | (simp; omega)) _) | refine Below.drew ?_ | (refine Below.setCell ?_ (by first | omega | (simp; done) | (simp; omega)) _) | (refine Below.trans ?_ (hb2.mono (by first | omega | (simp; done) | (simp; omega)))) | (refine Below.trans ?_ (hb1.mono (by first | omega | (simp; done) | (simp; omega))))))

set_option maxRecDepth 100000 in
theorem add_zb (x y : Int) (sa sb : Bool) (ma ea mb eb : Int) (hx : OfIs x 102 sa ma ea) (hy : OfIs y 102 sb mb eb) (za : (ma == 0) = false) (zb : (mb == 0) = true) (w : World) :
    Calls Try.prog 23 #[.int .u64 x, .int .u64 y] w fun e w' => e = .returned (.int .u64 x) ∧ Below w.heap.size w w' := by
  go_enter Try.func23, Try.ntmps23
  go_wp2_with fail
  refine (hx _).mono ?_
  rintro e w1 ⟨rfl, hb1⟩
  obtain ⟨hc1, hf1⟩ := bcell hb1
  go_wp2_with fail
  refine (hy _).mono ?_
  rintro e w2 ⟨rfl, hb2⟩
  obtain ⟨hc2, hf2⟩ := bcell hb2
  have hz1 := hb1.size
  have hz2 := hb2.size
  go_wp2_with fail
  go_ret
  refine ⟨rfl, ?_⟩
  go_light
  (repeat (first | exact Below.refl _ _ | exact hb1 | (refine Below.alloc ?_ (by first | omega | (simp; done) | (simp; omega)) _) | refine Below.drew ?_ | (refine Below.setCell ?_ (by first | omega | (simp; done) | (simp; omega)) _) | (refine Below.trans ?_ (hb2.mono (by first | omega | (simp; done) | (simp; omega)))) | (refine Below.trans ?_ (hb1.mono (by first | omega | (simp; done) | (simp; omega))))))

end Go.Proofs.Ytelgmffmekfndaa
set_option linter.unusedVariables false
namespace Go.Proofs.Ytelgmffmekfndaa
open Go.ChangeShapes Go.WideShapes Go.ChangeAt Go.RowKit
open Fl (sg exf fr kindOf mant expo ups word rung numOf)

theorem of_is (b : Int) (h0 : 0 ≤ b) (h1 : b < 18446744073709551616) : OfIs b (kindOf b.toNat) (sg b.toNat) (mant b.toNat) (expo b.toNat) := fun w => of_any b h0 h1 w

theorem is_nan (b : Int) (h0 : 0 ≤ b) (h1 : b < 18446744073709551616) (k : exf b.toNat = 2047) (f : fr b.toNat ≠ 0) : OfIs b 110 (sg b.toNat) (mant b.toNat) (expo b.toNat) := by
  have H := of_is b h0 h1
  have e : kindOf b.toNat = 110 := by unfold kindOf; rw [if_pos k, if_neg f]
  rw [e] at H
  exact H
theorem is_inf (b : Int) (h0 : 0 ≤ b) (h1 : b < 18446744073709551616) (k : exf b.toNat = 2047) (f : fr b.toNat = 0) : OfIs b 105 (sg b.toNat) (mant b.toNat) (expo b.toNat) := by
  have H := of_is b h0 h1
  have e : kindOf b.toNat = 105 := by unfold kindOf; rw [if_pos k, if_pos f]
  rw [e] at H
  exact H
theorem is_fin (b : Int) (h0 : 0 ≤ b) (h1 : b < 18446744073709551616) (k : exf b.toNat ≠ 2047) : OfIs b 102 (sg b.toNat) (mant b.toNat) (expo b.toNat) := by
  have H := of_is b h0 h1
  have e : kindOf b.toNat = 102 := by unfold kindOf; rw [if_neg k]
  rw [e] at H
  exact H

theorem addR_nat (s t : Bool) (m b : Nat) (e : Int) (hb : b ≤ m * 512) : addR s t ((m : Int) * 512) (b : Int) e = if s = t then word s (rung (m * 512 + b) e) else word s (rung (m * 512 - b) e) := by
  unfold addR
  rw [show ((m : Int) * 512 + (b : Int)).toNat = m * 512 + b by omega, show ((m : Int) * 512 - (b : Int)).toNat = m * 512 - b by omega]

theorem low_form (m : Nat) (hm : m < 9007199254740992) (d : Nat) (hd : d ≤ 62) : bits .and .u64 ((m : Int) * 512) (IntKind.u64.wrap (IntKind.u64.wrap (2 ^ d) - 1)) = ((m * 512 % 2 ^ d : Nat) : Int) := by
  have hp := Nat.two_pow_pos d
  have hpl : 2 ^ d ≤ 2 ^ 62 := Nat.pow_le_pow_right (by omega) hd
  have e1 : IntKind.u64.wrap (IntKind.u64.wrap (2 ^ d) - 1) = ((2 ^ d - 1 : Nat) : Int) := by
    rw [pow_cast]
    simp only [IntKind.wrap_u64]
    generalize 2 ^ d = X at *
    omega
  rw [e1]
  have := mask_u64 ((m : Int) * 512) (by omega) (by omega) d (by omega)
  rw [this]
  congr 2
theorem div_form (m d : Nat) : (m : Int) * 512 / 2 ^ d = ((m * 512 / 2 ^ d : Nat) : Int) := by
  rw [pow_cast, Int.natCast_ediv]; rfl
theorem or_form (q : Nat) (hq : q < 9223372036854775808) : bits .or .u64 (q : Int) 1 = ((q ||| 1 : Nat) : Int) := by
  have := u64_or_nat q 1 (by omega) (by omega)
  exact this

/-- how far apart, and what is beside the greater one -/
theorem near_facts (m d : Nat) (hm : m < 9007199254740992) (hd : 1 ≤ d) : m * 512 / 2 ^ d < 2305843009213693952 ∧ (10 ≤ d → m * 512 / 2 ^ d < 4503599627370496) := by
  have hp := Nat.two_pow_pos d
  constructor
  · rw [Nat.div_lt_iff_lt_mul hp]
    have : 2 ^ 1 ≤ 2 ^ d := Nat.pow_le_pow_right (by omega) hd
    calc m * 512 < 2305843009213693952 * 2 ^ 1 := by omega
      _ ≤ _ := Nat.mul_le_mul_left _ this
  · intro h
    rw [Nat.div_lt_iff_lt_mul hp]
    have : 2 ^ 10 ≤ 2 ^ d := Nat.pow_le_pow_right (by omega) h
    calc m * 512 < 4503599627370496 * 2 ^ 10 := by omega
      _ ≤ _ := Nat.mul_le_mul_left _ this

/-- the lesser one beside the greater one, near it -/
theorem add_near (x y : Int) (sa sb : Bool) (Ma Mb d : Nat) (ea eb : Int) (hx : OfIs x 102 sa Ma ea) (hy : OfIs y 102 sb Mb eb)
    (a1 : 4503599627370496 ≤ Ma) (a2 : Ma < 9007199254740992) (u0 : -1126 ≤ ea) (u1 : ea ≤ 971) (b1 : 4503599627370496 ≤ Mb) (b2 : Mb < 9007199254740992) (v0 : -1126 ≤ eb) (v1 : eb ≤ 971)
    (hd : ea = eb + d) (d1 : 1 ≤ d) (d2 : d ≤ 62) (w : World) :
    Calls Try.prog 23 #[.int .u64 x, .int .u64 y] w fun e w' => e = .returned (.int .u64 (addR sa sb ((Ma : Int) * 512) ((if Mb * 512 % 2 ^ d = 0 then Mb * 512 / 2 ^ d else (Mb * 512 / 2 ^ d ||| 1) : Nat) : Int) (ea - 9))) ∧ Below w.heap.size w w' := by
  have za : ((Ma : Int) == 0) = false := by simp; omega
  have zb : ((Mb : Int) == 0) = false := by simp; omega
  have nf := near_facts Mb d b2 d1
  have hlow := low_form Mb b2 d d2
  have hdiv := div_form Mb d
  have hde : (ea - eb).toNat = d := by omega
  have q1 : ((Mb * 512 / 2 ^ d : Nat) : Int) < 2305843009213693952 := Int.ofNat_lt.2 nf.1
  by_cases hr : Mb * 512 % 2 ^ d = 0
  · rw [if_pos hr]
    exact add_exact x y sa sb Ma ea Mb eb ((Mb * 512 % 2 ^ d : Nat) : Int) ((Mb * 512 / 2 ^ d : Nat) : Int) hx hy za (by omega) (by omega) u0 u1 zb (by omega) (by omega) v0 v1 (by omega) (by omega) (by rw [hde]; exact hlow) (by rw [hde]; exact hdiv) (Int.natCast_nonneg _) q1 (by rw [hr]; rfl) w
  · rw [if_neg hr]
    have h10 := Fl.ten _ _ hr
    have hq := nf.2 h10
    have ho := Fl.or_one (Mb * 512 / 2 ^ d)
    have hob : Mb * 512 / 2 ^ d ||| 1 ≤ Mb * 512 / 2 ^ d + 1 := by rw [ho]; split <;> omega
    have hob2 : Mb * 512 / 2 ^ d ||| 1 < 2305843009213693952 := by omega
    have hrr : (((Mb * 512 % 2 ^ d : Nat) : Int) != 0) = true := by
      generalize Mb * 512 % 2 ^ d = R at hr
      simp; omega
    exact add_sticky x y sa sb Ma ea Mb eb ((Mb * 512 % 2 ^ d : Nat) : Int) ((Mb * 512 / 2 ^ d : Nat) : Int) _ hx hy za (by omega) (by omega) u0 u1 zb (by omega) (by omega) v0 v1 (by omega) (by omega) (by rw [hde]; exact hlow) (by rw [hde]; exact hdiv) (Int.natCast_nonneg _) q1 hrr (or_form _ (by omega)) (Int.natCast_nonneg _) (Int.ofNat_lt.2 hob2) w

/-- the lesser one beside the greater one, near it -/
theorem add_near_s (x y : Int) (sa sb : Bool) (Ma Mb d : Nat) (ea eb : Int) (hx : OfIs x 102 sa Ma ea) (hy : OfIs y 102 sb Mb eb)
    (a1 : 4503599627370496 ≤ Ma) (a2 : Ma < 9007199254740992) (u0 : -1126 ≤ ea) (u1 : ea ≤ 971) (b1 : 4503599627370496 ≤ Mb) (b2 : Mb < 9007199254740992) (v0 : -1126 ≤ eb) (v1 : eb ≤ 971)
    (hd : eb = ea + d) (d1 : 1 ≤ d) (d2 : d ≤ 62) (w : World) :
    Calls Try.prog 23 #[.int .u64 x, .int .u64 y] w fun e w' => e = .returned (.int .u64 (addR sb sa ((Mb : Int) * 512) ((if Ma * 512 % 2 ^ d = 0 then Ma * 512 / 2 ^ d else (Ma * 512 / 2 ^ d ||| 1) : Nat) : Int) (eb - 9))) ∧ Below w.heap.size w w' := by
  have za : ((Ma : Int) == 0) = false := by simp; omega
  have zb : ((Mb : Int) == 0) = false := by simp; omega
  have nf := near_facts Ma d a2 d1
  have hlow := low_form Ma a2 d d2
  have hdiv := div_form Ma d
  have hde : (eb - ea).toNat = d := by omega
  have q1 : ((Ma * 512 / 2 ^ d : Nat) : Int) < 2305843009213693952 := Int.ofNat_lt.2 nf.1
  by_cases hr : Ma * 512 % 2 ^ d = 0
  · rw [if_pos hr]
    exact add_exact_s x y sa sb Ma ea Mb eb ((Ma * 512 % 2 ^ d : Nat) : Int) ((Ma * 512 / 2 ^ d : Nat) : Int) hx hy za (by omega) (by omega) u0 u1 zb (by omega) (by omega) v0 v1 (by omega) (by omega) (by rw [hde]; exact hlow) (by rw [hde]; exact hdiv) (Int.natCast_nonneg _) q1 (by rw [hr]; rfl) w
  · rw [if_neg hr]
    have h10 := Fl.ten _ _ hr
    have hq := nf.2 h10
    have ho := Fl.or_one (Ma * 512 / 2 ^ d)
    have hob : Ma * 512 / 2 ^ d ||| 1 ≤ Ma * 512 / 2 ^ d + 1 := by rw [ho]; split <;> omega
    have hob2 : Ma * 512 / 2 ^ d ||| 1 < 2305843009213693952 := by omega
    have hrr : (((Ma * 512 % 2 ^ d : Nat) : Int) != 0) = true := by
      generalize Ma * 512 % 2 ^ d = R at hr
      simp; omega
    exact add_sticky_s x y sa sb Ma ea Mb eb ((Ma * 512 % 2 ^ d : Nat) : Int) ((Ma * 512 / 2 ^ d : Nat) : Int) _ hx hy za (by omega) (by omega) u0 u1 zb (by omega) (by omega) v0 v1 (by omega) (by omega) (by rw [hde]; exact hlow) (by rw [hde]; exact hdiv) (Int.natCast_nonneg _) q1 hrr (or_form _ (by omega)) (Int.natCast_nonneg _) (Int.ofNat_lt.2 hob2) w

/-- the sum of two finite numbers of which the first lies higher -/
theorem gen_high (x y : Nat) (hx : x < 2 ^ 64) (hy : y < 2 ^ 64) (kx : exf x ≠ 2047) (ky : exf y ≠ 2047) (zx : mant x ≠ 0) (zy : mant y ≠ 0) (d : Nat) (hd : expo x = expo y + d) (d1 : 1 ≤ d) :
    numOf (Ieee.double.add x y) = addR (sg x) (sg y) ((mant x : Int) * 512) ((if 62 < d then 1 else if mant y * 512 % 2 ^ d = 0 then mant y * 512 / 2 ^ d else (mant y * 512 / 2 ^ d ||| 1) : Nat) : Int) (expo x - 9) := by
  have mx0 := Fl.mant_ge _ kx zx
  have mx1 := Fl.mant_lt x
  have my0 := Fl.mant_ge _ ky zy
  have my1 := Fl.mant_lt y
  have nf := near_facts (mant y) d (by omega) d1
  have hlt : mant y * 512 < mant x * 512 * 2 ^ d := by
    have : 2 ^ 1 ≤ 2 ^ d := Nat.pow_le_pow_right (by omega) (by omega)
    calc mant y * 512 < mant x * 512 * 2 ^ 1 := by omega
      _ ≤ _ := Nat.mul_le_mul_left _ this
  by_cases far : 62 < d
  · rw [if_pos far, addR_nat _ _ _ _ _ (by omega)]
    exact Fl.add_gen x y 1 d hx hy kx ky zx zy hd (Fl.sticky_far _ _ (by omega) (by omega) (by omega)) (by omega) (.inr (by omega)) (.inr hlt) (by omega)
  · rw [if_neg far]
    by_cases hr : mant y * 512 % 2 ^ d = 0
    · have he := Fl.exact_near _ _ hr
      rw [if_pos hr, addR_nat _ _ _ _ _ (by omega)]
      exact Fl.add_gen x y _ d hx hy kx ky zx zy hd (.inl he) (by omega) (.inl he) (.inr hlt) (by intro h; have := nf.2 h; omega)
    · have h10 := Fl.ten _ _ hr
      have hq := nf.2 h10
      have ho := Fl.or_one (mant y * 512 / 2 ^ d)
      have hob : mant y * 512 / 2 ^ d ||| 1 ≤ mant y * 512 / 2 ^ d + 1 := by rw [ho]; split <;> omega
      rw [if_neg hr, addR_nat _ _ _ _ _ (by omega)]
      exact Fl.add_gen x y _ d hx hy kx ky zx zy hd (Fl.sticky_near _ _ hr) (by omega) (.inr h10) (.inr hlt) (by intro _; omega)

/-- and of which the first is at the same place, and not less -/
theorem gen_level (x y : Nat) (hx : x < 2 ^ 64) (hy : y < 2 ^ 64) (kx : exf x ≠ 2047) (ky : exf y ≠ 2047) (zx : mant x ≠ 0) (zy : mant y ≠ 0) (hd : expo x = expo y) (hm : mant y ≤ mant x) (hs : sg x = sg y ∨ mant y < mant x) :
    numOf (Ieee.double.add x y) = addR (sg x) (sg y) ((mant x : Int) * 512) ((mant y * 512 : Nat) : Int) (expo x - 9) := by
  rw [addR_nat _ _ _ _ _ (by omega)]
  exact Fl.add_gen x y (mant y * 512) 0 hx hy kx ky zx zy (by omega) (.inl (by omega)) (by omega) (.inl (by omega)) (by rcases hs with h | h; exact .inl h; exact .inr (by omega)) (by omega)

theorem refadd_any (x y : Int) (x0 : 0 ≤ x) (x1 : x < 18446744073709551616) (y0 : 0 ≤ y) (y1 : y < 18446744073709551616) (w : World) :
    Calls Try.prog 23 #[.int .u64 x, .int .u64 y] w fun e w' => e = .returned (.int .u64 (numOf (Ieee.double.add x.toNat y.toNat))) ∧ Below w.heap.size w w' := by
  have hx : x.toNat < 2 ^ 64 := by omega
  have hy : y.toNat < 2 ^ 64 := by omega
  have vx : ((x.toNat : Nat) : Int) = x := Int.toNat_of_nonneg x0
  have vy : ((y.toNat : Nat) : Int) = y := Int.toNat_of_nonneg y0
  by_cases kx : exf x.toNat = 2047
  · by_cases fx : fr x.toNat = 0
    · have ix := is_inf x x0 x1 kx fx
      by_cases ky : exf y.toNat = 2047
      · by_cases fy : fr y.toNat = 0
        · have iy := is_inf y y0 y1 ky fy
          rw [Fl.add_inf_inf _ _ hx hy kx fx ky fy]
          cases hs : sg x.toNat <;> cases ht : sg y.toNat <;> rw [hs] at ix <;> rw [ht] at iy
          · rw [if_pos rfl, vx]; exact add_inf_ff x y _ _ _ _ ix iy w
          · rw [if_neg (by simp)]; exact add_inf_ft x y _ _ _ _ ix iy w
          · rw [if_neg (by simp)]; exact add_inf_tf x y _ _ _ _ ix iy w
          · rw [if_pos rfl, vx]; exact add_inf_tt x y _ _ _ _ ix iy w
        · rw [Fl.add_nan_r _ _ hy ky fy]
          exact add_nan_b x y _ _ _ _ _ _ ix (is_nan y y0 y1 ky fy) w
      · rw [Fl.add_inf_l _ _ hx hy kx fx ky, vx]
        exact add_inf_a x y _ _ _ _ _ _ ix (is_fin y y0 y1 ky) w
    · rw [Fl.add_nan_l _ _ hx kx fx]
      exact add_nan_a x y _ _ _ _ _ _ _ (is_nan x x0 x1 kx fx) (of_is y y0 y1) w
  have ix := is_fin x x0 x1 kx
  by_cases ky : exf y.toNat = 2047
  · by_cases fy : fr y.toNat = 0
    · rw [Fl.add_comm, Fl.add_inf_l _ _ hy hx ky fy kx, vy]
      exact add_inf_b x y _ _ _ _ _ _ ix (is_inf y y0 y1 ky fy) w
    · rw [Fl.add_nan_r _ _ hy ky fy]
      exact add_nan_c x y _ _ _ _ _ _ ix (is_nan y y0 y1 ky fy) w
  have iy := is_fin y y0 y1 ky
  by_cases zx : mant x.toNat = 0
  · by_cases zy : mant y.toNat = 0
    · rw [Fl.add_zero_both _ _ hx hy kx ky zx zy]
      cases hs : sg x.toNat <;> rw [hs] at ix
      · exact add_z_f x y _ _ _ _ _ ix iy (by simp; omega) (by simp; omega) w
      · rw [Bool.true_and]
        exact add_z_t x y _ _ _ _ _ ix iy (by simp; omega) (by simp; omega) w
    · rw [Fl.add_zero_left _ _ hx hy kx ky zx zy, vy]
      exact add_za x y _ _ _ _ _ _ ix iy (by simp; omega) (by simp; omega) w
  by_cases zy : mant y.toNat = 0
  · rw [Fl.add_comm, Fl.add_zero_left _ _ hy hx ky kx zy zx, vx]
    exact add_zb x y _ _ _ _ _ _ ix iy (by simp; omega) (by simp; omega) w
  have mx0 := Fl.mant_ge _ kx zx
  have mx1 := Fl.mant_lt x.toNat
  have my0 := Fl.mant_ge _ ky zy
  have my1 := Fl.mant_lt y.toNat
  have ex0 := (Fl.expo_bd x.toNat).1
  have ex1 := Fl.expo_fin _ kx
  have ey0 := (Fl.expo_bd y.toNat).1
  have ey1 := Fl.expo_fin _ ky
  have za : ((mant x.toNat : Int) == 0) = false := by simp; omega
  have zb : ((mant y.toNat : Int) == 0) = false := by simp; omega
  by_cases c : expo y.toNat < expo x.toNat
  · obtain ⟨d, hd⟩ : ∃ d : Nat, expo x.toNat = expo y.toNat + d := ⟨(expo x.toNat - expo y.toNat).toNat, by omega⟩
    rw [gen_high _ _ hx hy kx ky zx zy d hd (by omega)]
    by_cases far : 62 < d
    · rw [if_pos far]
      exact add_far x y _ _ _ _ _ _ _ ix iy za (by omega) (by omega) (by omega) (by omega) zb (by omega) (by omega) (by omega) (by omega) c (by omega) rfl w
    · rw [if_neg far]
      exact add_near x y _ _ _ _ d _ _ ix iy (by omega) (by omega) (by omega) (by omega) (by omega) (by omega) (by omega) (by omega) hd (by omega) (by omega) w
  by_cases c2 : expo x.toNat < expo y.toNat
  · obtain ⟨d, hd⟩ : ∃ d : Nat, expo y.toNat = expo x.toNat + d := ⟨(expo y.toNat - expo x.toNat).toNat, by omega⟩
    rw [Fl.add_comm, gen_high _ _ hy hx ky kx zy zx d hd (by omega)]
    by_cases far : 62 < d
    · rw [if_pos far]
      exact add_far_s x y _ _ _ _ _ _ _ ix iy za (by omega) (by omega) (by omega) (by omega) zb (by omega) (by omega) (by omega) (by omega) c2 (by omega) rfl w
    · rw [if_neg far]
      exact add_near_s x y _ _ _ _ d _ _ ix iy (by omega) (by omega) (by omega) (by omega) (by omega) (by omega) (by omega) (by omega) hd (by omega) (by omega) w
  have he : expo x.toNat = expo y.toNat := by omega
  by_cases c3 : mant x.toNat < mant y.toNat
  · rw [Fl.add_comm, gen_level _ _ hy hx ky kx zy zx he.symm (by omega) (.inr c3)]
    exact add_same_s x y _ _ _ _ _ _ _ ix iy za (by omega) (by omega) (by omega) (by omega) zb (by omega) (by omega) (by omega) (by omega) he (by omega) (by omega) w
  by_cases c4 : mant y.toNat < mant x.toNat
  · rw [gen_level _ _ hx hy kx ky zx zy he (by omega) (.inr c4)]
    exact add_same x y _ _ _ _ _ _ _ ix iy za (by omega) (by omega) (by omega) (by omega) zb (by omega) (by omega) (by omega) (by omega) he (by omega) (by omega) w
  by_cases c5 : sg x.toNat = sg y.toNat
  · rw [gen_level _ _ hx hy kx ky zx zy he (by omega) (.inl c5)]
    exact add_twin x y _ _ _ _ _ _ _ ix iy za (by omega) (by omega) (by omega) (by omega) zb (by omega) (by omega) (by omega) (by omega) he (by omega) (by omega) (by simpa using c5) w
  · rw [Fl.add_opp _ _ hx hy kx ky he (by omega) c5]
    exact add_eq x y _ _ _ _ _ _ ix iy za (by omega) (by omega) (by omega) (by omega) zb (by omega) (by omega) (by omega) (by omega) he (by omega) (by simpa using c5) w
end Go.Proofs.Ytelgmffmekfndaa
