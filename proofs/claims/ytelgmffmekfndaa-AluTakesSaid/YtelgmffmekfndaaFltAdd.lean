/- The contract of the reference's Add at two numbers that are finite and not nought: the greater one's 53 bits and nine more, the lesser one shifted beside them, one bit for what was cut. Conditions: as each theorem names them. -/
import Derived.Test.YtelgmffmekfndaaFltOf
set_option linter.unusedVariables false
namespace Go.Proofs.Ytelgmffmekfndaa
open Go.ChangeShapes Go.WideShapes Go.ChangeAt Go.RowKit
open Fl (sg exf fr kindOf mant expo ups word rung)

/-- what Of answers of a word -/
def OfIs (x k : Int) (s : Bool) (m e : Int) : Prop := ∀ w : World, Calls Try.prog 68 #[.int .u64 x] w fun r w' => r = .returned (nv k s m e) ∧ Below w.heap.size w w'

/-- the sum, or the difference, of what was brought to one place -/
def addR (s t : Bool) (A B e : Int) : Nat := if s = t then word s (rung (A + B).toNat e) else word s (rung (A - B).toNat e)
theorem addR_same {s t : Bool} (h : (s == t) = true) (A B e : Int) : addR s t A B e = word s (rung (A + B).toNat e) := by unfold addR; rw [if_pos (by simpa using h)]
theorem addR_diff {s t : Bool} (h : (s == t) = false) (A B e : Int) : addR s t A B e = word s (rung (A - B).toNat e) := by unfold addR; rw [if_neg (by simpa using h)]

set_option maxRecDepth 100000 in
set_option maxHeartbeats 2000000 in
theorem add_far (x y : Int) (sa sb : Bool) (ma ea mb eb B : Int) (hx : OfIs x 102 sa ma ea) (hy : OfIs y 102 sb mb eb)
    (a0 : (ma == 0) = false) (a1 : 4503599627370496 ≤ ma) (a2 : ma < 9007199254740992) (u0 : -1126 ≤ ea) (u1 : ea ≤ 971) (b0 : (mb == 0) = false) (b1 : 4503599627370496 ≤ mb) (b2 : mb < 9007199254740992) (v0 : -1126 ≤ eb) (v1 : eb ≤ 971)
    (hlt : eb < ea) (hfar : 62 < ea - eb) (hB : B = 1) (w : World) :
    Calls Try.prog 23 #[.int .u64 x, .int .u64 y] w fun e w' => e = .returned (.int .u64 (addR sa sb (ma * 512) B (ea - 9))) ∧ Below w.heap.size w w' := by
  have heq : (ea == eb) = false := by simp; omega
  subst hB
  have hne : (ma * 512 == 1) = false := by simp; omega
  go_enter Try.func23, Try.ntmps23
  go_wp2_with fail
  refine (hx _).mono ?_
  rintro e w1 ⟨rfl, hb1⟩
  obtain ⟨hc1, hf1⟩ := bcell hb1
  go_wp2_with fail
  refine (hy _).mono ?_
  rintro e w2 ⟨rfl, hb2⟩
  obtain ⟨hc2, hf2⟩ := bcell hb2
  have hz1 := hb1.size
  have hz2 := hb2.size
  go_wp2_with fail
  · refine (round_any _ _ _ (by omega) (by omega) (by omega) (by omega) _).mono ?_
    rintro e w3 ⟨rfl, rfl⟩
    go_wp2_with fail
    go_ret
    refine ⟨ret_int (by rw [addR_same ‹_›]), ?_⟩
    go_light
    (repeat (first | exact Below.refl _ _ | exact hb1 | (refine Below.alloc ?_ (by first | omega | (simp; done) | (simp; omega)) _) | refine Below.drew ?_ | (refine Below.setCell ?_ (by first | omega | (simp; done) | (simp; omega)) _) | (refine Below.trans ?_ (hb2.mono (by first | omega | (simp; done) | (simp; omega)))) | (refine Below.trans ?_ (hb1.mono (by first | omega | (simp; done) | (simp; omega))))))
  · refine (round_any _ _ _ (by omega) (by omega) (by omega) (by omega) _).mono ?_
    rintro e w3 ⟨rfl, rfl⟩
    go_wp2_with fail
    go_ret
    refine ⟨ret_int (by rw [addR_diff ‹_›]; first | done | rw [show (ma * 512 - 1).toNat = (ma * 512).toNat - 1 by omega]), ?_⟩
    go_light
    (repeat (first | exact Below.refl _ _ | exact hb1 | (refine Below.alloc ?_ (by first | omega | (simp; done) | (simp; omega)) _) | refine Below.drew ?_ | (refine Below.setCell ?_ (by first | omega | (simp; done) | (simp; omega)) _) | (refine Below.trans ?_ (hb2.mono (by first | omega | (simp; done) | (simp; omega)))) | (refine Below.trans ?_ (hb1.mono (by first | omega | (simp; done) | (simp; omega))))))
set_option maxRecDepth 100000 in
set_option maxHeartbeats 2000000 in
theorem add_sticky (x y : Int) (sa sb : Bool) (ma ea mb eb R Q B : Int) (hx : OfIs x 102 sa ma ea) (hy : OfIs y 102 sb mb eb)
    (a0 : (ma == 0) = false) (a1 : 4503599627370496 ≤ ma) (a2 : ma < 9007199254740992) (u0 : -1126 ≤ ea) (u1 : ea ≤ 971) (b0 : (mb == 0) = false) (b1 : 4503599627370496 ≤ mb) (b2 : mb < 9007199254740992) (v0 : -1126 ≤ eb) (v1 : eb ≤ 971)
    (hlt : eb < ea) (hnear : ea - eb ≤ 62) (hlow : bits .and .u64 (mb * 512) (IntKind.u64.wrap (IntKind.u64.wrap (2 ^ (ea - eb).toNat) - 1)) = R) (hQ : mb * 512 / 2 ^ (ea - eb).toNat = Q)
    (q0 : 0 ≤ Q) (q1 : Q < 2305843009213693952) (hR : (R != 0) = true) (hor : bits .or .u64 Q 1 = B) (B0 : 0 ≤ B) (B1 : B < 2305843009213693952) (w : World) :
    Calls Try.prog 23 #[.int .u64 x, .int .u64 y] w fun e w' => e = .returned (.int .u64 (addR sa sb (ma * 512) B (ea - 9))) ∧ Below w.heap.size w w' := by
  have heq : (ea == eb) = false := by simp; omega
  have hne : (ma * 512 == B) = false := by simp; omega
  go_enter Try.func23, Try.ntmps23
  go_wp2_with fail
  refine (hx _).mono ?_
  rintro e w1 ⟨rfl, hb1⟩
  obtain ⟨hc1, hf1⟩ := bcell hb1
  go_wp2_with fail
  refine (hy _).mono ?_
  rintro e w2 ⟨rfl, hb2⟩
  obtain ⟨hc2, hf2⟩ := bcell hb2
  have hz1 := hb1.size
  have hz2 := hb2.size
  go_wp2_with fail
  · refine (round_any _ _ _ (by omega) (by omega) (by omega) (by omega) _).mono ?_
    rintro e w3 ⟨rfl, rfl⟩
    go_wp2_with fail
    go_ret
    refine ⟨ret_int (by rw [addR_same ‹_›]), ?_⟩
    go_light
    (repeat (first | exact Below.refl _ _ | exact hb1 | (refine Below.alloc ?_ (by first | omega | (simp; done) | (simp; omega)) _) | refine Below.drew ?_ | (refine Below.setCell ?_ (by first | omega | (simp; done) | (simp; omega)) _) | (refine Below.trans ?_ (hb2.mono (by first | omega | (simp; done) | (simp; omega)))) | (refine Below.trans ?_ (hb1.mono (by first | omega | (simp; done) | (simp; omega))))))
  · refine (round_any _ _ _ (by omega) (by omega) (by omega) (by omega) _).mono ?_
    rintro e w3 ⟨rfl, rfl⟩
    go_wp2_with fail
    go_ret
    refine ⟨ret_int (by rw [addR_diff ‹_›]; first | done | rw [show (ma * 512 - 1).toNat = (ma * 512).toNat - 1 by omega]), ?_⟩
    go_light
    (repeat (first | exact Below.refl _ _ | exact hb1 | (refine Below.alloc ?_ (by first | omega | (simp; done) | (simp; omega)) _) | refine Below.drew ?_ | (refine Below.setCell ?_ (by first | omega | (simp; done) | (simp; omega)) _) | (refine Below.trans ?_ (hb2.mono (by first | omega | (simp; done) | (simp; omega)))) | (refine Below.trans ?_ (hb1.mono (by first | omega | (simp; done) | (simp; omega))))))
set_option maxRecDepth 100000 in
set_option maxHeartbeats 2000000 in
theorem add_exact (x y : Int) (sa sb : Bool) (ma ea mb eb R B : Int) (hx : OfIs x 102 sa ma ea) (hy : OfIs y 102 sb mb eb)
    (a0 : (ma == 0) = false) (a1 : 4503599627370496 ≤ ma) (a2 : ma < 9007199254740992) (u0 : -1126 ≤ ea) (u1 : ea ≤ 971) (b0 : (mb == 0) = false) (b1 : 4503599627370496 ≤ mb) (b2 : mb < 9007199254740992) (v0 : -1126 ≤ eb) (v1 : eb ≤ 971)
    (hlt : eb < ea) (hnear : ea - eb ≤ 62) (hlow : bits .and .u64 (mb * 512) (IntKind.u64.wrap (IntKind.u64.wrap (2 ^ (ea - eb).toNat) - 1)) = R) (hQ : mb * 512 / 2 ^ (ea - eb).toNat = B)
    (B0 : 0 ≤ B) (B1 : B < 2305843009213693952) (hR : (R != 0) = false) (w : World) :
    Calls Try.prog 23 #[.int .u64 x, .int .u64 y] w fun e w' => e = .returned (.int .u64 (addR sa sb (ma * 512) B (ea - 9))) ∧ Below w.heap.size w w' := by
  have heq : (ea == eb) = false := by simp; omega
  have hne : (ma * 512 == B) = false := by simp; omega
  go_enter Try.func23, Try.ntmps23
  go_wp2_with fail
  refine (hx _).mono ?_
  rintro e w1 ⟨rfl, hb1⟩
  obtain ⟨hc1, hf1⟩ := bcell hb1
  go_wp2_with fail
  refine (hy _).mono ?_
  rintro e w2 ⟨rfl, hb2⟩
  obtain ⟨hc2, hf2⟩ := bcell hb2
  have hz1 := hb1.size
  have hz2 := hb2.size
  go_wp2_with fail
  · refine (round_any _ _ _ (by omega) (by omega) (by omega) (by omega) _).mono ?_
    rintro e w3 ⟨rfl, rfl⟩
    go_wp2_with fail
    go_ret
    refine ⟨ret_int (by rw [addR_same ‹_›]), ?_⟩
    go_light
    (repeat (first | exact Below.refl _ _ | exact hb1 | (refine Below.alloc ?_ (by first | omega | (simp; done) | (simp; omega)) _) | refine Below.drew ?_ | (refine Below.setCell ?_ (by first | omega | (simp; done) | (simp; omega)) _) | (refine Below.trans ?_ (hb2.mono (by first | omega | (simp; done) | (simp; omega)))) | (refine Below.trans ?_ (hb1.mono (by first | omega | (simp; done) | (simp; omega))))))
  · refine (round_any _ _ _ (by omega) (by omega) (by omega) (by omega) _).mono ?_
    rintro e w3 ⟨rfl, rfl⟩
    go_wp2_with fail
    go_ret
    refine ⟨ret_int (by rw [addR_diff ‹_›]; first | done | rw [show (ma * 512 - 1).toNat = (ma * 512).toNat - 1 by omega]), ?_⟩
    go_light
    (repeat (first | exact Below.refl _ _ | exact hb1 | (refine Below.alloc ?_ (by first | omega | (simp; done) | (simp; omega)) _) | refine Below.drew ?_ | (refine Below.setCell ?_ (by first | omega | (simp; done) | (simp; omega)) _) | (refine Below.trans ?_ (hb2.mono (by first | omega | (simp; done) | (simp; omega)))) | (refine Below.trans ?_ (hb1.mono (by first | omega | (simp; done) | (simp; omega))))))
set_option maxRecDepth 100000 in
set_option maxHeartbeats 2000000 in
theorem add_far_s (x y : Int) (sa sb : Bool) (ma ea mb eb B : Int) (hx : OfIs x 102 sa ma ea) (hy : OfIs y 102 sb mb eb)
    (a0 : (ma == 0) = false) (a1 : 4503599627370496 ≤ ma) (a2 : ma < 9007199254740992) (u0 : -1126 ≤ ea) (u1 : ea ≤ 971) (b0 : (mb == 0) = false) (b1 : 4503599627370496 ≤ mb) (b2 : mb < 9007199254740992) (v0 : -1126 ≤ eb) (v1 : eb ≤ 971)
    (hlt : ea < eb) (hfar : 62 < eb - ea) (hB : B = 1) (w : World) :
    Calls Try.prog 23 #[.int .u64 x, .int .u64 y] w fun e w' => e = .returned (.int .u64 (addR sb sa (mb * 512) B (eb - 9))) ∧ Below w.heap.size w w' := by
  have heq : (ea == eb) = false := by simp; omega
  subst hB
  have hne : (mb * 512 == 1) = false := by simp; omega
  go_enter Try.func23, Try.ntmps23
  go_wp2_with fail
  refine (hx _).mono ?_
  rintro e w1 ⟨rfl, hb1⟩
  obtain ⟨hc1, hf1⟩ := bcell hb1
  go_wp2_with fail
  refine (hy _).mono ?_
  rintro e w2 ⟨rfl, hb2⟩
  obtain ⟨hc2, hf2⟩ := bcell hb2
  have hz1 := hb1.size
  have hz2 := hb2.size
  go_wp2_with fail
  · refine (round_any _ _ _ (by omega) (by omega) (by omega) (by omega) _).mono ?_
    rintro e w3 ⟨rfl, rfl⟩
    go_wp2_with fail
    go_ret
    refine ⟨ret_int (by rw [addR_same ‹_›]), ?_⟩
    go_light
    (repeat (first | exact Below.refl _ _ | exact hb1 | (refine Below.alloc ?_ (by first | omega | (simp; done) | (simp; omega)) _) | refine Below.drew ?_ | (refine Below.setCell ?_ (by first | omega | (simp; done) | (simp; omega)) _) | (refine Below.trans ?_ (hb2.mono (by first | omega | (simp; done) | (simp; omega)))) | (refine Below.trans ?_ (hb1.mono (by first | omega | (simp; done) | (simp; omega))))))
  · refine (round_any _ _ _ (by omega) (by omega) (by omega) (by omega) _).mono ?_
    rintro e w3 ⟨rfl, rfl⟩
    go_wp2_with fail
    go_ret
    refine ⟨ret_int (by rw [addR_diff ‹_›]; first | done | rw [show (mb * 512 - 1).toNat = (mb * 512).toNat - 1 by omega]), ?_⟩
    go_light
    (repeat (first | exact Below.refl _ _ | exact hb1 | (refine Below.alloc ?_ (by first | omega | (simp; done) | (simp; omega)) _) | refine Below.drew ?_ | (refine Below.setCell ?_ (by first | omega | (simp; done) | (simp; omega)) _) | (refine Below.trans ?_ (hb2.mono (by first | omega | (simp; done) | (simp; omega)))) | (refine Below.trans ?_ (hb1.mono (by first | omega | (simp; done) | (simp; omega))))))
set_option maxRecDepth 100000 in
set_option maxHeartbeats 2000000 in
theorem add_sticky_s (x y : Int) (sa sb : Bool) (ma ea mb eb R Q B : Int) (hx : OfIs x 102 sa ma ea) (hy : OfIs y 102 sb mb eb)
    (a0 : (ma == 0) = false) (a1 : 4503599627370496 ≤ ma) (a2 : ma < 9007199254740992) (u0 : -1126 ≤ ea) (u1 : ea ≤ 971) (b0 : (mb == 0) = false) (b1 : 4503599627370496 ≤ mb) (b2 : mb < 9007199254740992) (v0 : -1126 ≤ eb) (v1 : eb ≤ 971)
    (hlt : ea < eb) (hnear : eb - ea ≤ 62) (hlow : bits .and .u64 (ma * 512) (IntKind.u64.wrap (IntKind.u64.wrap (2 ^ (eb - ea).toNat) - 1)) = R) (hQ : ma * 512 / 2 ^ (eb - ea).toNat = Q)
    (q0 : 0 ≤ Q) (q1 : Q < 2305843009213693952) (hR : (R != 0) = true) (hor : bits .or .u64 Q 1 = B) (B0 : 0 ≤ B) (B1 : B < 2305843009213693952) (w : World) :
    Calls Try.prog 23 #[.int .u64 x, .int .u64 y] w fun e w' => e = .returned (.int .u64 (addR sb sa (mb * 512) B (eb - 9))) ∧ Below w.heap.size w w' := by
  have heq : (ea == eb) = false := by simp; omega
  have hne : (mb * 512 == B) = false := by simp; omega
  go_enter Try.func23, Try.ntmps23
  go_wp2_with fail
  refine (hx _).mono ?_
  rintro e w1 ⟨rfl, hb1⟩
  obtain ⟨hc1, hf1⟩ := bcell hb1
  go_wp2_with fail
  refine (hy _).mono ?_
  rintro e w2 ⟨rfl, hb2⟩
  obtain ⟨hc2, hf2⟩ := bcell hb2
  have hz1 := hb1.size
  have hz2 := hb2.size
  go_wp2_with fail
  · refine (round_any _ _ _ (by omega) (by omega) (by omega) (by omega) _).mono ?_
    rintro e w3 ⟨rfl, rfl⟩
    go_wp2_with fail
    go_ret
    refine ⟨ret_int (by rw [addR_same ‹_›]), ?_⟩
    go_light
    (repeat (first | exact Below.refl _ _ | exact hb1 | (refine Below.alloc ?_ (by first | omega | (simp; done) | (simp; omega)) _) | refine Below.drew ?_ | (refine Below.setCell ?_ (by first | omega | (simp; done) | (simp; omega)) _) | (refine Below.trans ?_ (hb2.mono (by first | omega | (simp; done) | (simp; omega)))) | (refine Below.trans ?_ (hb1.mono (by first | omega | (simp; done) | (simp; omega))))))
  · refine (round_any _ _ _ (by omega) (by omega) (by omega) (by omega) _).mono ?_
    rintro e w3 ⟨rfl, rfl⟩
    go_wp2_with fail
    go_ret
    refine ⟨ret_int (by rw [addR_diff ‹_›]; first | done | rw [show (mb * 512 - 1).toNat = (mb * 512).toNat - 1 by omega]), ?_⟩
    go_light
    (repeat (first | exact Below.refl _ _ | exact hb1 | (refine Below.alloc ?_ (by first | omega | (simp; done) | (simp; omega)) _) | refine Below.drew ?_ | (refine Below.setCell ?_ (by first | omega | (simp; done) | (simp; omega)) _) | (refine Below.trans ?_ (hb2.mono (by first | omega | (simp; done) | (simp; omega)))) | (refine Below.trans ?_ (hb1.mono (by first | omega | (simp; done) | (simp; omega))))))
set_option maxRecDepth 100000 in
set_option maxHeartbeats 2000000 in
theorem add_exact_s (x y : Int) (sa sb : Bool) (ma ea mb eb R B : Int) (hx : OfIs x 102 sa ma ea) (hy : OfIs y 102 sb mb eb)
    (a0 : (ma == 0) = false) (a1 : 4503599627370496 ≤ ma) (a2 : ma < 9007199254740992) (u0 : -1126 ≤ ea) (u1 : ea ≤ 971) (b0 : (mb == 0) = false) (b1 : 4503599627370496 ≤ mb) (b2 : mb < 9007199254740992) (v0 : -1126 ≤ eb) (v1 : eb ≤ 971)
    (hlt : ea < eb) (hnear : eb - ea ≤ 62) (hlow : bits .and .u64 (ma * 512) (IntKind.u64.wrap (IntKind.u64.wrap (2 ^ (eb - ea).toNat) - 1)) = R) (hQ : ma * 512 / 2 ^ (eb - ea).toNat = B)
    (B0 : 0 ≤ B) (B1 : B < 2305843009213693952) (hR : (R != 0) = false) (w : World) :
    Calls Try.prog 23 #[.int .u64 x, .int .u64 y] w fun e w' => e = .returned (.int .u64 (addR sb sa (mb * 512) B (eb - 9))) ∧ Below w.heap.size w w' := by
  have heq : (ea == eb) = false := by simp; omega
  have hne : (mb * 512 == B) = false := by simp; omega
  go_enter Try.func23, Try.ntmps23
  go_wp2_with fail
  refine (hx _).mono ?_
  rintro e w1 ⟨rfl, hb1⟩
  obtain ⟨hc1, hf1⟩ := bcell hb1
  go_wp2_with fail
  refine (hy _).mono ?_
  rintro e w2 ⟨rfl, hb2⟩
  obtain ⟨hc2, hf2⟩ := bcell hb2
  have hz1 := hb1.size
  have hz2 := hb2.size
  go_wp2_with fail
  · refine (round_any _ _ _ (by omega) (by omega) (by omega) (by omega) _).mono ?_
    rintro e w3 ⟨rfl, rfl⟩
    go_wp2_with fail
    go_ret
    refine ⟨ret_int (by rw [addR_same ‹_›]), ?_⟩
    go_light
    (repeat (first | exact Below.refl _ _ | exact hb1 | (refine Below.alloc ?_ (by first | omega | (simp; done) | (simp; omega)) _) | refine Below.drew ?_ | (refine Below.setCell ?_ (by first | omega | (simp; done) | (simp; omega)) _) | (refine Below.trans ?_ (hb2.mono (by first | omega | (simp; done) | (simp; omega)))) | (refine Below.trans ?_ (hb1.mono (by first | omega | (simp; done) | (simp; omega))))))
  · refine (round_any _ _ _ (by omega) (by omega) (by omega) (by omega) _).mono ?_
    rintro e w3 ⟨rfl, rfl⟩
    go_wp2_with fail
    go_ret
    refine ⟨ret_int (by rw [addR_diff ‹_›]; first | done | rw [show (mb * 512 - 1).toNat = (mb * 512).toNat - 1 by omega]), ?_⟩
    go_light
    (repeat (first | exact Below.refl _ _ | exact hb1 | (refine Below.alloc ?_ (by first | omega | (simp; done) | (simp; omega)) _) | refine Below.drew ?_ | (refine Below.setCell ?_ (by first | omega | (simp; done) | (simp; omega)) _) | (refine Below.trans ?_ (hb2.mono (by first | omega | (simp; done) | (simp; omega)))) | (refine Below.trans ?_ (hb1.mono (by first | omega | (simp; done) | (simp; omega))))))
set_option maxRecDepth 100000 in
set_option maxHeartbeats 2000000 in
theorem add_eq (x y : Int) (sa sb : Bool) (ma ea mb eb : Int) (hx : OfIs x 102 sa ma ea) (hy : OfIs y 102 sb mb eb)
    (a0 : (ma == 0) = false) (a1 : 4503599627370496 ≤ ma) (a2 : ma < 9007199254740992) (u0 : -1126 ≤ ea) (u1 : ea ≤ 971) (b0 : (mb == 0) = false) (b1 : 4503599627370496 ≤ mb) (b2 : mb < 9007199254740992) (v0 : -1126 ≤ eb) (v1 : eb ≤ 971)
    (heq : ea = eb) (hm : ma = mb) (hs : (sa == sb) = false) (w : World) :
    Calls Try.prog 23 #[.int .u64 x, .int .u64 y] w fun e w' => e = .returned (.int .u64 0) ∧ Below w.heap.size w w' := by
  subst heq hm
  have h0 : bits .and .u64 (ma * 512) 0 = 0 := by
    have := u64_and (ma * 512) 0 (by omega) (by omega) (by omega) (by omega)
    rw [this]; simp
  go_enter Try.func23, Try.ntmps23
  go_wp2_with fail
  refine (hx _).mono ?_
  rintro e w1 ⟨rfl, hb1⟩
  obtain ⟨hc1, hf1⟩ := bcell hb1
  go_wp2_with fail
  refine (hy _).mono ?_
  rintro e w2 ⟨rfl, hb2⟩
  obtain ⟨hc2, hf2⟩ := bcell hb2
  have hz1 := hb1.size
  have hz2 := hb2.size
  go_wp2_with fail
  go_ret
  refine ⟨rfl, ?_⟩
  go_light
  (repeat (first | exact Below.refl _ _ | exact hb1 | (refine Below.alloc ?_ (by first | omega | (simp; done) | (simp; omega)) _) | refine Below.drew ?_ | (refine Below.setCell ?_ (by first | omega | (simp; done) | (simp; omega)) _) | (refine Below.trans ?_ (hb2.mono (by first | omega | (simp; done) | (simp; omega)))) | (refine Below.trans ?_ (hb1.mono (by first | omega | (simp; done) | (simp; omega))))))
set_option maxRecDepth 100000 in
set_option maxHeartbeats 2000000 in
theorem add_same (x y : Int) (sa sb : Bool) (ma ea mb eb B : Int) (hx : OfIs x 102 sa ma ea) (hy : OfIs y 102 sb mb eb)
    (a0 : (ma == 0) = false) (a1 : 4503599627370496 ≤ ma) (a2 : ma < 9007199254740992) (u0 : -1126 ≤ ea) (u1 : ea ≤ 971) (b0 : (mb == 0) = false) (b1 : 4503599627370496 ≤ mb) (b2 : mb < 9007199254740992) (v0 : -1126 ≤ eb) (v1 : eb ≤ 971)
    (heq : ea = eb) (hm : mb < ma) (hB : B = mb * 512) (w : World) :
    Calls Try.prog 23 #[.int .u64 x, .int .u64 y] w fun e w' => e = .returned (.int .u64 (addR sa sb (ma * 512) B (ea - 9))) ∧ Below w.heap.size w w' := by
  subst heq hB
  have hne : (ma * 512 == mb * 512) = false := by simp; omega
  have h0 : bits .and .u64 (mb * 512) 0 = 0 := by
    have := u64_and (mb * 512) 0 (by omega) (by omega) (by omega) (by omega)
    rw [this]; simp
  go_enter Try.func23, Try.ntmps23
  go_wp2_with fail
  refine (hx _).mono ?_
  rintro e w1 ⟨rfl, hb1⟩
  obtain ⟨hc1, hf1⟩ := bcell hb1
  go_wp2_with fail
  refine (hy _).mono ?_
  rintro e w2 ⟨rfl, hb2⟩
  obtain ⟨hc2, hf2⟩ := bcell hb2
  have hz1 := hb1.size
  have hz2 := hb2.size
  go_wp2_with fail
  · refine (round_any _ _ _ (by omega) (by omega) (by omega) (by omega) _).mono ?_
    rintro e w3 ⟨rfl, rfl⟩
    go_wp2_with fail
    go_ret
    refine ⟨ret_int (by rw [addR_same ‹_›]), ?_⟩
    go_light
    (repeat (first | exact Below.refl _ _ | exact hb1 | (refine Below.alloc ?_ (by first | omega | (simp; done) | (simp; omega)) _) | refine Below.drew ?_ | (refine Below.setCell ?_ (by first | omega | (simp; done) | (simp; omega)) _) | (refine Below.trans ?_ (hb2.mono (by first | omega | (simp; done) | (simp; omega)))) | (refine Below.trans ?_ (hb1.mono (by first | omega | (simp; done) | (simp; omega))))))
  · refine (round_any _ _ _ (by omega) (by omega) (by omega) (by omega) _).mono ?_
    rintro e w3 ⟨rfl, rfl⟩
    go_wp2_with fail
    go_ret
    refine ⟨ret_int (by rw [addR_diff ‹_›]; first | done | rw [show (ma * 512 - 1).toNat = (ma * 512).toNat - 1 by omega]), ?_⟩
    go_light
    (repeat (first | exact Below.refl _ _ | exact hb1 | (refine Below.alloc ?_ (by first | omega | (simp; done) | (simp; omega)) _) | refine Below.drew ?_ | (refine Below.setCell ?_ (by first | omega | (simp; done) | (simp; omega)) _) | (refine Below.trans ?_ (hb2.mono (by first | omega | (simp; done) | (simp; omega)))) | (refine Below.trans ?_ (hb1.mono (by first | omega | (simp; done) | (simp; omega))))))
set_option maxRecDepth 100000 in
set_option maxHeartbeats 2000000 in
theorem add_twin (x y : Int) (sa sb : Bool) (ma ea mb eb B : Int) (hx : OfIs x 102 sa ma ea) (hy : OfIs y 102 sb mb eb)
    (a0 : (ma == 0) = false) (a1 : 4503599627370496 ≤ ma) (a2 : ma < 9007199254740992) (u0 : -1126 ≤ ea) (u1 : ea ≤ 971) (b0 : (mb == 0) = false) (b1 : 4503599627370496 ≤ mb) (b2 : mb < 9007199254740992) (v0 : -1126 ≤ eb) (v1 : eb ≤ 971)
    (heq : ea = eb) (hm : mb ≤ ma) (hB : B = mb * 512) (hs : (sa == sb) = true) (w : World) :
    Calls Try.prog 23 #[.int .u64 x, .int .u64 y] w fun e w' => e = .returned (.int .u64 (addR sa sb (ma * 512) B (ea - 9))) ∧ Below w.heap.size w w' := by
  subst heq hB
  have h0 : bits .and .u64 (mb * 512) 0 = 0 := by
    have := u64_and (mb * 512) 0 (by omega) (by omega) (by omega) (by omega)
    rw [this]; simp
  go_enter Try.func23, Try.ntmps23
  go_wp2_with fail
  refine (hx _).mono ?_
  rintro e w1 ⟨rfl, hb1⟩
  obtain ⟨hc1, hf1⟩ := bcell hb1
  go_wp2_with fail
  refine (hy _).mono ?_
  rintro e w2 ⟨rfl, hb2⟩
  obtain ⟨hc2, hf2⟩ := bcell hb2
  have hz1 := hb1.size
  have hz2 := hb2.size
  go_wp2_with fail
  refine (round_any _ _ _ (by omega) (by omega) (by omega) (by omega) _).mono ?_
  rintro e w3 ⟨rfl, rfl⟩
  go_wp2_with fail
  go_ret
  refine ⟨ret_int (by rw [addR_same hs]), ?_⟩
  go_light
  (repeat (first | exact Below.refl _ _ | exact hb1 | (refine Below.alloc ?_ (by first | omega | (simp; done) | (simp; omega)) _) | refine Below.drew ?_ | (refine Below.setCell ?_ (by first | omega | (simp; done) | (simp; omega)) _) | (refine Below.trans ?_ (hb2.mono (by first | omega | (simp; done) | (simp; omega)))) | (refine Below.trans ?_ (hb1.mono (by first | omega | (simp; done) | (simp; omega))))))
set_option maxRecDepth 100000 in
set_option maxHeartbeats 2000000 in
theorem add_same_s (x y : Int) (sa sb : Bool) (ma ea mb eb B : Int) (hx : OfIs x 102 sa ma ea) (hy : OfIs y 102 sb mb eb)
    (a0 : (ma == 0) = false) (a1 : 4503599627370496 ≤ ma) (a2 : ma < 9007199254740992) (u0 : -1126 ≤ ea) (u1 : ea ≤ 971) (b0 : (mb == 0) = false) (b1 : 4503599627370496 ≤ mb) (b2 : mb < 9007199254740992) (v0 : -1126 ≤ eb) (v1 : eb ≤ 971)
    (heq : ea = eb) (hm : ma < mb) (hB : B = ma * 512) (w : World) :
    Calls Try.prog 23 #[.int .u64 x, .int .u64 y] w fun e w' => e = .returned (.int .u64 (addR sb sa (mb * 512) B (eb - 9))) ∧ Below w.heap.size w w' := by
  subst heq hB
  have h0 : bits .and .u64 (ma * 512) 0 = 0 := by
    have := u64_and (ma * 512) 0 (by omega) (by omega) (by omega) (by omega)
    rw [this]; simp
  go_enter Try.func23, Try.ntmps23
  go_wp2_with fail
  refine (hx _).mono ?_
  rintro e w1 ⟨rfl, hb1⟩
  obtain ⟨hc1, hf1⟩ := bcell hb1
  go_wp2_with fail
  refine (hy _).mono ?_
  rintro e w2 ⟨rfl, hb2⟩
  obtain ⟨hc2, hf2⟩ := bcell hb2
  have hz1 := hb1.size
  have hz2 := hb2.size
  go_wp2_with fail
  · refine (round_any _ _ _ (by omega) (by omega) (by omega) (by omega) _).mono ?_
    rintro e w3 ⟨rfl, rfl⟩
    go_wp2_with fail
    go_ret
    refine ⟨ret_int (by rw [addR_same ‹_›]), ?_⟩
    go_light
    (repeat (first | exact Below.refl _ _ | exact hb1 | (refine Below.alloc ?_ (by first | omega | (simp; done) | (simp; omega)) _) | refine Below.drew ?_ | (refine Below.setCell ?_ (by first | omega | (simp; done) | (simp; omega)) _) | (refine Below.trans ?_ (hb2.mono (by first | omega | (simp; done) | (simp; omega)))) | (refine Below.trans ?_ (hb1.mono (by first | omega | (simp; done) | (simp; omega))))))
  · refine (round_any _ _ _ (by omega) (by omega) (by omega) (by omega) _).mono ?_
    rintro e w3 ⟨rfl, rfl⟩
    go_wp2_with fail
    go_ret
    refine ⟨ret_int (by rw [addR_diff ‹_›]; first | done | rw [show (mb * 512 - 1).toNat = (mb * 512).toNat - 1 by omega]), ?_⟩
    go_light
    (repeat (first | exact Below.refl _ _ | exact hb1 | (refine Below.alloc ?_ (by first | omega | (simp; done) | (simp; omega)) _) | refine Below.drew ?_ | (refine Below.setCell ?_ (by first | omega | (simp; done) | (simp; omega)) _) | (refine Below.trans ?_ (hb2.mono (by first | omega | (simp; done) | (simp; omega)))) | (refine Below.trans ?_ (hb1.mono (by first | omega | (simp; done) | (simp; omega))))))
end Go.Proofs.Ytelgmffmekfndaa
