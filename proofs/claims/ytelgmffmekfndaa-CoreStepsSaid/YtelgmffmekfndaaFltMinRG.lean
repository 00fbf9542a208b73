/- The contracts of the reference's Min and Max. Condition: the words fit 64 bits. -/
import Derived.Test.YtelgmffmekfndaaFltOrdRG
import Derived.Test.YtelgmffmekfndaaFltLawsG
set_option linter.unusedVariables false
namespace Go.Proofs.Ytelgmffmekfndaa
open Go.ChangeShapes Go.WideShapes Go.ChangeAt Go.RowKit
open Fl (sg exf fr isN lessN sameN rankN kindOf mant expo minN maxN minW maxW)

theorem kind_eq (a : Nat) : (((kindOf a : Nat) : Int) == 110) = !decide (isN a) := by
  rw [← kind_test]; simp [bne]

set_option maxRecDepth 100000 in
theorem refmin_a (x y Kx Ky : Int) (sa sb L E : Bool) (ma ea mb eb : Int) (hx : OfIs x Kx sa ma ea) (hy : OfIs y Ky sb mb eb) (hl : ∀ w : World, Calls Try.prog 38 #[.int .u64 y, .int .u64 x] w fun e w' => e = .returned (.bool L) ∧ Below w.heap.size w w')
    (he : ∀ w : World, Calls Try.prog 39 #[.int .u64 x, .int .u64 y] w fun e w' => e = .returned (.bool E) ∧ Below w.heap.size w w') (p : (Kx == 110) = true) (w : World) :
    Calls Try.prog 41 #[.int .u64 x, .int .u64 y] w fun e w' => e = .returned (.int .u64 9221120237041090560) ∧ Below w.heap.size w w' := by
  have fx := fun w => field_kind Kx sa ma ea w
  have fy := fun w => field_kind Ky sb mb eb w
  have HL := Lib.hid hl
  have HE := Lib.hid he
  clear hl he
  go_enter Try.func41, Try.ntmps41
  go_wp2_with fail
  refine (hx _).mono ?_
  rintro e w1 ⟨rfl, hb1⟩
  obtain ⟨hc1, hf1⟩ := bcell hb1
  have hz1 := hb1.size
  go_wp2_with fail
  go_ret
  refine ⟨rfl, ?_⟩
  go_light
  (repeat (first | exact Below.refl _ _ | exact hb1 | refine below_drewN ?_ _ | (refine Below.alloc ?_ (by first | omega | (simp; done) | (simp; omega)) _) | refine Below.drew ?_ | (refine Below.setCell ?_ (by first | omega | (simp; done) | (simp; omega)) _) | (refine Below.trans ?_ (hb1.mono (by first | omega | (simp; done) | (simp; omega)))) ))

set_option maxRecDepth 100000 in
theorem refmin_b (x y Kx Ky : Int) (sa sb L E : Bool) (ma ea mb eb : Int) (hx : OfIs x Kx sa ma ea) (hy : OfIs y Ky sb mb eb) (hl : ∀ w : World, Calls Try.prog 38 #[.int .u64 y, .int .u64 x] w fun e w' => e = .returned (.bool L) ∧ Below w.heap.size w w')
    (he : ∀ w : World, Calls Try.prog 39 #[.int .u64 x, .int .u64 y] w fun e w' => e = .returned (.bool E) ∧ Below w.heap.size w w') (p : (Kx == 110) = false) (q : (Ky == 110) = true) (w : World) :
    Calls Try.prog 41 #[.int .u64 x, .int .u64 y] w fun e w' => e = .returned (.int .u64 9221120237041090560) ∧ Below w.heap.size w w' := by
  have fx := fun w => field_kind Kx sa ma ea w
  have fy := fun w => field_kind Ky sb mb eb w
  have HL := Lib.hid hl
  have HE := Lib.hid he
  clear hl he
  go_enter Try.func41, Try.ntmps41
  go_wp2_with fail
  refine (hx _).mono ?_
  rintro e w1 ⟨rfl, hb1⟩
  obtain ⟨hc1, hf1⟩ := bcell hb1
  have hz1 := hb1.size
  go_wp2_with fail
  refine (hy _).mono ?_
  rintro e w2 ⟨rfl, hb2⟩
  obtain ⟨hc2, hf2⟩ := bcell hb2
  have hz2 := hb2.size
  go_wp2_with fail
  go_ret
  refine ⟨rfl, ?_⟩
  go_light
  (repeat (first | exact Below.refl _ _ | exact hb1 | exact hb2 | refine below_drewN ?_ _ | (refine Below.alloc ?_ (by first | omega | (simp; done) | (simp; omega)) _) | refine Below.drew ?_ | (refine Below.setCell ?_ (by first | omega | (simp; done) | (simp; omega)) _) | (refine Below.trans ?_ (hb2.mono (by first | omega | (simp; done) | (simp; omega)))) | (refine Below.trans ?_ (hb1.mono (by first | omega | (simp; done) | (simp; omega)))) ))

set_option maxRecDepth 100000 in
theorem refmin_c (x y Kx Ky : Int) (sa sb L E : Bool) (ma ea mb eb : Int) (hx : OfIs x Kx sa ma ea) (hy : OfIs y Ky sb mb eb) (hl : ∀ w : World, Calls Try.prog 38 #[.int .u64 y, .int .u64 x] w fun e w' => e = .returned (.bool L) ∧ Below w.heap.size w w')
    (he : ∀ w : World, Calls Try.prog 39 #[.int .u64 x, .int .u64 y] w fun e w' => e = .returned (.bool E) ∧ Below w.heap.size w w') (p : (Kx == 110) = false) (q : (Ky == 110) = false) (hL : L = true) (w : World) :
    Calls Try.prog 41 #[.int .u64 x, .int .u64 y] w fun e w' => e = .returned (.int .u64 y) ∧ Below w.heap.size w w' := by
  have fx := fun w => field_kind Kx sa ma ea w
  have fy := fun w => field_kind Ky sb mb eb w
  have HL := Lib.hid hl
  have HE := Lib.hid he
  clear hl he
  subst hL
  go_enter Try.func41, Try.ntmps41
  go_wp2_with fail
  refine (hx _).mono ?_
  rintro e w1 ⟨rfl, hb1⟩
  obtain ⟨hc1, hf1⟩ := bcell hb1
  have hz1 := hb1.size
  go_wp2_with fail
  refine (hy _).mono ?_
  rintro e w2 ⟨rfl, hb2⟩
  obtain ⟨hc2, hf2⟩ := bcell hb2
  have hz2 := hb2.size
  go_wp2_with fail
  refine (HL.out _).mono ?_
  rintro e w3 ⟨rfl, hb3⟩
  obtain ⟨hc3, hf3⟩ := bcell hb3
  have hz3 := hb3.size
  go_wp2_with fail
  go_ret
  refine ⟨rfl, ?_⟩
  go_light
  (repeat (first | exact Below.refl _ _ | exact hb1 | exact hb2 | exact hb3 | refine below_drewN ?_ _ | (refine Below.alloc ?_ (by first | omega | (simp; done) | (simp; omega)) _) | refine Below.drew ?_ | (refine Below.setCell ?_ (by first | omega | (simp; done) | (simp; omega)) _) | (refine Below.trans ?_ (hb3.mono (by first | omega | (simp; done) | (simp; omega)))) | (refine Below.trans ?_ (hb2.mono (by first | omega | (simp; done) | (simp; omega)))) | (refine Below.trans ?_ (hb1.mono (by first | omega | (simp; done) | (simp; omega)))) ))

set_option maxRecDepth 100000 in
theorem refmin_d (x y Kx Ky : Int) (sa sb L E : Bool) (ma ea mb eb : Int) (hx : OfIs x Kx sa ma ea) (hy : OfIs y Ky sb mb eb) (hl : ∀ w : World, Calls Try.prog 38 #[.int .u64 y, .int .u64 x] w fun e w' => e = .returned (.bool L) ∧ Below w.heap.size w w')
    (he : ∀ w : World, Calls Try.prog 39 #[.int .u64 x, .int .u64 y] w fun e w' => e = .returned (.bool E) ∧ Below w.heap.size w w') (p : (Kx == 110) = false) (q : (Ky == 110) = false) (hL : L = false) (hE : E = false) (w : World) :
    Calls Try.prog 41 #[.int .u64 x, .int .u64 y] w fun e w' => e = .returned (.int .u64 x) ∧ Below w.heap.size w w' := by
  have fx := fun w => field_kind Kx sa ma ea w
  have fy := fun w => field_kind Ky sb mb eb w
  have HL := Lib.hid hl
  have HE := Lib.hid he
  clear hl he
  subst hL
  subst hE
  go_enter Try.func41, Try.ntmps41
  go_wp2_with fail
  refine (hx _).mono ?_
  rintro e w1 ⟨rfl, hb1⟩
  obtain ⟨hc1, hf1⟩ := bcell hb1
  have hz1 := hb1.size
  go_wp2_with fail
  refine (hy _).mono ?_
  rintro e w2 ⟨rfl, hb2⟩
  obtain ⟨hc2, hf2⟩ := bcell hb2
  have hz2 := hb2.size
  go_wp2_with fail
  refine (HL.out _).mono ?_
  rintro e w3 ⟨rfl, hb3⟩
  obtain ⟨hc3, hf3⟩ := bcell hb3
  have hz3 := hb3.size
  go_wp2_with fail
  refine (HE.out _).mono ?_
  rintro e w4 ⟨rfl, hb4⟩
  obtain ⟨hc4, hf4⟩ := bcell hb4
  have hz4 := hb4.size
  go_wp2_with fail
  go_ret
  refine ⟨rfl, ?_⟩
  go_light
  (repeat (first | exact Below.refl _ _ | exact hb1 | exact hb2 | exact hb3 | exact hb4 | refine below_drewN ?_ _ | (refine Below.alloc ?_ (by first | omega | (simp; done) | (simp; omega)) _) | refine Below.drew ?_ | (refine Below.setCell ?_ (by first | omega | (simp; done) | (simp; omega)) _) | (refine Below.trans ?_ (hb4.mono (by first | omega | (simp; done) | (simp; omega)))) | (refine Below.trans ?_ (hb3.mono (by first | omega | (simp; done) | (simp; omega)))) | (refine Below.trans ?_ (hb2.mono (by first | omega | (simp; done) | (simp; omega)))) | (refine Below.trans ?_ (hb1.mono (by first | omega | (simp; done) | (simp; omega)))) ))

set_option maxRecDepth 100000 in
theorem refmin_e (x y Kx Ky : Int) (sa sb L E : Bool) (ma ea mb eb : Int) (hx : OfIs x Kx sa ma ea) (hy : OfIs y Ky sb mb eb) (hl : ∀ w : World, Calls Try.prog 38 #[.int .u64 y, .int .u64 x] w fun e w' => e = .returned (.bool L) ∧ Below w.heap.size w w')
    (he : ∀ w : World, Calls Try.prog 39 #[.int .u64 x, .int .u64 y] w fun e w' => e = .returned (.bool E) ∧ Below w.heap.size w w') (p : (Kx == 110) = false) (q : (Ky == 110) = false) (hL : L = false) (hE : E = true) (t : (y / 9223372036854775808 == 1) = true) (w : World) :
    Calls Try.prog 41 #[.int .u64 x, .int .u64 y] w fun e w' => e = .returned (.int .u64 y) ∧ Below w.heap.size w w' := by
  have fx := fun w => field_kind Kx sa ma ea w
  have fy := fun w => field_kind Ky sb mb eb w
  have HL := Lib.hid hl
  have HE := Lib.hid he
  clear hl he
  subst hL
  subst hE
  go_enter Try.func41, Try.ntmps41
  go_wp2_with fail
  refine (hx _).mono ?_
  rintro e w1 ⟨rfl, hb1⟩
  obtain ⟨hc1, hf1⟩ := bcell hb1
  have hz1 := hb1.size
  go_wp2_with fail
  refine (hy _).mono ?_
  rintro e w2 ⟨rfl, hb2⟩
  obtain ⟨hc2, hf2⟩ := bcell hb2
  have hz2 := hb2.size
  go_wp2_with fail
  refine (HL.out _).mono ?_
  rintro e w3 ⟨rfl, hb3⟩
  obtain ⟨hc3, hf3⟩ := bcell hb3
  have hz3 := hb3.size
  go_wp2_with fail
  refine (HE.out _).mono ?_
  rintro e w4 ⟨rfl, hb4⟩
  obtain ⟨hc4, hf4⟩ := bcell hb4
  have hz4 := hb4.size
  go_wp2_with fail
  go_ret
  refine ⟨rfl, ?_⟩
  go_light
  (repeat (first | exact Below.refl _ _ | exact hb1 | exact hb2 | exact hb3 | exact hb4 | refine below_drewN ?_ _ | (refine Below.alloc ?_ (by first | omega | (simp; done) | (simp; omega)) _) | refine Below.drew ?_ | (refine Below.setCell ?_ (by first | omega | (simp; done) | (simp; omega)) _) | (refine Below.trans ?_ (hb4.mono (by first | omega | (simp; done) | (simp; omega)))) | (refine Below.trans ?_ (hb3.mono (by first | omega | (simp; done) | (simp; omega)))) | (refine Below.trans ?_ (hb2.mono (by first | omega | (simp; done) | (simp; omega)))) | (refine Below.trans ?_ (hb1.mono (by first | omega | (simp; done) | (simp; omega)))) ))

set_option maxRecDepth 100000 in
theorem refmin_f (x y Kx Ky : Int) (sa sb L E : Bool) (ma ea mb eb : Int) (hx : OfIs x Kx sa ma ea) (hy : OfIs y Ky sb mb eb) (hl : ∀ w : World, Calls Try.prog 38 #[.int .u64 y, .int .u64 x] w fun e w' => e = .returned (.bool L) ∧ Below w.heap.size w w')
    (he : ∀ w : World, Calls Try.prog 39 #[.int .u64 x, .int .u64 y] w fun e w' => e = .returned (.bool E) ∧ Below w.heap.size w w') (p : (Kx == 110) = false) (q : (Ky == 110) = false) (hL : L = false) (hE : E = true) (t : (y / 9223372036854775808 == 1) = false) (w : World) :
    Calls Try.prog 41 #[.int .u64 x, .int .u64 y] w fun e w' => e = .returned (.int .u64 x) ∧ Below w.heap.size w w' := by
  have fx := fun w => field_kind Kx sa ma ea w
  have fy := fun w => field_kind Ky sb mb eb w
  have HL := Lib.hid hl
  have HE := Lib.hid he
  clear hl he
  subst hL
  subst hE
  go_enter Try.func41, Try.ntmps41
  go_wp2_with fail
  refine (hx _).mono ?_
  rintro e w1 ⟨rfl, hb1⟩
  obtain ⟨hc1, hf1⟩ := bcell hb1
  have hz1 := hb1.size
  go_wp2_with fail
  refine (hy _).mono ?_
  rintro e w2 ⟨rfl, hb2⟩
  obtain ⟨hc2, hf2⟩ := bcell hb2
  have hz2 := hb2.size
  go_wp2_with fail
  refine (HL.out _).mono ?_
  rintro e w3 ⟨rfl, hb3⟩
  obtain ⟨hc3, hf3⟩ := bcell hb3
  have hz3 := hb3.size
  go_wp2_with fail
  refine (HE.out _).mono ?_
  rintro e w4 ⟨rfl, hb4⟩
  obtain ⟨hc4, hf4⟩ := bcell hb4
  have hz4 := hb4.size
  go_wp2_with fail
  go_ret
  refine ⟨rfl, ?_⟩
  go_light
  (repeat (first | exact Below.refl _ _ | exact hb1 | exact hb2 | exact hb3 | exact hb4 | refine below_drewN ?_ _ | (refine Below.alloc ?_ (by first | omega | (simp; done) | (simp; omega)) _) | refine Below.drew ?_ | (refine Below.setCell ?_ (by first | omega | (simp; done) | (simp; omega)) _) | (refine Below.trans ?_ (hb4.mono (by first | omega | (simp; done) | (simp; omega)))) | (refine Below.trans ?_ (hb3.mono (by first | omega | (simp; done) | (simp; omega)))) | (refine Below.trans ?_ (hb2.mono (by first | omega | (simp; done) | (simp; omega)))) | (refine Below.trans ?_ (hb1.mono (by first | omega | (simp; done) | (simp; omega)))) ))

set_option maxRecDepth 100000 in
theorem refmax_a (x y Kx Ky : Int) (sa sb L E : Bool) (ma ea mb eb : Int) (hx : OfIs x Kx sa ma ea) (hy : OfIs y Ky sb mb eb) (hl : ∀ w : World, Calls Try.prog 38 #[.int .u64 x, .int .u64 y] w fun e w' => e = .returned (.bool L) ∧ Below w.heap.size w w')
    (he : ∀ w : World, Calls Try.prog 39 #[.int .u64 x, .int .u64 y] w fun e w' => e = .returned (.bool E) ∧ Below w.heap.size w w') (p : (Kx == 110) = true) (w : World) :
    Calls Try.prog 43 #[.int .u64 x, .int .u64 y] w fun e w' => e = .returned (.int .u64 9221120237041090560) ∧ Below w.heap.size w w' := by
  have fx := fun w => field_kind Kx sa ma ea w
  have fy := fun w => field_kind Ky sb mb eb w
  have HL := Lib.hid hl
  have HE := Lib.hid he
  clear hl he
  go_enter Try.func43, Try.ntmps43
  go_wp2_with fail
  refine (hx _).mono ?_
  rintro e w1 ⟨rfl, hb1⟩
  obtain ⟨hc1, hf1⟩ := bcell hb1
  have hz1 := hb1.size
  go_wp2_with fail
  go_ret
  refine ⟨rfl, ?_⟩
  go_light
  (repeat (first | exact Below.refl _ _ | exact hb1 | refine below_drewN ?_ _ | (refine Below.alloc ?_ (by first | omega | (simp; done) | (simp; omega)) _) | refine Below.drew ?_ | (refine Below.setCell ?_ (by first | omega | (simp; done) | (simp; omega)) _) | (refine Below.trans ?_ (hb1.mono (by first | omega | (simp; done) | (simp; omega)))) ))

set_option maxRecDepth 100000 in
theorem refmax_b (x y Kx Ky : Int) (sa sb L E : Bool) (ma ea mb eb : Int) (hx : OfIs x Kx sa ma ea) (hy : OfIs y Ky sb mb eb) (hl : ∀ w : World, Calls Try.prog 38 #[.int .u64 x, .int .u64 y] w fun e w' => e = .returned (.bool L) ∧ Below w.heap.size w w')
    (he : ∀ w : World, Calls Try.prog 39 #[.int .u64 x, .int .u64 y] w fun e w' => e = .returned (.bool E) ∧ Below w.heap.size w w') (p : (Kx == 110) = false) (q : (Ky == 110) = true) (w : World) :
    Calls Try.prog 43 #[.int .u64 x, .int .u64 y] w fun e w' => e = .returned (.int .u64 9221120237041090560) ∧ Below w.heap.size w w' := by
  have fx := fun w => field_kind Kx sa ma ea w
  have fy := fun w => field_kind Ky sb mb eb w
  have HL := Lib.hid hl
  have HE := Lib.hid he
  clear hl he
  go_enter Try.func43, Try.ntmps43
  go_wp2_with fail
  refine (hx _).mono ?_
  rintro e w1 ⟨rfl, hb1⟩
  obtain ⟨hc1, hf1⟩ := bcell hb1
  have hz1 := hb1.size
  go_wp2_with fail
  refine (hy _).mono ?_
  rintro e w2 ⟨rfl, hb2⟩
  obtain ⟨hc2, hf2⟩ := bcell hb2
  have hz2 := hb2.size
  go_wp2_with fail
  go_ret
  refine ⟨rfl, ?_⟩
  go_light
  (repeat (first | exact Below.refl _ _ | exact hb1 | exact hb2 | refine below_drewN ?_ _ | (refine Below.alloc ?_ (by first | omega | (simp; done) | (simp; omega)) _) | refine Below.drew ?_ | (refine Below.setCell ?_ (by first | omega | (simp; done) | (simp; omega)) _) | (refine Below.trans ?_ (hb2.mono (by first | omega | (simp; done) | (simp; omega)))) | (refine Below.trans ?_ (hb1.mono (by first | omega | (simp; done) | (simp; omega)))) ))

set_option maxRecDepth 100000 in
theorem refmax_c (x y Kx Ky : Int) (sa sb L E : Bool) (ma ea mb eb : Int) (hx : OfIs x Kx sa ma ea) (hy : OfIs y Ky sb mb eb) (hl : ∀ w : World, Calls Try.prog 38 #[.int .u64 x, .int .u64 y] w fun e w' => e = .returned (.bool L) ∧ Below w.heap.size w w')
    (he : ∀ w : World, Calls Try.prog 39 #[.int .u64 x, .int .u64 y] w fun e w' => e = .returned (.bool E) ∧ Below w.heap.size w w') (p : (Kx == 110) = false) (q : (Ky == 110) = false) (hL : L = true) (w : World) :
    Calls Try.prog 43 #[.int .u64 x, .int .u64 y] w fun e w' => e = .returned (.int .u64 y) ∧ Below w.heap.size w w' := by
  have fx := fun w => field_kind Kx sa ma ea w
  have fy := fun w => field_kind Ky sb mb eb w
  have HL := Lib.hid hl
  have HE := Lib.hid he
  clear hl he
  subst hL
  go_enter Try.func43, Try.ntmps43
  go_wp2_with fail
  refine (hx _).mono ?_
  rintro e w1 ⟨rfl, hb1⟩
  obtain ⟨hc1, hf1⟩ := bcell hb1
  have hz1 := hb1.size
  go_wp2_with fail
  refine (hy _).mono ?_
  rintro e w2 ⟨rfl, hb2⟩
  obtain ⟨hc2, hf2⟩ := bcell hb2
  have hz2 := hb2.size
  go_wp2_with fail
  refine (HL.out _).mono ?_
  rintro e w3 ⟨rfl, hb3⟩
  obtain ⟨hc3, hf3⟩ := bcell hb3
  have hz3 := hb3.size
  go_wp2_with fail
  go_ret
  refine ⟨rfl, ?_⟩
  go_light
  (repeat (first | exact Below.refl _ _ | exact hb1 | exact hb2 | exact hb3 | refine below_drewN ?_ _ | (refine Below.alloc ?_ (by first | omega | (simp; done) | (simp; omega)) _) | refine Below.drew ?_ | (refine Below.setCell ?_ (by first | omega | (simp; done) | (simp; omega)) _) | (refine Below.trans ?_ (hb3.mono (by first | omega | (simp; done) | (simp; omega)))) | (refine Below.trans ?_ (hb2.mono (by first | omega | (simp; done) | (simp; omega)))) | (refine Below.trans ?_ (hb1.mono (by first | omega | (simp; done) | (simp; omega)))) ))

set_option maxRecDepth 100000 in
theorem refmax_d (x y Kx Ky : Int) (sa sb L E : Bool) (ma ea mb eb : Int) (hx : OfIs x Kx sa ma ea) (hy : OfIs y Ky sb mb eb) (hl : ∀ w : World, Calls Try.prog 38 #[.int .u64 x, .int .u64 y] w fun e w' => e = .returned (.bool L) ∧ Below w.heap.size w w')
    (he : ∀ w : World, Calls Try.prog 39 #[.int .u64 x, .int .u64 y] w fun e w' => e = .returned (.bool E) ∧ Below w.heap.size w w') (p : (Kx == 110) = false) (q : (Ky == 110) = false) (hL : L = false) (hE : E = false) (w : World) :
    Calls Try.prog 43 #[.int .u64 x, .int .u64 y] w fun e w' => e = .returned (.int .u64 x) ∧ Below w.heap.size w w' := by
  have fx := fun w => field_kind Kx sa ma ea w
  have fy := fun w => field_kind Ky sb mb eb w
  have HL := Lib.hid hl
  have HE := Lib.hid he
  clear hl he
  subst hL
  subst hE
  go_enter Try.func43, Try.ntmps43
  go_wp2_with fail
  refine (hx _).mono ?_
  rintro e w1 ⟨rfl, hb1⟩
  obtain ⟨hc1, hf1⟩ := bcell hb1
  have hz1 := hb1.size
  go_wp2_with fail
  refine (hy _).mono ?_
  rintro e w2 ⟨rfl, hb2⟩
  obtain ⟨hc2, hf2⟩ := bcell hb2
  have hz2 := hb2.size
  go_wp2_with fail
  refine (HL.out _).mono ?_
  rintro e w3 ⟨rfl, hb3⟩
  obtain ⟨hc3, hf3⟩ := bcell hb3
  have hz3 := hb3.size
  go_wp2_with fail
  refine (HE.out _).mono ?_
  rintro e w4 ⟨rfl, hb4⟩
  obtain ⟨hc4, hf4⟩ := bcell hb4
  have hz4 := hb4.size
  go_wp2_with fail
  go_ret
  refine ⟨rfl, ?_⟩
  go_light
  (repeat (first | exact Below.refl _ _ | exact hb1 | exact hb2 | exact hb3 | exact hb4 | refine below_drewN ?_ _ | (refine Below.alloc ?_ (by first | omega | (simp; done) | (simp; omega)) _) | refine Below.drew ?_ | (refine Below.setCell ?_ (by first | omega | (simp; done) | (simp; omega)) _) | (refine Below.trans ?_ (hb4.mono (by first | omega | (simp; done) | (simp; omega)))) | (refine Below.trans ?_ (hb3.mono (by first | omega | (simp; done) | (simp; omega)))) | (refine Below.trans ?_ (hb2.mono (by first | omega | (simp; done) | (simp; omega)))) | (refine Below.trans ?_ (hb1.mono (by first | omega | (simp; done) | (simp; omega)))) ))

set_option maxRecDepth 100000 in
theorem refmax_e (x y Kx Ky : Int) (sa sb L E : Bool) (ma ea mb eb : Int) (hx : OfIs x Kx sa ma ea) (hy : OfIs y Ky sb mb eb) (hl : ∀ w : World, Calls Try.prog 38 #[.int .u64 x, .int .u64 y] w fun e w' => e = .returned (.bool L) ∧ Below w.heap.size w w')
    (he : ∀ w : World, Calls Try.prog 39 #[.int .u64 x, .int .u64 y] w fun e w' => e = .returned (.bool E) ∧ Below w.heap.size w w') (p : (Kx == 110) = false) (q : (Ky == 110) = false) (hL : L = false) (hE : E = true) (t : (y / 9223372036854775808 == 0) = true) (w : World) :
    Calls Try.prog 43 #[.int .u64 x, .int .u64 y] w fun e w' => e = .returned (.int .u64 y) ∧ Below w.heap.size w w' := by
  have fx := fun w => field_kind Kx sa ma ea w
  have fy := fun w => field_kind Ky sb mb eb w
  have HL := Lib.hid hl
  have HE := Lib.hid he
  clear hl he
  subst hL
  subst hE
  go_enter Try.func43, Try.ntmps43
  go_wp2_with fail
  refine (hx _).mono ?_
  rintro e w1 ⟨rfl, hb1⟩
  obtain ⟨hc1, hf1⟩ := bcell hb1
  have hz1 := hb1.size
  go_wp2_with fail
  refine (hy _).mono ?_
  rintro e w2 ⟨rfl, hb2⟩
  obtain ⟨hc2, hf2⟩ := bcell hb2
  have hz2 := hb2.size
  go_wp2_with fail
  refine (HL.out _).mono ?_
  rintro e w3 ⟨rfl, hb3⟩
  obtain ⟨hc3, hf3⟩ := bcell hb3
  have hz3 := hb3.size
  go_wp2_with fail
  refine (HE.out _).mono ?_
  rintro e w4 ⟨rfl, hb4⟩
  obtain ⟨hc4, hf4⟩ := bcell hb4
  have hz4 := hb4.size
  go_wp2_with fail
  go_ret
  refine ⟨rfl, ?_⟩
  go_light
  (repeat (first | exact Below.refl _ _ | exact hb1 | exact hb2 | exact hb3 | exact hb4 | refine below_drewN ?_ _ | (refine Below.alloc ?_ (by first | omega | (simp; done) | (simp; omega)) _) | refine Below.drew ?_ | (refine Below.setCell ?_ (by first | omega | (simp; done) | (simp; omega)) _) | (refine Below.trans ?_ (hb4.mono (by first | omega | (simp; done) | (simp; omega)))) | (refine Below.trans ?_ (hb3.mono (by first | omega | (simp; done) | (simp; omega)))) | (refine Below.trans ?_ (hb2.mono (by first | omega | (simp; done) | (simp; omega)))) | (refine Below.trans ?_ (hb1.mono (by first | omega | (simp; done) | (simp; omega)))) ))

set_option maxRecDepth 100000 in
theorem refmax_f (x y Kx Ky : Int) (sa sb L E : Bool) (ma ea mb eb : Int) (hx : OfIs x Kx sa ma ea) (hy : OfIs y Ky sb mb eb) (hl : ∀ w : World, Calls Try.prog 38 #[.int .u64 x, .int .u64 y] w fun e w' => e = .returned (.bool L) ∧ Below w.heap.size w w')
    (he : ∀ w : World, Calls Try.prog 39 #[.int .u64 x, .int .u64 y] w fun e w' => e = .returned (.bool E) ∧ Below w.heap.size w w') (p : (Kx == 110) = false) (q : (Ky == 110) = false) (hL : L = false) (hE : E = true) (t : (y / 9223372036854775808 == 0) = false) (w : World) :
    Calls Try.prog 43 #[.int .u64 x, .int .u64 y] w fun e w' => e = .returned (.int .u64 x) ∧ Below w.heap.size w w' := by
  have fx := fun w => field_kind Kx sa ma ea w
  have fy := fun w => field_kind Ky sb mb eb w
  have HL := Lib.hid hl
  have HE := Lib.hid he
  clear hl he
  subst hL
  subst hE
  go_enter Try.func43, Try.ntmps43
  go_wp2_with fail
  refine (hx _).mono ?_
  rintro e w1 ⟨rfl, hb1⟩
  obtain ⟨hc1, hf1⟩ := bcell hb1
  have hz1 := hb1.size
  go_wp2_with fail
  refine (hy _).mono ?_
  rintro e w2 ⟨rfl, hb2⟩
  obtain ⟨hc2, hf2⟩ := bcell hb2
  have hz2 := hb2.size
  go_wp2_with fail
  refine (HL.out _).mono ?_
  rintro e w3 ⟨rfl, hb3⟩
  obtain ⟨hc3, hf3⟩ := bcell hb3
  have hz3 := hb3.size
  go_wp2_with fail
  refine (HE.out _).mono ?_
  rintro e w4 ⟨rfl, hb4⟩
  obtain ⟨hc4, hf4⟩ := bcell hb4
  have hz4 := hb4.size
  go_wp2_with fail
  go_ret
  refine ⟨rfl, ?_⟩
  go_light
  (repeat (first | exact Below.refl _ _ | exact hb1 | exact hb2 | exact hb3 | exact hb4 | refine below_drewN ?_ _ | (refine Below.alloc ?_ (by first | omega | (simp; done) | (simp; omega)) _) | refine Below.drew ?_ | (refine Below.setCell ?_ (by first | omega | (simp; done) | (simp; omega)) _) | (refine Below.trans ?_ (hb4.mono (by first | omega | (simp; done) | (simp; omega)))) | (refine Below.trans ?_ (hb3.mono (by first | omega | (simp; done) | (simp; omega)))) | (refine Below.trans ?_ (hb2.mono (by first | omega | (simp; done) | (simp; omega)))) | (refine Below.trans ?_ (hb1.mono (by first | omega | (simp; done) | (simp; omega)))) ))

theorem refmin_any (x y : Int) (x0 : 0 ≤ x) (x1 : x < 18446744073709551616) (y0 : 0 ≤ y) (y1 : y < 18446744073709551616) (w : World) :
    Calls Try.prog 41 #[.int .u64 x, .int .u64 y] w fun e w' => e = .returned (.int .u64 (minW x.toNat y.toNat)) ∧ Below w.heap.size w w' := by
  have kx := kind_eq x.toNat
  have ky := kind_eq y.toNat
  have vx : ((x.toNat : Nat) : Int) = x := Int.toNat_of_nonneg x0
  have vy : ((y.toNat : Nat) : Int) = y := Int.toNat_of_nonneg y0
  have hl := refless_any y x y0 y1 x0 x1
  have he := refsame_any x y x0 x1 y0 y1
  have ox := of_is x x0 x1
  have oy := of_is y y0 y1
  unfold minW
  by_cases nx : isN x.toNat
  · by_cases ny : isN y.toNat
    · have px : (((kindOf x.toNat : Nat) : Int) == 110) = false := by rw [kx]; simpa using nx
      have py : (((kindOf y.toNat : Nat) : Int) == 110) = false := by rw [ky]; simpa using ny
      rw [if_pos ⟨nx, ny⟩]
      unfold minN
      cases L : lessN y.toNat x.toNat
      · cases E : sameN x.toNat y.toNat
        · rw [if_neg (by simp), vx]
          exact refmin_d x y _ _ _ _ _ _ _ _ _ _ ox oy hl he px py L E w
        · cases s : sg y.toNat
          · have t : (y / 9223372036854775808 == 1) = false ∧ (y / 9223372036854775808 == 0) = true := by unfold sg at s; simp at s ⊢; omega
            rw [if_neg (by simp), vx]
            exact refmin_f x y _ _ _ _ _ _ _ _ _ _ ox oy hl he px py L E t.1 w
          · have t : (y / 9223372036854775808 == 1) = true ∧ (y / 9223372036854775808 == 0) = false := by unfold sg at s; simp at s ⊢; omega
            rw [if_pos (by simp), vy]
            exact refmin_e x y _ _ _ _ _ _ _ _ _ _ ox oy hl he px py L E t.1 w
      · rw [if_pos (by simp), vy]
        exact refmin_c x y _ _ _ _ _ _ _ _ _ _ ox oy hl he px py L w
    · rw [if_neg (by simp [ny])]
      exact refmin_b x y _ _ _ _ _ _ _ _ _ _ ox oy hl he (by rw [kx]; simpa using nx) (by rw [ky]; simpa using ny) w
  · rw [if_neg (by simp [nx])]
    exact refmin_a x y _ _ _ _ _ _ _ _ _ _ ox oy hl he (by rw [kx]; simpa using nx) w

theorem refmax_any (x y : Int) (x0 : 0 ≤ x) (x1 : x < 18446744073709551616) (y0 : 0 ≤ y) (y1 : y < 18446744073709551616) (w : World) :
    Calls Try.prog 43 #[.int .u64 x, .int .u64 y] w fun e w' => e = .returned (.int .u64 (maxW x.toNat y.toNat)) ∧ Below w.heap.size w w' := by
  have kx := kind_eq x.toNat
  have ky := kind_eq y.toNat
  have vx : ((x.toNat : Nat) : Int) = x := Int.toNat_of_nonneg x0
  have vy : ((y.toNat : Nat) : Int) = y := Int.toNat_of_nonneg y0
  have hl := refless_any x y x0 x1 y0 y1
  have he := refsame_any x y x0 x1 y0 y1
  have ox := of_is x x0 x1
  have oy := of_is y y0 y1
  unfold maxW
  by_cases nx : isN x.toNat
  · by_cases ny : isN y.toNat
    · have px : (((kindOf x.toNat : Nat) : Int) == 110) = false := by rw [kx]; simpa using nx
      have py : (((kindOf y.toNat : Nat) : Int) == 110) = false := by rw [ky]; simpa using ny
      rw [if_pos ⟨nx, ny⟩]
      unfold maxN
      cases L : lessN x.toNat y.toNat
      · cases E : sameN x.toNat y.toNat
        · rw [if_neg (by simp), vx]
          exact refmax_d x y _ _ _ _ _ _ _ _ _ _ ox oy hl he px py L E w
        · cases s : sg y.toNat
          · have t : (y / 9223372036854775808 == 1) = false ∧ (y / 9223372036854775808 == 0) = true := by unfold sg at s; simp at s ⊢; omega
            rw [if_pos (by simp), vy]
            exact refmax_e x y _ _ _ _ _ _ _ _ _ _ ox oy hl he px py L E t.2 w
          · have t : (y / 9223372036854775808 == 1) = true ∧ (y / 9223372036854775808 == 0) = false := by unfold sg at s; simp at s ⊢; omega
            rw [if_neg (by simp), vx]
            exact refmax_f x y _ _ _ _ _ _ _ _ _ _ ox oy hl he px py L E t.2 w
      · rw [if_pos (by simp), vy]
        exact refmax_c x y _ _ _ _ _ _ _ _ _ _ ox oy hl he px py L w
    · rw [if_neg (by simp [ny])]
      exact refmax_b x y _ _ _ _ _ _ _ _ _ _ ox oy hl he (by rw [kx]; simpa using nx) (by rw [ky]; simpa using ny) w
  · rw [if_neg (by simp [nx])]
    exact refmax_a x y _ _ _ _ _ _ _ _ _ _ ox oy hl he (by rw [kx]; simpa using nx) w
end Go.Proofs.Ytelgmffmekfndaa
