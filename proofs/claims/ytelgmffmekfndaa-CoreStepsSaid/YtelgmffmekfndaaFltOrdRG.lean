/- The contracts of the reference's Less and Equal. Condition: the words fit 64 bits. -/
import Derived.Test.YtelgmffmekfndaaFltOrdG
import Derived.Test.YtelgmffmekfndaaFltAddsG
set_option linter.unusedVariables false
namespace Go.Proofs.Ytelgmffmekfndaa
open Go.ChangeShapes Go.WideShapes Go.ChangeAt Go.RowKit
open Fl (sg exf fr isN lessN sameN rankN kindOf mant expo)

theorem field_kind (k : Int) (s : Bool) (m e : Int) (w : World) : (Instr.field 70 (nv k s m e) 0).run Try.prog w = .ok (.int .u8 k) w := by kernel_rfl

theorem kind_test (a : Nat) : (((kindOf a : Nat) : Int) != 110) = decide (isN a) := by
  unfold kindOf isN
  rw [Bool.eq_iff_iff]
  by_cases k : exf a = 2047
  · by_cases f : fr a = 0
    · simp [k, f]
    · simp [k, f]
  · simp [k]

set_option maxRecDepth 100000 in
theorem refless_a (x y Kx Ky r s : Int) (sa sb : Bool) (ma ea mb eb : Int) (hx : OfIs x Kx sa ma ea) (hy : OfIs y Ky sb mb eb) (hr : ∀ w : World, Calls Try.prog 73 #[.int .u64 x] w fun e w' => e = .returned (.int .i64 r) ∧ w = w')
    (hs : ∀ w : World, Calls Try.prog 73 #[.int .u64 y] w fun e w' => e = .returned (.int .i64 s) ∧ w = w') (p : (Kx != 110) = false) (w : World) :
    Calls Try.prog 38 #[.int .u64 x, .int .u64 y] w fun e w' => e = .returned (.bool false) ∧ Below w.heap.size w w' := by
  have fx := fun w => field_kind Kx sa ma ea w
  have fy := fun w => field_kind Ky sb mb eb w
  have HR := Lib.hid hr
  have HS := Lib.hid hs
  clear hr hs
  go_enter Try.func38, Try.ntmps38
  go_wp2_with fail
  refine (hx _).mono ?_
  rintro e w1 ⟨rfl, hb1⟩
  obtain ⟨hc1, hf1⟩ := bcell hb1
  have hz1 := hb1.size
  go_wp2_with fail
  go_ret
  refine ⟨rfl, ?_⟩
  go_light
  (repeat (first | exact Below.refl _ _ | exact hb1 | refine below_drewN ?_ _ | (refine Below.alloc ?_ (by first | omega | (simp; done) | (simp; omega)) _) | refine Below.drew ?_ | (refine Below.setCell ?_ (by first | omega | (simp; done) | (simp; omega)) _) | (refine Below.trans ?_ (hb1.mono (by first | omega | (simp; done) | (simp; omega))))))

set_option maxRecDepth 100000 in
theorem refless_b (x y Kx Ky r s : Int) (sa sb : Bool) (ma ea mb eb : Int) (hx : OfIs x Kx sa ma ea) (hy : OfIs y Ky sb mb eb) (hr : ∀ w : World, Calls Try.prog 73 #[.int .u64 x] w fun e w' => e = .returned (.int .i64 r) ∧ w = w')
    (hs : ∀ w : World, Calls Try.prog 73 #[.int .u64 y] w fun e w' => e = .returned (.int .i64 s) ∧ w = w') (p : (Kx != 110) = true) (q : (Ky != 110) = false) (w : World) :
    Calls Try.prog 38 #[.int .u64 x, .int .u64 y] w fun e w' => e = .returned (.bool false) ∧ Below w.heap.size w w' := by
  have fx := fun w => field_kind Kx sa ma ea w
  have fy := fun w => field_kind Ky sb mb eb w
  have HR := Lib.hid hr
  have HS := Lib.hid hs
  clear hr hs
  go_enter Try.func38, Try.ntmps38
  go_wp2_with fail
  refine (hx _).mono ?_
  rintro e w1 ⟨rfl, hb1⟩
  obtain ⟨hc1, hf1⟩ := bcell hb1
  have hz1 := hb1.size
  go_wp2_with fail
  refine (hy _).mono ?_
  rintro e w2 ⟨rfl, hb2⟩
  obtain ⟨hc2, hf2⟩ := bcell hb2
  have hz2 := hb2.size
  go_wp2_with fail
  go_ret
  refine ⟨rfl, ?_⟩
  go_light
  (repeat (first | exact Below.refl _ _ | exact hb1 | exact hb2 | refine below_drewN ?_ _ | (refine Below.alloc ?_ (by first | omega | (simp; done) | (simp; omega)) _) | refine Below.drew ?_ | (refine Below.setCell ?_ (by first | omega | (simp; done) | (simp; omega)) _) | (refine Below.trans ?_ (hb2.mono (by first | omega | (simp; done) | (simp; omega)))) | (refine Below.trans ?_ (hb1.mono (by first | omega | (simp; done) | (simp; omega))))))

set_option maxRecDepth 100000 in
theorem refless_c (x y Kx Ky r s : Int) (sa sb : Bool) (ma ea mb eb : Int) (hx : OfIs x Kx sa ma ea) (hy : OfIs y Ky sb mb eb) (hr : ∀ w : World, Calls Try.prog 73 #[.int .u64 x] w fun e w' => e = .returned (.int .i64 r) ∧ w = w')
    (hs : ∀ w : World, Calls Try.prog 73 #[.int .u64 y] w fun e w' => e = .returned (.int .i64 s) ∧ w = w') (p : (Kx != 110) = true) (q : (Ky != 110) = true) (w : World) :
    Calls Try.prog 38 #[.int .u64 x, .int .u64 y] w fun e w' => e = .returned (.bool (decide (r < s))) ∧ Below w.heap.size w w' := by
  have fx := fun w => field_kind Kx sa ma ea w
  have fy := fun w => field_kind Ky sb mb eb w
  have HR := Lib.hid hr
  have HS := Lib.hid hs
  clear hr hs
  go_enter Try.func38, Try.ntmps38
  go_wp2_with fail
  refine (hx _).mono ?_
  rintro e w1 ⟨rfl, hb1⟩
  obtain ⟨hc1, hf1⟩ := bcell hb1
  have hz1 := hb1.size
  go_wp2_with fail
  refine (hy _).mono ?_
  rintro e w2 ⟨rfl, hb2⟩
  obtain ⟨hc2, hf2⟩ := bcell hb2
  have hz2 := hb2.size
  go_wp2_with fail
  refine (HR.out _).mono ?_
  rintro e w3 ⟨rfl, rfl⟩
  go_wp2_with fail
  refine (HS.out _).mono ?_
  rintro e w3 ⟨rfl, rfl⟩
  go_wp2_with fail
  go_ret
  refine ⟨rfl, ?_⟩
  go_light
  (repeat (first | exact Below.refl _ _ | exact hb1 | exact hb2 | refine below_drewN ?_ _ | (refine Below.alloc ?_ (by first | omega | (simp; done) | (simp; omega)) _) | refine Below.drew ?_ | (refine Below.setCell ?_ (by first | omega | (simp; done) | (simp; omega)) _) | (refine Below.trans ?_ (hb2.mono (by first | omega | (simp; done) | (simp; omega)))) | (refine Below.trans ?_ (hb1.mono (by first | omega | (simp; done) | (simp; omega))))))

set_option maxRecDepth 100000 in
theorem refsame_a (x y Kx Ky r s : Int) (sa sb : Bool) (ma ea mb eb : Int) (hx : OfIs x Kx sa ma ea) (hy : OfIs y Ky sb mb eb) (hr : ∀ w : World, Calls Try.prog 73 #[.int .u64 x] w fun e w' => e = .returned (.int .i64 r) ∧ w = w')
    (hs : ∀ w : World, Calls Try.prog 73 #[.int .u64 y] w fun e w' => e = .returned (.int .i64 s) ∧ w = w') (p : (Kx != 110) = false) (w : World) :
    Calls Try.prog 39 #[.int .u64 x, .int .u64 y] w fun e w' => e = .returned (.bool false) ∧ Below w.heap.size w w' := by
  have fx := fun w => field_kind Kx sa ma ea w
  have fy := fun w => field_kind Ky sb mb eb w
  have HR := Lib.hid hr
  have HS := Lib.hid hs
  clear hr hs
  go_enter Try.func39, Try.ntmps39
  go_wp2_with fail
  refine (hx _).mono ?_
  rintro e w1 ⟨rfl, hb1⟩
  obtain ⟨hc1, hf1⟩ := bcell hb1
  have hz1 := hb1.size
  go_wp2_with fail
  go_ret
  refine ⟨rfl, ?_⟩
  go_light
  (repeat (first | exact Below.refl _ _ | exact hb1 | refine below_drewN ?_ _ | (refine Below.alloc ?_ (by first | omega | (simp; done) | (simp; omega)) _) | refine Below.drew ?_ | (refine Below.setCell ?_ (by first | omega | (simp; done) | (simp; omega)) _) | (refine Below.trans ?_ (hb1.mono (by first | omega | (simp; done) | (simp; omega))))))

set_option maxRecDepth 100000 in
theorem refsame_b (x y Kx Ky r s : Int) (sa sb : Bool) (ma ea mb eb : Int) (hx : OfIs x Kx sa ma ea) (hy : OfIs y Ky sb mb eb) (hr : ∀ w : World, Calls Try.prog 73 #[.int .u64 x] w fun e w' => e = .returned (.int .i64 r) ∧ w = w')
    (hs : ∀ w : World, Calls Try.prog 73 #[.int .u64 y] w fun e w' => e = .returned (.int .i64 s) ∧ w = w') (p : (Kx != 110) = true) (q : (Ky != 110) = false) (w : World) :
    Calls Try.prog 39 #[.int .u64 x, .int .u64 y] w fun e w' => e = .returned (.bool false) ∧ Below w.heap.size w w' := by
  have fx := fun w => field_kind Kx sa ma ea w
  have fy := fun w => field_kind Ky sb mb eb w
  have HR := Lib.hid hr
  have HS := Lib.hid hs
  clear hr hs
  go_enter Try.func39, Try.ntmps39
  go_wp2_with fail
  refine (hx _).mono ?_
  rintro e w1 ⟨rfl, hb1⟩
  obtain ⟨hc1, hf1⟩ := bcell hb1
  have hz1 := hb1.size
  go_wp2_with fail
  refine (hy _).mono ?_
  rintro e w2 ⟨rfl, hb2⟩
  obtain ⟨hc2, hf2⟩ := bcell hb2
  have hz2 := hb2.size
  go_wp2_with fail
  go_ret
  refine ⟨rfl, ?_⟩
  go_light
  (repeat (first | exact Below.refl _ _ | exact hb1 | exact hb2 | refine below_drewN ?_ _ | (refine Below.alloc ?_ (by first | omega | (simp; done) | (simp; omega)) _) | refine Below.drew ?_ | (refine Below.setCell ?_ (by first | omega | (simp; done) | (simp; omega)) _) | (refine Below.trans ?_ (hb2.mono (by first | omega | (simp; done) | (simp; omega)))) | (refine Below.trans ?_ (hb1.mono (by first | omega | (simp; done) | (simp; omega))))))

set_option maxRecDepth 100000 in
theorem refsame_c (x y Kx Ky r s : Int) (sa sb : Bool) (ma ea mb eb : Int) (hx : OfIs x Kx sa ma ea) (hy : OfIs y Ky sb mb eb) (hr : ∀ w : World, Calls Try.prog 73 #[.int .u64 x] w fun e w' => e = .returned (.int .i64 r) ∧ w = w')
    (hs : ∀ w : World, Calls Try.prog 73 #[.int .u64 y] w fun e w' => e = .returned (.int .i64 s) ∧ w = w') (p : (Kx != 110) = true) (q : (Ky != 110) = true) (w : World) :
    Calls Try.prog 39 #[.int .u64 x, .int .u64 y] w fun e w' => e = .returned (.bool (r == s)) ∧ Below w.heap.size w w' := by
  have fx := fun w => field_kind Kx sa ma ea w
  have fy := fun w => field_kind Ky sb mb eb w
  have HR := Lib.hid hr
  have HS := Lib.hid hs
  clear hr hs
  go_enter Try.func39, Try.ntmps39
  go_wp2_with fail
  refine (hx _).mono ?_
  rintro e w1 ⟨rfl, hb1⟩
  obtain ⟨hc1, hf1⟩ := bcell hb1
  have hz1 := hb1.size
  go_wp2_with fail
  refine (hy _).mono ?_
  rintro e w2 ⟨rfl, hb2⟩
  obtain ⟨hc2, hf2⟩ := bcell hb2
  have hz2 := hb2.size
  go_wp2_with fail
  refine (HR.out _).mono ?_
  rintro e w3 ⟨rfl, rfl⟩
  go_wp2_with fail
  refine (HS.out _).mono ?_
  rintro e w3 ⟨rfl, rfl⟩
  go_wp2_with fail
  go_ret
  refine ⟨rfl, ?_⟩
  go_light
  (repeat (first | exact Below.refl _ _ | exact hb1 | exact hb2 | refine below_drewN ?_ _ | (refine Below.alloc ?_ (by first | omega | (simp; done) | (simp; omega)) _) | refine Below.drew ?_ | (refine Below.setCell ?_ (by first | omega | (simp; done) | (simp; omega)) _) | (refine Below.trans ?_ (hb2.mono (by first | omega | (simp; done) | (simp; omega)))) | (refine Below.trans ?_ (hb1.mono (by first | omega | (simp; done) | (simp; omega))))))

theorem refless_any (x y : Int) (x0 : 0 ≤ x) (x1 : x < 18446744073709551616) (y0 : 0 ≤ y) (y1 : y < 18446744073709551616) (w : World) :
    Calls Try.prog 38 #[.int .u64 x, .int .u64 y] w fun e w' => e = .returned (.bool (lessN x.toNat y.toNat)) ∧ Below w.heap.size w w' := by
  have kx := kind_test x.toNat
  have ky := kind_test y.toNat
  unfold lessN
  by_cases nx : isN x.toNat
  · by_cases ny : isN y.toNat
    · have := refless_c x y _ _ _ _ _ _ _ _ _ _ (of_is x x0 x1) (of_is y y0 y1) (rank_any x x0 x1) (rank_any y y0 y1) (by rw [kx]; simpa using nx) (by rw [ky]; simpa using ny) w
      simpa [nx, ny] using this
    · have := refless_b x y _ _ _ _ _ _ _ _ _ _ (of_is x x0 x1) (of_is y y0 y1) (rank_any x x0 x1) (rank_any y y0 y1) (by rw [kx]; simpa using nx) (by rw [ky]; simpa using ny) w
      simpa [nx, ny] using this
  · have := refless_a x y _ _ _ _ _ _ _ _ _ _ (of_is x x0 x1) (of_is y y0 y1) (rank_any x x0 x1) (rank_any y y0 y1) (by rw [kx]; simpa using nx) w
    simpa [nx] using this

theorem refsame_any (x y : Int) (x0 : 0 ≤ x) (x1 : x < 18446744073709551616) (y0 : 0 ≤ y) (y1 : y < 18446744073709551616) (w : World) :
    Calls Try.prog 39 #[.int .u64 x, .int .u64 y] w fun e w' => e = .returned (.bool (sameN x.toNat y.toNat)) ∧ Below w.heap.size w w' := by
  have kx := kind_test x.toNat
  have ky := kind_test y.toNat
  unfold sameN
  by_cases nx : isN x.toNat
  · by_cases ny : isN y.toNat
    · have := refsame_c x y _ _ _ _ _ _ _ _ _ _ (of_is x x0 x1) (of_is y y0 y1) (rank_any x x0 x1) (rank_any y y0 y1) (by rw [kx]; simpa using nx) (by rw [ky]; simpa using ny) w
      have e : (rankN x.toNat == rankN y.toNat) = decide (rankN x.toNat = rankN y.toNat) := rfl
      rw [e] at this
      simpa [nx, ny] using this
    · have := refsame_b x y _ _ _ _ _ _ _ _ _ _ (of_is x x0 x1) (of_is y y0 y1) (rank_any x x0 x1) (rank_any y y0 y1) (by rw [kx]; simpa using nx) (by rw [ky]; simpa using ny) w
      simpa [nx, ny] using this
  · have := refsame_a x y _ _ _ _ _ _ _ _ _ _ (of_is x x0 x1) (of_is y y0 y1) (rank_any x x0 x1) (rank_any y y0 y1) (by rw [kx]; simpa using nx) w
    simpa [nx] using this
end Go.Proofs.Ytelgmffmekfndaa
