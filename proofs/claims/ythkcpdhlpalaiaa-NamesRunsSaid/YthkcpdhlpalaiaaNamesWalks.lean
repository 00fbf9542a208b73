/- The contracts of the functions over ranges of names (New, Right, Left, Given, Split, Take) and of the laws' example. Conditions: those that each theorem names. -/
import Derived.Test.YthkcpdhlpalaiaaLaw
import Derived.IntWalk
import Derived.RegionTactic
import Derived.ChangeAlike
namespace Go.Proofs.Ythkcpdhlpalaiaa
open Go.ChangeShapes Go.WideShapes Go.ChangeAt Go.RowKit

/-- a range's cells -/
abbrev rgc (lo nx hi : Int) : Obj := .cells #[.int .u64 lo, .int .u64 nx, .int .u64 hi] 25
abbrev rg (lo nx hi : Int) : Value := .agg #[.int .u64 lo, .int .u64 nx, .int .u64 hi]

theorem new_yes (lo n : Int) (h1 : 1 ≤ lo) (h2 : lo ≤ 4194304) (h3 : 0 ≤ n) (h4 : n ≤ 4194304 - lo) (w : World) :
    Calls Try.prog 8 #[.int .u64 lo, .int .i64 n] w fun e w' => e = .returned (.tuple #[rg lo lo (lo + n), .bool true]) ∧ w.alloc (rgc lo lo (lo + n)) = w' := by
  go_enter Try.func8, Try.ntmps8
  go_wp2
  exact bodyPost_ret (v := .tuple #[rg lo lo (lo + n), .bool true]) (by simp [results, Try.results8, go_sem]) rfl ⟨rfl, rfl⟩

theorem new_no (lo n : Int) (h0 : 0 ≤ lo) (h1 : lo < 18446744073709551616) (h2 : -9223372036854775808 ≤ n) (h3 : n ≤ 9223372036854775807) (h : lo < 1 ∨ 4194304 < lo ∨ n < 0 ∨ 4194304 - lo < n) (w : World) :
    Calls Try.prog 8 #[.int .u64 lo, .int .i64 n] w fun e w' => e = .returned (.tuple #[rg 0 0 0, .bool false]) ∧ w.alloc (rgc 0 0 0) = w' := by
  by_cases c1 : lo < 1
  · go_enter Try.func8, Try.ntmps8
    go_wp2
    exact bodyPost_ret (v := .tuple #[rg 0 0 0, .bool false]) (by simp [results, Try.results8, go_sem]) rfl ⟨rfl, rfl⟩
  · by_cases c2 : 4194304 < lo
    · go_enter Try.func8, Try.ntmps8
      go_wp2
      exact bodyPost_ret (v := .tuple #[rg 0 0 0, .bool false]) (by simp [results, Try.results8, go_sem]) rfl ⟨rfl, rfl⟩
    · by_cases c3 : n < 0
      · go_enter Try.func8, Try.ntmps8
        go_wp2
        exact bodyPost_ret (v := .tuple #[rg 0 0 0, .bool false]) (by simp [results, Try.results8, go_sem]) rfl ⟨rfl, rfl⟩
      · have c4 : 4194304 - lo < n := by omega
        clear h
        go_enter Try.func8, Try.ntmps8
        go_wp2
        exact bodyPost_ret (v := .tuple #[rg 0 0 0, .bool false]) (by simp [results, Try.results8, go_sem]) rfl ⟨rfl, rfl⟩

theorem left_any (lo nx hi : Int) (h1 : nx ≤ hi) (h2 : hi - nx ≤ 9223372036854775807) (w : World) :
    Calls Try.prog 9 #[rg lo nx hi] w fun e w' => e = .returned (.int .i64 (hi - nx)) ∧ w.alloc (rgc lo nx hi) = w' := by
  go_enter Try.func9, Try.ntmps9
  go_wp2
  go_ret
  exact ⟨rfl, rfl⟩

theorem right_yes (lo nx hi : Int) (h1 : 1 ≤ lo) (h2 : lo ≤ nx) (h3 : nx ≤ hi) (h4 : hi ≤ 4194304) (w : World) :
    Calls Try.prog 13 #[rg lo nx hi] w fun e w' => e = .returned (.bool true) ∧ w.alloc (rgc lo nx hi) = w' := by
  go_enter Try.func13, Try.ntmps13
  go_wp2
  go_ret
  exact ⟨rfl, rfl⟩

theorem right_no (lo nx hi : Int) (h : lo < 1 ∨ nx < lo ∨ hi < nx ∨ 4194304 < hi) (w : World) :
    Calls Try.prog 13 #[rg lo nx hi] w fun e w' => e = .returned (.bool false) ∧ w.alloc (rgc lo nx hi) = w' := by
  go_enter Try.func13, Try.ntmps13
  go_wp2
  all_goals go_ret
  all_goals exact ⟨ret_bool (by first | (simp; done) | (simp; omega)), rfl⟩

theorem given_any (lo nx hi name : Int) (w : World) :
    Calls Try.prog 12 #[rg lo nx hi, .int .u64 name] w fun e w' => e = .returned (.bool (decide (lo ≤ name) && decide (name < nx))) ∧ w.alloc (rgc lo nx hi) = w' := by
  go_enter Try.func12, Try.ntmps12
  go_wp2
  all_goals go_ret
  all_goals exact ⟨ret_bool (by first | (simp [*]; done) | (simp [*]; omega)), rfl⟩

/-- Take at a range that has names left -/
theorem take_yes (b o : Nat) (lo nx hi : Int) (w : World) (hb : b < w.heap.size) (hl : w.cell? ⟨b, o, none⟩ = some (.int .u64 lo)) (hn : w.cell? ⟨b, o + 1, none⟩ = some (.int .u64 nx)) (hh : w.cell? ⟨b, o + 2, none⟩ = some (.int .u64 hi)) (hf : w.frozen? ⟨b, o + 1, none⟩ = false)
    (h0 : 0 ≤ nx) (h1 : nx < hi) (h2 : hi ≤ 4194304) :
    Calls Try.prog 11 #[.pointer (some ⟨b, o, none⟩)] w fun e w' => e = .returned (.int .u64 nx) ∧ (w.setCell ⟨b, o + 1, none⟩ (.int .u64 (nx + 1))).alloc (rgc lo nx hi) = w' := by
  go_enter Try.func11, Try.ntmps11
  go_wp2_with (go_at_call 9; refine (left_any _ _ _ (by omega) (by omega) _).mono ?_; rintro e w1 ⟨rfl, rfl⟩)
  go_ret
  exact ⟨rfl, rfl⟩

theorem take_no (b o : Nat) (lo nx : Int) (w : World) (hl : w.cell? ⟨b, o, none⟩ = some (.int .u64 lo)) (hn : w.cell? ⟨b, o + 1, none⟩ = some (.int .u64 nx)) (hh : w.cell? ⟨b, o + 2, none⟩ = some (.int .u64 nx)) :
    Calls Try.prog 11 #[.pointer (some ⟨b, o, none⟩)] w fun e w' => e = .returned (.int .u64 0) ∧ w.alloc (rgc lo nx nx) = w' := by
  have hz : (nx - nx == 0) = true := by simp
  go_enter Try.func11, Try.ntmps11
  go_wp2_with (go_at_call 9; refine (left_any _ _ _ (by omega) (by omega) _).mono ?_; rintro e w1 ⟨rfl, rfl⟩)
  go_ret
  exact ⟨rfl, rfl⟩

theorem split_yes (b o : Nat) (lo nx hi n : Int) (w : World) (hb : b < w.heap.size) (hl : w.cell? ⟨b, o, none⟩ = some (.int .u64 lo)) (hn : w.cell? ⟨b, o + 1, none⟩ = some (.int .u64 nx)) (hh : w.cell? ⟨b, o + 2, none⟩ = some (.int .u64 hi)) (hf : w.frozen? ⟨b, o + 2, none⟩ = false)
    (h0 : 0 ≤ nx) (h1 : nx ≤ hi) (h2 : hi ≤ 4194304) (h3 : 0 ≤ n) (h4 : n ≤ hi - nx) :
    Calls Try.prog 10 #[.pointer (some ⟨b, o, none⟩), .int .i64 n] w fun e w' => e = .returned (.tuple #[rg (hi - n) (hi - n) hi, .bool true]) ∧ (((w.setCell ⟨b, o + 2, none⟩ (.int .u64 (hi - n))).alloc (rgc (hi - n) (hi - n) hi)).alloc (rgc lo nx hi)).drew = w' := by
  go_enter Try.func10, Try.ntmps10
  go_wp2_with (go_at_call 9; refine (left_any _ _ _ (by omega) (by omega) _).mono ?_; rintro e w1 ⟨rfl, rfl⟩)
  go_region
  go_wp2
  exact bodyPost_ret (v := .tuple #[rg (hi - n) (hi - n) hi, .bool true]) (by simp [results, Try.results10, go_sem]) rfl ⟨rfl, rfl⟩

theorem split_no (b o : Nat) (lo nx hi n : Int) (w : World) (hb : b < w.heap.size) (hl : w.cell? ⟨b, o, none⟩ = some (.int .u64 lo)) (hn : w.cell? ⟨b, o + 1, none⟩ = some (.int .u64 nx)) (hh : w.cell? ⟨b, o + 2, none⟩ = some (.int .u64 hi))
    (h0 : 0 ≤ nx) (h1 : nx ≤ hi) (h2 : hi ≤ 4194304) (h3 : n < 0 ∨ hi - nx < n) :
    Calls Try.prog 10 #[.pointer (some ⟨b, o, none⟩), .int .i64 n] w fun e w' => e = .returned (.tuple #[rg 0 0 0, .bool false]) ∧ Below w.heap.size w w' := by
  by_cases c : n < 0
  · go_enter Try.func10, Try.ntmps10
    go_wp2_with (go_at_call 9; refine (left_any _ _ _ (by omega) (by omega) _).mono ?_; rintro e w1 ⟨rfl, rfl⟩)
    exact bodyPost_ret (v := .tuple #[rg 0 0 0, .bool false]) (by simp [results, Try.results10, go_sem]) rfl ⟨rfl, by repeat (first | exact Below.refl _ _ | (refine Below.alloc ?_ (by first | omega | (simp; done) | (simp; omega)) _))⟩
  · have c2 : hi - nx < n := by omega
    clear h3
    go_enter Try.func10, Try.ntmps10
    go_wp2_with (go_at_call 9; refine (left_any _ _ _ (by omega) (by omega) _).mono ?_; rintro e w1 ⟨rfl, rfl⟩)
    exact bodyPost_ret (v := .tuple #[rg 0 0 0, .bool false]) (by simp [results, Try.results10, go_sem]) rfl ⟨rfl, by repeat (first | exact Below.refl _ _ | (refine Below.alloc ?_ (by first | omega | (simp; done) | (simp; omega)) _))⟩

theorem fit_any (w : World) : Calls Try.prog 7 #[] w fun e w' => e = .returned (.bool true) ∧ Below w.heap.size w w' := by
  go_enter Try.func7, Try.ntmps7
  go_wp2_with (fail)
  refine (new_yes 2 10 (by omega) (by omega) (by omega) (by omega) _).mono ?_
  rintro e w1 ⟨rfl, rfl⟩
  go_wp2_with (fail)
  refine (take_yes _ _ 2 2 12 _ ?_ ?_ ?_ ?_ ?_ (by omega) (by omega) (by omega)).mono ?_
  all_goals try (simp [go_sem]; done)
  rintro e w1 ⟨rfl, rfl⟩
  go_wp2_with (fail)
  refine (split_yes _ _ 2 3 12 3 _ ?_ ?_ ?_ ?_ ?_ (by omega) (by omega) (by omega) (by omega) (by omega)).mono ?_
  all_goals try (simp [go_sem]; done)
  rintro e w1 ⟨rfl, rfl⟩
  go_wp2_with (fail)
  refine (take_yes _ _ 9 9 12 _ ?_ ?_ ?_ ?_ ?_ (by omega) (by omega) (by omega)).mono ?_
  all_goals try (simp [go_sem]; done)
  rintro e w1 ⟨rfl, rfl⟩
  go_wp2_with (go_at_call 9; refine (left_any _ _ _ (by omega) (by omega) _).mono ?_; rintro e w1 ⟨rfl, rfl⟩)
  go_ret
  refine ⟨ret_true rfl, ?_⟩
  go_light
  repeat (first | exact Below.refl _ _ | (refine Below.alloc ?_ (by first | omega | (simp; done) | (simp; omega)) _) | refine Below.drew ?_)

theorem lawNew (lo n : Int) (h0 : 0 ≤ lo) (h1 : lo < 18446744073709551616) (h2 : -9223372036854775808 ≤ n) (h3 : n ≤ 9223372036854775807) (w : World) :
    Calls Try.prog 3 #[.int .u64 lo, .int .i64 n] w fun e w' => e = .returned (.bool true) ∧ Below w.heap.size w w' := by
  by_cases h : lo < 1 ∨ 4194304 < lo ∨ n < 0 ∨ 4194304 - lo < n
  · go_enter Try.func3, Try.ntmps3
    go_wp2_with (fail)
    refine (fit_any _).mono ?_
    rintro e w1 ⟨rfl, hb1⟩
    go_wp2_with (fail)
    refine (new_no lo n h0 h1 h2 h3 h _).mono ?_
    rintro e w2 ⟨rfl, rfl⟩
    go_wp2_with (go_at_call 9; refine (left_any _ _ _ (by omega) (by omega) _).mono ?_; rintro e w1 ⟨rfl, rfl⟩)
    all_goals go_ret
    all_goals refine ⟨ret_true (by first | (simp; done) | (simp; omega)), ?_⟩
    all_goals go_light
    all_goals have hz := hb1.size
    all_goals (repeat (first | exact Below.refl _ _ | exact hb1 | (refine Below.alloc ?_ (by first | omega | (simp; done) | (simp; omega)) _) | refine Below.drew ?_))
  · go_enter Try.func3, Try.ntmps3
    go_wp2_with (fail)
    refine (fit_any _).mono ?_
    rintro e w1 ⟨rfl, hb1⟩
    go_wp2_with (fail)
    refine (new_yes lo n (by omega) (by omega) (by omega) (by omega) _).mono ?_
    rintro e w2 ⟨rfl, rfl⟩
    go_wp2_with (go_at_call 9; refine (left_any _ _ _ (by omega) (by omega) _).mono ?_; rintro e w1 ⟨rfl, rfl⟩)
    all_goals go_ret
    all_goals refine ⟨ret_true (by first | (simp; done) | (simp; omega)), ?_⟩
    all_goals go_light
    all_goals have hz := hb1.size
    all_goals (repeat (first | exact Below.refl _ _ | exact hb1 | (refine Below.alloc ?_ (by first | omega | (simp; done) | (simp; omega)) _) | refine Below.drew ?_))

theorem lawRight (a b c name : Int) (w : World) :
    Calls Try.prog 6 #[.int .u64 a, .int .u64 b, .agg #[.int .u64 c, .int .u64 name]] w fun e w' => e = .returned (.bool true) ∧ Below w.heap.size w w' := by
  by_cases h : a < 1 ∨ b < a ∨ c < b ∨ 4194304 < c
  · go_enter Try.func6, Try.ntmps6
    go_wp2_with (first | (go_at_call 7; refine (fit_any _).mono ?_; rintro e w1 ⟨rfl, hb1⟩; obtain ⟨hc1, hf1⟩ := bcell hb1) | (go_at_call 13; refine (right_no _ _ _ h _).mono ?_; rintro e w2 ⟨rfl, rfl⟩) | (go_at_call 12; refine (given_any _ _ _ _ _).mono ?_; rintro e w3 ⟨rfl, rfl⟩))
    go_region
    go_wp2_with (first | (go_at_call 13; refine (right_no _ _ _ h _).mono ?_; rintro e w2 ⟨rfl, rfl⟩) | (go_at_call 12; refine (given_any _ _ _ _ _).mono ?_; rintro e w3 ⟨rfl, rfl⟩))
    all_goals go_ret
    all_goals refine ⟨ret_true (by first | (simp; done) | (simp; omega)), ?_⟩
    all_goals go_light
    all_goals (have hz := hb1.size; simp only [World.size_alloc] at hz)
    all_goals (repeat (first | exact Below.refl _ _ | (refine Below.alloc ?_ (by first | omega | (simp; done) | (simp; omega)) _) | refine Below.drew ?_ | (refine Below.trans ?_ (hb1.mono (by first | omega | (simp; done) | (simp; omega))))))
  · have h1 : 1 ≤ a := by omega
    have h2 : a ≤ b := by omega
    have h3 : b ≤ c := by omega
    have h4 : c ≤ 4194304 := by omega
    clear h
    go_enter Try.func6, Try.ntmps6
    go_wp2_with (first | (go_at_call 7; refine (fit_any _).mono ?_; rintro e w1 ⟨rfl, hb1⟩; obtain ⟨hc1, hf1⟩ := bcell hb1) | (go_at_call 13; refine (right_yes _ _ _ h1 h2 h3 h4 _).mono ?_; rintro e w2 ⟨rfl, rfl⟩) | (go_at_call 12; refine (given_any _ _ _ _ _).mono ?_; rintro e w3 ⟨rfl, rfl⟩))
    go_region
    go_wp2_with (first | (go_at_call 13; refine (right_yes _ _ _ h1 h2 h3 h4 _).mono ?_; rintro e w2 ⟨rfl, rfl⟩) | (go_at_call 12; refine (given_any _ _ _ _ _).mono ?_; rintro e w3 ⟨rfl, rfl⟩))
    all_goals go_ret
    all_goals refine ⟨ret_true (by first | (simp; done) | (simp; omega)), ?_⟩
    all_goals go_light
    all_goals (have hz := hb1.size; simp only [World.size_alloc] at hz)
    all_goals (repeat (first | exact Below.refl _ _ | (refine Below.alloc ?_ (by first | omega | (simp; done) | (simp; omega)) _) | refine Below.drew ?_ | (refine Below.trans ?_ (hb1.mono (by first | omega | (simp; done) | (simp; omega))))))
end Go.Proofs.Ythkcpdhlpalaiaa
