/- The contracts of the functions over purses (Right, Left, Take, Back, Give, Return, Move) and of the laws' example. Conditions: those that each theorem names. -/
import Derived.Test.YteflfflmedkdiaaOpen
import Derived.IntWalk
import Derived.RegionTactic
import Derived.ChangeAlike
namespace Go.Proofs.Yteflfflmedkdiaa
open Go.ChangeShapes Go.WideShapes Go.ChangeAt Go.RowKit

/-- a purse's cells -/
abbrev puc (l u g : Int) : Obj := .cells #[.int .i64 l, .int .i64 u, .int .i64 g] 24
abbrev pu (l u g : Int) : Value := .agg #[.int .i64 l, .int .i64 u, .int .i64 g]
/-- the place of a purse, and what lies there -/
structure At (w : World) (b o : Nat) (l u g : Int) : Prop where
  hb : b < w.heap.size
  hl : w.cell? ⟨b, o, none⟩ = some (.int .i64 l)
  hu : w.cell? ⟨b, o + 1, none⟩ = some (.int .i64 u)
  hg : w.cell? ⟨b, o + 2, none⟩ = some (.int .i64 g)
  fl : w.frozen? ⟨b, o, none⟩ = false
  fu : w.frozen? ⟨b, o + 1, none⟩ = false
  fg : w.frozen? ⟨b, o + 2, none⟩ = false
/-- a purse that may be one -/
structure Just (l u g : Int) : Prop where
  l0 : l ≤ 9223372036854775807
  u0 : 0 ≤ u
  g0 : 0 ≤ g
  s0 : u + g ≤ l

theorem left_any (l u g : Int) (h : Just l u g) (w : World) :
    Calls Try.prog 9 #[pu l u g] w fun e w' => e = .returned (.int .i64 (l - u - g)) ∧ w.alloc (puc l u g) = w' := by
  obtain ⟨h1, h2, h3, h4⟩ := h
  go_enter Try.func9, Try.ntmps9
  go_wp2
  go_ret
  exact ⟨rfl, rfl⟩

theorem right_yes (l u g : Int) (h : Just l u g) (w : World) :
    Calls Try.prog 8 #[pu l u g] w fun e w' => e = .returned (.bool true) ∧ w.alloc (puc l u g) = w' := by
  obtain ⟨h1, h2, h3, h4⟩ := h
  go_enter Try.func8, Try.ntmps8
  go_wp2
  go_ret
  exact ⟨ret_true (by simp; omega), rfl⟩

theorem right_no (l u g : Int) (h : l < 0 ∨ u < 0 ∨ g < 0 ∨ l < u ∨ l - u < g) (hl : -9223372036854775808 ≤ l) (hl2 : l ≤ 9223372036854775807) (w : World) :
    Calls Try.prog 8 #[pu l u g] w fun e w' => e = .returned (.bool false) ∧ w.alloc (puc l u g) = w' := by
  by_cases c1 : l < 0
  · go_enter Try.func8, Try.ntmps8
    go_wp2
    go_ret
    exact ⟨rfl, rfl⟩
  · by_cases c2 : u < 0
    · go_enter Try.func8, Try.ntmps8
      go_wp2
      go_ret
      exact ⟨rfl, rfl⟩
    · by_cases c3 : g < 0
      · go_enter Try.func8, Try.ntmps8
        go_wp2
        go_ret
        exact ⟨rfl, rfl⟩
      · by_cases c4 : l < u
        · go_enter Try.func8, Try.ntmps8
          go_wp2
          go_ret
          exact ⟨rfl, rfl⟩
        · have c5 : l - u < g := by omega
          clear h
          go_enter Try.func8, Try.ntmps8
          go_wp2
          go_ret
          exact ⟨ret_bool (by simp; omega), rfl⟩

/-- what Take answers -/
def takeE (l u g n : Int) : Int := if n < 0 then 1 else if l - u - g < n then 5 else 0
/-- what Back answers: of what was used, or given -/
def backE (u n : Int) : Int := if n < 0 ∨ u < n then 1 else 0

theorem take_ok (b o : Nat) (l u g n : Int) (w : World) (ha : At w b o l u g) (h : Just l u g) (hn : 0 ≤ n) (hn2 : n ≤ l - u - g) :
    Calls Try.prog 11 #[.pointer (some ⟨b, o, none⟩), .int .i64 n] w fun e w' => e = .returned (.int .i64 0) ∧ (w.setCell ⟨b, o + 1, none⟩ (.int .i64 (u + n))).alloc (puc l u g) = w' := by
  have H := h
  obtain ⟨h1, h2, h3, h4⟩ := h
  obtain ⟨hb, hl, hu, hg, fl, fu, fg⟩ := ha
  go_enter Try.func11, Try.ntmps11
  go_wp2_with (go_at_call 9; refine (left_any _ _ _ H _).mono ?_; rintro e w1 ⟨rfl, rfl⟩)
  go_ret
  exact ⟨rfl, rfl⟩

theorem take_err (b o : Nat) (l u g n : Int) (w : World) (ha : At w b o l u g) (h : Just l u g) (hn : n < 0 ∨ l - u - g < n) :
    Calls Try.prog 11 #[.pointer (some ⟨b, o, none⟩), .int .i64 n] w fun e w' => e = .returned (.int .i64 (if n < 0 then 1 else 5)) ∧ Below w.heap.size w w' := by
  have H := h
  obtain ⟨h1, h2, h3, h4⟩ := h
  obtain ⟨hb, hl, hu, hg, fl, fu, fg⟩ := ha
  by_cases c : n < 0
  · rw [if_pos c]
    go_enter Try.func11, Try.ntmps11
    go_wp2_with (go_at_call 9; refine (left_any _ _ _ H _).mono ?_; rintro e w1 ⟨rfl, rfl⟩)
    go_ret
    exact ⟨rfl, by repeat (first | exact Below.refl _ _ | (refine Below.alloc ?_ (by first | omega | (simp; done) | (simp; omega)) _))⟩
  · rw [if_neg c]
    have c2 : l - u - g < n := by omega
    clear hn
    go_enter Try.func11, Try.ntmps11
    go_wp2_with (go_at_call 9; refine (left_any _ _ _ H _).mono ?_; rintro e w1 ⟨rfl, rfl⟩)
    go_ret
    exact ⟨rfl, by repeat (first | exact Below.refl _ _ | (refine Below.alloc ?_ (by first | omega | (simp; done) | (simp; omega)) _))⟩

theorem give_ok (b o : Nat) (l u g n : Int) (w : World) (ha : At w b o l u g) (h : Just l u g) (hn : 0 ≤ n) (hn2 : n ≤ l - u - g) :
    Calls Try.prog 10 #[.pointer (some ⟨b, o, none⟩), .int .i64 n] w fun e w' => e = .returned (.tuple #[pu n 0 0, .int .i64 0]) ∧ ((w.setCell ⟨b, o + 2, none⟩ (.int .i64 (g + n))).alloc (puc n 0 0)).alloc (puc l u g) = w' := by
  have H := h
  obtain ⟨h1, h2, h3, h4⟩ := h
  obtain ⟨hb, hl, hu, hg, fl, fu, fg⟩ := ha
  go_enter Try.func10, Try.ntmps10
  go_wp2_with (go_at_call 9; refine (left_any _ _ _ H _).mono ?_; rintro e w1 ⟨rfl, rfl⟩)
  exact bodyPost_ret (v := .tuple #[pu n 0 0, .int .i64 0]) (by simp [results, Try.results10, go_sem]) rfl ⟨rfl, rfl⟩

theorem give_err (b o : Nat) (l u g n : Int) (w : World) (ha : At w b o l u g) (h : Just l u g) (hn : n < 0 ∨ l - u - g < n) :
    Calls Try.prog 10 #[.pointer (some ⟨b, o, none⟩), .int .i64 n] w fun e w' => e = .returned (.tuple #[pu 0 0 0, .int .i64 (if n < 0 then 1 else 5)]) ∧ Below w.heap.size w w' := by
  have H := h
  obtain ⟨h1, h2, h3, h4⟩ := h
  obtain ⟨hb, hl, hu, hg, fl, fu, fg⟩ := ha
  by_cases c : n < 0
  · rw [if_pos c]
    go_enter Try.func10, Try.ntmps10
    go_wp2_with (go_at_call 9; refine (left_any _ _ _ H _).mono ?_; rintro e w1 ⟨rfl, rfl⟩)
    exact bodyPost_ret (v := .tuple #[pu 0 0 0, .int .i64 1]) (by simp [results, Try.results10, go_sem]) rfl ⟨rfl, by repeat (first | exact Below.refl _ _ | (refine Below.alloc ?_ (by first | omega | (simp; done) | (simp; omega)) _))⟩
  · rw [if_neg c]
    have c2 : l - u - g < n := by omega
    clear hn
    go_enter Try.func10, Try.ntmps10
    go_wp2_with (go_at_call 9; refine (left_any _ _ _ H _).mono ?_; rintro e w1 ⟨rfl, rfl⟩)
    exact bodyPost_ret (v := .tuple #[pu 0 0 0, .int .i64 5]) (by simp [results, Try.results10, go_sem]) rfl ⟨rfl, by repeat (first | exact Below.refl _ _ | (refine Below.alloc ?_ (by first | omega | (simp; done) | (simp; omega)) _))⟩

theorem back_ok (b o : Nat) (l u g n : Int) (w : World) (ha : At w b o l u g) (hu2 : u ≤ 9223372036854775807) (hn : 0 ≤ n) (hn2 : n ≤ u) :
    Calls Try.prog 14 #[.pointer (some ⟨b, o, none⟩), .int .i64 n] w fun e w' => e = .returned (.int .i64 0) ∧ w.setCell ⟨b, o + 1, none⟩ (.int .i64 (u - n)) = w' := by
  obtain ⟨hb, hl, hu, hg, fl, fu, fg⟩ := ha
  go_enter Try.func14, Try.ntmps14
  go_wp2
  go_ret
  exact ⟨rfl, rfl⟩

theorem back_err (b o : Nat) (l u g n : Int) (w : World) (ha : At w b o l u g) (hn : n < 0 ∨ u < n) :
    Calls Try.prog 14 #[.pointer (some ⟨b, o, none⟩), .int .i64 n] w fun e w' => e = .returned (.int .i64 1) ∧ w = w' := by
  obtain ⟨hb, hl, hu, hg, fl, fu, fg⟩ := ha
  by_cases c : n < 0
  · go_enter Try.func14, Try.ntmps14
    go_wp2
    go_ret
    exact ⟨rfl, rfl⟩
  · have c2 : u < n := by omega
    clear hn
    go_enter Try.func14, Try.ntmps14
    go_wp2
    go_ret
    exact ⟨rfl, rfl⟩

theorem return_ok (b o : Nat) (l u g n : Int) (w : World) (ha : At w b o l u g) (hu2 : g ≤ 9223372036854775807) (hn : 0 ≤ n) (hn2 : n ≤ g) :
    Calls Try.prog 13 #[.pointer (some ⟨b, o, none⟩), .int .i64 n] w fun e w' => e = .returned (.int .i64 0) ∧ w.setCell ⟨b, o + 2, none⟩ (.int .i64 (g - n)) = w' := by
  obtain ⟨hb, hl, hu, hg, fl, fu, fg⟩ := ha
  go_enter Try.func13, Try.ntmps13
  go_wp2
  go_ret
  exact ⟨rfl, rfl⟩

theorem return_err (b o : Nat) (l u g n : Int) (w : World) (ha : At w b o l u g) (hn : n < 0 ∨ g < n) :
    Calls Try.prog 13 #[.pointer (some ⟨b, o, none⟩), .int .i64 n] w fun e w' => e = .returned (.int .i64 1) ∧ w = w' := by
  obtain ⟨hb, hl, hu, hg, fl, fu, fg⟩ := ha
  by_cases c : n < 0
  · go_enter Try.func13, Try.ntmps13
    go_wp2
    go_ret
    exact ⟨rfl, rfl⟩
  · have c2 : g < n := by omega
    clear hn
    go_enter Try.func13, Try.ntmps13
    go_wp2
    go_ret
    exact ⟨rfl, rfl⟩

theorem move_ok (b o c q : Nat) (l u g l2 u2 g2 n : Int) (w : World) (ha : At w b o l u g) (h : Just l u g) (hc : At w c q l2 u2 g2) (k : Just l2 u2 g2)
    (hx : ∀ x, (w.setCell ⟨b, o + 2, none⟩ x).cell? ⟨c, q, none⟩ = some (.int .i64 l2)) (hn : n ≤ l - u - g) (hn2 : - n ≤ l2 - u2 - g2) (hn3 : l2 + n ≤ 9223372036854775807) :
    Calls Try.prog 12 #[.pointer (some ⟨b, o, none⟩), .pointer (some ⟨c, q, none⟩), .int .i64 n] w fun e w' => e = .returned (.int .i64 0) ∧ (((w.setCell ⟨b, o + 2, none⟩ (.int .i64 (g + n))).setCell ⟨c, q, none⟩ (.int .i64 (l2 + n))).alloc (puc l u g)).alloc (puc l2 u2 g2) = w' := by
  have H := h
  have K := k
  obtain ⟨h1, h2, h3, h4⟩ := h
  obtain ⟨j1, j2, j3, j4⟩ := k
  obtain ⟨hb, hl, hu, hg, fl, fu, fg⟩ := ha
  obtain ⟨xb, xl, xu, xg, yl, yu, yg⟩ := hc
  by_cases c0 : n = 0
  · subst c0
    go_enter Try.func12, Try.ntmps12
    go_wp2_with fail
    refine (left_any l u g H _).mono ?_
    rintro e w1 ⟨rfl, rfl⟩
    go_wp2_with fail
    refine (left_any l2 u2 g2 K _).mono ?_
    rintro e w1 ⟨rfl, rfl⟩
    go_wp2_with fail
    go_ret
    exact ⟨rfl, by simp⟩
  · have hnn : (n == -n) = false := by simp; omega
    have hnz : (n != 0) = true := by simp; omega
    clear c0
    go_enter Try.func12, Try.ntmps12
    go_wp2_with fail
    refine (left_any l u g H _).mono ?_
    rintro e w1 ⟨rfl, rfl⟩
    go_wp2_with fail
    refine (left_any l2 u2 g2 K _).mono ?_
    rintro e w1 ⟨rfl, rfl⟩
    go_wp2_with fail
    go_ret
    exact ⟨rfl, rfl⟩

/-- the least number is its own opposite -/
theorem move_over (b o c q : Nat) (n : Int) (hw : wrap64 (-n) = n) (hnz : (n != 0) = true) (w : World) :
    Calls Try.prog 12 #[.pointer (some ⟨b, o, none⟩), .pointer (some ⟨c, q, none⟩), .int .i64 n] w fun e w' => e = .returned (.int .i64 11) ∧ w = w' := by
  go_enter Try.func12, Try.ntmps12
  go_wp2_with fail
  go_ret
  exact ⟨rfl, rfl⟩

theorem move_quota (b o c q : Nat) (l u g l2 u2 g2 n : Int) (w : World) (ha : At w b o l u g) (h : Just l u g) (hc : At w c q l2 u2 g2) (k : Just l2 u2 g2)
    (h0 : -9223372036854775808 < n) (h00 : n ≤ 9223372036854775807) (hn : l - u - g < n ∨ l2 - u2 - g2 < - n) :
    Calls Try.prog 12 #[.pointer (some ⟨b, o, none⟩), .pointer (some ⟨c, q, none⟩), .int .i64 n] w fun e w' => e = .returned (.int .i64 5) ∧ Below w.heap.size w w' := by
  have H := h
  have K := k
  obtain ⟨h1, h2, h3, h4⟩ := h
  obtain ⟨j1, j2, j3, j4⟩ := k
  obtain ⟨hb, hl, hu, hg, fl, fu, fg⟩ := ha
  obtain ⟨xb, xl, xu, xg, yl, yu, yg⟩ := hc
  have hnn : (n == -n) = false := by simp; omega
  have hnz : (n != 0) = true := by simp; omega
  by_cases c1 : l - u - g < n
  · clear hn
    go_enter Try.func12, Try.ntmps12
    go_wp2_with fail
    refine (left_any l u g H _).mono ?_
    rintro e w1 ⟨rfl, rfl⟩
    go_wp2_with fail
    go_ret
    exact ⟨rfl, by repeat (first | exact Below.refl _ _ | (refine Below.alloc ?_ (by first | omega | (simp; done) | (simp; omega)) _))⟩
  · have c2 : l2 - u2 - g2 < - n := by omega
    clear hn
    go_enter Try.func12, Try.ntmps12
    go_wp2_with fail
    refine (left_any l u g H _).mono ?_
    rintro e w1 ⟨rfl, rfl⟩
    go_wp2_with fail
    refine (left_any l2 u2 g2 K _).mono ?_
    rintro e w1 ⟨rfl, rfl⟩
    go_wp2_with fail
    go_ret
    exact ⟨rfl, by repeat (first | exact Below.refl _ _ | (refine Below.alloc ?_ (by first | omega | (simp; done) | (simp; omega)) _))⟩

theorem fit_any (w : World) : Calls Try.prog 7 #[] w fun e w' => e = .returned (.bool true) ∧ Below w.heap.size w w' := by
  have J10 : Just 10 0 0 := ⟨by omega, by omega, by omega, by omega⟩
  have J14 : Just 10 4 0 := ⟨by omega, by omega, by omega, by omega⟩
  have J16 : Just 10 4 6 := ⟨by omega, by omega, by omega, by omega⟩
  go_enter Try.func7, Try.ntmps7
  go_wp2_with fail
  refine (take_ok _ _ 10 0 0 4 _ ⟨?_, ?_, ?_, ?_, ?_, ?_, ?_⟩ J10 (by omega) (by omega)).mono ?_
  all_goals try (simp [go_sem]; done)
  rintro e w1 ⟨rfl, rfl⟩
  go_wp2_with fail
  refine (give_ok _ _ 10 4 0 6 _ ⟨?_, ?_, ?_, ?_, ?_, ?_, ?_⟩ J14 (by omega) (by omega)).mono ?_
  all_goals try (simp [go_sem]; done)
  rintro e w1 ⟨rfl, rfl⟩
  go_wp2_with fail
  refine (take_err _ _ 10 4 6 1 _ ⟨?_, ?_, ?_, ?_, ?_, ?_, ?_⟩ J16 (by omega)).mono ?_
  all_goals try (simp [go_sem]; done)
  rintro e w1 ⟨rfl, hb1⟩
  obtain ⟨hc1, hf1⟩ := bcell hb1
  go_wp2_with fail
  refine (right_yes _ _ _ J16 _).mono ?_
  rintro e w1 ⟨rfl, rfl⟩
  go_wp2_with fail
  go_ret
  refine ⟨rfl, ?_⟩
  go_light
  have hz := hb1.size
  simp only [World.size_alloc] at hz
  repeat (first | exact Below.refl _ _ | (refine Below.alloc ?_ (by first | omega | (simp; done) | (simp; omega)) _) | refine Below.drew ?_ | (refine Below.trans ?_ (hb1.mono (by first | omega | (simp; done) | (simp; omega)))))

theorem lawRight (a b c : Int) (ha : -9223372036854775808 ≤ a) (ha2 : a ≤ 9223372036854775807) (w : World) :
    Calls Try.prog 3 #[.int .i64 a, .int .i64 b, .int .i64 c] w fun e w' => e = .returned (.bool true) ∧ Below w.heap.size w w' := by
  by_cases h : a < 0 ∨ b < 0 ∨ c < 0 ∨ a < b ∨ a - b < c
  · go_enter Try.func3, Try.ntmps3
    go_wp2_with (first | (go_at_call 7; refine (fit_any _).mono ?_; rintro e w1 ⟨rfl, hb1⟩; obtain ⟨hc1, hf1⟩ := bcell hb1) | (go_at_call 8; refine (right_no _ _ _ h ha ha2 _).mono ?_; rintro e w2 ⟨rfl, rfl⟩))
    all_goals go_ret
    all_goals refine ⟨ret_true (by first | (simp; done) | (simp; omega)), ?_⟩
    all_goals go_light
    all_goals have hz := hb1.size
    all_goals (repeat (first | exact Below.refl _ _ | exact hb1 | (refine Below.alloc ?_ (by first | omega | (simp; done) | (simp; omega)) _) | refine Below.drew ?_))
  · have J : Just a b c := ⟨by omega, by omega, by omega, by omega⟩
    have h0 : 0 ≤ a := by omega
    have h1 : 0 ≤ b := by omega
    have h2 : 0 ≤ c := by omega
    have h3 : b ≤ a := by omega
    have h4 : c ≤ a - b := by omega
    have h5 : 0 ≤ a - b - c := by omega
    clear h
    go_enter Try.func3, Try.ntmps3
    go_wp2_with (first | (go_at_call 7; refine (fit_any _).mono ?_; rintro e w1 ⟨rfl, hb1⟩; obtain ⟨hc1, hf1⟩ := bcell hb1) | (go_at_call 8; refine (right_yes _ _ _ J _).mono ?_; rintro e w2 ⟨rfl, rfl⟩) | (go_at_call 9; refine (left_any _ _ _ J _).mono ?_; rintro e w3 ⟨rfl, rfl⟩))
    all_goals go_ret
    all_goals refine ⟨ret_true (by first | (simp; done) | (simp; omega)), ?_⟩
    all_goals go_light
    all_goals have hz := hb1.size
    all_goals (repeat (first | exact Below.refl _ _ | exact hb1 | (refine Below.alloc ?_ (by first | omega | (simp; done) | (simp; omega)) _) | refine Below.drew ?_))
end Go.Proofs.Yteflfflmedkdiaa
