/- The walk of the law PurseWays: whatever the three numbers, the law returns true and changes nothing that existed. Conditions: the numbers fit their kind. -/
import Derived.Test.YteflfflmedkdiaaPurseWalks
import Derived.WalkSpells
namespace Go.Proofs.Yteflfflmedkdiaa
open Go.ChangeShapes Go.WideShapes Go.ChangeAt Go.RowKit

theorem and_mask (x : Int) (m : Nat) (hm : m < 9223372036854775808) : ∃ L : Int, bits .and .i64 x m = L ∧ 0 ≤ L ∧ L ≤ m := by
  have e : bits .and .i64 x m = ((BitVec.ofInt 64 x).toNat &&& m : Nat) := by
    show IntKind.i64.wrap ((BitVec.ofInt 64 x &&& BitVec.ofInt 64 (m : Int)).toNat : Int) = _
    have hm2 : (BitVec.ofInt 64 (m : Int)).toNat = m := by
      rw [BitVec.ofInt_natCast, BitVec.toNat_ofNat]; exact Nat.mod_eq_of_lt (by omega)
    rw [BitVec.toNat_and, hm2, IntKind.wrap_i64]
    have := Nat.and_le_right (n := (BitVec.ofInt 64 x).toNat) (m := m)
    omega
  have := Nat.and_le_right (n := (BitVec.ofInt 64 x).toNat) (m := m)
  exact ⟨_, e, by omega, by omega⟩

theorem lt_more {a b : Nat} (h : a < b) : a < b ∧ a < b + 1 ∧ a < b + 1 + 1 ∧ a < b + 1 + 1 + 1 := by omega

theorem give_quota (b o : Nat) (l u g n : Int) (w : World) (ha : At w b o l u g) (h : Just l u g) (hn : 0 ≤ n) (hn2 : l - u - g < n) :
    Calls Try.prog 10 #[.pointer (some ⟨b, o, none⟩), .int .i64 n] w fun e w' => e = .returned (.tuple #[pu 0 0 0, .int .i64 5]) ∧ Below w.heap.size w w' := by
  have H := give_err b o l u g n w ha h (.inr hn2)
  rw [if_neg (by omega)] at H
  exact H
theorem take_quota (b o : Nat) (l u g n : Int) (w : World) (ha : At w b o l u g) (h : Just l u g) (hn : 0 ≤ n) (hn2 : l - u - g < n) :
    Calls Try.prog 11 #[.pointer (some ⟨b, o, none⟩), .int .i64 n] w fun e w' => e = .returned (.int .i64 5) ∧ Below w.heap.size w w' := by
  have H := take_err b o l u g n w ha h (.inr hn2)
  rw [if_neg (by omega)] at H
  exact H

theorem move_ok2 (b o c q : Nat) (l u g l2 u2 g2 n g3 l3 : Int) (e1 : g + n = g3) (e2 : l2 + n = l3) (w : World) (ha : At w b o l u g) (h : Just l u g) (hc : At w c q l2 u2 g2) (k : Just l2 u2 g2)
    (hx : ∀ x, (w.setCell ⟨b, o + 2, none⟩ x).cell? ⟨c, q, none⟩ = some (.int .i64 l2)) (hn : n ≤ l - u - g) (hn2 : - n ≤ l2 - u2 - g2) (hn3 : l2 + n ≤ 9223372036854775807) :
    Calls Try.prog 12 #[.pointer (some ⟨b, o, none⟩), .pointer (some ⟨c, q, none⟩), .int .i64 n] w fun e w' => e = .returned (.int .i64 0) ∧ (((w.setCell ⟨b, o + 2, none⟩ (.int .i64 g3)).setCell ⟨c, q, none⟩ (.int .i64 l3)).alloc (puc l u g)).alloc (puc l2 u2 g2) = w' := by
  subst e1 e2
  exact move_ok b o c q l u g l2 u2 g2 n w ha h hc k hx hn hn2 hn3
theorem take_ok2 (b o : Nat) (l u g n u3 : Int) (e1 : u + n = u3) (w : World) (ha : At w b o l u g) (h : Just l u g) (hn : 0 ≤ n) (hn2 : n ≤ l - u - g) :
    Calls Try.prog 11 #[.pointer (some ⟨b, o, none⟩), .int .i64 n] w fun e w' => e = .returned (.int .i64 0) ∧ (w.setCell ⟨b, o + 1, none⟩ (.int .i64 u3)).alloc (puc l u g) = w' := by
  subst e1
  exact take_ok b o l u g n w ha h hn hn2
theorem return_ok2 (b o : Nat) (l u g n g3 : Int) (e1 : g - n = g3) (w : World) (ha : At w b o l u g) (hu2 : g ≤ 9223372036854775807) (hn : 0 ≤ n) (hn2 : n ≤ g) :
    Calls Try.prog 13 #[.pointer (some ⟨b, o, none⟩), .int .i64 n] w fun e w' => e = .returned (.int .i64 0) ∧ w.setCell ⟨b, o + 2, none⟩ (.int .i64 g3) = w' := by
  subst e1
  exact return_ok b o l u g n w ha hu2 hn hn2
theorem left_to (l u g d : Int) (e1 : l - u - g = d) (h : Just l u g) (w : World) :
    Calls Try.prog 9 #[pu l u g] w fun e w' => e = .returned (.int .i64 d) ∧ w.alloc (puc l u g) = w' := by
  subst e1
  exact left_any l u g h w

theorem ways_err (l0 g0 n L G : Int) (hl : bits .and .i64 l0 1073741823 = L) (hg : bits .and .i64 g0 1073741823 = G) (a0 : 0 ≤ L) (a1 : L ≤ 1073741823) (b0 : 0 ≤ G) (_b1 : G ≤ 1073741823) (h : L < G) (w : World) :
    Calls Try.prog 5 #[.int .i64 l0, .int .i64 g0, .int .i64 n] w fun e w' => e = .returned (.bool true) ∧ Below w.heap.size w w' := by
  have J : Just L 0 0 := ⟨by omega, by omega, by omega, by omega⟩
  go_enter Try.func5, Try.ntmps5
  go_wp2_with fail
  refine (fit_any _).mono ?_
  rintro e w1 ⟨rfl, hb1⟩
  obtain ⟨hc1, hf1⟩ := bcell hb1
  have hz := hb1.size
  go_wp2_with fail
  refine (give_quota _ _ L 0 0 G _ ⟨?_, ?_, ?_, ?_, ?_, ?_, ?_⟩ J b0 (by omega)).mono ?_
  all_goals try (simp [go_sem]; done)
  rintro e w2 ⟨rfl, hb2⟩
  obtain ⟨hc2, hf2⟩ := bcell hb2
  have hz2 := hb2.size
  simp only [World.size_alloc] at hz2
  obtain ⟨i1, i2, i3, i4, i5⟩ := lt_far hz2
  go_wp2_with fail
  all_goals go_ret
  all_goals refine ⟨ret_true (by first | rfl | (simp; done) | (simp; omega)), ?_⟩
  all_goals go_light
  all_goals (repeat (first | exact Below.refl _ _ | exact hb1 | (refine Below.alloc ?_ (by first | omega | (simp; done) | (simp; omega)) _) | refine Below.drew ?_ | (refine Below.setCell ?_ (by first | omega | (simp; done) | (simp; omega)) _) | (refine Below.trans ?_ (hb2.mono (by first | omega | (simp; done) | (simp; omega))))))

theorem ways_bad (l0 g0 n L G : Int) (hl : bits .and .i64 l0 1073741823 = L) (hg : bits .and .i64 g0 1073741823 = G) (a0 : 0 ≤ L) (a1 : L ≤ 1073741823) (b0 : 0 ≤ G) (b1 : G ≤ 1073741823) (h : G ≤ L) 
    (h0 : -9223372036854775808 < n) (h00 : n ≤ 9223372036854775807) (hn : L - G < n ∨ G < - n) (w : World) :
    Calls Try.prog 5 #[.int .i64 l0, .int .i64 g0, .int .i64 n] w fun e w' => e = .returned (.bool true) ∧ Below w.heap.size w w' := by
  have J : Just L 0 0 := ⟨by omega, by omega, by omega, by omega⟩
  have JP : Just L 0 G := ⟨by omega, by omega, by omega, by omega⟩
  have JQ : Just G 0 0 := ⟨by omega, by omega, by omega, by omega⟩
  go_enter Try.func5, Try.ntmps5
  go_wp2_with fail
  refine (fit_any _).mono ?_
  rintro e w1 ⟨rfl, hb1⟩
  obtain ⟨hc1, hf1⟩ := bcell hb1
  have hz := hb1.size
  go_wp2_with fail
  refine (give_ok _ _ L 0 0 G _ ⟨?_, ?_, ?_, ?_, ?_, ?_, ?_⟩ J b0 (by omega)).mono ?_
  all_goals try (simp [go_sem]; done)
  rintro e w2 ⟨rfl, rfl⟩
  go_wp2_with fail
  go_region
  all_goals
    go_wp2_with fail
    refine (move_quota _ _ _ _ L 0 G G 0 0 n _ ⟨?_, ?_, ?_, ?_, ?_, ?_, ?_⟩ JP ⟨?_, ?_, ?_, ?_, ?_, ?_, ?_⟩ JQ h0 h00 (by omega)).mono ?_
    all_goals try (simp [go_sem]; done)
    rintro e w2 ⟨rfl, hb2⟩
    obtain ⟨hc2, hf2⟩ := bcell hb2
    have hz2 := hb2.size
    simp only [World.size_alloc, World.size_drew] at hz2
    obtain ⟨i1, i2, i3, i4, i5⟩ := lt_far hz2
    go_wp2_with fail
    all_goals go_ret
    all_goals refine ⟨ret_true (by first | rfl | (simp; done) | (simp; omega)), ?_⟩
    all_goals go_light
    all_goals (repeat (first | exact Below.refl _ _ | exact hb1 | (refine Below.alloc ?_ (by first | omega | (simp; done) | (simp; omega)) _) | refine Below.drew ?_ | (refine Below.setCell ?_ (by first | omega | (simp; done) | (simp; omega)) _) | (refine Below.trans ?_ (hb2.mono (by first | omega | (simp; done) | (simp; omega))))))
theorem ways_over (l0 g0 n L G : Int) (hl : bits .and .i64 l0 1073741823 = L) (hg : bits .and .i64 g0 1073741823 = G) (a0 : 0 ≤ L) (a1 : L ≤ 1073741823) (b0 : 0 ≤ G) (b1 : G ≤ 1073741823) (h : G ≤ L) 
    (hw : wrap64 (-n) = n) (hnz : (n != 0) = true) (hn : n < - G) (hn2 : n ≤ L - G) (w : World) :
    Calls Try.prog 5 #[.int .i64 l0, .int .i64 g0, .int .i64 n] w fun e w' => e = .returned (.bool true) ∧ Below w.heap.size w w' := by
  have J : Just L 0 0 := ⟨by omega, by omega, by omega, by omega⟩
  go_enter Try.func5, Try.ntmps5
  go_wp2_with fail
  refine (fit_any _).mono ?_
  rintro e w1 ⟨rfl, hb1⟩
  obtain ⟨hc1, hf1⟩ := bcell hb1
  have hz := hb1.size
  go_wp2_with fail
  refine (give_ok _ _ L 0 0 G _ ⟨?_, ?_, ?_, ?_, ?_, ?_, ?_⟩ J b0 (by omega)).mono ?_
  all_goals try (simp [go_sem]; done)
  rintro e w2 ⟨rfl, rfl⟩
  go_wp2_with fail
  go_region
  all_goals
    go_wp2_with fail
    refine (move_over _ _ _ _ n hw hnz _).mono ?_
    rintro e w2 ⟨rfl, rfl⟩
    go_wp2_with fail
    all_goals go_ret
    all_goals refine ⟨ret_true (by first | rfl | (simp; done) | (simp; omega)), ?_⟩
    all_goals go_light
    all_goals (repeat (first | exact Below.refl _ _ | exact hb1 | (refine Below.alloc ?_ (by first | omega | (simp; done) | (simp; omega)) _) | refine Below.drew ?_ | (refine Below.setCell ?_ (by first | omega | (simp; done) | (simp; omega)) _)))
set_option maxHeartbeats 4000000 in
theorem ways_ok (l0 g0 n L G : Int) (hl : bits .and .i64 l0 1073741823 = L) (hg : bits .and .i64 g0 1073741823 = G) (a0 : 0 ≤ L) (a1 : L ≤ 1073741823) (b0 : 0 ≤ G) (b1 : G ≤ 1073741823) (h : G ≤ L)
    (hn : n ≤ L - G) (hn2 : - n ≤ G) (w : World) :
    Calls Try.prog 5 #[.int .i64 l0, .int .i64 g0, .int .i64 n] w fun e w' => e = .returned (.bool true) ∧ Below w.heap.size w w' := by
  have J : Just L 0 0 := ⟨by omega, by omega, by omega, by omega⟩
  have JP : Just L 0 G := ⟨by omega, by omega, by omega, by omega⟩
  have JQ : Just G 0 0 := ⟨by omega, by omega, by omega, by omega⟩
  have JP2 : Just L 0 (G + n) := ⟨by omega, by omega, by omega, by omega⟩
  have JQ2 : Just (G + n) 0 0 := ⟨by omega, by omega, by omega, by omega⟩
  have JP3 : Just L (L - G) G := ⟨by omega, by omega, by omega, by omega⟩
  have JQ3 : Just G G 0 := ⟨by omega, by omega, by omega, by omega⟩
  go_enter Try.func5, Try.ntmps5
  go_wp2_with fail
  refine (fit_any _).mono ?_
  rintro e w1 ⟨rfl, hb1⟩
  obtain ⟨hc1, hf1⟩ := bcell hb1
  have hz := hb1.size
  go_wp2_with fail
  refine (give_ok _ _ L 0 0 G _ ⟨?_, ?_, ?_, ?_, ?_, ?_, ?_⟩ J b0 (by omega)).mono ?_
  all_goals try (simp [go_sem]; done)
  rintro e w2 ⟨rfl, rfl⟩
  go_wp2_with fail
  go_region
  all_goals
    go_wp2_with fail
    refine (move_ok _ _ _ _ L 0 G G 0 0 n _ ⟨?_, ?_, ?_, ?_, ?_, ?_, ?_⟩ JP ⟨?_, ?_, ?_, ?_, ?_, ?_, ?_⟩ JQ ?_ (by omega) (by omega) (by omega)).mono ?_
    all_goals try (simp [go_sem]; done)
    rintro e w2 ⟨rfl, rfl⟩
    go_wp2_with fail
    refine (left_to L 0 (G + n) (L - G - n) (by omega) JP2 _).mono ?_
    all_goals try (first | (simp [go_sem, *]; done) | exact World.cell?_setCell_same' _ _ _ (by simp [go_sem, *]; done) | (simp; omega))
    rintro e w2 ⟨rfl, rfl⟩
    go_wp2_with fail
    refine (left_to (G + n) 0 0 (G + n) (by omega) JQ2 _).mono ?_
    all_goals try (first | (simp [go_sem, *]; done) | exact World.cell?_setCell_same' _ _ _ (by simp [go_sem, *]; done) | (simp; omega))
    rintro e w2 ⟨rfl, rfl⟩
    go_wp2_with fail
    refine (move_ok2 _ _ _ _ L 0 (G + n) (G + n) 0 0 (-n) G G (by omega) (by omega) _ ⟨?_, ?_, ?_, ?_, ?_, ?_, ?_⟩ JP2 ⟨?_, ?_, ?_, ?_, ?_, ?_, ?_⟩ JQ2 ?_ (by omega) (by omega) (by omega)).mono ?_
    all_goals try (first | (simp [go_sem, *]; done) | exact World.cell?_setCell_same' _ _ _ (by simp [go_sem, *]; done) | (simp; omega))
    rintro e w2 ⟨rfl, rfl⟩
    go_wp2_with fail
    refine (left_to L 0 G (L - G) (by omega) JP _).mono ?_
    all_goals try (first | (simp [go_sem, *]; done) | exact World.cell?_setCell_same' _ _ _ (by simp [go_sem, *]; done) | (simp; omega))
    rintro e w2 ⟨rfl, rfl⟩
    go_wp2_with fail
    refine (take_ok2 _ _ L 0 G (L - G) (L - G) (by omega) _ ⟨?_, ?_, ?_, ?_, ?_, ?_, ?_⟩ JP (by omega) (by omega)).mono ?_
    all_goals try (first | (simp [go_sem, *]; done) | exact World.cell?_setCell_same' _ _ _ (by simp [go_sem, *]; done) | (simp; omega))
    rintro e w2 ⟨rfl, rfl⟩
    go_wp2_with fail
    refine (left_to L (L - G) G 0 (by omega) JP3 _).mono ?_
    all_goals try (first | (simp [go_sem, *]; done) | exact World.cell?_setCell_same' _ _ _ (by simp [go_sem, *]; done) | (simp; omega))
    rintro e w2 ⟨rfl, rfl⟩
    go_wp2_with fail
    refine (move_quota _ _ _ _ L (L - G) G G 0 0 1 _ ⟨?_, ?_, ?_, ?_, ?_, ?_, ?_⟩ JP3 ⟨?_, ?_, ?_, ?_, ?_, ?_, ?_⟩ JQ (by omega) (by omega) (by omega)).mono ?_
    all_goals try (first | (simp [go_sem, *]; done) | exact World.cell?_setCell_same' _ _ _ (by simp [go_sem, *]; done) | (simp; omega))
    rintro e w3 ⟨rfl, hb3⟩
    obtain ⟨hc3, hf3⟩ := bcell hb3
    have hz3 := hb3.size
    simp only [World.size_alloc, World.size_drew] at hz3
    obtain ⟨k30, k31, k32, k33⟩ := lt_more (show w1.heap.size < w3.heap.size by omega)
    obtain ⟨q30, q31, q32, q33⟩ := lt_more (show w1.heap.size + 1 + 1 + 1 < w3.heap.size by omega)
    go_wp2_with fail
    refine (left_to G 0 0 G (by omega) JQ _).mono ?_
    all_goals try (first | (simp [go_sem, *]; done) | exact World.cell?_setCell_same' _ _ _ (by simp [go_sem, *]; done) | (simp; omega))
    rintro e w2 ⟨rfl, rfl⟩
    go_wp2_with fail
    refine (take_ok2 _ _ G 0 0 G G (by omega) _ ⟨?_, ?_, ?_, ?_, ?_, ?_, ?_⟩ JQ (by omega) (by omega)).mono ?_
    all_goals try (first | (simp [go_sem, *]; done) | exact World.cell?_setCell_same' _ _ _ (by simp [go_sem, *]; done) | (simp; omega))
    rintro e w2 ⟨rfl, rfl⟩
    go_wp2_with fail
    refine (move_quota _ _ _ _ L (L - G) G G G 0 (-1) _ ⟨?_, ?_, ?_, ?_, ?_, ?_, ?_⟩ JP3 ⟨?_, ?_, ?_, ?_, ?_, ?_, ?_⟩ JQ3 (by omega) (by omega) (by omega)).mono ?_
    all_goals try (first | (simp [go_sem, *]; done) | exact World.cell?_setCell_same' _ _ _ (by simp [go_sem, *]; done) | (simp; omega))
    rintro e w4 ⟨rfl, hb4⟩
    obtain ⟨hc4, hf4⟩ := bcell hb4
    have hz4 := hb4.size
    simp only [World.size_alloc, World.size_setCell] at hz4
    obtain ⟨k40, k41, k42, k43⟩ := lt_more (show w1.heap.size < w4.heap.size by omega)
    obtain ⟨q40, q41, q42, q43⟩ := lt_more (show w1.heap.size + 1 + 1 + 1 < w4.heap.size by omega)
    go_wp2_with fail
    refine (return_ok2 _ _ L (L - G) G G 0 (by omega) _ ⟨?_, ?_, ?_, ?_, ?_, ?_, ?_⟩ (by omega) (by omega) (by omega)).mono ?_
    all_goals try (first | (simp [go_sem, *]; done) | exact World.cell?_setCell_same' _ _ _ (by simp [go_sem, *]; done) | (simp; omega))
    rintro e w2 ⟨rfl, rfl⟩
    go_wp2_with fail
    refine (return_err _ _ L (L - G) 0 1 _ ⟨?_, ?_, ?_, ?_, ?_, ?_, ?_⟩ (by omega)).mono ?_
    all_goals try (first | (simp [go_sem, *]; done) | exact World.cell?_setCell_same' _ _ _ (by simp [go_sem, *]; done) | (simp; omega))
    rintro e w2 ⟨rfl, rfl⟩
    go_wp2_with fail
    go_ret
    refine ⟨rfl, ?_⟩
    go_light
    repeat (first | exact Below.refl _ _ | exact hb1 | (refine Below.alloc ?_ (by first | omega | (simp; done) | (simp; omega)) _) | refine Below.drew ?_ | (refine Below.setCell ?_ (by first | omega | (simp; done) | (simp; omega)) _) | (refine Below.trans ?_ (hb3.mono (by first | omega | (simp; done) | (simp; omega)))) | (refine Below.trans ?_ (hb4.mono (by first | omega | (simp; done) | (simp; omega)))))

theorem wrap_least (n : Int) (h : n = -9223372036854775808) : wrap64 (-n) = n := by
  subst h; unfold wrap64; omega

theorem lawWays (l0 g0 n : Int) (h0 : -9223372036854775808 ≤ n) (h1 : n ≤ 9223372036854775807) (w : World) :
    Calls Try.prog 5 #[.int .i64 l0, .int .i64 g0, .int .i64 n] w fun e w' => e = .returned (.bool true) ∧ Below w.heap.size w w' := by
  obtain ⟨L, hl, a0, a1⟩ := and_mask l0 1073741823 (by omega)
  obtain ⟨G, hg, b0, b1⟩ := and_mask g0 1073741823 (by omega)
  by_cases c : L < G
  · exact ways_err l0 g0 n L G hl hg a0 a1 b0 b1 c w
  · by_cases d : n = -9223372036854775808
    · exact ways_over l0 g0 n L G hl hg a0 a1 b0 b1 (by omega) (wrap_least n d) (by simp; omega) (by omega) (by omega) w
    · by_cases e : L - G < n ∨ G < - n
      · exact ways_bad l0 g0 n L G hl hg a0 a1 b0 b1 (by omega) (by omega) h1 e w
      · exact ways_ok l0 g0 n L G hl hg a0 a1 b0 b1 (by omega) (by omega) (by omega) w

end Go.Proofs.Yteflfflmedkdiaa
