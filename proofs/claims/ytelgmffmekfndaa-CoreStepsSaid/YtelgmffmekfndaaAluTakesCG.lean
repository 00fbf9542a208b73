/- The contracts of alu.Takes, Width, Place and of the reference's. Conditions: the numbers fit their kinds. -/
import Derived.Test.YtelgmffmekfndaaAluFitG
set_option linter.unusedVariables false
namespace Go.Proofs.Ytelgmffmekfndaa
open Go.ChangeShapes Go.WideShapes Go.ChangeAt Go.RowKit

theorem takes25_at (a b : Int) (a0 : 0 ≤ a) (a1 : a < 18446744073709551616) (b0 : 0 ≤ b) (b1 : b < 18446744073709551616) (w : World) : Calls Try.prog 56 #[.int .i64 25, .int .u64 a, .int .u64 b] w fun e w' => e = .returned (.bool (a == b)) ∧ w = w' := by
  go_enter Try.func56, Try.ntmps56
  go_wp2_with fail
  go_ret
  exact ⟨rfl, rfl⟩

theorem takes26_at (a b : Int) (a0 : 0 ≤ a) (a1 : a < 18446744073709551616) (b0 : 0 ≤ b) (b1 : b < 18446744073709551616) (w : World) : Calls Try.prog 56 #[.int .i64 26, .int .u64 a, .int .u64 b] w fun e w' => e = .returned (.bool (a != b)) ∧ w = w' := by
  go_enter Try.func56, Try.ntmps56
  go_wp2_with fail
  go_ret
  exact ⟨rfl, rfl⟩

theorem takes27_at (a b : Int) (a0 : 0 ≤ a) (a1 : a < 18446744073709551616) (b0 : 0 ≤ b) (b1 : b < 18446744073709551616) (w : World) : Calls Try.prog 56 #[.int .i64 27, .int .u64 a, .int .u64 b] w fun e w' => e = .returned (.bool (decide (wrap64 a < wrap64 b))) ∧ w = w' := by
  go_enter Try.func56, Try.ntmps56
  go_wp2_with fail
  go_ret
  exact ⟨rfl, rfl⟩

theorem takes28_at (a b : Int) (a0 : 0 ≤ a) (a1 : a < 18446744073709551616) (b0 : 0 ≤ b) (b1 : b < 18446744073709551616) (w : World) : Calls Try.prog 56 #[.int .i64 28, .int .u64 a, .int .u64 b] w fun e w' => e = .returned (.bool (decide (a < b))) ∧ w = w' := by
  go_enter Try.func56, Try.ntmps56
  go_wp2_with fail
  go_ret
  exact ⟨rfl, rfl⟩

theorem takes_none (op a b : Int) (h25 : (op == 25) = false) (h26 : (op == 26) = false) (h27 : (op == 27) = false) (h28 : (op == 28) = false) (w : World) : Calls Try.prog 56 #[.int .i64 op, .int .u64 a, .int .u64 b] w fun e w' => e = .returned (.bool false) ∧ w = w' := by
  go_enter Try.func56, Try.ntmps56
  go_wp2_with fail
  go_ret
  exact ⟨rfl, rfl⟩

theorem rtakes25_at (a b : Int) (a0 : 0 ≤ a) (a1 : a < 18446744073709551616) (b0 : 0 ≤ b) (b1 : b < 18446744073709551616) (w : World) : Calls Try.prog 59 #[.int .i64 25, .int .u64 a, .int .u64 b] w fun e w' => e = .returned (.bool (a == b)) ∧ w = w' := by
  cases hv : (a == b)
  all_goals
    go_enter Try.func59, Try.ntmps59
    go_wp2_with fail
    go_ret
    exact ⟨rfl, rfl⟩

theorem rtakes26_at (a b : Int) (a0 : 0 ≤ a) (a1 : a < 18446744073709551616) (b0 : 0 ≤ b) (b1 : b < 18446744073709551616) (w : World) : Calls Try.prog 59 #[.int .i64 26, .int .u64 a, .int .u64 b] w fun e w' => e = .returned (.bool (a != b)) ∧ w = w' := by
  cases hv : (a != b)
  all_goals
    go_enter Try.func59, Try.ntmps59
    go_wp2_with fail
    go_ret
    exact ⟨rfl, rfl⟩

theorem rtakes27_at (a b : Int) (a0 : 0 ≤ a) (a1 : a < 18446744073709551616) (b0 : 0 ≤ b) (b1 : b < 18446744073709551616) (w : World) : Calls Try.prog 59 #[.int .i64 27, .int .u64 a, .int .u64 b] w fun e w' => e = .returned (.bool (decide (wrap64 a < wrap64 b))) ∧ w = w' := by
  have hb := rbelow_any a b a0 a1 b0 b1
  cases hv : (decide (wrap64 a < wrap64 b))
  all_goals
    rw [hv] at hb
    go_enter Try.func59, Try.ntmps59
    go_wp2_with fail
    refine (hb _).mono ?_
    rintro e w1 ⟨rfl, rfl⟩
    go_wp2_with fail
    go_ret
    exact ⟨rfl, rfl⟩

theorem rtakes28_at (a b : Int) (a0 : 0 ≤ a) (a1 : a < 18446744073709551616) (b0 : 0 ≤ b) (b1 : b < 18446744073709551616) (w : World) : Calls Try.prog 59 #[.int .i64 28, .int .u64 a, .int .u64 b] w fun e w' => e = .returned (.bool (decide (a < b))) ∧ w = w' := by
  cases hv : (decide (a < b))
  all_goals
    go_enter Try.func59, Try.ntmps59
    go_wp2_with fail
    go_ret
    exact ⟨rfl, rfl⟩

theorem rtakes_none (op a b : Int) (h25 : (op == 25) = false) (h26 : (op == 26) = false) (h27 : (op == 27) = false) (h28 : (op == 28) = false) (w : World) : Calls Try.prog 59 #[.int .i64 op, .int .u64 a, .int .u64 b] w fun e w' => e = .returned (.bool false) ∧ w = w' := by
  go_enter Try.func59, Try.ntmps59
  go_wp2_with fail
  go_ret
  exact ⟨rfl, rfl⟩

/-- whether a branch goes: both say the same -/
theorem takes_alike (op a b : Int) (a0 : 0 ≤ a) (a1 : a < 18446744073709551616) (b0 : 0 ≤ b) (b1 : b < 18446744073709551616) : ∃ t : Bool, (∀ w, Calls Try.prog 56 #[.int .i64 op, .int .u64 a, .int .u64 b] w fun e w' => e = .returned (.bool t) ∧ w = w') ∧
    ∀ w, Calls Try.prog 59 #[.int .i64 op, .int .u64 a, .int .u64 b] w fun e w' => e = .returned (.bool t) ∧ w = w' := by
  by_cases e25 : op = 25
  · subst e25
    exact ⟨_, takes25_at a b a0 a1 b0 b1, rtakes25_at a b a0 a1 b0 b1⟩
  by_cases e26 : op = 26
  · subst e26
    exact ⟨_, takes26_at a b a0 a1 b0 b1, rtakes26_at a b a0 a1 b0 b1⟩
  by_cases e27 : op = 27
  · subst e27
    exact ⟨_, takes27_at a b a0 a1 b0 b1, rtakes27_at a b a0 a1 b0 b1⟩
  by_cases e28 : op = 28
  · subst e28
    exact ⟨_, takes28_at a b a0 a1 b0 b1, rtakes28_at a b a0 a1 b0 b1⟩
  have bf : ∀ k : Int, op ≠ k → (op == k) = false := fun k h => beq_eq_false_iff_ne.2 h
  exact ⟨_, takes_none op a b (bf _ e25) (bf _ e26) (bf _ e27) (bf _ e28), rtakes_none op a b (bf _ e25) (bf _ e26) (bf _ e27) (bf _ e28)⟩

theorem width19 (w : World) : Calls Try.prog 57 #[.int .i64 19] w fun e w' => e = .returned (.tuple #[.int .i64 8, .bool false]) ∧ w = w' := by
  go_enter Try.func57, Try.ntmps57
  go_wp2_with fail
  exact bodyPost_ret (v := .tuple #[.int .i64 8, .bool false]) (by simp [results, Try.results57, go_sem]) rfl ⟨rfl, rfl⟩

theorem width20 (w : World) : Calls Try.prog 57 #[.int .i64 20] w fun e w' => e = .returned (.tuple #[.int .i64 4, .bool false]) ∧ w = w' := by
  go_enter Try.func57, Try.ntmps57
  go_wp2_with fail
  exact bodyPost_ret (v := .tuple #[.int .i64 4, .bool false]) (by simp [results, Try.results57, go_sem]) rfl ⟨rfl, rfl⟩

theorem width21 (w : World) : Calls Try.prog 57 #[.int .i64 21] w fun e w' => e = .returned (.tuple #[.int .i64 1, .bool false]) ∧ w = w' := by
  go_enter Try.func57, Try.ntmps57
  go_wp2_with fail
  exact bodyPost_ret (v := .tuple #[.int .i64 1, .bool false]) (by simp [results, Try.results57, go_sem]) rfl ⟨rfl, rfl⟩

theorem width22 (w : World) : Calls Try.prog 57 #[.int .i64 22] w fun e w' => e = .returned (.tuple #[.int .i64 8, .bool true]) ∧ w = w' := by
  go_enter Try.func57, Try.ntmps57
  go_wp2_with fail
  exact bodyPost_ret (v := .tuple #[.int .i64 8, .bool true]) (by simp [results, Try.results57, go_sem]) rfl ⟨rfl, rfl⟩

theorem width23 (w : World) : Calls Try.prog 57 #[.int .i64 23] w fun e w' => e = .returned (.tuple #[.int .i64 4, .bool true]) ∧ w = w' := by
  go_enter Try.func57, Try.ntmps57
  go_wp2_with fail
  exact bodyPost_ret (v := .tuple #[.int .i64 4, .bool true]) (by simp [results, Try.results57, go_sem]) rfl ⟨rfl, rfl⟩

theorem width24 (w : World) : Calls Try.prog 57 #[.int .i64 24] w fun e w' => e = .returned (.tuple #[.int .i64 1, .bool true]) ∧ w = w' := by
  go_enter Try.func57, Try.ntmps57
  go_wp2_with fail
  exact bodyPost_ret (v := .tuple #[.int .i64 1, .bool true]) (by simp [results, Try.results57, go_sem]) rfl ⟨rfl, rfl⟩

theorem width_none (op : Int) (h19 : (op == 19) = false) (h20 : (op == 20) = false) (h21 : (op == 21) = false) (h22 : (op == 22) = false) (h23 : (op == 23) = false) (h24 : (op == 24) = false) (w : World) : Calls Try.prog 57 #[.int .i64 op] w fun e w' => e = .returned (.tuple #[.int .i64 0, .bool false]) ∧ w = w' := by
  go_enter Try.func57, Try.ntmps57
  go_wp2_with fail
  exact bodyPost_ret (v := .tuple #[.int .i64 0, .bool false]) (by simp [results, Try.results57, go_sem]) rfl ⟨rfl, rfl⟩

theorem rwidth19 (w : World) : Calls Try.prog 58 #[.int .i64 19] w fun e w' => e = .returned (.tuple #[.int .i64 8, .bool false]) ∧ w = w' := by
  go_enter Try.func58, Try.ntmps58
  go_wp2_with fail
  exact bodyPost_ret (v := .tuple #[.int .i64 8, .bool false]) (by simp [results, Try.results58, go_sem]) rfl ⟨rfl, rfl⟩

theorem rwidth20 (w : World) : Calls Try.prog 58 #[.int .i64 20] w fun e w' => e = .returned (.tuple #[.int .i64 4, .bool false]) ∧ w = w' := by
  go_enter Try.func58, Try.ntmps58
  go_wp2_with fail
  exact bodyPost_ret (v := .tuple #[.int .i64 4, .bool false]) (by simp [results, Try.results58, go_sem]) rfl ⟨rfl, rfl⟩

theorem rwidth21 (w : World) : Calls Try.prog 58 #[.int .i64 21] w fun e w' => e = .returned (.tuple #[.int .i64 1, .bool false]) ∧ w = w' := by
  go_enter Try.func58, Try.ntmps58
  go_wp2_with fail
  exact bodyPost_ret (v := .tuple #[.int .i64 1, .bool false]) (by simp [results, Try.results58, go_sem]) rfl ⟨rfl, rfl⟩

theorem rwidth22 (w : World) : Calls Try.prog 58 #[.int .i64 22] w fun e w' => e = .returned (.tuple #[.int .i64 8, .bool true]) ∧ w = w' := by
  go_enter Try.func58, Try.ntmps58
  go_wp2_with fail
  exact bodyPost_ret (v := .tuple #[.int .i64 8, .bool true]) (by simp [results, Try.results58, go_sem]) rfl ⟨rfl, rfl⟩

theorem rwidth23 (w : World) : Calls Try.prog 58 #[.int .i64 23] w fun e w' => e = .returned (.tuple #[.int .i64 4, .bool true]) ∧ w = w' := by
  go_enter Try.func58, Try.ntmps58
  go_wp2_with fail
  exact bodyPost_ret (v := .tuple #[.int .i64 4, .bool true]) (by simp [results, Try.results58, go_sem]) rfl ⟨rfl, rfl⟩

theorem rwidth24 (w : World) : Calls Try.prog 58 #[.int .i64 24] w fun e w' => e = .returned (.tuple #[.int .i64 1, .bool true]) ∧ w = w' := by
  go_enter Try.func58, Try.ntmps58
  go_wp2_with fail
  exact bodyPost_ret (v := .tuple #[.int .i64 1, .bool true]) (by simp [results, Try.results58, go_sem]) rfl ⟨rfl, rfl⟩

theorem rwidth_none (op : Int) (h19 : (op == 19) = false) (h20 : (op == 20) = false) (h21 : (op == 21) = false) (h22 : (op == 22) = false) (h23 : (op == 23) = false) (h24 : (op == 24) = false) (w : World) : Calls Try.prog 58 #[.int .i64 op] w fun e w' => e = .returned (.tuple #[.int .i64 0, .bool false]) ∧ w = w' := by
  go_enter Try.func58, Try.ntmps58
  go_wp2_with fail
  exact bodyPost_ret (v := .tuple #[.int .i64 0, .bool false]) (by simp [results, Try.results58, go_sem]) rfl ⟨rfl, rfl⟩

/-- how wide a load or store is: both say the same -/
theorem width_alike (op : Int) : ∃ (n : Int) (t : Bool), (∀ w, Calls Try.prog 57 #[.int .i64 op] w fun e w' => e = .returned (.tuple #[.int .i64 n, .bool t]) ∧ w = w') ∧
    ∀ w, Calls Try.prog 58 #[.int .i64 op] w fun e w' => e = .returned (.tuple #[.int .i64 n, .bool t]) ∧ w = w' := by
  by_cases e19 : op = 19
  · subst e19
    exact ⟨_, _, width19, rwidth19⟩
  by_cases e20 : op = 20
  · subst e20
    exact ⟨_, _, width20, rwidth20⟩
  by_cases e21 : op = 21
  · subst e21
    exact ⟨_, _, width21, rwidth21⟩
  by_cases e22 : op = 22
  · subst e22
    exact ⟨_, _, width22, rwidth22⟩
  by_cases e23 : op = 23
  · subst e23
    exact ⟨_, _, width23, rwidth23⟩
  by_cases e24 : op = 24
  · subst e24
    exact ⟨_, _, width24, rwidth24⟩
  have bf : ∀ k : Int, op ≠ k → (op == k) = false := fun k h => beq_eq_false_iff_ne.2 h
  exact ⟨_, _, width_none op (bf _ e19) (bf _ e20) (bf _ e21) (bf _ e22) (bf _ e23) (bf _ e24), rwidth_none op (bf _ e19) (bf _ e20) (bf _ e21) (bf _ e22) (bf _ e23) (bf _ e24)⟩

/-- the address -/
def xOf (b imm : Int) : Int := IntKind.u64.wrap (b + IntKind.u64.wrap imm)
theorem xOf_bd (b imm : Int) : 0 ≤ xOf b imm ∧ xOf b imm < 18446744073709551616 := by unfold xOf; rw [IntKind.wrap_u64]; omega

theorem place0 (b imm : Int) (i0 : -2147483648 ≤ imm) (i1 : imm ≤ 2147483647) (w : World) : Calls Try.prog 60 #[.int .u64 b, .int .i32 imm, .int .i64 0] w fun e w' => e = .returned (.tuple #[.int .i64 0, .bool false]) ∧ w = w' := by
  obtain ⟨x0, x1⟩ := xOf_bd b imm
  have hx : IntKind.u64.wrap (b + IntKind.u64.wrap imm) = xOf b imm := rfl
  generalize xOf b imm = x at *
  by_cases c : 262144 < x
  · go_enter Try.func60, Try.ntmps60
    go_wp2_with fail
    all_goals first | omega | exact bodyPost_ret (v := .tuple #[.int .i64 0, .bool false]) (by simp [results, Try.results60, go_sem]) rfl ⟨rfl, rfl⟩
  · go_enter Try.func60, Try.ntmps60
    go_wp2_with fail
    all_goals first | omega | exact bodyPost_ret (v := .tuple #[.int .i64 0, .bool false]) (by simp [results, Try.results60, go_sem]) rfl ⟨rfl, rfl⟩

theorem place1_yes (b imm : Int) (i0 : -2147483648 ≤ imm) (i1 : imm ≤ 2147483647) (h : xOf b imm ≤ 262144 - 1 ∧ xOf b imm % 1 = 0) (w : World) : Calls Try.prog 60 #[.int .u64 b, .int .i32 imm, .int .i64 1] w fun e w' => e = .returned (.tuple #[.int .i64 (xOf b imm), .bool true]) ∧ w = w' := by
  obtain ⟨x0, x1⟩ := xOf_bd b imm
  have hx : IntKind.u64.wrap (b + IntKind.u64.wrap imm) = xOf b imm := rfl
  generalize xOf b imm = x at *
  have g1 : ¬ 262144 - 1 < x := by omega
  have g2 : x % 1 = 0 := h.2
  have g3 : wrap64 x = x := by unfold wrap64; omega
  have g5 : (x % 1 != 0) = false := bne_eq_false_iff_eq.2 h.2
  have g4 : x.tmod 1 = 0 := by rw [Int.tmod_eq_emod_of_nonneg x0]; exact h.2
  clear h
  go_enter Try.func60, Try.ntmps60
  go_wp2_with fail
  all_goals first | omega | exact bodyPost_ret (v := .tuple #[.int .i64 x, .bool true]) (by simp [results, Try.results60, go_sem]) rfl ⟨rfl, rfl⟩

theorem place1_no (b imm : Int) (i0 : -2147483648 ≤ imm) (i1 : imm ≤ 2147483647) (h : ¬ (xOf b imm ≤ 262144 - 1 ∧ xOf b imm % 1 = 0)) (w : World) : Calls Try.prog 60 #[.int .u64 b, .int .i32 imm, .int .i64 1] w fun e w' => e = .returned (.tuple #[.int .i64 0, .bool false]) ∧ w = w' := by
  obtain ⟨x0, x1⟩ := xOf_bd b imm
  have hx : IntKind.u64.wrap (b + IntKind.u64.wrap imm) = xOf b imm := rfl
  generalize xOf b imm = x at *
  by_cases c : 262144 - 1 < x
  · clear h
    go_enter Try.func60, Try.ntmps60
    go_wp2_with fail
    all_goals first | omega | exact bodyPost_ret (v := .tuple #[.int .i64 0, .bool false]) (by simp [results, Try.results60, go_sem]) rfl ⟨rfl, rfl⟩
  · have g2 : x % 1 ≠ 0 := by omega
    have g5 : (x % 1 != 0) = true := bne_iff_ne.2 g2
    have g3 : wrap64 x = x := by unfold wrap64; omega
    have g4 : x.tmod 1 ≠ 0 := by rw [Int.tmod_eq_emod_of_nonneg x0]; exact g2
    clear h
    go_enter Try.func60, Try.ntmps60
    go_wp2_with fail
    all_goals first | omega | exact bodyPost_ret (v := .tuple #[.int .i64 0, .bool false]) (by simp [results, Try.results60, go_sem]) rfl ⟨rfl, rfl⟩

theorem place2_yes (b imm : Int) (i0 : -2147483648 ≤ imm) (i1 : imm ≤ 2147483647) (h : xOf b imm ≤ 262144 - 2 ∧ xOf b imm % 2 = 0) (w : World) : Calls Try.prog 60 #[.int .u64 b, .int .i32 imm, .int .i64 2] w fun e w' => e = .returned (.tuple #[.int .i64 (xOf b imm), .bool true]) ∧ w = w' := by
  obtain ⟨x0, x1⟩ := xOf_bd b imm
  have hx : IntKind.u64.wrap (b + IntKind.u64.wrap imm) = xOf b imm := rfl
  generalize xOf b imm = x at *
  have g1 : ¬ 262144 - 2 < x := by omega
  have g2 : x % 2 = 0 := h.2
  have g3 : wrap64 x = x := by unfold wrap64; omega
  have g5 : (x % 2 != 0) = false := bne_eq_false_iff_eq.2 h.2
  have g4 : x.tmod 2 = 0 := by rw [Int.tmod_eq_emod_of_nonneg x0]; exact h.2
  clear h
  go_enter Try.func60, Try.ntmps60
  go_wp2_with fail
  all_goals first | omega | exact bodyPost_ret (v := .tuple #[.int .i64 x, .bool true]) (by simp [results, Try.results60, go_sem]) rfl ⟨rfl, rfl⟩

theorem place2_no (b imm : Int) (i0 : -2147483648 ≤ imm) (i1 : imm ≤ 2147483647) (h : ¬ (xOf b imm ≤ 262144 - 2 ∧ xOf b imm % 2 = 0)) (w : World) : Calls Try.prog 60 #[.int .u64 b, .int .i32 imm, .int .i64 2] w fun e w' => e = .returned (.tuple #[.int .i64 0, .bool false]) ∧ w = w' := by
  obtain ⟨x0, x1⟩ := xOf_bd b imm
  have hx : IntKind.u64.wrap (b + IntKind.u64.wrap imm) = xOf b imm := rfl
  generalize xOf b imm = x at *
  by_cases c : 262144 - 2 < x
  · clear h
    go_enter Try.func60, Try.ntmps60
    go_wp2_with fail
    all_goals first | omega | exact bodyPost_ret (v := .tuple #[.int .i64 0, .bool false]) (by simp [results, Try.results60, go_sem]) rfl ⟨rfl, rfl⟩
  · have g2 : x % 2 ≠ 0 := by omega
    have g5 : (x % 2 != 0) = true := bne_iff_ne.2 g2
    have g3 : wrap64 x = x := by unfold wrap64; omega
    have g4 : x.tmod 2 ≠ 0 := by rw [Int.tmod_eq_emod_of_nonneg x0]; exact g2
    clear h
    go_enter Try.func60, Try.ntmps60
    go_wp2_with fail
    all_goals first | omega | exact bodyPost_ret (v := .tuple #[.int .i64 0, .bool false]) (by simp [results, Try.results60, go_sem]) rfl ⟨rfl, rfl⟩

theorem place4_yes (b imm : Int) (i0 : -2147483648 ≤ imm) (i1 : imm ≤ 2147483647) (h : xOf b imm ≤ 262144 - 4 ∧ xOf b imm % 4 = 0) (w : World) : Calls Try.prog 60 #[.int .u64 b, .int .i32 imm, .int .i64 4] w fun e w' => e = .returned (.tuple #[.int .i64 (xOf b imm), .bool true]) ∧ w = w' := by
  obtain ⟨x0, x1⟩ := xOf_bd b imm
  have hx : IntKind.u64.wrap (b + IntKind.u64.wrap imm) = xOf b imm := rfl
  generalize xOf b imm = x at *
  have g1 : ¬ 262144 - 4 < x := by omega
  have g2 : x % 4 = 0 := h.2
  have g3 : wrap64 x = x := by unfold wrap64; omega
  have g5 : (x % 4 != 0) = false := bne_eq_false_iff_eq.2 h.2
  have g4 : x.tmod 4 = 0 := by rw [Int.tmod_eq_emod_of_nonneg x0]; exact h.2
  clear h
  go_enter Try.func60, Try.ntmps60
  go_wp2_with fail
  all_goals first | omega | exact bodyPost_ret (v := .tuple #[.int .i64 x, .bool true]) (by simp [results, Try.results60, go_sem]) rfl ⟨rfl, rfl⟩

theorem place4_no (b imm : Int) (i0 : -2147483648 ≤ imm) (i1 : imm ≤ 2147483647) (h : ¬ (xOf b imm ≤ 262144 - 4 ∧ xOf b imm % 4 = 0)) (w : World) : Calls Try.prog 60 #[.int .u64 b, .int .i32 imm, .int .i64 4] w fun e w' => e = .returned (.tuple #[.int .i64 0, .bool false]) ∧ w = w' := by
  obtain ⟨x0, x1⟩ := xOf_bd b imm
  have hx : IntKind.u64.wrap (b + IntKind.u64.wrap imm) = xOf b imm := rfl
  generalize xOf b imm = x at *
  by_cases c : 262144 - 4 < x
  · clear h
    go_enter Try.func60, Try.ntmps60
    go_wp2_with fail
    all_goals first | omega | exact bodyPost_ret (v := .tuple #[.int .i64 0, .bool false]) (by simp [results, Try.results60, go_sem]) rfl ⟨rfl, rfl⟩
  · have g2 : x % 4 ≠ 0 := by omega
    have g5 : (x % 4 != 0) = true := bne_iff_ne.2 g2
    have g3 : wrap64 x = x := by unfold wrap64; omega
    have g4 : x.tmod 4 ≠ 0 := by rw [Int.tmod_eq_emod_of_nonneg x0]; exact g2
    clear h
    go_enter Try.func60, Try.ntmps60
    go_wp2_with fail
    all_goals first | omega | exact bodyPost_ret (v := .tuple #[.int .i64 0, .bool false]) (by simp [results, Try.results60, go_sem]) rfl ⟨rfl, rfl⟩

theorem place8_yes (b imm : Int) (i0 : -2147483648 ≤ imm) (i1 : imm ≤ 2147483647) (h : xOf b imm ≤ 262144 - 8 ∧ xOf b imm % 8 = 0) (w : World) : Calls Try.prog 60 #[.int .u64 b, .int .i32 imm, .int .i64 8] w fun e w' => e = .returned (.tuple #[.int .i64 (xOf b imm), .bool true]) ∧ w = w' := by
  obtain ⟨x0, x1⟩ := xOf_bd b imm
  have hx : IntKind.u64.wrap (b + IntKind.u64.wrap imm) = xOf b imm := rfl
  generalize xOf b imm = x at *
  have g1 : ¬ 262144 - 8 < x := by omega
  have g2 : x % 8 = 0 := h.2
  have g3 : wrap64 x = x := by unfold wrap64; omega
  have g5 : (x % 8 != 0) = false := bne_eq_false_iff_eq.2 h.2
  have g4 : x.tmod 8 = 0 := by rw [Int.tmod_eq_emod_of_nonneg x0]; exact h.2
  clear h
  go_enter Try.func60, Try.ntmps60
  go_wp2_with fail
  all_goals first | omega | exact bodyPost_ret (v := .tuple #[.int .i64 x, .bool true]) (by simp [results, Try.results60, go_sem]) rfl ⟨rfl, rfl⟩

theorem place8_no (b imm : Int) (i0 : -2147483648 ≤ imm) (i1 : imm ≤ 2147483647) (h : ¬ (xOf b imm ≤ 262144 - 8 ∧ xOf b imm % 8 = 0)) (w : World) : Calls Try.prog 60 #[.int .u64 b, .int .i32 imm, .int .i64 8] w fun e w' => e = .returned (.tuple #[.int .i64 0, .bool false]) ∧ w = w' := by
  obtain ⟨x0, x1⟩ := xOf_bd b imm
  have hx : IntKind.u64.wrap (b + IntKind.u64.wrap imm) = xOf b imm := rfl
  generalize xOf b imm = x at *
  by_cases c : 262144 - 8 < x
  · clear h
    go_enter Try.func60, Try.ntmps60
    go_wp2_with fail
    all_goals first | omega | exact bodyPost_ret (v := .tuple #[.int .i64 0, .bool false]) (by simp [results, Try.results60, go_sem]) rfl ⟨rfl, rfl⟩
  · have g2 : x % 8 ≠ 0 := by omega
    have g5 : (x % 8 != 0) = true := bne_iff_ne.2 g2
    have g3 : wrap64 x = x := by unfold wrap64; omega
    have g4 : x.tmod 8 ≠ 0 := by rw [Int.tmod_eq_emod_of_nonneg x0]; exact g2
    clear h
    go_enter Try.func60, Try.ntmps60
    go_wp2_with fail
    all_goals first | omega | exact bodyPost_ret (v := .tuple #[.int .i64 0, .bool false]) (by simp [results, Try.results60, go_sem]) rfl ⟨rfl, rfl⟩

theorem rplace0 (b imm : Int) (i0 : -2147483648 ≤ imm) (i1 : imm ≤ 2147483647) (w : World) : Calls Try.prog 61 #[.int .u64 b, .int .i32 imm, .int .i64 0] w fun e w' => e = .returned (.tuple #[.int .i64 0, .bool false]) ∧ w = w' := by
  obtain ⟨x0, x1⟩ := xOf_bd b imm
  have hx : IntKind.u64.wrap (b + IntKind.u64.wrap imm) = xOf b imm := rfl
  generalize xOf b imm = x at *
  by_cases c : 262144 < x
  · go_enter Try.func61, Try.ntmps61
    go_wp2_with fail
    all_goals first | omega | exact bodyPost_ret (v := .tuple #[.int .i64 0, .bool false]) (by simp [results, Try.results61, go_sem]) rfl ⟨rfl, rfl⟩
  · go_enter Try.func61, Try.ntmps61
    go_wp2_with fail
    all_goals first | omega | exact bodyPost_ret (v := .tuple #[.int .i64 0, .bool false]) (by simp [results, Try.results61, go_sem]) rfl ⟨rfl, rfl⟩

theorem rplace1_yes (b imm : Int) (i0 : -2147483648 ≤ imm) (i1 : imm ≤ 2147483647) (h : xOf b imm ≤ 262144 - 1 ∧ xOf b imm % 1 = 0) (w : World) : Calls Try.prog 61 #[.int .u64 b, .int .i32 imm, .int .i64 1] w fun e w' => e = .returned (.tuple #[.int .i64 (xOf b imm), .bool true]) ∧ w = w' := by
  obtain ⟨x0, x1⟩ := xOf_bd b imm
  have hx : IntKind.u64.wrap (b + IntKind.u64.wrap imm) = xOf b imm := rfl
  generalize xOf b imm = x at *
  have g1 : ¬ 262144 ≤ x := by omega
  have g2 : x % 1 = 0 := h.2
  have g3 : wrap64 x = x := by unfold wrap64; omega
  have g5 : (x % 1 != 0) = false := bne_eq_false_iff_eq.2 h.2
  have g4 : x.tmod 1 = 0 := by rw [Int.tmod_eq_emod_of_nonneg x0]; exact h.2
  clear h
  go_enter Try.func61, Try.ntmps61
  go_wp2_with fail
  all_goals first | omega | exact bodyPost_ret (v := .tuple #[.int .i64 x, .bool true]) (by simp [results, Try.results61, go_sem]) rfl ⟨rfl, rfl⟩

theorem rplace1_no (b imm : Int) (i0 : -2147483648 ≤ imm) (i1 : imm ≤ 2147483647) (h : ¬ (xOf b imm ≤ 262144 - 1 ∧ xOf b imm % 1 = 0)) (w : World) : Calls Try.prog 61 #[.int .u64 b, .int .i32 imm, .int .i64 1] w fun e w' => e = .returned (.tuple #[.int .i64 0, .bool false]) ∧ w = w' := by
  obtain ⟨x0, x1⟩ := xOf_bd b imm
  have hx : IntKind.u64.wrap (b + IntKind.u64.wrap imm) = xOf b imm := rfl
  generalize xOf b imm = x at *
  by_cases c : 262144 ≤ x
  · clear h
    go_enter Try.func61, Try.ntmps61
    go_wp2_with fail
    all_goals first | omega | exact bodyPost_ret (v := .tuple #[.int .i64 0, .bool false]) (by simp [results, Try.results61, go_sem]) rfl ⟨rfl, rfl⟩
  · have g2 : x % 1 ≠ 0 := by omega
    have g5 : (x % 1 != 0) = true := bne_iff_ne.2 g2
    have g3 : wrap64 x = x := by unfold wrap64; omega
    have g4 : x.tmod 1 ≠ 0 := by rw [Int.tmod_eq_emod_of_nonneg x0]; exact g2
    clear h
    go_enter Try.func61, Try.ntmps61
    go_wp2_with fail
    all_goals first | omega | exact bodyPost_ret (v := .tuple #[.int .i64 0, .bool false]) (by simp [results, Try.results61, go_sem]) rfl ⟨rfl, rfl⟩

theorem rplace2_yes (b imm : Int) (i0 : -2147483648 ≤ imm) (i1 : imm ≤ 2147483647) (h : xOf b imm ≤ 262144 - 2 ∧ xOf b imm % 2 = 0) (w : World) : Calls Try.prog 61 #[.int .u64 b, .int .i32 imm, .int .i64 2] w fun e w' => e = .returned (.tuple #[.int .i64 (xOf b imm), .bool true]) ∧ w = w' := by
  obtain ⟨x0, x1⟩ := xOf_bd b imm
  have hx : IntKind.u64.wrap (b + IntKind.u64.wrap imm) = xOf b imm := rfl
  generalize xOf b imm = x at *
  have g1 : ¬ 262144 ≤ x := by omega
  have g2 : x % 2 = 0 := h.2
  have g3 : wrap64 x = x := by unfold wrap64; omega
  have g5 : (x % 2 != 0) = false := bne_eq_false_iff_eq.2 h.2
  have g4 : x.tmod 2 = 0 := by rw [Int.tmod_eq_emod_of_nonneg x0]; exact h.2
  clear h
  go_enter Try.func61, Try.ntmps61
  go_wp2_with fail
  all_goals first | omega | exact bodyPost_ret (v := .tuple #[.int .i64 x, .bool true]) (by simp [results, Try.results61, go_sem]) rfl ⟨rfl, rfl⟩

theorem rplace2_no (b imm : Int) (i0 : -2147483648 ≤ imm) (i1 : imm ≤ 2147483647) (h : ¬ (xOf b imm ≤ 262144 - 2 ∧ xOf b imm % 2 = 0)) (w : World) : Calls Try.prog 61 #[.int .u64 b, .int .i32 imm, .int .i64 2] w fun e w' => e = .returned (.tuple #[.int .i64 0, .bool false]) ∧ w = w' := by
  obtain ⟨x0, x1⟩ := xOf_bd b imm
  have hx : IntKind.u64.wrap (b + IntKind.u64.wrap imm) = xOf b imm := rfl
  generalize xOf b imm = x at *
  by_cases c : 262144 ≤ x
  · clear h
    go_enter Try.func61, Try.ntmps61
    go_wp2_with fail
    all_goals first | omega | exact bodyPost_ret (v := .tuple #[.int .i64 0, .bool false]) (by simp [results, Try.results61, go_sem]) rfl ⟨rfl, rfl⟩
  · have g2 : x % 2 ≠ 0 := by omega
    have g5 : (x % 2 != 0) = true := bne_iff_ne.2 g2
    have g3 : wrap64 x = x := by unfold wrap64; omega
    have g4 : x.tmod 2 ≠ 0 := by rw [Int.tmod_eq_emod_of_nonneg x0]; exact g2
    clear h
    go_enter Try.func61, Try.ntmps61
    go_wp2_with fail
    all_goals first | omega | exact bodyPost_ret (v := .tuple #[.int .i64 0, .bool false]) (by simp [results, Try.results61, go_sem]) rfl ⟨rfl, rfl⟩

theorem rplace4_yes (b imm : Int) (i0 : -2147483648 ≤ imm) (i1 : imm ≤ 2147483647) (h : xOf b imm ≤ 262144 - 4 ∧ xOf b imm % 4 = 0) (w : World) : Calls Try.prog 61 #[.int .u64 b, .int .i32 imm, .int .i64 4] w fun e w' => e = .returned (.tuple #[.int .i64 (xOf b imm), .bool true]) ∧ w = w' := by
  obtain ⟨x0, x1⟩ := xOf_bd b imm
  have hx : IntKind.u64.wrap (b + IntKind.u64.wrap imm) = xOf b imm := rfl
  generalize xOf b imm = x at *
  have g1 : ¬ 262144 ≤ x := by omega
  have g2 : x % 4 = 0 := h.2
  have g3 : wrap64 x = x := by unfold wrap64; omega
  have g5 : (x % 4 != 0) = false := bne_eq_false_iff_eq.2 h.2
  have g4 : x.tmod 4 = 0 := by rw [Int.tmod_eq_emod_of_nonneg x0]; exact h.2
  clear h
  go_enter Try.func61, Try.ntmps61
  go_wp2_with fail
  all_goals first | omega | exact bodyPost_ret (v := .tuple #[.int .i64 x, .bool true]) (by simp [results, Try.results61, go_sem]) rfl ⟨rfl, rfl⟩

theorem rplace4_no (b imm : Int) (i0 : -2147483648 ≤ imm) (i1 : imm ≤ 2147483647) (h : ¬ (xOf b imm ≤ 262144 - 4 ∧ xOf b imm % 4 = 0)) (w : World) : Calls Try.prog 61 #[.int .u64 b, .int .i32 imm, .int .i64 4] w fun e w' => e = .returned (.tuple #[.int .i64 0, .bool false]) ∧ w = w' := by
  obtain ⟨x0, x1⟩ := xOf_bd b imm
  have hx : IntKind.u64.wrap (b + IntKind.u64.wrap imm) = xOf b imm := rfl
  generalize xOf b imm = x at *
  by_cases c : 262144 ≤ x
  · clear h
    go_enter Try.func61, Try.ntmps61
    go_wp2_with fail
    all_goals first | omega | exact bodyPost_ret (v := .tuple #[.int .i64 0, .bool false]) (by simp [results, Try.results61, go_sem]) rfl ⟨rfl, rfl⟩
  · have g2 : x % 4 ≠ 0 := by omega
    have g5 : (x % 4 != 0) = true := bne_iff_ne.2 g2
    have g3 : wrap64 x = x := by unfold wrap64; omega
    have g4 : x.tmod 4 ≠ 0 := by rw [Int.tmod_eq_emod_of_nonneg x0]; exact g2
    clear h
    go_enter Try.func61, Try.ntmps61
    go_wp2_with fail
    all_goals first | omega | exact bodyPost_ret (v := .tuple #[.int .i64 0, .bool false]) (by simp [results, Try.results61, go_sem]) rfl ⟨rfl, rfl⟩

theorem rplace8_yes (b imm : Int) (i0 : -2147483648 ≤ imm) (i1 : imm ≤ 2147483647) (h : xOf b imm ≤ 262144 - 8 ∧ xOf b imm % 8 = 0) (w : World) : Calls Try.prog 61 #[.int .u64 b, .int .i32 imm, .int .i64 8] w fun e w' => e = .returned (.tuple #[.int .i64 (xOf b imm), .bool true]) ∧ w = w' := by
  obtain ⟨x0, x1⟩ := xOf_bd b imm
  have hx : IntKind.u64.wrap (b + IntKind.u64.wrap imm) = xOf b imm := rfl
  generalize xOf b imm = x at *
  have g1 : ¬ 262144 ≤ x := by omega
  have g2 : x % 8 = 0 := h.2
  have g3 : wrap64 x = x := by unfold wrap64; omega
  have g5 : (x % 8 != 0) = false := bne_eq_false_iff_eq.2 h.2
  have g4 : x.tmod 8 = 0 := by rw [Int.tmod_eq_emod_of_nonneg x0]; exact h.2
  clear h
  go_enter Try.func61, Try.ntmps61
  go_wp2_with fail
  all_goals first | omega | exact bodyPost_ret (v := .tuple #[.int .i64 x, .bool true]) (by simp [results, Try.results61, go_sem]) rfl ⟨rfl, rfl⟩

theorem rplace8_no (b imm : Int) (i0 : -2147483648 ≤ imm) (i1 : imm ≤ 2147483647) (h : ¬ (xOf b imm ≤ 262144 - 8 ∧ xOf b imm % 8 = 0)) (w : World) : Calls Try.prog 61 #[.int .u64 b, .int .i32 imm, .int .i64 8] w fun e w' => e = .returned (.tuple #[.int .i64 0, .bool false]) ∧ w = w' := by
  obtain ⟨x0, x1⟩ := xOf_bd b imm
  have hx : IntKind.u64.wrap (b + IntKind.u64.wrap imm) = xOf b imm := rfl
  generalize xOf b imm = x at *
  by_cases c : 262144 ≤ x
  · clear h
    go_enter Try.func61, Try.ntmps61
    go_wp2_with fail
    all_goals first | omega | exact bodyPost_ret (v := .tuple #[.int .i64 0, .bool false]) (by simp [results, Try.results61, go_sem]) rfl ⟨rfl, rfl⟩
  · have g2 : x % 8 ≠ 0 := by omega
    have g5 : (x % 8 != 0) = true := bne_iff_ne.2 g2
    have g3 : wrap64 x = x := by unfold wrap64; omega
    have g4 : x.tmod 8 ≠ 0 := by rw [Int.tmod_eq_emod_of_nonneg x0]; exact g2
    clear h
    go_enter Try.func61, Try.ntmps61
    go_wp2_with fail
    all_goals first | omega | exact bodyPost_ret (v := .tuple #[.int .i64 0, .bool false]) (by simp [results, Try.results61, go_sem]) rfl ⟨rfl, rfl⟩
end Go.Proofs.Ytelgmffmekfndaa
