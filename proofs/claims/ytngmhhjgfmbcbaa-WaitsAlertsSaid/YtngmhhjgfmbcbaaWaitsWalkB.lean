/- The walk of the law WaitsCalm: whatever the wait and the number, the law returns true and changes nothing that existed. Conditions: the numbers fit their kinds. -/
import Derived.Test.YtngmhhjgfmbcbaaWaitsWalks
import Derived.WalkSpells
namespace Go.Proofs.Ytngmhhjgfmbcbaa
open Go.ChangeShapes Go.WideShapes Go.ChangeAt Go.RowKit

theorem wrap_up (v : Int) : IntKind.u64.wrap (v + 1) ≠ v := by
  simp only [IntKind.wrap_u64]; omega
theorem wrap_down (v : Int) : IntKind.u64.wrap (v - 1) ≠ v := by
  simp only [IntKind.wrap_u64]; omega
theorem wrap_less (v : Int) (h0 : 0 < v) (h1 : v < 18446744073709551616) : IntKind.u64.wrap (v - 1) = v - 1 := by
  simp only [IntKind.wrap_u64]; omega

set_option maxHeartbeats 4000000 in
theorem lawCalm_pos (seg off val wk un how : Int) (un0 : 0 < un) (hun : IntKind.u64.wrap (un - 1) = un - 1) (hval : IntKind.u64.wrap (val + 1) ≠ val) (hwk : IntKind.u64.wrap (wk - 1) ≠ wk) (w : World) :
    Calls Try.prog 4 #[.agg #[.int .u64 seg, .int .i64 off, .int .u64 val, .int .u64 wk, .int .u64 un], .int .i64 how] w fun e w' => e = .returned (.bool true) ∧ Below w.heap.size w w' := by
  have hw0 : (why val wk un val wk 0 (un - 1) true != 0) = false := by simp [why]; omega
  go_enter Try.func4, Try.ntmps4
  go_wp2_with (first | (go_at_call 6; refine (fit_any _).mono ?_; rintro e w1 ⟨rfl, hg1⟩; obtain ⟨hc1, hf1⟩ := bcell hg1; have hz1 := hg1.size; simp only [World.size_alloc] at hz1; obtain ⟨hz2, hz3, hz4, hz5, hz6⟩ := lt_far hz1; clear hz1) | (go_at_call 7; refine (why_any _ _ _ _ _ _ _ _ _ _ _).mono ?_; rintro e w2 ⟨rfl, rfl⟩))
  all_goals go_ret
  all_goals refine ⟨ret_true ?_, ?_⟩
  all_goals go_light
  any_goals (first | (simp_all [why]; done) | (simp_all [why]; omega))
  all_goals (repeat (first | exact Below.refl _ _ | (refine Below.alloc ?_ (by first | omega | (simp; done) | (simp; omega)) _)  | (refine Below.setCell ?_ (by first | omega | (simp; done) | (simp; omega)) _) | (refine Below.trans ?_ (hg1.mono (by first | omega | (simp; done) | (simp; omega))))))

set_option maxHeartbeats 4000000 in
theorem lawCalm_zero (seg off val wk how : Int) (hval : IntKind.u64.wrap (val + 1) ≠ val) (hwk : IntKind.u64.wrap (wk - 1) ≠ wk) (w : World) :
    Calls Try.prog 4 #[.agg #[.int .u64 seg, .int .i64 off, .int .u64 val, .int .u64 wk, .int .u64 0], .int .i64 how] w fun e w' => e = .returned (.bool true) ∧ Below w.heap.size w w' := by
  have hw0 : (why val wk 0 val wk 0 0 true != 0) = false := by simp [why]
  go_enter Try.func4, Try.ntmps4
  go_wp2_with (first | (go_at_call 6; refine (fit_any _).mono ?_; rintro e w1 ⟨rfl, hg1⟩; obtain ⟨hc1, hf1⟩ := bcell hg1; have hz1 := hg1.size; simp only [World.size_alloc] at hz1; obtain ⟨hz2, hz3, hz4, hz5, hz6⟩ := lt_far hz1; clear hz1) | (go_at_call 7; refine (why_any _ _ _ _ _ _ _ _ _ _ _).mono ?_; rintro e w2 ⟨rfl, rfl⟩))
  all_goals go_ret
  all_goals refine ⟨ret_true ?_, ?_⟩
  all_goals go_light
  any_goals (first | (simp_all [why]; done) | (simp_all [why]; omega))
  all_goals (repeat (first | exact Below.refl _ _ | (refine Below.alloc ?_ (by first | omega | (simp; done) | (simp; omega)) _)  | (refine Below.setCell ?_ (by first | omega | (simp; done) | (simp; omega)) _) | (refine Below.trans ?_ (hg1.mono (by first | omega | (simp; done) | (simp; omega))))))

theorem lawCalm (seg off val wk un how : Int) (h0 : 0 ≤ un) (h1 : un < 18446744073709551616) (w : World) :
    Calls Try.prog 4 #[.agg #[.int .u64 seg, .int .i64 off, .int .u64 val, .int .u64 wk, .int .u64 un], .int .i64 how] w fun e w' => e = .returned (.bool true) ∧ Below w.heap.size w w' := by
  by_cases h : un = 0
  · subst h
    exact lawCalm_zero seg off val wk how (wrap_up _) (wrap_down _) w
  · exact lawCalm_pos seg off val wk un how (by omega) (wrap_less _ (by omega) h1) (wrap_up _) (wrap_down _) w
end Go.Proofs.Ytngmhhjgfmbcbaa
