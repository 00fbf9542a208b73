/- The walks of the laws over waits: Why gives the first reason that holds; the law WaitsWhy returns true and changes nothing that existed. No conditions. -/
import Derived.Test.YtngmhhjgfmbcbaaLaw
namespace Go.Proofs.Ytngmhhjgfmbcbaa
open Go.ChangeShapes Go.WideShapes Go.ChangeAt Go.RowKit

/-- why a thread goes on -/
def why (val wk un v2 wk2 al now : Int) (th : Bool) : Int :=
  if !th || v2 != val then 1 else if wk2 != wk then 2 else if decide (0 < al) then 3 else if un != 0 && decide (un ≤ now) then 4 else 0

theorem why_any (seg off val wk un v2 wk2 al now : Int) (th : Bool) (w : World) :
    Calls Try.prog 7 #[.agg #[.int .u64 seg, .int .i64 off, .int .u64 val, .int .u64 wk, .int .u64 un], .agg #[.bool th, .int .u64 v2, .int .u64 wk2, .int .i64 al, .int .u64 now]] w fun e w' => e = .returned (.int .i64 (why val wk un v2 wk2 al now th)) ∧
      (w.alloc (.cells #[.int .u64 seg, .int .i64 off, .int .u64 val, .int .u64 wk, .int .u64 un] 24)).alloc (.cells #[.bool th, .int .u64 v2, .int .u64 wk2, .int .i64 al, .int .u64 now] 26) = w' := by
  go_enter Try.func7, Try.ntmps7
  go_wp2
  all_goals go_ret
  all_goals refine ⟨ret_int ?_, by simp_all⟩
  all_goals unfold why
  all_goals simp_all
  all_goals omega

theorem fit_any (w : World) : Calls Try.prog 6 #[] w fun e w' => e = .returned (.bool true) ∧ Below w.heap.size w w' := by
  go_enter Try.func6, Try.ntmps6
  go_wp2
  go_ret
  refine ⟨rfl, ?_⟩
  go_light
  repeat (first | exact Below.refl _ _ | refine Below.alloc ?_ (by simp; try omega) _)

set_option maxHeartbeats 2000000 in
theorem lawWhy (seg off val wk un v2 wk2 al now : Int) (th : Bool) (w : World) :
    Calls Try.prog 3 #[.agg #[.int .u64 seg, .int .i64 off, .int .u64 val, .int .u64 wk, .int .u64 un], .agg #[.bool th, .int .u64 v2, .int .u64 wk2, .int .i64 al, .int .u64 now]] w fun e w' => e = .returned (.bool true) ∧ Below w.heap.size w w' := by
  go_enter Try.func3, Try.ntmps3
  go_wp2_with (first | (go_at_call 6; refine (fit_any _).mono ?_; rintro e w1 ⟨rfl, hg1⟩; obtain ⟨hc1, hf1⟩ := bcell hg1; have hz1 := hg1.size; simp only [World.size_alloc] at hz1) | (go_at_call 7; refine (why_any _ _ _ _ _ _ _ _ _ _ _).mono ?_; rintro e w2 ⟨rfl, rfl⟩))
  all_goals go_ret
  all_goals refine ⟨ret_true ?_, ?_⟩
  all_goals go_light
  any_goals (first | (simp_all [why]; done) | (simp_all [why]; omega))
  all_goals (repeat (first | exact Below.refl _ _ | (refine Below.alloc ?_ (by first | omega | (simp; done) | (simp; omega)) _) | (refine Below.trans ?_ (hg1.mono (by first | omega | (simp; done) | (simp; omega))))))

end Go.Proofs.Ytngmhhjgfmbcbaa
