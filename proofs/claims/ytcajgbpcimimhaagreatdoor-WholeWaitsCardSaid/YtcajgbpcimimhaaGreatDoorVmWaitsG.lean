/- WholeWaits returns true at every three ints. Conditions: as each theorem names them. -/
import Derived.Test.YtcajgbpcimimhaaGreatDoorVmGhG
import Derived.Test.YtcajgbpcimimhaaGreatDoorVmW0aG
import Derived.Test.YtcajgbpcimimhaaGreatDoorVmW0bG
import Derived.Test.YtcajgbpcimimhaaGreatDoorVmW0cG
import Derived.Test.YtcajgbpcimimhaaGreatDoorVmW1aG
import Derived.Test.YtcajgbpcimimhaaGreatDoorVmW1bG
import Derived.Test.YtcajgbpcimimhaaGreatDoorVmW1cG
import Derived.Test.YtcajgbpcimimhaaGreatDoorVmW2aG
import Derived.Test.YtcajgbpcimimhaaGreatDoorVmW2bG
import Derived.Test.YtcajgbpcimimhaaGreatDoorVmW2cG
import Derived.Test.YtcajgbpcimimhaaGreatDoorVmW3aG
import Derived.Test.YtcajgbpcimimhaaGreatDoorVmW3bG
import Derived.Test.YtcajgbpcimimhaaGreatDoorVmW3cG
import Derived.Test.YtcajgbpcimimhaaGreatDoorVmW4aG
import Derived.Test.YtcajgbpcimimhaaGreatDoorVmW4bG
import Derived.Test.YtcajgbpcimimhaaGreatDoorVmW4cG
import Derived.Test.YtcajgbpcimimhaaGreatDoorVmW5aG
import Derived.Test.YtcajgbpcimimhaaGreatDoorVmW5bG
import Derived.Test.YtcajgbpcimimhaaGreatDoorVmW5cG
import Derived.Test.YtcajgbpcimimhaaGreatDoorVmW6aG
import Derived.Test.YtcajgbpcimimhaaGreatDoorVmW6bG
import Derived.Test.YtcajgbpcimimhaaGreatDoorVmW6cG
import Derived.Test.YtcajgbpcimimhaaGreatDoorVmW7aG
import Derived.Test.YtcajgbpcimimhaaGreatDoorVmW7bG
import Derived.Test.YtcajgbpcimimhaaGreatDoorVmW7cG
set_option linter.unusedVariables false
namespace Go.Proofs.YtcajgbpcimimhaaGreatDoor.Vm
open Go Go.Proofs Go.RowKit
theorem waits_key {a b c : Int} {W : World} (hl : Laid W) (d : Nat) (m : List Bool) (hd : ixOf a 7 + 1 = d) (hm : m[ixOf c 3]? = some true)
    (hr : start [List.replicate 8 true, List.replicate 1024 true, m] (fun w => (ev Tryz.prog 6 100000).call 3 [argV 0 7 d, argV 1 1023 0, argV 2 3 0] w endK) = true) :
    Calls Tryz.prog 3 #[.int .i64 a, .int .i64 b, .int .i64 c] W fun e W' => e = .returned (.bool true) ∧ Below W.heap.size W W' := by
  obtain ⟨E, h1, h2, h⟩ := top_run (sp := 6) (n := 100000) (f := 3) (args := [argV 0 7 d, argV 1 1023 0, argV 2 3 0]) (ms := [List.replicate 8 true, List.replicate 1024 true, m]) (fun _ => soundC) hr hl
    (ix := fun j => if j = 0 then ixOf a 7 else if j = 1 then ixOf b 1023 else ixOf c 3) (arg := fun j => if j = 0 then a else if j = 1 then b else c)
    (fun j l h => by
      have l0 := ixOf_le a 7
      have l1 := ixOf_le b 1023
      rcases j with _ | _ | _ | j
      · cases h
        rw [List.getElem?_replicate]
        exact if_pos (by simp only [if_pos]; omega)
      · cases h
        rw [List.getElem?_replicate]
        exact if_pos (by simp; omega)
      · cases h
        exact hm
      · cases h)
    (fun E h1 h2 => ⟨ok_argV (congrFun h2 0) (congrFun h1 0) (.inr hd) (by decide), ok_argV (congrFun h2 1) (congrFun h1 1) (.inl rfl) (by decide), ok_argV (congrFun h2 2) (congrFun h1 2) (.inl rfl) (by decide), trivial⟩)
  have e : (denL E [argV 0 7 d, argV 1 1023 0, argV 2 3 0]).toArray = #[.int .i64 (E.arg 0), .int .i64 (E.arg 1), .int .i64 (E.arg 2)] := by
    simp [denL, den, argV]
  rw [e, h2] at h
  exact h
theorem le7 {n : Nat} (h : n ≤ 7) : n = 0 ∨ n = 1 ∨ n = 2 ∨ n = 3 ∨ n = 4 ∨ n = 5 ∨ n = 6 ∨ n = 7 := by omega
theorem le3 {n : Nat} (h : n ≤ 3) : (([true, true, false, false] : List Bool)[n]? = some true) ∨ (([false, false, true, false] : List Bool)[n]? = some true) ∨ (([false, false, false, true] : List Bool)[n]? = some true) := by
  have : n = 0 ∨ n = 1 ∨ n = 2 ∨ n = 3 := by omega
  rcases this with rfl | rfl | rfl | rfl
  · exact .inl rfl
  · exact .inl rfl
  · exact .inr (.inl rfl)
  · exact .inr (.inr rfl)
theorem waits_true (a b c : Int) {W : World} (hl : Laid W) :
    Calls Tryz.prog 3 #[.int .i64 a, .int .i64 b, .int .i64 c] W fun e W' => e = .returned (.bool true) ∧ Below W.heap.size W W' := by
  rcases le7 (ixOf_le a 7) with h | h | h | h | h | h | h | h <;> rcases le3 (ixOf_le c 3) with hm | hm | hm
  · exact waits_key hl 1 [true, true, false, false] (by rw [h]) hm (run_of (b := start [List.replicate 8 true, List.replicate 1024 true, [true, true, false, false]] fun w => (ev Tryz.prog 6 100000).call 3 [argV 0 7 1, argV 1 1023 0, argV 2 3 0] w endK) ww0a)
  · exact waits_key hl 1 [false, false, true, false] (by rw [h]) hm (run_of (b := start [List.replicate 8 true, List.replicate 1024 true, [false, false, true, false]] fun w => (ev Tryz.prog 6 100000).call 3 [argV 0 7 1, argV 1 1023 0, argV 2 3 0] w endK) ww0b)
  · exact waits_key hl 1 [false, false, false, true] (by rw [h]) hm (run_of (b := start [List.replicate 8 true, List.replicate 1024 true, [false, false, false, true]] fun w => (ev Tryz.prog 6 100000).call 3 [argV 0 7 1, argV 1 1023 0, argV 2 3 0] w endK) ww0c)
  · exact waits_key hl 2 [true, true, false, false] (by rw [h]) hm (run_of (b := start [List.replicate 8 true, List.replicate 1024 true, [true, true, false, false]] fun w => (ev Tryz.prog 6 100000).call 3 [argV 0 7 2, argV 1 1023 0, argV 2 3 0] w endK) ww1a)
  · exact waits_key hl 2 [false, false, true, false] (by rw [h]) hm (run_of (b := start [List.replicate 8 true, List.replicate 1024 true, [false, false, true, false]] fun w => (ev Tryz.prog 6 100000).call 3 [argV 0 7 2, argV 1 1023 0, argV 2 3 0] w endK) ww1b)
  · exact waits_key hl 2 [false, false, false, true] (by rw [h]) hm (run_of (b := start [List.replicate 8 true, List.replicate 1024 true, [false, false, false, true]] fun w => (ev Tryz.prog 6 100000).call 3 [argV 0 7 2, argV 1 1023 0, argV 2 3 0] w endK) ww1c)
  · exact waits_key hl 3 [true, true, false, false] (by rw [h]) hm (run_of (b := start [List.replicate 8 true, List.replicate 1024 true, [true, true, false, false]] fun w => (ev Tryz.prog 6 100000).call 3 [argV 0 7 3, argV 1 1023 0, argV 2 3 0] w endK) ww2a)
  · exact waits_key hl 3 [false, false, true, false] (by rw [h]) hm (run_of (b := start [List.replicate 8 true, List.replicate 1024 true, [false, false, true, false]] fun w => (ev Tryz.prog 6 100000).call 3 [argV 0 7 3, argV 1 1023 0, argV 2 3 0] w endK) ww2b)
  · exact waits_key hl 3 [false, false, false, true] (by rw [h]) hm (run_of (b := start [List.replicate 8 true, List.replicate 1024 true, [false, false, false, true]] fun w => (ev Tryz.prog 6 100000).call 3 [argV 0 7 3, argV 1 1023 0, argV 2 3 0] w endK) ww2c)
  · exact waits_key hl 4 [true, true, false, false] (by rw [h]) hm (run_of (b := start [List.replicate 8 true, List.replicate 1024 true, [true, true, false, false]] fun w => (ev Tryz.prog 6 100000).call 3 [argV 0 7 4, argV 1 1023 0, argV 2 3 0] w endK) ww3a)
  · exact waits_key hl 4 [false, false, true, false] (by rw [h]) hm (run_of (b := start [List.replicate 8 true, List.replicate 1024 true, [false, false, true, false]] fun w => (ev Tryz.prog 6 100000).call 3 [argV 0 7 4, argV 1 1023 0, argV 2 3 0] w endK) ww3b)
  · exact waits_key hl 4 [false, false, false, true] (by rw [h]) hm (run_of (b := start [List.replicate 8 true, List.replicate 1024 true, [false, false, false, true]] fun w => (ev Tryz.prog 6 100000).call 3 [argV 0 7 4, argV 1 1023 0, argV 2 3 0] w endK) ww3c)
  · exact waits_key hl 5 [true, true, false, false] (by rw [h]) hm (run_of (b := start [List.replicate 8 true, List.replicate 1024 true, [true, true, false, false]] fun w => (ev Tryz.prog 6 100000).call 3 [argV 0 7 5, argV 1 1023 0, argV 2 3 0] w endK) ww4a)
  · exact waits_key hl 5 [false, false, true, false] (by rw [h]) hm (run_of (b := start [List.replicate 8 true, List.replicate 1024 true, [false, false, true, false]] fun w => (ev Tryz.prog 6 100000).call 3 [argV 0 7 5, argV 1 1023 0, argV 2 3 0] w endK) ww4b)
  · exact waits_key hl 5 [false, false, false, true] (by rw [h]) hm (run_of (b := start [List.replicate 8 true, List.replicate 1024 true, [false, false, false, true]] fun w => (ev Tryz.prog 6 100000).call 3 [argV 0 7 5, argV 1 1023 0, argV 2 3 0] w endK) ww4c)
  · exact waits_key hl 6 [true, true, false, false] (by rw [h]) hm (run_of (b := start [List.replicate 8 true, List.replicate 1024 true, [true, true, false, false]] fun w => (ev Tryz.prog 6 100000).call 3 [argV 0 7 6, argV 1 1023 0, argV 2 3 0] w endK) ww5a)
  · exact waits_key hl 6 [false, false, true, false] (by rw [h]) hm (run_of (b := start [List.replicate 8 true, List.replicate 1024 true, [false, false, true, false]] fun w => (ev Tryz.prog 6 100000).call 3 [argV 0 7 6, argV 1 1023 0, argV 2 3 0] w endK) ww5b)
  · exact waits_key hl 6 [false, false, false, true] (by rw [h]) hm (run_of (b := start [List.replicate 8 true, List.replicate 1024 true, [false, false, false, true]] fun w => (ev Tryz.prog 6 100000).call 3 [argV 0 7 6, argV 1 1023 0, argV 2 3 0] w endK) ww5c)
  · exact waits_key hl 7 [true, true, false, false] (by rw [h]) hm (run_of (b := start [List.replicate 8 true, List.replicate 1024 true, [true, true, false, false]] fun w => (ev Tryz.prog 6 100000).call 3 [argV 0 7 7, argV 1 1023 0, argV 2 3 0] w endK) ww6a)
  · exact waits_key hl 7 [false, false, true, false] (by rw [h]) hm (run_of (b := start [List.replicate 8 true, List.replicate 1024 true, [false, false, true, false]] fun w => (ev Tryz.prog 6 100000).call 3 [argV 0 7 7, argV 1 1023 0, argV 2 3 0] w endK) ww6b)
  · exact waits_key hl 7 [false, false, false, true] (by rw [h]) hm (run_of (b := start [List.replicate 8 true, List.replicate 1024 true, [false, false, false, true]] fun w => (ev Tryz.prog 6 100000).call 3 [argV 0 7 7, argV 1 1023 0, argV 2 3 0] w endK) ww6c)
  · exact waits_key hl 8 [true, true, false, false] (by rw [h]) hm (run_of (b := start [List.replicate 8 true, List.replicate 1024 true, [true, true, false, false]] fun w => (ev Tryz.prog 6 100000).call 3 [argV 0 7 8, argV 1 1023 0, argV 2 3 0] w endK) ww7a)
  · exact waits_key hl 8 [false, false, true, false] (by rw [h]) hm (run_of (b := start [List.replicate 8 true, List.replicate 1024 true, [false, false, true, false]] fun w => (ev Tryz.prog 6 100000).call 3 [argV 0 7 8, argV 1 1023 0, argV 2 3 0] w endK) ww7b)
  · exact waits_key hl 8 [false, false, false, true] (by rw [h]) hm (run_of (b := start [List.replicate 8 true, List.replicate 1024 true, [false, false, false, true]] fun w => (ev Tryz.prog 6 100000).call 3 [argV 0 7 8, argV 1 1023 0, argV 2 3 0] w endK) ww7c)
end Go.Proofs.YtcajgbpcimimhaaGreatDoor.Vm
