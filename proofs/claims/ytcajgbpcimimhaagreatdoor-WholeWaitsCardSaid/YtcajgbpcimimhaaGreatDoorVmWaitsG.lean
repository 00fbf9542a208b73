/- WholeWaits returns true at every three ints. Conditions: as each theorem names them. -/
import Derived.Test.YtcajgbpcimimhaaGreatDoorVmGhG
import Derived.Test.YtcajgbpcimimhaaGreatDoorVmCutsG
import Derived.Test.YtcajgbpcimimhaaGreatDoorVmV0G
import Derived.Test.YtcajgbpcimimhaaGreatDoorVmV1G
import Derived.Test.YtcajgbpcimimhaaGreatDoorVmV2G
import Derived.Test.YtcajgbpcimimhaaGreatDoorVmV3G
import Derived.Test.YtcajgbpcimimhaaGreatDoorVmV4G
import Derived.Test.YtcajgbpcimimhaaGreatDoorVmV5G
import Derived.Test.YtcajgbpcimimhaaGreatDoorVmV6G
import Derived.Test.YtcajgbpcimimhaaGreatDoorVmV7G
set_option linter.unusedVariables false
namespace Go.Proofs.YtcajgbpcimimhaaGreatDoor.Vm
open Go Go.Proofs Go.RowKit
theorem waits_key {a b c : Int} {W : World} (hl : Laid W) (d : Nat) (L : Lit) (j : Nat) (l : List (Nat × Lit)) (hd : ixOf a 7 + 1 = d)
    (hr : start [List.replicate 8 true, List.replicate 1024 true, List.replicate 4 true] (fun w => runHead Tryz.prog (ev Tryz.prog 6 100000) 3 7 L [argV 0 7 d, argV 1 1023 0, argV 2 3 0] w) = true) (hg : GoodR Tryz.prog (ev Tryz.prog 6 100000) 3 7 ((j, L) :: l)) :
    Calls Tryz.prog 3 #[.int .i64 a, .int .i64 b, .int .i64 c] W fun e W' => e = .returned (.bool true) ∧ Below W.heap.size W W' := by
  obtain ⟨E, h1, h2, h⟩ := cut_run (sp := 6) (n := 100000) (f := 3) (nn := 7) (args := [argV 0 7 d, argV 1 1023 0, argV 2 3 0]) (ms := [List.replicate 8 true, List.replicate 1024 true, List.replicate 4 true]) (fun _ => soundC) hr hg hl
    (ix := fun j => if j = 0 then ixOf a 7 else if j = 1 then ixOf b 1023 else ixOf c 3) (arg := fun j => if j = 0 then a else if j = 1 then b else c)
    (fun j l h => by
      have l0 := ixOf_le a 7
      have l1 := ixOf_le b 1023
      have l2 := ixOf_le c 3
      rcases j with _ | _ | _ | j
      · cases h
        rw [List.getElem?_replicate]
        exact if_pos (by simp only [if_pos]; omega)
      · cases h
        rw [List.getElem?_replicate]
        exact if_pos (by simp; omega)
      · cases h
        rw [List.getElem?_replicate]
        exact if_pos (by simp; omega)
      · cases h)
    (fun E h1 h2 => ⟨ok_argV (congrFun h2 0) (congrFun h1 0) (.inr hd) (by decide), ok_argV (congrFun h2 1) (congrFun h1 1) (.inl rfl) (by decide), ok_argV (congrFun h2 2) (congrFun h1 2) (.inl rfl) (by decide), trivial⟩)
  have e : (denL E [argV 0 7 d, argV 1 1023 0, argV 2 3 0]).toArray = #[.int .i64 (E.arg 0), .int .i64 (E.arg 1), .int .i64 (E.arg 2)] := by
    simp [denL, den, argV]
  rw [e, h2] at h
  exact h
theorem stretch_of {P : Program} {rec : Rec} {f n j : Nat} {L : Lit} {rest : List (Nat × Lit)} (hj : 1 ≤ j) (h : runSeg P rec f n j L (nextT rest) = true) (hg : GoodR P rec f n rest) : GoodR P rec f n ((j, L) :: rest) := ⟨⟨hj, h⟩, hg⟩
theorem le7 {n : Nat} (h : n ≤ 7) : n = 0 ∨ n = 1 ∨ n = 2 ∨ n = 3 ∨ n = 4 ∨ n = 5 ∨ n = 6 ∨ n = 7 := by omega
theorem wG0_2 : GoodR Tryz.prog (ev Tryz.prog 6 100000) 3 7 [(2, wL0_2)] :=
  stretch_of (rest := []) (by decide) (run_of (b := runSeg Tryz.prog (ev Tryz.prog 6 100000) 3 7 2 wL0_2 (fun _ _ _ => false)) wR0s2) trivial
theorem wG0_1 : GoodR Tryz.prog (ev Tryz.prog 6 100000) 3 7 [(2, wL0_1), (2, wL0_2)] :=
  stretch_of (rest := [(2, wL0_2)]) (by decide) (run_of (b := runSeg Tryz.prog (ev Tryz.prog 6 100000) 3 7 2 wL0_1 (fun c => tst wL0_2 c.m c.ex)) wR0s1) wG0_2
theorem wG0_0 : GoodR Tryz.prog (ev Tryz.prog 6 100000) 3 7 [(1, wL0_0), (2, wL0_1), (2, wL0_2)] :=
  stretch_of (rest := [(2, wL0_1), (2, wL0_2)]) (by decide) (run_of (b := runSeg Tryz.prog (ev Tryz.prog 6 100000) 3 7 1 wL0_0 (fun c => tst wL0_1 c.m c.ex)) wR0s0) wG0_1
theorem wG1_2 : GoodR Tryz.prog (ev Tryz.prog 6 100000) 3 7 [(2, wL1_2)] :=
  stretch_of (rest := []) (by decide) (run_of (b := runSeg Tryz.prog (ev Tryz.prog 6 100000) 3 7 2 wL1_2 (fun _ _ _ => false)) wR1s2) trivial
theorem wG1_1 : GoodR Tryz.prog (ev Tryz.prog 6 100000) 3 7 [(2, wL1_1), (2, wL1_2)] :=
  stretch_of (rest := [(2, wL1_2)]) (by decide) (run_of (b := runSeg Tryz.prog (ev Tryz.prog 6 100000) 3 7 2 wL1_1 (fun c => tst wL1_2 c.m c.ex)) wR1s1) wG1_2
theorem wG1_0 : GoodR Tryz.prog (ev Tryz.prog 6 100000) 3 7 [(1, wL1_0), (2, wL1_1), (2, wL1_2)] :=
  stretch_of (rest := [(2, wL1_1), (2, wL1_2)]) (by decide) (run_of (b := runSeg Tryz.prog (ev Tryz.prog 6 100000) 3 7 1 wL1_0 (fun c => tst wL1_1 c.m c.ex)) wR1s0) wG1_1
theorem wG2_2 : GoodR Tryz.prog (ev Tryz.prog 6 100000) 3 7 [(2, wL2_2)] :=
  stretch_of (rest := []) (by decide) (run_of (b := runSeg Tryz.prog (ev Tryz.prog 6 100000) 3 7 2 wL2_2 (fun _ _ _ => false)) wR2s2) trivial
theorem wG2_1 : GoodR Tryz.prog (ev Tryz.prog 6 100000) 3 7 [(2, wL2_1), (2, wL2_2)] :=
  stretch_of (rest := [(2, wL2_2)]) (by decide) (run_of (b := runSeg Tryz.prog (ev Tryz.prog 6 100000) 3 7 2 wL2_1 (fun c => tst wL2_2 c.m c.ex)) wR2s1) wG2_2
theorem wG2_0 : GoodR Tryz.prog (ev Tryz.prog 6 100000) 3 7 [(1, wL2_0), (2, wL2_1), (2, wL2_2)] :=
  stretch_of (rest := [(2, wL2_1), (2, wL2_2)]) (by decide) (run_of (b := runSeg Tryz.prog (ev Tryz.prog 6 100000) 3 7 1 wL2_0 (fun c => tst wL2_1 c.m c.ex)) wR2s0) wG2_1
theorem wG3_2 : GoodR Tryz.prog (ev Tryz.prog 6 100000) 3 7 [(2, wL3_2)] :=
  stretch_of (rest := []) (by decide) (run_of (b := runSeg Tryz.prog (ev Tryz.prog 6 100000) 3 7 2 wL3_2 (fun _ _ _ => false)) wR3s2) trivial
theorem wG3_1 : GoodR Tryz.prog (ev Tryz.prog 6 100000) 3 7 [(2, wL3_1), (2, wL3_2)] :=
  stretch_of (rest := [(2, wL3_2)]) (by decide) (run_of (b := runSeg Tryz.prog (ev Tryz.prog 6 100000) 3 7 2 wL3_1 (fun c => tst wL3_2 c.m c.ex)) wR3s1) wG3_2
theorem wG3_0 : GoodR Tryz.prog (ev Tryz.prog 6 100000) 3 7 [(1, wL3_0), (2, wL3_1), (2, wL3_2)] :=
  stretch_of (rest := [(2, wL3_1), (2, wL3_2)]) (by decide) (run_of (b := runSeg Tryz.prog (ev Tryz.prog 6 100000) 3 7 1 wL3_0 (fun c => tst wL3_1 c.m c.ex)) wR3s0) wG3_1
theorem wG4_2 : GoodR Tryz.prog (ev Tryz.prog 6 100000) 3 7 [(2, wL4_2)] :=
  stretch_of (rest := []) (by decide) (run_of (b := runSeg Tryz.prog (ev Tryz.prog 6 100000) 3 7 2 wL4_2 (fun _ _ _ => false)) wR4s2) trivial
theorem wG4_1 : GoodR Tryz.prog (ev Tryz.prog 6 100000) 3 7 [(2, wL4_1), (2, wL4_2)] :=
  stretch_of (rest := [(2, wL4_2)]) (by decide) (run_of (b := runSeg Tryz.prog (ev Tryz.prog 6 100000) 3 7 2 wL4_1 (fun c => tst wL4_2 c.m c.ex)) wR4s1) wG4_2
theorem wG4_0 : GoodR Tryz.prog (ev Tryz.prog 6 100000) 3 7 [(1, wL4_0), (2, wL4_1), (2, wL4_2)] :=
  stretch_of (rest := [(2, wL4_1), (2, wL4_2)]) (by decide) (run_of (b := runSeg Tryz.prog (ev Tryz.prog 6 100000) 3 7 1 wL4_0 (fun c => tst wL4_1 c.m c.ex)) wR4s0) wG4_1
theorem wG5_2 : GoodR Tryz.prog (ev Tryz.prog 6 100000) 3 7 [(2, wL5_2)] :=
  stretch_of (rest := []) (by decide) (run_of (b := runSeg Tryz.prog (ev Tryz.prog 6 100000) 3 7 2 wL5_2 (fun _ _ _ => false)) wR5s2) trivial
theorem wG5_1 : GoodR Tryz.prog (ev Tryz.prog 6 100000) 3 7 [(2, wL5_1), (2, wL5_2)] :=
  stretch_of (rest := [(2, wL5_2)]) (by decide) (run_of (b := runSeg Tryz.prog (ev Tryz.prog 6 100000) 3 7 2 wL5_1 (fun c => tst wL5_2 c.m c.ex)) wR5s1) wG5_2
theorem wG5_0 : GoodR Tryz.prog (ev Tryz.prog 6 100000) 3 7 [(1, wL5_0), (2, wL5_1), (2, wL5_2)] :=
  stretch_of (rest := [(2, wL5_1), (2, wL5_2)]) (by decide) (run_of (b := runSeg Tryz.prog (ev Tryz.prog 6 100000) 3 7 1 wL5_0 (fun c => tst wL5_1 c.m c.ex)) wR5s0) wG5_1
theorem wG6_2 : GoodR Tryz.prog (ev Tryz.prog 6 100000) 3 7 [(2, wL6_2)] :=
  stretch_of (rest := []) (by decide) (run_of (b := runSeg Tryz.prog (ev Tryz.prog 6 100000) 3 7 2 wL6_2 (fun _ _ _ => false)) wR6s2) trivial
theorem wG6_1 : GoodR Tryz.prog (ev Tryz.prog 6 100000) 3 7 [(2, wL6_1), (2, wL6_2)] :=
  stretch_of (rest := [(2, wL6_2)]) (by decide) (run_of (b := runSeg Tryz.prog (ev Tryz.prog 6 100000) 3 7 2 wL6_1 (fun c => tst wL6_2 c.m c.ex)) wR6s1) wG6_2
theorem wG6_0 : GoodR Tryz.prog (ev Tryz.prog 6 100000) 3 7 [(1, wL6_0), (2, wL6_1), (2, wL6_2)] :=
  stretch_of (rest := [(2, wL6_1), (2, wL6_2)]) (by decide) (run_of (b := runSeg Tryz.prog (ev Tryz.prog 6 100000) 3 7 1 wL6_0 (fun c => tst wL6_1 c.m c.ex)) wR6s0) wG6_1
theorem wG7_2 : GoodR Tryz.prog (ev Tryz.prog 6 100000) 3 7 [(2, wL7_2)] :=
  stretch_of (rest := []) (by decide) (run_of (b := runSeg Tryz.prog (ev Tryz.prog 6 100000) 3 7 2 wL7_2 (fun _ _ _ => false)) wR7s2) trivial
theorem wG7_1 : GoodR Tryz.prog (ev Tryz.prog 6 100000) 3 7 [(2, wL7_1), (2, wL7_2)] :=
  stretch_of (rest := [(2, wL7_2)]) (by decide) (run_of (b := runSeg Tryz.prog (ev Tryz.prog 6 100000) 3 7 2 wL7_1 (fun c => tst wL7_2 c.m c.ex)) wR7s1) wG7_2
theorem wG7_0 : GoodR Tryz.prog (ev Tryz.prog 6 100000) 3 7 [(1, wL7_0), (2, wL7_1), (2, wL7_2)] :=
  stretch_of (rest := [(2, wL7_1), (2, wL7_2)]) (by decide) (run_of (b := runSeg Tryz.prog (ev Tryz.prog 6 100000) 3 7 1 wL7_0 (fun c => tst wL7_1 c.m c.ex)) wR7s0) wG7_1
theorem waits_true (a b c : Int) {W : World} (hl : Laid W) :
    Calls Tryz.prog 3 #[.int .i64 a, .int .i64 b, .int .i64 c] W fun e W' => e = .returned (.bool true) ∧ Below W.heap.size W W' := by
  rcases le7 (ixOf_le a 7) with h | h | h | h | h | h | h | h
  · exact waits_key hl 1 wL0_0 1 [(2, wL0_1), (2, wL0_2)] (by rw [h]) (run_of (b := start [List.replicate 8 true, List.replicate 1024 true, List.replicate 4 true] fun w => runHead Tryz.prog (ev Tryz.prog 6 100000) 3 7 wL0_0 [argV 0 7 1, argV 1 1023 0, argV 2 3 0] w) wR0h) wG0_0
  · exact waits_key hl 2 wL1_0 1 [(2, wL1_1), (2, wL1_2)] (by rw [h]) (run_of (b := start [List.replicate 8 true, List.replicate 1024 true, List.replicate 4 true] fun w => runHead Tryz.prog (ev Tryz.prog 6 100000) 3 7 wL1_0 [argV 0 7 2, argV 1 1023 0, argV 2 3 0] w) wR1h) wG1_0
  · exact waits_key hl 3 wL2_0 1 [(2, wL2_1), (2, wL2_2)] (by rw [h]) (run_of (b := start [List.replicate 8 true, List.replicate 1024 true, List.replicate 4 true] fun w => runHead Tryz.prog (ev Tryz.prog 6 100000) 3 7 wL2_0 [argV 0 7 3, argV 1 1023 0, argV 2 3 0] w) wR2h) wG2_0
  · exact waits_key hl 4 wL3_0 1 [(2, wL3_1), (2, wL3_2)] (by rw [h]) (run_of (b := start [List.replicate 8 true, List.replicate 1024 true, List.replicate 4 true] fun w => runHead Tryz.prog (ev Tryz.prog 6 100000) 3 7 wL3_0 [argV 0 7 4, argV 1 1023 0, argV 2 3 0] w) wR3h) wG3_0
  · exact waits_key hl 5 wL4_0 1 [(2, wL4_1), (2, wL4_2)] (by rw [h]) (run_of (b := start [List.replicate 8 true, List.replicate 1024 true, List.replicate 4 true] fun w => runHead Tryz.prog (ev Tryz.prog 6 100000) 3 7 wL4_0 [argV 0 7 5, argV 1 1023 0, argV 2 3 0] w) wR4h) wG4_0
  · exact waits_key hl 6 wL5_0 1 [(2, wL5_1), (2, wL5_2)] (by rw [h]) (run_of (b := start [List.replicate 8 true, List.replicate 1024 true, List.replicate 4 true] fun w => runHead Tryz.prog (ev Tryz.prog 6 100000) 3 7 wL5_0 [argV 0 7 6, argV 1 1023 0, argV 2 3 0] w) wR5h) wG5_0
  · exact waits_key hl 7 wL6_0 1 [(2, wL6_1), (2, wL6_2)] (by rw [h]) (run_of (b := start [List.replicate 8 true, List.replicate 1024 true, List.replicate 4 true] fun w => runHead Tryz.prog (ev Tryz.prog 6 100000) 3 7 wL6_0 [argV 0 7 7, argV 1 1023 0, argV 2 3 0] w) wR6h) wG6_0
  · exact waits_key hl 8 wL7_0 1 [(2, wL7_1), (2, wL7_2)] (by rw [h]) (run_of (b := start [List.replicate 8 true, List.replicate 1024 true, List.replicate 4 true] fun w => runHead Tryz.prog (ev Tryz.prog 6 100000) 3 7 wL7_0 [argV 0 7 8, argV 1 1023 0, argV 2 3 0] w) wR7h) wG7_0
end Go.Proofs.YtcajgbpcimimhaaGreatDoor.Vm
