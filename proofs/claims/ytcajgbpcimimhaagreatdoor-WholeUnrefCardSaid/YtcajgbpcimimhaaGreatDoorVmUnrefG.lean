/- WholeUnref returns true at every two ints. Conditions: as each theorem names them. -/
import Derived.Test.YtcajgbpcimimhaaGreatDoorVmGhG
import Derived.Test.YtcajgbpcimimhaaGreatDoorVmCutsG
import Derived.Test.YtcajgbpcimimhaaGreatDoorVmU0HG
import Derived.Test.YtcajgbpcimimhaaGreatDoorVmU0S0G
import Derived.Test.YtcajgbpcimimhaaGreatDoorVmU0S1G
import Derived.Test.YtcajgbpcimimhaaGreatDoorVmU1HG
import Derived.Test.YtcajgbpcimimhaaGreatDoorVmU1S0G
import Derived.Test.YtcajgbpcimimhaaGreatDoorVmU1S1G
import Derived.Test.YtcajgbpcimimhaaGreatDoorVmU1S2G
import Derived.Test.YtcajgbpcimimhaaGreatDoorVmU1S3G
import Derived.Test.YtcajgbpcimimhaaGreatDoorVmU2HG
import Derived.Test.YtcajgbpcimimhaaGreatDoorVmU2S0G
import Derived.Test.YtcajgbpcimimhaaGreatDoorVmU2S1G
import Derived.Test.YtcajgbpcimimhaaGreatDoorVmU2S2G
import Derived.Test.YtcajgbpcimimhaaGreatDoorVmU2S3G
import Derived.Test.YtcajgbpcimimhaaGreatDoorVmU2S4G
import Derived.Test.YtcajgbpcimimhaaGreatDoorVmU3HG
import Derived.Test.YtcajgbpcimimhaaGreatDoorVmU3S0G
import Derived.Test.YtcajgbpcimimhaaGreatDoorVmU3S1G
import Derived.Test.YtcajgbpcimimhaaGreatDoorVmU3S2G
import Derived.Test.YtcajgbpcimimhaaGreatDoorVmU3S3G
import Derived.Test.YtcajgbpcimimhaaGreatDoorVmU3S4G
import Derived.Test.YtcajgbpcimimhaaGreatDoorVmU3S5G
import Derived.Test.YtcajgbpcimimhaaGreatDoorVmU3S6G
set_option linter.unusedVariables false
namespace Go.Proofs.YtcajgbpcimimhaaGreatDoor.Vm
open Go Go.Proofs Go.RowKit
theorem unref_key {a b : Int} {W : World} (hl : Laid W) (d : Nat) (L : Lit) (j : Nat) (l : List (Nat × Lit)) (hd : ixOf b 3 + 1 = d)
    (hr : start [List.replicate 32 true, List.replicate 4 true] (fun w => runHead Tryz.prog (ev Tryz.prog 6 100000) 4 10 L [argV 0 31 0, argV 1 3 d] w) = true) (hg : GoodR Tryz.prog (ev Tryz.prog 6 100000) 4 10 ((j, L) :: l)) :
    Calls Tryz.prog 4 #[.int .i64 a, .int .i64 b] W fun e W' => e = .returned (.bool true) ∧ Below W.heap.size W W' := by
  obtain ⟨E, h1, h2, h⟩ := cut_run (sp := 6) (n := 100000) (f := 4) (nn := 10) (args := [argV 0 31 0, argV 1 3 d]) (ms := [List.replicate 32 true, List.replicate 4 true]) (fun _ => soundC) hr hg hl
    (ix := fun j => if j = 0 then ixOf a 31 else ixOf b 3) (arg := fun j => if j = 0 then a else b)
    (fun j l h => by
      have l0 := ixOf_le a 31
      have l1 := ixOf_le b 3
      rcases j with _ | _ | j
      · cases h
        rw [List.getElem?_replicate]
        exact if_pos (by simp only [if_pos]; omega)
      · cases h
        rw [List.getElem?_replicate]
        exact if_pos (by simp; omega)
      · cases h)
    (fun E h1 h2 => ⟨ok_argV (congrFun h2 0) (congrFun h1 0) (.inl rfl) (by decide), ok_argV (congrFun h2 1) (congrFun h1 1) (.inr hd) (by decide), trivial⟩)
  have e : (denL E [argV 0 31 0, argV 1 3 d]).toArray = #[.int .i64 (E.arg 0), .int .i64 (E.arg 1)] := by
    simp [denL, den, argV]
  rw [e, h2] at h
  exact h
theorem seg_of {P : Program} {rec : Rec} {f n j : Nat} {L : Lit} {rest : List (Nat × Lit)} (hj : 1 ≤ j) (h : runSeg P rec f n j L (nextT rest) = true) (hg : GoodR P rec f n rest) : GoodR P rec f n ((j, L) :: rest) := ⟨⟨hj, h⟩, hg⟩
theorem uG0_1 : GoodR Tryz.prog (ev Tryz.prog 6 100000) 4 10 [(14, uL0_1)] :=
  seg_of (rest := []) (by decide) (run_of (b := runSeg Tryz.prog (ev Tryz.prog 6 100000) 4 10 14 uL0_1 (fun _ _ _ => false)) uR0s1) trivial
theorem uG0_0 : GoodR Tryz.prog (ev Tryz.prog 6 100000) 4 10 [(14, uL0_0), (14, uL0_1)] :=
  seg_of (rest := [(14, uL0_1)]) (by decide) (run_of (b := runSeg Tryz.prog (ev Tryz.prog 6 100000) 4 10 14 uL0_0 (fun c => tst uL0_1 c.m c.ex)) uR0s0) uG0_1
theorem uG1_3 : GoodR Tryz.prog (ev Tryz.prog 6 100000) 4 10 [(10, uL1_3)] :=
  seg_of (rest := []) (by decide) (run_of (b := runSeg Tryz.prog (ev Tryz.prog 6 100000) 4 10 10 uL1_3 (fun _ _ _ => false)) uR1s3) trivial
theorem uG1_2 : GoodR Tryz.prog (ev Tryz.prog 6 100000) 4 10 [(11, uL1_2), (10, uL1_3)] :=
  seg_of (rest := [(10, uL1_3)]) (by decide) (run_of (b := runSeg Tryz.prog (ev Tryz.prog 6 100000) 4 10 11 uL1_2 (fun c => tst uL1_3 c.m c.ex)) uR1s2) uG1_3
theorem uG1_1 : GoodR Tryz.prog (ev Tryz.prog 6 100000) 4 10 [(11, uL1_1), (11, uL1_2), (10, uL1_3)] :=
  seg_of (rest := [(11, uL1_2), (10, uL1_3)]) (by decide) (run_of (b := runSeg Tryz.prog (ev Tryz.prog 6 100000) 4 10 11 uL1_1 (fun c => tst uL1_2 c.m c.ex)) uR1s1) uG1_2
theorem uG1_0 : GoodR Tryz.prog (ev Tryz.prog 6 100000) 4 10 [(11, uL1_0), (11, uL1_1), (11, uL1_2), (10, uL1_3)] :=
  seg_of (rest := [(11, uL1_1), (11, uL1_2), (10, uL1_3)]) (by decide) (run_of (b := runSeg Tryz.prog (ev Tryz.prog 6 100000) 4 10 11 uL1_0 (fun c => tst uL1_1 c.m c.ex)) uR1s0) uG1_1
theorem uG2_4 : GoodR Tryz.prog (ev Tryz.prog 6 100000) 4 10 [(13, uL2_4)] :=
  seg_of (rest := []) (by decide) (run_of (b := runSeg Tryz.prog (ev Tryz.prog 6 100000) 4 10 13 uL2_4 (fun _ _ _ => false)) uR2s4) trivial
theorem uG2_3 : GoodR Tryz.prog (ev Tryz.prog 6 100000) 4 10 [(12, uL2_3), (13, uL2_4)] :=
  seg_of (rest := [(13, uL2_4)]) (by decide) (run_of (b := runSeg Tryz.prog (ev Tryz.prog 6 100000) 4 10 12 uL2_3 (fun c => tst uL2_4 c.m c.ex)) uR2s3) uG2_4
theorem uG2_2 : GoodR Tryz.prog (ev Tryz.prog 6 100000) 4 10 [(11, uL2_2), (12, uL2_3), (13, uL2_4)] :=
  seg_of (rest := [(12, uL2_3), (13, uL2_4)]) (by decide) (run_of (b := runSeg Tryz.prog (ev Tryz.prog 6 100000) 4 10 11 uL2_2 (fun c => tst uL2_3 c.m c.ex)) uR2s2) uG2_3
theorem uG2_1 : GoodR Tryz.prog (ev Tryz.prog 6 100000) 4 10 [(11, uL2_1), (11, uL2_2), (12, uL2_3), (13, uL2_4)] :=
  seg_of (rest := [(11, uL2_2), (12, uL2_3), (13, uL2_4)]) (by decide) (run_of (b := runSeg Tryz.prog (ev Tryz.prog 6 100000) 4 10 11 uL2_1 (fun c => tst uL2_2 c.m c.ex)) uR2s1) uG2_2
theorem uG2_0 : GoodR Tryz.prog (ev Tryz.prog 6 100000) 4 10 [(11, uL2_0), (11, uL2_1), (11, uL2_2), (12, uL2_3), (13, uL2_4)] :=
  seg_of (rest := [(11, uL2_1), (11, uL2_2), (12, uL2_3), (13, uL2_4)]) (by decide) (run_of (b := runSeg Tryz.prog (ev Tryz.prog 6 100000) 4 10 11 uL2_0 (fun c => tst uL2_1 c.m c.ex)) uR2s0) uG2_1
theorem uG3_6 : GoodR Tryz.prog (ev Tryz.prog 6 100000) 4 10 [(9, uL3_6)] :=
  seg_of (rest := []) (by decide) (run_of (b := runSeg Tryz.prog (ev Tryz.prog 6 100000) 4 10 9 uL3_6 (fun _ _ _ => false)) uR3s6) trivial
theorem uG3_5 : GoodR Tryz.prog (ev Tryz.prog 6 100000) 4 10 [(9, uL3_5), (9, uL3_6)] :=
  seg_of (rest := [(9, uL3_6)]) (by decide) (run_of (b := runSeg Tryz.prog (ev Tryz.prog 6 100000) 4 10 9 uL3_5 (fun c => tst uL3_6 c.m c.ex)) uR3s5) uG3_6
theorem uG3_4 : GoodR Tryz.prog (ev Tryz.prog 6 100000) 4 10 [(11, uL3_4), (9, uL3_5), (9, uL3_6)] :=
  seg_of (rest := [(9, uL3_5), (9, uL3_6)]) (by decide) (run_of (b := runSeg Tryz.prog (ev Tryz.prog 6 100000) 4 10 11 uL3_4 (fun c => tst uL3_5 c.m c.ex)) uR3s4) uG3_5
theorem uG3_3 : GoodR Tryz.prog (ev Tryz.prog 6 100000) 4 10 [(11, uL3_3), (11, uL3_4), (9, uL3_5), (9, uL3_6)] :=
  seg_of (rest := [(11, uL3_4), (9, uL3_5), (9, uL3_6)]) (by decide) (run_of (b := runSeg Tryz.prog (ev Tryz.prog 6 100000) 4 10 11 uL3_3 (fun c => tst uL3_4 c.m c.ex)) uR3s3) uG3_4
theorem uG3_2 : GoodR Tryz.prog (ev Tryz.prog 6 100000) 4 10 [(11, uL3_2), (11, uL3_3), (11, uL3_4), (9, uL3_5), (9, uL3_6)] :=
  seg_of (rest := [(11, uL3_3), (11, uL3_4), (9, uL3_5), (9, uL3_6)]) (by decide) (run_of (b := runSeg Tryz.prog (ev Tryz.prog 6 100000) 4 10 11 uL3_2 (fun c => tst uL3_3 c.m c.ex)) uR3s2) uG3_3
theorem uG3_1 : GoodR Tryz.prog (ev Tryz.prog 6 100000) 4 10 [(11, uL3_1), (11, uL3_2), (11, uL3_3), (11, uL3_4), (9, uL3_5), (9, uL3_6)] :=
  seg_of (rest := [(11, uL3_2), (11, uL3_3), (11, uL3_4), (9, uL3_5), (9, uL3_6)]) (by decide) (run_of (b := runSeg Tryz.prog (ev Tryz.prog 6 100000) 4 10 11 uL3_1 (fun c => tst uL3_2 c.m c.ex)) uR3s1) uG3_2
theorem uG3_0 : GoodR Tryz.prog (ev Tryz.prog 6 100000) 4 10 [(11, uL3_0), (11, uL3_1), (11, uL3_2), (11, uL3_3), (11, uL3_4), (9, uL3_5), (9, uL3_6)] :=
  seg_of (rest := [(11, uL3_1), (11, uL3_2), (11, uL3_3), (11, uL3_4), (9, uL3_5), (9, uL3_6)]) (by decide) (run_of (b := runSeg Tryz.prog (ev Tryz.prog 6 100000) 4 10 11 uL3_0 (fun c => tst uL3_1 c.m c.ex)) uR3s0) uG3_1
theorem unref_true (a b : Int) {W : World} (hl : Laid W) :
    Calls Tryz.prog 4 #[.int .i64 a, .int .i64 b] W fun e W' => e = .returned (.bool true) ∧ Below W.heap.size W W' := by
  have h := ixOf_le b 3
  have h : ixOf b 3 = 0 ∨ ixOf b 3 = 1 ∨ ixOf b 3 = 2 ∨ ixOf b 3 = 3 := by omega
  rcases h with h | h | h | h
  · exact unref_key hl 1 uL0_0 14 [(14, uL0_1)] (by rw [h]) (run_of (b := start [List.replicate 32 true, List.replicate 4 true] fun w => runHead Tryz.prog (ev Tryz.prog 6 100000) 4 10 uL0_0 [argV 0 31 0, argV 1 3 1] w) uR0h) uG0_0
  · exact unref_key hl 2 uL1_0 11 [(11, uL1_1), (11, uL1_2), (10, uL1_3)] (by rw [h]) (run_of (b := start [List.replicate 32 true, List.replicate 4 true] fun w => runHead Tryz.prog (ev Tryz.prog 6 100000) 4 10 uL1_0 [argV 0 31 0, argV 1 3 2] w) uR1h) uG1_0
  · exact unref_key hl 3 uL2_0 11 [(11, uL2_1), (11, uL2_2), (12, uL2_3), (13, uL2_4)] (by rw [h]) (run_of (b := start [List.replicate 32 true, List.replicate 4 true] fun w => runHead Tryz.prog (ev Tryz.prog 6 100000) 4 10 uL2_0 [argV 0 31 0, argV 1 3 3] w) uR2h) uG2_0
  · exact unref_key hl 4 uL3_0 11 [(11, uL3_1), (11, uL3_2), (11, uL3_3), (11, uL3_4), (9, uL3_5), (9, uL3_6)] (by rw [h]) (run_of (b := start [List.replicate 32 true, List.replicate 4 true] fun w => runHead Tryz.prog (ev Tryz.prog 6 100000) 4 10 uL3_0 [argV 0 31 0, argV 1 3 4] w) uR3h) uG3_0
end Go.Proofs.YtcajgbpcimimhaaGreatDoor.Vm
