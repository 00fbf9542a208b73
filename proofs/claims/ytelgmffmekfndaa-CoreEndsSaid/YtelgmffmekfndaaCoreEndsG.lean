/- CoreEnds: the walk of the law. Conditions: as each theorem names them. -/
import Derived.Test.YtelgmffmekfndaaCoreEndsRG
import Derived.Test.YtelgmffmekfndaaCoreEqsG
set_option linter.unusedVariables false
namespace Go.Proofs.Ytelgmffmekfndaa
open Go.ChangeShapes Go.WideShapes Go.ChangeAt Go.RowKit

set_option maxRecDepth 100000 in
set_option maxHeartbeats 4000000 in
theorem ends_many (op A B C imm pc : Int) (rv : Value) (n : Nat) (zs : Nat → Int) (w : World) (hv : RegsAt w rv n zs) (hn : 16 < n) (hn2 : (n : Int) ≤ 9223372036854775807) : Calls Try.prog 18 #[.agg #[.int .i64 op, .int .i64 A, .int .i64 B, .int .i64 C, .int .i32 imm], rv, .int .u64 pc] w fun e w' => e = .returned (.bool true) ∧ Below w.heap.size w w' := by
  obtain ⟨ao, cap, rfl, -, -, -⟩ := hv
  have hnI : decide ((n : Int) > 16) = true := by simp; omega
  have hnI2 : (16 : Int) < (n : Int) := by omega
  go_enter Try.func18, Try.ntmps18
  go_wp2_with fail
  refine (fit09_any _).mono ?_
  rintro e w1 ⟨rfl, hb1⟩
  have HB := Lib.hid (((Below.refl _ w).alloc (Nat.le_refl _) _).trans (hb1.mono (by simp)))
  clear hb1
  go_wp2_with fail
  go_ret
  exact ⟨rfl, HB.out⟩

set_option maxRecDepth 100000 in
set_option maxHeartbeats 8000000 in
theorem ends_set (op A B C imm pc r : Int) (hr : pc.tmod 3 = r) (hr3 : (r == 0) = true) (p0 : 0 ≤ pc) (p1 : pc < 18446744073709551616) (rv : Value) (n : Nat) (zs : Nat → Int) (w : World) (hv : RegsAt w rv n zs) (hn : n ≤ 16) : Calls Try.prog 18 #[.agg #[.int .i64 op, .int .i64 A, .int .i64 B, .int .i64 C, .int .i32 imm], rv, .int .u64 pc] w fun e w' => e = .returned (.bool true) ∧ Below w.heap.size w w' := by
  have HV := Lib.hid hv
  obtain ⟨ao, cap, hrv, -, -, -⟩ := hv
  have hnI : decide ((n : Int) > 16) = false := by simp; omega
  have hnI2 : ¬ (16 : Int) < (n : Int) := by omega
  obtain ⟨A', hA⟩ : ∃ a, bits .and .i64 A 15 = a := ⟨_, rfl⟩
  obtain ⟨B', hB⟩ : ∃ a, bits .and .i64 B 15 = a := ⟨_, rfl⟩
  obtain ⟨C', hC⟩ : ∃ a, bits .and .i64 C 15 = a := ⟨_, rfl⟩
  have hmk : ∀ w, (Instr.makeSlice 48 (.int .i64 128) (.int .i64 128)).run Try.prog w = .ok (.slice (some ⟨w.heap.size, 0, none⟩) 128 128) (w.alloc (.cells (madeCells #[.int .u8 0] 128) 5)) := make_bytes 128 (by omega)
  rw [hrv] at HV ⊢
  clear hrv
  go_enter Try.func18, Try.ntmps18
  go_wp2_with fail
  refine (fit09_any _).mono ?_
  rintro e w1 ⟨rfl, hb1⟩
  have hbw := ((Below.refl _ w).alloc (Nat.le_refl _) (insO op A B C imm)).trans (hb1.mono (by simp))
  have hzw : w.heap.size < w1.heap.size := by have := hb1.size; simp at this; omega
  have hi1 := (InsAt.new w op A B C imm).grown (row := none) (grown_of_below hb1 none) (by simp) (by simp)
  have q0 := hi1.c0
  have q1 := hi1.c1
  have q2 := hi1.c2
  have q3 := hi1.c3
  have q4 := hi1.c4
  have f1 := hi1.fz 1
  have f2 := hi1.fz 2
  have f3 := hi1.fz 3
  have HI := Lib.hid (hi1.set3 A' B' C')
  have HBW := Lib.hid hbw
  clear hb1 hi1 hbw
  go_wp2_with fail
  obtain ⟨w2, hw2⟩ : ∃ w2, ((w1.setCell ⟨w.heap.size, 1, none⟩ (.int .i64 A')).setCell ⟨w.heap.size, 2, none⟩ (.int .i64 B')).setCell ⟨w.heap.size, 3, none⟩ (.int .i64 C') = w2 := ⟨_, rfl⟩
  have hs2 : w2.heap.size = w1.heap.size := by rw [← hw2]; simp [World.setCell]
  have hb2 : Below w.heap.size w w2 := by rw [← hw2]; exact ((HBW.out.setCell (Nat.le_refl _) _).setCell (Nat.le_refl _) _).setCell (Nat.le_refl _) _
  rw [hw2] at HI ⊢
  clear q0 q1 q2 q3 q4 f1 f2 f3 HBW
  have hm2 := mem_new w2 128 0 (by omega) (by omega)
  rw [hs2] at hm2
  have hsz : ((w2.alloc (.cells (madeCells #[.int .u8 0] 128) 5)).alloc (.cells #[.slice (some ⟨w1.heap.size, 0, none⟩) 128 128, .int .i64 0] 54)).heap.size = w1.heap.size + 2 := by simp [hs2]
  have hg2 : w2.grownBy ((w2.alloc (.cells (madeCells #[.int .u8 0] 128) 5)).alloc (.cells #[.slice (some ⟨w1.heap.size, 0, none⟩) 128 128, .int .i64 0] 54)) none := (World.grownBy_alloc _ _ _).trans (World.grownBy_alloc _ _ _)
  have hi2 := HI.out.grown hg2 (by simp) (by rw [hs2]; exact hzw)
  have hb3 := hb2.trans ⟨hg2.os, hg2.tape, hg2.output, hg2.size, fun k hk => hg2.block k (by rw [hs2]; omega) (by simp)⟩
  have HB3 := Lib.hid hb3
  clear hb2 hb3 hw2 hg2 hmk HI
  generalize (w2.alloc _).alloc _ = wq at *
  have hXg : w.heap.size ≠ w1.heap.size := by omega
  refine copy18 (w1.heap.size + 1) w1.heap.size 128 128 0 (fun _ => 0) w.heap.size op A' B' C' imm wq hm2 (by omega) (by omega) (by omega) (by omega) hm2.cb hi2.c0 hi2.c1 hi2.c2 hi2.c3 hi2.c4 (by omega) hXg hXg hXg hXg hXg _ rfl rfl rfl _ ?_
  intro b9 w3 hcp
  have hz3 : w1.heap.size + 2 ≤ w3.heap.size := by have h1 := hcp.env.size; have h2 : wq.drew.heap.size = wq.heap.size := rfl; omega
  have hb4 := below_grown HB3.out.drew hcp.env (by omega)
  have hcn := core_new w3 pc 57 (by omega)
  have hmn := hcp.mem.grown (World.grownBy_alloc w3 (.cells (coreV (fun _ => 0) pc) 57) none) (by simp) (by simp) (by omega)
  have hb5 := hb4.alloc (by omega) (.cells (coreV (fun _ => 0) pc) 57)
  have hrg := HV.out.below hb5 (Nat.le_refl _)
  have hcr := fun ty => copy_regs hcn hrg hn ty
  have hsz5 : (w3.alloc (.cells (coreV (fun _ => 0) pc) 57)).heap.size = w3.heap.size + 1 := by simp
  obtain ⟨w5, hw5⟩ : ∃ w5, (w3.alloc (.cells (coreV (fun _ => 0) pc) 57)).setCells w3.heap.size 0 (((List.range n).map zs).map (Value.int .u64)) = w5 := ⟨_, rfl⟩
  rw [hw5] at hcr
  have hrun := fun ty => (hcr ty).1
  obtain ⟨_, hc5, hg5⟩ := hcr 0
  have hm5 := hmn.grown hg5 (by simp; omega) (by simp; omega) (by rw [hsz5]; omega)
  have hb6 := below_grown hb5 hg5 (by omega)
  have hz5 : w3.heap.size + 1 ≤ w5.heap.size := by have := hg5.size; rw [hsz5] at this; exact this
  generalize layL (fun _ => 0) 0 ((List.range n).map zs) = R at *
  generalize layL (fun _ => 0) 64 (encL op A' B' C' imm) = f at *
  have HC5 := Lib.hid hc5
  have HM5 := Lib.hid hm5
  have HB6 := Lib.hid hb6
  clear hcp hb4 hcn hmn hb5 hrg hcr hw5 hg5 hc5 hm5 hb6 hi2 hm2 HB3 hsz hsz5
  simp only [Act.put, List.setIfInBounds_toArray, List.set_cons_succ, List.set_cons_zero]
  go_wp2_with fail
  refine ends_reg w3.heap.size (w1.heap.size + 1) w1.heap.size 128 128 0 pc R f w5 HC5.out HM5.out (by omega) _ rfl rfl rfl _ ?_
  intro b8 hb8
  have hcd := HC5.out.grown (W' := w5.drew) (row := none) ⟨rfl, rfl, rfl, Nat.le_refl _, fun _ _ _ => rfl⟩ (by simp)
  have hmd := HM5.out.grown (W' := w5.drew) (row := none) ⟨rfl, rfl, rfl, Nat.le_refl _, fun _ _ _ => rfl⟩ (by simp) (by simp) (by omega)
  have hz8 : w5.drew.heap.size = w5.heap.size := rfl
  have hst : St (w5.drew.alloc (.cells (coreV R pc) 57)) w3.heap.size (w1.heap.size + 1) w1.heap.size 128 128 0 R pc f :=
    ⟨hcd.grown (World.grownBy_alloc _ _ none) (by simp), hmd.grown (World.grownBy_alloc _ _ none) (by simp) (by simp) (by omega), by omega, by omega, by omega, by simp; omega⟩
  have hold := core_lit w5.drew R pc hcd.rb hcd.pb
  rw [← hb8] at hold
  have hB7 := HB6.out.drew.alloc (by rw [hz8]; omega) (.cells (coreV R pc) 57)
  obtain ⟨en, R', pc', f', e0, e2, hal, _⟩ := step_alike 128 0 R pc f hcd.rb hcd.pb hmd.rg
  have HS := Lib.hid (hal _ _ _ _ _ hst)
  have HO := Lib.hid hold
  have HB7 := Lib.hid hB7
  have HE2 := Lib.hid e2
  have hb8n : b8 ≠ w3.heap.size ∧ b8 ≠ w1.heap.size := by omega
  clear hcd hmd hst hold hB7 hal e2 hb8
  generalize w5.drew.alloc _ = w6 at *
  obtain ⟨O, hO⟩ : ∃ O, strF f 0 128 = O := ⟨_, rfl⟩
  have HOO := Lib.hid hO
  rw [hO]
  clear hO
  simp only [Act.put, List.setIfInBounds_toArray, List.set_cons_succ, List.set_cons_zero]
  go_wp2_with fail
  refine HS.out.mono ?_
  rintro e w7 ⟨rfl, hS7, hk7⟩
  have HB9 := Lib.hid (below_kept2 HB7.out hk7 (by omega) (by omega))
  have ho7 := HO.out.kept2 hk7 hb8n.1 hb8n.2
  clear hk7
  by_cases hen : en ≤ 1
  · as_aux_lemma =>
      clear hS7 ho7
      have hd : decide (en ≤ 1) = true := by simpa using hen
      go_wp2_with fail
      go_ret
      exact ⟨rfl, HB9.out⟩
  · as_aux_lemma =>
      obtain ⟨eR, ep, ef⟩ := HE2.out (by omega)
      rw [eR, ep, ef] at hS7
      clear eR ep ef
      have hd : decide (en ≤ 1) = false := by simpa using hen
      have hc7 := hS7.core
      have hm7 := hS7.mem
      have hcv := conv_at hm7 0 128 128 (by omega)
      have hcb := hm7.cb
      rw [HOO.out] at hcv
      have heq := eq_core R pc
      have heq1 := eq_arr1 R
      clear hS7
      have a0 := hc7.r 0 (by omega)
      have a1 := hc7.r 1 (by omega)
      have a2 := hc7.r 2 (by omega)
      have a3 := hc7.r 3 (by omega)
      have a4 := hc7.r 4 (by omega)
      have a5 := hc7.r 5 (by omega)
      have a6 := hc7.r 6 (by omega)
      have a7 := hc7.r 7 (by omega)
      have a8 := hc7.r 8 (by omega)
      have a9 := hc7.r 9 (by omega)
      have a10 := hc7.r 10 (by omega)
      have a11 := hc7.r 11 (by omega)
      have a12 := hc7.r 12 (by omega)
      have a13 := hc7.r 13 (by omega)
      have a14 := hc7.r 14 (by omega)
      have a15 := hc7.r 15 (by omega)
      have a16 := hc7.p
      have b0 := ho7.r 0 (by omega)
      have b1 := ho7.r 1 (by omega)
      have b2 := ho7.r 2 (by omega)
      have b3 := ho7.r 3 (by omega)
      have b4 := ho7.r 4 (by omega)
      have b5 := ho7.r 5 (by omega)
      have b6 := ho7.r 6 (by omega)
      have b7 := ho7.r 7 (by omega)
      have b8 := ho7.r 8 (by omega)
      have b9 := ho7.r 9 (by omega)
      have b10 := ho7.r 10 (by omega)
      have b11 := ho7.r 11 (by omega)
      have b12 := ho7.r 12 (by omega)
      have b13 := ho7.r 13 (by omega)
      have b14 := ho7.r 14 (by omega)
      have b15 := ho7.r 15 (by omega)
      have b16 := ho7.p
      clear ho7 hc7 hm7 hen
      go_wp2_with fail
      go_ret
      exact ⟨rfl, HB9.out⟩

set_option maxRecDepth 100000 in
set_option maxHeartbeats 8000000 in
theorem ends_at (op A B C imm pc r : Int) (hr : pc.tmod 3 = r) (hr3 : (r == 0) = false) (p0 : 0 ≤ pc) (p1 : pc < 18446744073709551616) (rv : Value) (n : Nat) (zs : Nat → Int) (w : World) (hv : RegsAt w rv n zs) (hn : n ≤ 16) : Calls Try.prog 18 #[.agg #[.int .i64 op, .int .i64 A, .int .i64 B, .int .i64 C, .int .i32 imm], rv, .int .u64 pc] w fun e w' => e = .returned (.bool true) ∧ Below w.heap.size w w' := by
  have HV := Lib.hid hv
  obtain ⟨ao, cap, hrv, -, -, -⟩ := hv
  have hnI : decide ((n : Int) > 16) = false := by simp; omega
  have hnI2 : ¬ (16 : Int) < (n : Int) := by omega
  obtain ⟨A', hA⟩ : ∃ a, bits .and .i64 A 15 = a := ⟨_, rfl⟩
  obtain ⟨B', hB⟩ : ∃ a, bits .and .i64 B 15 = a := ⟨_, rfl⟩
  obtain ⟨C', hC⟩ : ∃ a, bits .and .i64 C 15 = a := ⟨_, rfl⟩
  have hmk : ∀ w, (Instr.makeSlice 48 (.int .i64 128) (.int .i64 128)).run Try.prog w = .ok (.slice (some ⟨w.heap.size, 0, none⟩) 128 128) (w.alloc (.cells (madeCells #[.int .u8 0] 128) 5)) := make_bytes 128 (by omega)
  rw [hrv] at HV ⊢
  clear hrv
  go_enter Try.func18, Try.ntmps18
  go_wp2_with fail
  refine (fit09_any _).mono ?_
  rintro e w1 ⟨rfl, hb1⟩
  have hbw := ((Below.refl _ w).alloc (Nat.le_refl _) (insO op A B C imm)).trans (hb1.mono (by simp))
  have hzw : w.heap.size < w1.heap.size := by have := hb1.size; simp at this; omega
  have hi1 := (InsAt.new w op A B C imm).grown (row := none) (grown_of_below hb1 none) (by simp) (by simp)
  have q0 := hi1.c0
  have q1 := hi1.c1
  have q2 := hi1.c2
  have q3 := hi1.c3
  have q4 := hi1.c4
  have f1 := hi1.fz 1
  have f2 := hi1.fz 2
  have f3 := hi1.fz 3
  have HI := Lib.hid (hi1.set3 A' B' C')
  have HBW := Lib.hid hbw
  clear hb1 hi1 hbw
  go_wp2_with fail
  obtain ⟨w2, hw2⟩ : ∃ w2, ((w1.setCell ⟨w.heap.size, 1, none⟩ (.int .i64 A')).setCell ⟨w.heap.size, 2, none⟩ (.int .i64 B')).setCell ⟨w.heap.size, 3, none⟩ (.int .i64 C') = w2 := ⟨_, rfl⟩
  have hs2 : w2.heap.size = w1.heap.size := by rw [← hw2]; simp [World.setCell]
  have hb2 : Below w.heap.size w w2 := by rw [← hw2]; exact ((HBW.out.setCell (Nat.le_refl _) _).setCell (Nat.le_refl _) _).setCell (Nat.le_refl _) _
  rw [hw2] at HI ⊢
  clear q0 q1 q2 q3 q4 f1 f2 f3 HBW
  have hm2 := mem_new w2 128 0 (by omega) (by omega)
  rw [hs2] at hm2
  have hsz : ((w2.alloc (.cells (madeCells #[.int .u8 0] 128) 5)).alloc (.cells #[.slice (some ⟨w1.heap.size, 0, none⟩) 128 128, .int .i64 0] 54)).heap.size = w1.heap.size + 2 := by simp [hs2]
  have hg2 : w2.grownBy ((w2.alloc (.cells (madeCells #[.int .u8 0] 128) 5)).alloc (.cells #[.slice (some ⟨w1.heap.size, 0, none⟩) 128 128, .int .i64 0] 54)) none := (World.grownBy_alloc _ _ _).trans (World.grownBy_alloc _ _ _)
  have hi2 := HI.out.grown hg2 (by simp) (by rw [hs2]; exact hzw)
  have hb3 := hb2.trans ⟨hg2.os, hg2.tape, hg2.output, hg2.size, fun k hk => hg2.block k (by rw [hs2]; omega) (by simp)⟩
  have HB3 := Lib.hid hb3
  clear hb2 hb3 hw2 hg2 hmk HI
  generalize (w2.alloc _).alloc _ = wq at *
  have hXg : w.heap.size ≠ w1.heap.size := by omega
  refine copy18 (w1.heap.size + 1) w1.heap.size 128 128 0 (fun _ => 0) w.heap.size op A' B' C' imm wq hm2 (by omega) (by omega) (by omega) (by omega) hm2.cb hi2.c0 hi2.c1 hi2.c2 hi2.c3 hi2.c4 (by omega) hXg hXg hXg hXg hXg _ rfl rfl rfl _ ?_
  intro b9 w3 hcp
  have hz3 : w1.heap.size + 2 ≤ w3.heap.size := by have h1 := hcp.env.size; have h2 : wq.drew.heap.size = wq.heap.size := rfl; omega
  have hb4 := below_grown HB3.out.drew hcp.env (by omega)
  have hcn := core_new w3 64 57 (by omega)
  have hmn := hcp.mem.grown (World.grownBy_alloc w3 (.cells (coreV (fun _ => 0) 64) 57) none) (by simp) (by simp) (by omega)
  have hb5 := hb4.alloc (by omega) (.cells (coreV (fun _ => 0) 64) 57)
  have hrg := HV.out.below hb5 (Nat.le_refl _)
  have hcr := fun ty => copy_regs hcn hrg hn ty
  have hsz5 : (w3.alloc (.cells (coreV (fun _ => 0) 64) 57)).heap.size = w3.heap.size + 1 := by simp
  obtain ⟨w5, hw5⟩ : ∃ w5, (w3.alloc (.cells (coreV (fun _ => 0) 64) 57)).setCells w3.heap.size 0 (((List.range n).map zs).map (Value.int .u64)) = w5 := ⟨_, rfl⟩
  rw [hw5] at hcr
  have hrun := fun ty => (hcr ty).1
  obtain ⟨_, hc5, hg5⟩ := hcr 0
  have hm5 := hmn.grown hg5 (by simp; omega) (by simp; omega) (by rw [hsz5]; omega)
  have hb6 := below_grown hb5 hg5 (by omega)
  have hz5 : w3.heap.size + 1 ≤ w5.heap.size := by have := hg5.size; rw [hsz5] at this; exact this
  generalize layL (fun _ => 0) 0 ((List.range n).map zs) = R at *
  generalize layL (fun _ => 0) 64 (encL op A' B' C' imm) = f at *
  have HC5 := Lib.hid hc5
  have HM5 := Lib.hid hm5
  have HB6 := Lib.hid hb6
  clear hcp hb4 hcn hmn hb5 hrg hcr hw5 hg5 hc5 hm5 hb6 hi2 hm2 HB3 hsz hsz5
  simp only [Act.put, List.setIfInBounds_toArray, List.set_cons_succ, List.set_cons_zero]
  go_wp2_with fail
  refine ends_reg w3.heap.size (w1.heap.size + 1) w1.heap.size 128 128 0 64 R f w5 HC5.out HM5.out (by omega) _ rfl rfl rfl _ ?_
  intro b8 hb8
  have hcd := HC5.out.grown (W' := w5.drew) (row := none) ⟨rfl, rfl, rfl, Nat.le_refl _, fun _ _ _ => rfl⟩ (by simp)
  have hmd := HM5.out.grown (W' := w5.drew) (row := none) ⟨rfl, rfl, rfl, Nat.le_refl _, fun _ _ _ => rfl⟩ (by simp) (by simp) (by omega)
  have hz8 : w5.drew.heap.size = w5.heap.size := rfl
  have hst : St (w5.drew.alloc (.cells (coreV R 64) 57)) w3.heap.size (w1.heap.size + 1) w1.heap.size 128 128 0 R 64 f :=
    ⟨hcd.grown (World.grownBy_alloc _ _ none) (by simp), hmd.grown (World.grownBy_alloc _ _ none) (by simp) (by simp) (by omega), by omega, by omega, by omega, by simp; omega⟩
  have hold := core_lit w5.drew R 64 hcd.rb hcd.pb
  rw [← hb8] at hold
  have hB7 := HB6.out.drew.alloc (by rw [hz8]; omega) (.cells (coreV R 64) 57)
  obtain ⟨en, R', pc', f', e0, e2, hal, _⟩ := step_alike 128 0 R 64 f hcd.rb hcd.pb hmd.rg
  have HS := Lib.hid (hal _ _ _ _ _ hst)
  have HO := Lib.hid hold
  have HB7 := Lib.hid hB7
  have HE2 := Lib.hid e2
  have hb8n : b8 ≠ w3.heap.size ∧ b8 ≠ w1.heap.size := by omega
  clear hcd hmd hst hold hB7 hal e2 hb8
  generalize w5.drew.alloc _ = w6 at *
  obtain ⟨O, hO⟩ : ∃ O, strF f 0 128 = O := ⟨_, rfl⟩
  have HOO := Lib.hid hO
  rw [hO]
  clear hO
  simp only [Act.put, List.setIfInBounds_toArray, List.set_cons_succ, List.set_cons_zero]
  go_wp2_with fail
  refine HS.out.mono ?_
  rintro e w7 ⟨rfl, hS7, hk7⟩
  have HB9 := Lib.hid (below_kept2 HB7.out hk7 (by omega) (by omega))
  have ho7 := HO.out.kept2 hk7 hb8n.1 hb8n.2
  clear hk7
  by_cases hen : en ≤ 1
  · as_aux_lemma =>
      clear hS7 ho7
      have hd : decide (en ≤ 1) = true := by simpa using hen
      go_wp2_with fail
      go_ret
      exact ⟨rfl, HB9.out⟩
  · as_aux_lemma =>
      obtain ⟨eR, ep, ef⟩ := HE2.out (by omega)
      rw [eR, ep, ef] at hS7
      clear eR ep ef
      have hd : decide (en ≤ 1) = false := by simpa using hen
      have hc7 := hS7.core
      have hm7 := hS7.mem
      have hcv := conv_at hm7 0 128 128 (by omega)
      have hcb := hm7.cb
      rw [HOO.out] at hcv
      have heq := eq_core R 64
      have heq1 := eq_arr1 R
      clear hS7
      have a0 := hc7.r 0 (by omega)
      have a1 := hc7.r 1 (by omega)
      have a2 := hc7.r 2 (by omega)
      have a3 := hc7.r 3 (by omega)
      have a4 := hc7.r 4 (by omega)
      have a5 := hc7.r 5 (by omega)
      have a6 := hc7.r 6 (by omega)
      have a7 := hc7.r 7 (by omega)
      have a8 := hc7.r 8 (by omega)
      have a9 := hc7.r 9 (by omega)
      have a10 := hc7.r 10 (by omega)
      have a11 := hc7.r 11 (by omega)
      have a12 := hc7.r 12 (by omega)
      have a13 := hc7.r 13 (by omega)
      have a14 := hc7.r 14 (by omega)
      have a15 := hc7.r 15 (by omega)
      have a16 := hc7.p
      have b0 := ho7.r 0 (by omega)
      have b1 := ho7.r 1 (by omega)
      have b2 := ho7.r 2 (by omega)
      have b3 := ho7.r 3 (by omega)
      have b4 := ho7.r 4 (by omega)
      have b5 := ho7.r 5 (by omega)
      have b6 := ho7.r 6 (by omega)
      have b7 := ho7.r 7 (by omega)
      have b8 := ho7.r 8 (by omega)
      have b9 := ho7.r 9 (by omega)
      have b10 := ho7.r 10 (by omega)
      have b11 := ho7.r 11 (by omega)
      have b12 := ho7.r 12 (by omega)
      have b13 := ho7.r 13 (by omega)
      have b14 := ho7.r 14 (by omega)
      have b15 := ho7.r 15 (by omega)
      have b16 := ho7.p
      clear ho7 hc7 hm7 hen
      go_wp2_with fail
      go_ret
      exact ⟨rfl, HB9.out⟩

theorem lawEnds (op A B C imm pc : Int) (p0 : 0 ≤ pc) (p1 : pc < 18446744073709551616) (rv : Value) (n : Nat) (zs : Nat → Int) (w : World) (hv : RegsAt w rv n zs) (hn2 : (n : Int) ≤ 9223372036854775807) : Calls Try.prog 18 #[.agg #[.int .i64 op, .int .i64 A, .int .i64 B, .int .i64 C, .int .i32 imm], rv, .int .u64 pc] w fun e w' => e = .returned (.bool true) ∧ Below w.heap.size w w' := by
  by_cases h : n ≤ 16
  · cases hr : (pc.tmod 3 == 0)
    · exact ends_at op A B C imm pc _ rfl hr p0 p1 rv n zs w hv h
    · exact ends_set op A B C imm pc _ rfl hr p0 p1 rv n zs w hv h
  · exact ends_many op A B C imm pc rv n zs w hv (by omega) hn2
end Go.Proofs.Ytelgmffmekfndaa
