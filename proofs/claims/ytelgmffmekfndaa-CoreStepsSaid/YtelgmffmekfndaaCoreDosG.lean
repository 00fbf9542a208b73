/- The document's Do: what an instruction does. Conditions: as each theorem names them. The document's Do: branches, what is reckoned, the upper half of a register. Conditions: as each theorem names them. -/
import Derived.Test.YtelgmffmekfndaaCoreOnesG
import Derived.Test.YtelgmffmekfndaaCoreDoRegG
set_option linter.unusedVariables false
namespace Go.Proofs.Ytelgmffmekfndaa
open Go.ChangeShapes Go.WideShapes Go.ChangeAt Go.RowKit

theorem CoreAt.setPc {W : World} {c : Nat} {R : Nat → Int} {pc v : Int} (h : CoreAt W c R pc) (v0 : 0 ≤ v) (v1 : v < 18446744073709551616) : CoreAt (W.setCell ⟨c, 16, none⟩ (.int .u64 v)) c R v :=
  ⟨fun i hi => (World.cell?_setCell_other _ _ _ _ (by intro e; injection e with _ e2 _; omega)).trans (h.r i hi), World.cell?_setCell_same' _ _ _ (by rw [h.p]; rfl), h.rb, ⟨v0, v1⟩, fun i => (World.frozen?_setCell _ _ _ _).trans (h.fz i), by have := h.lt; simpa [World.setCell] using this⟩
theorem Ran.setPc {W w2 : World} {c : Nat} {R : Nat → Int} {pc v : Int} (h : Ran c R pc W w2) (v0 : 0 ≤ v) (v1 : v < 18446744073709551616) : Ran c R v W (w2.setCell ⟨c, 16, none⟩ (.int .u64 v)) :=
  ⟨h.at'.setPc v0 v1, h.env.trans (Go.Lib.grownBy_setCell _ _ _ _)⟩

set_option maxRecDepth 100000 in
set_option maxHeartbeats 4000000 in
theorem do_halt {W : World} {c : Nat} {R : Nat → Int} {pc : Int} (h : CoreAt W c R pc) (A B C : Nat) (hA : A < 16) (hB : B < 16) (hC : C < 16) (imm : Int) (j0 : -2147483648 ≤ imm) (j1 : imm ≤ 2147483647) (x : Int) :
    Calls Try.prog 89 #[.pointer (some ⟨c, 0, none⟩), .agg #[.int .i64 1, .int .i64 A, .int .i64 B, .int .i64 C, .int .i32 imm], .int .u64 x] W fun e w' => e = .returned (.int .i64 2) ∧ Ran c R pc W w' := by
  have cp := h.p
  have cA := h.r A hA
  have cB := h.r B hB
  have HC := Lib.hid h
  have hlt := h.lt
  have hA0 : (0 : Int) ≤ (A : Int) := by omega
  have hA1 : (A : Int) < 16 := by omega
  have hB0 : (0 : Int) ≤ (B : Int) := by omega
  have hB1 : (B : Int) < 16 := by omega
  have hC0 : (0 : Int) ≤ (C : Int) := by omega
  have hC1 : (C : Int) < 16 := by omega
  have hI := i64_imm j0 j1
  obtain ⟨N, hN⟩ : ∃ N, IntKind.u64.wrap (pc + 8) = N := ⟨_, rfl⟩
  obtain ⟨K, hK⟩ : ∃ K, IntKind.u64.wrap imm = K := ⟨_, rfl⟩
  obtain ⟨K2, hK2⟩ : ∃ K2, IntKind.u64.wrap (8 * K) = K2 := ⟨_, rfl⟩
  obtain ⟨F, hF⟩ : ∃ F, IntKind.u64.wrap (pc + K2) = F := ⟨_, rfl⟩
  have HN : Hid (nx pc = N) := hN
  have HF : Hid (fr pc imm = F) := by unfold fr Hid; rw [hK, hK2, hF]
  have HK : Hid (IntKind.u64.wrap imm = K) := hK
  have hNb : 0 ≤ N ∧ N < 18446744073709551616 := by rw [← hN]; exact nx_bd pc
  have hFb : 0 ≤ F ∧ F < 18446744073709551616 := by rw [← hF, IntKind.wrap_u64]; omega
  obtain ⟨p0, p1⟩ := h.pb
  clear h
  go_enter Try.func89, Try.ntmps89
  go_wp2_with fail
  go_quiet (fail)
  have hg2 : W.grownBy ((W.alloc (insO 1 A B C imm)).drewN nq) none := ⟨rfl, rfl, rfl, by show W.heap.size ≤ (W.alloc (insO 1 A B C imm)).heap.size; simp, fun k hk _ => Below.heap_alloc _ _ _ hk⟩
  have hc2 := HC.out.grown hg2 (by simp)
  have x0 : ((W.alloc (insO 1 A B C imm)).drewN nq).cell? ⟨W.heap.size, 0, none⟩ = some (.int .i64 1) := by simp
  have x1 : ((W.alloc (insO 1 A B C imm)).drewN nq).cell? ⟨W.heap.size, 1, none⟩ = some (.int .i64 A) := by simp
  have x2 : ((W.alloc (insO 1 A B C imm)).drewN nq).cell? ⟨W.heap.size, 2, none⟩ = some (.int .i64 B) := by simp
  have x3 : ((W.alloc (insO 1 A B C imm)).drewN nq).cell? ⟨W.heap.size, 3, none⟩ = some (.int .i64 C) := by simp
  have x4 : ((W.alloc (insO 1 A B C imm)).drewN nq).cell? ⟨W.heap.size, 4, none⟩ = some (.int .i32 imm) := by simp
  have hcX : c ≠ W.heap.size := by omega
  clear cA cB cp
  have hXs : W.heap.size < ((W.alloc (insO 1 A B C imm)).drewN nq).heap.size := by simp
  generalize (W.alloc _).drewN nq = w2 at *
  generalize W.heap.size = X at *
  have cA := hc2.r A hA
  have fA := hc2.fz A
  have cB := hc2.r B hB
  have cC := hc2.r C hC
  have cp := hc2.p
  have f16 := hc2.fz 16
  have HC2 := Lib.hid hc2
  have HG2 := Lib.hid hg2
  clear hc2 hg2
  go_wp2_with fail
  refine bodyPost_ret (v := .int .i64 2) (by simp [results, Try.results89, go_sem]) rfl ⟨rfl, Ran.same HC2.out HG2.out⟩
set_option maxRecDepth 100000 in
set_option maxHeartbeats 4000000 in
theorem do_trap {W : World} {c : Nat} {R : Nat → Int} {pc : Int} (h : CoreAt W c R pc) (A B C : Nat) (hA : A < 16) (hB : B < 16) (hC : C < 16) (imm : Int) (j0 : -2147483648 ≤ imm) (j1 : imm ≤ 2147483647) (x : Int) :
    Calls Try.prog 89 #[.pointer (some ⟨c, 0, none⟩), .agg #[.int .i64 43, .int .i64 A, .int .i64 B, .int .i64 C, .int .i32 imm], .int .u64 x] W fun e w' => e = .returned (.int .i64 1) ∧ Ran c R (nx pc) W w' := by
  have cp := h.p
  have cA := h.r A hA
  have cB := h.r B hB
  have HC := Lib.hid h
  have hlt := h.lt
  have hA0 : (0 : Int) ≤ (A : Int) := by omega
  have hA1 : (A : Int) < 16 := by omega
  have hB0 : (0 : Int) ≤ (B : Int) := by omega
  have hB1 : (B : Int) < 16 := by omega
  have hC0 : (0 : Int) ≤ (C : Int) := by omega
  have hC1 : (C : Int) < 16 := by omega
  have hI := i64_imm j0 j1
  obtain ⟨N, hN⟩ : ∃ N, IntKind.u64.wrap (pc + 8) = N := ⟨_, rfl⟩
  obtain ⟨K, hK⟩ : ∃ K, IntKind.u64.wrap imm = K := ⟨_, rfl⟩
  obtain ⟨K2, hK2⟩ : ∃ K2, IntKind.u64.wrap (8 * K) = K2 := ⟨_, rfl⟩
  obtain ⟨F, hF⟩ : ∃ F, IntKind.u64.wrap (pc + K2) = F := ⟨_, rfl⟩
  have HN : Hid (nx pc = N) := hN
  have HF : Hid (fr pc imm = F) := by unfold fr Hid; rw [hK, hK2, hF]
  have HK : Hid (IntKind.u64.wrap imm = K) := hK
  have hNb : 0 ≤ N ∧ N < 18446744073709551616 := by rw [← hN]; exact nx_bd pc
  have hFb : 0 ≤ F ∧ F < 18446744073709551616 := by rw [← hF, IntKind.wrap_u64]; omega
  obtain ⟨p0, p1⟩ := h.pb
  clear h
  go_enter Try.func89, Try.ntmps89
  go_wp2_with fail
  go_quiet (fail)
  have hg2 : W.grownBy ((W.alloc (insO 43 A B C imm)).drewN nq) none := ⟨rfl, rfl, rfl, by show W.heap.size ≤ (W.alloc (insO 43 A B C imm)).heap.size; simp, fun k hk _ => Below.heap_alloc _ _ _ hk⟩
  have hc2 := HC.out.grown hg2 (by simp)
  have x0 : ((W.alloc (insO 43 A B C imm)).drewN nq).cell? ⟨W.heap.size, 0, none⟩ = some (.int .i64 43) := by simp
  have x1 : ((W.alloc (insO 43 A B C imm)).drewN nq).cell? ⟨W.heap.size, 1, none⟩ = some (.int .i64 A) := by simp
  have x2 : ((W.alloc (insO 43 A B C imm)).drewN nq).cell? ⟨W.heap.size, 2, none⟩ = some (.int .i64 B) := by simp
  have x3 : ((W.alloc (insO 43 A B C imm)).drewN nq).cell? ⟨W.heap.size, 3, none⟩ = some (.int .i64 C) := by simp
  have x4 : ((W.alloc (insO 43 A B C imm)).drewN nq).cell? ⟨W.heap.size, 4, none⟩ = some (.int .i32 imm) := by simp
  have hcX : c ≠ W.heap.size := by omega
  clear cA cB cp
  have hXs : W.heap.size < ((W.alloc (insO 43 A B C imm)).drewN nq).heap.size := by simp
  generalize (W.alloc _).drewN nq = w2 at *
  generalize W.heap.size = X at *
  have cA := hc2.r A hA
  have fA := hc2.fz A
  have cB := hc2.r B hB
  have cC := hc2.r C hC
  have cp := hc2.p
  have f16 := hc2.fz 16
  have HC2 := Lib.hid hc2
  have HG2 := Lib.hid hg2
  clear hc2 hg2
  go_wp2_with fail
  refine bodyPost_ret (v := .int .i64 1) (by simp [results, Try.results89, go_sem]) rfl ⟨rfl, by rw [HN.out]; exact ((Ran.same HC2.out HG2.out).setPc hNb.1 hNb.2)⟩
set_option maxRecDepth 100000 in
set_option maxHeartbeats 4000000 in
theorem do_li {W : World} {c : Nat} {R : Nat → Int} {pc : Int} (h : CoreAt W c R pc) (A B C : Nat) (hA : A < 16) (hB : B < 16) (hC : C < 16) (imm : Int) (j0 : -2147483648 ≤ imm) (j1 : imm ≤ 2147483647) (x : Int) :
    Calls Try.prog 89 #[.pointer (some ⟨c, 0, none⟩), .agg #[.int .i64 2, .int .i64 A, .int .i64 B, .int .i64 C, .int .i32 imm], .int .u64 x] W fun e w' => e = .returned (.int .i64 0) ∧ Ran c (fun i => if i = A then IntKind.u64.wrap imm else R i) (nx pc) W w' := by
  have cp := h.p
  have cA := h.r A hA
  have cB := h.r B hB
  have HC := Lib.hid h
  have hlt := h.lt
  have hA0 : (0 : Int) ≤ (A : Int) := by omega
  have hA1 : (A : Int) < 16 := by omega
  have hB0 : (0 : Int) ≤ (B : Int) := by omega
  have hB1 : (B : Int) < 16 := by omega
  have hC0 : (0 : Int) ≤ (C : Int) := by omega
  have hC1 : (C : Int) < 16 := by omega
  have hI := i64_imm j0 j1
  obtain ⟨N, hN⟩ : ∃ N, IntKind.u64.wrap (pc + 8) = N := ⟨_, rfl⟩
  obtain ⟨K, hK⟩ : ∃ K, IntKind.u64.wrap imm = K := ⟨_, rfl⟩
  obtain ⟨K2, hK2⟩ : ∃ K2, IntKind.u64.wrap (8 * K) = K2 := ⟨_, rfl⟩
  obtain ⟨F, hF⟩ : ∃ F, IntKind.u64.wrap (pc + K2) = F := ⟨_, rfl⟩
  have HN : Hid (nx pc = N) := hN
  have HF : Hid (fr pc imm = F) := by unfold fr Hid; rw [hK, hK2, hF]
  have HK : Hid (IntKind.u64.wrap imm = K) := hK
  have hNb : 0 ≤ N ∧ N < 18446744073709551616 := by rw [← hN]; exact nx_bd pc
  have hFb : 0 ≤ F ∧ F < 18446744073709551616 := by rw [← hF, IntKind.wrap_u64]; omega
  obtain ⟨p0, p1⟩ := h.pb
  have hKb : 0 ≤ K ∧ K < 18446744073709551616 := by rw [← hK, IntKind.wrap_u64]; omega
  clear h
  go_enter Try.func89, Try.ntmps89
  go_wp2_with fail
  go_quiet (fail)
  have hg2 : W.grownBy ((W.alloc (insO 2 A B C imm)).drewN nq) none := ⟨rfl, rfl, rfl, by show W.heap.size ≤ (W.alloc (insO 2 A B C imm)).heap.size; simp, fun k hk _ => Below.heap_alloc _ _ _ hk⟩
  have hc2 := HC.out.grown hg2 (by simp)
  have x0 : ((W.alloc (insO 2 A B C imm)).drewN nq).cell? ⟨W.heap.size, 0, none⟩ = some (.int .i64 2) := by simp
  have x1 : ((W.alloc (insO 2 A B C imm)).drewN nq).cell? ⟨W.heap.size, 1, none⟩ = some (.int .i64 A) := by simp
  have x2 : ((W.alloc (insO 2 A B C imm)).drewN nq).cell? ⟨W.heap.size, 2, none⟩ = some (.int .i64 B) := by simp
  have x3 : ((W.alloc (insO 2 A B C imm)).drewN nq).cell? ⟨W.heap.size, 3, none⟩ = some (.int .i64 C) := by simp
  have x4 : ((W.alloc (insO 2 A B C imm)).drewN nq).cell? ⟨W.heap.size, 4, none⟩ = some (.int .i32 imm) := by simp
  have hcX : c ≠ W.heap.size := by omega
  clear cA cB cp
  have hXs : W.heap.size < ((W.alloc (insO 2 A B C imm)).drewN nq).heap.size := by simp
  generalize (W.alloc _).drewN nq = w2 at *
  generalize W.heap.size = X at *
  have cA := hc2.r A hA
  have fA := hc2.fz A
  have cB := hc2.r B hB
  have cC := hc2.r C hC
  have cp := hc2.p
  have f16 := hc2.fz 16
  have HC2 := Lib.hid hc2
  have HG2 := Lib.hid hg2
  clear hc2 hg2
  go_wp2_with fail
  go_region_held3 (fun w' => w'.cell? ⟨X, 1, none⟩ = some (.int .i64 A) ∧ w'.cell? ⟨X, 4, none⟩ = some (.int .i32 imm)) (first | (go_keep; done) | assumption | (refine ⟨?_, ?_⟩ <;> (rw [World.cell?_setCell_other _ _ _ _ (by intro e; injection e with e _ _; omega)]; assumption))) (fail)
  have hR : Ran c (fun i => if i = A then K else R i) pc W (w2.setCell ⟨c, A, none⟩ (.int .u64 K)).drew := (Ran.wrote HC2.out HG2.out hA hKb.1 hKb.2).drew
  generalize (w2.setCell ⟨c, A, none⟩ (.int .u64 K)).drew = w3 at *
  have cp3 := hR.at'.p
  have f3 := hR.at'.fz 16
  have HR := Lib.hid hR
  clear hR
  go_wp2_with fail
  refine bodyPost_ret (v := .int .i64 0) (by simp [results, Try.results89, go_sem]) rfl ⟨rfl, by rw [HN.out, HK.out]; exact (HR.out.setPc hNb.1 hNb.2)⟩
set_option maxRecDepth 100000 in
set_option maxHeartbeats 4000000 in
theorem do_addi {W : World} {c : Nat} {R : Nat → Int} {pc : Int} (h : CoreAt W c R pc) (A B C : Nat) (hA : A < 16) (hB : B < 16) (hC : C < 16) (imm : Int) (j0 : -2147483648 ≤ imm) (j1 : imm ≤ 2147483647) (x : Int) :
    Calls Try.prog 89 #[.pointer (some ⟨c, 0, none⟩), .agg #[.int .i64 18, .int .i64 A, .int .i64 B, .int .i64 C, .int .i32 imm], .int .u64 x] W fun e w' => e = .returned (.int .i64 0) ∧ Ran c (fun i => if i = A then IntKind.u64.wrap (R B + IntKind.u64.wrap imm) else R i) (nx pc) W w' := by
  have cp := h.p
  have cA := h.r A hA
  have cB := h.r B hB
  have HC := Lib.hid h
  have hlt := h.lt
  have hA0 : (0 : Int) ≤ (A : Int) := by omega
  have hA1 : (A : Int) < 16 := by omega
  have hB0 : (0 : Int) ≤ (B : Int) := by omega
  have hB1 : (B : Int) < 16 := by omega
  have hC0 : (0 : Int) ≤ (C : Int) := by omega
  have hC1 : (C : Int) < 16 := by omega
  have hI := i64_imm j0 j1
  obtain ⟨N, hN⟩ : ∃ N, IntKind.u64.wrap (pc + 8) = N := ⟨_, rfl⟩
  obtain ⟨K, hK⟩ : ∃ K, IntKind.u64.wrap imm = K := ⟨_, rfl⟩
  obtain ⟨K2, hK2⟩ : ∃ K2, IntKind.u64.wrap (8 * K) = K2 := ⟨_, rfl⟩
  obtain ⟨F, hF⟩ : ∃ F, IntKind.u64.wrap (pc + K2) = F := ⟨_, rfl⟩
  have HN : Hid (nx pc = N) := hN
  have HF : Hid (fr pc imm = F) := by unfold fr Hid; rw [hK, hK2, hF]
  have HK : Hid (IntKind.u64.wrap imm = K) := hK
  have hNb : 0 ≤ N ∧ N < 18446744073709551616 := by rw [← hN]; exact nx_bd pc
  have hFb : 0 ≤ F ∧ F < 18446744073709551616 := by rw [← hF, IntKind.wrap_u64]; omega
  obtain ⟨p0, p1⟩ := h.pb
  obtain ⟨Y, hY⟩ : ∃ Y, IntKind.u64.wrap (R B + K) = Y := ⟨_, rfl⟩
  have HY : Hid (IntKind.u64.wrap (R B + IntKind.u64.wrap imm) = Y) := by unfold Hid; rw [hK, hY]
  have hYb : 0 ≤ Y ∧ Y < 18446744073709551616 := by rw [← hY, IntKind.wrap_u64]; omega
  clear h
  go_enter Try.func89, Try.ntmps89
  go_wp2_with fail
  go_quiet (fail)
  have hg2 : W.grownBy ((W.alloc (insO 18 A B C imm)).drewN nq) none := ⟨rfl, rfl, rfl, by show W.heap.size ≤ (W.alloc (insO 18 A B C imm)).heap.size; simp, fun k hk _ => Below.heap_alloc _ _ _ hk⟩
  have hc2 := HC.out.grown hg2 (by simp)
  have x0 : ((W.alloc (insO 18 A B C imm)).drewN nq).cell? ⟨W.heap.size, 0, none⟩ = some (.int .i64 18) := by simp
  have x1 : ((W.alloc (insO 18 A B C imm)).drewN nq).cell? ⟨W.heap.size, 1, none⟩ = some (.int .i64 A) := by simp
  have x2 : ((W.alloc (insO 18 A B C imm)).drewN nq).cell? ⟨W.heap.size, 2, none⟩ = some (.int .i64 B) := by simp
  have x3 : ((W.alloc (insO 18 A B C imm)).drewN nq).cell? ⟨W.heap.size, 3, none⟩ = some (.int .i64 C) := by simp
  have x4 : ((W.alloc (insO 18 A B C imm)).drewN nq).cell? ⟨W.heap.size, 4, none⟩ = some (.int .i32 imm) := by simp
  have hcX : c ≠ W.heap.size := by omega
  clear cA cB cp
  have hXs : W.heap.size < ((W.alloc (insO 18 A B C imm)).drewN nq).heap.size := by simp
  generalize (W.alloc _).drewN nq = w2 at *
  generalize W.heap.size = X at *
  have cA := hc2.r A hA
  have fA := hc2.fz A
  have cB := hc2.r B hB
  have cC := hc2.r C hC
  have cp := hc2.p
  have f16 := hc2.fz 16
  have HC2 := Lib.hid hc2
  have HG2 := Lib.hid hg2
  clear hc2 hg2
  have HD2 := Lib.hid (HC2.out.grown (W' := w2.drew) (row := none) ⟨rfl, rfl, rfl, Nat.le_refl _, fun _ _ _ => rfl⟩ (by simp))
  have HGD := Lib.hid (show W.grownBy w2.drew none from ⟨HG2.out.os, HG2.out.tape, HG2.out.output, HG2.out.size, HG2.out.block⟩)
  go_wp2_with fail
  refine addi_reg c A B X (R A) (R B) imm K Y w2 hA hB hI hK hY x1 x2 x4 cB cA fA _ rfl rfl rfl _ ?_
  simp only [Act.put, List.setIfInBounds_toArray, List.set_cons_succ, List.set_cons_zero]
  have hR : Ran c (fun i => if i = A then Y else R i) pc W (w2.drew.setCell ⟨c, A, none⟩ (.int .u64 Y)) := Ran.wrote HD2.out HGD.out hA hYb.1 hYb.2
  generalize w2.drew.setCell ⟨c, A, none⟩ (.int .u64 Y) = w3 at *
  have cp3 := hR.at'.p
  have f3 := hR.at'.fz 16
  have HR := Lib.hid hR
  clear hR
  go_wp2_with fail
  refine bodyPost_ret (v := .int .i64 0) (by simp [results, Try.results89, go_sem]) rfl ⟨rfl, by rw [HN.out, HY.out]; exact (HR.out.setPc hNb.1 hNb.2)⟩
set_option maxRecDepth 100000 in
set_option maxHeartbeats 4000000 in
theorem do_load {W : World} {c : Nat} {R : Nat → Int} {pc : Int} (h : CoreAt W c R pc) (A B C : Nat) (hA : A < 16) (hB : B < 16) (hC : C < 16) (imm : Int) (j0 : -2147483648 ≤ imm) (j1 : imm ≤ 2147483647) (x : Int) (op : Int) (hxb : 0 ≤ x ∧ x < 18446744073709551616) (o19 : 19 ≤ op) (o21 : op ≤ 21) :
    Calls Try.prog 89 #[.pointer (some ⟨c, 0, none⟩), .agg #[.int .i64 op, .int .i64 A, .int .i64 B, .int .i64 C, .int .i32 imm], .int .u64 x] W fun e w' => e = .returned (.int .i64 0) ∧ Ran c (fun i => if i = A then x else R i) (nx pc) W w' := by
  have cp := h.p
  have cA := h.r A hA
  have cB := h.r B hB
  have HC := Lib.hid h
  have hlt := h.lt
  have hA0 : (0 : Int) ≤ (A : Int) := by omega
  have hA1 : (A : Int) < 16 := by omega
  have hB0 : (0 : Int) ≤ (B : Int) := by omega
  have hB1 : (B : Int) < 16 := by omega
  have hC0 : (0 : Int) ≤ (C : Int) := by omega
  have hC1 : (C : Int) < 16 := by omega
  have hI := i64_imm j0 j1
  obtain ⟨N, hN⟩ : ∃ N, IntKind.u64.wrap (pc + 8) = N := ⟨_, rfl⟩
  obtain ⟨K, hK⟩ : ∃ K, IntKind.u64.wrap imm = K := ⟨_, rfl⟩
  obtain ⟨K2, hK2⟩ : ∃ K2, IntKind.u64.wrap (8 * K) = K2 := ⟨_, rfl⟩
  obtain ⟨F, hF⟩ : ∃ F, IntKind.u64.wrap (pc + K2) = F := ⟨_, rfl⟩
  have HN : Hid (nx pc = N) := hN
  have HF : Hid (fr pc imm = F) := by unfold fr Hid; rw [hK, hK2, hF]
  have HK : Hid (IntKind.u64.wrap imm = K) := hK
  have hNb : 0 ≤ N ∧ N < 18446744073709551616 := by rw [← hN]; exact nx_bd pc
  have hFb : 0 ≤ F ∧ F < 18446744073709551616 := by rw [← hF, IntKind.wrap_u64]; omega
  obtain ⟨p0, p1⟩ := h.pb
  have z1 : (op == 1) = false := by simp; omega
  have z43 : (op == 43) = false := by simp; omega
  have z2 : (op == 2) = false := by simp; omega
  have z3 : (op == 3) = false := by simp; omega
  have z18 : (op == 18) = false := by simp; omega
  have g19 : decide (19 ≤ op) = true := by simp; omega
  have l21 : decide (op ≤ 21) = true := by simp; omega
  clear h
  go_enter Try.func89, Try.ntmps89
  go_wp2_with fail
  go_quiet (fail)
  have hg2 : W.grownBy ((W.alloc (insO op A B C imm)).drewN nq) none := ⟨rfl, rfl, rfl, by show W.heap.size ≤ (W.alloc (insO op A B C imm)).heap.size; simp, fun k hk _ => Below.heap_alloc _ _ _ hk⟩
  have hc2 := HC.out.grown hg2 (by simp)
  have x0 : ((W.alloc (insO op A B C imm)).drewN nq).cell? ⟨W.heap.size, 0, none⟩ = some (.int .i64 op) := by simp
  have x1 : ((W.alloc (insO op A B C imm)).drewN nq).cell? ⟨W.heap.size, 1, none⟩ = some (.int .i64 A) := by simp
  have x2 : ((W.alloc (insO op A B C imm)).drewN nq).cell? ⟨W.heap.size, 2, none⟩ = some (.int .i64 B) := by simp
  have x3 : ((W.alloc (insO op A B C imm)).drewN nq).cell? ⟨W.heap.size, 3, none⟩ = some (.int .i64 C) := by simp
  have x4 : ((W.alloc (insO op A B C imm)).drewN nq).cell? ⟨W.heap.size, 4, none⟩ = some (.int .i32 imm) := by simp
  have hcX : c ≠ W.heap.size := by omega
  clear cA cB cp
  have hXs : W.heap.size < ((W.alloc (insO op A B C imm)).drewN nq).heap.size := by simp
  generalize (W.alloc _).drewN nq = w2 at *
  generalize W.heap.size = X at *
  have cA := hc2.r A hA
  have fA := hc2.fz A
  have cB := hc2.r B hB
  have cC := hc2.r C hC
  have cp := hc2.p
  have f16 := hc2.fz 16
  have HC2 := Lib.hid hc2
  have HG2 := Lib.hid hg2
  clear hc2 hg2
  go_wp2_with fail
  go_region_held3 (fun w' => w'.cell? ⟨X, 1, none⟩ = some (.int .i64 A)) (first | (go_keep; done) | assumption | (refine ⟨?_⟩ <;> (rw [World.cell?_setCell_other _ _ _ _ (by intro e; injection e with e _ _; omega)]; assumption))) (fail)
  have hR : Ran c (fun i => if i = A then x else R i) pc W (w2.setCell ⟨c, A, none⟩ (.int .u64 x)).drew := (Ran.wrote HC2.out HG2.out hA hxb.1 hxb.2).drew
  generalize (w2.setCell ⟨c, A, none⟩ (.int .u64 x)).drew = w3 at *
  have cp3 := hR.at'.p
  have f3 := hR.at'.fz 16
  have HR := Lib.hid hR
  clear hR
  go_wp2_with fail
  refine bodyPost_ret (v := .int .i64 0) (by simp [results, Try.results89, go_sem]) rfl ⟨rfl, by rw [HN.out]; exact (HR.out.setPc hNb.1 hNb.2)⟩
set_option maxRecDepth 100000 in
set_option maxHeartbeats 4000000 in
theorem do_store {W : World} {c : Nat} {R : Nat → Int} {pc : Int} (h : CoreAt W c R pc) (A B C : Nat) (hA : A < 16) (hB : B < 16) (hC : C < 16) (imm : Int) (j0 : -2147483648 ≤ imm) (j1 : imm ≤ 2147483647) (x : Int) (op : Int) (o22 : 22 ≤ op) (o24 : op ≤ 24) :
    Calls Try.prog 89 #[.pointer (some ⟨c, 0, none⟩), .agg #[.int .i64 op, .int .i64 A, .int .i64 B, .int .i64 C, .int .i32 imm], .int .u64 x] W fun e w' => e = .returned (.int .i64 0) ∧ Ran c R (nx pc) W w' := by
  have cp := h.p
  have cA := h.r A hA
  have cB := h.r B hB
  have HC := Lib.hid h
  have hlt := h.lt
  have hA0 : (0 : Int) ≤ (A : Int) := by omega
  have hA1 : (A : Int) < 16 := by omega
  have hB0 : (0 : Int) ≤ (B : Int) := by omega
  have hB1 : (B : Int) < 16 := by omega
  have hC0 : (0 : Int) ≤ (C : Int) := by omega
  have hC1 : (C : Int) < 16 := by omega
  have hI := i64_imm j0 j1
  obtain ⟨N, hN⟩ : ∃ N, IntKind.u64.wrap (pc + 8) = N := ⟨_, rfl⟩
  obtain ⟨K, hK⟩ : ∃ K, IntKind.u64.wrap imm = K := ⟨_, rfl⟩
  obtain ⟨K2, hK2⟩ : ∃ K2, IntKind.u64.wrap (8 * K) = K2 := ⟨_, rfl⟩
  obtain ⟨F, hF⟩ : ∃ F, IntKind.u64.wrap (pc + K2) = F := ⟨_, rfl⟩
  have HN : Hid (nx pc = N) := hN
  have HF : Hid (fr pc imm = F) := by unfold fr Hid; rw [hK, hK2, hF]
  have HK : Hid (IntKind.u64.wrap imm = K) := hK
  have hNb : 0 ≤ N ∧ N < 18446744073709551616 := by rw [← hN]; exact nx_bd pc
  have hFb : 0 ≤ F ∧ F < 18446744073709551616 := by rw [← hF, IntKind.wrap_u64]; omega
  obtain ⟨p0, p1⟩ := h.pb
  have z1 : (op == 1) = false := by simp; omega
  have z43 : (op == 43) = false := by simp; omega
  have z2 : (op == 2) = false := by simp; omega
  have z3 : (op == 3) = false := by simp; omega
  have z18 : (op == 18) = false := by simp; omega
  have g19 : decide (19 ≤ op) = true := by simp; omega
  have l21 : decide (op ≤ 21) = false := by simp; omega
  have g22 : decide (22 ≤ op) = true := by simp; omega
  have l24 : decide (op ≤ 24) = true := by simp; omega
  clear h
  go_enter Try.func89, Try.ntmps89
  go_wp2_with fail
  go_quiet (fail)
  have hg2 : W.grownBy ((W.alloc (insO op A B C imm)).drewN nq) none := ⟨rfl, rfl, rfl, by show W.heap.size ≤ (W.alloc (insO op A B C imm)).heap.size; simp, fun k hk _ => Below.heap_alloc _ _ _ hk⟩
  have hc2 := HC.out.grown hg2 (by simp)
  have x0 : ((W.alloc (insO op A B C imm)).drewN nq).cell? ⟨W.heap.size, 0, none⟩ = some (.int .i64 op) := by simp
  have x1 : ((W.alloc (insO op A B C imm)).drewN nq).cell? ⟨W.heap.size, 1, none⟩ = some (.int .i64 A) := by simp
  have x2 : ((W.alloc (insO op A B C imm)).drewN nq).cell? ⟨W.heap.size, 2, none⟩ = some (.int .i64 B) := by simp
  have x3 : ((W.alloc (insO op A B C imm)).drewN nq).cell? ⟨W.heap.size, 3, none⟩ = some (.int .i64 C) := by simp
  have x4 : ((W.alloc (insO op A B C imm)).drewN nq).cell? ⟨W.heap.size, 4, none⟩ = some (.int .i32 imm) := by simp
  have hcX : c ≠ W.heap.size := by omega
  clear cA cB cp
  have hXs : W.heap.size < ((W.alloc (insO op A B C imm)).drewN nq).heap.size := by simp
  generalize (W.alloc _).drewN nq = w2 at *
  generalize W.heap.size = X at *
  have cA := hc2.r A hA
  have fA := hc2.fz A
  have cB := hc2.r B hB
  have cC := hc2.r C hC
  have cp := hc2.p
  have f16 := hc2.fz 16
  have HC2 := Lib.hid hc2
  have HG2 := Lib.hid hg2
  clear hc2 hg2
  go_wp2_with fail
  refine bodyPost_ret (v := .int .i64 0) (by simp [results, Try.results89, go_sem]) rfl ⟨rfl, by rw [HN.out]; exact ((Ran.same HC2.out HG2.out).setPc hNb.1 hNb.2)⟩
set_option maxRecDepth 100000 in
set_option maxHeartbeats 4000000 in
theorem do_jal {W : World} {c : Nat} {R : Nat → Int} {pc : Int} (h : CoreAt W c R pc) (A B C : Nat) (hA : A < 16) (hB : B < 16) (hC : C < 16) (imm : Int) (j0 : -2147483648 ≤ imm) (j1 : imm ≤ 2147483647) (x : Int) :
    Calls Try.prog 89 #[.pointer (some ⟨c, 0, none⟩), .agg #[.int .i64 29, .int .i64 A, .int .i64 B, .int .i64 C, .int .i32 imm], .int .u64 x] W fun e w' => e = .returned (.int .i64 0) ∧ Ran c (fun i => if i = A then nx pc else R i) (fr pc imm) W w' := by
  have cp := h.p
  have cA := h.r A hA
  have cB := h.r B hB
  have HC := Lib.hid h
  have hlt := h.lt
  have hA0 : (0 : Int) ≤ (A : Int) := by omega
  have hA1 : (A : Int) < 16 := by omega
  have hB0 : (0 : Int) ≤ (B : Int) := by omega
  have hB1 : (B : Int) < 16 := by omega
  have hC0 : (0 : Int) ≤ (C : Int) := by omega
  have hC1 : (C : Int) < 16 := by omega
  have hI := i64_imm j0 j1
  obtain ⟨N, hN⟩ : ∃ N, IntKind.u64.wrap (pc + 8) = N := ⟨_, rfl⟩
  obtain ⟨K, hK⟩ : ∃ K, IntKind.u64.wrap imm = K := ⟨_, rfl⟩
  obtain ⟨K2, hK2⟩ : ∃ K2, IntKind.u64.wrap (8 * K) = K2 := ⟨_, rfl⟩
  obtain ⟨F, hF⟩ : ∃ F, IntKind.u64.wrap (pc + K2) = F := ⟨_, rfl⟩
  have HN : Hid (nx pc = N) := hN
  have HF : Hid (fr pc imm = F) := by unfold fr Hid; rw [hK, hK2, hF]
  have HK : Hid (IntKind.u64.wrap imm = K) := hK
  have hNb : 0 ≤ N ∧ N < 18446744073709551616 := by rw [← hN]; exact nx_bd pc
  have hFb : 0 ≤ F ∧ F < 18446744073709551616 := by rw [← hF, IntKind.wrap_u64]; omega
  obtain ⟨p0, p1⟩ := h.pb
  clear h
  go_enter Try.func89, Try.ntmps89
  go_wp2_with fail
  go_quiet (fail)
  have hg2 : W.grownBy ((W.alloc (insO 29 A B C imm)).drewN nq) none := ⟨rfl, rfl, rfl, by show W.heap.size ≤ (W.alloc (insO 29 A B C imm)).heap.size; simp, fun k hk _ => Below.heap_alloc _ _ _ hk⟩
  have hc2 := HC.out.grown hg2 (by simp)
  have x0 : ((W.alloc (insO 29 A B C imm)).drewN nq).cell? ⟨W.heap.size, 0, none⟩ = some (.int .i64 29) := by simp
  have x1 : ((W.alloc (insO 29 A B C imm)).drewN nq).cell? ⟨W.heap.size, 1, none⟩ = some (.int .i64 A) := by simp
  have x2 : ((W.alloc (insO 29 A B C imm)).drewN nq).cell? ⟨W.heap.size, 2, none⟩ = some (.int .i64 B) := by simp
  have x3 : ((W.alloc (insO 29 A B C imm)).drewN nq).cell? ⟨W.heap.size, 3, none⟩ = some (.int .i64 C) := by simp
  have x4 : ((W.alloc (insO 29 A B C imm)).drewN nq).cell? ⟨W.heap.size, 4, none⟩ = some (.int .i32 imm) := by simp
  have hcX : c ≠ W.heap.size := by omega
  clear cA cB cp
  have hXs : W.heap.size < ((W.alloc (insO 29 A B C imm)).drewN nq).heap.size := by simp
  generalize (W.alloc _).drewN nq = w2 at *
  generalize W.heap.size = X at *
  have cA := hc2.r A hA
  have fA := hc2.fz A
  have cB := hc2.r B hB
  have cC := hc2.r C hC
  have cp := hc2.p
  have f16 := hc2.fz 16
  have HC2 := Lib.hid hc2
  have HG2 := Lib.hid hg2
  clear hc2 hg2
  go_wp2_with fail
  go_region_held3 (fun w' => w'.cell? ⟨X, 1, none⟩ = some (.int .i64 A)) (first | (go_keep; done) | assumption | (refine ⟨?_⟩ <;> (rw [World.cell?_setCell_other _ _ _ _ (by intro e; injection e with e _ _; omega)]; assumption))) (fail)
  have hR : Ran c (fun i => if i = A then N else R i) pc W (w2.setCell ⟨c, A, none⟩ (.int .u64 N)).drew := (Ran.wrote HC2.out HG2.out hA hNb.1 hNb.2).drew
  generalize (w2.setCell ⟨c, A, none⟩ (.int .u64 N)).drew = w3 at *
  have cp3 := hR.at'.p
  have f3 := hR.at'.fz 16
  have HR := Lib.hid hR
  clear hR
  go_wp2_with fail
  refine bodyPost_ret (v := .int .i64 0) (by simp [results, Try.results89, go_sem]) rfl ⟨rfl, by rw [HN.out, HF.out]; exact (HR.out.setPc hFb.1 hFb.2)⟩
set_option maxRecDepth 100000 in
set_option maxHeartbeats 4000000 in
theorem do_jr {W : World} {c : Nat} {R : Nat → Int} {pc : Int} (h : CoreAt W c R pc) (A B C : Nat) (hA : A < 16) (hB : B < 16) (hC : C < 16) (imm : Int) (j0 : -2147483648 ≤ imm) (j1 : imm ≤ 2147483647) (x : Int) :
    Calls Try.prog 89 #[.pointer (some ⟨c, 0, none⟩), .agg #[.int .i64 30, .int .i64 A, .int .i64 B, .int .i64 C, .int .i32 imm], .int .u64 x] W fun e w' => e = .returned (.int .i64 0) ∧ Ran c R (R A) W w' := by
  have cp := h.p
  have cA := h.r A hA
  have cB := h.r B hB
  have HC := Lib.hid h
  have hlt := h.lt
  have hA0 : (0 : Int) ≤ (A : Int) := by omega
  have hA1 : (A : Int) < 16 := by omega
  have hB0 : (0 : Int) ≤ (B : Int) := by omega
  have hB1 : (B : Int) < 16 := by omega
  have hC0 : (0 : Int) ≤ (C : Int) := by omega
  have hC1 : (C : Int) < 16 := by omega
  have hI := i64_imm j0 j1
  obtain ⟨N, hN⟩ : ∃ N, IntKind.u64.wrap (pc + 8) = N := ⟨_, rfl⟩
  obtain ⟨K, hK⟩ : ∃ K, IntKind.u64.wrap imm = K := ⟨_, rfl⟩
  obtain ⟨K2, hK2⟩ : ∃ K2, IntKind.u64.wrap (8 * K) = K2 := ⟨_, rfl⟩
  obtain ⟨F, hF⟩ : ∃ F, IntKind.u64.wrap (pc + K2) = F := ⟨_, rfl⟩
  have HN : Hid (nx pc = N) := hN
  have HF : Hid (fr pc imm = F) := by unfold fr Hid; rw [hK, hK2, hF]
  have HK : Hid (IntKind.u64.wrap imm = K) := hK
  have hNb : 0 ≤ N ∧ N < 18446744073709551616 := by rw [← hN]; exact nx_bd pc
  have hFb : 0 ≤ F ∧ F < 18446744073709551616 := by rw [← hF, IntKind.wrap_u64]; omega
  obtain ⟨p0, p1⟩ := h.pb
  clear h
  go_enter Try.func89, Try.ntmps89
  go_wp2_with fail
  go_quiet (fail)
  have hg2 : W.grownBy ((W.alloc (insO 30 A B C imm)).drewN nq) none := ⟨rfl, rfl, rfl, by show W.heap.size ≤ (W.alloc (insO 30 A B C imm)).heap.size; simp, fun k hk _ => Below.heap_alloc _ _ _ hk⟩
  have hc2 := HC.out.grown hg2 (by simp)
  have x0 : ((W.alloc (insO 30 A B C imm)).drewN nq).cell? ⟨W.heap.size, 0, none⟩ = some (.int .i64 30) := by simp
  have x1 : ((W.alloc (insO 30 A B C imm)).drewN nq).cell? ⟨W.heap.size, 1, none⟩ = some (.int .i64 A) := by simp
  have x2 : ((W.alloc (insO 30 A B C imm)).drewN nq).cell? ⟨W.heap.size, 2, none⟩ = some (.int .i64 B) := by simp
  have x3 : ((W.alloc (insO 30 A B C imm)).drewN nq).cell? ⟨W.heap.size, 3, none⟩ = some (.int .i64 C) := by simp
  have x4 : ((W.alloc (insO 30 A B C imm)).drewN nq).cell? ⟨W.heap.size, 4, none⟩ = some (.int .i32 imm) := by simp
  have hcX : c ≠ W.heap.size := by omega
  clear cA cB cp
  have hXs : W.heap.size < ((W.alloc (insO 30 A B C imm)).drewN nq).heap.size := by simp
  generalize (W.alloc _).drewN nq = w2 at *
  generalize W.heap.size = X at *
  have cA := hc2.r A hA
  have fA := hc2.fz A
  have cB := hc2.r B hB
  have cC := hc2.r C hC
  have cp := hc2.p
  have f16 := hc2.fz 16
  have HC2 := Lib.hid hc2
  have HG2 := Lib.hid hg2
  clear hc2 hg2
  go_wp2_with fail
  go_region_held3 (fun w' => w' = w2.drew) (first | rfl | assumption) (fail)
  go_wp2_with fail
  refine bodyPost_ret (v := .int .i64 0) (by simp [results, Try.results89, go_sem]) rfl ⟨rfl, by exact (Ran.same HC2.out HG2.out).drew.setPc (HC2.out.rb A).1 (HC2.out.rb A).2⟩
end Go.Proofs.Ytelgmffmekfndaa
set_option linter.unusedVariables false
namespace Go.Proofs.Ytelgmffmekfndaa
open Go.ChangeShapes Go.WideShapes Go.ChangeAt Go.RowKit

set_option maxRecDepth 100000 in
set_option maxHeartbeats 4000000 in
theorem do_br {W : World} {c : Nat} {R : Nat → Int} {pc : Int} (h : CoreAt W c R pc) (A B C : Nat) (hA : A < 16) (hB : B < 16) (hC : C < 16) (imm : Int) (j0 : -2147483648 ≤ imm) (j1 : imm ≤ 2147483647) (x : Int) (op : Int) {t : Bool} (ht : ∀ w, Calls Try.prog 59 #[.int .i64 op, .int .u64 (R A), .int .u64 (R B)] w fun e w' => e = .returned (.bool t) ∧ w = w') (o25 : 25 ≤ op) (o28 : op ≤ 28) :
    Calls Try.prog 89 #[.pointer (some ⟨c, 0, none⟩), .agg #[.int .i64 op, .int .i64 A, .int .i64 B, .int .i64 C, .int .i32 imm], .int .u64 x] W fun e w' => e = .returned (.int .i64 0) ∧ Ran c R (if t then fr pc imm else nx pc) W w' := by
  have cp := h.p
  have cA := h.r A hA
  have cB := h.r B hB
  have HC := Lib.hid h
  have hlt := h.lt
  have hA0 : (0 : Int) ≤ (A : Int) := by omega
  have hA1 : (A : Int) < 16 := by omega
  have hB0 : (0 : Int) ≤ (B : Int) := by omega
  have hB1 : (B : Int) < 16 := by omega
  have hC0 : (0 : Int) ≤ (C : Int) := by omega
  have hC1 : (C : Int) < 16 := by omega
  have hI := i64_imm j0 j1
  obtain ⟨N, hN⟩ : ∃ N, IntKind.u64.wrap (pc + 8) = N := ⟨_, rfl⟩
  obtain ⟨K, hK⟩ : ∃ K, IntKind.u64.wrap imm = K := ⟨_, rfl⟩
  obtain ⟨K2, hK2⟩ : ∃ K2, IntKind.u64.wrap (8 * K) = K2 := ⟨_, rfl⟩
  obtain ⟨F, hF⟩ : ∃ F, IntKind.u64.wrap (pc + K2) = F := ⟨_, rfl⟩
  have HN : Hid (nx pc = N) := hN
  have HF : Hid (fr pc imm = F) := by unfold fr Hid; rw [hK, hK2, hF]
  have HK : Hid (IntKind.u64.wrap imm = K) := hK
  have hNb : 0 ≤ N ∧ N < 18446744073709551616 := by rw [← hN]; exact nx_bd pc
  have hFb : 0 ≤ F ∧ F < 18446744073709551616 := by rw [← hF, IntKind.wrap_u64]; omega
  obtain ⟨p0, p1⟩ := h.pb
  have z1 : (op == 1) = false := by simp; omega
  have z43 : (op == 43) = false := by simp; omega
  have z2 : (op == 2) = false := by simp; omega
  have z3 : (op == 3) = false := by simp; omega
  have z18 : (op == 18) = false := by simp; omega
  have g19 : decide (19 ≤ op) = true := by simp; omega
  have l21 : decide (op ≤ 21) = false := by simp; omega
  have g22 : decide (22 ≤ op) = true := by simp; omega
  have l24 : decide (op ≤ 24) = false := by simp; omega
  have g25 : decide (25 ≤ op) = true := by simp; omega
  have l28 : decide (op ≤ 28) = true := by simp; omega
  clear h
  go_enter Try.func89, Try.ntmps89
  go_wp2_with fail
  go_quiet (fail)
  have hg2 : W.grownBy ((W.alloc (insO op A B C imm)).drewN nq) none := ⟨rfl, rfl, rfl, by show W.heap.size ≤ (W.alloc (insO op A B C imm)).heap.size; simp, fun k hk _ => Below.heap_alloc _ _ _ hk⟩
  have hc2 := HC.out.grown hg2 (by simp)
  have x0 : ((W.alloc (insO op A B C imm)).drewN nq).cell? ⟨W.heap.size, 0, none⟩ = some (.int .i64 op) := by simp
  have x1 : ((W.alloc (insO op A B C imm)).drewN nq).cell? ⟨W.heap.size, 1, none⟩ = some (.int .i64 A) := by simp
  have x2 : ((W.alloc (insO op A B C imm)).drewN nq).cell? ⟨W.heap.size, 2, none⟩ = some (.int .i64 B) := by simp
  have x3 : ((W.alloc (insO op A B C imm)).drewN nq).cell? ⟨W.heap.size, 3, none⟩ = some (.int .i64 C) := by simp
  have x4 : ((W.alloc (insO op A B C imm)).drewN nq).cell? ⟨W.heap.size, 4, none⟩ = some (.int .i32 imm) := by simp
  have hcX : c ≠ W.heap.size := by omega
  clear cA cB cp
  have hXs : W.heap.size < ((W.alloc (insO op A B C imm)).drewN nq).heap.size := by simp
  generalize (W.alloc _).drewN nq = w2 at *
  generalize W.heap.size = X at *
  have cA := hc2.r A hA
  have fA := hc2.fz A
  have cB := hc2.r B hB
  have cC := hc2.r C hC
  have cp := hc2.p
  have f16 := hc2.fz 16
  have HC2 := Lib.hid hc2
  have HG2 := Lib.hid hg2
  clear hc2 hg2
  go_wp2_with fail
  go_region_held3 (fun w' => w' = w2.drew) (first | rfl | assumption) (first | (go_at_call 59; refine (ht _).mono ?_; rintro e w4 ⟨rfl, rfl⟩) | fail)
  cases t
  · go_wp2_with fail
    refine bodyPost_ret (v := .int .i64 0) (by simp [results, Try.results89, go_sem]) rfl ⟨rfl, by rw [HN.out]; exact ((Ran.same HC2.out HG2.out).drew.setPc hNb.1 hNb.2)⟩
  go_wp2_with fail
  refine bodyPost_ret (v := .int .i64 0) (by simp [results, Try.results89, go_sem]) rfl ⟨rfl, by rw [HF.out]; exact ((Ran.same HC2.out HG2.out).drew.setPc hFb.1 hFb.2)⟩
set_option maxRecDepth 100000 in
set_option maxHeartbeats 4000000 in
theorem do_low {W : World} {c : Nat} {R : Nat → Int} {pc : Int} (h : CoreAt W c R pc) (A B C : Nat) (hA : A < 16) (hB : B < 16) (hC : C < 16) (imm : Int) (j0 : -2147483648 ≤ imm) (j1 : imm ≤ 2147483647) (x : Int) (op v : Int) (hvb : 0 ≤ v ∧ v < 18446744073709551616) (ha : ∀ w, Calls Try.prog 51 #[.int .i64 op, .int .u64 (R B), .int .u64 (R C)] w fun e w' => e = .returned (.tuple #[.int .u64 v, .bool true]) ∧ Below w.heap.size w w') (o4 : 4 ≤ op) (o17 : op ≤ 17) :
    Calls Try.prog 89 #[.pointer (some ⟨c, 0, none⟩), .agg #[.int .i64 op, .int .i64 A, .int .i64 B, .int .i64 C, .int .i32 imm], .int .u64 x] W fun e w' => e = .returned (.int .i64 0) ∧ Ran c (fun i => if i = A then v else R i) (nx pc) W w' := by
  have cp := h.p
  have cA := h.r A hA
  have cB := h.r B hB
  have HC := Lib.hid h
  have hlt := h.lt
  have hA0 : (0 : Int) ≤ (A : Int) := by omega
  have hA1 : (A : Int) < 16 := by omega
  have hB0 : (0 : Int) ≤ (B : Int) := by omega
  have hB1 : (B : Int) < 16 := by omega
  have hC0 : (0 : Int) ≤ (C : Int) := by omega
  have hC1 : (C : Int) < 16 := by omega
  have hI := i64_imm j0 j1
  obtain ⟨N, hN⟩ : ∃ N, IntKind.u64.wrap (pc + 8) = N := ⟨_, rfl⟩
  obtain ⟨K, hK⟩ : ∃ K, IntKind.u64.wrap imm = K := ⟨_, rfl⟩
  obtain ⟨K2, hK2⟩ : ∃ K2, IntKind.u64.wrap (8 * K) = K2 := ⟨_, rfl⟩
  obtain ⟨F, hF⟩ : ∃ F, IntKind.u64.wrap (pc + K2) = F := ⟨_, rfl⟩
  have HN : Hid (nx pc = N) := hN
  have HF : Hid (fr pc imm = F) := by unfold fr Hid; rw [hK, hK2, hF]
  have HK : Hid (IntKind.u64.wrap imm = K) := hK
  have hNb : 0 ≤ N ∧ N < 18446744073709551616 := by rw [← hN]; exact nx_bd pc
  have hFb : 0 ≤ F ∧ F < 18446744073709551616 := by rw [← hF, IntKind.wrap_u64]; omega
  obtain ⟨p0, p1⟩ := h.pb
  have z1 : (op == 1) = false := by simp; omega
  have z43 : (op == 43) = false := by simp; omega
  have z2 : (op == 2) = false := by simp; omega
  have z3 : (op == 3) = false := by simp; omega
  have z18 : (op == 18) = false := by simp; omega
  have z29 : (op == 29) = false := by simp; omega
  have z30 : (op == 30) = false := by simp; omega
  have g19 : decide (19 ≤ op) = false := by simp; omega
  have g22 : decide (22 ≤ op) = false := by simp; omega
  have g25 : decide (25 ≤ op) = false := by simp; omega
  clear h
  go_enter Try.func89, Try.ntmps89
  go_wp2_with fail
  go_quiet (fail)
  have hg2 : W.grownBy ((W.alloc (insO op A B C imm)).drewN nq) none := ⟨rfl, rfl, rfl, by show W.heap.size ≤ (W.alloc (insO op A B C imm)).heap.size; simp, fun k hk _ => Below.heap_alloc _ _ _ hk⟩
  have hc2 := HC.out.grown hg2 (by simp)
  have x0 : ((W.alloc (insO op A B C imm)).drewN nq).cell? ⟨W.heap.size, 0, none⟩ = some (.int .i64 op) := by simp
  have x1 : ((W.alloc (insO op A B C imm)).drewN nq).cell? ⟨W.heap.size, 1, none⟩ = some (.int .i64 A) := by simp
  have x2 : ((W.alloc (insO op A B C imm)).drewN nq).cell? ⟨W.heap.size, 2, none⟩ = some (.int .i64 B) := by simp
  have x3 : ((W.alloc (insO op A B C imm)).drewN nq).cell? ⟨W.heap.size, 3, none⟩ = some (.int .i64 C) := by simp
  have x4 : ((W.alloc (insO op A B C imm)).drewN nq).cell? ⟨W.heap.size, 4, none⟩ = some (.int .i32 imm) := by simp
  have hcX : c ≠ W.heap.size := by omega
  clear cA cB cp
  have hXs : W.heap.size < ((W.alloc (insO op A B C imm)).drewN nq).heap.size := by simp
  generalize (W.alloc _).drewN nq = w2 at *
  generalize W.heap.size = X at *
  have cA := hc2.r A hA
  have fA := hc2.fz A
  have cB := hc2.r B hB
  have cC := hc2.r C hC
  have cp := hc2.p
  have f16 := hc2.fz 16
  have HC2 := Lib.hid hc2
  have HG2 := Lib.hid hg2
  clear hc2 hg2
  have cBx : w2.cell? ⟨c, B, none⟩ = some (.int .u64 (R B)) := cB
  have cCx : w2.cell? ⟨c, C, none⟩ = some (.int .u64 (R C)) := cC
  go_wp2_with fail
  go_region_held3 (fun w' => w'.cell? ⟨X, 0, none⟩ = some (.int .i64 op) ∧ w'.cell? ⟨X, 2, none⟩ = some (.int .i64 B) ∧ w'.cell? ⟨X, 3, none⟩ = some (.int .i64 C) ∧ w'.cell? ⟨c, B, none⟩ = some (.int .u64 (R B)) ∧ w'.cell? ⟨c, C, none⟩ = some (.int .u64 (R C))) (first | exact ⟨y0, y2, y3, yB, yC⟩ | (go_keep; done) | assumption) (first | (go_at_call 51; refine (ha _).mono ?_; rintro e w3 ⟨rfl, hb3⟩; have hg3 : w2.grownBy w3 none := (show w2.grownBy w2.drew none from ⟨rfl, rfl, rfl, Nat.le_refl _, fun _ _ _ => rfl⟩).trans (grown_of_below hb3 none); have y0 := hg3.cell x0 (by simp); have y2 := hg3.cell x2 (by simp); have y3 := hg3.cell x3 (by simp); have yB := hg3.cell cBx (by simp); have yC := hg3.cell cCx (by simp); have yA := hg3.cell x1 (by simp); have hc3 := HC2.out.grown hg3 (by simp); have cA3 := hc3.r A hA; have fA3 := hc3.fz A; have HC3 := Lib.hid hc3; have HG3 := Lib.hid (HG2.out.trans hg3); clear hc3 hg3) | fail)
  go_wp2_with fail
  go_region_held3 (fun w' => w'.cell? ⟨X, 1, none⟩ = some (.int .i64 A)) (first | (go_keep; done) | assumption | (exact (World.cell?_setCell_other _ _ _ _ (by intro e; injection e with e e2 _; omega)).trans (by assumption))) (fail)
  have hR : Ran c (fun i => if i = A then v else R i) pc W (w3.setCell ⟨c, A, none⟩ (.int .u64 v)).drew := (Ran.wrote HC3.out HG3.out hA hvb.1 hvb.2).drew
  generalize (w3.setCell ⟨c, A, none⟩ (.int .u64 v)).drew = w5 at *
  have cp3 := hR.at'.p
  have f3 := hR.at'.fz 16
  have HR := Lib.hid hR
  clear hR
  go_wp2_with fail
  refine bodyPost_ret (v := .int .i64 0) (by simp [results, Try.results89, go_sem]) rfl ⟨rfl, by rw [HN.out]; exact (HR.out.setPc hNb.1 hNb.2)⟩
set_option maxRecDepth 100000 in
set_option maxHeartbeats 4000000 in
theorem do_low_no {W : World} {c : Nat} {R : Nat → Int} {pc : Int} (h : CoreAt W c R pc) (A B C : Nat) (hA : A < 16) (hB : B < 16) (hC : C < 16) (imm : Int) (j0 : -2147483648 ≤ imm) (j1 : imm ≤ 2147483647) (x : Int) (op v : Int) (hvb : 0 ≤ v ∧ v < 18446744073709551616) (ha : ∀ w, Calls Try.prog 51 #[.int .i64 op, .int .u64 (R B), .int .u64 (R C)] w fun e w' => e = .returned (.tuple #[.int .u64 v, .bool false]) ∧ Below w.heap.size w w') (o4 : 4 ≤ op) (o17 : op ≤ 17) :
    Calls Try.prog 89 #[.pointer (some ⟨c, 0, none⟩), .agg #[.int .i64 op, .int .i64 A, .int .i64 B, .int .i64 C, .int .i32 imm], .int .u64 x] W fun e w' => e = .returned (.int .i64 5) ∧ Ran c R pc W w' := by
  have cp := h.p
  have cA := h.r A hA
  have cB := h.r B hB
  have HC := Lib.hid h
  have hlt := h.lt
  have hA0 : (0 : Int) ≤ (A : Int) := by omega
  have hA1 : (A : Int) < 16 := by omega
  have hB0 : (0 : Int) ≤ (B : Int) := by omega
  have hB1 : (B : Int) < 16 := by omega
  have hC0 : (0 : Int) ≤ (C : Int) := by omega
  have hC1 : (C : Int) < 16 := by omega
  have hI := i64_imm j0 j1
  obtain ⟨N, hN⟩ : ∃ N, IntKind.u64.wrap (pc + 8) = N := ⟨_, rfl⟩
  obtain ⟨K, hK⟩ : ∃ K, IntKind.u64.wrap imm = K := ⟨_, rfl⟩
  obtain ⟨K2, hK2⟩ : ∃ K2, IntKind.u64.wrap (8 * K) = K2 := ⟨_, rfl⟩
  obtain ⟨F, hF⟩ : ∃ F, IntKind.u64.wrap (pc + K2) = F := ⟨_, rfl⟩
  have HN : Hid (nx pc = N) := hN
  have HF : Hid (fr pc imm = F) := by unfold fr Hid; rw [hK, hK2, hF]
  have HK : Hid (IntKind.u64.wrap imm = K) := hK
  have hNb : 0 ≤ N ∧ N < 18446744073709551616 := by rw [← hN]; exact nx_bd pc
  have hFb : 0 ≤ F ∧ F < 18446744073709551616 := by rw [← hF, IntKind.wrap_u64]; omega
  obtain ⟨p0, p1⟩ := h.pb
  have z1 : (op == 1) = false := by simp; omega
  have z43 : (op == 43) = false := by simp; omega
  have z2 : (op == 2) = false := by simp; omega
  have z3 : (op == 3) = false := by simp; omega
  have z18 : (op == 18) = false := by simp; omega
  have z29 : (op == 29) = false := by simp; omega
  have z30 : (op == 30) = false := by simp; omega
  have g19 : decide (19 ≤ op) = false := by simp; omega
  have g22 : decide (22 ≤ op) = false := by simp; omega
  have g25 : decide (25 ≤ op) = false := by simp; omega
  clear h
  go_enter Try.func89, Try.ntmps89
  go_wp2_with fail
  go_quiet (fail)
  have hg2 : W.grownBy ((W.alloc (insO op A B C imm)).drewN nq) none := ⟨rfl, rfl, rfl, by show W.heap.size ≤ (W.alloc (insO op A B C imm)).heap.size; simp, fun k hk _ => Below.heap_alloc _ _ _ hk⟩
  have hc2 := HC.out.grown hg2 (by simp)
  have x0 : ((W.alloc (insO op A B C imm)).drewN nq).cell? ⟨W.heap.size, 0, none⟩ = some (.int .i64 op) := by simp
  have x1 : ((W.alloc (insO op A B C imm)).drewN nq).cell? ⟨W.heap.size, 1, none⟩ = some (.int .i64 A) := by simp
  have x2 : ((W.alloc (insO op A B C imm)).drewN nq).cell? ⟨W.heap.size, 2, none⟩ = some (.int .i64 B) := by simp
  have x3 : ((W.alloc (insO op A B C imm)).drewN nq).cell? ⟨W.heap.size, 3, none⟩ = some (.int .i64 C) := by simp
  have x4 : ((W.alloc (insO op A B C imm)).drewN nq).cell? ⟨W.heap.size, 4, none⟩ = some (.int .i32 imm) := by simp
  have hcX : c ≠ W.heap.size := by omega
  clear cA cB cp
  have hXs : W.heap.size < ((W.alloc (insO op A B C imm)).drewN nq).heap.size := by simp
  generalize (W.alloc _).drewN nq = w2 at *
  generalize W.heap.size = X at *
  have cA := hc2.r A hA
  have fA := hc2.fz A
  have cB := hc2.r B hB
  have cC := hc2.r C hC
  have cp := hc2.p
  have f16 := hc2.fz 16
  have HC2 := Lib.hid hc2
  have HG2 := Lib.hid hg2
  clear hc2 hg2
  have cBx : w2.cell? ⟨c, B, none⟩ = some (.int .u64 (R B)) := cB
  have cCx : w2.cell? ⟨c, C, none⟩ = some (.int .u64 (R C)) := cC
  go_wp2_with fail
  go_region_held3 (fun w' => w'.cell? ⟨X, 0, none⟩ = some (.int .i64 op) ∧ w'.cell? ⟨X, 2, none⟩ = some (.int .i64 B) ∧ w'.cell? ⟨X, 3, none⟩ = some (.int .i64 C) ∧ w'.cell? ⟨c, B, none⟩ = some (.int .u64 (R B)) ∧ w'.cell? ⟨c, C, none⟩ = some (.int .u64 (R C))) (first | exact ⟨y0, y2, y3, yB, yC⟩ | (go_keep; done) | assumption) (first | (go_at_call 51; refine (ha _).mono ?_; rintro e w3 ⟨rfl, hb3⟩; have hg3 : w2.grownBy w3 none := (show w2.grownBy w2.drew none from ⟨rfl, rfl, rfl, Nat.le_refl _, fun _ _ _ => rfl⟩).trans (grown_of_below hb3 none); have y0 := hg3.cell x0 (by simp); have y2 := hg3.cell x2 (by simp); have y3 := hg3.cell x3 (by simp); have yB := hg3.cell cBx (by simp); have yC := hg3.cell cCx (by simp); have yA := hg3.cell x1 (by simp); have hc3 := HC2.out.grown hg3 (by simp); have cA3 := hc3.r A hA; have fA3 := hc3.fz A; have HC3 := Lib.hid hc3; have HG3 := Lib.hid (HG2.out.trans hg3); clear hc3 hg3) | fail)
  go_wp2_with fail
  refine bodyPost_ret (v := .int .i64 5) (by simp [results, Try.results89, go_sem]) rfl ⟨rfl, Ran.same HC3.out HG3.out⟩
set_option maxRecDepth 100000 in
set_option maxHeartbeats 4000000 in
theorem do_high {W : World} {c : Nat} {R : Nat → Int} {pc : Int} (h : CoreAt W c R pc) (A B C : Nat) (hA : A < 16) (hB : B < 16) (hC : C < 16) (imm : Int) (j0 : -2147483648 ≤ imm) (j1 : imm ≤ 2147483647) (x : Int) (op v : Int) (hvb : 0 ≤ v ∧ v < 18446744073709551616) (ha : ∀ w, Calls Try.prog 51 #[.int .i64 op, .int .u64 (R B), .int .u64 (R C)] w fun e w' => e = .returned (.tuple #[.int .u64 v, .bool true]) ∧ Below w.heap.size w w') (o4 : 31 ≤ op) (o17 : op ≤ 42) :
    Calls Try.prog 89 #[.pointer (some ⟨c, 0, none⟩), .agg #[.int .i64 op, .int .i64 A, .int .i64 B, .int .i64 C, .int .i32 imm], .int .u64 x] W fun e w' => e = .returned (.int .i64 0) ∧ Ran c (fun i => if i = A then v else R i) (nx pc) W w' := by
  have cp := h.p
  have cA := h.r A hA
  have cB := h.r B hB
  have HC := Lib.hid h
  have hlt := h.lt
  have hA0 : (0 : Int) ≤ (A : Int) := by omega
  have hA1 : (A : Int) < 16 := by omega
  have hB0 : (0 : Int) ≤ (B : Int) := by omega
  have hB1 : (B : Int) < 16 := by omega
  have hC0 : (0 : Int) ≤ (C : Int) := by omega
  have hC1 : (C : Int) < 16 := by omega
  have hI := i64_imm j0 j1
  obtain ⟨N, hN⟩ : ∃ N, IntKind.u64.wrap (pc + 8) = N := ⟨_, rfl⟩
  obtain ⟨K, hK⟩ : ∃ K, IntKind.u64.wrap imm = K := ⟨_, rfl⟩
  obtain ⟨K2, hK2⟩ : ∃ K2, IntKind.u64.wrap (8 * K) = K2 := ⟨_, rfl⟩
  obtain ⟨F, hF⟩ : ∃ F, IntKind.u64.wrap (pc + K2) = F := ⟨_, rfl⟩
  have HN : Hid (nx pc = N) := hN
  have HF : Hid (fr pc imm = F) := by unfold fr Hid; rw [hK, hK2, hF]
  have HK : Hid (IntKind.u64.wrap imm = K) := hK
  have hNb : 0 ≤ N ∧ N < 18446744073709551616 := by rw [← hN]; exact nx_bd pc
  have hFb : 0 ≤ F ∧ F < 18446744073709551616 := by rw [← hF, IntKind.wrap_u64]; omega
  obtain ⟨p0, p1⟩ := h.pb
  have z1 : (op == 1) = false := by simp; omega
  have z43 : (op == 43) = false := by simp; omega
  have z2 : (op == 2) = false := by simp; omega
  have z3 : (op == 3) = false := by simp; omega
  have z18 : (op == 18) = false := by simp; omega
  have z29 : (op == 29) = false := by simp; omega
  have z30 : (op == 30) = false := by simp; omega
  have g19 : decide (19 ≤ op) = true := by simp; omega
  have l21 : decide (op ≤ 21) = false := by simp; omega
  have g22 : decide (22 ≤ op) = true := by simp; omega
  have l24 : decide (op ≤ 24) = false := by simp; omega
  have g25 : decide (25 ≤ op) = true := by simp; omega
  have l28 : decide (op ≤ 28) = false := by simp; omega
  clear h
  go_enter Try.func89, Try.ntmps89
  go_wp2_with fail
  go_quiet (fail)
  have hg2 : W.grownBy ((W.alloc (insO op A B C imm)).drewN nq) none := ⟨rfl, rfl, rfl, by show W.heap.size ≤ (W.alloc (insO op A B C imm)).heap.size; simp, fun k hk _ => Below.heap_alloc _ _ _ hk⟩
  have hc2 := HC.out.grown hg2 (by simp)
  have x0 : ((W.alloc (insO op A B C imm)).drewN nq).cell? ⟨W.heap.size, 0, none⟩ = some (.int .i64 op) := by simp
  have x1 : ((W.alloc (insO op A B C imm)).drewN nq).cell? ⟨W.heap.size, 1, none⟩ = some (.int .i64 A) := by simp
  have x2 : ((W.alloc (insO op A B C imm)).drewN nq).cell? ⟨W.heap.size, 2, none⟩ = some (.int .i64 B) := by simp
  have x3 : ((W.alloc (insO op A B C imm)).drewN nq).cell? ⟨W.heap.size, 3, none⟩ = some (.int .i64 C) := by simp
  have x4 : ((W.alloc (insO op A B C imm)).drewN nq).cell? ⟨W.heap.size, 4, none⟩ = some (.int .i32 imm) := by simp
  have hcX : c ≠ W.heap.size := by omega
  clear cA cB cp
  have hXs : W.heap.size < ((W.alloc (insO op A B C imm)).drewN nq).heap.size := by simp
  generalize (W.alloc _).drewN nq = w2 at *
  generalize W.heap.size = X at *
  have cA := hc2.r A hA
  have fA := hc2.fz A
  have cB := hc2.r B hB
  have cC := hc2.r C hC
  have cp := hc2.p
  have f16 := hc2.fz 16
  have HC2 := Lib.hid hc2
  have HG2 := Lib.hid hg2
  clear hc2 hg2
  have cBx : w2.cell? ⟨c, B, none⟩ = some (.int .u64 (R B)) := cB
  have cCx : w2.cell? ⟨c, C, none⟩ = some (.int .u64 (R C)) := cC
  go_wp2_with fail
  go_region_held3 (fun w' => w'.cell? ⟨X, 0, none⟩ = some (.int .i64 op) ∧ w'.cell? ⟨X, 2, none⟩ = some (.int .i64 B) ∧ w'.cell? ⟨X, 3, none⟩ = some (.int .i64 C) ∧ w'.cell? ⟨c, B, none⟩ = some (.int .u64 (R B)) ∧ w'.cell? ⟨c, C, none⟩ = some (.int .u64 (R C))) (first | exact ⟨y0, y2, y3, yB, yC⟩ | (go_keep; done) | assumption) (first | (go_at_call 51; refine (ha _).mono ?_; rintro e w3 ⟨rfl, hb3⟩; have hg3 : w2.grownBy w3 none := (show w2.grownBy w2.drew none from ⟨rfl, rfl, rfl, Nat.le_refl _, fun _ _ _ => rfl⟩).trans (grown_of_below hb3 none); have y0 := hg3.cell x0 (by simp); have y2 := hg3.cell x2 (by simp); have y3 := hg3.cell x3 (by simp); have yB := hg3.cell cBx (by simp); have yC := hg3.cell cCx (by simp); have yA := hg3.cell x1 (by simp); have hc3 := HC2.out.grown hg3 (by simp); have cA3 := hc3.r A hA; have fA3 := hc3.fz A; have HC3 := Lib.hid hc3; have HG3 := Lib.hid (HG2.out.trans hg3); clear hc3 hg3) | fail)
  go_wp2_with fail
  go_region_held3 (fun w' => w'.cell? ⟨X, 1, none⟩ = some (.int .i64 A)) (first | (go_keep; done) | assumption | (exact (World.cell?_setCell_other _ _ _ _ (by intro e; injection e with e e2 _; omega)).trans (by assumption))) (fail)
  have hR : Ran c (fun i => if i = A then v else R i) pc W (w3.setCell ⟨c, A, none⟩ (.int .u64 v)).drew := (Ran.wrote HC3.out HG3.out hA hvb.1 hvb.2).drew
  generalize (w3.setCell ⟨c, A, none⟩ (.int .u64 v)).drew = w5 at *
  have cp3 := hR.at'.p
  have f3 := hR.at'.fz 16
  have HR := Lib.hid hR
  clear hR
  go_wp2_with fail
  refine bodyPost_ret (v := .int .i64 0) (by simp [results, Try.results89, go_sem]) rfl ⟨rfl, by rw [HN.out]; exact (HR.out.setPc hNb.1 hNb.2)⟩
set_option maxRecDepth 100000 in
set_option maxHeartbeats 4000000 in
theorem do_high_no {W : World} {c : Nat} {R : Nat → Int} {pc : Int} (h : CoreAt W c R pc) (A B C : Nat) (hA : A < 16) (hB : B < 16) (hC : C < 16) (imm : Int) (j0 : -2147483648 ≤ imm) (j1 : imm ≤ 2147483647) (x : Int) (op v : Int) (hvb : 0 ≤ v ∧ v < 18446744073709551616) (ha : ∀ w, Calls Try.prog 51 #[.int .i64 op, .int .u64 (R B), .int .u64 (R C)] w fun e w' => e = .returned (.tuple #[.int .u64 v, .bool false]) ∧ Below w.heap.size w w') (o4 : 31 ≤ op) (o17 : op ≤ 42) :
    Calls Try.prog 89 #[.pointer (some ⟨c, 0, none⟩), .agg #[.int .i64 op, .int .i64 A, .int .i64 B, .int .i64 C, .int .i32 imm], .int .u64 x] W fun e w' => e = .returned (.int .i64 5) ∧ Ran c R pc W w' := by
  have cp := h.p
  have cA := h.r A hA
  have cB := h.r B hB
  have HC := Lib.hid h
  have hlt := h.lt
  have hA0 : (0 : Int) ≤ (A : Int) := by omega
  have hA1 : (A : Int) < 16 := by omega
  have hB0 : (0 : Int) ≤ (B : Int) := by omega
  have hB1 : (B : Int) < 16 := by omega
  have hC0 : (0 : Int) ≤ (C : Int) := by omega
  have hC1 : (C : Int) < 16 := by omega
  have hI := i64_imm j0 j1
  obtain ⟨N, hN⟩ : ∃ N, IntKind.u64.wrap (pc + 8) = N := ⟨_, rfl⟩
  obtain ⟨K, hK⟩ : ∃ K, IntKind.u64.wrap imm = K := ⟨_, rfl⟩
  obtain ⟨K2, hK2⟩ : ∃ K2, IntKind.u64.wrap (8 * K) = K2 := ⟨_, rfl⟩
  obtain ⟨F, hF⟩ : ∃ F, IntKind.u64.wrap (pc + K2) = F := ⟨_, rfl⟩
  have HN : Hid (nx pc = N) := hN
  have HF : Hid (fr pc imm = F) := by unfold fr Hid; rw [hK, hK2, hF]
  have HK : Hid (IntKind.u64.wrap imm = K) := hK
  have hNb : 0 ≤ N ∧ N < 18446744073709551616 := by rw [← hN]; exact nx_bd pc
  have hFb : 0 ≤ F ∧ F < 18446744073709551616 := by rw [← hF, IntKind.wrap_u64]; omega
  obtain ⟨p0, p1⟩ := h.pb
  have z1 : (op == 1) = false := by simp; omega
  have z43 : (op == 43) = false := by simp; omega
  have z2 : (op == 2) = false := by simp; omega
  have z3 : (op == 3) = false := by simp; omega
  have z18 : (op == 18) = false := by simp; omega
  have z29 : (op == 29) = false := by simp; omega
  have z30 : (op == 30) = false := by simp; omega
  have g19 : decide (19 ≤ op) = true := by simp; omega
  have l21 : decide (op ≤ 21) = false := by simp; omega
  have g22 : decide (22 ≤ op) = true := by simp; omega
  have l24 : decide (op ≤ 24) = false := by simp; omega
  have g25 : decide (25 ≤ op) = true := by simp; omega
  have l28 : decide (op ≤ 28) = false := by simp; omega
  clear h
  go_enter Try.func89, Try.ntmps89
  go_wp2_with fail
  go_quiet (fail)
  have hg2 : W.grownBy ((W.alloc (insO op A B C imm)).drewN nq) none := ⟨rfl, rfl, rfl, by show W.heap.size ≤ (W.alloc (insO op A B C imm)).heap.size; simp, fun k hk _ => Below.heap_alloc _ _ _ hk⟩
  have hc2 := HC.out.grown hg2 (by simp)
  have x0 : ((W.alloc (insO op A B C imm)).drewN nq).cell? ⟨W.heap.size, 0, none⟩ = some (.int .i64 op) := by simp
  have x1 : ((W.alloc (insO op A B C imm)).drewN nq).cell? ⟨W.heap.size, 1, none⟩ = some (.int .i64 A) := by simp
  have x2 : ((W.alloc (insO op A B C imm)).drewN nq).cell? ⟨W.heap.size, 2, none⟩ = some (.int .i64 B) := by simp
  have x3 : ((W.alloc (insO op A B C imm)).drewN nq).cell? ⟨W.heap.size, 3, none⟩ = some (.int .i64 C) := by simp
  have x4 : ((W.alloc (insO op A B C imm)).drewN nq).cell? ⟨W.heap.size, 4, none⟩ = some (.int .i32 imm) := by simp
  have hcX : c ≠ W.heap.size := by omega
  clear cA cB cp
  have hXs : W.heap.size < ((W.alloc (insO op A B C imm)).drewN nq).heap.size := by simp
  generalize (W.alloc _).drewN nq = w2 at *
  generalize W.heap.size = X at *
  have cA := hc2.r A hA
  have fA := hc2.fz A
  have cB := hc2.r B hB
  have cC := hc2.r C hC
  have cp := hc2.p
  have f16 := hc2.fz 16
  have HC2 := Lib.hid hc2
  have HG2 := Lib.hid hg2
  clear hc2 hg2
  have cBx : w2.cell? ⟨c, B, none⟩ = some (.int .u64 (R B)) := cB
  have cCx : w2.cell? ⟨c, C, none⟩ = some (.int .u64 (R C)) := cC
  go_wp2_with fail
  go_region_held3 (fun w' => w'.cell? ⟨X, 0, none⟩ = some (.int .i64 op) ∧ w'.cell? ⟨X, 2, none⟩ = some (.int .i64 B) ∧ w'.cell? ⟨X, 3, none⟩ = some (.int .i64 C) ∧ w'.cell? ⟨c, B, none⟩ = some (.int .u64 (R B)) ∧ w'.cell? ⟨c, C, none⟩ = some (.int .u64 (R C))) (first | exact ⟨y0, y2, y3, yB, yC⟩ | (go_keep; done) | assumption) (first | (go_at_call 51; refine (ha _).mono ?_; rintro e w3 ⟨rfl, hb3⟩; have hg3 : w2.grownBy w3 none := (show w2.grownBy w2.drew none from ⟨rfl, rfl, rfl, Nat.le_refl _, fun _ _ _ => rfl⟩).trans (grown_of_below hb3 none); have y0 := hg3.cell x0 (by simp); have y2 := hg3.cell x2 (by simp); have y3 := hg3.cell x3 (by simp); have yB := hg3.cell cBx (by simp); have yC := hg3.cell cCx (by simp); have yA := hg3.cell x1 (by simp); have hc3 := HC2.out.grown hg3 (by simp); have cA3 := hc3.r A hA; have fA3 := hc3.fz A; have HC3 := Lib.hid hc3; have HG3 := Lib.hid (HG2.out.trans hg3); clear hc3 hg3) | fail)
  go_wp2_with fail
  refine bodyPost_ret (v := .int .i64 5) (by simp [results, Try.results89, go_sem]) rfl ⟨rfl, Ran.same HC3.out HG3.out⟩
def hiR (a imm : Int) : Int := IntKind.u64.wrap (a % 4294967296 + IntKind.u32.wrap imm * 4294967296)

set_option maxRecDepth 100000 in
set_option maxHeartbeats 4000000 in
theorem do_hi {W : World} {c : Nat} {R : Nat → Int} {pc : Int} (h : CoreAt W c R pc) (A B C : Nat) (hA : A < 16) (hB : B < 16) (hC : C < 16) (imm : Int) (j0 : -2147483648 ≤ imm) (j1 : imm ≤ 2147483647) (x : Int) :
    Calls Try.prog 89 #[.pointer (some ⟨c, 0, none⟩), .agg #[.int .i64 3, .int .i64 A, .int .i64 B, .int .i64 C, .int .i32 imm], .int .u64 x] W fun e w' => e = .returned (.int .i64 0) ∧ Ran c (fun i => if i = A then hiR (R A) imm else R i) (nx pc) W w' := by
  have cp := h.p
  have cA := h.r A hA
  have cB := h.r B hB
  have HC := Lib.hid h
  have hlt := h.lt
  have hA0 : (0 : Int) ≤ (A : Int) := by omega
  have hA1 : (A : Int) < 16 := by omega
  have hB0 : (0 : Int) ≤ (B : Int) := by omega
  have hB1 : (B : Int) < 16 := by omega
  have hC0 : (0 : Int) ≤ (C : Int) := by omega
  have hC1 : (C : Int) < 16 := by omega
  have hI := i64_imm j0 j1
  obtain ⟨N, hN⟩ : ∃ N, IntKind.u64.wrap (pc + 8) = N := ⟨_, rfl⟩
  obtain ⟨K, hK⟩ : ∃ K, IntKind.u64.wrap imm = K := ⟨_, rfl⟩
  obtain ⟨K2, hK2⟩ : ∃ K2, IntKind.u64.wrap (8 * K) = K2 := ⟨_, rfl⟩
  obtain ⟨F, hF⟩ : ∃ F, IntKind.u64.wrap (pc + K2) = F := ⟨_, rfl⟩
  have HN : Hid (nx pc = N) := hN
  have HF : Hid (fr pc imm = F) := by unfold fr Hid; rw [hK, hK2, hF]
  have HK : Hid (IntKind.u64.wrap imm = K) := hK
  have hNb : 0 ≤ N ∧ N < 18446744073709551616 := by rw [← hN]; exact nx_bd pc
  have hFb : 0 ≤ F ∧ F < 18446744073709551616 := by rw [← hF, IntKind.wrap_u64]; omega
  obtain ⟨p0, p1⟩ := h.pb
  obtain ⟨u, hu⟩ : ∃ u, IntKind.u32.wrap imm = u := ⟨_, rfl⟩
  have hub : 0 ≤ u ∧ u < 4294967296 := by rw [← hu, IntKind.wrap_u32]; omega
  have huw : IntKind.u64.wrap u = u := by rw [IntKind.wrap_u64]; omega
  obtain ⟨q, hq⟩ : ∃ q, u * 4294967296 = q := ⟨_, rfl⟩
  have hqw : IntKind.u64.wrap q = q := by rw [IntKind.wrap_u64]; omega
  have hqE : IntKind.u64.wrap (u * 4294967296) = q := by rw [hq, hqw]
  obtain ⟨o, ho⟩ : ∃ o, R A % 4294967296 = o := ⟨_, rfl⟩
  have hot : (R A).tmod 4294967296 = o := by rw [← ho]; have := (h.rb A).1; exact Int.tmod_eq_emod_of_nonneg this
  have how : IntKind.u64.wrap o = o := by rw [IntKind.wrap_u64]; omega
  obtain ⟨v, hv⟩ : ∃ v, IntKind.u64.wrap (o + q) = v := ⟨_, rfl⟩
  have HV := Lib.hid (show hiR (R A) imm = v by unfold hiR; rw [ho, hu, hq, hv])
  have hvb : 0 ≤ v ∧ v < 18446744073709551616 := by rw [← hv, IntKind.wrap_u64]; omega
  clear h
  go_enter Try.func89, Try.ntmps89
  go_wp2_with fail
  go_quiet (fail)
  have hg2 : W.grownBy ((W.alloc (insO 3 A B C imm)).drewN nq) none := ⟨rfl, rfl, rfl, by show W.heap.size ≤ (W.alloc (insO 3 A B C imm)).heap.size; simp, fun k hk _ => Below.heap_alloc _ _ _ hk⟩
  have hc2 := HC.out.grown hg2 (by simp)
  have x0 : ((W.alloc (insO 3 A B C imm)).drewN nq).cell? ⟨W.heap.size, 0, none⟩ = some (.int .i64 3) := by simp
  have x1 : ((W.alloc (insO 3 A B C imm)).drewN nq).cell? ⟨W.heap.size, 1, none⟩ = some (.int .i64 A) := by simp
  have x2 : ((W.alloc (insO 3 A B C imm)).drewN nq).cell? ⟨W.heap.size, 2, none⟩ = some (.int .i64 B) := by simp
  have x3 : ((W.alloc (insO 3 A B C imm)).drewN nq).cell? ⟨W.heap.size, 3, none⟩ = some (.int .i64 C) := by simp
  have x4 : ((W.alloc (insO 3 A B C imm)).drewN nq).cell? ⟨W.heap.size, 4, none⟩ = some (.int .i32 imm) := by simp
  have hcX : c ≠ W.heap.size := by omega
  clear cA cB cp
  have hXs : W.heap.size < ((W.alloc (insO 3 A B C imm)).drewN nq).heap.size := by simp
  generalize (W.alloc _).drewN nq = w2 at *
  generalize W.heap.size = X at *
  have cA := hc2.r A hA
  have fA := hc2.fz A
  have cB := hc2.r B hB
  have cC := hc2.r C hC
  have cp := hc2.p
  have f16 := hc2.fz 16
  have HC2 := Lib.hid hc2
  have HG2 := Lib.hid hg2
  clear hc2 hg2
  have HD2 := Lib.hid (HC2.out.grown (W' := w2.drew) (row := none) ⟨rfl, rfl, rfl, Nat.le_refl _, fun _ _ _ => rfl⟩ (by simp))
  have HGD := Lib.hid (show W.grownBy w2.drew none from ⟨HG2.out.os, HG2.out.tape, HG2.out.output, HG2.out.size, HG2.out.block⟩)
  go_wp2_with fail
  refine hi_reg c A X (R A) imm o u q v w2 hA hot hu huw hqE hv x1 x4 cA fA _ rfl rfl rfl _ ?_
  simp only [Act.put, List.setIfInBounds_toArray, List.set_cons_succ, List.set_cons_zero]
  have hR : Ran c (fun i => if i = A then v else R i) pc W (w2.drew.setCell ⟨c, A, none⟩ (.int .u64 v)) := Ran.wrote HD2.out HGD.out hA hvb.1 hvb.2
  generalize w2.drew.setCell ⟨c, A, none⟩ (.int .u64 v) = w3 at *
  have cp3 := hR.at'.p
  have f3 := hR.at'.fz 16
  have HR := Lib.hid hR
  clear hR
  go_wp2_with fail
  refine bodyPost_ret (v := .int .i64 0) (by simp [results, Try.results89, go_sem]) rfl ⟨rfl, by rw [HN.out, HV.out]; exact (HR.out.setPc hNb.1 hNb.2)⟩
end Go.Proofs.Ytelgmffmekfndaa
