/- core.move: loads and stores. Conditions: as each theorem names them. -/
import Derived.Test.YtelgmffmekfndaaCoreOnesG
set_option linter.unusedVariables false
namespace Go.Proofs.Ytelgmffmekfndaa
open Go.ChangeShapes Go.WideShapes Go.ChangeAt Go.RowKit

set_option maxRecDepth 100000 in
set_option maxHeartbeats 2000000 in
theorem move_bad {W : World} {c : Nat} {R : Nat → Int} {pc : Int} (h : CoreAt W c R pc) (A B C : Nat) (hA : A < 16) (hB : B < 16) (hC : C < 16) (imm : Int) (j0 : -2147483648 ≤ imm) (j1 : imm ≤ 2147483647) (m : Value) (op wd pl : Int) (st : Bool) (hw : ∀ w, Calls Try.prog 57 #[.int .i64 op] w fun e w' => e = .returned (.tuple #[.int .i64 wd, .bool st]) ∧ w = w') (hp : ∀ w, Calls Try.prog 60 #[.int .u64 (R B), .int .i32 imm, .int .i64 wd] w fun e w' => e = .returned (.tuple #[.int .i64 pl, .bool false]) ∧ w = w') :
    Calls Try.prog 94 #[.pointer (some ⟨c, 0, none⟩), .agg #[.int .i64 op, .int .i64 A, .int .i64 B, .int .i64 C, .int .i32 imm], m] W fun e w' => e = .returned (.int .i64 6) ∧ Ran c R pc W w' := by
  have cp := h.p
  have cA := h.r A hA
  have cB := h.r B hB
  have HC := Lib.hid h
  have hlt := h.lt
  have hA0 : (0 : Int) ≤ (A : Int) := by omega
  have hA1 : (A : Int) < 16 := by omega
  have hB0 : (0 : Int) ≤ (B : Int) := by omega
  have hB1 : (B : Int) < 16 := by omega
  have hC0 : (0 : Int) ≤ (C : Int) := by omega
  have hC1 : (C : Int) < 16 := by omega
  obtain ⟨N, hN⟩ : ∃ N, IntKind.u64.wrap (pc + 8) = N := ⟨_, rfl⟩
  have HN : Hid (nx pc = N) := hN
  obtain ⟨p0, p1⟩ := h.pb
  clear h
  go_enter Try.func94, Try.ntmps94
  go_wp2_with fail
  have hg2 : W.grownBy ((W.alloc (insO op A B C imm))) none := ⟨rfl, rfl, rfl, by show W.heap.size ≤ (W.alloc (insO op A B C imm)).heap.size; simp, fun k hk _ => Below.heap_alloc _ _ _ hk⟩
  have hc2 := HC.out.grown hg2 (by simp)
  have x0 : ((W.alloc (insO op A B C imm))).cell? ⟨W.heap.size, 0, none⟩ = some (.int .i64 op) := by simp
  have x1 : ((W.alloc (insO op A B C imm))).cell? ⟨W.heap.size, 1, none⟩ = some (.int .i64 A) := by simp
  have x2 : ((W.alloc (insO op A B C imm))).cell? ⟨W.heap.size, 2, none⟩ = some (.int .i64 B) := by simp
  have x3 : ((W.alloc (insO op A B C imm))).cell? ⟨W.heap.size, 3, none⟩ = some (.int .i64 C) := by simp
  have x4 : ((W.alloc (insO op A B C imm))).cell? ⟨W.heap.size, 4, none⟩ = some (.int .i32 imm) := by simp
  have hcX : c ≠ W.heap.size := by omega
  clear cA cB cp
  generalize (W.alloc _) = w2 at *
  generalize W.heap.size = X at *
  have cA := hc2.r A hA
  have fA := hc2.fz A
  have cB := hc2.r B hB
  have cC := hc2.r C hC
  have cp := hc2.p
  have HC2 := Lib.hid hc2
  have HG2 := Lib.hid hg2
  clear hc2 hg2
  go_wp2_with fail
  refine (hw _).mono ?_
  rintro e w3 ⟨rfl, rfl⟩
  go_wp2_with fail
  go_region_held3 (fun w' => w' = w2.drew) (first | rfl | assumption) (first | (go_at_call 60; refine (hp _).mono ?_; rintro e w4 ⟨rfl, rfl⟩) | fail)
  go_wp2_with fail
  refine bodyPost_ret (v := .int .i64 6) (by simp [results, Try.results94, go_sem]) rfl ⟨rfl, (Ran.same HC2.out HG2.out).drew⟩
set_option maxRecDepth 100000 in
set_option maxHeartbeats 2000000 in
theorem move_load_no {W : World} {c : Nat} {R : Nat → Int} {pc : Int} (h : CoreAt W c R pc) (A B C : Nat) (hA : A < 16) (hB : B < 16) (hC : C < 16) (imm : Int) (j0 : -2147483648 ≤ imm) (j1 : imm ≤ 2147483647) (M : Nat) (op wd pl x : Int) (v0 : 0 ≤ x) (v1 : x < 18446744073709551616) (hw : ∀ w, Calls Try.prog 57 #[.int .i64 op] w fun e w' => e = .returned (.tuple #[.int .i64 wd, .bool false]) ∧ w = w') (hp : ∀ w, Calls Try.prog 60 #[.int .u64 (R B), .int .i32 imm, .int .i64 wd] w fun e w' => e = .returned (.tuple #[.int .i64 pl, .bool true]) ∧ w = w') (hl : ∀ w', W.grownBy w' (some c) → Calls Try.prog 84 #[.pointer (some ⟨M, 0, none⟩), .int .i64 pl, .int .i64 wd] w' fun e w2 => e = .returned (.tuple #[.int .u64 x, .bool false]) ∧ w' = w2) :
    Calls Try.prog 94 #[.pointer (some ⟨c, 0, none⟩), .agg #[.int .i64 op, .int .i64 A, .int .i64 B, .int .i64 C, .int .i32 imm], .iface 52 (.pointer (some ⟨M, 0, none⟩))] W fun e w' => e = .returned (.int .i64 3) ∧ Ran c R pc W w' := by
  have cp := h.p
  have cA := h.r A hA
  have cB := h.r B hB
  have HC := Lib.hid h
  have hlt := h.lt
  have hA0 : (0 : Int) ≤ (A : Int) := by omega
  have hA1 : (A : Int) < 16 := by omega
  have hB0 : (0 : Int) ≤ (B : Int) := by omega
  have hB1 : (B : Int) < 16 := by omega
  have hC0 : (0 : Int) ≤ (C : Int) := by omega
  have hC1 : (C : Int) < 16 := by omega
  obtain ⟨N, hN⟩ : ∃ N, IntKind.u64.wrap (pc + 8) = N := ⟨_, rfl⟩
  have HN : Hid (nx pc = N) := hN
  obtain ⟨p0, p1⟩ := h.pb
  clear h
  go_enter Try.func94, Try.ntmps94
  go_wp2_with fail
  have hg2 : W.grownBy ((W.alloc (insO op A B C imm))) none := ⟨rfl, rfl, rfl, by show W.heap.size ≤ (W.alloc (insO op A B C imm)).heap.size; simp, fun k hk _ => Below.heap_alloc _ _ _ hk⟩
  have hc2 := HC.out.grown hg2 (by simp)
  have x0 : ((W.alloc (insO op A B C imm))).cell? ⟨W.heap.size, 0, none⟩ = some (.int .i64 op) := by simp
  have x1 : ((W.alloc (insO op A B C imm))).cell? ⟨W.heap.size, 1, none⟩ = some (.int .i64 A) := by simp
  have x2 : ((W.alloc (insO op A B C imm))).cell? ⟨W.heap.size, 2, none⟩ = some (.int .i64 B) := by simp
  have x3 : ((W.alloc (insO op A B C imm))).cell? ⟨W.heap.size, 3, none⟩ = some (.int .i64 C) := by simp
  have x4 : ((W.alloc (insO op A B C imm))).cell? ⟨W.heap.size, 4, none⟩ = some (.int .i32 imm) := by simp
  have hcX : c ≠ W.heap.size := by omega
  clear cA cB cp
  generalize (W.alloc _) = w2 at *
  generalize W.heap.size = X at *
  have cA := hc2.r A hA
  have fA := hc2.fz A
  have cB := hc2.r B hB
  have cC := hc2.r C hC
  have cp := hc2.p
  have HC2 := Lib.hid hc2
  have HG2 := Lib.hid hg2
  clear hc2 hg2
  go_wp2_with fail
  refine (hw _).mono ?_
  rintro e w3 ⟨rfl, rfl⟩
  go_wp2_with fail
  go_region_held3 (fun w' => w' = w2.drew) (first | rfl | assumption) (first | (go_at_call 60; refine (hp _).mono ?_; rintro e w4 ⟨rfl, rfl⟩) | fail)
  go_wp2_with fail
  have hme := method_load ⟨M, 0, none⟩
  refine (hl _ (Ran.same (R := R) (c := c) (pc := pc) HC2.out HG2.out).drew.env).mono ?_
  rintro e w5 ⟨rfl, rfl⟩
  go_wp2_with fail
  refine bodyPost_ret (v := .int .i64 3) (by simp [results, Try.results94, go_sem]) rfl ⟨rfl, (Ran.same HC2.out HG2.out).drew⟩
set_option maxRecDepth 100000 in
set_option maxHeartbeats 2000000 in
theorem move_load {W : World} {c : Nat} {R : Nat → Int} {pc : Int} (h : CoreAt W c R pc) (A B C : Nat) (hA : A < 16) (hB : B < 16) (hC : C < 16) (imm : Int) (j0 : -2147483648 ≤ imm) (j1 : imm ≤ 2147483647) (M : Nat) (op wd pl x : Int) (v0 : 0 ≤ x) (v1 : x < 18446744073709551616) (hw : ∀ w, Calls Try.prog 57 #[.int .i64 op] w fun e w' => e = .returned (.tuple #[.int .i64 wd, .bool false]) ∧ w = w') (hp : ∀ w, Calls Try.prog 60 #[.int .u64 (R B), .int .i32 imm, .int .i64 wd] w fun e w' => e = .returned (.tuple #[.int .i64 pl, .bool true]) ∧ w = w') (hl : ∀ w', W.grownBy w' (some c) → Calls Try.prog 84 #[.pointer (some ⟨M, 0, none⟩), .int .i64 pl, .int .i64 wd] w' fun e w2 => e = .returned (.tuple #[.int .u64 x, .bool true]) ∧ w' = w2) :
    Calls Try.prog 94 #[.pointer (some ⟨c, 0, none⟩), .agg #[.int .i64 op, .int .i64 A, .int .i64 B, .int .i64 C, .int .i32 imm], .iface 52 (.pointer (some ⟨M, 0, none⟩))] W fun e w' => e = .returned (.int .i64 0) ∧ Ran c (fun i => if i = A then x else R i) pc W w' := by
  have cp := h.p
  have cA := h.r A hA
  have cB := h.r B hB
  have HC := Lib.hid h
  have hlt := h.lt
  have hA0 : (0 : Int) ≤ (A : Int) := by omega
  have hA1 : (A : Int) < 16 := by omega
  have hB0 : (0 : Int) ≤ (B : Int) := by omega
  have hB1 : (B : Int) < 16 := by omega
  have hC0 : (0 : Int) ≤ (C : Int) := by omega
  have hC1 : (C : Int) < 16 := by omega
  obtain ⟨N, hN⟩ : ∃ N, IntKind.u64.wrap (pc + 8) = N := ⟨_, rfl⟩
  have HN : Hid (nx pc = N) := hN
  obtain ⟨p0, p1⟩ := h.pb
  clear h
  go_enter Try.func94, Try.ntmps94
  go_wp2_with fail
  have hg2 : W.grownBy ((W.alloc (insO op A B C imm))) none := ⟨rfl, rfl, rfl, by show W.heap.size ≤ (W.alloc (insO op A B C imm)).heap.size; simp, fun k hk _ => Below.heap_alloc _ _ _ hk⟩
  have hc2 := HC.out.grown hg2 (by simp)
  have x0 : ((W.alloc (insO op A B C imm))).cell? ⟨W.heap.size, 0, none⟩ = some (.int .i64 op) := by simp
  have x1 : ((W.alloc (insO op A B C imm))).cell? ⟨W.heap.size, 1, none⟩ = some (.int .i64 A) := by simp
  have x2 : ((W.alloc (insO op A B C imm))).cell? ⟨W.heap.size, 2, none⟩ = some (.int .i64 B) := by simp
  have x3 : ((W.alloc (insO op A B C imm))).cell? ⟨W.heap.size, 3, none⟩ = some (.int .i64 C) := by simp
  have x4 : ((W.alloc (insO op A B C imm))).cell? ⟨W.heap.size, 4, none⟩ = some (.int .i32 imm) := by simp
  have hcX : c ≠ W.heap.size := by omega
  clear cA cB cp
  generalize (W.alloc _) = w2 at *
  generalize W.heap.size = X at *
  have cA := hc2.r A hA
  have fA := hc2.fz A
  have cB := hc2.r B hB
  have cC := hc2.r C hC
  have cp := hc2.p
  have HC2 := Lib.hid hc2
  have HG2 := Lib.hid hg2
  clear hc2 hg2
  go_wp2_with fail
  refine (hw _).mono ?_
  rintro e w3 ⟨rfl, rfl⟩
  go_wp2_with fail
  go_region_held3 (fun w' => w' = w2.drew) (first | rfl | assumption) (first | (go_at_call 60; refine (hp _).mono ?_; rintro e w4 ⟨rfl, rfl⟩) | fail)
  go_wp2_with fail
  have hme := method_load ⟨M, 0, none⟩
  refine (hl _ (Ran.same (R := R) (c := c) (pc := pc) HC2.out HG2.out).drew.env).mono ?_
  rintro e w5 ⟨rfl, rfl⟩
  go_wp2_with fail
  go_region_held3 (fun w' => w'.cell? ⟨X, 1, none⟩ = some (.int .i64 A)) (first | (go_keep; done) | assumption | (exact (World.cell?_setCell_other _ _ _ _ (by intro e; injection e with e e2 _; omega)).trans (by assumption))) (fail)
  go_wp2_with fail
  refine bodyPost_ret (v := .int .i64 0) (by simp [results, Try.results94, go_sem]) rfl ⟨rfl, (Ran.wrote HC2.out HG2.out hA v0 v1).drew.drew⟩
end Go.Proofs.Ytelgmffmekfndaa
