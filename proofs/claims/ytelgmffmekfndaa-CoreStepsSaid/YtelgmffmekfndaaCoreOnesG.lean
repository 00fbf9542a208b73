/- A core's registers and place; one instruction that reaches no memory. Conditions: as each theorem names them. core.one, the cases that call. Conditions: as each theorem names them. core.one, the operations on numbers. Conditions: as each theorem names them. core.one, the upper half of a register. Conditions: as each theorem names them. -/
import Derived.Test.YtelgmffmekfndaaCoreDecodeG
import Derived.Test.YtelgmffmekfndaaAluAllG
import Derived.Test.YtelgmffmekfndaaAluTakesCG
import Derived.Lib.BufferWrite
import Derived.Maps.RangeWalk
import Derived.Maps.AppendAt
set_option linter.unusedVariables false
namespace Go.Proofs.Ytelgmffmekfndaa
open Go.ChangeShapes Go.WideShapes Go.ChangeAt Go.RowKit

/-- the core at block c: registers and place -/
structure CoreAt (W : World) (c : Nat) (R : Nat → Int) (pc : Int) : Prop where
  r : ∀ i, i < 16 → W.cell? ⟨c, i, none⟩ = some (.int .u64 (R i))
  p : W.cell? ⟨c, 16, none⟩ = some (.int .u64 pc)
  rb : ∀ i, 0 ≤ R i ∧ R i < 18446744073709551616
  pb : 0 ≤ pc ∧ pc < 18446744073709551616
  fz : ∀ i, W.frozen? ⟨c, i, none⟩ = false
  lt : c < W.heap.size

set_option maxRecDepth 100000 in
theorem far_any {W : World} {c : Nat} {R : Nat → Int} {pc : Int} (h : CoreAt W c R pc) (imm : Int) (i0 : -2147483648 ≤ imm) (i1 : imm ≤ 2147483647) :
    Calls Try.prog 93 #[.pointer (some ⟨c, 0, none⟩), .int .i32 imm] W fun e w' => e = .returned (.int .u64 (IntKind.u64.wrap (pc + IntKind.u64.wrap (8 * IntKind.u64.wrap imm)))) ∧ W = w' := by
  have cp := h.p
  go_enter Try.func93, Try.ntmps93
  go_wp2_with fail
  go_ret
  exact ⟨rfl, rfl⟩

/-- behind an instruction that reached no memory: the core's block alone is written, new blocks are laid -/
structure Ran (c : Nat) (R' : Nat → Int) (pc : Int) (W W' : World) : Prop where
  at' : CoreAt W' c R' pc
  env : W.grownBy W' (some c)
theorem CoreAt.grown {W W' : World} {c : Nat} {R : Nat → Int} {pc : Int} {row : Option Nat} (h : CoreAt W c R pc) (hg : W.grownBy W' row) (hr : some c ≠ row) : CoreAt W' c R pc :=
  ⟨fun i hi => hg.cell (h.r i hi) hr, hg.cell h.p hr, h.rb, h.pb, fun i => (World.frozen?_of_block (a := ⟨c, i, none⟩) (hg.block c h.lt hr)).trans (h.fz i), Nat.lt_of_lt_of_le h.lt hg.size⟩
theorem CoreAt.set {W : World} {c A : Nat} {R : Nat → Int} {pc v : Int} (h : CoreAt W c R pc) (hA : A < 16) (v0 : 0 ≤ v) (v1 : v < 18446744073709551616) : CoreAt (W.setCell ⟨c, A, none⟩ (.int .u64 v)) c (fun i => if i = A then v else R i) pc := by
  have o : ∀ i, i ≠ A → (W.setCell ⟨c, A, none⟩ (.int .u64 v)).cell? ⟨c, i, none⟩ = W.cell? ⟨c, i, none⟩ := fun i hi => World.cell?_setCell_other _ _ _ _ (by intro e; injection e with _ e2 _; exact hi e2.symm)
  refine ⟨fun i hi => ?_, (o 16 (by omega)).trans h.p, fun i => ?_, h.pb, fun i => (World.frozen?_setCell _ _ _ _).trans (h.fz i), by have := h.lt; simpa [World.setCell] using this⟩
  · by_cases e : i = A
    · subst e
      simp only [if_pos]
      exact World.cell?_setCell_same' _ _ _ (by rw [h.r i hi]; rfl)
    · simp only [if_neg e]
      exact (o i e).trans (h.r i hi)
  · by_cases e : i = A
    · simp only [if_pos e]; exact ⟨v0, v1⟩
    · simp only [if_neg e]; exact h.rb i
/-- the next place -/
def nx (pc : Int) : Int := IntKind.u64.wrap (pc + 8)
theorem nx_bd (pc : Int) : 0 ≤ nx pc ∧ nx pc < 18446744073709551616 := by unfold nx; rw [IntKind.wrap_u64]; omega

theorem Ran.same {W w2 : World} {c : Nat} {R : Nat → Int} {pc : Int} (h : CoreAt w2 c R pc) (hg : W.grownBy w2 none) : Ran c R pc W w2 := ⟨h, hg.but _⟩
theorem Ran.drew {W w2 : World} {c : Nat} {R : Nat → Int} {pc : Int} (h : Ran c R pc W w2) : Ran c R pc W w2.drew :=
  ⟨h.at'.grown (row := none) ⟨rfl, rfl, rfl, Nat.le_refl _, fun _ _ _ => rfl⟩ (by simp), ⟨h.env.os, h.env.tape, h.env.output, h.env.size, h.env.block⟩⟩
theorem Ran.wrote {W w2 : World} {c A : Nat} {R : Nat → Int} {pc v : Int} (h : CoreAt w2 c R pc) (hg : W.grownBy w2 none) (hA : A < 16) (v0 : 0 ≤ v) (v1 : v < 18446744073709551616) : Ran c (fun i => if i = A then v else R i) pc W (w2.setCell ⟨c, A, none⟩ (.int .u64 v)) :=
  ⟨h.set hA v0 v1, (hg.but _).trans (Go.Lib.grownBy_setCell _ _ _ _)⟩
theorem i64_imm {imm : Int} (j0 : -2147483648 ≤ imm) (j1 : imm ≤ 2147483647) : IntKind.i64.wrap imm = imm := by rw [IntKind.wrap_i64]; omega

set_option maxRecDepth 100000 in
set_option maxHeartbeats 2000000 in
theorem one_halt {W : World} {c : Nat} {R : Nat → Int} {pc : Int} (h : CoreAt W c R pc) (A B C : Nat) (hA : A < 16) (hB : B < 16) (hC : C < 16) (imm : Int) (j0 : -2147483648 ≤ imm) (j1 : imm ≤ 2147483647) (m : Value) :
    Calls Try.prog 83 #[.pointer (some ⟨c, 0, none⟩), .agg #[.int .i64 1, .int .i64 A, .int .i64 B, .int .i64 C, .int .i32 imm], m] W fun e w' => e = .returned (.tuple #[.int .u64 (nx pc), .int .i64 2]) ∧ Ran c R pc W w' := by
  have cp := h.p
  have cA := h.r A hA
  have cB := h.r B hB
  have HC := Lib.hid h
  have hlt := h.lt
  have hA0 : (0 : Int) ≤ (A : Int) := by omega
  have hA1 : (A : Int) < 16 := by omega
  have hB0 : (0 : Int) ≤ (B : Int) := by omega
  have hB1 : (B : Int) < 16 := by omega
  have hC0 : (0 : Int) ≤ (C : Int) := by omega
  have hC1 : (C : Int) < 16 := by omega
  obtain ⟨N, hN⟩ : ∃ N, IntKind.u64.wrap (pc + 8) = N := ⟨_, rfl⟩
  have HN : Hid (nx pc = N) := hN
  obtain ⟨p0, p1⟩ := h.pb
  clear h
  go_enter Try.func83, Try.ntmps83
  go_wp2_with fail
  go_quiet (fail)
  have hg2 : W.grownBy ((W.alloc (insO 1 A B C imm)).drewN nq) none := ⟨rfl, rfl, rfl, by show W.heap.size ≤ (W.alloc (insO 1 A B C imm)).heap.size; simp, fun k hk _ => Below.heap_alloc _ _ _ hk⟩
  have hc2 := HC.out.grown hg2 (by simp)
  have x0 : ((W.alloc (insO 1 A B C imm)).drewN nq).cell? ⟨W.heap.size, 0, none⟩ = some (.int .i64 1) := by simp
  have x1 : ((W.alloc (insO 1 A B C imm)).drewN nq).cell? ⟨W.heap.size, 1, none⟩ = some (.int .i64 A) := by simp
  have x2 : ((W.alloc (insO 1 A B C imm)).drewN nq).cell? ⟨W.heap.size, 2, none⟩ = some (.int .i64 B) := by simp
  have x3 : ((W.alloc (insO 1 A B C imm)).drewN nq).cell? ⟨W.heap.size, 3, none⟩ = some (.int .i64 C) := by simp
  have x4 : ((W.alloc (insO 1 A B C imm)).drewN nq).cell? ⟨W.heap.size, 4, none⟩ = some (.int .i32 imm) := by simp
  have hcX : c ≠ W.heap.size := by omega
  clear cA cB cp
  generalize (W.alloc _).drewN nq = w2 at *
  generalize W.heap.size = X at *
  have cA := hc2.r A hA
  have fA := hc2.fz A
  have cB := hc2.r B hB
  have cC := hc2.r C hC
  have cp := hc2.p
  have HC2 := Lib.hid hc2
  have HG2 := Lib.hid hg2
  clear hc2 hg2
  go_wp2_with fail
  refine bodyPost_ret (v := .tuple #[.int .u64 N, .int .i64 2]) (by simp [results, Try.results83, go_sem]) rfl ⟨by rw [HN.out], Ran.same HC2.out HG2.out⟩
set_option maxRecDepth 100000 in
set_option maxHeartbeats 2000000 in
theorem one_trap {W : World} {c : Nat} {R : Nat → Int} {pc : Int} (h : CoreAt W c R pc) (A B C : Nat) (hA : A < 16) (hB : B < 16) (hC : C < 16) (imm : Int) (j0 : -2147483648 ≤ imm) (j1 : imm ≤ 2147483647) (m : Value) :
    Calls Try.prog 83 #[.pointer (some ⟨c, 0, none⟩), .agg #[.int .i64 43, .int .i64 A, .int .i64 B, .int .i64 C, .int .i32 imm], m] W fun e w' => e = .returned (.tuple #[.int .u64 (nx pc), .int .i64 1]) ∧ Ran c R pc W w' := by
  have cp := h.p
  have cA := h.r A hA
  have cB := h.r B hB
  have HC := Lib.hid h
  have hlt := h.lt
  have hA0 : (0 : Int) ≤ (A : Int) := by omega
  have hA1 : (A : Int) < 16 := by omega
  have hB0 : (0 : Int) ≤ (B : Int) := by omega
  have hB1 : (B : Int) < 16 := by omega
  have hC0 : (0 : Int) ≤ (C : Int) := by omega
  have hC1 : (C : Int) < 16 := by omega
  obtain ⟨N, hN⟩ : ∃ N, IntKind.u64.wrap (pc + 8) = N := ⟨_, rfl⟩
  have HN : Hid (nx pc = N) := hN
  obtain ⟨p0, p1⟩ := h.pb
  clear h
  go_enter Try.func83, Try.ntmps83
  go_wp2_with fail
  go_quiet (fail)
  have hg2 : W.grownBy ((W.alloc (insO 43 A B C imm)).drewN nq) none := ⟨rfl, rfl, rfl, by show W.heap.size ≤ (W.alloc (insO 43 A B C imm)).heap.size; simp, fun k hk _ => Below.heap_alloc _ _ _ hk⟩
  have hc2 := HC.out.grown hg2 (by simp)
  have x0 : ((W.alloc (insO 43 A B C imm)).drewN nq).cell? ⟨W.heap.size, 0, none⟩ = some (.int .i64 43) := by simp
  have x1 : ((W.alloc (insO 43 A B C imm)).drewN nq).cell? ⟨W.heap.size, 1, none⟩ = some (.int .i64 A) := by simp
  have x2 : ((W.alloc (insO 43 A B C imm)).drewN nq).cell? ⟨W.heap.size, 2, none⟩ = some (.int .i64 B) := by simp
  have x3 : ((W.alloc (insO 43 A B C imm)).drewN nq).cell? ⟨W.heap.size, 3, none⟩ = some (.int .i64 C) := by simp
  have x4 : ((W.alloc (insO 43 A B C imm)).drewN nq).cell? ⟨W.heap.size, 4, none⟩ = some (.int .i32 imm) := by simp
  have hcX : c ≠ W.heap.size := by omega
  clear cA cB cp
  generalize (W.alloc _).drewN nq = w2 at *
  generalize W.heap.size = X at *
  have cA := hc2.r A hA
  have fA := hc2.fz A
  have cB := hc2.r B hB
  have cC := hc2.r C hC
  have cp := hc2.p
  have HC2 := Lib.hid hc2
  have HG2 := Lib.hid hg2
  clear hc2 hg2
  go_wp2_with fail
  refine bodyPost_ret (v := .tuple #[.int .u64 N, .int .i64 1]) (by simp [results, Try.results83, go_sem]) rfl ⟨by rw [HN.out], Ran.same HC2.out HG2.out⟩
set_option maxRecDepth 100000 in
set_option maxHeartbeats 2000000 in
theorem one_li {W : World} {c : Nat} {R : Nat → Int} {pc : Int} (h : CoreAt W c R pc) (A B C : Nat) (hA : A < 16) (hB : B < 16) (hC : C < 16) (imm : Int) (j0 : -2147483648 ≤ imm) (j1 : imm ≤ 2147483647) (m : Value) :
    Calls Try.prog 83 #[.pointer (some ⟨c, 0, none⟩), .agg #[.int .i64 2, .int .i64 A, .int .i64 B, .int .i64 C, .int .i32 imm], m] W fun e w' => e = .returned (.tuple #[.int .u64 (nx pc), .int .i64 0]) ∧ Ran c (fun i => if i = A then IntKind.u64.wrap imm else R i) pc W w' := by
  have cp := h.p
  have cA := h.r A hA
  have cB := h.r B hB
  have HC := Lib.hid h
  have hlt := h.lt
  have hA0 : (0 : Int) ≤ (A : Int) := by omega
  have hA1 : (A : Int) < 16 := by omega
  have hB0 : (0 : Int) ≤ (B : Int) := by omega
  have hB1 : (B : Int) < 16 := by omega
  have hC0 : (0 : Int) ≤ (C : Int) := by omega
  have hC1 : (C : Int) < 16 := by omega
  obtain ⟨N, hN⟩ : ∃ N, IntKind.u64.wrap (pc + 8) = N := ⟨_, rfl⟩
  have HN : Hid (nx pc = N) := hN
  obtain ⟨p0, p1⟩ := h.pb
  obtain ⟨v, hv⟩ : ∃ v, IntKind.u64.wrap imm = v := ⟨_, rfl⟩
  have HV := Lib.hid hv
  have HW := Lib.hid (show IntKind.u64.wrap (IntKind.i64.wrap imm) = v by rw [← hv, i64_imm j0 j1])
  have hvb : 0 ≤ v ∧ v < 18446744073709551616 := by rw [← hv, IntKind.wrap_u64]; omega
  clear hv
  clear h
  go_enter Try.func83, Try.ntmps83
  go_wp2_with fail
  go_quiet (fail)
  have hg2 : W.grownBy ((W.alloc (insO 2 A B C imm)).drewN nq) none := ⟨rfl, rfl, rfl, by show W.heap.size ≤ (W.alloc (insO 2 A B C imm)).heap.size; simp, fun k hk _ => Below.heap_alloc _ _ _ hk⟩
  have hc2 := HC.out.grown hg2 (by simp)
  have x0 : ((W.alloc (insO 2 A B C imm)).drewN nq).cell? ⟨W.heap.size, 0, none⟩ = some (.int .i64 2) := by simp
  have x1 : ((W.alloc (insO 2 A B C imm)).drewN nq).cell? ⟨W.heap.size, 1, none⟩ = some (.int .i64 A) := by simp
  have x2 : ((W.alloc (insO 2 A B C imm)).drewN nq).cell? ⟨W.heap.size, 2, none⟩ = some (.int .i64 B) := by simp
  have x3 : ((W.alloc (insO 2 A B C imm)).drewN nq).cell? ⟨W.heap.size, 3, none⟩ = some (.int .i64 C) := by simp
  have x4 : ((W.alloc (insO 2 A B C imm)).drewN nq).cell? ⟨W.heap.size, 4, none⟩ = some (.int .i32 imm) := by simp
  have hcX : c ≠ W.heap.size := by omega
  clear cA cB cp
  generalize (W.alloc _).drewN nq = w2 at *
  generalize W.heap.size = X at *
  have cA := hc2.r A hA
  have fA := hc2.fz A
  have cB := hc2.r B hB
  have cC := hc2.r C hC
  have cp := hc2.p
  have HC2 := Lib.hid hc2
  have HG2 := Lib.hid hg2
  clear hc2 hg2
  go_wp2_with fail
  go_region_held3 (fun w' => w'.cell? ⟨X, 0, none⟩ = some (.int .i64 2) ∧ w'.cell? ⟨X, 1, none⟩ = some (.int .i64 A) ∧ w'.cell? ⟨X, 2, none⟩ = some (.int .i64 B) ∧ w'.cell? ⟨X, 3, none⟩ = some (.int .i64 C) ∧ w'.cell? ⟨X, 4, none⟩ = some (.int .i32 imm)) (first | go_keep | (refine ⟨?_, ?_, ?_, ?_, ?_⟩ <;> (rw [World.cell?_setCell_other _ _ _ _ (by intro e; injection e with e _ _; omega)]; assumption))) (fail)
  go_wp2_with fail
  refine bodyPost_ret (v := .tuple #[.int .u64 N, .int .i64 0]) (by simp [results, Try.results83, go_sem]) rfl ⟨by rw [HN.out], by rw [HV.out, HW.out]; exact (Ran.wrote HC2.out HG2.out hA hvb.1 hvb.2).drew⟩
set_option maxRecDepth 100000 in
set_option maxHeartbeats 2000000 in
theorem one_addi {W : World} {c : Nat} {R : Nat → Int} {pc : Int} (h : CoreAt W c R pc) (A B C : Nat) (hA : A < 16) (hB : B < 16) (hC : C < 16) (imm : Int) (j0 : -2147483648 ≤ imm) (j1 : imm ≤ 2147483647) (m : Value) :
    Calls Try.prog 83 #[.pointer (some ⟨c, 0, none⟩), .agg #[.int .i64 18, .int .i64 A, .int .i64 B, .int .i64 C, .int .i32 imm], m] W fun e w' => e = .returned (.tuple #[.int .u64 (nx pc), .int .i64 0]) ∧ Ran c (fun i => if i = A then IntKind.u64.wrap (R B + IntKind.u64.wrap imm) else R i) pc W w' := by
  have cp := h.p
  have cA := h.r A hA
  have cB := h.r B hB
  have HC := Lib.hid h
  have hlt := h.lt
  have hA0 : (0 : Int) ≤ (A : Int) := by omega
  have hA1 : (A : Int) < 16 := by omega
  have hB0 : (0 : Int) ≤ (B : Int) := by omega
  have hB1 : (B : Int) < 16 := by omega
  have hC0 : (0 : Int) ≤ (C : Int) := by omega
  have hC1 : (C : Int) < 16 := by omega
  obtain ⟨N, hN⟩ : ∃ N, IntKind.u64.wrap (pc + 8) = N := ⟨_, rfl⟩
  have HN : Hid (nx pc = N) := hN
  obtain ⟨p0, p1⟩ := h.pb
  obtain ⟨v, hv⟩ : ∃ v, IntKind.u64.wrap (R B + IntKind.u64.wrap imm) = v := ⟨_, rfl⟩
  have HV := Lib.hid hv
  have HW := Lib.hid (show IntKind.u64.wrap (R B + IntKind.u64.wrap (IntKind.i64.wrap imm)) = v by rw [← hv, i64_imm j0 j1])
  have hvb : 0 ≤ v ∧ v < 18446744073709551616 := by rw [← hv, IntKind.wrap_u64]; omega
  clear hv
  clear h
  go_enter Try.func83, Try.ntmps83
  go_wp2_with fail
  go_quiet (fail)
  have hg2 : W.grownBy ((W.alloc (insO 18 A B C imm)).drewN nq) none := ⟨rfl, rfl, rfl, by show W.heap.size ≤ (W.alloc (insO 18 A B C imm)).heap.size; simp, fun k hk _ => Below.heap_alloc _ _ _ hk⟩
  have hc2 := HC.out.grown hg2 (by simp)
  have x0 : ((W.alloc (insO 18 A B C imm)).drewN nq).cell? ⟨W.heap.size, 0, none⟩ = some (.int .i64 18) := by simp
  have x1 : ((W.alloc (insO 18 A B C imm)).drewN nq).cell? ⟨W.heap.size, 1, none⟩ = some (.int .i64 A) := by simp
  have x2 : ((W.alloc (insO 18 A B C imm)).drewN nq).cell? ⟨W.heap.size, 2, none⟩ = some (.int .i64 B) := by simp
  have x3 : ((W.alloc (insO 18 A B C imm)).drewN nq).cell? ⟨W.heap.size, 3, none⟩ = some (.int .i64 C) := by simp
  have x4 : ((W.alloc (insO 18 A B C imm)).drewN nq).cell? ⟨W.heap.size, 4, none⟩ = some (.int .i32 imm) := by simp
  have hcX : c ≠ W.heap.size := by omega
  clear cA cB cp
  generalize (W.alloc _).drewN nq = w2 at *
  generalize W.heap.size = X at *
  have cA := hc2.r A hA
  have fA := hc2.fz A
  have cB := hc2.r B hB
  have cC := hc2.r C hC
  have cp := hc2.p
  have HC2 := Lib.hid hc2
  have HG2 := Lib.hid hg2
  clear hc2 hg2
  go_wp2_with fail
  go_region_held3 (fun w' => w'.cell? ⟨X, 0, none⟩ = some (.int .i64 18) ∧ w'.cell? ⟨X, 1, none⟩ = some (.int .i64 A) ∧ w'.cell? ⟨X, 2, none⟩ = some (.int .i64 B) ∧ w'.cell? ⟨X, 3, none⟩ = some (.int .i64 C) ∧ w'.cell? ⟨X, 4, none⟩ = some (.int .i32 imm)) (first | go_keep | (refine ⟨?_, ?_, ?_, ?_, ?_⟩ <;> (rw [World.cell?_setCell_other _ _ _ _ (by intro e; injection e with e _ _; omega)]; assumption))) (fail)
  go_wp2_with fail
  refine bodyPost_ret (v := .tuple #[.int .u64 N, .int .i64 0]) (by simp [results, Try.results83, go_sem]) rfl ⟨by rw [HN.out], by rw [HV.out, HW.out]; exact (Ran.wrote HC2.out HG2.out hA hvb.1 hvb.2).drew⟩
set_option maxRecDepth 100000 in
set_option maxHeartbeats 2000000 in
theorem one_jr {W : World} {c : Nat} {R : Nat → Int} {pc : Int} (h : CoreAt W c R pc) (A B C : Nat) (hA : A < 16) (hB : B < 16) (hC : C < 16) (imm : Int) (j0 : -2147483648 ≤ imm) (j1 : imm ≤ 2147483647) (m : Value) :
    Calls Try.prog 83 #[.pointer (some ⟨c, 0, none⟩), .agg #[.int .i64 30, .int .i64 A, .int .i64 B, .int .i64 C, .int .i32 imm], m] W fun e w' => e = .returned (.tuple #[.int .u64 (R A), .int .i64 0]) ∧ Ran c R pc W w' := by
  have cp := h.p
  have cA := h.r A hA
  have cB := h.r B hB
  have HC := Lib.hid h
  have hlt := h.lt
  have hA0 : (0 : Int) ≤ (A : Int) := by omega
  have hA1 : (A : Int) < 16 := by omega
  have hB0 : (0 : Int) ≤ (B : Int) := by omega
  have hB1 : (B : Int) < 16 := by omega
  have hC0 : (0 : Int) ≤ (C : Int) := by omega
  have hC1 : (C : Int) < 16 := by omega
  obtain ⟨N, hN⟩ : ∃ N, IntKind.u64.wrap (pc + 8) = N := ⟨_, rfl⟩
  have HN : Hid (nx pc = N) := hN
  obtain ⟨p0, p1⟩ := h.pb
  clear h
  go_enter Try.func83, Try.ntmps83
  go_wp2_with fail
  go_quiet (fail)
  have hg2 : W.grownBy ((W.alloc (insO 30 A B C imm)).drewN nq) none := ⟨rfl, rfl, rfl, by show W.heap.size ≤ (W.alloc (insO 30 A B C imm)).heap.size; simp, fun k hk _ => Below.heap_alloc _ _ _ hk⟩
  have hc2 := HC.out.grown hg2 (by simp)
  have x0 : ((W.alloc (insO 30 A B C imm)).drewN nq).cell? ⟨W.heap.size, 0, none⟩ = some (.int .i64 30) := by simp
  have x1 : ((W.alloc (insO 30 A B C imm)).drewN nq).cell? ⟨W.heap.size, 1, none⟩ = some (.int .i64 A) := by simp
  have x2 : ((W.alloc (insO 30 A B C imm)).drewN nq).cell? ⟨W.heap.size, 2, none⟩ = some (.int .i64 B) := by simp
  have x3 : ((W.alloc (insO 30 A B C imm)).drewN nq).cell? ⟨W.heap.size, 3, none⟩ = some (.int .i64 C) := by simp
  have x4 : ((W.alloc (insO 30 A B C imm)).drewN nq).cell? ⟨W.heap.size, 4, none⟩ = some (.int .i32 imm) := by simp
  have hcX : c ≠ W.heap.size := by omega
  clear cA cB cp
  generalize (W.alloc _).drewN nq = w2 at *
  generalize W.heap.size = X at *
  have cA := hc2.r A hA
  have fA := hc2.fz A
  have cB := hc2.r B hB
  have cC := hc2.r C hC
  have cp := hc2.p
  have HC2 := Lib.hid hc2
  have HG2 := Lib.hid hg2
  clear hc2 hg2
  go_wp2_with fail
  refine bodyPost_ret (v := .tuple #[.int .u64 (R A), .int .i64 0]) (by simp [results, Try.results83, go_sem]) rfl ⟨rfl, Ran.same HC2.out HG2.out⟩
end Go.Proofs.Ytelgmffmekfndaa
set_option linter.unusedVariables false
namespace Go.Proofs.Ytelgmffmekfndaa
open Go.ChangeShapes Go.WideShapes Go.ChangeAt Go.RowKit

/-- the place imm instructions on -/
def fr (pc imm : Int) : Int := IntKind.u64.wrap (pc + IntKind.u64.wrap (8 * IntKind.u64.wrap imm))

set_option maxRecDepth 100000 in
set_option maxHeartbeats 2000000 in
theorem one_jal {W : World} {c : Nat} {R : Nat → Int} {pc : Int} (h : CoreAt W c R pc) (A B C : Nat) (hA : A < 16) (hB : B < 16) (hC : C < 16) (imm : Int) (j0 : -2147483648 ≤ imm) (j1 : imm ≤ 2147483647) (m : Value) :
    Calls Try.prog 83 #[.pointer (some ⟨c, 0, none⟩), .agg #[.int .i64 29, .int .i64 A, .int .i64 B, .int .i64 C, .int .i32 imm], m] W fun e w' => e = .returned (.tuple #[.int .u64 (fr pc imm), .int .i64 0]) ∧ Ran c (fun i => if i = A then nx pc else R i) pc W w' := by
  have cp := h.p
  have cA := h.r A hA
  have cB := h.r B hB
  have HC := Lib.hid h
  have hlt := h.lt
  have hA0 : (0 : Int) ≤ (A : Int) := by omega
  have hA1 : (A : Int) < 16 := by omega
  have hB0 : (0 : Int) ≤ (B : Int) := by omega
  have hB1 : (B : Int) < 16 := by omega
  have hC0 : (0 : Int) ≤ (C : Int) := by omega
  have hC1 : (C : Int) < 16 := by omega
  obtain ⟨N, hN⟩ : ∃ N, IntKind.u64.wrap (pc + 8) = N := ⟨_, rfl⟩
  have HN : Hid (nx pc = N) := hN
  obtain ⟨p0, p1⟩ := h.pb
  clear h
  go_enter Try.func83, Try.ntmps83
  go_wp2_with fail
  go_quiet (fail)
  have hg2 : W.grownBy ((W.alloc (insO 29 A B C imm)).drewN nq) none := ⟨rfl, rfl, rfl, by show W.heap.size ≤ (W.alloc (insO 29 A B C imm)).heap.size; simp, fun k hk _ => Below.heap_alloc _ _ _ hk⟩
  have hc2 := HC.out.grown hg2 (by simp)
  have x0 : ((W.alloc (insO 29 A B C imm)).drewN nq).cell? ⟨W.heap.size, 0, none⟩ = some (.int .i64 29) := by simp
  have x1 : ((W.alloc (insO 29 A B C imm)).drewN nq).cell? ⟨W.heap.size, 1, none⟩ = some (.int .i64 A) := by simp
  have x2 : ((W.alloc (insO 29 A B C imm)).drewN nq).cell? ⟨W.heap.size, 2, none⟩ = some (.int .i64 B) := by simp
  have x3 : ((W.alloc (insO 29 A B C imm)).drewN nq).cell? ⟨W.heap.size, 3, none⟩ = some (.int .i64 C) := by simp
  have x4 : ((W.alloc (insO 29 A B C imm)).drewN nq).cell? ⟨W.heap.size, 4, none⟩ = some (.int .i32 imm) := by simp
  have hcX : c ≠ W.heap.size := by omega
  clear cA cB cp
  generalize (W.alloc _).drewN nq = w2 at *
  generalize W.heap.size = X at *
  have cA := hc2.r A hA
  have fA := hc2.fz A
  have cB := hc2.r B hB
  have cC := hc2.r C hC
  have cp := hc2.p
  have HC2 := Lib.hid hc2
  have HG2 := Lib.hid hg2
  clear hc2 hg2
  have hnb : 0 ≤ N ∧ N < 18446744073709551616 := by rw [← HN.out]; exact nx_bd pc
  go_wp2_with fail
  refine (far_any HC2.out imm j0 j1).mono ?_
  rintro e w3 ⟨rfl, rfl⟩
  go_wp2_with fail
  go_wp2_with fail
  go_region_held3 (fun w' => w'.cell? ⟨X, 0, none⟩ = some (.int .i64 29) ∧ w'.cell? ⟨X, 1, none⟩ = some (.int .i64 A) ∧ w'.cell? ⟨X, 2, none⟩ = some (.int .i64 B) ∧ w'.cell? ⟨X, 3, none⟩ = some (.int .i64 C) ∧ w'.cell? ⟨X, 4, none⟩ = some (.int .i32 imm) ∧ w'.cell? ⟨c, 16, none⟩ = some (.int .u64 pc)) (first | (go_keep; done) | (refine ⟨?_, ?_, ?_, ?_, ?_, ?_⟩ <;> (exact (World.cell?_setCell_other _ _ _ _ (by intro e; injection e with e e2 _; omega)).trans (by assumption)))) (fail)
  go_wp2_with fail
  refine bodyPost_ret (v := .tuple #[.int .u64 (fr pc imm), .int .i64 0]) (by simp [results, Try.results83, go_sem, fr]) rfl ⟨rfl, by rw [HN.out]; exact (Ran.wrote HC2.out HG2.out hA hnb.1 hnb.2).drew⟩
set_option maxRecDepth 100000 in
set_option maxHeartbeats 2000000 in
theorem one_b25 {W : World} {c : Nat} {R : Nat → Int} {pc : Int} (h : CoreAt W c R pc) (A B C : Nat) (hA : A < 16) (hB : B < 16) (hC : C < 16) (imm : Int) (j0 : -2147483648 ≤ imm) (j1 : imm ≤ 2147483647) (m : Value) {t : Bool} (ht : ∀ w, Calls Try.prog 56 #[.int .i64 25, .int .u64 (R A), .int .u64 (R B)] w fun e w' => e = .returned (.bool t) ∧ w = w') :
    Calls Try.prog 83 #[.pointer (some ⟨c, 0, none⟩), .agg #[.int .i64 25, .int .i64 A, .int .i64 B, .int .i64 C, .int .i32 imm], m] W fun e w' => e = .returned (.tuple #[.int .u64 (if t then fr pc imm else nx pc), .int .i64 0]) ∧ Ran c R pc W w' := by
  have cp := h.p
  have cA := h.r A hA
  have cB := h.r B hB
  have HC := Lib.hid h
  have hlt := h.lt
  have hA0 : (0 : Int) ≤ (A : Int) := by omega
  have hA1 : (A : Int) < 16 := by omega
  have hB0 : (0 : Int) ≤ (B : Int) := by omega
  have hB1 : (B : Int) < 16 := by omega
  have hC0 : (0 : Int) ≤ (C : Int) := by omega
  have hC1 : (C : Int) < 16 := by omega
  obtain ⟨N, hN⟩ : ∃ N, IntKind.u64.wrap (pc + 8) = N := ⟨_, rfl⟩
  have HN : Hid (nx pc = N) := hN
  obtain ⟨p0, p1⟩ := h.pb
  clear h
  go_enter Try.func83, Try.ntmps83
  go_wp2_with fail
  go_quiet (fail)
  have hg2 : W.grownBy ((W.alloc (insO 25 A B C imm)).drewN nq) none := ⟨rfl, rfl, rfl, by show W.heap.size ≤ (W.alloc (insO 25 A B C imm)).heap.size; simp, fun k hk _ => Below.heap_alloc _ _ _ hk⟩
  have hc2 := HC.out.grown hg2 (by simp)
  have x0 : ((W.alloc (insO 25 A B C imm)).drewN nq).cell? ⟨W.heap.size, 0, none⟩ = some (.int .i64 25) := by simp
  have x1 : ((W.alloc (insO 25 A B C imm)).drewN nq).cell? ⟨W.heap.size, 1, none⟩ = some (.int .i64 A) := by simp
  have x2 : ((W.alloc (insO 25 A B C imm)).drewN nq).cell? ⟨W.heap.size, 2, none⟩ = some (.int .i64 B) := by simp
  have x3 : ((W.alloc (insO 25 A B C imm)).drewN nq).cell? ⟨W.heap.size, 3, none⟩ = some (.int .i64 C) := by simp
  have x4 : ((W.alloc (insO 25 A B C imm)).drewN nq).cell? ⟨W.heap.size, 4, none⟩ = some (.int .i32 imm) := by simp
  have hcX : c ≠ W.heap.size := by omega
  clear cA cB cp
  generalize (W.alloc _).drewN nq = w2 at *
  generalize W.heap.size = X at *
  have cA := hc2.r A hA
  have fA := hc2.fz A
  have cB := hc2.r B hB
  have cC := hc2.r C hC
  have cp := hc2.p
  have HC2 := Lib.hid hc2
  have HG2 := Lib.hid hg2
  clear hc2 hg2
  go_wp2_with fail
  refine (ht _).mono ?_
  rintro e w3 ⟨rfl, rfl⟩
  cases t
  · go_wp2_with fail
    refine bodyPost_ret (v := .tuple #[.int .u64 N, .int .i64 0]) (by simp [results, Try.results83, go_sem]) rfl ⟨by rw [HN.out], Ran.same HC2.out HG2.out⟩
  go_wp2_with fail
  refine (far_any HC2.out imm j0 j1).mono ?_
  rintro e w3 ⟨rfl, rfl⟩
  go_wp2_with fail
  refine bodyPost_ret (v := .tuple #[.int .u64 (fr pc imm), .int .i64 0]) (by simp [results, Try.results83, go_sem, fr]) rfl ⟨rfl, Ran.same HC2.out HG2.out⟩
set_option maxRecDepth 100000 in
set_option maxHeartbeats 2000000 in
theorem one_b26 {W : World} {c : Nat} {R : Nat → Int} {pc : Int} (h : CoreAt W c R pc) (A B C : Nat) (hA : A < 16) (hB : B < 16) (hC : C < 16) (imm : Int) (j0 : -2147483648 ≤ imm) (j1 : imm ≤ 2147483647) (m : Value) {t : Bool} (ht : ∀ w, Calls Try.prog 56 #[.int .i64 26, .int .u64 (R A), .int .u64 (R B)] w fun e w' => e = .returned (.bool t) ∧ w = w') :
    Calls Try.prog 83 #[.pointer (some ⟨c, 0, none⟩), .agg #[.int .i64 26, .int .i64 A, .int .i64 B, .int .i64 C, .int .i32 imm], m] W fun e w' => e = .returned (.tuple #[.int .u64 (if t then fr pc imm else nx pc), .int .i64 0]) ∧ Ran c R pc W w' := by
  have cp := h.p
  have cA := h.r A hA
  have cB := h.r B hB
  have HC := Lib.hid h
  have hlt := h.lt
  have hA0 : (0 : Int) ≤ (A : Int) := by omega
  have hA1 : (A : Int) < 16 := by omega
  have hB0 : (0 : Int) ≤ (B : Int) := by omega
  have hB1 : (B : Int) < 16 := by omega
  have hC0 : (0 : Int) ≤ (C : Int) := by omega
  have hC1 : (C : Int) < 16 := by omega
  obtain ⟨N, hN⟩ : ∃ N, IntKind.u64.wrap (pc + 8) = N := ⟨_, rfl⟩
  have HN : Hid (nx pc = N) := hN
  obtain ⟨p0, p1⟩ := h.pb
  clear h
  go_enter Try.func83, Try.ntmps83
  go_wp2_with fail
  go_quiet (fail)
  have hg2 : W.grownBy ((W.alloc (insO 26 A B C imm)).drewN nq) none := ⟨rfl, rfl, rfl, by show W.heap.size ≤ (W.alloc (insO 26 A B C imm)).heap.size; simp, fun k hk _ => Below.heap_alloc _ _ _ hk⟩
  have hc2 := HC.out.grown hg2 (by simp)
  have x0 : ((W.alloc (insO 26 A B C imm)).drewN nq).cell? ⟨W.heap.size, 0, none⟩ = some (.int .i64 26) := by simp
  have x1 : ((W.alloc (insO 26 A B C imm)).drewN nq).cell? ⟨W.heap.size, 1, none⟩ = some (.int .i64 A) := by simp
  have x2 : ((W.alloc (insO 26 A B C imm)).drewN nq).cell? ⟨W.heap.size, 2, none⟩ = some (.int .i64 B) := by simp
  have x3 : ((W.alloc (insO 26 A B C imm)).drewN nq).cell? ⟨W.heap.size, 3, none⟩ = some (.int .i64 C) := by simp
  have x4 : ((W.alloc (insO 26 A B C imm)).drewN nq).cell? ⟨W.heap.size, 4, none⟩ = some (.int .i32 imm) := by simp
  have hcX : c ≠ W.heap.size := by omega
  clear cA cB cp
  generalize (W.alloc _).drewN nq = w2 at *
  generalize W.heap.size = X at *
  have cA := hc2.r A hA
  have fA := hc2.fz A
  have cB := hc2.r B hB
  have cC := hc2.r C hC
  have cp := hc2.p
  have HC2 := Lib.hid hc2
  have HG2 := Lib.hid hg2
  clear hc2 hg2
  go_wp2_with fail
  refine (ht _).mono ?_
  rintro e w3 ⟨rfl, rfl⟩
  cases t
  · go_wp2_with fail
    refine bodyPost_ret (v := .tuple #[.int .u64 N, .int .i64 0]) (by simp [results, Try.results83, go_sem]) rfl ⟨by rw [HN.out], Ran.same HC2.out HG2.out⟩
  go_wp2_with fail
  refine (far_any HC2.out imm j0 j1).mono ?_
  rintro e w3 ⟨rfl, rfl⟩
  go_wp2_with fail
  refine bodyPost_ret (v := .tuple #[.int .u64 (fr pc imm), .int .i64 0]) (by simp [results, Try.results83, go_sem, fr]) rfl ⟨rfl, Ran.same HC2.out HG2.out⟩
set_option maxRecDepth 100000 in
set_option maxHeartbeats 2000000 in
theorem one_b27 {W : World} {c : Nat} {R : Nat → Int} {pc : Int} (h : CoreAt W c R pc) (A B C : Nat) (hA : A < 16) (hB : B < 16) (hC : C < 16) (imm : Int) (j0 : -2147483648 ≤ imm) (j1 : imm ≤ 2147483647) (m : Value) {t : Bool} (ht : ∀ w, Calls Try.prog 56 #[.int .i64 27, .int .u64 (R A), .int .u64 (R B)] w fun e w' => e = .returned (.bool t) ∧ w = w') :
    Calls Try.prog 83 #[.pointer (some ⟨c, 0, none⟩), .agg #[.int .i64 27, .int .i64 A, .int .i64 B, .int .i64 C, .int .i32 imm], m] W fun e w' => e = .returned (.tuple #[.int .u64 (if t then fr pc imm else nx pc), .int .i64 0]) ∧ Ran c R pc W w' := by
  have cp := h.p
  have cA := h.r A hA
  have cB := h.r B hB
  have HC := Lib.hid h
  have hlt := h.lt
  have hA0 : (0 : Int) ≤ (A : Int) := by omega
  have hA1 : (A : Int) < 16 := by omega
  have hB0 : (0 : Int) ≤ (B : Int) := by omega
  have hB1 : (B : Int) < 16 := by omega
  have hC0 : (0 : Int) ≤ (C : Int) := by omega
  have hC1 : (C : Int) < 16 := by omega
  obtain ⟨N, hN⟩ : ∃ N, IntKind.u64.wrap (pc + 8) = N := ⟨_, rfl⟩
  have HN : Hid (nx pc = N) := hN
  obtain ⟨p0, p1⟩ := h.pb
  clear h
  go_enter Try.func83, Try.ntmps83
  go_wp2_with fail
  go_quiet (fail)
  have hg2 : W.grownBy ((W.alloc (insO 27 A B C imm)).drewN nq) none := ⟨rfl, rfl, rfl, by show W.heap.size ≤ (W.alloc (insO 27 A B C imm)).heap.size; simp, fun k hk _ => Below.heap_alloc _ _ _ hk⟩
  have hc2 := HC.out.grown hg2 (by simp)
  have x0 : ((W.alloc (insO 27 A B C imm)).drewN nq).cell? ⟨W.heap.size, 0, none⟩ = some (.int .i64 27) := by simp
  have x1 : ((W.alloc (insO 27 A B C imm)).drewN nq).cell? ⟨W.heap.size, 1, none⟩ = some (.int .i64 A) := by simp
  have x2 : ((W.alloc (insO 27 A B C imm)).drewN nq).cell? ⟨W.heap.size, 2, none⟩ = some (.int .i64 B) := by simp
  have x3 : ((W.alloc (insO 27 A B C imm)).drewN nq).cell? ⟨W.heap.size, 3, none⟩ = some (.int .i64 C) := by simp
  have x4 : ((W.alloc (insO 27 A B C imm)).drewN nq).cell? ⟨W.heap.size, 4, none⟩ = some (.int .i32 imm) := by simp
  have hcX : c ≠ W.heap.size := by omega
  clear cA cB cp
  generalize (W.alloc _).drewN nq = w2 at *
  generalize W.heap.size = X at *
  have cA := hc2.r A hA
  have fA := hc2.fz A
  have cB := hc2.r B hB
  have cC := hc2.r C hC
  have cp := hc2.p
  have HC2 := Lib.hid hc2
  have HG2 := Lib.hid hg2
  clear hc2 hg2
  go_wp2_with fail
  refine (ht _).mono ?_
  rintro e w3 ⟨rfl, rfl⟩
  cases t
  · go_wp2_with fail
    refine bodyPost_ret (v := .tuple #[.int .u64 N, .int .i64 0]) (by simp [results, Try.results83, go_sem]) rfl ⟨by rw [HN.out], Ran.same HC2.out HG2.out⟩
  go_wp2_with fail
  refine (far_any HC2.out imm j0 j1).mono ?_
  rintro e w3 ⟨rfl, rfl⟩
  go_wp2_with fail
  refine bodyPost_ret (v := .tuple #[.int .u64 (fr pc imm), .int .i64 0]) (by simp [results, Try.results83, go_sem, fr]) rfl ⟨rfl, Ran.same HC2.out HG2.out⟩
set_option maxRecDepth 100000 in
set_option maxHeartbeats 2000000 in
theorem one_b28 {W : World} {c : Nat} {R : Nat → Int} {pc : Int} (h : CoreAt W c R pc) (A B C : Nat) (hA : A < 16) (hB : B < 16) (hC : C < 16) (imm : Int) (j0 : -2147483648 ≤ imm) (j1 : imm ≤ 2147483647) (m : Value) {t : Bool} (ht : ∀ w, Calls Try.prog 56 #[.int .i64 28, .int .u64 (R A), .int .u64 (R B)] w fun e w' => e = .returned (.bool t) ∧ w = w') :
    Calls Try.prog 83 #[.pointer (some ⟨c, 0, none⟩), .agg #[.int .i64 28, .int .i64 A, .int .i64 B, .int .i64 C, .int .i32 imm], m] W fun e w' => e = .returned (.tuple #[.int .u64 (if t then fr pc imm else nx pc), .int .i64 0]) ∧ Ran c R pc W w' := by
  have cp := h.p
  have cA := h.r A hA
  have cB := h.r B hB
  have HC := Lib.hid h
  have hlt := h.lt
  have hA0 : (0 : Int) ≤ (A : Int) := by omega
  have hA1 : (A : Int) < 16 := by omega
  have hB0 : (0 : Int) ≤ (B : Int) := by omega
  have hB1 : (B : Int) < 16 := by omega
  have hC0 : (0 : Int) ≤ (C : Int) := by omega
  have hC1 : (C : Int) < 16 := by omega
  obtain ⟨N, hN⟩ : ∃ N, IntKind.u64.wrap (pc + 8) = N := ⟨_, rfl⟩
  have HN : Hid (nx pc = N) := hN
  obtain ⟨p0, p1⟩ := h.pb
  clear h
  go_enter Try.func83, Try.ntmps83
  go_wp2_with fail
  go_quiet (fail)
  have hg2 : W.grownBy ((W.alloc (insO 28 A B C imm)).drewN nq) none := ⟨rfl, rfl, rfl, by show W.heap.size ≤ (W.alloc (insO 28 A B C imm)).heap.size; simp, fun k hk _ => Below.heap_alloc _ _ _ hk⟩
  have hc2 := HC.out.grown hg2 (by simp)
  have x0 : ((W.alloc (insO 28 A B C imm)).drewN nq).cell? ⟨W.heap.size, 0, none⟩ = some (.int .i64 28) := by simp
  have x1 : ((W.alloc (insO 28 A B C imm)).drewN nq).cell? ⟨W.heap.size, 1, none⟩ = some (.int .i64 A) := by simp
  have x2 : ((W.alloc (insO 28 A B C imm)).drewN nq).cell? ⟨W.heap.size, 2, none⟩ = some (.int .i64 B) := by simp
  have x3 : ((W.alloc (insO 28 A B C imm)).drewN nq).cell? ⟨W.heap.size, 3, none⟩ = some (.int .i64 C) := by simp
  have x4 : ((W.alloc (insO 28 A B C imm)).drewN nq).cell? ⟨W.heap.size, 4, none⟩ = some (.int .i32 imm) := by simp
  have hcX : c ≠ W.heap.size := by omega
  clear cA cB cp
  generalize (W.alloc _).drewN nq = w2 at *
  generalize W.heap.size = X at *
  have cA := hc2.r A hA
  have fA := hc2.fz A
  have cB := hc2.r B hB
  have cC := hc2.r C hC
  have cp := hc2.p
  have HC2 := Lib.hid hc2
  have HG2 := Lib.hid hg2
  clear hc2 hg2
  go_wp2_with fail
  refine (ht _).mono ?_
  rintro e w3 ⟨rfl, rfl⟩
  cases t
  · go_wp2_with fail
    refine bodyPost_ret (v := .tuple #[.int .u64 N, .int .i64 0]) (by simp [results, Try.results83, go_sem]) rfl ⟨by rw [HN.out], Ran.same HC2.out HG2.out⟩
  go_wp2_with fail
  refine (far_any HC2.out imm j0 j1).mono ?_
  rintro e w3 ⟨rfl, rfl⟩
  go_wp2_with fail
  refine bodyPost_ret (v := .tuple #[.int .u64 (fr pc imm), .int .i64 0]) (by simp [results, Try.results83, go_sem, fr]) rfl ⟨rfl, Ran.same HC2.out HG2.out⟩
end Go.Proofs.Ytelgmffmekfndaa
set_option linter.unusedVariables false
namespace Go.Proofs.Ytelgmffmekfndaa
open Go.ChangeShapes Go.WideShapes Go.ChangeAt Go.RowKit

theorem grown_of_below {w w' : World} (h : Below w.heap.size w w') (row : Option Nat) : w.grownBy w' row := ⟨h.os, h.tape, h.output, h.size, fun k hk _ => h.block k hk⟩

set_option maxRecDepth 100000 in
set_option maxHeartbeats 2000000 in
theorem one_low {W : World} {c : Nat} {R : Nat → Int} {pc : Int} (h : CoreAt W c R pc) (A B C : Nat) (hA : A < 16) (hB : B < 16) (hC : C < 16) (imm : Int) (j0 : -2147483648 ≤ imm) (j1 : imm ≤ 2147483647) (m : Value) (op v : Int) (v0 : 0 ≤ v) (v1 : v < 18446744073709551616) (ha : ∀ w, Calls Try.prog 50 #[.int .i64 op, .int .u64 (R B), .int .u64 (R C)] w fun e w' => e = .returned (.tuple #[.int .u64 v, .bool true]) ∧ Below w.heap.size w w') (o4 : 4 ≤ op) (o17 : op ≤ 17) :
    Calls Try.prog 83 #[.pointer (some ⟨c, 0, none⟩), .agg #[.int .i64 op, .int .i64 A, .int .i64 B, .int .i64 C, .int .i32 imm], m] W fun e w' => e = .returned (.tuple #[.int .u64 (nx pc), .int .i64 0]) ∧ Ran c (fun i => if i = A then v else R i) pc W w' := by
  have cp := h.p
  have cA := h.r A hA
  have cB := h.r B hB
  have HC := Lib.hid h
  have hlt := h.lt
  have hA0 : (0 : Int) ≤ (A : Int) := by omega
  have hA1 : (A : Int) < 16 := by omega
  have hB0 : (0 : Int) ≤ (B : Int) := by omega
  have hB1 : (B : Int) < 16 := by omega
  have hC0 : (0 : Int) ≤ (C : Int) := by omega
  have hC1 : (C : Int) < 16 := by omega
  obtain ⟨N, hN⟩ : ∃ N, IntKind.u64.wrap (pc + 8) = N := ⟨_, rfl⟩
  have HN : Hid (nx pc = N) := hN
  obtain ⟨p0, p1⟩ := h.pb
  have z1 : (op == 1) = false := by simp; omega
  have z43 : (op == 43) = false := by simp; omega
  have z2 : (op == 2) = false := by simp; omega
  have z3 : (op == 3) = false := by simp; omega
  have z18 : (op == 18) = false := by simp; omega
  have z29 : (op == 29) = false := by simp; omega
  have z30 : (op == 30) = false := by simp; omega
  have z25 : decide (25 ≤ op) = false := by simp; omega
  have z19 : decide (19 ≤ op) = false := by simp; omega
  clear h
  go_enter Try.func83, Try.ntmps83
  go_wp2_with fail
  go_quiet (fail)
  have hg2 : W.grownBy ((W.alloc (insO op A B C imm)).drewN nq) none := ⟨rfl, rfl, rfl, by show W.heap.size ≤ (W.alloc (insO op A B C imm)).heap.size; simp, fun k hk _ => Below.heap_alloc _ _ _ hk⟩
  have hc2 := HC.out.grown hg2 (by simp)
  have x0 : ((W.alloc (insO op A B C imm)).drewN nq).cell? ⟨W.heap.size, 0, none⟩ = some (.int .i64 op) := by simp
  have x1 : ((W.alloc (insO op A B C imm)).drewN nq).cell? ⟨W.heap.size, 1, none⟩ = some (.int .i64 A) := by simp
  have x2 : ((W.alloc (insO op A B C imm)).drewN nq).cell? ⟨W.heap.size, 2, none⟩ = some (.int .i64 B) := by simp
  have x3 : ((W.alloc (insO op A B C imm)).drewN nq).cell? ⟨W.heap.size, 3, none⟩ = some (.int .i64 C) := by simp
  have x4 : ((W.alloc (insO op A B C imm)).drewN nq).cell? ⟨W.heap.size, 4, none⟩ = some (.int .i32 imm) := by simp
  have hcX : c ≠ W.heap.size := by omega
  clear cA cB cp
  have hXs : W.heap.size < ((W.alloc (insO op A B C imm)).drewN nq).heap.size := by simp
  generalize (W.alloc _).drewN nq = w2 at *
  generalize W.heap.size = X at *
  have cA := hc2.r A hA
  have fA := hc2.fz A
  have cB := hc2.r B hB
  have cC := hc2.r C hC
  have cp := hc2.p
  have HC2 := Lib.hid hc2
  have HG2 := Lib.hid hg2
  clear hc2 hg2
  have cCx : w2.cell? ⟨c, C, none⟩ = some (.int .u64 (R C)) := cC
  go_wp2_with fail
  go_region_held3 (fun w' => w'.cell? ⟨X, 0, none⟩ = some (.int .i64 op) ∧ w'.cell? ⟨X, 3, none⟩ = some (.int .i64 C) ∧ w'.cell? ⟨c, C, none⟩ = some (.int .u64 (R C))) (first | exact ⟨y0, y3, yC⟩ | (go_keep; done) | assumption) (first | (go_at_call 50; refine (ha _).mono ?_; rintro e w3 ⟨rfl, hb3⟩; have hg3 : w2.grownBy w3 none := (show w2.grownBy w2.drew none from ⟨rfl, rfl, rfl, Nat.le_refl _, fun _ _ _ => rfl⟩).trans (grown_of_below hb3 none); have y0 := hg3.cell x0 (by simp); have y3 := hg3.cell x3 (by simp); have yC := hg3.cell cCx (by simp); have yA := hg3.cell x1 (by simp); have hc3 := HC2.out.grown hg3 (by simp); have cA3 := hc3.r A hA; have fA3 := hc3.fz A; have HC3 := Lib.hid hc3; have HG3 := Lib.hid (HG2.out.trans hg3); clear hc3 hg3) | fail)
  go_wp2_with fail
  go_region_held3 (fun w' => w'.cell? ⟨X, 1, none⟩ = some (.int .i64 A)) (first | (go_keep; done) | assumption | (exact (World.cell?_setCell_other _ _ _ _ (by intro e; injection e with e e2 _; omega)).trans (by assumption))) (fail)
  go_wp2_with fail
  refine bodyPost_ret (v := .tuple #[.int .u64 N, .int .i64 0]) (by simp [results, Try.results83, go_sem]) rfl ⟨by rw [HN.out], by exact (Ran.wrote HC3.out HG3.out hA v0 v1).drew⟩
set_option maxRecDepth 100000 in
set_option maxHeartbeats 2000000 in
theorem one_low_no {W : World} {c : Nat} {R : Nat → Int} {pc : Int} (h : CoreAt W c R pc) (A B C : Nat) (hA : A < 16) (hB : B < 16) (hC : C < 16) (imm : Int) (j0 : -2147483648 ≤ imm) (j1 : imm ≤ 2147483647) (m : Value) (op v : Int) (v0 : 0 ≤ v) (v1 : v < 18446744073709551616) (ha : ∀ w, Calls Try.prog 50 #[.int .i64 op, .int .u64 (R B), .int .u64 (R C)] w fun e w' => e = .returned (.tuple #[.int .u64 v, .bool false]) ∧ Below w.heap.size w w') (o4 : 4 ≤ op) (o17 : op ≤ 17) :
    Calls Try.prog 83 #[.pointer (some ⟨c, 0, none⟩), .agg #[.int .i64 op, .int .i64 A, .int .i64 B, .int .i64 C, .int .i32 imm], m] W fun e w' => e = .returned (.tuple #[.int .u64 (nx pc), .int .i64 5]) ∧ Ran c R pc W w' := by
  have cp := h.p
  have cA := h.r A hA
  have cB := h.r B hB
  have HC := Lib.hid h
  have hlt := h.lt
  have hA0 : (0 : Int) ≤ (A : Int) := by omega
  have hA1 : (A : Int) < 16 := by omega
  have hB0 : (0 : Int) ≤ (B : Int) := by omega
  have hB1 : (B : Int) < 16 := by omega
  have hC0 : (0 : Int) ≤ (C : Int) := by omega
  have hC1 : (C : Int) < 16 := by omega
  obtain ⟨N, hN⟩ : ∃ N, IntKind.u64.wrap (pc + 8) = N := ⟨_, rfl⟩
  have HN : Hid (nx pc = N) := hN
  obtain ⟨p0, p1⟩ := h.pb
  have z1 : (op == 1) = false := by simp; omega
  have z43 : (op == 43) = false := by simp; omega
  have z2 : (op == 2) = false := by simp; omega
  have z3 : (op == 3) = false := by simp; omega
  have z18 : (op == 18) = false := by simp; omega
  have z29 : (op == 29) = false := by simp; omega
  have z30 : (op == 30) = false := by simp; omega
  have z25 : decide (25 ≤ op) = false := by simp; omega
  have z19 : decide (19 ≤ op) = false := by simp; omega
  clear h
  go_enter Try.func83, Try.ntmps83
  go_wp2_with fail
  go_quiet (fail)
  have hg2 : W.grownBy ((W.alloc (insO op A B C imm)).drewN nq) none := ⟨rfl, rfl, rfl, by show W.heap.size ≤ (W.alloc (insO op A B C imm)).heap.size; simp, fun k hk _ => Below.heap_alloc _ _ _ hk⟩
  have hc2 := HC.out.grown hg2 (by simp)
  have x0 : ((W.alloc (insO op A B C imm)).drewN nq).cell? ⟨W.heap.size, 0, none⟩ = some (.int .i64 op) := by simp
  have x1 : ((W.alloc (insO op A B C imm)).drewN nq).cell? ⟨W.heap.size, 1, none⟩ = some (.int .i64 A) := by simp
  have x2 : ((W.alloc (insO op A B C imm)).drewN nq).cell? ⟨W.heap.size, 2, none⟩ = some (.int .i64 B) := by simp
  have x3 : ((W.alloc (insO op A B C imm)).drewN nq).cell? ⟨W.heap.size, 3, none⟩ = some (.int .i64 C) := by simp
  have x4 : ((W.alloc (insO op A B C imm)).drewN nq).cell? ⟨W.heap.size, 4, none⟩ = some (.int .i32 imm) := by simp
  have hcX : c ≠ W.heap.size := by omega
  clear cA cB cp
  have hXs : W.heap.size < ((W.alloc (insO op A B C imm)).drewN nq).heap.size := by simp
  generalize (W.alloc _).drewN nq = w2 at *
  generalize W.heap.size = X at *
  have cA := hc2.r A hA
  have fA := hc2.fz A
  have cB := hc2.r B hB
  have cC := hc2.r C hC
  have cp := hc2.p
  have HC2 := Lib.hid hc2
  have HG2 := Lib.hid hg2
  clear hc2 hg2
  have cCx : w2.cell? ⟨c, C, none⟩ = some (.int .u64 (R C)) := cC
  go_wp2_with fail
  go_region_held3 (fun w' => w'.cell? ⟨X, 0, none⟩ = some (.int .i64 op) ∧ w'.cell? ⟨X, 3, none⟩ = some (.int .i64 C) ∧ w'.cell? ⟨c, C, none⟩ = some (.int .u64 (R C))) (first | exact ⟨y0, y3, yC⟩ | (go_keep; done) | assumption) (first | (go_at_call 50; refine (ha _).mono ?_; rintro e w3 ⟨rfl, hb3⟩; have hg3 : w2.grownBy w3 none := (show w2.grownBy w2.drew none from ⟨rfl, rfl, rfl, Nat.le_refl _, fun _ _ _ => rfl⟩).trans (grown_of_below hb3 none); have y0 := hg3.cell x0 (by simp); have y3 := hg3.cell x3 (by simp); have yC := hg3.cell cCx (by simp); have yA := hg3.cell x1 (by simp); have hc3 := HC2.out.grown hg3 (by simp); have cA3 := hc3.r A hA; have fA3 := hc3.fz A; have HC3 := Lib.hid hc3; have HG3 := Lib.hid (HG2.out.trans hg3); clear hc3 hg3) | fail)
  go_wp2_with fail
  refine bodyPost_ret (v := .tuple #[.int .u64 N, .int .i64 5]) (by simp [results, Try.results83, go_sem]) rfl ⟨by rw [HN.out], Ran.same HC3.out HG3.out⟩
set_option maxRecDepth 100000 in
set_option maxHeartbeats 2000000 in
theorem one_high {W : World} {c : Nat} {R : Nat → Int} {pc : Int} (h : CoreAt W c R pc) (A B C : Nat) (hA : A < 16) (hB : B < 16) (hC : C < 16) (imm : Int) (j0 : -2147483648 ≤ imm) (j1 : imm ≤ 2147483647) (m : Value) (op v : Int) (v0 : 0 ≤ v) (v1 : v < 18446744073709551616) (ha : ∀ w, Calls Try.prog 50 #[.int .i64 op, .int .u64 (R B), .int .u64 (R C)] w fun e w' => e = .returned (.tuple #[.int .u64 v, .bool true]) ∧ Below w.heap.size w w') (o4 : 31 ≤ op) (o17 : op ≤ 42) :
    Calls Try.prog 83 #[.pointer (some ⟨c, 0, none⟩), .agg #[.int .i64 op, .int .i64 A, .int .i64 B, .int .i64 C, .int .i32 imm], m] W fun e w' => e = .returned (.tuple #[.int .u64 (nx pc), .int .i64 0]) ∧ Ran c (fun i => if i = A then v else R i) pc W w' := by
  have cp := h.p
  have cA := h.r A hA
  have cB := h.r B hB
  have HC := Lib.hid h
  have hlt := h.lt
  have hA0 : (0 : Int) ≤ (A : Int) := by omega
  have hA1 : (A : Int) < 16 := by omega
  have hB0 : (0 : Int) ≤ (B : Int) := by omega
  have hB1 : (B : Int) < 16 := by omega
  have hC0 : (0 : Int) ≤ (C : Int) := by omega
  have hC1 : (C : Int) < 16 := by omega
  obtain ⟨N, hN⟩ : ∃ N, IntKind.u64.wrap (pc + 8) = N := ⟨_, rfl⟩
  have HN : Hid (nx pc = N) := hN
  obtain ⟨p0, p1⟩ := h.pb
  have z1 : (op == 1) = false := by simp; omega
  have z43 : (op == 43) = false := by simp; omega
  have z2 : (op == 2) = false := by simp; omega
  have z3 : (op == 3) = false := by simp; omega
  have z18 : (op == 18) = false := by simp; omega
  have z29 : (op == 29) = false := by simp; omega
  have z30 : (op == 30) = false := by simp; omega
  have z25 : decide (25 ≤ op) = true := by simp; omega
  have z19 : decide (19 ≤ op) = true := by simp; omega
  have z28 : decide (op ≤ 28) = false := by simp; omega
  have z24 : decide (op ≤ 24) = false := by simp; omega
  clear h
  go_enter Try.func83, Try.ntmps83
  go_wp2_with fail
  go_quiet (fail)
  have hg2 : W.grownBy ((W.alloc (insO op A B C imm)).drewN nq) none := ⟨rfl, rfl, rfl, by show W.heap.size ≤ (W.alloc (insO op A B C imm)).heap.size; simp, fun k hk _ => Below.heap_alloc _ _ _ hk⟩
  have hc2 := HC.out.grown hg2 (by simp)
  have x0 : ((W.alloc (insO op A B C imm)).drewN nq).cell? ⟨W.heap.size, 0, none⟩ = some (.int .i64 op) := by simp
  have x1 : ((W.alloc (insO op A B C imm)).drewN nq).cell? ⟨W.heap.size, 1, none⟩ = some (.int .i64 A) := by simp
  have x2 : ((W.alloc (insO op A B C imm)).drewN nq).cell? ⟨W.heap.size, 2, none⟩ = some (.int .i64 B) := by simp
  have x3 : ((W.alloc (insO op A B C imm)).drewN nq).cell? ⟨W.heap.size, 3, none⟩ = some (.int .i64 C) := by simp
  have x4 : ((W.alloc (insO op A B C imm)).drewN nq).cell? ⟨W.heap.size, 4, none⟩ = some (.int .i32 imm) := by simp
  have hcX : c ≠ W.heap.size := by omega
  clear cA cB cp
  have hXs : W.heap.size < ((W.alloc (insO op A B C imm)).drewN nq).heap.size := by simp
  generalize (W.alloc _).drewN nq = w2 at *
  generalize W.heap.size = X at *
  have cA := hc2.r A hA
  have fA := hc2.fz A
  have cB := hc2.r B hB
  have cC := hc2.r C hC
  have cp := hc2.p
  have HC2 := Lib.hid hc2
  have HG2 := Lib.hid hg2
  clear hc2 hg2
  have cCx : w2.cell? ⟨c, C, none⟩ = some (.int .u64 (R C)) := cC
  go_wp2_with fail
  go_region_held3 (fun w' => w'.cell? ⟨X, 0, none⟩ = some (.int .i64 op) ∧ w'.cell? ⟨X, 3, none⟩ = some (.int .i64 C) ∧ w'.cell? ⟨c, C, none⟩ = some (.int .u64 (R C))) (first | exact ⟨y0, y3, yC⟩ | (go_keep; done) | assumption) (first | (go_at_call 50; refine (ha _).mono ?_; rintro e w3 ⟨rfl, hb3⟩; have hg3 : w2.grownBy w3 none := (show w2.grownBy w2.drew none from ⟨rfl, rfl, rfl, Nat.le_refl _, fun _ _ _ => rfl⟩).trans (grown_of_below hb3 none); have y0 := hg3.cell x0 (by simp); have y3 := hg3.cell x3 (by simp); have yC := hg3.cell cCx (by simp); have yA := hg3.cell x1 (by simp); have hc3 := HC2.out.grown hg3 (by simp); have cA3 := hc3.r A hA; have fA3 := hc3.fz A; have HC3 := Lib.hid hc3; have HG3 := Lib.hid (HG2.out.trans hg3); clear hc3 hg3) | fail)
  go_wp2_with fail
  go_region_held3 (fun w' => w'.cell? ⟨X, 1, none⟩ = some (.int .i64 A)) (first | (go_keep; done) | assumption | (exact (World.cell?_setCell_other _ _ _ _ (by intro e; injection e with e e2 _; omega)).trans (by assumption))) (fail)
  go_wp2_with fail
  refine bodyPost_ret (v := .tuple #[.int .u64 N, .int .i64 0]) (by simp [results, Try.results83, go_sem]) rfl ⟨by rw [HN.out], by exact (Ran.wrote HC3.out HG3.out hA v0 v1).drew⟩
set_option maxRecDepth 100000 in
set_option maxHeartbeats 2000000 in
theorem one_high_no {W : World} {c : Nat} {R : Nat → Int} {pc : Int} (h : CoreAt W c R pc) (A B C : Nat) (hA : A < 16) (hB : B < 16) (hC : C < 16) (imm : Int) (j0 : -2147483648 ≤ imm) (j1 : imm ≤ 2147483647) (m : Value) (op v : Int) (v0 : 0 ≤ v) (v1 : v < 18446744073709551616) (ha : ∀ w, Calls Try.prog 50 #[.int .i64 op, .int .u64 (R B), .int .u64 (R C)] w fun e w' => e = .returned (.tuple #[.int .u64 v, .bool false]) ∧ Below w.heap.size w w') (o4 : 31 ≤ op) (o17 : op ≤ 42) :
    Calls Try.prog 83 #[.pointer (some ⟨c, 0, none⟩), .agg #[.int .i64 op, .int .i64 A, .int .i64 B, .int .i64 C, .int .i32 imm], m] W fun e w' => e = .returned (.tuple #[.int .u64 (nx pc), .int .i64 5]) ∧ Ran c R pc W w' := by
  have cp := h.p
  have cA := h.r A hA
  have cB := h.r B hB
  have HC := Lib.hid h
  have hlt := h.lt
  have hA0 : (0 : Int) ≤ (A : Int) := by omega
  have hA1 : (A : Int) < 16 := by omega
  have hB0 : (0 : Int) ≤ (B : Int) := by omega
  have hB1 : (B : Int) < 16 := by omega
  have hC0 : (0 : Int) ≤ (C : Int) := by omega
  have hC1 : (C : Int) < 16 := by omega
  obtain ⟨N, hN⟩ : ∃ N, IntKind.u64.wrap (pc + 8) = N := ⟨_, rfl⟩
  have HN : Hid (nx pc = N) := hN
  obtain ⟨p0, p1⟩ := h.pb
  have z1 : (op == 1) = false := by simp; omega
  have z43 : (op == 43) = false := by simp; omega
  have z2 : (op == 2) = false := by simp; omega
  have z3 : (op == 3) = false := by simp; omega
  have z18 : (op == 18) = false := by simp; omega
  have z29 : (op == 29) = false := by simp; omega
  have z30 : (op == 30) = false := by simp; omega
  have z25 : decide (25 ≤ op) = true := by simp; omega
  have z19 : decide (19 ≤ op) = true := by simp; omega
  have z28 : decide (op ≤ 28) = false := by simp; omega
  have z24 : decide (op ≤ 24) = false := by simp; omega
  clear h
  go_enter Try.func83, Try.ntmps83
  go_wp2_with fail
  go_quiet (fail)
  have hg2 : W.grownBy ((W.alloc (insO op A B C imm)).drewN nq) none := ⟨rfl, rfl, rfl, by show W.heap.size ≤ (W.alloc (insO op A B C imm)).heap.size; simp, fun k hk _ => Below.heap_alloc _ _ _ hk⟩
  have hc2 := HC.out.grown hg2 (by simp)
  have x0 : ((W.alloc (insO op A B C imm)).drewN nq).cell? ⟨W.heap.size, 0, none⟩ = some (.int .i64 op) := by simp
  have x1 : ((W.alloc (insO op A B C imm)).drewN nq).cell? ⟨W.heap.size, 1, none⟩ = some (.int .i64 A) := by simp
  have x2 : ((W.alloc (insO op A B C imm)).drewN nq).cell? ⟨W.heap.size, 2, none⟩ = some (.int .i64 B) := by simp
  have x3 : ((W.alloc (insO op A B C imm)).drewN nq).cell? ⟨W.heap.size, 3, none⟩ = some (.int .i64 C) := by simp
  have x4 : ((W.alloc (insO op A B C imm)).drewN nq).cell? ⟨W.heap.size, 4, none⟩ = some (.int .i32 imm) := by simp
  have hcX : c ≠ W.heap.size := by omega
  clear cA cB cp
  have hXs : W.heap.size < ((W.alloc (insO op A B C imm)).drewN nq).heap.size := by simp
  generalize (W.alloc _).drewN nq = w2 at *
  generalize W.heap.size = X at *
  have cA := hc2.r A hA
  have fA := hc2.fz A
  have cB := hc2.r B hB
  have cC := hc2.r C hC
  have cp := hc2.p
  have HC2 := Lib.hid hc2
  have HG2 := Lib.hid hg2
  clear hc2 hg2
  have cCx : w2.cell? ⟨c, C, none⟩ = some (.int .u64 (R C)) := cC
  go_wp2_with fail
  go_region_held3 (fun w' => w'.cell? ⟨X, 0, none⟩ = some (.int .i64 op) ∧ w'.cell? ⟨X, 3, none⟩ = some (.int .i64 C) ∧ w'.cell? ⟨c, C, none⟩ = some (.int .u64 (R C))) (first | exact ⟨y0, y3, yC⟩ | (go_keep; done) | assumption) (first | (go_at_call 50; refine (ha _).mono ?_; rintro e w3 ⟨rfl, hb3⟩; have hg3 : w2.grownBy w3 none := (show w2.grownBy w2.drew none from ⟨rfl, rfl, rfl, Nat.le_refl _, fun _ _ _ => rfl⟩).trans (grown_of_below hb3 none); have y0 := hg3.cell x0 (by simp); have y3 := hg3.cell x3 (by simp); have yC := hg3.cell cCx (by simp); have yA := hg3.cell x1 (by simp); have hc3 := HC2.out.grown hg3 (by simp); have cA3 := hc3.r A hA; have fA3 := hc3.fz A; have HC3 := Lib.hid hc3; have HG3 := Lib.hid (HG2.out.trans hg3); clear hc3 hg3) | fail)
  go_wp2_with fail
  refine bodyPost_ret (v := .tuple #[.int .u64 N, .int .i64 5]) (by simp [results, Try.results83, go_sem]) rfl ⟨by rw [HN.out], Ran.same HC3.out HG3.out⟩
end Go.Proofs.Ytelgmffmekfndaa
set_option linter.unusedVariables false
namespace Go.Proofs.Ytelgmffmekfndaa
open Go.ChangeShapes Go.WideShapes Go.ChangeAt Go.RowKit

def hiOf (a imm : Int) : Int := bits .or .u64 (bits .and .u64 a 4294967295) (IntKind.u32.wrap imm * 4294967296)

set_option maxRecDepth 100000 in
set_option maxHeartbeats 2000000 in
theorem one_hi {W : World} {c : Nat} {R : Nat → Int} {pc : Int} (h : CoreAt W c R pc) (A B C : Nat) (hA : A < 16) (hB : B < 16) (hC : C < 16) (imm : Int) (j0 : -2147483648 ≤ imm) (j1 : imm ≤ 2147483647) (m : Value) (hv0 : 0 ≤ hiOf (R A) imm ∧ hiOf (R A) imm < 18446744073709551616) :
    Calls Try.prog 83 #[.pointer (some ⟨c, 0, none⟩), .agg #[.int .i64 3, .int .i64 A, .int .i64 B, .int .i64 C, .int .i32 imm], m] W fun e w' => e = .returned (.tuple #[.int .u64 (nx pc), .int .i64 0]) ∧ Ran c (fun i => if i = A then hiOf (R A) imm else R i) pc W w' := by
  have cp := h.p
  have cA := h.r A hA
  have cB := h.r B hB
  have HC := Lib.hid h
  have hlt := h.lt
  have hA0 : (0 : Int) ≤ (A : Int) := by omega
  have hA1 : (A : Int) < 16 := by omega
  have hB0 : (0 : Int) ≤ (B : Int) := by omega
  have hB1 : (B : Int) < 16 := by omega
  have hC0 : (0 : Int) ≤ (C : Int) := by omega
  have hC1 : (C : Int) < 16 := by omega
  obtain ⟨N, hN⟩ : ∃ N, IntKind.u64.wrap (pc + 8) = N := ⟨_, rfl⟩
  have HN : Hid (nx pc = N) := hN
  obtain ⟨p0, p1⟩ := h.pb
  obtain ⟨u, hu⟩ : ∃ u, IntKind.u32.wrap imm = u := ⟨_, rfl⟩
  have hub : 0 ≤ u ∧ u < 4294967296 := by rw [← hu, IntKind.wrap_u32]; omega
  have huw : IntKind.u64.wrap u = u := by rw [IntKind.wrap_u64]; omega
  obtain ⟨q, hq⟩ : ∃ q, u * 4294967296 = q := ⟨_, rfl⟩
  have hqw : IntKind.u64.wrap q = q := by rw [IntKind.wrap_u64]; omega
  obtain ⟨o, ho⟩ : ∃ o, bits .and .u64 (R A) 4294967295 = o := ⟨_, rfl⟩
  obtain ⟨v, hv⟩ : ∃ v, bits .or .u64 o q = v := ⟨_, rfl⟩
  have HV := Lib.hid (show hiOf (R A) imm = v by unfold hiOf; rw [ho, hu, hq, hv])
  have hvb : 0 ≤ v ∧ v < 18446744073709551616 := by rw [← HV.out]; exact hv0
  clear hv0
  clear h
  go_enter Try.func83, Try.ntmps83
  go_wp2_with fail
  go_quiet (fail)
  have hg2 : W.grownBy ((W.alloc (insO 3 A B C imm)).drewN nq) none := ⟨rfl, rfl, rfl, by show W.heap.size ≤ (W.alloc (insO 3 A B C imm)).heap.size; simp, fun k hk _ => Below.heap_alloc _ _ _ hk⟩
  have hc2 := HC.out.grown hg2 (by simp)
  have x0 : ((W.alloc (insO 3 A B C imm)).drewN nq).cell? ⟨W.heap.size, 0, none⟩ = some (.int .i64 3) := by simp
  have x1 : ((W.alloc (insO 3 A B C imm)).drewN nq).cell? ⟨W.heap.size, 1, none⟩ = some (.int .i64 A) := by simp
  have x2 : ((W.alloc (insO 3 A B C imm)).drewN nq).cell? ⟨W.heap.size, 2, none⟩ = some (.int .i64 B) := by simp
  have x3 : ((W.alloc (insO 3 A B C imm)).drewN nq).cell? ⟨W.heap.size, 3, none⟩ = some (.int .i64 C) := by simp
  have x4 : ((W.alloc (insO 3 A B C imm)).drewN nq).cell? ⟨W.heap.size, 4, none⟩ = some (.int .i32 imm) := by simp
  have hcX : c ≠ W.heap.size := by omega
  clear cA cB cp
  generalize (W.alloc _).drewN nq = w2 at *
  generalize W.heap.size = X at *
  have cA := hc2.r A hA
  have fA := hc2.fz A
  have cB := hc2.r B hB
  have cC := hc2.r C hC
  have cp := hc2.p
  have HC2 := Lib.hid hc2
  have HG2 := Lib.hid hg2
  clear hc2 hg2
  go_wp2_with fail
  go_region_held3 (fun w' => w'.cell? ⟨X, 0, none⟩ = some (.int .i64 3) ∧ w'.cell? ⟨X, 1, none⟩ = some (.int .i64 A) ∧ w'.cell? ⟨X, 2, none⟩ = some (.int .i64 B) ∧ w'.cell? ⟨X, 3, none⟩ = some (.int .i64 C) ∧ w'.cell? ⟨X, 4, none⟩ = some (.int .i32 imm)) (first | go_keep | (refine ⟨?_, ?_, ?_, ?_, ?_⟩ <;> (rw [World.cell?_setCell_other _ _ _ _ (by intro e; injection e with e _ _; omega)]; assumption))) (fail)
  go_wp2_with fail
  refine bodyPost_ret (v := .tuple #[.int .u64 N, .int .i64 0]) (by simp [results, Try.results83, go_sem]) rfl ⟨by rw [HN.out], by rw [HV.out]; exact (Ran.wrote HC2.out HG2.out hA hvb.1 hvb.2).drew⟩
end Go.Proofs.Ytelgmffmekfndaa
