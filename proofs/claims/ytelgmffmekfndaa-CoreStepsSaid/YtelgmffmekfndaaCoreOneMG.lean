/- core.one, the operations that reach memory. Conditions: as each theorem names them. -/
import Derived.Test.YtelgmffmekfndaaCoreOnesG
set_option linter.unusedVariables false
namespace Go.Proofs.Ytelgmffmekfndaa
open Go.ChangeShapes Go.WideShapes Go.ChangeAt Go.RowKit

set_option maxRecDepth 100000 in
set_option maxHeartbeats 2000000 in
theorem one_mem {W : World} {c : Nat} {R : Nat → Int} {pc : Int} (h : CoreAt W c R pc) (A B C : Nat) (hA : A < 16) (hB : B < 16) (hC : C < 16) (imm : Int) (j0 : -2147483648 ≤ imm) (j1 : imm ≤ 2147483647) (m : Value) (op en : Int) (V : World → Prop) (o19 : 19 ≤ op) (o24 : op ≤ 24)
    (hm : ∀ w', W.grownBy w' none → Calls Try.prog 94 #[.pointer (some ⟨c, 0, none⟩), .agg #[.int .i64 op, .int .i64 A, .int .i64 B, .int .i64 C, .int .i32 imm], m] w' fun e w2 => e = .returned (.int .i64 en) ∧ V w2) :
    Calls Try.prog 83 #[.pointer (some ⟨c, 0, none⟩), .agg #[.int .i64 op, .int .i64 A, .int .i64 B, .int .i64 C, .int .i32 imm], m] W fun e w' => e = .returned (.tuple #[.int .u64 (nx pc), .int .i64 en]) ∧ V w' := by
  have cp := h.p
  have cA := h.r A hA
  have cB := h.r B hB
  have HC := Lib.hid h
  have HM := Lib.hid hm
  have hlt := h.lt
  have hA0 : (0 : Int) ≤ (A : Int) := by omega
  have hA1 : (A : Int) < 16 := by omega
  have hB0 : (0 : Int) ≤ (B : Int) := by omega
  have hB1 : (B : Int) < 16 := by omega
  have hC0 : (0 : Int) ≤ (C : Int) := by omega
  have hC1 : (C : Int) < 16 := by omega
  obtain ⟨N, hN⟩ : ∃ N, IntKind.u64.wrap (pc + 8) = N := ⟨_, rfl⟩
  have HN : Hid (nx pc = N) := hN
  obtain ⟨p0, p1⟩ := h.pb
  have z1 : (op == 1) = false := by simp; omega
  have z43 : (op == 43) = false := by simp; omega
  have z2 : (op == 2) = false := by simp; omega
  have z3 : (op == 3) = false := by simp; omega
  have z18 : (op == 18) = false := by simp; omega
  have z29 : (op == 29) = false := by simp; omega
  have z30 : (op == 30) = false := by simp; omega
  have z25 : decide (25 ≤ op) = false := by simp; omega
  have z19 : decide (19 ≤ op) = true := by simp; omega
  have z24 : decide (op ≤ 24) = true := by simp; omega
  clear h hm
  go_enter Try.func83, Try.ntmps83
  go_wp2_with fail
  go_quiet (fail)
  have hg2 : W.grownBy ((W.alloc (insO op A B C imm)).drewN nq) none := ⟨rfl, rfl, rfl, by show W.heap.size ≤ (W.alloc (insO op A B C imm)).heap.size; simp, fun k hk _ => Below.heap_alloc _ _ _ hk⟩
  have x0 : ((W.alloc (insO op A B C imm)).drewN nq).cell? ⟨W.heap.size, 0, none⟩ = some (.int .i64 op) := by simp
  have x1 : ((W.alloc (insO op A B C imm)).drewN nq).cell? ⟨W.heap.size, 1, none⟩ = some (.int .i64 A) := by simp
  have x2 : ((W.alloc (insO op A B C imm)).drewN nq).cell? ⟨W.heap.size, 2, none⟩ = some (.int .i64 B) := by simp
  have x3 : ((W.alloc (insO op A B C imm)).drewN nq).cell? ⟨W.heap.size, 3, none⟩ = some (.int .i64 C) := by simp
  have x4 : ((W.alloc (insO op A B C imm)).drewN nq).cell? ⟨W.heap.size, 4, none⟩ = some (.int .i32 imm) := by simp
  have hcX : c ≠ W.heap.size := by omega
  clear cA cB cp
  generalize (W.alloc _).drewN nq = w2 at *
  generalize W.heap.size = X at *
  have HG2 := Lib.hid hg2
  clear hg2
  go_wp2_with fail
  refine (HM.out _ HG2.out).mono ?_
  rintro e w3 ⟨rfl, hV⟩
  have HV := Lib.hid hV
  clear hV
  go_wp2_with fail
  refine bodyPost_ret (v := .tuple #[.int .u64 N, .int .i64 en]) (by simp [results, Try.results83, go_sem]) rfl ⟨by rw [HN.out], HV.out⟩
end Go.Proofs.Ytelgmffmekfndaa
