/- core.move: stores. Conditions: as each theorem names them. -/
import Derived.Test.YtelgmffmekfndaaCoreMoveG
import Derived.Test.YtelgmffmekfndaaCoreSregG
set_option linter.unusedVariables false
namespace Go.Proofs.Ytelgmffmekfndaa
open Go.ChangeShapes Go.WideShapes Go.ChangeAt Go.RowKit

set_option maxRecDepth 100000 in
set_option maxHeartbeats 2000000 in
theorem move_store8 {W : World} {c : Nat} {R : Nat → Int} {pc : Int} (h : CoreAt W c R pc) (A B C : Nat) (hA : A < 16) (hB : B < 16) (hC : C < 16) (imm : Int) (j0 : -2147483648 ≤ imm) (j1 : imm ≤ 2147483647) (M g : Nat) (op pl x : Int) (r : Bool) (U : World → Prop) (hcg : c ≠ g) (hgz : g < W.heap.size)
    (hw : ∀ w, Calls Try.prog 57 #[.int .i64 op] w fun e w' => e = .returned (.tuple #[.int .i64 8, .bool true]) ∧ w = w') (hp : ∀ w, Calls Try.prog 60 #[.int .u64 (R B), .int .i32 imm, .int .i64 8] w fun e w' => e = .returned (.tuple #[.int .i64 pl, .bool true]) ∧ w = w')
    (hx : bits .and .u64 (R A) 18446744073709551615 = x) (hl : ∀ w', W.grownBy w' none → Calls Try.prog 87 #[.pointer (some ⟨M, 0, none⟩), .int .i64 pl, .int .i64 8, .int .u64 x] w' fun e w2 => e = .returned (.bool r) ∧ U w2 ∧ w'.grownBy w2 (some g)) :
    Calls Try.prog 94 #[.pointer (some ⟨c, 0, none⟩), .agg #[.int .i64 op, .int .i64 A, .int .i64 B, .int .i64 C, .int .i32 imm], .iface 52 (.pointer (some ⟨M, 0, none⟩))] W fun e w' => e = .returned (.int .i64 (if r then 0 else 3)) ∧ U w' ∧ CoreAt w' c R pc ∧ W.grownBy w' (some g) := by
  have cp := h.p
  have cA := h.r A hA
  have cB := h.r B hB
  have HC := Lib.hid h
  have hlt := h.lt
  have hA0 : (0 : Int) ≤ (A : Int) := by omega
  have hA1 : (A : Int) < 16 := by omega
  have hB0 : (0 : Int) ≤ (B : Int) := by omega
  have hB1 : (B : Int) < 16 := by omega
  have hC0 : (0 : Int) ≤ (C : Int) := by omega
  have hC1 : (C : Int) < 16 := by omega
  have HX := Lib.hid hx
  have HL := Lib.hid hl
  clear h hx hl
  go_enter Try.func94, Try.ntmps94
  go_wp2_with fail
  have hg2 : W.grownBy ((W.alloc (insO op A B C imm))) none := ⟨rfl, rfl, rfl, by show W.heap.size ≤ (W.alloc (insO op A B C imm)).heap.size; simp, fun k hk _ => Below.heap_alloc _ _ _ hk⟩
  have hc2 := HC.out.grown hg2 (by simp)
  have x0 : ((W.alloc (insO op A B C imm))).cell? ⟨W.heap.size, 0, none⟩ = some (.int .i64 op) := by simp
  have x1 : ((W.alloc (insO op A B C imm))).cell? ⟨W.heap.size, 1, none⟩ = some (.int .i64 A) := by simp
  have x2 : ((W.alloc (insO op A B C imm))).cell? ⟨W.heap.size, 2, none⟩ = some (.int .i64 B) := by simp
  have x3 : ((W.alloc (insO op A B C imm))).cell? ⟨W.heap.size, 3, none⟩ = some (.int .i64 C) := by simp
  have x4 : ((W.alloc (insO op A B C imm))).cell? ⟨W.heap.size, 4, none⟩ = some (.int .i32 imm) := by simp
  have hXs : W.heap.size < ((W.alloc (insO op A B C imm))).heap.size := by simp
  have hcX : c ≠ W.heap.size := by omega
  clear cA cB cp
  generalize (W.alloc _) = w2 at *
  have hgX : W.heap.size ≠ g := by omega
  generalize W.heap.size = X at *
  have cA := hc2.r A hA
  have fA := hc2.fz A
  have cB := hc2.r B hB
  have cC := hc2.r C hC
  have cp := hc2.p
  have HC2 := Lib.hid hc2
  have HG2 := Lib.hid hg2
  have HXS := Lib.hid hXs
  clear hc2 hg2 hXs
  go_wp2_with fail
  refine (hw _).mono ?_
  rintro e w3 ⟨rfl, rfl⟩
  go_wp2_with fail
  go_region_held3 (fun w' => w' = w2.drew) (first | rfl | assumption) (first | (go_at_call 60; refine (hp _).mono ?_; rintro e w4 ⟨rfl, rfl⟩) | fail)
  go_wp2_with fail
  have hdd : W.grownBy w2.drew.drew none := ⟨HG2.out.os, HG2.out.tape, HG2.out.output, HG2.out.size, HG2.out.block⟩
  have hst := HL.out _ hdd
  have hcd : CoreAt w2.drew.drew c R pc := HC2.out.grown (row := none) ⟨rfl, rfl, rfl, Nat.le_refl _, fun _ _ _ => rfl⟩ (by simp)
  have hX1 : w2.drew.drew.cell? ⟨X, 1, none⟩ = some (.int .i64 A) := x1
  have hXz : X < w2.drew.drew.heap.size := HXS.out
  refine store_reg8 c A X M (R A) x pl r (fun w' => U w' ∧ w2.drew.drew.grownBy w' (some g)) w2.drew hA x1 cA HX.out hst (fun w' hT => ⟨hT.2.cell hX1 (by simpa using hgX), hT.2.cell (hcd.r A hA) (by simpa using hcg)⟩) _ rfl rfl rfl rfl rfl rfl _ ?_
  rintro w5 ⟨hU, hg5⟩
  have HU := Lib.hid hU
  have HC5 := Lib.hid (hcd.grown hg5 (by simpa using hcg))
  have HG5 := Lib.hid ((hdd.but (some g)).trans hg5)
  clear hU hg5 hst hcd hdd hX1
  simp only [Act.put, List.setIfInBounds_toArray, List.set_cons_succ, List.set_cons_zero]
  cases r
  · go_wp2_with fail
    exact bodyPost_ret (v := .int .i64 3) (by simp [results, Try.results94, go_sem]) rfl ⟨rfl, HU.out, HC5.out, HG5.out⟩
  · go_wp2_with fail
    exact bodyPost_ret (v := .int .i64 0) (by simp [results, Try.results94, go_sem]) rfl ⟨rfl, HU.out, HC5.out, HG5.out⟩
set_option maxRecDepth 100000 in
set_option maxHeartbeats 2000000 in
theorem move_store4 {W : World} {c : Nat} {R : Nat → Int} {pc : Int} (h : CoreAt W c R pc) (A B C : Nat) (hA : A < 16) (hB : B < 16) (hC : C < 16) (imm : Int) (j0 : -2147483648 ≤ imm) (j1 : imm ≤ 2147483647) (M g : Nat) (op pl x : Int) (r : Bool) (U : World → Prop) (hcg : c ≠ g) (hgz : g < W.heap.size)
    (hw : ∀ w, Calls Try.prog 57 #[.int .i64 op] w fun e w' => e = .returned (.tuple #[.int .i64 4, .bool true]) ∧ w = w') (hp : ∀ w, Calls Try.prog 60 #[.int .u64 (R B), .int .i32 imm, .int .i64 4] w fun e w' => e = .returned (.tuple #[.int .i64 pl, .bool true]) ∧ w = w')
    (hx : bits .and .u64 (R A) 4294967295 = x) (hl : ∀ w', W.grownBy w' none → Calls Try.prog 87 #[.pointer (some ⟨M, 0, none⟩), .int .i64 pl, .int .i64 4, .int .u64 x] w' fun e w2 => e = .returned (.bool r) ∧ U w2 ∧ w'.grownBy w2 (some g)) :
    Calls Try.prog 94 #[.pointer (some ⟨c, 0, none⟩), .agg #[.int .i64 op, .int .i64 A, .int .i64 B, .int .i64 C, .int .i32 imm], .iface 52 (.pointer (some ⟨M, 0, none⟩))] W fun e w' => e = .returned (.int .i64 (if r then 0 else 3)) ∧ U w' ∧ CoreAt w' c R pc ∧ W.grownBy w' (some g) := by
  have cp := h.p
  have cA := h.r A hA
  have cB := h.r B hB
  have HC := Lib.hid h
  have hlt := h.lt
  have hA0 : (0 : Int) ≤ (A : Int) := by omega
  have hA1 : (A : Int) < 16 := by omega
  have hB0 : (0 : Int) ≤ (B : Int) := by omega
  have hB1 : (B : Int) < 16 := by omega
  have hC0 : (0 : Int) ≤ (C : Int) := by omega
  have hC1 : (C : Int) < 16 := by omega
  have HX := Lib.hid hx
  have HL := Lib.hid hl
  clear h hx hl
  go_enter Try.func94, Try.ntmps94
  go_wp2_with fail
  have hg2 : W.grownBy ((W.alloc (insO op A B C imm))) none := ⟨rfl, rfl, rfl, by show W.heap.size ≤ (W.alloc (insO op A B C imm)).heap.size; simp, fun k hk _ => Below.heap_alloc _ _ _ hk⟩
  have hc2 := HC.out.grown hg2 (by simp)
  have x0 : ((W.alloc (insO op A B C imm))).cell? ⟨W.heap.size, 0, none⟩ = some (.int .i64 op) := by simp
  have x1 : ((W.alloc (insO op A B C imm))).cell? ⟨W.heap.size, 1, none⟩ = some (.int .i64 A) := by simp
  have x2 : ((W.alloc (insO op A B C imm))).cell? ⟨W.heap.size, 2, none⟩ = some (.int .i64 B) := by simp
  have x3 : ((W.alloc (insO op A B C imm))).cell? ⟨W.heap.size, 3, none⟩ = some (.int .i64 C) := by simp
  have x4 : ((W.alloc (insO op A B C imm))).cell? ⟨W.heap.size, 4, none⟩ = some (.int .i32 imm) := by simp
  have hXs : W.heap.size < ((W.alloc (insO op A B C imm))).heap.size := by simp
  have hcX : c ≠ W.heap.size := by omega
  clear cA cB cp
  generalize (W.alloc _) = w2 at *
  have hgX : W.heap.size ≠ g := by omega
  generalize W.heap.size = X at *
  have cA := hc2.r A hA
  have fA := hc2.fz A
  have cB := hc2.r B hB
  have cC := hc2.r C hC
  have cp := hc2.p
  have HC2 := Lib.hid hc2
  have HG2 := Lib.hid hg2
  have HXS := Lib.hid hXs
  clear hc2 hg2 hXs
  go_wp2_with fail
  refine (hw _).mono ?_
  rintro e w3 ⟨rfl, rfl⟩
  go_wp2_with fail
  go_region_held3 (fun w' => w' = w2.drew) (first | rfl | assumption) (first | (go_at_call 60; refine (hp _).mono ?_; rintro e w4 ⟨rfl, rfl⟩) | fail)
  go_wp2_with fail
  have hdd : W.grownBy w2.drew.drew none := ⟨HG2.out.os, HG2.out.tape, HG2.out.output, HG2.out.size, HG2.out.block⟩
  have hst := HL.out _ hdd
  have hcd : CoreAt w2.drew.drew c R pc := HC2.out.grown (row := none) ⟨rfl, rfl, rfl, Nat.le_refl _, fun _ _ _ => rfl⟩ (by simp)
  have hX1 : w2.drew.drew.cell? ⟨X, 1, none⟩ = some (.int .i64 A) := x1
  have hXz : X < w2.drew.drew.heap.size := HXS.out
  refine store_reg4 c A X M (R A) x pl r (fun w' => U w' ∧ w2.drew.drew.grownBy w' (some g)) w2.drew hA x1 cA HX.out hst (fun w' hT => ⟨hT.2.cell hX1 (by simpa using hgX), hT.2.cell (hcd.r A hA) (by simpa using hcg)⟩) _ rfl rfl rfl rfl rfl rfl _ ?_
  rintro w5 ⟨hU, hg5⟩
  have HU := Lib.hid hU
  have HC5 := Lib.hid (hcd.grown hg5 (by simpa using hcg))
  have HG5 := Lib.hid ((hdd.but (some g)).trans hg5)
  clear hU hg5 hst hcd hdd hX1
  simp only [Act.put, List.setIfInBounds_toArray, List.set_cons_succ, List.set_cons_zero]
  cases r
  · go_wp2_with fail
    exact bodyPost_ret (v := .int .i64 3) (by simp [results, Try.results94, go_sem]) rfl ⟨rfl, HU.out, HC5.out, HG5.out⟩
  · go_wp2_with fail
    exact bodyPost_ret (v := .int .i64 0) (by simp [results, Try.results94, go_sem]) rfl ⟨rfl, HU.out, HC5.out, HG5.out⟩
set_option maxRecDepth 100000 in
set_option maxHeartbeats 2000000 in
theorem move_store1 {W : World} {c : Nat} {R : Nat → Int} {pc : Int} (h : CoreAt W c R pc) (A B C : Nat) (hA : A < 16) (hB : B < 16) (hC : C < 16) (imm : Int) (j0 : -2147483648 ≤ imm) (j1 : imm ≤ 2147483647) (M g : Nat) (op pl x : Int) (r : Bool) (U : World → Prop) (hcg : c ≠ g) (hgz : g < W.heap.size)
    (hw : ∀ w, Calls Try.prog 57 #[.int .i64 op] w fun e w' => e = .returned (.tuple #[.int .i64 1, .bool true]) ∧ w = w') (hp : ∀ w, Calls Try.prog 60 #[.int .u64 (R B), .int .i32 imm, .int .i64 1] w fun e w' => e = .returned (.tuple #[.int .i64 pl, .bool true]) ∧ w = w')
    (hx : bits .and .u64 (R A) 255 = x) (hl : ∀ w', W.grownBy w' none → Calls Try.prog 87 #[.pointer (some ⟨M, 0, none⟩), .int .i64 pl, .int .i64 1, .int .u64 x] w' fun e w2 => e = .returned (.bool r) ∧ U w2 ∧ w'.grownBy w2 (some g)) :
    Calls Try.prog 94 #[.pointer (some ⟨c, 0, none⟩), .agg #[.int .i64 op, .int .i64 A, .int .i64 B, .int .i64 C, .int .i32 imm], .iface 52 (.pointer (some ⟨M, 0, none⟩))] W fun e w' => e = .returned (.int .i64 (if r then 0 else 3)) ∧ U w' ∧ CoreAt w' c R pc ∧ W.grownBy w' (some g) := by
  have cp := h.p
  have cA := h.r A hA
  have cB := h.r B hB
  have HC := Lib.hid h
  have hlt := h.lt
  have hA0 : (0 : Int) ≤ (A : Int) := by omega
  have hA1 : (A : Int) < 16 := by omega
  have hB0 : (0 : Int) ≤ (B : Int) := by omega
  have hB1 : (B : Int) < 16 := by omega
  have hC0 : (0 : Int) ≤ (C : Int) := by omega
  have hC1 : (C : Int) < 16 := by omega
  have HX := Lib.hid hx
  have HL := Lib.hid hl
  clear h hx hl
  go_enter Try.func94, Try.ntmps94
  go_wp2_with fail
  have hg2 : W.grownBy ((W.alloc (insO op A B C imm))) none := ⟨rfl, rfl, rfl, by show W.heap.size ≤ (W.alloc (insO op A B C imm)).heap.size; simp, fun k hk _ => Below.heap_alloc _ _ _ hk⟩
  have hc2 := HC.out.grown hg2 (by simp)
  have x0 : ((W.alloc (insO op A B C imm))).cell? ⟨W.heap.size, 0, none⟩ = some (.int .i64 op) := by simp
  have x1 : ((W.alloc (insO op A B C imm))).cell? ⟨W.heap.size, 1, none⟩ = some (.int .i64 A) := by simp
  have x2 : ((W.alloc (insO op A B C imm))).cell? ⟨W.heap.size, 2, none⟩ = some (.int .i64 B) := by simp
  have x3 : ((W.alloc (insO op A B C imm))).cell? ⟨W.heap.size, 3, none⟩ = some (.int .i64 C) := by simp
  have x4 : ((W.alloc (insO op A B C imm))).cell? ⟨W.heap.size, 4, none⟩ = some (.int .i32 imm) := by simp
  have hXs : W.heap.size < ((W.alloc (insO op A B C imm))).heap.size := by simp
  have hcX : c ≠ W.heap.size := by omega
  clear cA cB cp
  generalize (W.alloc _) = w2 at *
  have hgX : W.heap.size ≠ g := by omega
  generalize W.heap.size = X at *
  have cA := hc2.r A hA
  have fA := hc2.fz A
  have cB := hc2.r B hB
  have cC := hc2.r C hC
  have cp := hc2.p
  have HC2 := Lib.hid hc2
  have HG2 := Lib.hid hg2
  have HXS := Lib.hid hXs
  clear hc2 hg2 hXs
  go_wp2_with fail
  refine (hw _).mono ?_
  rintro e w3 ⟨rfl, rfl⟩
  go_wp2_with fail
  go_region_held3 (fun w' => w' = w2.drew) (first | rfl | assumption) (first | (go_at_call 60; refine (hp _).mono ?_; rintro e w4 ⟨rfl, rfl⟩) | fail)
  go_wp2_with fail
  have hdd : W.grownBy w2.drew.drew none := ⟨HG2.out.os, HG2.out.tape, HG2.out.output, HG2.out.size, HG2.out.block⟩
  have hst := HL.out _ hdd
  have hcd : CoreAt w2.drew.drew c R pc := HC2.out.grown (row := none) ⟨rfl, rfl, rfl, Nat.le_refl _, fun _ _ _ => rfl⟩ (by simp)
  have hX1 : w2.drew.drew.cell? ⟨X, 1, none⟩ = some (.int .i64 A) := x1
  have hXz : X < w2.drew.drew.heap.size := HXS.out
  refine store_reg1 c A X M (R A) x pl r (fun w' => U w' ∧ w2.drew.drew.grownBy w' (some g)) w2.drew hA x1 cA HX.out hst (fun w' hT => ⟨hT.2.cell hX1 (by simpa using hgX), hT.2.cell (hcd.r A hA) (by simpa using hcg)⟩) _ rfl rfl rfl rfl rfl rfl _ ?_
  rintro w5 ⟨hU, hg5⟩
  have HU := Lib.hid hU
  have HC5 := Lib.hid (hcd.grown hg5 (by simpa using hcg))
  have HG5 := Lib.hid ((hdd.but (some g)).trans hg5)
  clear hU hg5 hst hcd hdd hX1
  simp only [Act.put, List.setIfInBounds_toArray, List.set_cons_succ, List.set_cons_zero]
  cases r
  · go_wp2_with fail
    exact bodyPost_ret (v := .int .i64 3) (by simp [results, Try.results94, go_sem]) rfl ⟨rfl, HU.out, HC5.out, HG5.out⟩
  · go_wp2_with fail
    exact bodyPost_ret (v := .int .i64 0) (by simp [results, Try.results94, go_sem]) rfl ⟨rfl, HU.out, HC5.out, HG5.out⟩
end Go.Proofs.Ytelgmffmekfndaa
