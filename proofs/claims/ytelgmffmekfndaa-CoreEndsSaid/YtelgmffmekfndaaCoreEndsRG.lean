/- CoreEnds keeps a core and a memory's bytes: one statement that draws its order, at a frame that is a letter. Conditions: as each theorem names them. -/
import Derived.Test.YtelgmffmekfndaaCoreEqsG
set_option linter.unusedVariables false
namespace Go.Proofs.Ytelgmffmekfndaa
open Go.ChangeShapes Go.WideShapes Go.ChangeAt Go.RowKit

section
variable {ρ : Operand → Value}
theorem rn_load57 {o : Oper} {x : Operand} {c : Nat} {R : Nat → Int} {pc : Int} (ho : o.op = .load 57 x) (h : ρ x = .pointer (some ⟨c, 0, none⟩)) (w : World) (hc : CoreAt w c R pc) : (execOp ρ o).run Try.prog w = .ok (.value (.agg (coreV R pc))) w := by
  have c0 := hc.r 0 (by omega)
  have c1 := hc.r 1 (by omega)
  have c2 := hc.r 2 (by omega)
  have c3 := hc.r 3 (by omega)
  have c4 := hc.r 4 (by omega)
  have c5 := hc.r 5 (by omega)
  have c6 := hc.r 6 (by omega)
  have c7 := hc.r 7 (by omega)
  have c8 := hc.r 8 (by omega)
  have c9 := hc.r 9 (by omega)
  have c10 := hc.r 10 (by omega)
  have c11 := hc.r 11 (by omega)
  have c12 := hc.r 12 (by omega)
  have c13 := hc.r 13 (by omega)
  have c14 := hc.r 14 (by omega)
  have c15 := hc.r 15 (by omega)
  have c16 := hc.p
  unfold execOp; simp [ho, h, c0, c1, c2, c3, c4, c5, c6, c7, c8, c9, c10, c11, c12, c13, c14, c15, c16, go_sem]
theorem rn_alloc57 {o : Oper} (ho : o.op = .alloc 57) (w : World) : (execOp ρ o).run Try.prog w = .ok (.value (.pointer (some ⟨w.heap.size, 0, none⟩))) (w.alloc (.cells (coreV (fun _ => 0) 0) 57)) := by
  unfold execOp; simp [ho, go_sem]
theorem rn_store57 {o : Oper} {x y : Operand} {R : Nat → Int} {pc : Int} (ho : o.op = .store 57 x y) {w : World} (h : ρ x = .pointer (some ⟨w.heap.size, 0, none⟩)) (h2 : ρ y = .agg (coreV R pc)) (_ : World) : (execOp ρ o).run Try.prog (w.alloc (.cells (coreV (fun _ => 0) 0) 57)) = .ok .skip (w.alloc (.cells (coreV R pc) 57)) := by
  unfold execOp; simp [ho, h, h2, go_sem]
end
noncomputable def code18_12 : Code := (Try.f18.body.bind (regionOf 12)).getD .skip
set_option maxRecDepth 100000 in
set_option maxHeartbeats 4000000 in
theorem ends_reg (c M g n cap : Nat) (hole pc : Int) (R f : Nat → Int) (wA : World) (hc0 : CoreAt wA c R pc) (hm0 : MemAt wA M g n cap hole f) (gz0 : g < wA.heap.size)
    (a0 : Act) (hs0 : a0.tmps.size = 75) (f7 : a0.eval (.tmp 7) = .pointer (some ⟨M, 0, none⟩)) (f8 : a0.eval (.tmp 8) = .pointer (some ⟨c, 0, none⟩)) (Q : Exit → Act → World → Prop)
    (hQ : ∀ b8, b8 = wA.drew.heap.size → Q .normal ((((((((a0.put (some 50) (.agg (coreV R pc))).put (some 51) (.pointer (some ⟨M, 0, none⟩))).put (some 52) (.pointer (some ⟨M, 0, none⟩))).put (some 53) (.pointer (some ⟨M, 0, none⟩))).put (some 54) (.slice (some ⟨g, 0, none⟩) n cap)).put (some 55) (.string (strF f 0 n))).put (some 9) (.pointer (some ⟨b8, 0, none⟩))).put (some 10) (.string (strF f 0 n))) (wA.drew.alloc (.cells (coreV R pc) 57))) : code18_12.wp Try.prog Q a0 wA := by
  conv => arg 2; whnf
  refine wp_region_noPanic ?_
  refine wp_region_late (fun w' => CoreAt w' c R pc ∧ MemAt w' M g n cap hole f) [0, 4, 5] 9 (by rfl) (by kernel_rfl) ?_
  have hc : CoreAt wA.drew c R pc := hc0.grown (row := none) ⟨rfl, rfl, rfl, Nat.le_refl _, fun _ _ _ => rfl⟩ (by simp)
  have hm : MemAt wA.drew M g n cap hole f := hm0.grown (row := none) ⟨rfl, rfl, rfl, Nat.le_refl _, fun _ _ _ => rfl⟩ (by simp) (by simp) gz0
  have gz : g < wA.drew.heap.size := gz0
  clear hc0 hm0 gz0
  generalize wA.drew = w5 at *
  have hv0 : a0.eval = a0.eval := rfl
  refine lt_load (i := 0) (v := .agg (coreV R pc)) (d := 50) hv0 (by rfl) (by kernel_rfl) (by kernel_rfl) (by kernel_rfl) (by simp) (fun _ _ _ h => h) (by rfl) (fun w hS => rn_load57 rfl f8 w hS.1) ⟨hc, hm⟩ rfl hs0 (by decide) (fun a1 ρ1 hp1 => ?_)
  have hv1 := hp1.ev
  have hs1 := hp1.sz
  have f50 := hp1.at'
  replace f7 := (hp1.rest 7 (by decide)).trans f7
  replace f8 := (hp1.rest 8 (by decide)).trans f8
  refine lt_pure (i := 1) (v := .pointer (some ⟨M, 0, none⟩)) (d := 51) hv1 (by rfl) (by kernel_rfl) (by kernel_rfl) (by kernel_rfl) (fun _ _ _ h => h) (by rfl) (fun w => rn_move rfl f7 w) rfl hs1 (by decide) (fun a2 ρ2 hp2 => ?_)
  have hv2 := hp2.ev
  have hs2 := hp2.sz
  have f51 := hp2.at'
  replace f7 := (hp2.rest 7 (by decide)).trans f7
  replace f8 := (hp2.rest 8 (by decide)).trans f8
  replace f50 := (hp2.rest 50 (by decide)).trans f50
  refine lt_pure (i := 2) (v := .pointer (some ⟨M, 0, none⟩)) (d := 52) hv2 (by rfl) (by kernel_rfl) (by kernel_rfl) (by kernel_rfl) (fun _ _ _ h => h) (by rfl) (fun w => rn_nil rfl f51 w) rfl hs2 (by decide) (fun a3 ρ3 hp3 => ?_)
  have hv3 := hp3.ev
  have hs3 := hp3.sz
  have f52 := hp3.at'
  replace f7 := (hp3.rest 7 (by decide)).trans f7
  replace f8 := (hp3.rest 8 (by decide)).trans f8
  replace f50 := (hp3.rest 50 (by decide)).trans f50
  replace f51 := (hp3.rest 51 (by decide)).trans f51
  refine lt_pure (i := 3) (v := .pointer (some ⟨M, 0, none⟩)) (d := 53) hv3 (by rfl) (by kernel_rfl) (by kernel_rfl) (by kernel_rfl) (fun _ _ _ h => h) (by rfl) (fun w => rn_f54 rfl f52 w) rfl hs3 (by decide) (fun a4 ρ4 hp4 => ?_)
  have hv4 := hp4.ev
  have hs4 := hp4.sz
  have f53 := hp4.at'
  replace f7 := (hp4.rest 7 (by decide)).trans f7
  replace f8 := (hp4.rest 8 (by decide)).trans f8
  replace f50 := (hp4.rest 50 (by decide)).trans f50
  replace f51 := (hp4.rest 51 (by decide)).trans f51
  replace f52 := (hp4.rest 52 (by decide)).trans f52
  refine lt_load (i := 4) (v := .slice (some ⟨g, 0, none⟩) n cap) (d := 54) hv4 (by rfl) (by kernel_rfl) (by kernel_rfl) (by kernel_rfl) (by simp) (fun _ _ _ h => h) (by rfl) (fun w hS => rn_load48 rfl f53 w hS.2.cb) ⟨hc, hm⟩ rfl hs4 (by decide) (fun a5 ρ5 hp5 => ?_)
  have hv5 := hp5.ev
  have hs5 := hp5.sz
  have f54 := hp5.at'
  replace f7 := (hp5.rest 7 (by decide)).trans f7
  replace f8 := (hp5.rest 8 (by decide)).trans f8
  replace f50 := (hp5.rest 50 (by decide)).trans f50
  replace f51 := (hp5.rest 51 (by decide)).trans f51
  replace f52 := (hp5.rest 52 (by decide)).trans f52
  replace f53 := (hp5.rest 53 (by decide)).trans f53
  refine lt_load (i := 5) (v := .string (strF f 0 n)) (d := 55) hv5 (by rfl) (by kernel_rfl) (by kernel_rfl) (by kernel_rfl) (by simp) (fun _ _ _ h => h) (by rfl) (fun w hS => rn_conv rfl f54 (conv_at hS.2 0 n cap (by omega))) ⟨hc, hm⟩ rfl hs5 (by decide) (fun a6 ρ6 hp6 => ?_)
  have hv6 := hp6.ev
  have hs6 := hp6.sz
  have f55 := hp6.at'
  replace f7 := (hp6.rest 7 (by decide)).trans f7
  replace f8 := (hp6.rest 8 (by decide)).trans f8
  replace f50 := (hp6.rest 50 (by decide)).trans f50
  replace f51 := (hp6.rest 51 (by decide)).trans f51
  replace f52 := (hp6.rest 52 (by decide)).trans f52
  replace f53 := (hp6.rest 53 (by decide)).trans f53
  replace f54 := (hp6.rest 54 (by decide)).trans f54
  refine wpLate_one (i := 6) (by kernel_rfl) ?_
  refine lt_value (v := .pointer (some ⟨w5.heap.size, 0, none⟩)) (w' := (w5.alloc (.cells (coreV (fun _ => 0) 0) 57))) (d := 9) hv6 (by rfl) (by rfl) (rn_alloc57 rfl _) rfl hs6 (by decide) (fun _ => .inr ⟨hc.grown (World.grownBy_alloc _ _ none) (by simp), hm.grown (World.grownBy_alloc _ _ none) (by simp) (by simp) gz⟩) (fun a7 ρ7 hp7 => ?_)
  have hv7 := hp7.ev
  have hs7 := hp7.sz
  have f9 := hp7.at'
  replace f7 := (hp7.rest 7 (by decide)).trans f7
  replace f8 := (hp7.rest 8 (by decide)).trans f8
  replace f50 := (hp7.rest 50 (by decide)).trans f50
  replace f51 := (hp7.rest 51 (by decide)).trans f51
  replace f52 := (hp7.rest 52 (by decide)).trans f52
  replace f53 := (hp7.rest 53 (by decide)).trans f53
  replace f54 := (hp7.rest 54 (by decide)).trans f54
  replace f55 := (hp7.rest 55 (by decide)).trans f55
  refine wpLate_one (i := 7) (by kernel_rfl) ?_
  refine lt_skip (w' := w5.alloc (.cells (coreV R pc) 57)) hv7 (by rfl) (by rfl) (rn_store57 rfl f9 f50 w5) rfl (fun _ => .inr ⟨hc.grown (World.grownBy_alloc _ _ none) (by simp), hm.grown (World.grownBy_alloc _ _ none) (by simp) (by simp) gz⟩) ?_
  refine wpLate_one (i := 8) (by kernel_rfl) ?_
  refine lt_value (v := .string (strF f 0 n)) (w' := (w5.alloc (.cells (coreV R pc) 57))) (d := 10) hv7 (by rfl) (by rfl) (rn_assign rfl f55 _) rfl hs7 (by decide) (fun _ => .inl rfl) (fun a8 ρ8 hp8 => ?_)
  have hv8 := hp8.ev
  have hs8 := hp8.sz
  have f10 := hp8.at'
  replace f7 := (hp8.rest 7 (by decide)).trans f7
  replace f8 := (hp8.rest 8 (by decide)).trans f8
  replace f9 := (hp8.rest 9 (by decide)).trans f9
  replace f50 := (hp8.rest 50 (by decide)).trans f50
  replace f51 := (hp8.rest 51 (by decide)).trans f51
  replace f52 := (hp8.rest 52 (by decide)).trans f52
  replace f53 := (hp8.rest 53 (by decide)).trans f53
  replace f54 := (hp8.rest 54 (by decide)).trans f54
  replace f55 := (hp8.rest 55 (by decide)).trans f55
  refine wpLate_done (by kernel_rfl) ?_
  refine NoPanic.normal ?_
  have hq := hQ w5.heap.size rfl
  rw [hp1.eq, hp2.eq, hp3.eq, hp4.eq, hp5.eq, hp6.eq, hp7.eq, hp8.eq] at hq
  exact hq
end Go.Proofs.Ytelgmffmekfndaa
