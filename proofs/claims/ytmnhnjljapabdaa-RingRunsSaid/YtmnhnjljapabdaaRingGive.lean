/- The append of RingRuns, one statement that draws its order, at a frame that is a letter. Conditions: as each theorem names them. -/
import Derived.Test.YtmnhnjljapabdaaLetter
import Derived.Test.YtmnhnjljapabdaaRingRunsC
set_option linter.unusedVariables false
namespace Go.Proofs.Ytmnhnjljapabdaa
open Go.ChangeShapes Go.WideShapes Go.ChangeAt Go.RowKit

theorem keepA' {w : World} {p : Addr} {v : Value} (o : Obj) (h : w.cell? p = some v) : (w.alloc o).cell? p = some v := by
  have hlt : p.block < w.heap.size := by
    rcases Nat.lt_or_ge p.block w.heap.size with c | c
    · exact c
    · exfalso
      simp [World.cell?, Array.getElem?_eq_none c] at h
  rw [World.cell?_of_block (w := w) (Below.heap_alloc _ _ _ hlt)]; exact h
section
variable {ρ : Operand → Value}
theorem rn_f39 {o : Oper} {x : Operand} {b : Nat} (ho : o.op = .fieldAddr 39 x 1) (h : ρ x = .pointer (some ⟨b, 0, none⟩)) (w : World) : (execOp ρ o).run Try.prog w = .ok (.value (.pointer (some ⟨b, 1, none⟩))) w := by
  unfold execOp; simp [ho, h, go_sem]
theorem rn_load37 {o : Oper} {x : Operand} {p : Addr} {v : Value} (ho : o.op = .load 37 x) (h : ρ x = .pointer (some p)) (w : World) (hc : w.cell? p = some v) (hv : ∃ ao n c, v = .slice ao n c) : (execOp ρ o).run Try.prog w = .ok (.value v) w := by
  obtain ⟨ao, n, c, rfl⟩ := hv
  unfold execOp; simp [ho, h, hc, go_sem]
theorem rn_load22 {o : Oper} {x : Operand} {p : Addr} {ao : Option Addr} {n c : Nat} (ho : o.op = .load 22 x) (h : ρ x = .pointer (some p)) (w : World) (hc : w.cell? p = some (.slice ao n c)) : (execOp ρ o).run Try.prog w = .ok (.value (.slice ao n c)) w := by
  unfold execOp; simp [ho, h, hc, go_sem]
theorem rn_len22 {o : Oper} {x : Operand} {ao : Option Addr} {n c : Nat} (ho : o.op = .call { callee := .builtin .len, args := #[x], argTypes := #[22] }) (h : ρ x = .slice ao n c) (w : World) : (execOp ρ o).run Try.prog w = .ok (.value (.int .i64 n)) w := by
  unfold execOp; simp [ho, h, go_sem]
theorem rn_min {o : Oper} {x : Operand} {n : Int} (ho : o.op = .call { callee := .builtin .min, args := #[x, .const (.int .i64 32)], argTypes := #[3, 3] }) (h : ρ x = .int .i64 n) (w : World) (hk : ρ (.const (.int .i64 32)) = .int .i64 32) : (execOp ρ o).run Try.prog w = .ok (.value (.int .i64 (min n 32))) w := by
  unfold execOp; simp [ho, h, hk, go_sem]
theorem rn_slice {o : Oper} {x y : Operand} {ao : Option Addr} {n c : Nat} (ho : o.op = .slice 22 x none (some y) none) (h : ρ x = .slice ao n c) (h2 : ρ y = .int .i64 (min (n : Int) 32)) (w : World) (hle : n ≤ c) : (execOp ρ o).run Try.prog w = .ok (.value (.slice ao (min (n : Int) 32).toNat c)) w := by
  have h3 : min (n : Int) 32 ≤ (c : Int) := by omega
  have h4 : 0 ≤ min (n : Int) 32 := by omega
  unfold execOp; simp [ho, h, h2, h3, h4, go_sem]
theorem rn_convert {o : Oper} {x : Operand} {v : Value} {B : ByteArray} (ho : o.op = .convert 22 9 x) (h : ρ x = v) (w : World) (hc : (convert 22 9 v).run Try.prog w = .ok (.string B) w) : (execOp ρ o).run Try.prog w = .ok (.value (.string B)) w := by
  subst h
  unfold execOp
  simp only [ho, Sem.run_bind, hc, Result.andThen_ok, Sem.run_pure]
theorem rn_build37 {o : Oper} {x : Operand} {s : ByteArray} (ho : o.op = .buildSlice 37 1 #[(0, x)]) (h : ρ x = .string s) (w : World) :
    (execOp ρ o).run Try.prog w = .ok (.value (.slice (some ⟨w.heap.size, 0, none⟩) 1 1)) (w.alloc (.cells #[.string s] 9)) := by
  unfold execOp; simp [ho, h, go_sem]
theorem rn_store37 {o : Oper} {x y : Operand} {p : Addr} {ao : Option Addr} {n c : Nat} {old : Value} (ho : o.op = .store 37 x y) (h : ρ x = .pointer (some p)) (h2 : ρ y = .slice ao n c) (w : World) (hc : w.cell? p = some old) (hf : w.frozen? p = false) : (execOp ρ o).run Try.prog w = .ok .skip (w.setCell p (.slice ao n c)) := by
  unfold execOp; simp [ho, h, h2, hc, hf, go_sem]
end
noncomputable def code23 : Code := (Try.f5.body.bind (regionOf 23)).getD .skip

set_option maxRecDepth 100000 in
set_option maxHeartbeats 4000000 in
theorem ring_give (L C base : Nat) (lv : Value) (qs : List ByteArray) (ao : Option Addr) (c : Nat) (B : ByteArray) (wA : World) (hls : Strs wA base lv qs) (hql : qs.length < 400) (hb : base ≤ wA.heap.size) (hL : L < base) (hrd : Reads wA (.slice ao B.size c) B)
    (cL : wA.cell? ⟨L, 0, none⟩ = some lv) (fL : wA.frozen? ⟨L, 0, none⟩ = false) (lL : L < wA.heap.size) (hCne : some C ≠ lv.ownBlock) (cC : wA.cell? ⟨C, 1, none⟩ = some (.slice ao B.size c))
    (a0 : Act) (hs0 : a0.tmps.size = 148) (f4 : a0.eval (.tmp 4) = .pointer (some ⟨L, 0, none⟩)) (f8 : a0.eval (.tmp 8) = .pointer (some ⟨C, 0, none⟩)) (Q : Exit → Act → World → Prop)
    (hQ : ∀ (B1 : Nat) (lv' : Value) (w5 w6 : World), wA.grownBy w5 none → (w5.alloc (.cells #[.string (pkt B)] 9)).grownBy w6 lv.ownBlock → Strs w6 base lv' (qs ++ [pkt B]) → Q .normal (((((((((((a0.put (some 56) (lv)).put (some 57) (.pointer (some ⟨C, 1, none⟩))).put (some 58) (.slice ao B.size c)).put (some 59) (.pointer (some ⟨C, 1, none⟩))).put (some 60) (.slice ao B.size c)).put (some 61) (.int .i64 B.size)).put (some 62) (.int .i64 (min (B.size : Int) 32))).put (some 63) (.slice ao (min (B.size : Int) 32).toNat c)).put (some 64) (.string (pkt B))).put (some 65) (.slice (some ⟨B1, 0, none⟩) 1 1)).put (some 66) (lv')) (w6.setCell ⟨L, 0, none⟩ lv')) : code23.wp Try.prog Q a0 wA := by
  conv => arg 2; whnf
  refine wp_region_noPanic ?_
  refine wp_region_late (fun w' => w'.cell? ⟨L, 0, none⟩ = some lv ∧ w'.cell? ⟨C, 1, none⟩ = some (.slice ao B.size c)) [0, 2, 4] 12 (by rfl) (by kernel_rfl) ?_
  have hle := reads_le hrd
  have hlv : ∃ ao n c, lv = .slice ao n c := by obtain ⟨x, y, h, _⟩ := hls.len; exact ⟨x, _, y, h⟩
  have hcv0 := reads_cut (hrd.below ((Below.refl wA.heap.size wA).drew) (Nat.le_refl _))
  have hls5 : Strs (wA.drew.alloc (.cells #[.string (pkt B)] 9)) base lv qs := (hls.kept (w' := wA.drew) (row := none) ⟨rfl, rfl, rfl, Nat.le_refl _, fun _ _ _ => rfl⟩ none_row).kept (World.grownBy_alloc _ _ none) none_row
  have hLne : some L ≠ lv.ownBlock := fun e => absurd (hls.block L e.symm).1 (Nat.not_le_of_lt hL)
  have hcv : (convert 22 9 (.slice ao (min (B.size : Int) 32).toNat c)).run Try.prog wA.drew = .ok (.string (pkt B)) wA.drew := hcv0
  replace cL : wA.drew.cell? ⟨L, 0, none⟩ = some lv := cL
  replace cC : wA.drew.cell? ⟨C, 1, none⟩ = some (.slice ao B.size c) := cC
  replace fL : wA.drew.frozen? ⟨L, 0, none⟩ = false := fL
  replace lL : L < wA.drew.heap.size := lL
  replace hb : base ≤ wA.drew.heap.size := hb
  replace hQ : ∀ (B1 : Nat) (lv' : Value) (w5 w6 : World), wA.drew.grownBy w5 none → (w5.alloc (.cells #[.string (pkt B)] 9)).grownBy w6 lv.ownBlock → Strs w6 base lv' (qs ++ [pkt B]) → Q .normal (((((((((((a0.put (some 56) (lv)).put (some 57) (.pointer (some ⟨C, 1, none⟩))).put (some 58) (.slice ao B.size c)).put (some 59) (.pointer (some ⟨C, 1, none⟩))).put (some 60) (.slice ao B.size c)).put (some 61) (.int .i64 B.size)).put (some 62) (.int .i64 (min (B.size : Int) 32))).put (some 63) (.slice ao (min (B.size : Int) 32).toNat c)).put (some 64) (.string (pkt B))).put (some 65) (.slice (some ⟨B1, 0, none⟩) 1 1)).put (some 66) (lv')) (w6.setCell ⟨L, 0, none⟩ lv') := fun B1 lv' w5 w6 h1 => hQ B1 lv' w5 w6 ⟨h1.os, h1.tape, h1.output, h1.size, h1.block⟩
  clear hcv0
  generalize wA.drew = w5 at *
  have hv0 : a0.eval = a0.eval := rfl
  refine lt_load (i := 0) (v := lv) (d := 56) hv0 (by rfl) (by kernel_rfl) (by kernel_rfl) (by kernel_rfl) (by simp) (fun _ _ _ h => h) (by rfl) (fun w hS => rn_load37 rfl f4 w hS.1 hlv) ⟨cL, cC⟩ rfl hs0 (by decide) (fun a1 ρ1 hp1 => ?_)
  have hv1 := hp1.ev
  have hs1 := hp1.sz
  have f56 := hp1.at'
  replace f4 := (hp1.rest 4 (by decide)).trans f4
  replace f8 := (hp1.rest 8 (by decide)).trans f8
  refine lt_pure (i := 1) (v := .pointer (some ⟨C, 1, none⟩)) (d := 57) hv1 (by rfl) (by kernel_rfl) (by kernel_rfl) (by kernel_rfl) (fun _ _ _ h => h) (by rfl) (fun w => rn_f39 rfl f8 w) rfl hs1 (by decide) (fun a2 ρ2 hp2 => ?_)
  have hv2 := hp2.ev
  have hs2 := hp2.sz
  have f57 := hp2.at'
  replace f4 := (hp2.rest 4 (by decide)).trans f4
  replace f8 := (hp2.rest 8 (by decide)).trans f8
  replace f56 := (hp2.rest 56 (by decide)).trans f56
  refine lt_load (i := 2) (v := .slice ao B.size c) (d := 58) hv2 (by rfl) (by kernel_rfl) (by kernel_rfl) (by kernel_rfl) (by simp) (fun _ _ _ h => h) (by rfl) (fun w hS => rn_load22 rfl f57 w hS.2) ⟨cL, cC⟩ rfl hs2 (by decide) (fun a3 ρ3 hp3 => ?_)
  have hv3 := hp3.ev
  have hs3 := hp3.sz
  have f58 := hp3.at'
  replace f4 := (hp3.rest 4 (by decide)).trans f4
  replace f8 := (hp3.rest 8 (by decide)).trans f8
  replace f56 := (hp3.rest 56 (by decide)).trans f56
  replace f57 := (hp3.rest 57 (by decide)).trans f57
  refine lt_pure (i := 3) (v := .pointer (some ⟨C, 1, none⟩)) (d := 59) hv3 (by rfl) (by kernel_rfl) (by kernel_rfl) (by kernel_rfl) (fun _ _ _ h => h) (by rfl) (fun w => rn_f39 rfl f8 w) rfl hs3 (by decide) (fun a4 ρ4 hp4 => ?_)
  have hv4 := hp4.ev
  have hs4 := hp4.sz
  have f59 := hp4.at'
  replace f4 := (hp4.rest 4 (by decide)).trans f4
  replace f8 := (hp4.rest 8 (by decide)).trans f8
  replace f56 := (hp4.rest 56 (by decide)).trans f56
  replace f57 := (hp4.rest 57 (by decide)).trans f57
  replace f58 := (hp4.rest 58 (by decide)).trans f58
  refine lt_load (i := 4) (v := .slice ao B.size c) (d := 60) hv4 (by rfl) (by kernel_rfl) (by kernel_rfl) (by kernel_rfl) (by simp) (fun _ _ _ h => h) (by rfl) (fun w hS => rn_load22 rfl f59 w hS.2) ⟨cL, cC⟩ rfl hs4 (by decide) (fun a5 ρ5 hp5 => ?_)
  have hv5 := hp5.ev
  have hs5 := hp5.sz
  have f60 := hp5.at'
  replace f4 := (hp5.rest 4 (by decide)).trans f4
  replace f8 := (hp5.rest 8 (by decide)).trans f8
  replace f56 := (hp5.rest 56 (by decide)).trans f56
  replace f57 := (hp5.rest 57 (by decide)).trans f57
  replace f58 := (hp5.rest 58 (by decide)).trans f58
  replace f59 := (hp5.rest 59 (by decide)).trans f59
  refine wpLate_one (i := 5) (by kernel_rfl) ?_
  refine lt_value (v := .int .i64 B.size) (w' := w5) (d := 61) hv5 (by rfl) (by rfl) (rn_len22 rfl f60 w5) rfl hs5 (by decide) (fun _ => .inl rfl) (fun a6 ρ6 hp6 => ?_)
  have hv6 := hp6.ev
  have hs6 := hp6.sz
  have f61 := hp6.at'
  replace f4 := (hp6.rest 4 (by decide)).trans f4
  replace f8 := (hp6.rest 8 (by decide)).trans f8
  replace f56 := (hp6.rest 56 (by decide)).trans f56
  replace f57 := (hp6.rest 57 (by decide)).trans f57
  replace f58 := (hp6.rest 58 (by decide)).trans f58
  replace f59 := (hp6.rest 59 (by decide)).trans f59
  replace f60 := (hp6.rest 60 (by decide)).trans f60
  refine wpLate_one (i := 6) (by kernel_rfl) ?_
  refine lt_value (v := .int .i64 (min (B.size : Int) 32)) (w' := w5) (d := 62) hv6 (by rfl) (by rfl) (rn_min rfl f61 w5 (by rw [← hv6]; rfl)) rfl hs6 (by decide) (fun _ => .inl rfl) (fun a7 ρ7 hp7 => ?_)
  have hv7 := hp7.ev
  have hs7 := hp7.sz
  have f62 := hp7.at'
  replace f4 := (hp7.rest 4 (by decide)).trans f4
  replace f8 := (hp7.rest 8 (by decide)).trans f8
  replace f56 := (hp7.rest 56 (by decide)).trans f56
  replace f57 := (hp7.rest 57 (by decide)).trans f57
  replace f58 := (hp7.rest 58 (by decide)).trans f58
  replace f59 := (hp7.rest 59 (by decide)).trans f59
  replace f60 := (hp7.rest 60 (by decide)).trans f60
  replace f61 := (hp7.rest 61 (by decide)).trans f61
  refine wpLate_one (i := 7) (by kernel_rfl) ?_
  refine lt_value (v := .slice ao (min (B.size : Int) 32).toNat c) (w' := w5) (d := 63) hv7 (by rfl) (by rfl) (rn_slice rfl f58 f62 w5 hle) rfl hs7 (by decide) (fun _ => .inl rfl) (fun a8 ρ8 hp8 => ?_)
  have hv8 := hp8.ev
  have hs8 := hp8.sz
  have f63 := hp8.at'
  replace f4 := (hp8.rest 4 (by decide)).trans f4
  replace f8 := (hp8.rest 8 (by decide)).trans f8
  replace f56 := (hp8.rest 56 (by decide)).trans f56
  replace f57 := (hp8.rest 57 (by decide)).trans f57
  replace f58 := (hp8.rest 58 (by decide)).trans f58
  replace f59 := (hp8.rest 59 (by decide)).trans f59
  replace f60 := (hp8.rest 60 (by decide)).trans f60
  replace f61 := (hp8.rest 61 (by decide)).trans f61
  replace f62 := (hp8.rest 62 (by decide)).trans f62
  refine wpLate_one (i := 8) (by kernel_rfl) ?_
  refine lt_value (v := .string (pkt B)) (w' := w5) (d := 64) hv8 (by rfl) (by rfl) (rn_convert rfl f63 w5 hcv) rfl hs8 (by decide) (fun _ => .inl rfl) (fun a9 ρ9 hp9 => ?_)
  have hv9 := hp9.ev
  have hs9 := hp9.sz
  have f64 := hp9.at'
  replace f4 := (hp9.rest 4 (by decide)).trans f4
  replace f8 := (hp9.rest 8 (by decide)).trans f8
  replace f56 := (hp9.rest 56 (by decide)).trans f56
  replace f57 := (hp9.rest 57 (by decide)).trans f57
  replace f58 := (hp9.rest 58 (by decide)).trans f58
  replace f59 := (hp9.rest 59 (by decide)).trans f59
  replace f60 := (hp9.rest 60 (by decide)).trans f60
  replace f61 := (hp9.rest 61 (by decide)).trans f61
  replace f62 := (hp9.rest 62 (by decide)).trans f62
  replace f63 := (hp9.rest 63 (by decide)).trans f63
  refine wpLate_one (i := 9) (by kernel_rfl) ?_
  refine lt_value (v := .slice (some ⟨w5.heap.size, 0, none⟩) 1 1) (w' := (w5.alloc (.cells #[.string (pkt B)] 9))) (d := 65) hv9 (by rfl) (by rfl) (rn_build37 rfl f64 w5) rfl hs9 (by decide) (fun _ => .inr ⟨keepA' _ cL, keepA' _ cC⟩) (fun a10 ρ10 hp10 => ?_)
  have hv10 := hp10.ev
  have hs10 := hp10.sz
  have f65 := hp10.at'
  replace f4 := (hp10.rest 4 (by decide)).trans f4
  replace f8 := (hp10.rest 8 (by decide)).trans f8
  replace f56 := (hp10.rest 56 (by decide)).trans f56
  replace f57 := (hp10.rest 57 (by decide)).trans f57
  replace f58 := (hp10.rest 58 (by decide)).trans f58
  replace f59 := (hp10.rest 59 (by decide)).trans f59
  replace f60 := (hp10.rest 60 (by decide)).trans f60
  replace f61 := (hp10.rest 61 (by decide)).trans f61
  replace f62 := (hp10.rest 62 (by decide)).trans f62
  replace f63 := (hp10.rest 63 (by decide)).trans f63
  replace f64 := (hp10.rest 64 (by decide)).trans f64
  obtain ⟨lv', w6, hrun, hst, hgr⟩ := hls5.append (pkt B) ⟨w5.heap.size, 0, none⟩ 1 (by simp) hql (by simp; omega)
  have hlv' := hst.len
  obtain ⟨ao', c', hlv2, _, _⟩ := hlv'
  refine wpLate_one (i := 10) (by kernel_rfl) ?_
  refine lt_value (v := lv') (w' := w6) (d := 66) hv10 (by rfl) (by rfl) (rn_append rfl rfl f56 f65 hrun) rfl hs10 (by decide) (fun _ => .inr ⟨hgr.cell (keepA' _ cL) hLne, hgr.cell (keepA' _ cC) hCne⟩) (fun a11 ρ11 hp11 => ?_)
  have hv11 := hp11.ev
  have hs11 := hp11.sz
  have f66 := hp11.at'
  replace f4 := (hp11.rest 4 (by decide)).trans f4
  replace f8 := (hp11.rest 8 (by decide)).trans f8
  replace f56 := (hp11.rest 56 (by decide)).trans f56
  replace f57 := (hp11.rest 57 (by decide)).trans f57
  replace f58 := (hp11.rest 58 (by decide)).trans f58
  replace f59 := (hp11.rest 59 (by decide)).trans f59
  replace f60 := (hp11.rest 60 (by decide)).trans f60
  replace f61 := (hp11.rest 61 (by decide)).trans f61
  replace f62 := (hp11.rest 62 (by decide)).trans f62
  replace f63 := (hp11.rest 63 (by decide)).trans f63
  replace f64 := (hp11.rest 64 (by decide)).trans f64
  replace f65 := (hp11.rest 65 (by decide)).trans f65
  have lb6 : w6.cell? ⟨L, 0, none⟩ = some lv := hgr.cell (keepA' _ cL) hLne
  have lf6 : w6.frozen? ⟨L, 0, none⟩ = false := (hgr.frozen_far ⟨L, 0, none⟩ (by simp; omega) hLne).trans ((World.frozen?_of_block (a := ⟨L, 0, none⟩) (Below.heap_alloc _ _ _ (by exact lL))).trans fL)
  refine wpLate_one (i := 11) (by kernel_rfl) ?_
  refine lt_skip (w' := w6.setCell ⟨L, 0, none⟩ lv') hv11 (by rfl) (by rfl) (by rw [hlv2] at f66 ⊢; exact rn_store37 rfl f4 f66 w6 lb6 lf6) rfl (fun h => (Bool.noConfusion ((show lateOn _ _ _ _ = true from (by kernel_rfl)).symm.trans h))) ?_
  refine wpLate_done (by kernel_rfl) ?_
  refine NoPanic.normal ?_
  have hq := hQ w5.heap.size lv' w5 w6 ⟨rfl, rfl, rfl, Nat.le_refl _, fun _ _ _ => rfl⟩ hgr hst
  rw [hp1.eq, hp2.eq, hp3.eq, hp4.eq, hp5.eq, hp6.eq, hp7.eq, hp8.eq, hp9.eq, hp10.eq, hp11.eq] at hq
  exact hq
end Go.Proofs.Ytmnhnjljapabdaa
