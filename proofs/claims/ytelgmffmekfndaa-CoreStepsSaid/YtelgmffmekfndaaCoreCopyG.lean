/- An instruction's bytes are copied into a memory: the statements that draw their order, at a frame that is a letter. Conditions: as each theorem names them. -/
import Derived.Test.YtelgmffmekfndaaCoreCodeG
set_option linter.unusedVariables false
namespace Go.Proofs.Ytelgmffmekfndaa
open Go.ChangeShapes Go.WideShapes Go.ChangeAt Go.RowKit

section
variable {ρ : Operand → Value}
theorem rn_f54 {o : Oper} {x : Operand} {b : Nat} (ho : o.op = .fieldAddr 54 x 0) (h : ρ x = .pointer (some ⟨b, 0, none⟩)) (w : World) : (execOp ρ o).run Try.prog w = .ok (.value (.pointer (some ⟨b, 0, none⟩))) w := by
  unfold execOp; simp [ho, h, go_sem]
theorem rn_load48 {o : Oper} {x : Operand} {p : Addr} {ao : Option Addr} {n c : Nat} (ho : o.op = .load 48 x) (h : ρ x = .pointer (some p)) (w : World) (hc : w.cell? p = some (.slice ao n c)) : (execOp ρ o).run Try.prog w = .ok (.value (.slice ao n c)) w := by
  unfold execOp; simp [ho, h, hc, go_sem]
theorem rn_sl48 {o : Oper} {x y : Operand} {g n c k : Nat} (ho : o.op = .slice 48 x (some y) none none) (h : ρ x = .slice (some ⟨g, 0, none⟩) n c) (h2 : ρ y = .int .i64 (k : Nat)) (hk : k ≤ n) (hn : n ≤ c) (hkc : ¬ c = k) (w : World) : (execOp ρ o).run Try.prog w = .ok (.value (.slice (some ⟨g, k, none⟩) (n - k) (c - k))) w := by
  have h3 : (k : Int) ≤ (n : Int) := by omega
  have h4 : (n : Int) ≤ (c : Int) := by omega
  have h5 : 0 ≤ (k : Int) := by omega
  unfold execOp; simp [ho, h, h2, h3, hkc, go_sem]
theorem rn_bld3 {o : Oper} {x y z : Operand} {a b c : Int} (ho : o.op = .build 50 #[(0, x), (1, y), (4, z)]) (h : ρ x = .int .i64 a) (h2 : ρ y = .int .i64 b) (h3 : ρ z = .int .i32 c) (w : World) : (execOp ρ o).run Try.prog w = .ok (.value (.agg #[.int .i64 a, .int .i64 b, .int .i64 0, .int .i64 0, .int .i32 c])) w := by
  unfold execOp; simp [ho, h, h2, h3, go_sem]
theorem rn_bld4 {o : Oper} {x y u z : Operand} {a b c d : Int} (ho : o.op = .build 50 #[(0, x), (1, y), (2, u), (4, z)]) (h : ρ x = .int .i64 a) (h2 : ρ y = .int .i64 b) (h4 : ρ u = .int .i64 d) (h3 : ρ z = .int .i32 c) (w : World) : (execOp ρ o).run Try.prog w = .ok (.value (.agg #[.int .i64 a, .int .i64 b, .int .i64 d, .int .i64 0, .int .i32 c])) w := by
  unfold execOp; simp [ho, h, h2, h3, h4, go_sem]
theorem rn_load50 {o : Oper} {x : Operand} {X : Nat} {a b c d e : Int} (ho : o.op = .load 50 x) (h : ρ x = .pointer (some ⟨X, 0, none⟩)) (w : World) (h0 : w.cell? ⟨X, 0, none⟩ = some (.int .i64 a)) (h1 : w.cell? ⟨X, 1, none⟩ = some (.int .i64 b)) (h2 : w.cell? ⟨X, 2, none⟩ = some (.int .i64 c)) (h3 : w.cell? ⟨X, 3, none⟩ = some (.int .i64 d)) (h4 : w.cell? ⟨X, 4, none⟩ = some (.int .i32 e)) : (execOp ρ o).run Try.prog w = .ok (.value (.agg #[.int .i64 a, .int .i64 b, .int .i64 c, .int .i64 d, .int .i32 e])) w := by
  unfold execOp; simp [ho, h, h0, h1, h2, h3, h4, go_sem]
theorem rn_enc {o : Oper} {x : Operand} {v : Value} {ts : Array TypeId} (ho : o.op = .call { callee := .value (.func 63), args := #[x], argTypes := ts }) (h : ρ x = v) (hf : ρ (.func 63) = .func (.func 63) #[] #[]) (w : World) : (execOp ρ o).run Try.prog w = .ok (.enter 63 #[v]) w := by
  subst h; unfold execOp; simp [ho, hf, go_sem]
theorem rn_copy {o : Oper} {x y : Operand} {v u r : Value} {w w1 : World} (ho : o.op = .call { callee := .builtin .copy, args := #[x, y], argTypes := #[48, 48] }) (h : ρ x = v) (h2 : ρ y = u) (hr : (Builtin.copy_ #[48, 48] o.type #[v, u]).run Try.prog w = .ok r w1) : (execOp ρ o).run Try.prog w = .ok (.value r) w1 := by
  subst h h2
  unfold execOp
  simp only [ho, resolve, invoke, builtin, Sem.run_bind, Sem.run_pure, Result.andThen_ok, List.map_toArray, List.map_cons, List.map_nil, hr]
theorem rn_add3 {o : Oper} {x : Operand} {k a v : Int} {s : TypeId} (ho : o.op = .binOp .add 3 (.const (.int .i64 k)) x s) (hc : ρ (.const (.int .i64 k)) = .int .i64 k) (h : ρ x = .int .i64 a) (hx : IntKind.i64.wrap (k + a) = v) (w : World) : (execOp ρ o).run Try.prog w = .ok (.value (.int .i64 v)) w := by
  subst hx
  unfold execOp; simp [ho, h, hc, go_sem]
theorem rn_mul3 {o : Oper} {x : Operand} {k a v : Int} {s : TypeId} (ho : o.op = .binOp .mul 3 (.const (.int .i64 k)) x s) (hc : ρ (.const (.int .i64 k)) = .int .i64 k) (h : ρ x = .int .i64 a) (hx : IntKind.i64.wrap (k * a) = v) (w : World) : (execOp ρ o).run Try.prog w = .ok (.value (.int .i64 v)) w := by
  subst hx
  unfold execOp; simp [ho, h, hc, go_sem]
theorem rn_cv321 {o : Oper} {x : Operand} {v r : Int} (ho : o.op = .convert 3 21 x) (h : ρ x = .int .i64 v) (hr : IntKind.i32.wrap v = r) (w : World) : (execOp ρ o).run Try.prog w = .ok (.value (.int .i32 r)) w := by
  subst hr; unfold execOp; simp [ho, h, go_sem]
end

/-- what a copy of an instruction's bytes leaves -/
structure Copied (M g n cap : Nat) (hole : Int) (f : Nat → Int) (o : Nat) (op A B C imm : Int) (w w' : World) : Prop where
  mem : MemAt w' M g n cap hole (layL f o (encL op A B C imm))
  env : w.grownBy w' (some g)
noncomputable def code62_2 : Code := (Try.f62.body.bind (regionOf 2)).getD .skip
set_option maxRecDepth 100000 in
set_option maxHeartbeats 4000000 in
theorem copy62 (M g n cap : Nat) (hole : Int) (f : Nat → Int) (wA : World) (hm0 : MemAt wA M g n cap hole f) (hMg : M ≠ g) (gz0 : g < wA.heap.size) (hn : 16 ≤ n) (hnc : n ≤ cap) (c00 : wA.cell? ⟨M, 0, none⟩ = some (.slice (some ⟨g, 0, none⟩) n cap)) (hne0 : M ≠ g)
    (a0 : Act) (hs0 : a0.tmps.size = 30) (f1 : a0.eval (.tmp 1) = .pointer (some ⟨M, 0, none⟩)) (Q : Exit → Act → World → Prop)
    (hQ : ∀ b9 w', Copied M g n cap hole f 8 29 15 0 0 2 wA.drew w' → Q .normal ((((((((a0.put (some 6) (.pointer (some ⟨M, 0, none⟩))).put (some 7) (.pointer (some ⟨M, 0, none⟩))).put (some 8) (.pointer (some ⟨M, 0, none⟩))).put (some 9) (.slice (some ⟨g, 0, none⟩) n cap)).put (some 10) (.slice (some ⟨g, 8, none⟩) (n - 8) (cap - 8))).put (some 11) (.agg #[.int .i64 29, .int .i64 15, .int .i64 0, .int .i64 0, .int .i32 2])).put (some 12) (.slice (some ⟨b9, 0, none⟩) 8 8)).put (some 13) (.int .i64 8)) w') : code62_2.wp Try.prog Q a0 wA := by
  conv => arg 2; whnf
  refine wp_region_noPanic ?_
  refine wp_region_late (fun w' => w'.cell? ⟨M, 0, none⟩ = some (.slice (some ⟨g, 0, none⟩) n cap)) [3] 8 (by rfl) (by kernel_rfl) ?_
  have c0 : wA.drew.cell? ⟨M, 0, none⟩ = some (.slice (some ⟨g, 0, none⟩) n cap) := c00
  have hm : MemAt wA.drew M g n cap hole f := hm0.grown (row := none) ⟨rfl, rfl, rfl, Nat.le_refl _, fun _ _ _ => rfl⟩ (by simp) (by simp) gz0
  have gz : g < wA.drew.heap.size := gz0
  clear c00 hm0 gz0
  generalize wA.drew = w5 at *
  have hv0 : a0.eval = a0.eval := rfl
  refine lt_pure (i := 0) (v := .pointer (some ⟨M, 0, none⟩)) (d := 6) hv0 (by rfl) (by kernel_rfl) (by kernel_rfl) (by kernel_rfl) (fun _ _ _ h => h) (by rfl) (fun w => rn_move rfl f1 w) rfl hs0 (by decide) (fun a1 ρ1 hp1 => ?_)
  have hv1 := hp1.ev
  have hs1 := hp1.sz
  have f6 := hp1.at'
  replace f1 := (hp1.rest 1 (by decide)).trans f1
  refine lt_pure (i := 1) (v := .pointer (some ⟨M, 0, none⟩)) (d := 7) hv1 (by rfl) (by kernel_rfl) (by kernel_rfl) (by kernel_rfl) (fun _ _ _ h => h) (by rfl) (fun w => rn_nil rfl f6 w) rfl hs1 (by decide) (fun a2 ρ2 hp2 => ?_)
  have hv2 := hp2.ev
  have hs2 := hp2.sz
  have f7 := hp2.at'
  replace f1 := (hp2.rest 1 (by decide)).trans f1
  replace f6 := (hp2.rest 6 (by decide)).trans f6
  refine lt_pure (i := 2) (v := .pointer (some ⟨M, 0, none⟩)) (d := 8) hv2 (by rfl) (by kernel_rfl) (by kernel_rfl) (by kernel_rfl) (fun _ _ _ h => h) (by rfl) (fun w => rn_f54 rfl f7 w) rfl hs2 (by decide) (fun a3 ρ3 hp3 => ?_)
  have hv3 := hp3.ev
  have hs3 := hp3.sz
  have f8 := hp3.at'
  replace f1 := (hp3.rest 1 (by decide)).trans f1
  replace f6 := (hp3.rest 6 (by decide)).trans f6
  replace f7 := (hp3.rest 7 (by decide)).trans f7
  refine lt_load (i := 3) (v := .slice (some ⟨g, 0, none⟩) n cap) (d := 9) hv3 (by rfl) (by kernel_rfl) (by kernel_rfl) (by kernel_rfl) (by simp) (fun _ _ _ h => h) (by rfl) (fun w hS => rn_load48 rfl f8 w hS) c0 rfl hs3 (by decide) (fun a4 ρ4 hp4 => ?_)
  have hv4 := hp4.ev
  have hs4 := hp4.sz
  have f9 := hp4.at'
  replace f1 := (hp4.rest 1 (by decide)).trans f1
  replace f6 := (hp4.rest 6 (by decide)).trans f6
  replace f7 := (hp4.rest 7 (by decide)).trans f7
  replace f8 := (hp4.rest 8 (by decide)).trans f8
  refine lt_pure (i := 4) (v := .slice (some ⟨g, 8, none⟩) (n - 8) (cap - 8)) (d := 10) hv4 (by rfl) (by kernel_rfl) (by kernel_rfl) (by kernel_rfl) (fun _ _ _ h => h) (by rfl) (fun w => rn_sl48 (k := 8) rfl f9 (by rw [← hv4]; rfl) (by omega) (by omega) (by omega) w) rfl hs4 (by decide) (fun a5 ρ5 hp5 => ?_)
  have hv5 := hp5.ev
  have hs5 := hp5.sz
  have f10 := hp5.at'
  replace f1 := (hp5.rest 1 (by decide)).trans f1
  replace f6 := (hp5.rest 6 (by decide)).trans f6
  replace f7 := (hp5.rest 7 (by decide)).trans f7
  replace f8 := (hp5.rest 8 (by decide)).trans f8
  replace f9 := (hp5.rest 9 (by decide)).trans f9
  refine lt_pure (i := 5) (v := .agg #[.int .i64 29, .int .i64 15, .int .i64 0, .int .i64 0, .int .i32 2]) (d := 11) hv5 (by rfl) (by kernel_rfl) (by kernel_rfl) (by kernel_rfl) (fun _ _ _ h => h) (by rfl) (fun w => rn_bld3 rfl (by rw [← hv5]; rfl) (by rw [← hv5]; rfl) (by rw [← hv5]; rfl) w) rfl hs5 (by decide) (fun a6 ρ6 hp6 => ?_)
  have hv6 := hp6.ev
  have hs6 := hp6.sz
  have f11 := hp6.at'
  replace f1 := (hp6.rest 1 (by decide)).trans f1
  replace f6 := (hp6.rest 6 (by decide)).trans f6
  replace f7 := (hp6.rest 7 (by decide)).trans f7
  replace f8 := (hp6.rest 8 (by decide)).trans f8
  replace f9 := (hp6.rest 9 (by decide)).trans f9
  replace f10 := (hp6.rest 10 (by decide)).trans f10
  refine wpLate_one (i := 6) (by kernel_rfl) ?_
  refine lt_call (v := .slice (some ⟨(w5.heap.size + 1), 0, none⟩) 8 8) (T := fun w' => True ∧ Enc 29 15 0 0 2 (w5.heap.size + 1) w5 w') (d := 12) hv6 (by rfl) (by rfl) (rn_enc rfl f11 (by rw [← hv6]; rfl) _) rfl hs6 (by decide) ((enc_any 29 15 0 0 2 w5).mono (fun _ _ h => ⟨h.1, trivial, h.2⟩)) (fun w' h _ => (fun h => .inr (h.2.env.cell c0 (by simp))) h) (fun w6 a7 ρ7 hT6 hp7 => ?_)
  have hv7 := hp7.ev
  have hs7 := hp7.sz
  have f12 := hp7.at'
  replace f1 := (hp7.rest 1 (by decide)).trans f1
  replace f6 := (hp7.rest 6 (by decide)).trans f6
  replace f7 := (hp7.rest 7 (by decide)).trans f7
  replace f8 := (hp7.rest 8 (by decide)).trans f8
  replace f9 := (hp7.rest 9 (by decide)).trans f9
  replace f10 := (hp7.rest 10 (by decide)).trans f10
  replace f11 := (hp7.rest 11 (by decide)).trans f11
  have hm6 := hm.grown hT6.2.env (by simp) (by simp) gz
  obtain ⟨hrun, hm7, hg7⟩ := copy_run hm6 hMg 29 15 0 0 2 hT6.2.c 8 (by omega)  _
  refine wpLate_one (i := 7) (by kernel_rfl) ?_
  refine lt_value (v := .int .i64 8) (w' := (w6.setCells g 8 ((encL 29 15 0 0 2).map (Value.int .u8)))) (d := 13) hv7 (by rfl) (by rfl) (rn_copy rfl f10 f12 hrun) rfl hs7 (by decide) (fun _ => .inr (hg7.cell (hT6.2.env.cell c0 (by simp)) (by simpa using hne0))) (fun a8 ρ8 hp8 => ?_)
  have hv8 := hp8.ev
  have hs8 := hp8.sz
  have f13 := hp8.at'
  replace f1 := (hp8.rest 1 (by decide)).trans f1
  replace f6 := (hp8.rest 6 (by decide)).trans f6
  replace f7 := (hp8.rest 7 (by decide)).trans f7
  replace f8 := (hp8.rest 8 (by decide)).trans f8
  replace f9 := (hp8.rest 9 (by decide)).trans f9
  replace f10 := (hp8.rest 10 (by decide)).trans f10
  replace f11 := (hp8.rest 11 (by decide)).trans f11
  replace f12 := (hp8.rest 12 (by decide)).trans f12
  refine wpLate_done (by kernel_rfl) ?_
  refine NoPanic.normal ?_
  have hq := hQ (w5.heap.size + 1) _ ⟨hm7, (hT6.2.env.but (some g)).trans hg7⟩
  rw [hp1.eq, hp2.eq, hp3.eq, hp4.eq, hp5.eq, hp6.eq, hp7.eq, hp8.eq] at hq
  exact hq
noncomputable def code18_7 : Code := (Try.f18.body.bind (regionOf 7)).getD .skip
set_option maxRecDepth 100000 in
set_option maxHeartbeats 4000000 in
theorem copy18 (M g n cap : Nat) (hole : Int) (f : Nat → Int) (X : Nat) (op A B C imm : Int) (wA : World) (hm0 : MemAt wA M g n cap hole f) (hMg : M ≠ g) (gz0 : g < wA.heap.size) (hn : 72 ≤ n) (hnc : n ≤ cap) (c00 : wA.cell? ⟨M, 0, none⟩ = some (.slice (some ⟨g, 0, none⟩) n cap)) (c10 : wA.cell? ⟨X, 0, none⟩ = some (.int .i64 op)) (c20 : wA.cell? ⟨X, 1, none⟩ = some (.int .i64 A)) (c30 : wA.cell? ⟨X, 2, none⟩ = some (.int .i64 B)) (c40 : wA.cell? ⟨X, 3, none⟩ = some (.int .i64 C)) (c50 : wA.cell? ⟨X, 4, none⟩ = some (.int .i32 imm)) (hne0 : M ≠ g) (hne1 : X ≠ g) (hne2 : X ≠ g) (hne3 : X ≠ g) (hne4 : X ≠ g) (hne5 : X ≠ g)
    (a0 : Act) (hs0 : a0.tmps.size = 75) (f7 : a0.eval (.tmp 7) = .pointer (some ⟨M, 0, none⟩)) (f3 : a0.eval (.tmp 3) = .pointer (some ⟨X, 0, none⟩)) (Q : Exit → Act → World → Prop)
    (hQ : ∀ b9 w', Copied M g n cap hole f 64 op A B C imm wA.drew w' → Q .normal ((((((((a0.put (some 32) (.pointer (some ⟨M, 0, none⟩))).put (some 33) (.pointer (some ⟨M, 0, none⟩))).put (some 34) (.pointer (some ⟨M, 0, none⟩))).put (some 35) (.slice (some ⟨g, 0, none⟩) n cap)).put (some 36) (.slice (some ⟨g, 64, none⟩) (n - 64) (cap - 64))).put (some 37) (.agg #[.int .i64 op, .int .i64 A, .int .i64 B, .int .i64 C, .int .i32 imm])).put (some 38) (.slice (some ⟨b9, 0, none⟩) 8 8)).put (some 39) (.int .i64 8)) w') : code18_7.wp Try.prog Q a0 wA := by
  conv => arg 2; whnf
  refine wp_region_noPanic ?_
  refine wp_region_late (fun w' => w'.cell? ⟨M, 0, none⟩ = some (.slice (some ⟨g, 0, none⟩) n cap) ∧ w'.cell? ⟨X, 0, none⟩ = some (.int .i64 op) ∧ w'.cell? ⟨X, 1, none⟩ = some (.int .i64 A) ∧ w'.cell? ⟨X, 2, none⟩ = some (.int .i64 B) ∧ w'.cell? ⟨X, 3, none⟩ = some (.int .i64 C) ∧ w'.cell? ⟨X, 4, none⟩ = some (.int .i32 imm)) [3, 5] 8 (by rfl) (by kernel_rfl) ?_
  have c0 : wA.drew.cell? ⟨M, 0, none⟩ = some (.slice (some ⟨g, 0, none⟩) n cap) := c00
  have c1 : wA.drew.cell? ⟨X, 0, none⟩ = some (.int .i64 op) := c10
  have c2 : wA.drew.cell? ⟨X, 1, none⟩ = some (.int .i64 A) := c20
  have c3 : wA.drew.cell? ⟨X, 2, none⟩ = some (.int .i64 B) := c30
  have c4 : wA.drew.cell? ⟨X, 3, none⟩ = some (.int .i64 C) := c40
  have c5 : wA.drew.cell? ⟨X, 4, none⟩ = some (.int .i32 imm) := c50
  have hm : MemAt wA.drew M g n cap hole f := hm0.grown (row := none) ⟨rfl, rfl, rfl, Nat.le_refl _, fun _ _ _ => rfl⟩ (by simp) (by simp) gz0
  have gz : g < wA.drew.heap.size := gz0
  clear c00 c10 c20 c30 c40 c50 hm0 gz0
  generalize wA.drew = w5 at *
  have hv0 : a0.eval = a0.eval := rfl
  refine lt_pure (i := 0) (v := .pointer (some ⟨M, 0, none⟩)) (d := 32) hv0 (by rfl) (by kernel_rfl) (by kernel_rfl) (by kernel_rfl) (fun _ _ _ h => h) (by rfl) (fun w => rn_move rfl f7 w) rfl hs0 (by decide) (fun a1 ρ1 hp1 => ?_)
  have hv1 := hp1.ev
  have hs1 := hp1.sz
  have f32 := hp1.at'
  replace f3 := (hp1.rest 3 (by decide)).trans f3
  replace f7 := (hp1.rest 7 (by decide)).trans f7
  refine lt_pure (i := 1) (v := .pointer (some ⟨M, 0, none⟩)) (d := 33) hv1 (by rfl) (by kernel_rfl) (by kernel_rfl) (by kernel_rfl) (fun _ _ _ h => h) (by rfl) (fun w => rn_nil rfl f32 w) rfl hs1 (by decide) (fun a2 ρ2 hp2 => ?_)
  have hv2 := hp2.ev
  have hs2 := hp2.sz
  have f33 := hp2.at'
  replace f3 := (hp2.rest 3 (by decide)).trans f3
  replace f7 := (hp2.rest 7 (by decide)).trans f7
  replace f32 := (hp2.rest 32 (by decide)).trans f32
  refine lt_pure (i := 2) (v := .pointer (some ⟨M, 0, none⟩)) (d := 34) hv2 (by rfl) (by kernel_rfl) (by kernel_rfl) (by kernel_rfl) (fun _ _ _ h => h) (by rfl) (fun w => rn_f54 rfl f33 w) rfl hs2 (by decide) (fun a3 ρ3 hp3 => ?_)
  have hv3 := hp3.ev
  have hs3 := hp3.sz
  have f34 := hp3.at'
  replace f3 := (hp3.rest 3 (by decide)).trans f3
  replace f7 := (hp3.rest 7 (by decide)).trans f7
  replace f32 := (hp3.rest 32 (by decide)).trans f32
  replace f33 := (hp3.rest 33 (by decide)).trans f33
  refine lt_load (i := 3) (v := .slice (some ⟨g, 0, none⟩) n cap) (d := 35) hv3 (by rfl) (by kernel_rfl) (by kernel_rfl) (by kernel_rfl) (by simp) (fun _ _ _ h => h) (by rfl) (fun w hS => rn_load48 rfl f34 w hS.1) ⟨c0, c1, c2, c3, c4, c5⟩ rfl hs3 (by decide) (fun a4 ρ4 hp4 => ?_)
  have hv4 := hp4.ev
  have hs4 := hp4.sz
  have f35 := hp4.at'
  replace f3 := (hp4.rest 3 (by decide)).trans f3
  replace f7 := (hp4.rest 7 (by decide)).trans f7
  replace f32 := (hp4.rest 32 (by decide)).trans f32
  replace f33 := (hp4.rest 33 (by decide)).trans f33
  replace f34 := (hp4.rest 34 (by decide)).trans f34
  refine lt_pure (i := 4) (v := .slice (some ⟨g, 64, none⟩) (n - 64) (cap - 64)) (d := 36) hv4 (by rfl) (by kernel_rfl) (by kernel_rfl) (by kernel_rfl) (fun _ _ _ h => h) (by rfl) (fun w => rn_sl48 (k := 64) rfl f35 (by rw [← hv4]; rfl) (by omega) (by omega) (by omega) w) rfl hs4 (by decide) (fun a5 ρ5 hp5 => ?_)
  have hv5 := hp5.ev
  have hs5 := hp5.sz
  have f36 := hp5.at'
  replace f3 := (hp5.rest 3 (by decide)).trans f3
  replace f7 := (hp5.rest 7 (by decide)).trans f7
  replace f32 := (hp5.rest 32 (by decide)).trans f32
  replace f33 := (hp5.rest 33 (by decide)).trans f33
  replace f34 := (hp5.rest 34 (by decide)).trans f34
  replace f35 := (hp5.rest 35 (by decide)).trans f35
  refine lt_load (i := 5) (v := .agg #[.int .i64 op, .int .i64 A, .int .i64 B, .int .i64 C, .int .i32 imm]) (d := 37) hv5 (by rfl) (by kernel_rfl) (by kernel_rfl) (by kernel_rfl) (by simp) (fun _ _ _ h => h) (by rfl) (fun w hS => rn_load50 rfl f3 w hS.2.1 hS.2.2.1 hS.2.2.2.1 hS.2.2.2.2.1 hS.2.2.2.2.2) ⟨c0, c1, c2, c3, c4, c5⟩ rfl hs5 (by decide) (fun a6 ρ6 hp6 => ?_)
  have hv6 := hp6.ev
  have hs6 := hp6.sz
  have f37 := hp6.at'
  replace f3 := (hp6.rest 3 (by decide)).trans f3
  replace f7 := (hp6.rest 7 (by decide)).trans f7
  replace f32 := (hp6.rest 32 (by decide)).trans f32
  replace f33 := (hp6.rest 33 (by decide)).trans f33
  replace f34 := (hp6.rest 34 (by decide)).trans f34
  replace f35 := (hp6.rest 35 (by decide)).trans f35
  replace f36 := (hp6.rest 36 (by decide)).trans f36
  refine wpLate_one (i := 6) (by kernel_rfl) ?_
  refine lt_call (v := .slice (some ⟨(w5.heap.size + 1), 0, none⟩) 8 8) (T := fun w' => True ∧ Enc op A B C imm (w5.heap.size + 1) w5 w') (d := 38) hv6 (by rfl) (by rfl) (rn_enc rfl f37 (by rw [← hv6]; rfl) _) rfl hs6 (by decide) ((enc_any op A B C imm w5).mono (fun _ _ h => ⟨h.1, trivial, h.2⟩)) (fun w' h _ => (fun h => .inr (⟨h.2.env.cell c0 (by simp), h.2.env.cell c1 (by simp), h.2.env.cell c2 (by simp), h.2.env.cell c3 (by simp), h.2.env.cell c4 (by simp), h.2.env.cell c5 (by simp)⟩)) h) (fun w6 a7 ρ7 hT6 hp7 => ?_)
  have hv7 := hp7.ev
  have hs7 := hp7.sz
  have f38 := hp7.at'
  replace f3 := (hp7.rest 3 (by decide)).trans f3
  replace f7 := (hp7.rest 7 (by decide)).trans f7
  replace f32 := (hp7.rest 32 (by decide)).trans f32
  replace f33 := (hp7.rest 33 (by decide)).trans f33
  replace f34 := (hp7.rest 34 (by decide)).trans f34
  replace f35 := (hp7.rest 35 (by decide)).trans f35
  replace f36 := (hp7.rest 36 (by decide)).trans f36
  replace f37 := (hp7.rest 37 (by decide)).trans f37
  have hm6 := hm.grown hT6.2.env (by simp) (by simp) gz
  obtain ⟨hrun, hm7, hg7⟩ := copy_run hm6 hMg op A B C imm hT6.2.c 64 (by omega)  _
  refine wpLate_one (i := 7) (by kernel_rfl) ?_
  refine lt_value (v := .int .i64 8) (w' := (w6.setCells g 64 ((encL op A B C imm).map (Value.int .u8)))) (d := 39) hv7 (by rfl) (by rfl) (rn_copy rfl f36 f38 hrun) rfl hs7 (by decide) (fun _ => .inr ⟨hg7.cell (hT6.2.env.cell c0 (by simp)) (by simpa using hne0), hg7.cell (hT6.2.env.cell c1 (by simp)) (by simpa using hne1), hg7.cell (hT6.2.env.cell c2 (by simp)) (by simpa using hne2), hg7.cell (hT6.2.env.cell c3 (by simp)) (by simpa using hne3), hg7.cell (hT6.2.env.cell c4 (by simp)) (by simpa using hne4), hg7.cell (hT6.2.env.cell c5 (by simp)) (by simpa using hne5)⟩) (fun a8 ρ8 hp8 => ?_)
  have hv8 := hp8.ev
  have hs8 := hp8.sz
  have f39 := hp8.at'
  replace f3 := (hp8.rest 3 (by decide)).trans f3
  replace f7 := (hp8.rest 7 (by decide)).trans f7
  replace f32 := (hp8.rest 32 (by decide)).trans f32
  replace f33 := (hp8.rest 33 (by decide)).trans f33
  replace f34 := (hp8.rest 34 (by decide)).trans f34
  replace f35 := (hp8.rest 35 (by decide)).trans f35
  replace f36 := (hp8.rest 36 (by decide)).trans f36
  replace f37 := (hp8.rest 37 (by decide)).trans f37
  replace f38 := (hp8.rest 38 (by decide)).trans f38
  refine wpLate_done (by kernel_rfl) ?_
  refine NoPanic.normal ?_
  have hq := hQ (w5.heap.size + 1) _ ⟨hm7, (hT6.2.env.but (some g)).trans hg7⟩
  rw [hp1.eq, hp2.eq, hp3.eq, hp4.eq, hp5.eq, hp6.eq, hp7.eq, hp8.eq] at hq
  exact hq
noncomputable def code19_8 : Code := (Try.f19.body.bind (regionOf 8)).getD .skip
set_option maxRecDepth 100000 in
set_option maxHeartbeats 4000000 in
theorem copy19 (M g n cap : Nat) (hole : Int) (f : Nat → Int) (X i : Nat) (op A B C imm : Int) (wA : World) (hm0 : MemAt wA M g n cap hole f) (hMg : M ≠ g) (gz0 : g < wA.heap.size) (hn : 8 * i + 8 ≤ n) (hi : i ≤ 100) (hnc : n ≤ cap) (c00 : wA.cell? ⟨M, 0, none⟩ = some (.slice (some ⟨g, 0, none⟩) n cap)) (c10 : wA.cell? ⟨X, 0, none⟩ = some (.int .i64 op)) (c20 : wA.cell? ⟨X, 1, none⟩ = some (.int .i64 A)) (c30 : wA.cell? ⟨X, 2, none⟩ = some (.int .i64 B)) (c40 : wA.cell? ⟨X, 3, none⟩ = some (.int .i64 C)) (c50 : wA.cell? ⟨X, 4, none⟩ = some (.int .i32 imm)) (hne0 : M ≠ g) (hne1 : X ≠ g) (hne2 : X ≠ g) (hne3 : X ≠ g) (hne4 : X ≠ g) (hne5 : X ≠ g)
    (a0 : Act) (hs0 : a0.tmps.size = 79) (f5 : a0.eval (.tmp 5) = .pointer (some ⟨M, 0, none⟩)) (f6 : a0.eval (.tmp 6) = .int .i64 (i : Nat)) (f7 : a0.eval (.tmp 7) = .pointer (some ⟨X, 0, none⟩)) (Q : Exit → Act → World → Prop)
    (hQ : ∀ b9 w', Copied M g n cap hole f (8 * i) op A B C imm wA.drew w' → Q .normal ((((((((((a0.put (some 33) (.pointer (some ⟨M, 0, none⟩))).put (some 34) (.pointer (some ⟨M, 0, none⟩))).put (some 35) (.pointer (some ⟨M, 0, none⟩))).put (some 36) (.slice (some ⟨g, 0, none⟩) n cap)).put (some 37) (.int .i64 (i : Nat))).put (some 38) (.int .i64 ((8 * i : Nat) : Int))).put (some 39) (.slice (some ⟨g, 8 * i, none⟩) (n - 8 * i) (cap - 8 * i))).put (some 40) (.agg #[.int .i64 op, .int .i64 A, .int .i64 B, .int .i64 C, .int .i32 imm])).put (some 41) (.slice (some ⟨b9, 0, none⟩) 8 8)).put (some 42) (.int .i64 8)) w') : code19_8.wp Try.prog Q a0 wA := by
  conv => arg 2; whnf
  refine wp_region_noPanic ?_
  refine wp_region_late (fun w' => w'.cell? ⟨M, 0, none⟩ = some (.slice (some ⟨g, 0, none⟩) n cap) ∧ w'.cell? ⟨X, 0, none⟩ = some (.int .i64 op) ∧ w'.cell? ⟨X, 1, none⟩ = some (.int .i64 A) ∧ w'.cell? ⟨X, 2, none⟩ = some (.int .i64 B) ∧ w'.cell? ⟨X, 3, none⟩ = some (.int .i64 C) ∧ w'.cell? ⟨X, 4, none⟩ = some (.int .i32 imm)) [3, 7] 10 (by rfl) (by kernel_rfl) ?_
  have c0 : wA.drew.cell? ⟨M, 0, none⟩ = some (.slice (some ⟨g, 0, none⟩) n cap) := c00
  have c1 : wA.drew.cell? ⟨X, 0, none⟩ = some (.int .i64 op) := c10
  have c2 : wA.drew.cell? ⟨X, 1, none⟩ = some (.int .i64 A) := c20
  have c3 : wA.drew.cell? ⟨X, 2, none⟩ = some (.int .i64 B) := c30
  have c4 : wA.drew.cell? ⟨X, 3, none⟩ = some (.int .i64 C) := c40
  have c5 : wA.drew.cell? ⟨X, 4, none⟩ = some (.int .i32 imm) := c50
  have hm : MemAt wA.drew M g n cap hole f := hm0.grown (row := none) ⟨rfl, rfl, rfl, Nat.le_refl _, fun _ _ _ => rfl⟩ (by simp) (by simp) gz0
  have gz : g < wA.drew.heap.size := gz0
  clear c00 c10 c20 c30 c40 c50 hm0 gz0
  generalize wA.drew = w5 at *
  have hv0 : a0.eval = a0.eval := rfl
  refine lt_pure (i := 0) (v := .pointer (some ⟨M, 0, none⟩)) (d := 33) hv0 (by rfl) (by kernel_rfl) (by kernel_rfl) (by kernel_rfl) (fun _ _ _ h => h) (by rfl) (fun w => rn_move rfl f5 w) rfl hs0 (by decide) (fun a1 ρ1 hp1 => ?_)
  have hv1 := hp1.ev
  have hs1 := hp1.sz
  have f33 := hp1.at'
  replace f5 := (hp1.rest 5 (by decide)).trans f5
  replace f6 := (hp1.rest 6 (by decide)).trans f6
  replace f7 := (hp1.rest 7 (by decide)).trans f7
  refine lt_pure (i := 1) (v := .pointer (some ⟨M, 0, none⟩)) (d := 34) hv1 (by rfl) (by kernel_rfl) (by kernel_rfl) (by kernel_rfl) (fun _ _ _ h => h) (by rfl) (fun w => rn_nil rfl f33 w) rfl hs1 (by decide) (fun a2 ρ2 hp2 => ?_)
  have hv2 := hp2.ev
  have hs2 := hp2.sz
  have f34 := hp2.at'
  replace f5 := (hp2.rest 5 (by decide)).trans f5
  replace f6 := (hp2.rest 6 (by decide)).trans f6
  replace f7 := (hp2.rest 7 (by decide)).trans f7
  replace f33 := (hp2.rest 33 (by decide)).trans f33
  refine lt_pure (i := 2) (v := .pointer (some ⟨M, 0, none⟩)) (d := 35) hv2 (by rfl) (by kernel_rfl) (by kernel_rfl) (by kernel_rfl) (fun _ _ _ h => h) (by rfl) (fun w => rn_f54 rfl f34 w) rfl hs2 (by decide) (fun a3 ρ3 hp3 => ?_)
  have hv3 := hp3.ev
  have hs3 := hp3.sz
  have f35 := hp3.at'
  replace f5 := (hp3.rest 5 (by decide)).trans f5
  replace f6 := (hp3.rest 6 (by decide)).trans f6
  replace f7 := (hp3.rest 7 (by decide)).trans f7
  replace f33 := (hp3.rest 33 (by decide)).trans f33
  replace f34 := (hp3.rest 34 (by decide)).trans f34
  refine lt_load (i := 3) (v := .slice (some ⟨g, 0, none⟩) n cap) (d := 36) hv3 (by rfl) (by kernel_rfl) (by kernel_rfl) (by kernel_rfl) (by simp) (fun _ _ _ h => h) (by rfl) (fun w hS => rn_load48 rfl f35 w hS.1) ⟨c0, c1, c2, c3, c4, c5⟩ rfl hs3 (by decide) (fun a4 ρ4 hp4 => ?_)
  have hv4 := hp4.ev
  have hs4 := hp4.sz
  have f36 := hp4.at'
  replace f5 := (hp4.rest 5 (by decide)).trans f5
  replace f6 := (hp4.rest 6 (by decide)).trans f6
  replace f7 := (hp4.rest 7 (by decide)).trans f7
  replace f33 := (hp4.rest 33 (by decide)).trans f33
  replace f34 := (hp4.rest 34 (by decide)).trans f34
  replace f35 := (hp4.rest 35 (by decide)).trans f35
  refine lt_pure (i := 4) (v := .int .i64 (i : Nat)) (d := 37) hv4 (by rfl) (by kernel_rfl) (by kernel_rfl) (by kernel_rfl) (fun _ _ _ h => h) (by rfl) (fun w => rn_move rfl f6 w) rfl hs4 (by decide) (fun a5 ρ5 hp5 => ?_)
  have hv5 := hp5.ev
  have hs5 := hp5.sz
  have f37 := hp5.at'
  replace f5 := (hp5.rest 5 (by decide)).trans f5
  replace f6 := (hp5.rest 6 (by decide)).trans f6
  replace f7 := (hp5.rest 7 (by decide)).trans f7
  replace f33 := (hp5.rest 33 (by decide)).trans f33
  replace f34 := (hp5.rest 34 (by decide)).trans f34
  replace f35 := (hp5.rest 35 (by decide)).trans f35
  replace f36 := (hp5.rest 36 (by decide)).trans f36
  refine lt_pure (i := 5) (v := .int .i64 ((8 * i : Nat) : Int)) (d := 38) hv5 (by rfl) (by kernel_rfl) (by kernel_rfl) (by kernel_rfl) (fun _ _ _ h => h) (by rfl) (fun w => rn_mul3 rfl (by rw [← hv5]; rfl) f37 (by rw [IntKind.wrap_i64]; omega) w) rfl hs5 (by decide) (fun a6 ρ6 hp6 => ?_)
  have hv6 := hp6.ev
  have hs6 := hp6.sz
  have f38 := hp6.at'
  replace f5 := (hp6.rest 5 (by decide)).trans f5
  replace f6 := (hp6.rest 6 (by decide)).trans f6
  replace f7 := (hp6.rest 7 (by decide)).trans f7
  replace f33 := (hp6.rest 33 (by decide)).trans f33
  replace f34 := (hp6.rest 34 (by decide)).trans f34
  replace f35 := (hp6.rest 35 (by decide)).trans f35
  replace f36 := (hp6.rest 36 (by decide)).trans f36
  replace f37 := (hp6.rest 37 (by decide)).trans f37
  refine lt_pure (i := 6) (v := .slice (some ⟨g, 8 * i, none⟩) (n - 8 * i) (cap - 8 * i)) (d := 39) hv6 (by rfl) (by kernel_rfl) (by kernel_rfl) (by kernel_rfl) (fun _ _ _ h => h) (by rfl) (fun w => rn_sl48 rfl f36 f38 (by omega) (by omega) (by omega) w) rfl hs6 (by decide) (fun a7 ρ7 hp7 => ?_)
  have hv7 := hp7.ev
  have hs7 := hp7.sz
  have f39 := hp7.at'
  replace f5 := (hp7.rest 5 (by decide)).trans f5
  replace f6 := (hp7.rest 6 (by decide)).trans f6
  replace f7 := (hp7.rest 7 (by decide)).trans f7
  replace f33 := (hp7.rest 33 (by decide)).trans f33
  replace f34 := (hp7.rest 34 (by decide)).trans f34
  replace f35 := (hp7.rest 35 (by decide)).trans f35
  replace f36 := (hp7.rest 36 (by decide)).trans f36
  replace f37 := (hp7.rest 37 (by decide)).trans f37
  replace f38 := (hp7.rest 38 (by decide)).trans f38
  refine lt_load (i := 7) (v := .agg #[.int .i64 op, .int .i64 A, .int .i64 B, .int .i64 C, .int .i32 imm]) (d := 40) hv7 (by rfl) (by kernel_rfl) (by kernel_rfl) (by kernel_rfl) (by simp) (fun _ _ _ h => h) (by rfl) (fun w hS => rn_load50 rfl f7 w hS.2.1 hS.2.2.1 hS.2.2.2.1 hS.2.2.2.2.1 hS.2.2.2.2.2) ⟨c0, c1, c2, c3, c4, c5⟩ rfl hs7 (by decide) (fun a8 ρ8 hp8 => ?_)
  have hv8 := hp8.ev
  have hs8 := hp8.sz
  have f40 := hp8.at'
  replace f5 := (hp8.rest 5 (by decide)).trans f5
  replace f6 := (hp8.rest 6 (by decide)).trans f6
  replace f7 := (hp8.rest 7 (by decide)).trans f7
  replace f33 := (hp8.rest 33 (by decide)).trans f33
  replace f34 := (hp8.rest 34 (by decide)).trans f34
  replace f35 := (hp8.rest 35 (by decide)).trans f35
  replace f36 := (hp8.rest 36 (by decide)).trans f36
  replace f37 := (hp8.rest 37 (by decide)).trans f37
  replace f38 := (hp8.rest 38 (by decide)).trans f38
  replace f39 := (hp8.rest 39 (by decide)).trans f39
  refine wpLate_one (i := 8) (by kernel_rfl) ?_
  refine lt_call (v := .slice (some ⟨(w5.heap.size + 1), 0, none⟩) 8 8) (T := fun w' => True ∧ Enc op A B C imm (w5.heap.size + 1) w5 w') (d := 41) hv8 (by rfl) (by rfl) (rn_enc rfl f40 (by rw [← hv8]; rfl) _) rfl hs8 (by decide) ((enc_any op A B C imm w5).mono (fun _ _ h => ⟨h.1, trivial, h.2⟩)) (fun w' h _ => (fun h => .inr (⟨h.2.env.cell c0 (by simp), h.2.env.cell c1 (by simp), h.2.env.cell c2 (by simp), h.2.env.cell c3 (by simp), h.2.env.cell c4 (by simp), h.2.env.cell c5 (by simp)⟩)) h) (fun w6 a9 ρ9 hT8 hp9 => ?_)
  have hv9 := hp9.ev
  have hs9 := hp9.sz
  have f41 := hp9.at'
  replace f5 := (hp9.rest 5 (by decide)).trans f5
  replace f6 := (hp9.rest 6 (by decide)).trans f6
  replace f7 := (hp9.rest 7 (by decide)).trans f7
  replace f33 := (hp9.rest 33 (by decide)).trans f33
  replace f34 := (hp9.rest 34 (by decide)).trans f34
  replace f35 := (hp9.rest 35 (by decide)).trans f35
  replace f36 := (hp9.rest 36 (by decide)).trans f36
  replace f37 := (hp9.rest 37 (by decide)).trans f37
  replace f38 := (hp9.rest 38 (by decide)).trans f38
  replace f39 := (hp9.rest 39 (by decide)).trans f39
  replace f40 := (hp9.rest 40 (by decide)).trans f40
  have hm6 := hm.grown hT8.2.env (by simp) (by simp) gz
  obtain ⟨hrun, hm7, hg7⟩ := copy_run hm6 hMg op A B C imm hT8.2.c (8 * i) (by omega)  _
  refine wpLate_one (i := 9) (by kernel_rfl) ?_
  refine lt_value (v := .int .i64 8) (w' := (w6.setCells g (8 * i) ((encL op A B C imm).map (Value.int .u8)))) (d := 42) hv9 (by rfl) (by rfl) (rn_copy rfl f39 f41 hrun) rfl hs9 (by decide) (fun _ => .inr ⟨hg7.cell (hT8.2.env.cell c0 (by simp)) (by simpa using hne0), hg7.cell (hT8.2.env.cell c1 (by simp)) (by simpa using hne1), hg7.cell (hT8.2.env.cell c2 (by simp)) (by simpa using hne2), hg7.cell (hT8.2.env.cell c3 (by simp)) (by simpa using hne3), hg7.cell (hT8.2.env.cell c4 (by simp)) (by simpa using hne4), hg7.cell (hT8.2.env.cell c5 (by simp)) (by simpa using hne5)⟩) (fun a10 ρ10 hp10 => ?_)
  have hv10 := hp10.ev
  have hs10 := hp10.sz
  have f42 := hp10.at'
  replace f5 := (hp10.rest 5 (by decide)).trans f5
  replace f6 := (hp10.rest 6 (by decide)).trans f6
  replace f7 := (hp10.rest 7 (by decide)).trans f7
  replace f33 := (hp10.rest 33 (by decide)).trans f33
  replace f34 := (hp10.rest 34 (by decide)).trans f34
  replace f35 := (hp10.rest 35 (by decide)).trans f35
  replace f36 := (hp10.rest 36 (by decide)).trans f36
  replace f37 := (hp10.rest 37 (by decide)).trans f37
  replace f38 := (hp10.rest 38 (by decide)).trans f38
  replace f39 := (hp10.rest 39 (by decide)).trans f39
  replace f40 := (hp10.rest 40 (by decide)).trans f40
  replace f41 := (hp10.rest 41 (by decide)).trans f41
  refine wpLate_done (by kernel_rfl) ?_
  refine NoPanic.normal ?_
  have hq := hQ (w5.heap.size + 1) _ ⟨hm7, (hT8.2.env.but (some g)).trans hg7⟩
  rw [hp1.eq, hp2.eq, hp3.eq, hp4.eq, hp5.eq, hp6.eq, hp7.eq, hp8.eq, hp9.eq, hp10.eq] at hq
  exact hq
noncomputable def code20_13 : Code := (Try.f20.body.bind (regionOf 13)).getD .skip
set_option maxRecDepth 100000 in
set_option maxHeartbeats 4000000 in
theorem copy20a (M g n cap : Nat) (hole : Int) (f : Nat → Int) (how at' op imm : Int) (wA : World) (hm0 : MemAt wA M g n cap hole f) (hMg : M ≠ g) (gz0 : g < wA.heap.size) (hn : 16 ≤ n) (hnc : n ≤ cap) (hop : IntKind.i64.wrap (22 + how) = op) (him : IntKind.i32.wrap at' = imm) (c00 : wA.cell? ⟨M, 0, none⟩ = some (.slice (some ⟨g, 0, none⟩) n cap)) (hne0 : M ≠ g)
    (a0 : Act) (hs0 : a0.tmps.size = 138) (f8 : a0.eval (.tmp 8) = .pointer (some ⟨M, 0, none⟩)) (f2 : a0.eval (.tmp 2) = .int .i64 how) (f1 : a0.eval (.tmp 1) = .int .i64 at') (Q : Exit → Act → World → Prop)
    (hQ : ∀ b9 w', Copied M g n cap hole f 0 op 3 4 0 imm wA.drew w' → Q .normal (((((((((((a0.put (some 57) (.pointer (some ⟨M, 0, none⟩))).put (some 58) (.pointer (some ⟨M, 0, none⟩))).put (some 59) (.pointer (some ⟨M, 0, none⟩))).put (some 60) (.slice (some ⟨g, 0, none⟩) n cap)).put (some 61) (.int .i64 how)).put (some 62) (.int .i64 op)).put (some 63) (.int .i64 at')).put (some 64) (.int .i32 imm)).put (some 65) (.agg #[.int .i64 op, .int .i64 3, .int .i64 4, .int .i64 0, .int .i32 imm])).put (some 66) (.slice (some ⟨b9, 0, none⟩) 8 8)).put (some 67) (.int .i64 8)) w') : code20_13.wp Try.prog Q a0 wA := by
  conv => arg 2; whnf
  refine wp_region_noPanic ?_
  refine wp_region_late (fun w' => w'.cell? ⟨M, 0, none⟩ = some (.slice (some ⟨g, 0, none⟩) n cap)) [3] 11 (by rfl) (by kernel_rfl) ?_
  have c0 : wA.drew.cell? ⟨M, 0, none⟩ = some (.slice (some ⟨g, 0, none⟩) n cap) := c00
  have hm : MemAt wA.drew M g n cap hole f := hm0.grown (row := none) ⟨rfl, rfl, rfl, Nat.le_refl _, fun _ _ _ => rfl⟩ (by simp) (by simp) gz0
  have gz : g < wA.drew.heap.size := gz0
  clear c00 hm0 gz0
  generalize wA.drew = w5 at *
  have hv0 : a0.eval = a0.eval := rfl
  refine lt_pure (i := 0) (v := .pointer (some ⟨M, 0, none⟩)) (d := 57) hv0 (by rfl) (by kernel_rfl) (by kernel_rfl) (by kernel_rfl) (fun _ _ _ h => h) (by rfl) (fun w => rn_move rfl f8 w) rfl hs0 (by decide) (fun a1 ρ1 hp1 => ?_)
  have hv1 := hp1.ev
  have hs1 := hp1.sz
  have f57 := hp1.at'
  replace f1 := (hp1.rest 1 (by decide)).trans f1
  replace f2 := (hp1.rest 2 (by decide)).trans f2
  replace f8 := (hp1.rest 8 (by decide)).trans f8
  refine lt_pure (i := 1) (v := .pointer (some ⟨M, 0, none⟩)) (d := 58) hv1 (by rfl) (by kernel_rfl) (by kernel_rfl) (by kernel_rfl) (fun _ _ _ h => h) (by rfl) (fun w => rn_nil rfl f57 w) rfl hs1 (by decide) (fun a2 ρ2 hp2 => ?_)
  have hv2 := hp2.ev
  have hs2 := hp2.sz
  have f58 := hp2.at'
  replace f1 := (hp2.rest 1 (by decide)).trans f1
  replace f2 := (hp2.rest 2 (by decide)).trans f2
  replace f8 := (hp2.rest 8 (by decide)).trans f8
  replace f57 := (hp2.rest 57 (by decide)).trans f57
  refine lt_pure (i := 2) (v := .pointer (some ⟨M, 0, none⟩)) (d := 59) hv2 (by rfl) (by kernel_rfl) (by kernel_rfl) (by kernel_rfl) (fun _ _ _ h => h) (by rfl) (fun w => rn_f54 rfl f58 w) rfl hs2 (by decide) (fun a3 ρ3 hp3 => ?_)
  have hv3 := hp3.ev
  have hs3 := hp3.sz
  have f59 := hp3.at'
  replace f1 := (hp3.rest 1 (by decide)).trans f1
  replace f2 := (hp3.rest 2 (by decide)).trans f2
  replace f8 := (hp3.rest 8 (by decide)).trans f8
  replace f57 := (hp3.rest 57 (by decide)).trans f57
  replace f58 := (hp3.rest 58 (by decide)).trans f58
  refine lt_load (i := 3) (v := .slice (some ⟨g, 0, none⟩) n cap) (d := 60) hv3 (by rfl) (by kernel_rfl) (by kernel_rfl) (by kernel_rfl) (by simp) (fun _ _ _ h => h) (by rfl) (fun w hS => rn_load48 rfl f59 w hS) c0 rfl hs3 (by decide) (fun a4 ρ4 hp4 => ?_)
  have hv4 := hp4.ev
  have hs4 := hp4.sz
  have f60 := hp4.at'
  replace f1 := (hp4.rest 1 (by decide)).trans f1
  replace f2 := (hp4.rest 2 (by decide)).trans f2
  replace f8 := (hp4.rest 8 (by decide)).trans f8
  replace f57 := (hp4.rest 57 (by decide)).trans f57
  replace f58 := (hp4.rest 58 (by decide)).trans f58
  replace f59 := (hp4.rest 59 (by decide)).trans f59
  refine lt_pure (i := 4) (v := .int .i64 how) (d := 61) hv4 (by rfl) (by kernel_rfl) (by kernel_rfl) (by kernel_rfl) (fun _ _ _ h => h) (by rfl) (fun w => rn_move rfl f2 w) rfl hs4 (by decide) (fun a5 ρ5 hp5 => ?_)
  have hv5 := hp5.ev
  have hs5 := hp5.sz
  have f61 := hp5.at'
  replace f1 := (hp5.rest 1 (by decide)).trans f1
  replace f2 := (hp5.rest 2 (by decide)).trans f2
  replace f8 := (hp5.rest 8 (by decide)).trans f8
  replace f57 := (hp5.rest 57 (by decide)).trans f57
  replace f58 := (hp5.rest 58 (by decide)).trans f58
  replace f59 := (hp5.rest 59 (by decide)).trans f59
  replace f60 := (hp5.rest 60 (by decide)).trans f60
  refine lt_pure (i := 5) (v := .int .i64 op) (d := 62) hv5 (by rfl) (by kernel_rfl) (by kernel_rfl) (by kernel_rfl) (fun _ _ _ h => h) (by rfl) (fun w => rn_add3 rfl (by rw [← hv5]; rfl) f61 hop w) rfl hs5 (by decide) (fun a6 ρ6 hp6 => ?_)
  have hv6 := hp6.ev
  have hs6 := hp6.sz
  have f62 := hp6.at'
  replace f1 := (hp6.rest 1 (by decide)).trans f1
  replace f2 := (hp6.rest 2 (by decide)).trans f2
  replace f8 := (hp6.rest 8 (by decide)).trans f8
  replace f57 := (hp6.rest 57 (by decide)).trans f57
  replace f58 := (hp6.rest 58 (by decide)).trans f58
  replace f59 := (hp6.rest 59 (by decide)).trans f59
  replace f60 := (hp6.rest 60 (by decide)).trans f60
  replace f61 := (hp6.rest 61 (by decide)).trans f61
  refine lt_pure (i := 6) (v := .int .i64 at') (d := 63) hv6 (by rfl) (by kernel_rfl) (by kernel_rfl) (by kernel_rfl) (fun _ _ _ h => h) (by rfl) (fun w => rn_move rfl f1 w) rfl hs6 (by decide) (fun a7 ρ7 hp7 => ?_)
  have hv7 := hp7.ev
  have hs7 := hp7.sz
  have f63 := hp7.at'
  replace f1 := (hp7.rest 1 (by decide)).trans f1
  replace f2 := (hp7.rest 2 (by decide)).trans f2
  replace f8 := (hp7.rest 8 (by decide)).trans f8
  replace f57 := (hp7.rest 57 (by decide)).trans f57
  replace f58 := (hp7.rest 58 (by decide)).trans f58
  replace f59 := (hp7.rest 59 (by decide)).trans f59
  replace f60 := (hp7.rest 60 (by decide)).trans f60
  replace f61 := (hp7.rest 61 (by decide)).trans f61
  replace f62 := (hp7.rest 62 (by decide)).trans f62
  refine lt_pure (i := 7) (v := .int .i32 imm) (d := 64) hv7 (by rfl) (by kernel_rfl) (by kernel_rfl) (by kernel_rfl) (fun _ _ _ h => h) (by rfl) (fun w => rn_cv321 rfl f63 him w) rfl hs7 (by decide) (fun a8 ρ8 hp8 => ?_)
  have hv8 := hp8.ev
  have hs8 := hp8.sz
  have f64 := hp8.at'
  replace f1 := (hp8.rest 1 (by decide)).trans f1
  replace f2 := (hp8.rest 2 (by decide)).trans f2
  replace f8 := (hp8.rest 8 (by decide)).trans f8
  replace f57 := (hp8.rest 57 (by decide)).trans f57
  replace f58 := (hp8.rest 58 (by decide)).trans f58
  replace f59 := (hp8.rest 59 (by decide)).trans f59
  replace f60 := (hp8.rest 60 (by decide)).trans f60
  replace f61 := (hp8.rest 61 (by decide)).trans f61
  replace f62 := (hp8.rest 62 (by decide)).trans f62
  replace f63 := (hp8.rest 63 (by decide)).trans f63
  refine lt_pure (i := 8) (v := .agg #[.int .i64 op, .int .i64 3, .int .i64 4, .int .i64 0, .int .i32 imm]) (d := 65) hv8 (by rfl) (by kernel_rfl) (by kernel_rfl) (by kernel_rfl) (fun _ _ _ h => h) (by rfl) (fun w => rn_bld4 rfl f62 (by rw [← hv8]; rfl) (by rw [← hv8]; rfl) f64 w) rfl hs8 (by decide) (fun a9 ρ9 hp9 => ?_)
  have hv9 := hp9.ev
  have hs9 := hp9.sz
  have f65 := hp9.at'
  replace f1 := (hp9.rest 1 (by decide)).trans f1
  replace f2 := (hp9.rest 2 (by decide)).trans f2
  replace f8 := (hp9.rest 8 (by decide)).trans f8
  replace f57 := (hp9.rest 57 (by decide)).trans f57
  replace f58 := (hp9.rest 58 (by decide)).trans f58
  replace f59 := (hp9.rest 59 (by decide)).trans f59
  replace f60 := (hp9.rest 60 (by decide)).trans f60
  replace f61 := (hp9.rest 61 (by decide)).trans f61
  replace f62 := (hp9.rest 62 (by decide)).trans f62
  replace f63 := (hp9.rest 63 (by decide)).trans f63
  replace f64 := (hp9.rest 64 (by decide)).trans f64
  refine wpLate_one (i := 9) (by kernel_rfl) ?_
  refine lt_call (v := .slice (some ⟨(w5.heap.size + 1), 0, none⟩) 8 8) (T := fun w' => True ∧ Enc op 3 4 0 imm (w5.heap.size + 1) w5 w') (d := 66) hv9 (by rfl) (by rfl) (rn_enc rfl f65 (by rw [← hv9]; rfl) _) rfl hs9 (by decide) ((enc_any op 3 4 0 imm w5).mono (fun _ _ h => ⟨h.1, trivial, h.2⟩)) (fun w' h _ => (fun h => .inr (h.2.env.cell c0 (by simp))) h) (fun w6 a10 ρ10 hT9 hp10 => ?_)
  have hv10 := hp10.ev
  have hs10 := hp10.sz
  have f66 := hp10.at'
  replace f1 := (hp10.rest 1 (by decide)).trans f1
  replace f2 := (hp10.rest 2 (by decide)).trans f2
  replace f8 := (hp10.rest 8 (by decide)).trans f8
  replace f57 := (hp10.rest 57 (by decide)).trans f57
  replace f58 := (hp10.rest 58 (by decide)).trans f58
  replace f59 := (hp10.rest 59 (by decide)).trans f59
  replace f60 := (hp10.rest 60 (by decide)).trans f60
  replace f61 := (hp10.rest 61 (by decide)).trans f61
  replace f62 := (hp10.rest 62 (by decide)).trans f62
  replace f63 := (hp10.rest 63 (by decide)).trans f63
  replace f64 := (hp10.rest 64 (by decide)).trans f64
  replace f65 := (hp10.rest 65 (by decide)).trans f65
  have hm6 := hm.grown hT9.2.env (by simp) (by simp) gz
  obtain ⟨hrun, hm7, hg7⟩ := copy_run hm6 hMg op 3 4 0 imm hT9.2.c 0 (by omega)  _
  refine wpLate_one (i := 10) (by kernel_rfl) ?_
  refine lt_value (v := .int .i64 8) (w' := (w6.setCells g 0 ((encL op 3 4 0 imm).map (Value.int .u8)))) (d := 67) hv10 (by rfl) (by rfl) (rn_copy rfl f60 f66 hrun) rfl hs10 (by decide) (fun _ => .inr (hg7.cell (hT9.2.env.cell c0 (by simp)) (by simpa using hne0))) (fun a11 ρ11 hp11 => ?_)
  have hv11 := hp11.ev
  have hs11 := hp11.sz
  have f67 := hp11.at'
  replace f1 := (hp11.rest 1 (by decide)).trans f1
  replace f2 := (hp11.rest 2 (by decide)).trans f2
  replace f8 := (hp11.rest 8 (by decide)).trans f8
  replace f57 := (hp11.rest 57 (by decide)).trans f57
  replace f58 := (hp11.rest 58 (by decide)).trans f58
  replace f59 := (hp11.rest 59 (by decide)).trans f59
  replace f60 := (hp11.rest 60 (by decide)).trans f60
  replace f61 := (hp11.rest 61 (by decide)).trans f61
  replace f62 := (hp11.rest 62 (by decide)).trans f62
  replace f63 := (hp11.rest 63 (by decide)).trans f63
  replace f64 := (hp11.rest 64 (by decide)).trans f64
  replace f65 := (hp11.rest 65 (by decide)).trans f65
  replace f66 := (hp11.rest 66 (by decide)).trans f66
  refine wpLate_done (by kernel_rfl) ?_
  refine NoPanic.normal ?_
  have hq := hQ (w5.heap.size + 1) _ ⟨hm7, (hT9.2.env.but (some g)).trans hg7⟩
  rw [hp1.eq, hp2.eq, hp3.eq, hp4.eq, hp5.eq, hp6.eq, hp7.eq, hp8.eq, hp9.eq, hp10.eq, hp11.eq] at hq
  exact hq
noncomputable def code20_14 : Code := (Try.f20.body.bind (regionOf 14)).getD .skip
set_option maxRecDepth 100000 in
set_option maxHeartbeats 4000000 in
theorem copy20b (M g n cap : Nat) (hole : Int) (f : Nat → Int) (how at' op imm : Int) (wA : World) (hm0 : MemAt wA M g n cap hole f) (hMg : M ≠ g) (gz0 : g < wA.heap.size) (hn : 16 ≤ n) (hnc : n ≤ cap) (hop : IntKind.i64.wrap (19 + how) = op) (him : IntKind.i32.wrap at' = imm) (c00 : wA.cell? ⟨M, 0, none⟩ = some (.slice (some ⟨g, 0, none⟩) n cap)) (hne0 : M ≠ g)
    (a0 : Act) (hs0 : a0.tmps.size = 138) (f8 : a0.eval (.tmp 8) = .pointer (some ⟨M, 0, none⟩)) (f2 : a0.eval (.tmp 2) = .int .i64 how) (f1 : a0.eval (.tmp 1) = .int .i64 at') (Q : Exit → Act → World → Prop)
    (hQ : ∀ b9 w', Copied M g n cap hole f 8 op 5 4 0 imm wA.drew w' → Q .normal ((((((((((((a0.put (some 68) (.pointer (some ⟨M, 0, none⟩))).put (some 69) (.pointer (some ⟨M, 0, none⟩))).put (some 70) (.pointer (some ⟨M, 0, none⟩))).put (some 71) (.slice (some ⟨g, 0, none⟩) n cap)).put (some 72) (.slice (some ⟨g, 8, none⟩) (n - 8) (cap - 8))).put (some 73) (.int .i64 how)).put (some 74) (.int .i64 op)).put (some 75) (.int .i64 at')).put (some 76) (.int .i32 imm)).put (some 77) (.agg #[.int .i64 op, .int .i64 5, .int .i64 4, .int .i64 0, .int .i32 imm])).put (some 78) (.slice (some ⟨b9, 0, none⟩) 8 8)).put (some 79) (.int .i64 8)) w') : code20_14.wp Try.prog Q a0 wA := by
  conv => arg 2; whnf
  refine wp_region_noPanic ?_
  refine wp_region_late (fun w' => w'.cell? ⟨M, 0, none⟩ = some (.slice (some ⟨g, 0, none⟩) n cap)) [3] 12 (by rfl) (by kernel_rfl) ?_
  have c0 : wA.drew.cell? ⟨M, 0, none⟩ = some (.slice (some ⟨g, 0, none⟩) n cap) := c00
  have hm : MemAt wA.drew M g n cap hole f := hm0.grown (row := none) ⟨rfl, rfl, rfl, Nat.le_refl _, fun _ _ _ => rfl⟩ (by simp) (by simp) gz0
  have gz : g < wA.drew.heap.size := gz0
  clear c00 hm0 gz0
  generalize wA.drew = w5 at *
  have hv0 : a0.eval = a0.eval := rfl
  refine lt_pure (i := 0) (v := .pointer (some ⟨M, 0, none⟩)) (d := 68) hv0 (by rfl) (by kernel_rfl) (by kernel_rfl) (by kernel_rfl) (fun _ _ _ h => h) (by rfl) (fun w => rn_move rfl f8 w) rfl hs0 (by decide) (fun a1 ρ1 hp1 => ?_)
  have hv1 := hp1.ev
  have hs1 := hp1.sz
  have f68 := hp1.at'
  replace f1 := (hp1.rest 1 (by decide)).trans f1
  replace f2 := (hp1.rest 2 (by decide)).trans f2
  replace f8 := (hp1.rest 8 (by decide)).trans f8
  refine lt_pure (i := 1) (v := .pointer (some ⟨M, 0, none⟩)) (d := 69) hv1 (by rfl) (by kernel_rfl) (by kernel_rfl) (by kernel_rfl) (fun _ _ _ h => h) (by rfl) (fun w => rn_nil rfl f68 w) rfl hs1 (by decide) (fun a2 ρ2 hp2 => ?_)
  have hv2 := hp2.ev
  have hs2 := hp2.sz
  have f69 := hp2.at'
  replace f1 := (hp2.rest 1 (by decide)).trans f1
  replace f2 := (hp2.rest 2 (by decide)).trans f2
  replace f8 := (hp2.rest 8 (by decide)).trans f8
  replace f68 := (hp2.rest 68 (by decide)).trans f68
  refine lt_pure (i := 2) (v := .pointer (some ⟨M, 0, none⟩)) (d := 70) hv2 (by rfl) (by kernel_rfl) (by kernel_rfl) (by kernel_rfl) (fun _ _ _ h => h) (by rfl) (fun w => rn_f54 rfl f69 w) rfl hs2 (by decide) (fun a3 ρ3 hp3 => ?_)
  have hv3 := hp3.ev
  have hs3 := hp3.sz
  have f70 := hp3.at'
  replace f1 := (hp3.rest 1 (by decide)).trans f1
  replace f2 := (hp3.rest 2 (by decide)).trans f2
  replace f8 := (hp3.rest 8 (by decide)).trans f8
  replace f68 := (hp3.rest 68 (by decide)).trans f68
  replace f69 := (hp3.rest 69 (by decide)).trans f69
  refine lt_load (i := 3) (v := .slice (some ⟨g, 0, none⟩) n cap) (d := 71) hv3 (by rfl) (by kernel_rfl) (by kernel_rfl) (by kernel_rfl) (by simp) (fun _ _ _ h => h) (by rfl) (fun w hS => rn_load48 rfl f70 w hS) c0 rfl hs3 (by decide) (fun a4 ρ4 hp4 => ?_)
  have hv4 := hp4.ev
  have hs4 := hp4.sz
  have f71 := hp4.at'
  replace f1 := (hp4.rest 1 (by decide)).trans f1
  replace f2 := (hp4.rest 2 (by decide)).trans f2
  replace f8 := (hp4.rest 8 (by decide)).trans f8
  replace f68 := (hp4.rest 68 (by decide)).trans f68
  replace f69 := (hp4.rest 69 (by decide)).trans f69
  replace f70 := (hp4.rest 70 (by decide)).trans f70
  refine lt_pure (i := 4) (v := .slice (some ⟨g, 8, none⟩) (n - 8) (cap - 8)) (d := 72) hv4 (by rfl) (by kernel_rfl) (by kernel_rfl) (by kernel_rfl) (fun _ _ _ h => h) (by rfl) (fun w => rn_sl48 (k := 8) rfl f71 (by rw [← hv4]; rfl) (by omega) (by omega) (by omega) w) rfl hs4 (by decide) (fun a5 ρ5 hp5 => ?_)
  have hv5 := hp5.ev
  have hs5 := hp5.sz
  have f72 := hp5.at'
  replace f1 := (hp5.rest 1 (by decide)).trans f1
  replace f2 := (hp5.rest 2 (by decide)).trans f2
  replace f8 := (hp5.rest 8 (by decide)).trans f8
  replace f68 := (hp5.rest 68 (by decide)).trans f68
  replace f69 := (hp5.rest 69 (by decide)).trans f69
  replace f70 := (hp5.rest 70 (by decide)).trans f70
  replace f71 := (hp5.rest 71 (by decide)).trans f71
  refine lt_pure (i := 5) (v := .int .i64 how) (d := 73) hv5 (by rfl) (by kernel_rfl) (by kernel_rfl) (by kernel_rfl) (fun _ _ _ h => h) (by rfl) (fun w => rn_move rfl f2 w) rfl hs5 (by decide) (fun a6 ρ6 hp6 => ?_)
  have hv6 := hp6.ev
  have hs6 := hp6.sz
  have f73 := hp6.at'
  replace f1 := (hp6.rest 1 (by decide)).trans f1
  replace f2 := (hp6.rest 2 (by decide)).trans f2
  replace f8 := (hp6.rest 8 (by decide)).trans f8
  replace f68 := (hp6.rest 68 (by decide)).trans f68
  replace f69 := (hp6.rest 69 (by decide)).trans f69
  replace f70 := (hp6.rest 70 (by decide)).trans f70
  replace f71 := (hp6.rest 71 (by decide)).trans f71
  replace f72 := (hp6.rest 72 (by decide)).trans f72
  refine lt_pure (i := 6) (v := .int .i64 op) (d := 74) hv6 (by rfl) (by kernel_rfl) (by kernel_rfl) (by kernel_rfl) (fun _ _ _ h => h) (by rfl) (fun w => rn_add3 rfl (by rw [← hv6]; rfl) f73 hop w) rfl hs6 (by decide) (fun a7 ρ7 hp7 => ?_)
  have hv7 := hp7.ev
  have hs7 := hp7.sz
  have f74 := hp7.at'
  replace f1 := (hp7.rest 1 (by decide)).trans f1
  replace f2 := (hp7.rest 2 (by decide)).trans f2
  replace f8 := (hp7.rest 8 (by decide)).trans f8
  replace f68 := (hp7.rest 68 (by decide)).trans f68
  replace f69 := (hp7.rest 69 (by decide)).trans f69
  replace f70 := (hp7.rest 70 (by decide)).trans f70
  replace f71 := (hp7.rest 71 (by decide)).trans f71
  replace f72 := (hp7.rest 72 (by decide)).trans f72
  replace f73 := (hp7.rest 73 (by decide)).trans f73
  refine lt_pure (i := 7) (v := .int .i64 at') (d := 75) hv7 (by rfl) (by kernel_rfl) (by kernel_rfl) (by kernel_rfl) (fun _ _ _ h => h) (by rfl) (fun w => rn_move rfl f1 w) rfl hs7 (by decide) (fun a8 ρ8 hp8 => ?_)
  have hv8 := hp8.ev
  have hs8 := hp8.sz
  have f75 := hp8.at'
  replace f1 := (hp8.rest 1 (by decide)).trans f1
  replace f2 := (hp8.rest 2 (by decide)).trans f2
  replace f8 := (hp8.rest 8 (by decide)).trans f8
  replace f68 := (hp8.rest 68 (by decide)).trans f68
  replace f69 := (hp8.rest 69 (by decide)).trans f69
  replace f70 := (hp8.rest 70 (by decide)).trans f70
  replace f71 := (hp8.rest 71 (by decide)).trans f71
  replace f72 := (hp8.rest 72 (by decide)).trans f72
  replace f73 := (hp8.rest 73 (by decide)).trans f73
  replace f74 := (hp8.rest 74 (by decide)).trans f74
  refine lt_pure (i := 8) (v := .int .i32 imm) (d := 76) hv8 (by rfl) (by kernel_rfl) (by kernel_rfl) (by kernel_rfl) (fun _ _ _ h => h) (by rfl) (fun w => rn_cv321 rfl f75 him w) rfl hs8 (by decide) (fun a9 ρ9 hp9 => ?_)
  have hv9 := hp9.ev
  have hs9 := hp9.sz
  have f76 := hp9.at'
  replace f1 := (hp9.rest 1 (by decide)).trans f1
  replace f2 := (hp9.rest 2 (by decide)).trans f2
  replace f8 := (hp9.rest 8 (by decide)).trans f8
  replace f68 := (hp9.rest 68 (by decide)).trans f68
  replace f69 := (hp9.rest 69 (by decide)).trans f69
  replace f70 := (hp9.rest 70 (by decide)).trans f70
  replace f71 := (hp9.rest 71 (by decide)).trans f71
  replace f72 := (hp9.rest 72 (by decide)).trans f72
  replace f73 := (hp9.rest 73 (by decide)).trans f73
  replace f74 := (hp9.rest 74 (by decide)).trans f74
  replace f75 := (hp9.rest 75 (by decide)).trans f75
  refine lt_pure (i := 9) (v := .agg #[.int .i64 op, .int .i64 5, .int .i64 4, .int .i64 0, .int .i32 imm]) (d := 77) hv9 (by rfl) (by kernel_rfl) (by kernel_rfl) (by kernel_rfl) (fun _ _ _ h => h) (by rfl) (fun w => rn_bld4 rfl f74 (by rw [← hv9]; rfl) (by rw [← hv9]; rfl) f76 w) rfl hs9 (by decide) (fun a10 ρ10 hp10 => ?_)
  have hv10 := hp10.ev
  have hs10 := hp10.sz
  have f77 := hp10.at'
  replace f1 := (hp10.rest 1 (by decide)).trans f1
  replace f2 := (hp10.rest 2 (by decide)).trans f2
  replace f8 := (hp10.rest 8 (by decide)).trans f8
  replace f68 := (hp10.rest 68 (by decide)).trans f68
  replace f69 := (hp10.rest 69 (by decide)).trans f69
  replace f70 := (hp10.rest 70 (by decide)).trans f70
  replace f71 := (hp10.rest 71 (by decide)).trans f71
  replace f72 := (hp10.rest 72 (by decide)).trans f72
  replace f73 := (hp10.rest 73 (by decide)).trans f73
  replace f74 := (hp10.rest 74 (by decide)).trans f74
  replace f75 := (hp10.rest 75 (by decide)).trans f75
  replace f76 := (hp10.rest 76 (by decide)).trans f76
  refine wpLate_one (i := 10) (by kernel_rfl) ?_
  refine lt_call (v := .slice (some ⟨(w5.heap.size + 1), 0, none⟩) 8 8) (T := fun w' => True ∧ Enc op 5 4 0 imm (w5.heap.size + 1) w5 w') (d := 78) hv10 (by rfl) (by rfl) (rn_enc rfl f77 (by rw [← hv10]; rfl) _) rfl hs10 (by decide) ((enc_any op 5 4 0 imm w5).mono (fun _ _ h => ⟨h.1, trivial, h.2⟩)) (fun w' h _ => (fun h => .inr (h.2.env.cell c0 (by simp))) h) (fun w6 a11 ρ11 hT10 hp11 => ?_)
  have hv11 := hp11.ev
  have hs11 := hp11.sz
  have f78 := hp11.at'
  replace f1 := (hp11.rest 1 (by decide)).trans f1
  replace f2 := (hp11.rest 2 (by decide)).trans f2
  replace f8 := (hp11.rest 8 (by decide)).trans f8
  replace f68 := (hp11.rest 68 (by decide)).trans f68
  replace f69 := (hp11.rest 69 (by decide)).trans f69
  replace f70 := (hp11.rest 70 (by decide)).trans f70
  replace f71 := (hp11.rest 71 (by decide)).trans f71
  replace f72 := (hp11.rest 72 (by decide)).trans f72
  replace f73 := (hp11.rest 73 (by decide)).trans f73
  replace f74 := (hp11.rest 74 (by decide)).trans f74
  replace f75 := (hp11.rest 75 (by decide)).trans f75
  replace f76 := (hp11.rest 76 (by decide)).trans f76
  replace f77 := (hp11.rest 77 (by decide)).trans f77
  have hm6 := hm.grown hT10.2.env (by simp) (by simp) gz
  obtain ⟨hrun, hm7, hg7⟩ := copy_run hm6 hMg op 5 4 0 imm hT10.2.c 8 (by omega)  _
  refine wpLate_one (i := 11) (by kernel_rfl) ?_
  refine lt_value (v := .int .i64 8) (w' := (w6.setCells g 8 ((encL op 5 4 0 imm).map (Value.int .u8)))) (d := 79) hv11 (by rfl) (by rfl) (rn_copy rfl f72 f78 hrun) rfl hs11 (by decide) (fun _ => .inr (hg7.cell (hT10.2.env.cell c0 (by simp)) (by simpa using hne0))) (fun a12 ρ12 hp12 => ?_)
  have hv12 := hp12.ev
  have hs12 := hp12.sz
  have f79 := hp12.at'
  replace f1 := (hp12.rest 1 (by decide)).trans f1
  replace f2 := (hp12.rest 2 (by decide)).trans f2
  replace f8 := (hp12.rest 8 (by decide)).trans f8
  replace f68 := (hp12.rest 68 (by decide)).trans f68
  replace f69 := (hp12.rest 69 (by decide)).trans f69
  replace f70 := (hp12.rest 70 (by decide)).trans f70
  replace f71 := (hp12.rest 71 (by decide)).trans f71
  replace f72 := (hp12.rest 72 (by decide)).trans f72
  replace f73 := (hp12.rest 73 (by decide)).trans f73
  replace f74 := (hp12.rest 74 (by decide)).trans f74
  replace f75 := (hp12.rest 75 (by decide)).trans f75
  replace f76 := (hp12.rest 76 (by decide)).trans f76
  replace f77 := (hp12.rest 77 (by decide)).trans f77
  replace f78 := (hp12.rest 78 (by decide)).trans f78
  refine wpLate_done (by kernel_rfl) ?_
  refine NoPanic.normal ?_
  have hq := hQ (w5.heap.size + 1) _ ⟨hm7, (hT10.2.env.but (some g)).trans hg7⟩
  rw [hp1.eq, hp2.eq, hp3.eq, hp4.eq, hp5.eq, hp6.eq, hp7.eq, hp8.eq, hp9.eq, hp10.eq, hp11.eq, hp12.eq] at hq
  exact hq
end Go.Proofs.Ytelgmffmekfndaa
