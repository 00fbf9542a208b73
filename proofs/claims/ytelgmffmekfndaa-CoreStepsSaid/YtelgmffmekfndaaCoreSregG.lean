/- core.move's store, one statement that draws its order, at a frame that is a letter. Conditions: as each theorem names them. -/
import Derived.Test.YtelgmffmekfndaaLetterG
import Derived.Test.YtelgmffmekfndaaCoreDecodeG
set_option linter.unusedVariables false
namespace Go.Proofs.Ytelgmffmekfndaa
open Go.ChangeShapes Go.WideShapes Go.ChangeAt Go.RowKit

theorem lt_call {P : Program} {ops : Array Oper} {Q : Exit → Act → World → Prop} {md : Region.Mode} {S : World → Prop} {L : List Nat} {T : World → Prop} {i m n d f : Nat} {args : Array Value} {oi : Oper} {v : Value} {seen : Array Bool} {a : Act} {ρ : Operand → Value} {w : World} (hρ : a.eval = ρ) (hi : ops[i]? = some oi) (hw : Region.wanted oi (yielded ops a.tmps) = true)
    (hr : (execOp ρ oi).run P w = .ok (.enter f args) w) (hd : oi.dst = some d) (hz : a.tmps.size = n) (hdn : d < n) (hc : Calls P f args w fun e w' => e = .returned v ∧ T w')
    (hS : ∀ w', T w' → lateOn md ops L i = false → w' = w ∨ S w') (h : ∀ w' a' ρ', T w' → Put a a' ρ ρ' n d v → wpLate P md ops Q S L m (seen.setIfInBounds i true) a' w') :
    wpOp P ops Q i (fun a' w' => (lateOn md ops L i = false → w' = w ∨ S w') ∧ wpLate P md ops Q S L m (seen.setIfInBounds i true) a' w') a w := by
  subst hρ
  refine wpOp_law hi hw ?_
  unfold Oper.wp
  rw [hr, Oper.upon_enter]
  refine hc.mono ?_
  rintro e w' ⟨rfl, hT⟩
  refine ⟨hS w' hT, ?_⟩
  rw [hd]
  exact h w' _ _ hT (Put.mk' rfl hz hdn)

section
variable {ρ : Operand → Value}
theorem rn_f50 {o : Oper} {x : Operand} {b : Nat} (ho : o.op = .fieldAddr 50 x 1) (h : ρ x = .pointer (some ⟨b, 0, none⟩)) (w : World) : (execOp ρ o).run Try.prog w = .ok (.value (.pointer (some ⟨b, 1, none⟩))) w := by
  unfold execOp; simp [ho, h, go_sem]
theorem rn_f57 {o : Oper} {x : Operand} {b : Nat} (ho : o.op = .fieldAddr 57 x 0) (h : ρ x = .pointer (some ⟨b, 0, none⟩)) (w : World) : (execOp ρ o).run Try.prog w = .ok (.value (.pointer (some ⟨b, 0, none⟩))) w := by
  unfold execOp; simp [ho, h, go_sem]
theorem rn_load3 {o : Oper} {x : Operand} {p : Addr} {v : Int} (ho : o.op = .load 3 x) (h : ρ x = .pointer (some p)) (w : World) (hc : w.cell? p = some (.int .i64 v)) : (execOp ρ o).run Try.prog w = .ok (.value (.int .i64 v)) w := by
  unfold execOp; simp [ho, h, hc, go_sem]
theorem rn_load22 {o : Oper} {x : Operand} {p : Addr} {v : Int} (ho : o.op = .load 22 x) (h : ρ x = .pointer (some p)) (w : World) (hc : w.cell? p = some (.int .u64 v)) : (execOp ρ o).run Try.prog w = .ok (.value (.int .u64 v)) w := by
  unfold execOp; simp [ho, h, hc, go_sem]
theorem rn_ix55 {o : Oper} {x y : Operand} {b A : Nat} (ho : o.op = .indexAddr 55 x y) (h : ρ x = .pointer (some ⟨b, 0, none⟩)) (h2 : ρ y = .int .i64 (A : Nat)) (hA : A < 16) (w : World) : (execOp ρ o).run Try.prog w = .ok (.value (.pointer (some ⟨b, A, none⟩))) w := by
  have h3 : (A : Int) < 16 := by omega
  unfold execOp; simp [ho, h, h2, h3, go_sem]
theorem rn_bin {o : Oper} {b : BinOp} {t s : TypeId} {cv u r : Value} {y : Operand} (ho : o.op = .binOp b t (.const cv) y s) (hcv : ρ (.const cv) = cv) (h : ρ y = u) (hr : ∀ w, ((do eqGuard b t (.const cv) y cv u; binOp b t cv u) : Sem Value).run Try.prog w = .ok r w) (w : World) : (execOp ρ o).run Try.prog w = .ok (.value r) w := by
  have := hr w
  unfold execOp
  simp only [ho, hcv, h]
  simp only [Sem.run_bind] at this ⊢
  rw [this]
  rfl
theorem rn_bin' {o : Oper} {b : BinOp} {t s : TypeId} {cv u r : Value} {y : Operand} (ho : o.op = .binOp b t y (.const cv) s) (h : ρ y = u) (hcv : ρ (.const cv) = cv) (hr : ∀ w, ((do eqGuard b t y (.const cv) u cv; binOp b t u cv) : Sem Value).run Try.prog w = .ok r w) (w : World) : (execOp ρ o).run Try.prog w = .ok (.value r) w := by
  have := hr w
  unfold execOp
  simp only [ho, hcv, h]
  simp only [Sem.run_bind] at this ⊢
  rw [this]
  rfl
theorem rn_bin2 {o : Oper} {b : BinOp} {t s : TypeId} {u v r : Value} {x y : Operand} (ho : o.op = .binOp b t x y s) (h : ρ x = u) (h2 : ρ y = v) (hr : ∀ w, ((do eqGuard b t x y u v; binOp b t u v) : Sem Value).run Try.prog w = .ok r w) (w : World) : (execOp ρ o).run Try.prog w = .ok (.value r) w := by
  have := hr w
  unfold execOp
  simp only [ho, h2, h]
  simp only [Sem.run_bind] at this ⊢
  rw [this]
  rfl
theorem rn_and22 {o : Oper} {x y : Operand} {a m v : Int} {s : TypeId} (ho : o.op = .binOp .and 22 x y s) (h : ρ x = .int .u64 a) (h2 : ρ y = .int .u64 m) (hx : bits .and .u64 a m = v) (w : World) : (execOp ρ o).run Try.prog w = .ok (.value (.int .u64 v)) w := by
  subst hx
  unfold execOp; simp [ho, h, h2, go_sem]
theorem rn_make {o : Oper} {x : Operand} {v : Value} {s : String} (ho : o.op = .makeFunc (.method s) #[x] #[]) (h : ρ x = v) (w : World) : (execOp ρ o).run Try.prog w = .ok (.value (.func (.method s) #[v] #[])) w := by
  unfold execOp; simp [ho, h, go_sem, Instr.makeFunc]
theorem rn_nilm {o : Oper} {x : Operand} {M : Nat} (ho : o.op = .nilCheck x) (h : ρ x = .func (.method "Store") #[.iface 52 (.pointer (some ⟨M, 0, none⟩))] #[]) (w : World) : (execOp ρ o).run Try.prog w = .ok (.value (.func (.method "Store") #[.iface 52 (.pointer (some ⟨M, 0, none⟩))] #[])) w := by
  have := ahead_store ⟨M, 0, none⟩
  unfold execOp; simp [ho, h, go_sem, this]
theorem rn_store {o : Oper} {x y z u : Operand} {M : Nat} {v1 v2 v3 : Value} {ts : Array TypeId} (ho : o.op = .call { callee := .invoke x "Store", args := #[y, z, u], argTypes := ts }) (h : ρ x = .iface 52 (.pointer (some ⟨M, 0, none⟩))) (h1 : ρ y = v1) (h2 : ρ z = v2) (h3 : ρ u = v3) (w : World) :
    (execOp ρ o).run Try.prog w = .ok (.enter 87 #[.pointer (some ⟨M, 0, none⟩), v1, v2, v3]) w := by
  have := method_store ⟨M, 0, none⟩
  unfold execOp; simp [ho, h, h1, h2, h3, go_sem, this]
theorem rn_not {o : Oper} {x : Operand} {r : Bool} {t : TypeId} (ho : o.op = .unOp .not t x) (h : ρ x = .bool r) (w : World) : (execOp ρ o).run Try.prog w = .ok (.value (.bool (!r))) w := by
  unfold execOp; simp [ho, h, go_sem]
end
noncomputable def code6 : Code := (Try.f94.body.bind (regionOf 6)).getD .skip

set_option maxRecDepth 100000 in
set_option maxHeartbeats 4000000 in
theorem store_reg8 (c A X M : Nat) (a x pl : Int) (r : Bool) (T : World → Prop) (wA : World) (hA : A < 16) (cX0 : wA.cell? ⟨X, 1, none⟩ = some (.int .i64 A)) (cA0 : wA.cell? ⟨c, A, none⟩ = some (.int .u64 a)) (hx : bits .and .u64 a 18446744073709551615 = x)
    (hc : Calls Try.prog 87 #[.pointer (some ⟨M, 0, none⟩), .int .i64 pl, .int .i64 8, .int .u64 x] wA.drew fun e w' => e = .returned (.bool r) ∧ T w')
    (hT : ∀ w', T w' → w'.cell? ⟨X, 1, none⟩ = some (.int .i64 A) ∧ w'.cell? ⟨c, A, none⟩ = some (.int .u64 a))
    (a0 : Act) (hs0 : a0.tmps.size = 77) (f0 : a0.eval (.tmp 0) = .pointer (some ⟨c, 0, none⟩)) (f2 : a0.eval (.tmp 2) = .iface 52 (.pointer (some ⟨M, 0, none⟩))) (f4 : a0.eval (.tmp 4) = .pointer (some ⟨X, 0, none⟩)) (f7 : a0.eval (.tmp 7) = .int .i64 8) (f9 : a0.eval (.tmp 9) = .int .i64 pl) (Q : Exit → Act → World → Prop)
    (hQ : ∀ w', T w' → Q .normal ((((((((((((((((((((((((((a0.put (some 35) (.iface 52 (.pointer (some ⟨M, 0, none⟩)))).put (some 36) (.int .i64 pl)).put (some 37) (.int .i64 8)).put (some 38) (.pointer (some ⟨c, 0, none⟩))).put (some 39) (.pointer (some ⟨X, 1, none⟩))).put (some 40) (.int .i64 (A : Nat))).put (some 41) (.pointer (some ⟨c, 0, none⟩))).put (some 42) (.pointer (some ⟨c, 0, none⟩))).put (some 43) (.pointer (some ⟨c, A, none⟩))).put (some 44) (.int .u64 a)).put (some 45) (.int .i64 8)).put (some 46) (.int .i64 64)).put (some 47) (.int .i64 63)).put (some 48) (.int .u64 9223372036854775808)).put (some 49) (.int .i64 8)).put (some 50) (.int .i64 64)).put (some 51) (.int .i64 63)).put (some 52) (.int .u64 9223372036854775808)).put (some 53) (.int .u64 9223372036854775807)).put (some 54) (.int .u64 18446744073709551615)).put (some 55) (.int .u64 x)).put (some 56) (.func (.method "Store") #[.iface 52 (.pointer (some ⟨M, 0, none⟩))] #[])).put (some 57) (.func (.method "Store") #[.iface 52 (.pointer (some ⟨M, 0, none⟩))] #[])).put (some 58) (.iface 52 (.pointer (some ⟨M, 0, none⟩)))).put (some 59) (.bool r)).put (some 60) (.bool (!r))) w') : code6.wp Try.prog Q a0 wA := by
  conv => arg 2; whnf
  refine wp_region_noPanic ?_
  refine wp_region_late (fun w' => w'.cell? ⟨X, 1, none⟩ = some (.int .i64 A) ∧ w'.cell? ⟨c, A, none⟩ = some (.int .u64 a)) [5, 9] 26 (by rfl) (by kernel_rfl) ?_
  have cX : wA.drew.cell? ⟨X, 1, none⟩ = some (.int .i64 A) := cX0
  have cA : wA.drew.cell? ⟨c, A, none⟩ = some (.int .u64 a) := cA0
  clear cX0 cA0
  generalize wA.drew = w5 at *
  have hv0 : a0.eval = a0.eval := rfl
  refine lt_pure (i := 0) (v := .iface 52 (.pointer (some ⟨M, 0, none⟩))) (d := 35) hv0 (by rfl) (by kernel_rfl) (by kernel_rfl) (by kernel_rfl) (fun _ _ _ h => h) (by rfl) (fun w => rn_move rfl f2 w) rfl hs0 (by decide) (fun a1 ρ1 hp1 => ?_)
  have hv1 := hp1.ev
  have hs1 := hp1.sz
  have f35 := hp1.at'
  replace f0 := (hp1.rest 0 (by decide)).trans f0
  replace f2 := (hp1.rest 2 (by decide)).trans f2
  replace f4 := (hp1.rest 4 (by decide)).trans f4
  replace f7 := (hp1.rest 7 (by decide)).trans f7
  replace f9 := (hp1.rest 9 (by decide)).trans f9
  refine lt_pure (i := 1) (v := .int .i64 pl) (d := 36) hv1 (by rfl) (by kernel_rfl) (by kernel_rfl) (by kernel_rfl) (fun _ _ _ h => h) (by rfl) (fun w => rn_move rfl f9 w) rfl hs1 (by decide) (fun a2 ρ2 hp2 => ?_)
  have hv2 := hp2.ev
  have hs2 := hp2.sz
  have f36 := hp2.at'
  replace f0 := (hp2.rest 0 (by decide)).trans f0
  replace f2 := (hp2.rest 2 (by decide)).trans f2
  replace f4 := (hp2.rest 4 (by decide)).trans f4
  replace f7 := (hp2.rest 7 (by decide)).trans f7
  replace f9 := (hp2.rest 9 (by decide)).trans f9
  replace f35 := (hp2.rest 35 (by decide)).trans f35
  refine lt_pure (i := 2) (v := .int .i64 8) (d := 37) hv2 (by rfl) (by kernel_rfl) (by kernel_rfl) (by kernel_rfl) (fun _ _ _ h => h) (by rfl) (fun w => rn_move rfl f7 w) rfl hs2 (by decide) (fun a3 ρ3 hp3 => ?_)
  have hv3 := hp3.ev
  have hs3 := hp3.sz
  have f37 := hp3.at'
  replace f0 := (hp3.rest 0 (by decide)).trans f0
  replace f2 := (hp3.rest 2 (by decide)).trans f2
  replace f4 := (hp3.rest 4 (by decide)).trans f4
  replace f7 := (hp3.rest 7 (by decide)).trans f7
  replace f9 := (hp3.rest 9 (by decide)).trans f9
  replace f35 := (hp3.rest 35 (by decide)).trans f35
  replace f36 := (hp3.rest 36 (by decide)).trans f36
  refine lt_pure (i := 3) (v := .pointer (some ⟨c, 0, none⟩)) (d := 38) hv3 (by rfl) (by kernel_rfl) (by kernel_rfl) (by kernel_rfl) (fun _ _ _ h => h) (by rfl) (fun w => rn_move rfl f0 w) rfl hs3 (by decide) (fun a4 ρ4 hp4 => ?_)
  have hv4 := hp4.ev
  have hs4 := hp4.sz
  have f38 := hp4.at'
  replace f0 := (hp4.rest 0 (by decide)).trans f0
  replace f2 := (hp4.rest 2 (by decide)).trans f2
  replace f4 := (hp4.rest 4 (by decide)).trans f4
  replace f7 := (hp4.rest 7 (by decide)).trans f7
  replace f9 := (hp4.rest 9 (by decide)).trans f9
  replace f35 := (hp4.rest 35 (by decide)).trans f35
  replace f36 := (hp4.rest 36 (by decide)).trans f36
  replace f37 := (hp4.rest 37 (by decide)).trans f37
  refine lt_pure (i := 4) (v := .pointer (some ⟨X, 1, none⟩)) (d := 39) hv4 (by rfl) (by kernel_rfl) (by kernel_rfl) (by kernel_rfl) (fun _ _ _ h => h) (by rfl) (fun w => rn_f50 rfl f4 w) rfl hs4 (by decide) (fun a5 ρ5 hp5 => ?_)
  have hv5 := hp5.ev
  have hs5 := hp5.sz
  have f39 := hp5.at'
  replace f0 := (hp5.rest 0 (by decide)).trans f0
  replace f2 := (hp5.rest 2 (by decide)).trans f2
  replace f4 := (hp5.rest 4 (by decide)).trans f4
  replace f7 := (hp5.rest 7 (by decide)).trans f7
  replace f9 := (hp5.rest 9 (by decide)).trans f9
  replace f35 := (hp5.rest 35 (by decide)).trans f35
  replace f36 := (hp5.rest 36 (by decide)).trans f36
  replace f37 := (hp5.rest 37 (by decide)).trans f37
  replace f38 := (hp5.rest 38 (by decide)).trans f38
  refine lt_load (i := 5) (v := .int .i64 (A : Nat)) (d := 40) hv5 (by rfl) (by kernel_rfl) (by kernel_rfl) (by kernel_rfl) (by simp) (fun _ _ _ h => h) (by rfl) (fun w hS => rn_load3 rfl f39 w hS.1) ⟨cX, cA⟩ rfl hs5 (by decide) (fun a6 ρ6 hp6 => ?_)
  have hv6 := hp6.ev
  have hs6 := hp6.sz
  have f40 := hp6.at'
  replace f0 := (hp6.rest 0 (by decide)).trans f0
  replace f2 := (hp6.rest 2 (by decide)).trans f2
  replace f4 := (hp6.rest 4 (by decide)).trans f4
  replace f7 := (hp6.rest 7 (by decide)).trans f7
  replace f9 := (hp6.rest 9 (by decide)).trans f9
  replace f35 := (hp6.rest 35 (by decide)).trans f35
  replace f36 := (hp6.rest 36 (by decide)).trans f36
  replace f37 := (hp6.rest 37 (by decide)).trans f37
  replace f38 := (hp6.rest 38 (by decide)).trans f38
  replace f39 := (hp6.rest 39 (by decide)).trans f39
  refine lt_pure (i := 6) (v := .pointer (some ⟨c, 0, none⟩)) (d := 41) hv6 (by rfl) (by kernel_rfl) (by kernel_rfl) (by kernel_rfl) (fun _ _ _ h => h) (by rfl) (fun w => rn_nil rfl f38 w) rfl hs6 (by decide) (fun a7 ρ7 hp7 => ?_)
  have hv7 := hp7.ev
  have hs7 := hp7.sz
  have f41 := hp7.at'
  replace f0 := (hp7.rest 0 (by decide)).trans f0
  replace f2 := (hp7.rest 2 (by decide)).trans f2
  replace f4 := (hp7.rest 4 (by decide)).trans f4
  replace f7 := (hp7.rest 7 (by decide)).trans f7
  replace f9 := (hp7.rest 9 (by decide)).trans f9
  replace f35 := (hp7.rest 35 (by decide)).trans f35
  replace f36 := (hp7.rest 36 (by decide)).trans f36
  replace f37 := (hp7.rest 37 (by decide)).trans f37
  replace f38 := (hp7.rest 38 (by decide)).trans f38
  replace f39 := (hp7.rest 39 (by decide)).trans f39
  replace f40 := (hp7.rest 40 (by decide)).trans f40
  refine lt_pure (i := 7) (v := .pointer (some ⟨c, 0, none⟩)) (d := 42) hv7 (by rfl) (by kernel_rfl) (by kernel_rfl) (by kernel_rfl) (fun _ _ _ h => h) (by rfl) (fun w => rn_f57 rfl f41 w) rfl hs7 (by decide) (fun a8 ρ8 hp8 => ?_)
  have hv8 := hp8.ev
  have hs8 := hp8.sz
  have f42 := hp8.at'
  replace f0 := (hp8.rest 0 (by decide)).trans f0
  replace f2 := (hp8.rest 2 (by decide)).trans f2
  replace f4 := (hp8.rest 4 (by decide)).trans f4
  replace f7 := (hp8.rest 7 (by decide)).trans f7
  replace f9 := (hp8.rest 9 (by decide)).trans f9
  replace f35 := (hp8.rest 35 (by decide)).trans f35
  replace f36 := (hp8.rest 36 (by decide)).trans f36
  replace f37 := (hp8.rest 37 (by decide)).trans f37
  replace f38 := (hp8.rest 38 (by decide)).trans f38
  replace f39 := (hp8.rest 39 (by decide)).trans f39
  replace f40 := (hp8.rest 40 (by decide)).trans f40
  replace f41 := (hp8.rest 41 (by decide)).trans f41
  refine lt_pure (i := 8) (v := .pointer (some ⟨c, A, none⟩)) (d := 43) hv8 (by rfl) (by kernel_rfl) (by kernel_rfl) (by kernel_rfl) (fun _ _ _ h => h) (by rfl) (fun w => rn_ix55 rfl f42 f40 hA w) rfl hs8 (by decide) (fun a9 ρ9 hp9 => ?_)
  have hv9 := hp9.ev
  have hs9 := hp9.sz
  have f43 := hp9.at'
  replace f0 := (hp9.rest 0 (by decide)).trans f0
  replace f2 := (hp9.rest 2 (by decide)).trans f2
  replace f4 := (hp9.rest 4 (by decide)).trans f4
  replace f7 := (hp9.rest 7 (by decide)).trans f7
  replace f9 := (hp9.rest 9 (by decide)).trans f9
  replace f35 := (hp9.rest 35 (by decide)).trans f35
  replace f36 := (hp9.rest 36 (by decide)).trans f36
  replace f37 := (hp9.rest 37 (by decide)).trans f37
  replace f38 := (hp9.rest 38 (by decide)).trans f38
  replace f39 := (hp9.rest 39 (by decide)).trans f39
  replace f40 := (hp9.rest 40 (by decide)).trans f40
  replace f41 := (hp9.rest 41 (by decide)).trans f41
  replace f42 := (hp9.rest 42 (by decide)).trans f42
  refine lt_load (i := 9) (v := .int .u64 a) (d := 44) hv9 (by rfl) (by kernel_rfl) (by kernel_rfl) (by kernel_rfl) (by simp) (fun _ _ _ h => h) (by rfl) (fun w hS => rn_load22 rfl f43 w hS.2) ⟨cX, cA⟩ rfl hs9 (by decide) (fun a10 ρ10 hp10 => ?_)
  have hv10 := hp10.ev
  have hs10 := hp10.sz
  have f44 := hp10.at'
  replace f0 := (hp10.rest 0 (by decide)).trans f0
  replace f2 := (hp10.rest 2 (by decide)).trans f2
  replace f4 := (hp10.rest 4 (by decide)).trans f4
  replace f7 := (hp10.rest 7 (by decide)).trans f7
  replace f9 := (hp10.rest 9 (by decide)).trans f9
  replace f35 := (hp10.rest 35 (by decide)).trans f35
  replace f36 := (hp10.rest 36 (by decide)).trans f36
  replace f37 := (hp10.rest 37 (by decide)).trans f37
  replace f38 := (hp10.rest 38 (by decide)).trans f38
  replace f39 := (hp10.rest 39 (by decide)).trans f39
  replace f40 := (hp10.rest 40 (by decide)).trans f40
  replace f41 := (hp10.rest 41 (by decide)).trans f41
  replace f42 := (hp10.rest 42 (by decide)).trans f42
  replace f43 := (hp10.rest 43 (by decide)).trans f43
  refine lt_pure (i := 10) (v := .int .i64 8) (d := 45) hv10 (by rfl) (by kernel_rfl) (by kernel_rfl) (by kernel_rfl) (fun _ _ _ h => h) (by rfl) (fun w => rn_move rfl f7 w) rfl hs10 (by decide) (fun a11 ρ11 hp11 => ?_)
  have hv11 := hp11.ev
  have hs11 := hp11.sz
  have f45 := hp11.at'
  replace f0 := (hp11.rest 0 (by decide)).trans f0
  replace f2 := (hp11.rest 2 (by decide)).trans f2
  replace f4 := (hp11.rest 4 (by decide)).trans f4
  replace f7 := (hp11.rest 7 (by decide)).trans f7
  replace f9 := (hp11.rest 9 (by decide)).trans f9
  replace f35 := (hp11.rest 35 (by decide)).trans f35
  replace f36 := (hp11.rest 36 (by decide)).trans f36
  replace f37 := (hp11.rest 37 (by decide)).trans f37
  replace f38 := (hp11.rest 38 (by decide)).trans f38
  replace f39 := (hp11.rest 39 (by decide)).trans f39
  replace f40 := (hp11.rest 40 (by decide)).trans f40
  replace f41 := (hp11.rest 41 (by decide)).trans f41
  replace f42 := (hp11.rest 42 (by decide)).trans f42
  replace f43 := (hp11.rest 43 (by decide)).trans f43
  replace f44 := (hp11.rest 44 (by decide)).trans f44
  refine lt_pure (i := 11) (v := .int .i64 64) (d := 46) hv11 (by rfl) (by kernel_rfl) (by kernel_rfl) (by kernel_rfl) (fun _ _ _ h => h) (by rfl) (fun w => rn_bin rfl (by rw [← hv11]; rfl) f45 (by intro w; kernel_rfl) w) rfl hs11 (by decide) (fun a12 ρ12 hp12 => ?_)
  have hv12 := hp12.ev
  have hs12 := hp12.sz
  have f46 := hp12.at'
  replace f0 := (hp12.rest 0 (by decide)).trans f0
  replace f2 := (hp12.rest 2 (by decide)).trans f2
  replace f4 := (hp12.rest 4 (by decide)).trans f4
  replace f7 := (hp12.rest 7 (by decide)).trans f7
  replace f9 := (hp12.rest 9 (by decide)).trans f9
  replace f35 := (hp12.rest 35 (by decide)).trans f35
  replace f36 := (hp12.rest 36 (by decide)).trans f36
  replace f37 := (hp12.rest 37 (by decide)).trans f37
  replace f38 := (hp12.rest 38 (by decide)).trans f38
  replace f39 := (hp12.rest 39 (by decide)).trans f39
  replace f40 := (hp12.rest 40 (by decide)).trans f40
  replace f41 := (hp12.rest 41 (by decide)).trans f41
  replace f42 := (hp12.rest 42 (by decide)).trans f42
  replace f43 := (hp12.rest 43 (by decide)).trans f43
  replace f44 := (hp12.rest 44 (by decide)).trans f44
  replace f45 := (hp12.rest 45 (by decide)).trans f45
  refine lt_pure (i := 12) (v := .int .i64 63) (d := 47) hv12 (by rfl) (by kernel_rfl) (by kernel_rfl) (by kernel_rfl) (fun _ _ _ h => h) (by rfl) (fun w => rn_bin' rfl f46 (by rw [← hv12]; rfl) (by intro w; kernel_rfl) w) rfl hs12 (by decide) (fun a13 ρ13 hp13 => ?_)
  have hv13 := hp13.ev
  have hs13 := hp13.sz
  have f47 := hp13.at'
  replace f0 := (hp13.rest 0 (by decide)).trans f0
  replace f2 := (hp13.rest 2 (by decide)).trans f2
  replace f4 := (hp13.rest 4 (by decide)).trans f4
  replace f7 := (hp13.rest 7 (by decide)).trans f7
  replace f9 := (hp13.rest 9 (by decide)).trans f9
  replace f35 := (hp13.rest 35 (by decide)).trans f35
  replace f36 := (hp13.rest 36 (by decide)).trans f36
  replace f37 := (hp13.rest 37 (by decide)).trans f37
  replace f38 := (hp13.rest 38 (by decide)).trans f38
  replace f39 := (hp13.rest 39 (by decide)).trans f39
  replace f40 := (hp13.rest 40 (by decide)).trans f40
  replace f41 := (hp13.rest 41 (by decide)).trans f41
  replace f42 := (hp13.rest 42 (by decide)).trans f42
  replace f43 := (hp13.rest 43 (by decide)).trans f43
  replace f44 := (hp13.rest 44 (by decide)).trans f44
  replace f45 := (hp13.rest 45 (by decide)).trans f45
  replace f46 := (hp13.rest 46 (by decide)).trans f46
  refine lt_pure (i := 13) (v := .int .u64 9223372036854775808) (d := 48) hv13 (by rfl) (by kernel_rfl) (by kernel_rfl) (by kernel_rfl) (fun _ _ _ h => h) (by rfl) (fun w => rn_bin rfl (by rw [← hv13]; rfl) f47 (by intro w; kernel_rfl) w) rfl hs13 (by decide) (fun a14 ρ14 hp14 => ?_)
  have hv14 := hp14.ev
  have hs14 := hp14.sz
  have f48 := hp14.at'
  replace f0 := (hp14.rest 0 (by decide)).trans f0
  replace f2 := (hp14.rest 2 (by decide)).trans f2
  replace f4 := (hp14.rest 4 (by decide)).trans f4
  replace f7 := (hp14.rest 7 (by decide)).trans f7
  replace f9 := (hp14.rest 9 (by decide)).trans f9
  replace f35 := (hp14.rest 35 (by decide)).trans f35
  replace f36 := (hp14.rest 36 (by decide)).trans f36
  replace f37 := (hp14.rest 37 (by decide)).trans f37
  replace f38 := (hp14.rest 38 (by decide)).trans f38
  replace f39 := (hp14.rest 39 (by decide)).trans f39
  replace f40 := (hp14.rest 40 (by decide)).trans f40
  replace f41 := (hp14.rest 41 (by decide)).trans f41
  replace f42 := (hp14.rest 42 (by decide)).trans f42
  replace f43 := (hp14.rest 43 (by decide)).trans f43
  replace f44 := (hp14.rest 44 (by decide)).trans f44
  replace f45 := (hp14.rest 45 (by decide)).trans f45
  replace f46 := (hp14.rest 46 (by decide)).trans f46
  replace f47 := (hp14.rest 47 (by decide)).trans f47
  refine lt_pure (i := 14) (v := .int .i64 8) (d := 49) hv14 (by rfl) (by kernel_rfl) (by kernel_rfl) (by kernel_rfl) (fun _ _ _ h => h) (by rfl) (fun w => rn_move rfl f7 w) rfl hs14 (by decide) (fun a15 ρ15 hp15 => ?_)
  have hv15 := hp15.ev
  have hs15 := hp15.sz
  have f49 := hp15.at'
  replace f0 := (hp15.rest 0 (by decide)).trans f0
  replace f2 := (hp15.rest 2 (by decide)).trans f2
  replace f4 := (hp15.rest 4 (by decide)).trans f4
  replace f7 := (hp15.rest 7 (by decide)).trans f7
  replace f9 := (hp15.rest 9 (by decide)).trans f9
  replace f35 := (hp15.rest 35 (by decide)).trans f35
  replace f36 := (hp15.rest 36 (by decide)).trans f36
  replace f37 := (hp15.rest 37 (by decide)).trans f37
  replace f38 := (hp15.rest 38 (by decide)).trans f38
  replace f39 := (hp15.rest 39 (by decide)).trans f39
  replace f40 := (hp15.rest 40 (by decide)).trans f40
  replace f41 := (hp15.rest 41 (by decide)).trans f41
  replace f42 := (hp15.rest 42 (by decide)).trans f42
  replace f43 := (hp15.rest 43 (by decide)).trans f43
  replace f44 := (hp15.rest 44 (by decide)).trans f44
  replace f45 := (hp15.rest 45 (by decide)).trans f45
  replace f46 := (hp15.rest 46 (by decide)).trans f46
  replace f47 := (hp15.rest 47 (by decide)).trans f47
  replace f48 := (hp15.rest 48 (by decide)).trans f48
  refine lt_pure (i := 15) (v := .int .i64 64) (d := 50) hv15 (by rfl) (by kernel_rfl) (by kernel_rfl) (by kernel_rfl) (fun _ _ _ h => h) (by rfl) (fun w => rn_bin rfl (by rw [← hv15]; rfl) f49 (by intro w; kernel_rfl) w) rfl hs15 (by decide) (fun a16 ρ16 hp16 => ?_)
  have hv16 := hp16.ev
  have hs16 := hp16.sz
  have f50 := hp16.at'
  replace f0 := (hp16.rest 0 (by decide)).trans f0
  replace f2 := (hp16.rest 2 (by decide)).trans f2
  replace f4 := (hp16.rest 4 (by decide)).trans f4
  replace f7 := (hp16.rest 7 (by decide)).trans f7
  replace f9 := (hp16.rest 9 (by decide)).trans f9
  replace f35 := (hp16.rest 35 (by decide)).trans f35
  replace f36 := (hp16.rest 36 (by decide)).trans f36
  replace f37 := (hp16.rest 37 (by decide)).trans f37
  replace f38 := (hp16.rest 38 (by decide)).trans f38
  replace f39 := (hp16.rest 39 (by decide)).trans f39
  replace f40 := (hp16.rest 40 (by decide)).trans f40
  replace f41 := (hp16.rest 41 (by decide)).trans f41
  replace f42 := (hp16.rest 42 (by decide)).trans f42
  replace f43 := (hp16.rest 43 (by decide)).trans f43
  replace f44 := (hp16.rest 44 (by decide)).trans f44
  replace f45 := (hp16.rest 45 (by decide)).trans f45
  replace f46 := (hp16.rest 46 (by decide)).trans f46
  replace f47 := (hp16.rest 47 (by decide)).trans f47
  replace f48 := (hp16.rest 48 (by decide)).trans f48
  replace f49 := (hp16.rest 49 (by decide)).trans f49
  refine lt_pure (i := 16) (v := .int .i64 63) (d := 51) hv16 (by rfl) (by kernel_rfl) (by kernel_rfl) (by kernel_rfl) (fun _ _ _ h => h) (by rfl) (fun w => rn_bin' rfl f50 (by rw [← hv16]; rfl) (by intro w; kernel_rfl) w) rfl hs16 (by decide) (fun a17 ρ17 hp17 => ?_)
  have hv17 := hp17.ev
  have hs17 := hp17.sz
  have f51 := hp17.at'
  replace f0 := (hp17.rest 0 (by decide)).trans f0
  replace f2 := (hp17.rest 2 (by decide)).trans f2
  replace f4 := (hp17.rest 4 (by decide)).trans f4
  replace f7 := (hp17.rest 7 (by decide)).trans f7
  replace f9 := (hp17.rest 9 (by decide)).trans f9
  replace f35 := (hp17.rest 35 (by decide)).trans f35
  replace f36 := (hp17.rest 36 (by decide)).trans f36
  replace f37 := (hp17.rest 37 (by decide)).trans f37
  replace f38 := (hp17.rest 38 (by decide)).trans f38
  replace f39 := (hp17.rest 39 (by decide)).trans f39
  replace f40 := (hp17.rest 40 (by decide)).trans f40
  replace f41 := (hp17.rest 41 (by decide)).trans f41
  replace f42 := (hp17.rest 42 (by decide)).trans f42
  replace f43 := (hp17.rest 43 (by decide)).trans f43
  replace f44 := (hp17.rest 44 (by decide)).trans f44
  replace f45 := (hp17.rest 45 (by decide)).trans f45
  replace f46 := (hp17.rest 46 (by decide)).trans f46
  replace f47 := (hp17.rest 47 (by decide)).trans f47
  replace f48 := (hp17.rest 48 (by decide)).trans f48
  replace f49 := (hp17.rest 49 (by decide)).trans f49
  replace f50 := (hp17.rest 50 (by decide)).trans f50
  refine lt_pure (i := 17) (v := .int .u64 9223372036854775808) (d := 52) hv17 (by rfl) (by kernel_rfl) (by kernel_rfl) (by kernel_rfl) (fun _ _ _ h => h) (by rfl) (fun w => rn_bin rfl (by rw [← hv17]; rfl) f51 (by intro w; kernel_rfl) w) rfl hs17 (by decide) (fun a18 ρ18 hp18 => ?_)
  have hv18 := hp18.ev
  have hs18 := hp18.sz
  have f52 := hp18.at'
  replace f0 := (hp18.rest 0 (by decide)).trans f0
  replace f2 := (hp18.rest 2 (by decide)).trans f2
  replace f4 := (hp18.rest 4 (by decide)).trans f4
  replace f7 := (hp18.rest 7 (by decide)).trans f7
  replace f9 := (hp18.rest 9 (by decide)).trans f9
  replace f35 := (hp18.rest 35 (by decide)).trans f35
  replace f36 := (hp18.rest 36 (by decide)).trans f36
  replace f37 := (hp18.rest 37 (by decide)).trans f37
  replace f38 := (hp18.rest 38 (by decide)).trans f38
  replace f39 := (hp18.rest 39 (by decide)).trans f39
  replace f40 := (hp18.rest 40 (by decide)).trans f40
  replace f41 := (hp18.rest 41 (by decide)).trans f41
  replace f42 := (hp18.rest 42 (by decide)).trans f42
  replace f43 := (hp18.rest 43 (by decide)).trans f43
  replace f44 := (hp18.rest 44 (by decide)).trans f44
  replace f45 := (hp18.rest 45 (by decide)).trans f45
  replace f46 := (hp18.rest 46 (by decide)).trans f46
  replace f47 := (hp18.rest 47 (by decide)).trans f47
  replace f48 := (hp18.rest 48 (by decide)).trans f48
  replace f49 := (hp18.rest 49 (by decide)).trans f49
  replace f50 := (hp18.rest 50 (by decide)).trans f50
  replace f51 := (hp18.rest 51 (by decide)).trans f51
  refine lt_pure (i := 18) (v := .int .u64 9223372036854775807) (d := 53) hv18 (by rfl) (by kernel_rfl) (by kernel_rfl) (by kernel_rfl) (fun _ _ _ h => h) (by rfl) (fun w => rn_bin' rfl f52 (by rw [← hv18]; rfl) (by intro w; kernel_rfl) w) rfl hs18 (by decide) (fun a19 ρ19 hp19 => ?_)
  have hv19 := hp19.ev
  have hs19 := hp19.sz
  have f53 := hp19.at'
  replace f0 := (hp19.rest 0 (by decide)).trans f0
  replace f2 := (hp19.rest 2 (by decide)).trans f2
  replace f4 := (hp19.rest 4 (by decide)).trans f4
  replace f7 := (hp19.rest 7 (by decide)).trans f7
  replace f9 := (hp19.rest 9 (by decide)).trans f9
  replace f35 := (hp19.rest 35 (by decide)).trans f35
  replace f36 := (hp19.rest 36 (by decide)).trans f36
  replace f37 := (hp19.rest 37 (by decide)).trans f37
  replace f38 := (hp19.rest 38 (by decide)).trans f38
  replace f39 := (hp19.rest 39 (by decide)).trans f39
  replace f40 := (hp19.rest 40 (by decide)).trans f40
  replace f41 := (hp19.rest 41 (by decide)).trans f41
  replace f42 := (hp19.rest 42 (by decide)).trans f42
  replace f43 := (hp19.rest 43 (by decide)).trans f43
  replace f44 := (hp19.rest 44 (by decide)).trans f44
  replace f45 := (hp19.rest 45 (by decide)).trans f45
  replace f46 := (hp19.rest 46 (by decide)).trans f46
  replace f47 := (hp19.rest 47 (by decide)).trans f47
  replace f48 := (hp19.rest 48 (by decide)).trans f48
  replace f49 := (hp19.rest 49 (by decide)).trans f49
  replace f50 := (hp19.rest 50 (by decide)).trans f50
  replace f51 := (hp19.rest 51 (by decide)).trans f51
  replace f52 := (hp19.rest 52 (by decide)).trans f52
  refine lt_pure (i := 19) (v := .int .u64 18446744073709551615) (d := 54) hv19 (by rfl) (by kernel_rfl) (by kernel_rfl) (by kernel_rfl) (fun _ _ _ h => h) (by rfl) (fun w => rn_bin2 rfl f48 f53 (by intro w; kernel_rfl) w) rfl hs19 (by decide) (fun a20 ρ20 hp20 => ?_)
  have hv20 := hp20.ev
  have hs20 := hp20.sz
  have f54 := hp20.at'
  replace f0 := (hp20.rest 0 (by decide)).trans f0
  replace f2 := (hp20.rest 2 (by decide)).trans f2
  replace f4 := (hp20.rest 4 (by decide)).trans f4
  replace f7 := (hp20.rest 7 (by decide)).trans f7
  replace f9 := (hp20.rest 9 (by decide)).trans f9
  replace f35 := (hp20.rest 35 (by decide)).trans f35
  replace f36 := (hp20.rest 36 (by decide)).trans f36
  replace f37 := (hp20.rest 37 (by decide)).trans f37
  replace f38 := (hp20.rest 38 (by decide)).trans f38
  replace f39 := (hp20.rest 39 (by decide)).trans f39
  replace f40 := (hp20.rest 40 (by decide)).trans f40
  replace f41 := (hp20.rest 41 (by decide)).trans f41
  replace f42 := (hp20.rest 42 (by decide)).trans f42
  replace f43 := (hp20.rest 43 (by decide)).trans f43
  replace f44 := (hp20.rest 44 (by decide)).trans f44
  replace f45 := (hp20.rest 45 (by decide)).trans f45
  replace f46 := (hp20.rest 46 (by decide)).trans f46
  replace f47 := (hp20.rest 47 (by decide)).trans f47
  replace f48 := (hp20.rest 48 (by decide)).trans f48
  replace f49 := (hp20.rest 49 (by decide)).trans f49
  replace f50 := (hp20.rest 50 (by decide)).trans f50
  replace f51 := (hp20.rest 51 (by decide)).trans f51
  replace f52 := (hp20.rest 52 (by decide)).trans f52
  replace f53 := (hp20.rest 53 (by decide)).trans f53
  refine lt_pure (i := 20) (v := .int .u64 x) (d := 55) hv20 (by rfl) (by kernel_rfl) (by kernel_rfl) (by kernel_rfl) (fun _ _ _ h => h) (by rfl) (fun w => rn_and22 rfl f44 f54 hx w) rfl hs20 (by decide) (fun a21 ρ21 hp21 => ?_)
  have hv21 := hp21.ev
  have hs21 := hp21.sz
  have f55 := hp21.at'
  replace f0 := (hp21.rest 0 (by decide)).trans f0
  replace f2 := (hp21.rest 2 (by decide)).trans f2
  replace f4 := (hp21.rest 4 (by decide)).trans f4
  replace f7 := (hp21.rest 7 (by decide)).trans f7
  replace f9 := (hp21.rest 9 (by decide)).trans f9
  replace f35 := (hp21.rest 35 (by decide)).trans f35
  replace f36 := (hp21.rest 36 (by decide)).trans f36
  replace f37 := (hp21.rest 37 (by decide)).trans f37
  replace f38 := (hp21.rest 38 (by decide)).trans f38
  replace f39 := (hp21.rest 39 (by decide)).trans f39
  replace f40 := (hp21.rest 40 (by decide)).trans f40
  replace f41 := (hp21.rest 41 (by decide)).trans f41
  replace f42 := (hp21.rest 42 (by decide)).trans f42
  replace f43 := (hp21.rest 43 (by decide)).trans f43
  replace f44 := (hp21.rest 44 (by decide)).trans f44
  replace f45 := (hp21.rest 45 (by decide)).trans f45
  replace f46 := (hp21.rest 46 (by decide)).trans f46
  replace f47 := (hp21.rest 47 (by decide)).trans f47
  replace f48 := (hp21.rest 48 (by decide)).trans f48
  replace f49 := (hp21.rest 49 (by decide)).trans f49
  replace f50 := (hp21.rest 50 (by decide)).trans f50
  replace f51 := (hp21.rest 51 (by decide)).trans f51
  replace f52 := (hp21.rest 52 (by decide)).trans f52
  replace f53 := (hp21.rest 53 (by decide)).trans f53
  replace f54 := (hp21.rest 54 (by decide)).trans f54
  refine lt_pure (i := 21) (v := .func (.method "Store") #[.iface 52 (.pointer (some ⟨M, 0, none⟩))] #[]) (d := 56) hv21 (by rfl) (by kernel_rfl) (by kernel_rfl) (by kernel_rfl) (fun _ _ _ h => h) (by rfl) (fun w => rn_make rfl f35 w) rfl hs21 (by decide) (fun a22 ρ22 hp22 => ?_)
  have hv22 := hp22.ev
  have hs22 := hp22.sz
  have f56 := hp22.at'
  replace f0 := (hp22.rest 0 (by decide)).trans f0
  replace f2 := (hp22.rest 2 (by decide)).trans f2
  replace f4 := (hp22.rest 4 (by decide)).trans f4
  replace f7 := (hp22.rest 7 (by decide)).trans f7
  replace f9 := (hp22.rest 9 (by decide)).trans f9
  replace f35 := (hp22.rest 35 (by decide)).trans f35
  replace f36 := (hp22.rest 36 (by decide)).trans f36
  replace f37 := (hp22.rest 37 (by decide)).trans f37
  replace f38 := (hp22.rest 38 (by decide)).trans f38
  replace f39 := (hp22.rest 39 (by decide)).trans f39
  replace f40 := (hp22.rest 40 (by decide)).trans f40
  replace f41 := (hp22.rest 41 (by decide)).trans f41
  replace f42 := (hp22.rest 42 (by decide)).trans f42
  replace f43 := (hp22.rest 43 (by decide)).trans f43
  replace f44 := (hp22.rest 44 (by decide)).trans f44
  replace f45 := (hp22.rest 45 (by decide)).trans f45
  replace f46 := (hp22.rest 46 (by decide)).trans f46
  replace f47 := (hp22.rest 47 (by decide)).trans f47
  replace f48 := (hp22.rest 48 (by decide)).trans f48
  replace f49 := (hp22.rest 49 (by decide)).trans f49
  replace f50 := (hp22.rest 50 (by decide)).trans f50
  replace f51 := (hp22.rest 51 (by decide)).trans f51
  replace f52 := (hp22.rest 52 (by decide)).trans f52
  replace f53 := (hp22.rest 53 (by decide)).trans f53
  replace f54 := (hp22.rest 54 (by decide)).trans f54
  replace f55 := (hp22.rest 55 (by decide)).trans f55
  refine lt_pure (i := 22) (v := .func (.method "Store") #[.iface 52 (.pointer (some ⟨M, 0, none⟩))] #[]) (d := 57) hv22 (by rfl) (by kernel_rfl) (by kernel_rfl) (by kernel_rfl) (fun _ _ _ h => h) (by rfl) (fun w => rn_nilm rfl f56 w) rfl hs22 (by decide) (fun a23 ρ23 hp23 => ?_)
  have hv23 := hp23.ev
  have hs23 := hp23.sz
  have f57 := hp23.at'
  replace f0 := (hp23.rest 0 (by decide)).trans f0
  replace f2 := (hp23.rest 2 (by decide)).trans f2
  replace f4 := (hp23.rest 4 (by decide)).trans f4
  replace f7 := (hp23.rest 7 (by decide)).trans f7
  replace f9 := (hp23.rest 9 (by decide)).trans f9
  replace f35 := (hp23.rest 35 (by decide)).trans f35
  replace f36 := (hp23.rest 36 (by decide)).trans f36
  replace f37 := (hp23.rest 37 (by decide)).trans f37
  replace f38 := (hp23.rest 38 (by decide)).trans f38
  replace f39 := (hp23.rest 39 (by decide)).trans f39
  replace f40 := (hp23.rest 40 (by decide)).trans f40
  replace f41 := (hp23.rest 41 (by decide)).trans f41
  replace f42 := (hp23.rest 42 (by decide)).trans f42
  replace f43 := (hp23.rest 43 (by decide)).trans f43
  replace f44 := (hp23.rest 44 (by decide)).trans f44
  replace f45 := (hp23.rest 45 (by decide)).trans f45
  replace f46 := (hp23.rest 46 (by decide)).trans f46
  replace f47 := (hp23.rest 47 (by decide)).trans f47
  replace f48 := (hp23.rest 48 (by decide)).trans f48
  replace f49 := (hp23.rest 49 (by decide)).trans f49
  replace f50 := (hp23.rest 50 (by decide)).trans f50
  replace f51 := (hp23.rest 51 (by decide)).trans f51
  replace f52 := (hp23.rest 52 (by decide)).trans f52
  replace f53 := (hp23.rest 53 (by decide)).trans f53
  replace f54 := (hp23.rest 54 (by decide)).trans f54
  replace f55 := (hp23.rest 55 (by decide)).trans f55
  replace f56 := (hp23.rest 56 (by decide)).trans f56
  refine lt_pure (i := 23) (v := .iface 52 (.pointer (some ⟨M, 0, none⟩))) (d := 58) hv23 (by rfl) (by kernel_rfl) (by kernel_rfl) (by kernel_rfl) (fun _ _ _ h => h) (by rfl) (fun w => rn_move rfl f35 w) rfl hs23 (by decide) (fun a24 ρ24 hp24 => ?_)
  have hv24 := hp24.ev
  have hs24 := hp24.sz
  have f58 := hp24.at'
  replace f0 := (hp24.rest 0 (by decide)).trans f0
  replace f2 := (hp24.rest 2 (by decide)).trans f2
  replace f4 := (hp24.rest 4 (by decide)).trans f4
  replace f7 := (hp24.rest 7 (by decide)).trans f7
  replace f9 := (hp24.rest 9 (by decide)).trans f9
  replace f35 := (hp24.rest 35 (by decide)).trans f35
  replace f36 := (hp24.rest 36 (by decide)).trans f36
  replace f37 := (hp24.rest 37 (by decide)).trans f37
  replace f38 := (hp24.rest 38 (by decide)).trans f38
  replace f39 := (hp24.rest 39 (by decide)).trans f39
  replace f40 := (hp24.rest 40 (by decide)).trans f40
  replace f41 := (hp24.rest 41 (by decide)).trans f41
  replace f42 := (hp24.rest 42 (by decide)).trans f42
  replace f43 := (hp24.rest 43 (by decide)).trans f43
  replace f44 := (hp24.rest 44 (by decide)).trans f44
  replace f45 := (hp24.rest 45 (by decide)).trans f45
  replace f46 := (hp24.rest 46 (by decide)).trans f46
  replace f47 := (hp24.rest 47 (by decide)).trans f47
  replace f48 := (hp24.rest 48 (by decide)).trans f48
  replace f49 := (hp24.rest 49 (by decide)).trans f49
  replace f50 := (hp24.rest 50 (by decide)).trans f50
  replace f51 := (hp24.rest 51 (by decide)).trans f51
  replace f52 := (hp24.rest 52 (by decide)).trans f52
  replace f53 := (hp24.rest 53 (by decide)).trans f53
  replace f54 := (hp24.rest 54 (by decide)).trans f54
  replace f55 := (hp24.rest 55 (by decide)).trans f55
  replace f56 := (hp24.rest 56 (by decide)).trans f56
  replace f57 := (hp24.rest 57 (by decide)).trans f57
  refine wpLate_one (i := 24) (by kernel_rfl) ?_
  refine lt_call (v := .bool r) (T := T) (d := 59) hv24 (by rfl) (by rfl) (rn_store rfl f58 f36 f37 f55 _) rfl hs24 (by decide) hc (fun w' h _ => .inr (hT w' h)) (fun w9 a25 ρ25 hT9 hp25 => ?_)
  have hv25 := hp25.ev
  have hs25 := hp25.sz
  have f59 := hp25.at'
  replace f0 := (hp25.rest 0 (by decide)).trans f0
  replace f2 := (hp25.rest 2 (by decide)).trans f2
  replace f4 := (hp25.rest 4 (by decide)).trans f4
  replace f7 := (hp25.rest 7 (by decide)).trans f7
  replace f9 := (hp25.rest 9 (by decide)).trans f9
  replace f35 := (hp25.rest 35 (by decide)).trans f35
  replace f36 := (hp25.rest 36 (by decide)).trans f36
  replace f37 := (hp25.rest 37 (by decide)).trans f37
  replace f38 := (hp25.rest 38 (by decide)).trans f38
  replace f39 := (hp25.rest 39 (by decide)).trans f39
  replace f40 := (hp25.rest 40 (by decide)).trans f40
  replace f41 := (hp25.rest 41 (by decide)).trans f41
  replace f42 := (hp25.rest 42 (by decide)).trans f42
  replace f43 := (hp25.rest 43 (by decide)).trans f43
  replace f44 := (hp25.rest 44 (by decide)).trans f44
  replace f45 := (hp25.rest 45 (by decide)).trans f45
  replace f46 := (hp25.rest 46 (by decide)).trans f46
  replace f47 := (hp25.rest 47 (by decide)).trans f47
  replace f48 := (hp25.rest 48 (by decide)).trans f48
  replace f49 := (hp25.rest 49 (by decide)).trans f49
  replace f50 := (hp25.rest 50 (by decide)).trans f50
  replace f51 := (hp25.rest 51 (by decide)).trans f51
  replace f52 := (hp25.rest 52 (by decide)).trans f52
  replace f53 := (hp25.rest 53 (by decide)).trans f53
  replace f54 := (hp25.rest 54 (by decide)).trans f54
  replace f55 := (hp25.rest 55 (by decide)).trans f55
  replace f56 := (hp25.rest 56 (by decide)).trans f56
  replace f57 := (hp25.rest 57 (by decide)).trans f57
  replace f58 := (hp25.rest 58 (by decide)).trans f58
  refine wpLate_one (i := 25) (by kernel_rfl) ?_
  refine lt_value (v := .bool (!r)) (w' := w9) (d := 60) hv25 (by rfl) (by rfl) (rn_not rfl f59 _) rfl hs25 (by decide) (fun _ => .inl rfl) (fun a26 ρ26 hp26 => ?_)
  have hv26 := hp26.ev
  have hs26 := hp26.sz
  have f60 := hp26.at'
  replace f0 := (hp26.rest 0 (by decide)).trans f0
  replace f2 := (hp26.rest 2 (by decide)).trans f2
  replace f4 := (hp26.rest 4 (by decide)).trans f4
  replace f7 := (hp26.rest 7 (by decide)).trans f7
  replace f9 := (hp26.rest 9 (by decide)).trans f9
  replace f35 := (hp26.rest 35 (by decide)).trans f35
  replace f36 := (hp26.rest 36 (by decide)).trans f36
  replace f37 := (hp26.rest 37 (by decide)).trans f37
  replace f38 := (hp26.rest 38 (by decide)).trans f38
  replace f39 := (hp26.rest 39 (by decide)).trans f39
  replace f40 := (hp26.rest 40 (by decide)).trans f40
  replace f41 := (hp26.rest 41 (by decide)).trans f41
  replace f42 := (hp26.rest 42 (by decide)).trans f42
  replace f43 := (hp26.rest 43 (by decide)).trans f43
  replace f44 := (hp26.rest 44 (by decide)).trans f44
  replace f45 := (hp26.rest 45 (by decide)).trans f45
  replace f46 := (hp26.rest 46 (by decide)).trans f46
  replace f47 := (hp26.rest 47 (by decide)).trans f47
  replace f48 := (hp26.rest 48 (by decide)).trans f48
  replace f49 := (hp26.rest 49 (by decide)).trans f49
  replace f50 := (hp26.rest 50 (by decide)).trans f50
  replace f51 := (hp26.rest 51 (by decide)).trans f51
  replace f52 := (hp26.rest 52 (by decide)).trans f52
  replace f53 := (hp26.rest 53 (by decide)).trans f53
  replace f54 := (hp26.rest 54 (by decide)).trans f54
  replace f55 := (hp26.rest 55 (by decide)).trans f55
  replace f56 := (hp26.rest 56 (by decide)).trans f56
  replace f57 := (hp26.rest 57 (by decide)).trans f57
  replace f58 := (hp26.rest 58 (by decide)).trans f58
  replace f59 := (hp26.rest 59 (by decide)).trans f59
  refine wpLate_done (by kernel_rfl) ?_
  refine NoPanic.normal ?_
  have hq := hQ w9 hT9
  rw [hp1.eq, hp2.eq, hp3.eq, hp4.eq, hp5.eq, hp6.eq, hp7.eq, hp8.eq, hp9.eq, hp10.eq, hp11.eq, hp12.eq, hp13.eq, hp14.eq, hp15.eq, hp16.eq, hp17.eq, hp18.eq, hp19.eq, hp20.eq, hp21.eq, hp22.eq, hp23.eq, hp24.eq, hp25.eq, hp26.eq] at hq
  exact hq
set_option maxRecDepth 100000 in
set_option maxHeartbeats 4000000 in
theorem store_reg4 (c A X M : Nat) (a x pl : Int) (r : Bool) (T : World → Prop) (wA : World) (hA : A < 16) (cX0 : wA.cell? ⟨X, 1, none⟩ = some (.int .i64 A)) (cA0 : wA.cell? ⟨c, A, none⟩ = some (.int .u64 a)) (hx : bits .and .u64 a 4294967295 = x)
    (hc : Calls Try.prog 87 #[.pointer (some ⟨M, 0, none⟩), .int .i64 pl, .int .i64 4, .int .u64 x] wA.drew fun e w' => e = .returned (.bool r) ∧ T w')
    (hT : ∀ w', T w' → w'.cell? ⟨X, 1, none⟩ = some (.int .i64 A) ∧ w'.cell? ⟨c, A, none⟩ = some (.int .u64 a))
    (a0 : Act) (hs0 : a0.tmps.size = 77) (f0 : a0.eval (.tmp 0) = .pointer (some ⟨c, 0, none⟩)) (f2 : a0.eval (.tmp 2) = .iface 52 (.pointer (some ⟨M, 0, none⟩))) (f4 : a0.eval (.tmp 4) = .pointer (some ⟨X, 0, none⟩)) (f7 : a0.eval (.tmp 7) = .int .i64 4) (f9 : a0.eval (.tmp 9) = .int .i64 pl) (Q : Exit → Act → World → Prop)
    (hQ : ∀ w', T w' → Q .normal ((((((((((((((((((((((((((a0.put (some 35) (.iface 52 (.pointer (some ⟨M, 0, none⟩)))).put (some 36) (.int .i64 pl)).put (some 37) (.int .i64 4)).put (some 38) (.pointer (some ⟨c, 0, none⟩))).put (some 39) (.pointer (some ⟨X, 1, none⟩))).put (some 40) (.int .i64 (A : Nat))).put (some 41) (.pointer (some ⟨c, 0, none⟩))).put (some 42) (.pointer (some ⟨c, 0, none⟩))).put (some 43) (.pointer (some ⟨c, A, none⟩))).put (some 44) (.int .u64 a)).put (some 45) (.int .i64 4)).put (some 46) (.int .i64 32)).put (some 47) (.int .i64 31)).put (some 48) (.int .u64 2147483648)).put (some 49) (.int .i64 4)).put (some 50) (.int .i64 32)).put (some 51) (.int .i64 31)).put (some 52) (.int .u64 2147483648)).put (some 53) (.int .u64 2147483647)).put (some 54) (.int .u64 4294967295)).put (some 55) (.int .u64 x)).put (some 56) (.func (.method "Store") #[.iface 52 (.pointer (some ⟨M, 0, none⟩))] #[])).put (some 57) (.func (.method "Store") #[.iface 52 (.pointer (some ⟨M, 0, none⟩))] #[])).put (some 58) (.iface 52 (.pointer (some ⟨M, 0, none⟩)))).put (some 59) (.bool r)).put (some 60) (.bool (!r))) w') : code6.wp Try.prog Q a0 wA := by
  conv => arg 2; whnf
  refine wp_region_noPanic ?_
  refine wp_region_late (fun w' => w'.cell? ⟨X, 1, none⟩ = some (.int .i64 A) ∧ w'.cell? ⟨c, A, none⟩ = some (.int .u64 a)) [5, 9] 26 (by rfl) (by kernel_rfl) ?_
  have cX : wA.drew.cell? ⟨X, 1, none⟩ = some (.int .i64 A) := cX0
  have cA : wA.drew.cell? ⟨c, A, none⟩ = some (.int .u64 a) := cA0
  clear cX0 cA0
  generalize wA.drew = w5 at *
  have hv0 : a0.eval = a0.eval := rfl
  refine lt_pure (i := 0) (v := .iface 52 (.pointer (some ⟨M, 0, none⟩))) (d := 35) hv0 (by rfl) (by kernel_rfl) (by kernel_rfl) (by kernel_rfl) (fun _ _ _ h => h) (by rfl) (fun w => rn_move rfl f2 w) rfl hs0 (by decide) (fun a1 ρ1 hp1 => ?_)
  have hv1 := hp1.ev
  have hs1 := hp1.sz
  have f35 := hp1.at'
  replace f0 := (hp1.rest 0 (by decide)).trans f0
  replace f2 := (hp1.rest 2 (by decide)).trans f2
  replace f4 := (hp1.rest 4 (by decide)).trans f4
  replace f7 := (hp1.rest 7 (by decide)).trans f7
  replace f9 := (hp1.rest 9 (by decide)).trans f9
  refine lt_pure (i := 1) (v := .int .i64 pl) (d := 36) hv1 (by rfl) (by kernel_rfl) (by kernel_rfl) (by kernel_rfl) (fun _ _ _ h => h) (by rfl) (fun w => rn_move rfl f9 w) rfl hs1 (by decide) (fun a2 ρ2 hp2 => ?_)
  have hv2 := hp2.ev
  have hs2 := hp2.sz
  have f36 := hp2.at'
  replace f0 := (hp2.rest 0 (by decide)).trans f0
  replace f2 := (hp2.rest 2 (by decide)).trans f2
  replace f4 := (hp2.rest 4 (by decide)).trans f4
  replace f7 := (hp2.rest 7 (by decide)).trans f7
  replace f9 := (hp2.rest 9 (by decide)).trans f9
  replace f35 := (hp2.rest 35 (by decide)).trans f35
  refine lt_pure (i := 2) (v := .int .i64 4) (d := 37) hv2 (by rfl) (by kernel_rfl) (by kernel_rfl) (by kernel_rfl) (fun _ _ _ h => h) (by rfl) (fun w => rn_move rfl f7 w) rfl hs2 (by decide) (fun a3 ρ3 hp3 => ?_)
  have hv3 := hp3.ev
  have hs3 := hp3.sz
  have f37 := hp3.at'
  replace f0 := (hp3.rest 0 (by decide)).trans f0
  replace f2 := (hp3.rest 2 (by decide)).trans f2
  replace f4 := (hp3.rest 4 (by decide)).trans f4
  replace f7 := (hp3.rest 7 (by decide)).trans f7
  replace f9 := (hp3.rest 9 (by decide)).trans f9
  replace f35 := (hp3.rest 35 (by decide)).trans f35
  replace f36 := (hp3.rest 36 (by decide)).trans f36
  refine lt_pure (i := 3) (v := .pointer (some ⟨c, 0, none⟩)) (d := 38) hv3 (by rfl) (by kernel_rfl) (by kernel_rfl) (by kernel_rfl) (fun _ _ _ h => h) (by rfl) (fun w => rn_move rfl f0 w) rfl hs3 (by decide) (fun a4 ρ4 hp4 => ?_)
  have hv4 := hp4.ev
  have hs4 := hp4.sz
  have f38 := hp4.at'
  replace f0 := (hp4.rest 0 (by decide)).trans f0
  replace f2 := (hp4.rest 2 (by decide)).trans f2
  replace f4 := (hp4.rest 4 (by decide)).trans f4
  replace f7 := (hp4.rest 7 (by decide)).trans f7
  replace f9 := (hp4.rest 9 (by decide)).trans f9
  replace f35 := (hp4.rest 35 (by decide)).trans f35
  replace f36 := (hp4.rest 36 (by decide)).trans f36
  replace f37 := (hp4.rest 37 (by decide)).trans f37
  refine lt_pure (i := 4) (v := .pointer (some ⟨X, 1, none⟩)) (d := 39) hv4 (by rfl) (by kernel_rfl) (by kernel_rfl) (by kernel_rfl) (fun _ _ _ h => h) (by rfl) (fun w => rn_f50 rfl f4 w) rfl hs4 (by decide) (fun a5 ρ5 hp5 => ?_)
  have hv5 := hp5.ev
  have hs5 := hp5.sz
  have f39 := hp5.at'
  replace f0 := (hp5.rest 0 (by decide)).trans f0
  replace f2 := (hp5.rest 2 (by decide)).trans f2
  replace f4 := (hp5.rest 4 (by decide)).trans f4
  replace f7 := (hp5.rest 7 (by decide)).trans f7
  replace f9 := (hp5.rest 9 (by decide)).trans f9
  replace f35 := (hp5.rest 35 (by decide)).trans f35
  replace f36 := (hp5.rest 36 (by decide)).trans f36
  replace f37 := (hp5.rest 37 (by decide)).trans f37
  replace f38 := (hp5.rest 38 (by decide)).trans f38
  refine lt_load (i := 5) (v := .int .i64 (A : Nat)) (d := 40) hv5 (by rfl) (by kernel_rfl) (by kernel_rfl) (by kernel_rfl) (by simp) (fun _ _ _ h => h) (by rfl) (fun w hS => rn_load3 rfl f39 w hS.1) ⟨cX, cA⟩ rfl hs5 (by decide) (fun a6 ρ6 hp6 => ?_)
  have hv6 := hp6.ev
  have hs6 := hp6.sz
  have f40 := hp6.at'
  replace f0 := (hp6.rest 0 (by decide)).trans f0
  replace f2 := (hp6.rest 2 (by decide)).trans f2
  replace f4 := (hp6.rest 4 (by decide)).trans f4
  replace f7 := (hp6.rest 7 (by decide)).trans f7
  replace f9 := (hp6.rest 9 (by decide)).trans f9
  replace f35 := (hp6.rest 35 (by decide)).trans f35
  replace f36 := (hp6.rest 36 (by decide)).trans f36
  replace f37 := (hp6.rest 37 (by decide)).trans f37
  replace f38 := (hp6.rest 38 (by decide)).trans f38
  replace f39 := (hp6.rest 39 (by decide)).trans f39
  refine lt_pure (i := 6) (v := .pointer (some ⟨c, 0, none⟩)) (d := 41) hv6 (by rfl) (by kernel_rfl) (by kernel_rfl) (by kernel_rfl) (fun _ _ _ h => h) (by rfl) (fun w => rn_nil rfl f38 w) rfl hs6 (by decide) (fun a7 ρ7 hp7 => ?_)
  have hv7 := hp7.ev
  have hs7 := hp7.sz
  have f41 := hp7.at'
  replace f0 := (hp7.rest 0 (by decide)).trans f0
  replace f2 := (hp7.rest 2 (by decide)).trans f2
  replace f4 := (hp7.rest 4 (by decide)).trans f4
  replace f7 := (hp7.rest 7 (by decide)).trans f7
  replace f9 := (hp7.rest 9 (by decide)).trans f9
  replace f35 := (hp7.rest 35 (by decide)).trans f35
  replace f36 := (hp7.rest 36 (by decide)).trans f36
  replace f37 := (hp7.rest 37 (by decide)).trans f37
  replace f38 := (hp7.rest 38 (by decide)).trans f38
  replace f39 := (hp7.rest 39 (by decide)).trans f39
  replace f40 := (hp7.rest 40 (by decide)).trans f40
  refine lt_pure (i := 7) (v := .pointer (some ⟨c, 0, none⟩)) (d := 42) hv7 (by rfl) (by kernel_rfl) (by kernel_rfl) (by kernel_rfl) (fun _ _ _ h => h) (by rfl) (fun w => rn_f57 rfl f41 w) rfl hs7 (by decide) (fun a8 ρ8 hp8 => ?_)
  have hv8 := hp8.ev
  have hs8 := hp8.sz
  have f42 := hp8.at'
  replace f0 := (hp8.rest 0 (by decide)).trans f0
  replace f2 := (hp8.rest 2 (by decide)).trans f2
  replace f4 := (hp8.rest 4 (by decide)).trans f4
  replace f7 := (hp8.rest 7 (by decide)).trans f7
  replace f9 := (hp8.rest 9 (by decide)).trans f9
  replace f35 := (hp8.rest 35 (by decide)).trans f35
  replace f36 := (hp8.rest 36 (by decide)).trans f36
  replace f37 := (hp8.rest 37 (by decide)).trans f37
  replace f38 := (hp8.rest 38 (by decide)).trans f38
  replace f39 := (hp8.rest 39 (by decide)).trans f39
  replace f40 := (hp8.rest 40 (by decide)).trans f40
  replace f41 := (hp8.rest 41 (by decide)).trans f41
  refine lt_pure (i := 8) (v := .pointer (some ⟨c, A, none⟩)) (d := 43) hv8 (by rfl) (by kernel_rfl) (by kernel_rfl) (by kernel_rfl) (fun _ _ _ h => h) (by rfl) (fun w => rn_ix55 rfl f42 f40 hA w) rfl hs8 (by decide) (fun a9 ρ9 hp9 => ?_)
  have hv9 := hp9.ev
  have hs9 := hp9.sz
  have f43 := hp9.at'
  replace f0 := (hp9.rest 0 (by decide)).trans f0
  replace f2 := (hp9.rest 2 (by decide)).trans f2
  replace f4 := (hp9.rest 4 (by decide)).trans f4
  replace f7 := (hp9.rest 7 (by decide)).trans f7
  replace f9 := (hp9.rest 9 (by decide)).trans f9
  replace f35 := (hp9.rest 35 (by decide)).trans f35
  replace f36 := (hp9.rest 36 (by decide)).trans f36
  replace f37 := (hp9.rest 37 (by decide)).trans f37
  replace f38 := (hp9.rest 38 (by decide)).trans f38
  replace f39 := (hp9.rest 39 (by decide)).trans f39
  replace f40 := (hp9.rest 40 (by decide)).trans f40
  replace f41 := (hp9.rest 41 (by decide)).trans f41
  replace f42 := (hp9.rest 42 (by decide)).trans f42
  refine lt_load (i := 9) (v := .int .u64 a) (d := 44) hv9 (by rfl) (by kernel_rfl) (by kernel_rfl) (by kernel_rfl) (by simp) (fun _ _ _ h => h) (by rfl) (fun w hS => rn_load22 rfl f43 w hS.2) ⟨cX, cA⟩ rfl hs9 (by decide) (fun a10 ρ10 hp10 => ?_)
  have hv10 := hp10.ev
  have hs10 := hp10.sz
  have f44 := hp10.at'
  replace f0 := (hp10.rest 0 (by decide)).trans f0
  replace f2 := (hp10.rest 2 (by decide)).trans f2
  replace f4 := (hp10.rest 4 (by decide)).trans f4
  replace f7 := (hp10.rest 7 (by decide)).trans f7
  replace f9 := (hp10.rest 9 (by decide)).trans f9
  replace f35 := (hp10.rest 35 (by decide)).trans f35
  replace f36 := (hp10.rest 36 (by decide)).trans f36
  replace f37 := (hp10.rest 37 (by decide)).trans f37
  replace f38 := (hp10.rest 38 (by decide)).trans f38
  replace f39 := (hp10.rest 39 (by decide)).trans f39
  replace f40 := (hp10.rest 40 (by decide)).trans f40
  replace f41 := (hp10.rest 41 (by decide)).trans f41
  replace f42 := (hp10.rest 42 (by decide)).trans f42
  replace f43 := (hp10.rest 43 (by decide)).trans f43
  refine lt_pure (i := 10) (v := .int .i64 4) (d := 45) hv10 (by rfl) (by kernel_rfl) (by kernel_rfl) (by kernel_rfl) (fun _ _ _ h => h) (by rfl) (fun w => rn_move rfl f7 w) rfl hs10 (by decide) (fun a11 ρ11 hp11 => ?_)
  have hv11 := hp11.ev
  have hs11 := hp11.sz
  have f45 := hp11.at'
  replace f0 := (hp11.rest 0 (by decide)).trans f0
  replace f2 := (hp11.rest 2 (by decide)).trans f2
  replace f4 := (hp11.rest 4 (by decide)).trans f4
  replace f7 := (hp11.rest 7 (by decide)).trans f7
  replace f9 := (hp11.rest 9 (by decide)).trans f9
  replace f35 := (hp11.rest 35 (by decide)).trans f35
  replace f36 := (hp11.rest 36 (by decide)).trans f36
  replace f37 := (hp11.rest 37 (by decide)).trans f37
  replace f38 := (hp11.rest 38 (by decide)).trans f38
  replace f39 := (hp11.rest 39 (by decide)).trans f39
  replace f40 := (hp11.rest 40 (by decide)).trans f40
  replace f41 := (hp11.rest 41 (by decide)).trans f41
  replace f42 := (hp11.rest 42 (by decide)).trans f42
  replace f43 := (hp11.rest 43 (by decide)).trans f43
  replace f44 := (hp11.rest 44 (by decide)).trans f44
  refine lt_pure (i := 11) (v := .int .i64 32) (d := 46) hv11 (by rfl) (by kernel_rfl) (by kernel_rfl) (by kernel_rfl) (fun _ _ _ h => h) (by rfl) (fun w => rn_bin rfl (by rw [← hv11]; rfl) f45 (by intro w; kernel_rfl) w) rfl hs11 (by decide) (fun a12 ρ12 hp12 => ?_)
  have hv12 := hp12.ev
  have hs12 := hp12.sz
  have f46 := hp12.at'
  replace f0 := (hp12.rest 0 (by decide)).trans f0
  replace f2 := (hp12.rest 2 (by decide)).trans f2
  replace f4 := (hp12.rest 4 (by decide)).trans f4
  replace f7 := (hp12.rest 7 (by decide)).trans f7
  replace f9 := (hp12.rest 9 (by decide)).trans f9
  replace f35 := (hp12.rest 35 (by decide)).trans f35
  replace f36 := (hp12.rest 36 (by decide)).trans f36
  replace f37 := (hp12.rest 37 (by decide)).trans f37
  replace f38 := (hp12.rest 38 (by decide)).trans f38
  replace f39 := (hp12.rest 39 (by decide)).trans f39
  replace f40 := (hp12.rest 40 (by decide)).trans f40
  replace f41 := (hp12.rest 41 (by decide)).trans f41
  replace f42 := (hp12.rest 42 (by decide)).trans f42
  replace f43 := (hp12.rest 43 (by decide)).trans f43
  replace f44 := (hp12.rest 44 (by decide)).trans f44
  replace f45 := (hp12.rest 45 (by decide)).trans f45
  refine lt_pure (i := 12) (v := .int .i64 31) (d := 47) hv12 (by rfl) (by kernel_rfl) (by kernel_rfl) (by kernel_rfl) (fun _ _ _ h => h) (by rfl) (fun w => rn_bin' rfl f46 (by rw [← hv12]; rfl) (by intro w; kernel_rfl) w) rfl hs12 (by decide) (fun a13 ρ13 hp13 => ?_)
  have hv13 := hp13.ev
  have hs13 := hp13.sz
  have f47 := hp13.at'
  replace f0 := (hp13.rest 0 (by decide)).trans f0
  replace f2 := (hp13.rest 2 (by decide)).trans f2
  replace f4 := (hp13.rest 4 (by decide)).trans f4
  replace f7 := (hp13.rest 7 (by decide)).trans f7
  replace f9 := (hp13.rest 9 (by decide)).trans f9
  replace f35 := (hp13.rest 35 (by decide)).trans f35
  replace f36 := (hp13.rest 36 (by decide)).trans f36
  replace f37 := (hp13.rest 37 (by decide)).trans f37
  replace f38 := (hp13.rest 38 (by decide)).trans f38
  replace f39 := (hp13.rest 39 (by decide)).trans f39
  replace f40 := (hp13.rest 40 (by decide)).trans f40
  replace f41 := (hp13.rest 41 (by decide)).trans f41
  replace f42 := (hp13.rest 42 (by decide)).trans f42
  replace f43 := (hp13.rest 43 (by decide)).trans f43
  replace f44 := (hp13.rest 44 (by decide)).trans f44
  replace f45 := (hp13.rest 45 (by decide)).trans f45
  replace f46 := (hp13.rest 46 (by decide)).trans f46
  refine lt_pure (i := 13) (v := .int .u64 2147483648) (d := 48) hv13 (by rfl) (by kernel_rfl) (by kernel_rfl) (by kernel_rfl) (fun _ _ _ h => h) (by rfl) (fun w => rn_bin rfl (by rw [← hv13]; rfl) f47 (by intro w; kernel_rfl) w) rfl hs13 (by decide) (fun a14 ρ14 hp14 => ?_)
  have hv14 := hp14.ev
  have hs14 := hp14.sz
  have f48 := hp14.at'
  replace f0 := (hp14.rest 0 (by decide)).trans f0
  replace f2 := (hp14.rest 2 (by decide)).trans f2
  replace f4 := (hp14.rest 4 (by decide)).trans f4
  replace f7 := (hp14.rest 7 (by decide)).trans f7
  replace f9 := (hp14.rest 9 (by decide)).trans f9
  replace f35 := (hp14.rest 35 (by decide)).trans f35
  replace f36 := (hp14.rest 36 (by decide)).trans f36
  replace f37 := (hp14.rest 37 (by decide)).trans f37
  replace f38 := (hp14.rest 38 (by decide)).trans f38
  replace f39 := (hp14.rest 39 (by decide)).trans f39
  replace f40 := (hp14.rest 40 (by decide)).trans f40
  replace f41 := (hp14.rest 41 (by decide)).trans f41
  replace f42 := (hp14.rest 42 (by decide)).trans f42
  replace f43 := (hp14.rest 43 (by decide)).trans f43
  replace f44 := (hp14.rest 44 (by decide)).trans f44
  replace f45 := (hp14.rest 45 (by decide)).trans f45
  replace f46 := (hp14.rest 46 (by decide)).trans f46
  replace f47 := (hp14.rest 47 (by decide)).trans f47
  refine lt_pure (i := 14) (v := .int .i64 4) (d := 49) hv14 (by rfl) (by kernel_rfl) (by kernel_rfl) (by kernel_rfl) (fun _ _ _ h => h) (by rfl) (fun w => rn_move rfl f7 w) rfl hs14 (by decide) (fun a15 ρ15 hp15 => ?_)
  have hv15 := hp15.ev
  have hs15 := hp15.sz
  have f49 := hp15.at'
  replace f0 := (hp15.rest 0 (by decide)).trans f0
  replace f2 := (hp15.rest 2 (by decide)).trans f2
  replace f4 := (hp15.rest 4 (by decide)).trans f4
  replace f7 := (hp15.rest 7 (by decide)).trans f7
  replace f9 := (hp15.rest 9 (by decide)).trans f9
  replace f35 := (hp15.rest 35 (by decide)).trans f35
  replace f36 := (hp15.rest 36 (by decide)).trans f36
  replace f37 := (hp15.rest 37 (by decide)).trans f37
  replace f38 := (hp15.rest 38 (by decide)).trans f38
  replace f39 := (hp15.rest 39 (by decide)).trans f39
  replace f40 := (hp15.rest 40 (by decide)).trans f40
  replace f41 := (hp15.rest 41 (by decide)).trans f41
  replace f42 := (hp15.rest 42 (by decide)).trans f42
  replace f43 := (hp15.rest 43 (by decide)).trans f43
  replace f44 := (hp15.rest 44 (by decide)).trans f44
  replace f45 := (hp15.rest 45 (by decide)).trans f45
  replace f46 := (hp15.rest 46 (by decide)).trans f46
  replace f47 := (hp15.rest 47 (by decide)).trans f47
  replace f48 := (hp15.rest 48 (by decide)).trans f48
  refine lt_pure (i := 15) (v := .int .i64 32) (d := 50) hv15 (by rfl) (by kernel_rfl) (by kernel_rfl) (by kernel_rfl) (fun _ _ _ h => h) (by rfl) (fun w => rn_bin rfl (by rw [← hv15]; rfl) f49 (by intro w; kernel_rfl) w) rfl hs15 (by decide) (fun a16 ρ16 hp16 => ?_)
  have hv16 := hp16.ev
  have hs16 := hp16.sz
  have f50 := hp16.at'
  replace f0 := (hp16.rest 0 (by decide)).trans f0
  replace f2 := (hp16.rest 2 (by decide)).trans f2
  replace f4 := (hp16.rest 4 (by decide)).trans f4
  replace f7 := (hp16.rest 7 (by decide)).trans f7
  replace f9 := (hp16.rest 9 (by decide)).trans f9
  replace f35 := (hp16.rest 35 (by decide)).trans f35
  replace f36 := (hp16.rest 36 (by decide)).trans f36
  replace f37 := (hp16.rest 37 (by decide)).trans f37
  replace f38 := (hp16.rest 38 (by decide)).trans f38
  replace f39 := (hp16.rest 39 (by decide)).trans f39
  replace f40 := (hp16.rest 40 (by decide)).trans f40
  replace f41 := (hp16.rest 41 (by decide)).trans f41
  replace f42 := (hp16.rest 42 (by decide)).trans f42
  replace f43 := (hp16.rest 43 (by decide)).trans f43
  replace f44 := (hp16.rest 44 (by decide)).trans f44
  replace f45 := (hp16.rest 45 (by decide)).trans f45
  replace f46 := (hp16.rest 46 (by decide)).trans f46
  replace f47 := (hp16.rest 47 (by decide)).trans f47
  replace f48 := (hp16.rest 48 (by decide)).trans f48
  replace f49 := (hp16.rest 49 (by decide)).trans f49
  refine lt_pure (i := 16) (v := .int .i64 31) (d := 51) hv16 (by rfl) (by kernel_rfl) (by kernel_rfl) (by kernel_rfl) (fun _ _ _ h => h) (by rfl) (fun w => rn_bin' rfl f50 (by rw [← hv16]; rfl) (by intro w; kernel_rfl) w) rfl hs16 (by decide) (fun a17 ρ17 hp17 => ?_)
  have hv17 := hp17.ev
  have hs17 := hp17.sz
  have f51 := hp17.at'
  replace f0 := (hp17.rest 0 (by decide)).trans f0
  replace f2 := (hp17.rest 2 (by decide)).trans f2
  replace f4 := (hp17.rest 4 (by decide)).trans f4
  replace f7 := (hp17.rest 7 (by decide)).trans f7
  replace f9 := (hp17.rest 9 (by decide)).trans f9
  replace f35 := (hp17.rest 35 (by decide)).trans f35
  replace f36 := (hp17.rest 36 (by decide)).trans f36
  replace f37 := (hp17.rest 37 (by decide)).trans f37
  replace f38 := (hp17.rest 38 (by decide)).trans f38
  replace f39 := (hp17.rest 39 (by decide)).trans f39
  replace f40 := (hp17.rest 40 (by decide)).trans f40
  replace f41 := (hp17.rest 41 (by decide)).trans f41
  replace f42 := (hp17.rest 42 (by decide)).trans f42
  replace f43 := (hp17.rest 43 (by decide)).trans f43
  replace f44 := (hp17.rest 44 (by decide)).trans f44
  replace f45 := (hp17.rest 45 (by decide)).trans f45
  replace f46 := (hp17.rest 46 (by decide)).trans f46
  replace f47 := (hp17.rest 47 (by decide)).trans f47
  replace f48 := (hp17.rest 48 (by decide)).trans f48
  replace f49 := (hp17.rest 49 (by decide)).trans f49
  replace f50 := (hp17.rest 50 (by decide)).trans f50
  refine lt_pure (i := 17) (v := .int .u64 2147483648) (d := 52) hv17 (by rfl) (by kernel_rfl) (by kernel_rfl) (by kernel_rfl) (fun _ _ _ h => h) (by rfl) (fun w => rn_bin rfl (by rw [← hv17]; rfl) f51 (by intro w; kernel_rfl) w) rfl hs17 (by decide) (fun a18 ρ18 hp18 => ?_)
  have hv18 := hp18.ev
  have hs18 := hp18.sz
  have f52 := hp18.at'
  replace f0 := (hp18.rest 0 (by decide)).trans f0
  replace f2 := (hp18.rest 2 (by decide)).trans f2
  replace f4 := (hp18.rest 4 (by decide)).trans f4
  replace f7 := (hp18.rest 7 (by decide)).trans f7
  replace f9 := (hp18.rest 9 (by decide)).trans f9
  replace f35 := (hp18.rest 35 (by decide)).trans f35
  replace f36 := (hp18.rest 36 (by decide)).trans f36
  replace f37 := (hp18.rest 37 (by decide)).trans f37
  replace f38 := (hp18.rest 38 (by decide)).trans f38
  replace f39 := (hp18.rest 39 (by decide)).trans f39
  replace f40 := (hp18.rest 40 (by decide)).trans f40
  replace f41 := (hp18.rest 41 (by decide)).trans f41
  replace f42 := (hp18.rest 42 (by decide)).trans f42
  replace f43 := (hp18.rest 43 (by decide)).trans f43
  replace f44 := (hp18.rest 44 (by decide)).trans f44
  replace f45 := (hp18.rest 45 (by decide)).trans f45
  replace f46 := (hp18.rest 46 (by decide)).trans f46
  replace f47 := (hp18.rest 47 (by decide)).trans f47
  replace f48 := (hp18.rest 48 (by decide)).trans f48
  replace f49 := (hp18.rest 49 (by decide)).trans f49
  replace f50 := (hp18.rest 50 (by decide)).trans f50
  replace f51 := (hp18.rest 51 (by decide)).trans f51
  refine lt_pure (i := 18) (v := .int .u64 2147483647) (d := 53) hv18 (by rfl) (by kernel_rfl) (by kernel_rfl) (by kernel_rfl) (fun _ _ _ h => h) (by rfl) (fun w => rn_bin' rfl f52 (by rw [← hv18]; rfl) (by intro w; kernel_rfl) w) rfl hs18 (by decide) (fun a19 ρ19 hp19 => ?_)
  have hv19 := hp19.ev
  have hs19 := hp19.sz
  have f53 := hp19.at'
  replace f0 := (hp19.rest 0 (by decide)).trans f0
  replace f2 := (hp19.rest 2 (by decide)).trans f2
  replace f4 := (hp19.rest 4 (by decide)).trans f4
  replace f7 := (hp19.rest 7 (by decide)).trans f7
  replace f9 := (hp19.rest 9 (by decide)).trans f9
  replace f35 := (hp19.rest 35 (by decide)).trans f35
  replace f36 := (hp19.rest 36 (by decide)).trans f36
  replace f37 := (hp19.rest 37 (by decide)).trans f37
  replace f38 := (hp19.rest 38 (by decide)).trans f38
  replace f39 := (hp19.rest 39 (by decide)).trans f39
  replace f40 := (hp19.rest 40 (by decide)).trans f40
  replace f41 := (hp19.rest 41 (by decide)).trans f41
  replace f42 := (hp19.rest 42 (by decide)).trans f42
  replace f43 := (hp19.rest 43 (by decide)).trans f43
  replace f44 := (hp19.rest 44 (by decide)).trans f44
  replace f45 := (hp19.rest 45 (by decide)).trans f45
  replace f46 := (hp19.rest 46 (by decide)).trans f46
  replace f47 := (hp19.rest 47 (by decide)).trans f47
  replace f48 := (hp19.rest 48 (by decide)).trans f48
  replace f49 := (hp19.rest 49 (by decide)).trans f49
  replace f50 := (hp19.rest 50 (by decide)).trans f50
  replace f51 := (hp19.rest 51 (by decide)).trans f51
  replace f52 := (hp19.rest 52 (by decide)).trans f52
  refine lt_pure (i := 19) (v := .int .u64 4294967295) (d := 54) hv19 (by rfl) (by kernel_rfl) (by kernel_rfl) (by kernel_rfl) (fun _ _ _ h => h) (by rfl) (fun w => rn_bin2 rfl f48 f53 (by intro w; kernel_rfl) w) rfl hs19 (by decide) (fun a20 ρ20 hp20 => ?_)
  have hv20 := hp20.ev
  have hs20 := hp20.sz
  have f54 := hp20.at'
  replace f0 := (hp20.rest 0 (by decide)).trans f0
  replace f2 := (hp20.rest 2 (by decide)).trans f2
  replace f4 := (hp20.rest 4 (by decide)).trans f4
  replace f7 := (hp20.rest 7 (by decide)).trans f7
  replace f9 := (hp20.rest 9 (by decide)).trans f9
  replace f35 := (hp20.rest 35 (by decide)).trans f35
  replace f36 := (hp20.rest 36 (by decide)).trans f36
  replace f37 := (hp20.rest 37 (by decide)).trans f37
  replace f38 := (hp20.rest 38 (by decide)).trans f38
  replace f39 := (hp20.rest 39 (by decide)).trans f39
  replace f40 := (hp20.rest 40 (by decide)).trans f40
  replace f41 := (hp20.rest 41 (by decide)).trans f41
  replace f42 := (hp20.rest 42 (by decide)).trans f42
  replace f43 := (hp20.rest 43 (by decide)).trans f43
  replace f44 := (hp20.rest 44 (by decide)).trans f44
  replace f45 := (hp20.rest 45 (by decide)).trans f45
  replace f46 := (hp20.rest 46 (by decide)).trans f46
  replace f47 := (hp20.rest 47 (by decide)).trans f47
  replace f48 := (hp20.rest 48 (by decide)).trans f48
  replace f49 := (hp20.rest 49 (by decide)).trans f49
  replace f50 := (hp20.rest 50 (by decide)).trans f50
  replace f51 := (hp20.rest 51 (by decide)).trans f51
  replace f52 := (hp20.rest 52 (by decide)).trans f52
  replace f53 := (hp20.rest 53 (by decide)).trans f53
  refine lt_pure (i := 20) (v := .int .u64 x) (d := 55) hv20 (by rfl) (by kernel_rfl) (by kernel_rfl) (by kernel_rfl) (fun _ _ _ h => h) (by rfl) (fun w => rn_and22 rfl f44 f54 hx w) rfl hs20 (by decide) (fun a21 ρ21 hp21 => ?_)
  have hv21 := hp21.ev
  have hs21 := hp21.sz
  have f55 := hp21.at'
  replace f0 := (hp21.rest 0 (by decide)).trans f0
  replace f2 := (hp21.rest 2 (by decide)).trans f2
  replace f4 := (hp21.rest 4 (by decide)).trans f4
  replace f7 := (hp21.rest 7 (by decide)).trans f7
  replace f9 := (hp21.rest 9 (by decide)).trans f9
  replace f35 := (hp21.rest 35 (by decide)).trans f35
  replace f36 := (hp21.rest 36 (by decide)).trans f36
  replace f37 := (hp21.rest 37 (by decide)).trans f37
  replace f38 := (hp21.rest 38 (by decide)).trans f38
  replace f39 := (hp21.rest 39 (by decide)).trans f39
  replace f40 := (hp21.rest 40 (by decide)).trans f40
  replace f41 := (hp21.rest 41 (by decide)).trans f41
  replace f42 := (hp21.rest 42 (by decide)).trans f42
  replace f43 := (hp21.rest 43 (by decide)).trans f43
  replace f44 := (hp21.rest 44 (by decide)).trans f44
  replace f45 := (hp21.rest 45 (by decide)).trans f45
  replace f46 := (hp21.rest 46 (by decide)).trans f46
  replace f47 := (hp21.rest 47 (by decide)).trans f47
  replace f48 := (hp21.rest 48 (by decide)).trans f48
  replace f49 := (hp21.rest 49 (by decide)).trans f49
  replace f50 := (hp21.rest 50 (by decide)).trans f50
  replace f51 := (hp21.rest 51 (by decide)).trans f51
  replace f52 := (hp21.rest 52 (by decide)).trans f52
  replace f53 := (hp21.rest 53 (by decide)).trans f53
  replace f54 := (hp21.rest 54 (by decide)).trans f54
  refine lt_pure (i := 21) (v := .func (.method "Store") #[.iface 52 (.pointer (some ⟨M, 0, none⟩))] #[]) (d := 56) hv21 (by rfl) (by kernel_rfl) (by kernel_rfl) (by kernel_rfl) (fun _ _ _ h => h) (by rfl) (fun w => rn_make rfl f35 w) rfl hs21 (by decide) (fun a22 ρ22 hp22 => ?_)
  have hv22 := hp22.ev
  have hs22 := hp22.sz
  have f56 := hp22.at'
  replace f0 := (hp22.rest 0 (by decide)).trans f0
  replace f2 := (hp22.rest 2 (by decide)).trans f2
  replace f4 := (hp22.rest 4 (by decide)).trans f4
  replace f7 := (hp22.rest 7 (by decide)).trans f7
  replace f9 := (hp22.rest 9 (by decide)).trans f9
  replace f35 := (hp22.rest 35 (by decide)).trans f35
  replace f36 := (hp22.rest 36 (by decide)).trans f36
  replace f37 := (hp22.rest 37 (by decide)).trans f37
  replace f38 := (hp22.rest 38 (by decide)).trans f38
  replace f39 := (hp22.rest 39 (by decide)).trans f39
  replace f40 := (hp22.rest 40 (by decide)).trans f40
  replace f41 := (hp22.rest 41 (by decide)).trans f41
  replace f42 := (hp22.rest 42 (by decide)).trans f42
  replace f43 := (hp22.rest 43 (by decide)).trans f43
  replace f44 := (hp22.rest 44 (by decide)).trans f44
  replace f45 := (hp22.rest 45 (by decide)).trans f45
  replace f46 := (hp22.rest 46 (by decide)).trans f46
  replace f47 := (hp22.rest 47 (by decide)).trans f47
  replace f48 := (hp22.rest 48 (by decide)).trans f48
  replace f49 := (hp22.rest 49 (by decide)).trans f49
  replace f50 := (hp22.rest 50 (by decide)).trans f50
  replace f51 := (hp22.rest 51 (by decide)).trans f51
  replace f52 := (hp22.rest 52 (by decide)).trans f52
  replace f53 := (hp22.rest 53 (by decide)).trans f53
  replace f54 := (hp22.rest 54 (by decide)).trans f54
  replace f55 := (hp22.rest 55 (by decide)).trans f55
  refine lt_pure (i := 22) (v := .func (.method "Store") #[.iface 52 (.pointer (some ⟨M, 0, none⟩))] #[]) (d := 57) hv22 (by rfl) (by kernel_rfl) (by kernel_rfl) (by kernel_rfl) (fun _ _ _ h => h) (by rfl) (fun w => rn_nilm rfl f56 w) rfl hs22 (by decide) (fun a23 ρ23 hp23 => ?_)
  have hv23 := hp23.ev
  have hs23 := hp23.sz
  have f57 := hp23.at'
  replace f0 := (hp23.rest 0 (by decide)).trans f0
  replace f2 := (hp23.rest 2 (by decide)).trans f2
  replace f4 := (hp23.rest 4 (by decide)).trans f4
  replace f7 := (hp23.rest 7 (by decide)).trans f7
  replace f9 := (hp23.rest 9 (by decide)).trans f9
  replace f35 := (hp23.rest 35 (by decide)).trans f35
  replace f36 := (hp23.rest 36 (by decide)).trans f36
  replace f37 := (hp23.rest 37 (by decide)).trans f37
  replace f38 := (hp23.rest 38 (by decide)).trans f38
  replace f39 := (hp23.rest 39 (by decide)).trans f39
  replace f40 := (hp23.rest 40 (by decide)).trans f40
  replace f41 := (hp23.rest 41 (by decide)).trans f41
  replace f42 := (hp23.rest 42 (by decide)).trans f42
  replace f43 := (hp23.rest 43 (by decide)).trans f43
  replace f44 := (hp23.rest 44 (by decide)).trans f44
  replace f45 := (hp23.rest 45 (by decide)).trans f45
  replace f46 := (hp23.rest 46 (by decide)).trans f46
  replace f47 := (hp23.rest 47 (by decide)).trans f47
  replace f48 := (hp23.rest 48 (by decide)).trans f48
  replace f49 := (hp23.rest 49 (by decide)).trans f49
  replace f50 := (hp23.rest 50 (by decide)).trans f50
  replace f51 := (hp23.rest 51 (by decide)).trans f51
  replace f52 := (hp23.rest 52 (by decide)).trans f52
  replace f53 := (hp23.rest 53 (by decide)).trans f53
  replace f54 := (hp23.rest 54 (by decide)).trans f54
  replace f55 := (hp23.rest 55 (by decide)).trans f55
  replace f56 := (hp23.rest 56 (by decide)).trans f56
  refine lt_pure (i := 23) (v := .iface 52 (.pointer (some ⟨M, 0, none⟩))) (d := 58) hv23 (by rfl) (by kernel_rfl) (by kernel_rfl) (by kernel_rfl) (fun _ _ _ h => h) (by rfl) (fun w => rn_move rfl f35 w) rfl hs23 (by decide) (fun a24 ρ24 hp24 => ?_)
  have hv24 := hp24.ev
  have hs24 := hp24.sz
  have f58 := hp24.at'
  replace f0 := (hp24.rest 0 (by decide)).trans f0
  replace f2 := (hp24.rest 2 (by decide)).trans f2
  replace f4 := (hp24.rest 4 (by decide)).trans f4
  replace f7 := (hp24.rest 7 (by decide)).trans f7
  replace f9 := (hp24.rest 9 (by decide)).trans f9
  replace f35 := (hp24.rest 35 (by decide)).trans f35
  replace f36 := (hp24.rest 36 (by decide)).trans f36
  replace f37 := (hp24.rest 37 (by decide)).trans f37
  replace f38 := (hp24.rest 38 (by decide)).trans f38
  replace f39 := (hp24.rest 39 (by decide)).trans f39
  replace f40 := (hp24.rest 40 (by decide)).trans f40
  replace f41 := (hp24.rest 41 (by decide)).trans f41
  replace f42 := (hp24.rest 42 (by decide)).trans f42
  replace f43 := (hp24.rest 43 (by decide)).trans f43
  replace f44 := (hp24.rest 44 (by decide)).trans f44
  replace f45 := (hp24.rest 45 (by decide)).trans f45
  replace f46 := (hp24.rest 46 (by decide)).trans f46
  replace f47 := (hp24.rest 47 (by decide)).trans f47
  replace f48 := (hp24.rest 48 (by decide)).trans f48
  replace f49 := (hp24.rest 49 (by decide)).trans f49
  replace f50 := (hp24.rest 50 (by decide)).trans f50
  replace f51 := (hp24.rest 51 (by decide)).trans f51
  replace f52 := (hp24.rest 52 (by decide)).trans f52
  replace f53 := (hp24.rest 53 (by decide)).trans f53
  replace f54 := (hp24.rest 54 (by decide)).trans f54
  replace f55 := (hp24.rest 55 (by decide)).trans f55
  replace f56 := (hp24.rest 56 (by decide)).trans f56
  replace f57 := (hp24.rest 57 (by decide)).trans f57
  refine wpLate_one (i := 24) (by kernel_rfl) ?_
  refine lt_call (v := .bool r) (T := T) (d := 59) hv24 (by rfl) (by rfl) (rn_store rfl f58 f36 f37 f55 _) rfl hs24 (by decide) hc (fun w' h _ => .inr (hT w' h)) (fun w9 a25 ρ25 hT9 hp25 => ?_)
  have hv25 := hp25.ev
  have hs25 := hp25.sz
  have f59 := hp25.at'
  replace f0 := (hp25.rest 0 (by decide)).trans f0
  replace f2 := (hp25.rest 2 (by decide)).trans f2
  replace f4 := (hp25.rest 4 (by decide)).trans f4
  replace f7 := (hp25.rest 7 (by decide)).trans f7
  replace f9 := (hp25.rest 9 (by decide)).trans f9
  replace f35 := (hp25.rest 35 (by decide)).trans f35
  replace f36 := (hp25.rest 36 (by decide)).trans f36
  replace f37 := (hp25.rest 37 (by decide)).trans f37
  replace f38 := (hp25.rest 38 (by decide)).trans f38
  replace f39 := (hp25.rest 39 (by decide)).trans f39
  replace f40 := (hp25.rest 40 (by decide)).trans f40
  replace f41 := (hp25.rest 41 (by decide)).trans f41
  replace f42 := (hp25.rest 42 (by decide)).trans f42
  replace f43 := (hp25.rest 43 (by decide)).trans f43
  replace f44 := (hp25.rest 44 (by decide)).trans f44
  replace f45 := (hp25.rest 45 (by decide)).trans f45
  replace f46 := (hp25.rest 46 (by decide)).trans f46
  replace f47 := (hp25.rest 47 (by decide)).trans f47
  replace f48 := (hp25.rest 48 (by decide)).trans f48
  replace f49 := (hp25.rest 49 (by decide)).trans f49
  replace f50 := (hp25.rest 50 (by decide)).trans f50
  replace f51 := (hp25.rest 51 (by decide)).trans f51
  replace f52 := (hp25.rest 52 (by decide)).trans f52
  replace f53 := (hp25.rest 53 (by decide)).trans f53
  replace f54 := (hp25.rest 54 (by decide)).trans f54
  replace f55 := (hp25.rest 55 (by decide)).trans f55
  replace f56 := (hp25.rest 56 (by decide)).trans f56
  replace f57 := (hp25.rest 57 (by decide)).trans f57
  replace f58 := (hp25.rest 58 (by decide)).trans f58
  refine wpLate_one (i := 25) (by kernel_rfl) ?_
  refine lt_value (v := .bool (!r)) (w' := w9) (d := 60) hv25 (by rfl) (by rfl) (rn_not rfl f59 _) rfl hs25 (by decide) (fun _ => .inl rfl) (fun a26 ρ26 hp26 => ?_)
  have hv26 := hp26.ev
  have hs26 := hp26.sz
  have f60 := hp26.at'
  replace f0 := (hp26.rest 0 (by decide)).trans f0
  replace f2 := (hp26.rest 2 (by decide)).trans f2
  replace f4 := (hp26.rest 4 (by decide)).trans f4
  replace f7 := (hp26.rest 7 (by decide)).trans f7
  replace f9 := (hp26.rest 9 (by decide)).trans f9
  replace f35 := (hp26.rest 35 (by decide)).trans f35
  replace f36 := (hp26.rest 36 (by decide)).trans f36
  replace f37 := (hp26.rest 37 (by decide)).trans f37
  replace f38 := (hp26.rest 38 (by decide)).trans f38
  replace f39 := (hp26.rest 39 (by decide)).trans f39
  replace f40 := (hp26.rest 40 (by decide)).trans f40
  replace f41 := (hp26.rest 41 (by decide)).trans f41
  replace f42 := (hp26.rest 42 (by decide)).trans f42
  replace f43 := (hp26.rest 43 (by decide)).trans f43
  replace f44 := (hp26.rest 44 (by decide)).trans f44
  replace f45 := (hp26.rest 45 (by decide)).trans f45
  replace f46 := (hp26.rest 46 (by decide)).trans f46
  replace f47 := (hp26.rest 47 (by decide)).trans f47
  replace f48 := (hp26.rest 48 (by decide)).trans f48
  replace f49 := (hp26.rest 49 (by decide)).trans f49
  replace f50 := (hp26.rest 50 (by decide)).trans f50
  replace f51 := (hp26.rest 51 (by decide)).trans f51
  replace f52 := (hp26.rest 52 (by decide)).trans f52
  replace f53 := (hp26.rest 53 (by decide)).trans f53
  replace f54 := (hp26.rest 54 (by decide)).trans f54
  replace f55 := (hp26.rest 55 (by decide)).trans f55
  replace f56 := (hp26.rest 56 (by decide)).trans f56
  replace f57 := (hp26.rest 57 (by decide)).trans f57
  replace f58 := (hp26.rest 58 (by decide)).trans f58
  replace f59 := (hp26.rest 59 (by decide)).trans f59
  refine wpLate_done (by kernel_rfl) ?_
  refine NoPanic.normal ?_
  have hq := hQ w9 hT9
  rw [hp1.eq, hp2.eq, hp3.eq, hp4.eq, hp5.eq, hp6.eq, hp7.eq, hp8.eq, hp9.eq, hp10.eq, hp11.eq, hp12.eq, hp13.eq, hp14.eq, hp15.eq, hp16.eq, hp17.eq, hp18.eq, hp19.eq, hp20.eq, hp21.eq, hp22.eq, hp23.eq, hp24.eq, hp25.eq, hp26.eq] at hq
  exact hq
set_option maxRecDepth 100000 in
set_option maxHeartbeats 4000000 in
theorem store_reg1 (c A X M : Nat) (a x pl : Int) (r : Bool) (T : World → Prop) (wA : World) (hA : A < 16) (cX0 : wA.cell? ⟨X, 1, none⟩ = some (.int .i64 A)) (cA0 : wA.cell? ⟨c, A, none⟩ = some (.int .u64 a)) (hx : bits .and .u64 a 255 = x)
    (hc : Calls Try.prog 87 #[.pointer (some ⟨M, 0, none⟩), .int .i64 pl, .int .i64 1, .int .u64 x] wA.drew fun e w' => e = .returned (.bool r) ∧ T w')
    (hT : ∀ w', T w' → w'.cell? ⟨X, 1, none⟩ = some (.int .i64 A) ∧ w'.cell? ⟨c, A, none⟩ = some (.int .u64 a))
    (a0 : Act) (hs0 : a0.tmps.size = 77) (f0 : a0.eval (.tmp 0) = .pointer (some ⟨c, 0, none⟩)) (f2 : a0.eval (.tmp 2) = .iface 52 (.pointer (some ⟨M, 0, none⟩))) (f4 : a0.eval (.tmp 4) = .pointer (some ⟨X, 0, none⟩)) (f7 : a0.eval (.tmp 7) = .int .i64 1) (f9 : a0.eval (.tmp 9) = .int .i64 pl) (Q : Exit → Act → World → Prop)
    (hQ : ∀ w', T w' → Q .normal ((((((((((((((((((((((((((a0.put (some 35) (.iface 52 (.pointer (some ⟨M, 0, none⟩)))).put (some 36) (.int .i64 pl)).put (some 37) (.int .i64 1)).put (some 38) (.pointer (some ⟨c, 0, none⟩))).put (some 39) (.pointer (some ⟨X, 1, none⟩))).put (some 40) (.int .i64 (A : Nat))).put (some 41) (.pointer (some ⟨c, 0, none⟩))).put (some 42) (.pointer (some ⟨c, 0, none⟩))).put (some 43) (.pointer (some ⟨c, A, none⟩))).put (some 44) (.int .u64 a)).put (some 45) (.int .i64 1)).put (some 46) (.int .i64 8)).put (some 47) (.int .i64 7)).put (some 48) (.int .u64 128)).put (some 49) (.int .i64 1)).put (some 50) (.int .i64 8)).put (some 51) (.int .i64 7)).put (some 52) (.int .u64 128)).put (some 53) (.int .u64 127)).put (some 54) (.int .u64 255)).put (some 55) (.int .u64 x)).put (some 56) (.func (.method "Store") #[.iface 52 (.pointer (some ⟨M, 0, none⟩))] #[])).put (some 57) (.func (.method "Store") #[.iface 52 (.pointer (some ⟨M, 0, none⟩))] #[])).put (some 58) (.iface 52 (.pointer (some ⟨M, 0, none⟩)))).put (some 59) (.bool r)).put (some 60) (.bool (!r))) w') : code6.wp Try.prog Q a0 wA := by
  conv => arg 2; whnf
  refine wp_region_noPanic ?_
  refine wp_region_late (fun w' => w'.cell? ⟨X, 1, none⟩ = some (.int .i64 A) ∧ w'.cell? ⟨c, A, none⟩ = some (.int .u64 a)) [5, 9] 26 (by rfl) (by kernel_rfl) ?_
  have cX : wA.drew.cell? ⟨X, 1, none⟩ = some (.int .i64 A) := cX0
  have cA : wA.drew.cell? ⟨c, A, none⟩ = some (.int .u64 a) := cA0
  clear cX0 cA0
  generalize wA.drew = w5 at *
  have hv0 : a0.eval = a0.eval := rfl
  refine lt_pure (i := 0) (v := .iface 52 (.pointer (some ⟨M, 0, none⟩))) (d := 35) hv0 (by rfl) (by kernel_rfl) (by kernel_rfl) (by kernel_rfl) (fun _ _ _ h => h) (by rfl) (fun w => rn_move rfl f2 w) rfl hs0 (by decide) (fun a1 ρ1 hp1 => ?_)
  have hv1 := hp1.ev
  have hs1 := hp1.sz
  have f35 := hp1.at'
  replace f0 := (hp1.rest 0 (by decide)).trans f0
  replace f2 := (hp1.rest 2 (by decide)).trans f2
  replace f4 := (hp1.rest 4 (by decide)).trans f4
  replace f7 := (hp1.rest 7 (by decide)).trans f7
  replace f9 := (hp1.rest 9 (by decide)).trans f9
  refine lt_pure (i := 1) (v := .int .i64 pl) (d := 36) hv1 (by rfl) (by kernel_rfl) (by kernel_rfl) (by kernel_rfl) (fun _ _ _ h => h) (by rfl) (fun w => rn_move rfl f9 w) rfl hs1 (by decide) (fun a2 ρ2 hp2 => ?_)
  have hv2 := hp2.ev
  have hs2 := hp2.sz
  have f36 := hp2.at'
  replace f0 := (hp2.rest 0 (by decide)).trans f0
  replace f2 := (hp2.rest 2 (by decide)).trans f2
  replace f4 := (hp2.rest 4 (by decide)).trans f4
  replace f7 := (hp2.rest 7 (by decide)).trans f7
  replace f9 := (hp2.rest 9 (by decide)).trans f9
  replace f35 := (hp2.rest 35 (by decide)).trans f35
  refine lt_pure (i := 2) (v := .int .i64 1) (d := 37) hv2 (by rfl) (by kernel_rfl) (by kernel_rfl) (by kernel_rfl) (fun _ _ _ h => h) (by rfl) (fun w => rn_move rfl f7 w) rfl hs2 (by decide) (fun a3 ρ3 hp3 => ?_)
  have hv3 := hp3.ev
  have hs3 := hp3.sz
  have f37 := hp3.at'
  replace f0 := (hp3.rest 0 (by decide)).trans f0
  replace f2 := (hp3.rest 2 (by decide)).trans f2
  replace f4 := (hp3.rest 4 (by decide)).trans f4
  replace f7 := (hp3.rest 7 (by decide)).trans f7
  replace f9 := (hp3.rest 9 (by decide)).trans f9
  replace f35 := (hp3.rest 35 (by decide)).trans f35
  replace f36 := (hp3.rest 36 (by decide)).trans f36
  refine lt_pure (i := 3) (v := .pointer (some ⟨c, 0, none⟩)) (d := 38) hv3 (by rfl) (by kernel_rfl) (by kernel_rfl) (by kernel_rfl) (fun _ _ _ h => h) (by rfl) (fun w => rn_move rfl f0 w) rfl hs3 (by decide) (fun a4 ρ4 hp4 => ?_)
  have hv4 := hp4.ev
  have hs4 := hp4.sz
  have f38 := hp4.at'
  replace f0 := (hp4.rest 0 (by decide)).trans f0
  replace f2 := (hp4.rest 2 (by decide)).trans f2
  replace f4 := (hp4.rest 4 (by decide)).trans f4
  replace f7 := (hp4.rest 7 (by decide)).trans f7
  replace f9 := (hp4.rest 9 (by decide)).trans f9
  replace f35 := (hp4.rest 35 (by decide)).trans f35
  replace f36 := (hp4.rest 36 (by decide)).trans f36
  replace f37 := (hp4.rest 37 (by decide)).trans f37
  refine lt_pure (i := 4) (v := .pointer (some ⟨X, 1, none⟩)) (d := 39) hv4 (by rfl) (by kernel_rfl) (by kernel_rfl) (by kernel_rfl) (fun _ _ _ h => h) (by rfl) (fun w => rn_f50 rfl f4 w) rfl hs4 (by decide) (fun a5 ρ5 hp5 => ?_)
  have hv5 := hp5.ev
  have hs5 := hp5.sz
  have f39 := hp5.at'
  replace f0 := (hp5.rest 0 (by decide)).trans f0
  replace f2 := (hp5.rest 2 (by decide)).trans f2
  replace f4 := (hp5.rest 4 (by decide)).trans f4
  replace f7 := (hp5.rest 7 (by decide)).trans f7
  replace f9 := (hp5.rest 9 (by decide)).trans f9
  replace f35 := (hp5.rest 35 (by decide)).trans f35
  replace f36 := (hp5.rest 36 (by decide)).trans f36
  replace f37 := (hp5.rest 37 (by decide)).trans f37
  replace f38 := (hp5.rest 38 (by decide)).trans f38
  refine lt_load (i := 5) (v := .int .i64 (A : Nat)) (d := 40) hv5 (by rfl) (by kernel_rfl) (by kernel_rfl) (by kernel_rfl) (by simp) (fun _ _ _ h => h) (by rfl) (fun w hS => rn_load3 rfl f39 w hS.1) ⟨cX, cA⟩ rfl hs5 (by decide) (fun a6 ρ6 hp6 => ?_)
  have hv6 := hp6.ev
  have hs6 := hp6.sz
  have f40 := hp6.at'
  replace f0 := (hp6.rest 0 (by decide)).trans f0
  replace f2 := (hp6.rest 2 (by decide)).trans f2
  replace f4 := (hp6.rest 4 (by decide)).trans f4
  replace f7 := (hp6.rest 7 (by decide)).trans f7
  replace f9 := (hp6.rest 9 (by decide)).trans f9
  replace f35 := (hp6.rest 35 (by decide)).trans f35
  replace f36 := (hp6.rest 36 (by decide)).trans f36
  replace f37 := (hp6.rest 37 (by decide)).trans f37
  replace f38 := (hp6.rest 38 (by decide)).trans f38
  replace f39 := (hp6.rest 39 (by decide)).trans f39
  refine lt_pure (i := 6) (v := .pointer (some ⟨c, 0, none⟩)) (d := 41) hv6 (by rfl) (by kernel_rfl) (by kernel_rfl) (by kernel_rfl) (fun _ _ _ h => h) (by rfl) (fun w => rn_nil rfl f38 w) rfl hs6 (by decide) (fun a7 ρ7 hp7 => ?_)
  have hv7 := hp7.ev
  have hs7 := hp7.sz
  have f41 := hp7.at'
  replace f0 := (hp7.rest 0 (by decide)).trans f0
  replace f2 := (hp7.rest 2 (by decide)).trans f2
  replace f4 := (hp7.rest 4 (by decide)).trans f4
  replace f7 := (hp7.rest 7 (by decide)).trans f7
  replace f9 := (hp7.rest 9 (by decide)).trans f9
  replace f35 := (hp7.rest 35 (by decide)).trans f35
  replace f36 := (hp7.rest 36 (by decide)).trans f36
  replace f37 := (hp7.rest 37 (by decide)).trans f37
  replace f38 := (hp7.rest 38 (by decide)).trans f38
  replace f39 := (hp7.rest 39 (by decide)).trans f39
  replace f40 := (hp7.rest 40 (by decide)).trans f40
  refine lt_pure (i := 7) (v := .pointer (some ⟨c, 0, none⟩)) (d := 42) hv7 (by rfl) (by kernel_rfl) (by kernel_rfl) (by kernel_rfl) (fun _ _ _ h => h) (by rfl) (fun w => rn_f57 rfl f41 w) rfl hs7 (by decide) (fun a8 ρ8 hp8 => ?_)
  have hv8 := hp8.ev
  have hs8 := hp8.sz
  have f42 := hp8.at'
  replace f0 := (hp8.rest 0 (by decide)).trans f0
  replace f2 := (hp8.rest 2 (by decide)).trans f2
  replace f4 := (hp8.rest 4 (by decide)).trans f4
  replace f7 := (hp8.rest 7 (by decide)).trans f7
  replace f9 := (hp8.rest 9 (by decide)).trans f9
  replace f35 := (hp8.rest 35 (by decide)).trans f35
  replace f36 := (hp8.rest 36 (by decide)).trans f36
  replace f37 := (hp8.rest 37 (by decide)).trans f37
  replace f38 := (hp8.rest 38 (by decide)).trans f38
  replace f39 := (hp8.rest 39 (by decide)).trans f39
  replace f40 := (hp8.rest 40 (by decide)).trans f40
  replace f41 := (hp8.rest 41 (by decide)).trans f41
  refine lt_pure (i := 8) (v := .pointer (some ⟨c, A, none⟩)) (d := 43) hv8 (by rfl) (by kernel_rfl) (by kernel_rfl) (by kernel_rfl) (fun _ _ _ h => h) (by rfl) (fun w => rn_ix55 rfl f42 f40 hA w) rfl hs8 (by decide) (fun a9 ρ9 hp9 => ?_)
  have hv9 := hp9.ev
  have hs9 := hp9.sz
  have f43 := hp9.at'
  replace f0 := (hp9.rest 0 (by decide)).trans f0
  replace f2 := (hp9.rest 2 (by decide)).trans f2
  replace f4 := (hp9.rest 4 (by decide)).trans f4
  replace f7 := (hp9.rest 7 (by decide)).trans f7
  replace f9 := (hp9.rest 9 (by decide)).trans f9
  replace f35 := (hp9.rest 35 (by decide)).trans f35
  replace f36 := (hp9.rest 36 (by decide)).trans f36
  replace f37 := (hp9.rest 37 (by decide)).trans f37
  replace f38 := (hp9.rest 38 (by decide)).trans f38
  replace f39 := (hp9.rest 39 (by decide)).trans f39
  replace f40 := (hp9.rest 40 (by decide)).trans f40
  replace f41 := (hp9.rest 41 (by decide)).trans f41
  replace f42 := (hp9.rest 42 (by decide)).trans f42
  refine lt_load (i := 9) (v := .int .u64 a) (d := 44) hv9 (by rfl) (by kernel_rfl) (by kernel_rfl) (by kernel_rfl) (by simp) (fun _ _ _ h => h) (by rfl) (fun w hS => rn_load22 rfl f43 w hS.2) ⟨cX, cA⟩ rfl hs9 (by decide) (fun a10 ρ10 hp10 => ?_)
  have hv10 := hp10.ev
  have hs10 := hp10.sz
  have f44 := hp10.at'
  replace f0 := (hp10.rest 0 (by decide)).trans f0
  replace f2 := (hp10.rest 2 (by decide)).trans f2
  replace f4 := (hp10.rest 4 (by decide)).trans f4
  replace f7 := (hp10.rest 7 (by decide)).trans f7
  replace f9 := (hp10.rest 9 (by decide)).trans f9
  replace f35 := (hp10.rest 35 (by decide)).trans f35
  replace f36 := (hp10.rest 36 (by decide)).trans f36
  replace f37 := (hp10.rest 37 (by decide)).trans f37
  replace f38 := (hp10.rest 38 (by decide)).trans f38
  replace f39 := (hp10.rest 39 (by decide)).trans f39
  replace f40 := (hp10.rest 40 (by decide)).trans f40
  replace f41 := (hp10.rest 41 (by decide)).trans f41
  replace f42 := (hp10.rest 42 (by decide)).trans f42
  replace f43 := (hp10.rest 43 (by decide)).trans f43
  refine lt_pure (i := 10) (v := .int .i64 1) (d := 45) hv10 (by rfl) (by kernel_rfl) (by kernel_rfl) (by kernel_rfl) (fun _ _ _ h => h) (by rfl) (fun w => rn_move rfl f7 w) rfl hs10 (by decide) (fun a11 ρ11 hp11 => ?_)
  have hv11 := hp11.ev
  have hs11 := hp11.sz
  have f45 := hp11.at'
  replace f0 := (hp11.rest 0 (by decide)).trans f0
  replace f2 := (hp11.rest 2 (by decide)).trans f2
  replace f4 := (hp11.rest 4 (by decide)).trans f4
  replace f7 := (hp11.rest 7 (by decide)).trans f7
  replace f9 := (hp11.rest 9 (by decide)).trans f9
  replace f35 := (hp11.rest 35 (by decide)).trans f35
  replace f36 := (hp11.rest 36 (by decide)).trans f36
  replace f37 := (hp11.rest 37 (by decide)).trans f37
  replace f38 := (hp11.rest 38 (by decide)).trans f38
  replace f39 := (hp11.rest 39 (by decide)).trans f39
  replace f40 := (hp11.rest 40 (by decide)).trans f40
  replace f41 := (hp11.rest 41 (by decide)).trans f41
  replace f42 := (hp11.rest 42 (by decide)).trans f42
  replace f43 := (hp11.rest 43 (by decide)).trans f43
  replace f44 := (hp11.rest 44 (by decide)).trans f44
  refine lt_pure (i := 11) (v := .int .i64 8) (d := 46) hv11 (by rfl) (by kernel_rfl) (by kernel_rfl) (by kernel_rfl) (fun _ _ _ h => h) (by rfl) (fun w => rn_bin rfl (by rw [← hv11]; rfl) f45 (by intro w; kernel_rfl) w) rfl hs11 (by decide) (fun a12 ρ12 hp12 => ?_)
  have hv12 := hp12.ev
  have hs12 := hp12.sz
  have f46 := hp12.at'
  replace f0 := (hp12.rest 0 (by decide)).trans f0
  replace f2 := (hp12.rest 2 (by decide)).trans f2
  replace f4 := (hp12.rest 4 (by decide)).trans f4
  replace f7 := (hp12.rest 7 (by decide)).trans f7
  replace f9 := (hp12.rest 9 (by decide)).trans f9
  replace f35 := (hp12.rest 35 (by decide)).trans f35
  replace f36 := (hp12.rest 36 (by decide)).trans f36
  replace f37 := (hp12.rest 37 (by decide)).trans f37
  replace f38 := (hp12.rest 38 (by decide)).trans f38
  replace f39 := (hp12.rest 39 (by decide)).trans f39
  replace f40 := (hp12.rest 40 (by decide)).trans f40
  replace f41 := (hp12.rest 41 (by decide)).trans f41
  replace f42 := (hp12.rest 42 (by decide)).trans f42
  replace f43 := (hp12.rest 43 (by decide)).trans f43
  replace f44 := (hp12.rest 44 (by decide)).trans f44
  replace f45 := (hp12.rest 45 (by decide)).trans f45
  refine lt_pure (i := 12) (v := .int .i64 7) (d := 47) hv12 (by rfl) (by kernel_rfl) (by kernel_rfl) (by kernel_rfl) (fun _ _ _ h => h) (by rfl) (fun w => rn_bin' rfl f46 (by rw [← hv12]; rfl) (by intro w; kernel_rfl) w) rfl hs12 (by decide) (fun a13 ρ13 hp13 => ?_)
  have hv13 := hp13.ev
  have hs13 := hp13.sz
  have f47 := hp13.at'
  replace f0 := (hp13.rest 0 (by decide)).trans f0
  replace f2 := (hp13.rest 2 (by decide)).trans f2
  replace f4 := (hp13.rest 4 (by decide)).trans f4
  replace f7 := (hp13.rest 7 (by decide)).trans f7
  replace f9 := (hp13.rest 9 (by decide)).trans f9
  replace f35 := (hp13.rest 35 (by decide)).trans f35
  replace f36 := (hp13.rest 36 (by decide)).trans f36
  replace f37 := (hp13.rest 37 (by decide)).trans f37
  replace f38 := (hp13.rest 38 (by decide)).trans f38
  replace f39 := (hp13.rest 39 (by decide)).trans f39
  replace f40 := (hp13.rest 40 (by decide)).trans f40
  replace f41 := (hp13.rest 41 (by decide)).trans f41
  replace f42 := (hp13.rest 42 (by decide)).trans f42
  replace f43 := (hp13.rest 43 (by decide)).trans f43
  replace f44 := (hp13.rest 44 (by decide)).trans f44
  replace f45 := (hp13.rest 45 (by decide)).trans f45
  replace f46 := (hp13.rest 46 (by decide)).trans f46
  refine lt_pure (i := 13) (v := .int .u64 128) (d := 48) hv13 (by rfl) (by kernel_rfl) (by kernel_rfl) (by kernel_rfl) (fun _ _ _ h => h) (by rfl) (fun w => rn_bin rfl (by rw [← hv13]; rfl) f47 (by intro w; kernel_rfl) w) rfl hs13 (by decide) (fun a14 ρ14 hp14 => ?_)
  have hv14 := hp14.ev
  have hs14 := hp14.sz
  have f48 := hp14.at'
  replace f0 := (hp14.rest 0 (by decide)).trans f0
  replace f2 := (hp14.rest 2 (by decide)).trans f2
  replace f4 := (hp14.rest 4 (by decide)).trans f4
  replace f7 := (hp14.rest 7 (by decide)).trans f7
  replace f9 := (hp14.rest 9 (by decide)).trans f9
  replace f35 := (hp14.rest 35 (by decide)).trans f35
  replace f36 := (hp14.rest 36 (by decide)).trans f36
  replace f37 := (hp14.rest 37 (by decide)).trans f37
  replace f38 := (hp14.rest 38 (by decide)).trans f38
  replace f39 := (hp14.rest 39 (by decide)).trans f39
  replace f40 := (hp14.rest 40 (by decide)).trans f40
  replace f41 := (hp14.rest 41 (by decide)).trans f41
  replace f42 := (hp14.rest 42 (by decide)).trans f42
  replace f43 := (hp14.rest 43 (by decide)).trans f43
  replace f44 := (hp14.rest 44 (by decide)).trans f44
  replace f45 := (hp14.rest 45 (by decide)).trans f45
  replace f46 := (hp14.rest 46 (by decide)).trans f46
  replace f47 := (hp14.rest 47 (by decide)).trans f47
  refine lt_pure (i := 14) (v := .int .i64 1) (d := 49) hv14 (by rfl) (by kernel_rfl) (by kernel_rfl) (by kernel_rfl) (fun _ _ _ h => h) (by rfl) (fun w => rn_move rfl f7 w) rfl hs14 (by decide) (fun a15 ρ15 hp15 => ?_)
  have hv15 := hp15.ev
  have hs15 := hp15.sz
  have f49 := hp15.at'
  replace f0 := (hp15.rest 0 (by decide)).trans f0
  replace f2 := (hp15.rest 2 (by decide)).trans f2
  replace f4 := (hp15.rest 4 (by decide)).trans f4
  replace f7 := (hp15.rest 7 (by decide)).trans f7
  replace f9 := (hp15.rest 9 (by decide)).trans f9
  replace f35 := (hp15.rest 35 (by decide)).trans f35
  replace f36 := (hp15.rest 36 (by decide)).trans f36
  replace f37 := (hp15.rest 37 (by decide)).trans f37
  replace f38 := (hp15.rest 38 (by decide)).trans f38
  replace f39 := (hp15.rest 39 (by decide)).trans f39
  replace f40 := (hp15.rest 40 (by decide)).trans f40
  replace f41 := (hp15.rest 41 (by decide)).trans f41
  replace f42 := (hp15.rest 42 (by decide)).trans f42
  replace f43 := (hp15.rest 43 (by decide)).trans f43
  replace f44 := (hp15.rest 44 (by decide)).trans f44
  replace f45 := (hp15.rest 45 (by decide)).trans f45
  replace f46 := (hp15.rest 46 (by decide)).trans f46
  replace f47 := (hp15.rest 47 (by decide)).trans f47
  replace f48 := (hp15.rest 48 (by decide)).trans f48
  refine lt_pure (i := 15) (v := .int .i64 8) (d := 50) hv15 (by rfl) (by kernel_rfl) (by kernel_rfl) (by kernel_rfl) (fun _ _ _ h => h) (by rfl) (fun w => rn_bin rfl (by rw [← hv15]; rfl) f49 (by intro w; kernel_rfl) w) rfl hs15 (by decide) (fun a16 ρ16 hp16 => ?_)
  have hv16 := hp16.ev
  have hs16 := hp16.sz
  have f50 := hp16.at'
  replace f0 := (hp16.rest 0 (by decide)).trans f0
  replace f2 := (hp16.rest 2 (by decide)).trans f2
  replace f4 := (hp16.rest 4 (by decide)).trans f4
  replace f7 := (hp16.rest 7 (by decide)).trans f7
  replace f9 := (hp16.rest 9 (by decide)).trans f9
  replace f35 := (hp16.rest 35 (by decide)).trans f35
  replace f36 := (hp16.rest 36 (by decide)).trans f36
  replace f37 := (hp16.rest 37 (by decide)).trans f37
  replace f38 := (hp16.rest 38 (by decide)).trans f38
  replace f39 := (hp16.rest 39 (by decide)).trans f39
  replace f40 := (hp16.rest 40 (by decide)).trans f40
  replace f41 := (hp16.rest 41 (by decide)).trans f41
  replace f42 := (hp16.rest 42 (by decide)).trans f42
  replace f43 := (hp16.rest 43 (by decide)).trans f43
  replace f44 := (hp16.rest 44 (by decide)).trans f44
  replace f45 := (hp16.rest 45 (by decide)).trans f45
  replace f46 := (hp16.rest 46 (by decide)).trans f46
  replace f47 := (hp16.rest 47 (by decide)).trans f47
  replace f48 := (hp16.rest 48 (by decide)).trans f48
  replace f49 := (hp16.rest 49 (by decide)).trans f49
  refine lt_pure (i := 16) (v := .int .i64 7) (d := 51) hv16 (by rfl) (by kernel_rfl) (by kernel_rfl) (by kernel_rfl) (fun _ _ _ h => h) (by rfl) (fun w => rn_bin' rfl f50 (by rw [← hv16]; rfl) (by intro w; kernel_rfl) w) rfl hs16 (by decide) (fun a17 ρ17 hp17 => ?_)
  have hv17 := hp17.ev
  have hs17 := hp17.sz
  have f51 := hp17.at'
  replace f0 := (hp17.rest 0 (by decide)).trans f0
  replace f2 := (hp17.rest 2 (by decide)).trans f2
  replace f4 := (hp17.rest 4 (by decide)).trans f4
  replace f7 := (hp17.rest 7 (by decide)).trans f7
  replace f9 := (hp17.rest 9 (by decide)).trans f9
  replace f35 := (hp17.rest 35 (by decide)).trans f35
  replace f36 := (hp17.rest 36 (by decide)).trans f36
  replace f37 := (hp17.rest 37 (by decide)).trans f37
  replace f38 := (hp17.rest 38 (by decide)).trans f38
  replace f39 := (hp17.rest 39 (by decide)).trans f39
  replace f40 := (hp17.rest 40 (by decide)).trans f40
  replace f41 := (hp17.rest 41 (by decide)).trans f41
  replace f42 := (hp17.rest 42 (by decide)).trans f42
  replace f43 := (hp17.rest 43 (by decide)).trans f43
  replace f44 := (hp17.rest 44 (by decide)).trans f44
  replace f45 := (hp17.rest 45 (by decide)).trans f45
  replace f46 := (hp17.rest 46 (by decide)).trans f46
  replace f47 := (hp17.rest 47 (by decide)).trans f47
  replace f48 := (hp17.rest 48 (by decide)).trans f48
  replace f49 := (hp17.rest 49 (by decide)).trans f49
  replace f50 := (hp17.rest 50 (by decide)).trans f50
  refine lt_pure (i := 17) (v := .int .u64 128) (d := 52) hv17 (by rfl) (by kernel_rfl) (by kernel_rfl) (by kernel_rfl) (fun _ _ _ h => h) (by rfl) (fun w => rn_bin rfl (by rw [← hv17]; rfl) f51 (by intro w; kernel_rfl) w) rfl hs17 (by decide) (fun a18 ρ18 hp18 => ?_)
  have hv18 := hp18.ev
  have hs18 := hp18.sz
  have f52 := hp18.at'
  replace f0 := (hp18.rest 0 (by decide)).trans f0
  replace f2 := (hp18.rest 2 (by decide)).trans f2
  replace f4 := (hp18.rest 4 (by decide)).trans f4
  replace f7 := (hp18.rest 7 (by decide)).trans f7
  replace f9 := (hp18.rest 9 (by decide)).trans f9
  replace f35 := (hp18.rest 35 (by decide)).trans f35
  replace f36 := (hp18.rest 36 (by decide)).trans f36
  replace f37 := (hp18.rest 37 (by decide)).trans f37
  replace f38 := (hp18.rest 38 (by decide)).trans f38
  replace f39 := (hp18.rest 39 (by decide)).trans f39
  replace f40 := (hp18.rest 40 (by decide)).trans f40
  replace f41 := (hp18.rest 41 (by decide)).trans f41
  replace f42 := (hp18.rest 42 (by decide)).trans f42
  replace f43 := (hp18.rest 43 (by decide)).trans f43
  replace f44 := (hp18.rest 44 (by decide)).trans f44
  replace f45 := (hp18.rest 45 (by decide)).trans f45
  replace f46 := (hp18.rest 46 (by decide)).trans f46
  replace f47 := (hp18.rest 47 (by decide)).trans f47
  replace f48 := (hp18.rest 48 (by decide)).trans f48
  replace f49 := (hp18.rest 49 (by decide)).trans f49
  replace f50 := (hp18.rest 50 (by decide)).trans f50
  replace f51 := (hp18.rest 51 (by decide)).trans f51
  refine lt_pure (i := 18) (v := .int .u64 127) (d := 53) hv18 (by rfl) (by kernel_rfl) (by kernel_rfl) (by kernel_rfl) (fun _ _ _ h => h) (by rfl) (fun w => rn_bin' rfl f52 (by rw [← hv18]; rfl) (by intro w; kernel_rfl) w) rfl hs18 (by decide) (fun a19 ρ19 hp19 => ?_)
  have hv19 := hp19.ev
  have hs19 := hp19.sz
  have f53 := hp19.at'
  replace f0 := (hp19.rest 0 (by decide)).trans f0
  replace f2 := (hp19.rest 2 (by decide)).trans f2
  replace f4 := (hp19.rest 4 (by decide)).trans f4
  replace f7 := (hp19.rest 7 (by decide)).trans f7
  replace f9 := (hp19.rest 9 (by decide)).trans f9
  replace f35 := (hp19.rest 35 (by decide)).trans f35
  replace f36 := (hp19.rest 36 (by decide)).trans f36
  replace f37 := (hp19.rest 37 (by decide)).trans f37
  replace f38 := (hp19.rest 38 (by decide)).trans f38
  replace f39 := (hp19.rest 39 (by decide)).trans f39
  replace f40 := (hp19.rest 40 (by decide)).trans f40
  replace f41 := (hp19.rest 41 (by decide)).trans f41
  replace f42 := (hp19.rest 42 (by decide)).trans f42
  replace f43 := (hp19.rest 43 (by decide)).trans f43
  replace f44 := (hp19.rest 44 (by decide)).trans f44
  replace f45 := (hp19.rest 45 (by decide)).trans f45
  replace f46 := (hp19.rest 46 (by decide)).trans f46
  replace f47 := (hp19.rest 47 (by decide)).trans f47
  replace f48 := (hp19.rest 48 (by decide)).trans f48
  replace f49 := (hp19.rest 49 (by decide)).trans f49
  replace f50 := (hp19.rest 50 (by decide)).trans f50
  replace f51 := (hp19.rest 51 (by decide)).trans f51
  replace f52 := (hp19.rest 52 (by decide)).trans f52
  refine lt_pure (i := 19) (v := .int .u64 255) (d := 54) hv19 (by rfl) (by kernel_rfl) (by kernel_rfl) (by kernel_rfl) (fun _ _ _ h => h) (by rfl) (fun w => rn_bin2 rfl f48 f53 (by intro w; kernel_rfl) w) rfl hs19 (by decide) (fun a20 ρ20 hp20 => ?_)
  have hv20 := hp20.ev
  have hs20 := hp20.sz
  have f54 := hp20.at'
  replace f0 := (hp20.rest 0 (by decide)).trans f0
  replace f2 := (hp20.rest 2 (by decide)).trans f2
  replace f4 := (hp20.rest 4 (by decide)).trans f4
  replace f7 := (hp20.rest 7 (by decide)).trans f7
  replace f9 := (hp20.rest 9 (by decide)).trans f9
  replace f35 := (hp20.rest 35 (by decide)).trans f35
  replace f36 := (hp20.rest 36 (by decide)).trans f36
  replace f37 := (hp20.rest 37 (by decide)).trans f37
  replace f38 := (hp20.rest 38 (by decide)).trans f38
  replace f39 := (hp20.rest 39 (by decide)).trans f39
  replace f40 := (hp20.rest 40 (by decide)).trans f40
  replace f41 := (hp20.rest 41 (by decide)).trans f41
  replace f42 := (hp20.rest 42 (by decide)).trans f42
  replace f43 := (hp20.rest 43 (by decide)).trans f43
  replace f44 := (hp20.rest 44 (by decide)).trans f44
  replace f45 := (hp20.rest 45 (by decide)).trans f45
  replace f46 := (hp20.rest 46 (by decide)).trans f46
  replace f47 := (hp20.rest 47 (by decide)).trans f47
  replace f48 := (hp20.rest 48 (by decide)).trans f48
  replace f49 := (hp20.rest 49 (by decide)).trans f49
  replace f50 := (hp20.rest 50 (by decide)).trans f50
  replace f51 := (hp20.rest 51 (by decide)).trans f51
  replace f52 := (hp20.rest 52 (by decide)).trans f52
  replace f53 := (hp20.rest 53 (by decide)).trans f53
  refine lt_pure (i := 20) (v := .int .u64 x) (d := 55) hv20 (by rfl) (by kernel_rfl) (by kernel_rfl) (by kernel_rfl) (fun _ _ _ h => h) (by rfl) (fun w => rn_and22 rfl f44 f54 hx w) rfl hs20 (by decide) (fun a21 ρ21 hp21 => ?_)
  have hv21 := hp21.ev
  have hs21 := hp21.sz
  have f55 := hp21.at'
  replace f0 := (hp21.rest 0 (by decide)).trans f0
  replace f2 := (hp21.rest 2 (by decide)).trans f2
  replace f4 := (hp21.rest 4 (by decide)).trans f4
  replace f7 := (hp21.rest 7 (by decide)).trans f7
  replace f9 := (hp21.rest 9 (by decide)).trans f9
  replace f35 := (hp21.rest 35 (by decide)).trans f35
  replace f36 := (hp21.rest 36 (by decide)).trans f36
  replace f37 := (hp21.rest 37 (by decide)).trans f37
  replace f38 := (hp21.rest 38 (by decide)).trans f38
  replace f39 := (hp21.rest 39 (by decide)).trans f39
  replace f40 := (hp21.rest 40 (by decide)).trans f40
  replace f41 := (hp21.rest 41 (by decide)).trans f41
  replace f42 := (hp21.rest 42 (by decide)).trans f42
  replace f43 := (hp21.rest 43 (by decide)).trans f43
  replace f44 := (hp21.rest 44 (by decide)).trans f44
  replace f45 := (hp21.rest 45 (by decide)).trans f45
  replace f46 := (hp21.rest 46 (by decide)).trans f46
  replace f47 := (hp21.rest 47 (by decide)).trans f47
  replace f48 := (hp21.rest 48 (by decide)).trans f48
  replace f49 := (hp21.rest 49 (by decide)).trans f49
  replace f50 := (hp21.rest 50 (by decide)).trans f50
  replace f51 := (hp21.rest 51 (by decide)).trans f51
  replace f52 := (hp21.rest 52 (by decide)).trans f52
  replace f53 := (hp21.rest 53 (by decide)).trans f53
  replace f54 := (hp21.rest 54 (by decide)).trans f54
  refine lt_pure (i := 21) (v := .func (.method "Store") #[.iface 52 (.pointer (some ⟨M, 0, none⟩))] #[]) (d := 56) hv21 (by rfl) (by kernel_rfl) (by kernel_rfl) (by kernel_rfl) (fun _ _ _ h => h) (by rfl) (fun w => rn_make rfl f35 w) rfl hs21 (by decide) (fun a22 ρ22 hp22 => ?_)
  have hv22 := hp22.ev
  have hs22 := hp22.sz
  have f56 := hp22.at'
  replace f0 := (hp22.rest 0 (by decide)).trans f0
  replace f2 := (hp22.rest 2 (by decide)).trans f2
  replace f4 := (hp22.rest 4 (by decide)).trans f4
  replace f7 := (hp22.rest 7 (by decide)).trans f7
  replace f9 := (hp22.rest 9 (by decide)).trans f9
  replace f35 := (hp22.rest 35 (by decide)).trans f35
  replace f36 := (hp22.rest 36 (by decide)).trans f36
  replace f37 := (hp22.rest 37 (by decide)).trans f37
  replace f38 := (hp22.rest 38 (by decide)).trans f38
  replace f39 := (hp22.rest 39 (by decide)).trans f39
  replace f40 := (hp22.rest 40 (by decide)).trans f40
  replace f41 := (hp22.rest 41 (by decide)).trans f41
  replace f42 := (hp22.rest 42 (by decide)).trans f42
  replace f43 := (hp22.rest 43 (by decide)).trans f43
  replace f44 := (hp22.rest 44 (by decide)).trans f44
  replace f45 := (hp22.rest 45 (by decide)).trans f45
  replace f46 := (hp22.rest 46 (by decide)).trans f46
  replace f47 := (hp22.rest 47 (by decide)).trans f47
  replace f48 := (hp22.rest 48 (by decide)).trans f48
  replace f49 := (hp22.rest 49 (by decide)).trans f49
  replace f50 := (hp22.rest 50 (by decide)).trans f50
  replace f51 := (hp22.rest 51 (by decide)).trans f51
  replace f52 := (hp22.rest 52 (by decide)).trans f52
  replace f53 := (hp22.rest 53 (by decide)).trans f53
  replace f54 := (hp22.rest 54 (by decide)).trans f54
  replace f55 := (hp22.rest 55 (by decide)).trans f55
  refine lt_pure (i := 22) (v := .func (.method "Store") #[.iface 52 (.pointer (some ⟨M, 0, none⟩))] #[]) (d := 57) hv22 (by rfl) (by kernel_rfl) (by kernel_rfl) (by kernel_rfl) (fun _ _ _ h => h) (by rfl) (fun w => rn_nilm rfl f56 w) rfl hs22 (by decide) (fun a23 ρ23 hp23 => ?_)
  have hv23 := hp23.ev
  have hs23 := hp23.sz
  have f57 := hp23.at'
  replace f0 := (hp23.rest 0 (by decide)).trans f0
  replace f2 := (hp23.rest 2 (by decide)).trans f2
  replace f4 := (hp23.rest 4 (by decide)).trans f4
  replace f7 := (hp23.rest 7 (by decide)).trans f7
  replace f9 := (hp23.rest 9 (by decide)).trans f9
  replace f35 := (hp23.rest 35 (by decide)).trans f35
  replace f36 := (hp23.rest 36 (by decide)).trans f36
  replace f37 := (hp23.rest 37 (by decide)).trans f37
  replace f38 := (hp23.rest 38 (by decide)).trans f38
  replace f39 := (hp23.rest 39 (by decide)).trans f39
  replace f40 := (hp23.rest 40 (by decide)).trans f40
  replace f41 := (hp23.rest 41 (by decide)).trans f41
  replace f42 := (hp23.rest 42 (by decide)).trans f42
  replace f43 := (hp23.rest 43 (by decide)).trans f43
  replace f44 := (hp23.rest 44 (by decide)).trans f44
  replace f45 := (hp23.rest 45 (by decide)).trans f45
  replace f46 := (hp23.rest 46 (by decide)).trans f46
  replace f47 := (hp23.rest 47 (by decide)).trans f47
  replace f48 := (hp23.rest 48 (by decide)).trans f48
  replace f49 := (hp23.rest 49 (by decide)).trans f49
  replace f50 := (hp23.rest 50 (by decide)).trans f50
  replace f51 := (hp23.rest 51 (by decide)).trans f51
  replace f52 := (hp23.rest 52 (by decide)).trans f52
  replace f53 := (hp23.rest 53 (by decide)).trans f53
  replace f54 := (hp23.rest 54 (by decide)).trans f54
  replace f55 := (hp23.rest 55 (by decide)).trans f55
  replace f56 := (hp23.rest 56 (by decide)).trans f56
  refine lt_pure (i := 23) (v := .iface 52 (.pointer (some ⟨M, 0, none⟩))) (d := 58) hv23 (by rfl) (by kernel_rfl) (by kernel_rfl) (by kernel_rfl) (fun _ _ _ h => h) (by rfl) (fun w => rn_move rfl f35 w) rfl hs23 (by decide) (fun a24 ρ24 hp24 => ?_)
  have hv24 := hp24.ev
  have hs24 := hp24.sz
  have f58 := hp24.at'
  replace f0 := (hp24.rest 0 (by decide)).trans f0
  replace f2 := (hp24.rest 2 (by decide)).trans f2
  replace f4 := (hp24.rest 4 (by decide)).trans f4
  replace f7 := (hp24.rest 7 (by decide)).trans f7
  replace f9 := (hp24.rest 9 (by decide)).trans f9
  replace f35 := (hp24.rest 35 (by decide)).trans f35
  replace f36 := (hp24.rest 36 (by decide)).trans f36
  replace f37 := (hp24.rest 37 (by decide)).trans f37
  replace f38 := (hp24.rest 38 (by decide)).trans f38
  replace f39 := (hp24.rest 39 (by decide)).trans f39
  replace f40 := (hp24.rest 40 (by decide)).trans f40
  replace f41 := (hp24.rest 41 (by decide)).trans f41
  replace f42 := (hp24.rest 42 (by decide)).trans f42
  replace f43 := (hp24.rest 43 (by decide)).trans f43
  replace f44 := (hp24.rest 44 (by decide)).trans f44
  replace f45 := (hp24.rest 45 (by decide)).trans f45
  replace f46 := (hp24.rest 46 (by decide)).trans f46
  replace f47 := (hp24.rest 47 (by decide)).trans f47
  replace f48 := (hp24.rest 48 (by decide)).trans f48
  replace f49 := (hp24.rest 49 (by decide)).trans f49
  replace f50 := (hp24.rest 50 (by decide)).trans f50
  replace f51 := (hp24.rest 51 (by decide)).trans f51
  replace f52 := (hp24.rest 52 (by decide)).trans f52
  replace f53 := (hp24.rest 53 (by decide)).trans f53
  replace f54 := (hp24.rest 54 (by decide)).trans f54
  replace f55 := (hp24.rest 55 (by decide)).trans f55
  replace f56 := (hp24.rest 56 (by decide)).trans f56
  replace f57 := (hp24.rest 57 (by decide)).trans f57
  refine wpLate_one (i := 24) (by kernel_rfl) ?_
  refine lt_call (v := .bool r) (T := T) (d := 59) hv24 (by rfl) (by rfl) (rn_store rfl f58 f36 f37 f55 _) rfl hs24 (by decide) hc (fun w' h _ => .inr (hT w' h)) (fun w9 a25 ρ25 hT9 hp25 => ?_)
  have hv25 := hp25.ev
  have hs25 := hp25.sz
  have f59 := hp25.at'
  replace f0 := (hp25.rest 0 (by decide)).trans f0
  replace f2 := (hp25.rest 2 (by decide)).trans f2
  replace f4 := (hp25.rest 4 (by decide)).trans f4
  replace f7 := (hp25.rest 7 (by decide)).trans f7
  replace f9 := (hp25.rest 9 (by decide)).trans f9
  replace f35 := (hp25.rest 35 (by decide)).trans f35
  replace f36 := (hp25.rest 36 (by decide)).trans f36
  replace f37 := (hp25.rest 37 (by decide)).trans f37
  replace f38 := (hp25.rest 38 (by decide)).trans f38
  replace f39 := (hp25.rest 39 (by decide)).trans f39
  replace f40 := (hp25.rest 40 (by decide)).trans f40
  replace f41 := (hp25.rest 41 (by decide)).trans f41
  replace f42 := (hp25.rest 42 (by decide)).trans f42
  replace f43 := (hp25.rest 43 (by decide)).trans f43
  replace f44 := (hp25.rest 44 (by decide)).trans f44
  replace f45 := (hp25.rest 45 (by decide)).trans f45
  replace f46 := (hp25.rest 46 (by decide)).trans f46
  replace f47 := (hp25.rest 47 (by decide)).trans f47
  replace f48 := (hp25.rest 48 (by decide)).trans f48
  replace f49 := (hp25.rest 49 (by decide)).trans f49
  replace f50 := (hp25.rest 50 (by decide)).trans f50
  replace f51 := (hp25.rest 51 (by decide)).trans f51
  replace f52 := (hp25.rest 52 (by decide)).trans f52
  replace f53 := (hp25.rest 53 (by decide)).trans f53
  replace f54 := (hp25.rest 54 (by decide)).trans f54
  replace f55 := (hp25.rest 55 (by decide)).trans f55
  replace f56 := (hp25.rest 56 (by decide)).trans f56
  replace f57 := (hp25.rest 57 (by decide)).trans f57
  replace f58 := (hp25.rest 58 (by decide)).trans f58
  refine wpLate_one (i := 25) (by kernel_rfl) ?_
  refine lt_value (v := .bool (!r)) (w' := w9) (d := 60) hv25 (by rfl) (by rfl) (rn_not rfl f59 _) rfl hs25 (by decide) (fun _ => .inl rfl) (fun a26 ρ26 hp26 => ?_)
  have hv26 := hp26.ev
  have hs26 := hp26.sz
  have f60 := hp26.at'
  replace f0 := (hp26.rest 0 (by decide)).trans f0
  replace f2 := (hp26.rest 2 (by decide)).trans f2
  replace f4 := (hp26.rest 4 (by decide)).trans f4
  replace f7 := (hp26.rest 7 (by decide)).trans f7
  replace f9 := (hp26.rest 9 (by decide)).trans f9
  replace f35 := (hp26.rest 35 (by decide)).trans f35
  replace f36 := (hp26.rest 36 (by decide)).trans f36
  replace f37 := (hp26.rest 37 (by decide)).trans f37
  replace f38 := (hp26.rest 38 (by decide)).trans f38
  replace f39 := (hp26.rest 39 (by decide)).trans f39
  replace f40 := (hp26.rest 40 (by decide)).trans f40
  replace f41 := (hp26.rest 41 (by decide)).trans f41
  replace f42 := (hp26.rest 42 (by decide)).trans f42
  replace f43 := (hp26.rest 43 (by decide)).trans f43
  replace f44 := (hp26.rest 44 (by decide)).trans f44
  replace f45 := (hp26.rest 45 (by decide)).trans f45
  replace f46 := (hp26.rest 46 (by decide)).trans f46
  replace f47 := (hp26.rest 47 (by decide)).trans f47
  replace f48 := (hp26.rest 48 (by decide)).trans f48
  replace f49 := (hp26.rest 49 (by decide)).trans f49
  replace f50 := (hp26.rest 50 (by decide)).trans f50
  replace f51 := (hp26.rest 51 (by decide)).trans f51
  replace f52 := (hp26.rest 52 (by decide)).trans f52
  replace f53 := (hp26.rest 53 (by decide)).trans f53
  replace f54 := (hp26.rest 54 (by decide)).trans f54
  replace f55 := (hp26.rest 55 (by decide)).trans f55
  replace f56 := (hp26.rest 56 (by decide)).trans f56
  replace f57 := (hp26.rest 57 (by decide)).trans f57
  replace f58 := (hp26.rest 58 (by decide)).trans f58
  replace f59 := (hp26.rest 59 (by decide)).trans f59
  refine wpLate_done (by kernel_rfl) ?_
  refine NoPanic.normal ?_
  have hq := hQ w9 hT9
  rw [hp1.eq, hp2.eq, hp3.eq, hp4.eq, hp5.eq, hp6.eq, hp7.eq, hp8.eq, hp9.eq, hp10.eq, hp11.eq, hp12.eq, hp13.eq, hp14.eq, hp15.eq, hp16.eq, hp17.eq, hp18.eq, hp19.eq, hp20.eq, hp21.eq, hp22.eq, hp23.eq, hp24.eq, hp25.eq, hp26.eq] at hq
  exact hq
end Go.Proofs.Ytelgmffmekfndaa
