/- The two appends and two stores of PurseRuns' Give, one statement that draws its order, at a frame that is a letter. Conditions: as each theorem names them. -/
import Derived.Test.YteflfflmedkdiaaPurseGiveA
set_option linter.unusedVariables false
namespace Go.Proofs.Yteflfflmedkdiaa
open Go.ChangeShapes Go.WideShapes Go.ChangeAt Go.RowKit

theorem rn_append {P : Program} {o : Oper} {ρ : Operand → Value} {s x : Operand} {t : TypeId} {v0 v y : Value} {w w1 : World} (ho : o.op = .call { callee := .builtin .append, args := #[s, x], argTypes := #[t, t] }) (ht : o.type = t) (hs : ρ s = v0) (hx : ρ x = v)
    (hr : (Builtin.append_ #[t, t] t #[v0, v]).run P w = .ok y w1) : (execOp ρ o).run P w = .ok (.value y) w1 := by
  unfold execOp
  simp only [ho, ht, resolve, invoke, builtin, Sem.run_bind, Sem.run_pure, Result.andThen_ok, List.map_toArray, List.map_cons, List.map_nil, hs, hx, hr]

/-- the first region of that number -/
def regionOf (n : Nat) : Code → Option Code
  | .region id ops d => if id = n then some (.region id ops d) else none
  | .loop c => regionOf n c
  | .seq a b => match regionOf n a with
    | some c => some c
    | none => regionOf n b
  | .block _ c => regionOf n c
  | .scope c => regionOf n c
  | .cond _ a b => match regionOf n a with
    | some c => some c
    | none => regionOf n b
  | _ => none
noncomputable def code41 : Code := (Try.f6.body.bind (regionOf 41)).getD .skip

set_option maxRecDepth 100000 in
set_option maxHeartbeats 4000000 in
theorem give_region (b F k I A E N : Nat) (w1 w3 wA : World) (p : Pu) (g cap g2 cap2 : Nat) (ps : List Pu) (us : List Int) (M : Int) (hg2 : HG2 b F k I A E w1 wA p g cap g2 cap2 N ps us M) (hpre : Pre b F k I A w1 w3 p g cap g2 cap2 ps us)
    (hM0 : 0 ≤ M) (hM1 : M ≤ p.l - p.u - p.g) (hN : ps.length = N) (hmm : N ≤ 101) (a0 : Act) (hs0 : a0.tmps.size = 268) (f5 : a0.eval (.tmp 5) = .pointer (some ⟨F, 0, none⟩)) (f8 : a0.eval (.tmp 8) = .int .i64 I) (f15 : a0.eval (.tmp 15) = .pointer (some ⟨E, 0, none⟩)) (Q : Exit → Act → World → Prop)
    (hQ : ∀ (B1 B2 gl capl gu capu : Nat) (w9 : World), Sw b F k I A (A + 1) w1 p 0 w9 → Q .normal ((((((((((((((((((((a0.put (some 173) (.pointer (some ⟨F, 0, none⟩))).put (some 174) (.pointer (some ⟨F, 0, none⟩))).put (some 175) (.pointer (some ⟨F, 0, none⟩))).put (some 176) (.pointer (some ⟨F, 0, none⟩))).put (some 177) (.pointer (some ⟨F, 0, none⟩))).put (some 178) (.slice (some ⟨g, 0, none⟩) N cap)).put (some 179) (.agg #[.int .i64 M, .int .i64 0, .int .i64 0])).put (some 182) (.pointer (some ⟨F, 0, none⟩))).put (some 183) (.pointer (some ⟨F, 0, none⟩))).put (some 184) (.pointer (some ⟨F, 1, none⟩))).put (some 185) (.slice (some ⟨g2, 0, none⟩) N cap2)).put (some 186) (.int .i64 I)).put (some 180) (.slice (some ⟨B1, 0, none⟩) 1 1)).put (some 181) (.slice (some ⟨gl, 0, none⟩) (N + 1) capl)).put (some 187) (.slice (some ⟨B2, 0, none⟩) 1 1)).put (some 188) (.slice (some ⟨gu, 0, none⟩) (N + 1) capu)).put (some 189) (.pointer (some ⟨F, 0, none⟩))).put (some 190) (.pointer (some ⟨F, 0, none⟩))).put (some 191) (.pointer (some ⟨F, 0, none⟩))).put (some 192) (.pointer (some ⟨F, 1, none⟩))) w9) : code41.wp Try.prog Q a0 wA := by
  conv => arg 2; whnf
  obtain ⟨c0, c1, f0', f1', ca, cb, ce, ol, ou, bl, bF, lF, lA, kFA, kgA, kg2A, kbA, n1, n2, n3, kAE, lE⟩ := hg2
  obtain ⟨ce0, e0, e1, e2, _, _, _⟩ := ce
  obtain ⟨i0, hi, hz0, hz1, hz2'⟩ := info_parts info24
  obtain ⟨i1, hi1, hz01, hz11, hz21⟩ := info_parts info3
  refine wp_region_noPanic ?_
  refine wp_region_late (fun w' => w'.cell? ⟨F, 0, none⟩ = some (.slice (some ⟨g, 0, none⟩) N cap) ∧ w'.cell? ⟨F, 1, none⟩ = some (.slice (some ⟨g2, 0, none⟩) N cap2) ∧ w'.cell? ⟨E, 0, none⟩ = some (.int .i64 M) ∧ w'.cell? ⟨E, 1, none⟩ = some (.int .i64 0) ∧ w'.cell? ⟨E, 2, none⟩ = some (.int .i64 0)) [5, 6, 12] 22 (by rfl) (by kernel_rfl) ?_
  have hc5 : ∀ a, wA.drew.cell? a = wA.cell? a := fun a => rfl
  have hf5 : ∀ a, wA.drew.frozen? a = wA.frozen? a := fun a => rfl
  replace c0 := (hc5 _).trans c0
  replace c1 := (hc5 _).trans c1
  replace e0 := (hc5 _).trans e0
  replace e1 := (hc5 _).trans e1
  replace e2 := (hc5 _).trans e2
  replace f0' := (hf5 _).trans f0'
  replace f1' := (hf5 _).trans f1'
  replace ol := own_drew ol
  replace ou := own_drew ou
  replace ca := ca.heap (w' := wA.drew) rfl
  replace cb := cb.heap (w' := wA.drew) rfl
  replace bl := bl.drew
  replace lF : F < wA.drew.heap.size := lF
  replace lA : A + 1 < wA.drew.heap.size := lA
  replace lE : E < wA.drew.heap.size := lE
  clear hc5 hf5
  generalize wA.drew = w5 at *
  have hv0 : a0.eval = a0.eval := rfl
  refine lt_pure (i := 0) (v := .pointer (some ⟨F, 0, none⟩)) (d := 173) hv0 (by rfl) (by kernel_rfl) (by kernel_rfl) (by kernel_rfl) (fun _ _ _ h => h) (by rfl) (fun w => rn_move rfl f5 w) rfl hs0 (by decide) (fun a1 ρ1 hp1 => ?_)
  have hv1 := hp1.ev
  have hs1 := hp1.sz
  have f173 := hp1.at'
  replace f5 := (hp1.rest 5 (by decide)).trans f5
  replace f8 := (hp1.rest 8 (by decide)).trans f8
  replace f15 := (hp1.rest 15 (by decide)).trans f15
  refine lt_pure (i := 1) (v := .pointer (some ⟨F, 0, none⟩)) (d := 174) hv1 (by rfl) (by kernel_rfl) (by kernel_rfl) (by kernel_rfl) (fun _ _ _ h => h) (by rfl) (fun w => rn_move rfl f5 w) rfl hs1 (by decide) (fun a2 ρ2 hp2 => ?_)
  have hv2 := hp2.ev
  have hs2 := hp2.sz
  have f174 := hp2.at'
  replace f5 := (hp2.rest 5 (by decide)).trans f5
  replace f8 := (hp2.rest 8 (by decide)).trans f8
  replace f15 := (hp2.rest 15 (by decide)).trans f15
  replace f173 := (hp2.rest 173 (by decide)).trans f173
  refine lt_pure (i := 2) (v := .pointer (some ⟨F, 0, none⟩)) (d := 175) hv2 (by rfl) (by kernel_rfl) (by kernel_rfl) (by kernel_rfl) (fun _ _ _ h => h) (by rfl) (fun w => rn_move rfl f5 w) rfl hs2 (by decide) (fun a3 ρ3 hp3 => ?_)
  have hv3 := hp3.ev
  have hs3 := hp3.sz
  have f175 := hp3.at'
  replace f5 := (hp3.rest 5 (by decide)).trans f5
  replace f8 := (hp3.rest 8 (by decide)).trans f8
  replace f15 := (hp3.rest 15 (by decide)).trans f15
  replace f173 := (hp3.rest 173 (by decide)).trans f173
  replace f174 := (hp3.rest 174 (by decide)).trans f174
  refine lt_pure (i := 3) (v := .pointer (some ⟨F, 0, none⟩)) (d := 176) hv3 (by rfl) (by kernel_rfl) (by kernel_rfl) (by kernel_rfl) (fun _ _ _ h => h) (by rfl) (fun w => rn_nil rfl f175 w) rfl hs3 (by decide) (fun a4 ρ4 hp4 => ?_)
  have hv4 := hp4.ev
  have hs4 := hp4.sz
  have f176 := hp4.at'
  replace f5 := (hp4.rest 5 (by decide)).trans f5
  replace f8 := (hp4.rest 8 (by decide)).trans f8
  replace f15 := (hp4.rest 15 (by decide)).trans f15
  replace f173 := (hp4.rest 173 (by decide)).trans f173
  replace f174 := (hp4.rest 174 (by decide)).trans f174
  replace f175 := (hp4.rest 175 (by decide)).trans f175
  refine lt_pure (i := 4) (v := .pointer (some ⟨F, 0, none⟩)) (d := 177) hv4 (by rfl) (by kernel_rfl) (by kernel_rfl) (by kernel_rfl) (fun _ _ _ h => h) (by rfl) (fun w => rn_f0 rfl f176 w) rfl hs4 (by decide) (fun a5 ρ5 hp5 => ?_)
  have hv5 := hp5.ev
  have hs5 := hp5.sz
  have f177 := hp5.at'
  replace f5 := (hp5.rest 5 (by decide)).trans f5
  replace f8 := (hp5.rest 8 (by decide)).trans f8
  replace f15 := (hp5.rest 15 (by decide)).trans f15
  replace f173 := (hp5.rest 173 (by decide)).trans f173
  replace f174 := (hp5.rest 174 (by decide)).trans f174
  replace f175 := (hp5.rest 175 (by decide)).trans f175
  replace f176 := (hp5.rest 176 (by decide)).trans f176
  refine lt_load (i := 5) (v := .slice (some ⟨g, 0, none⟩) N cap) (d := 178) hv5 (by rfl) (by kernel_rfl) (by kernel_rfl) (by kernel_rfl) (by simp) (fun _ _ _ h => h) (by rfl) (fun w hS => rn_load28 rfl f177 w hS.1) ⟨c0, c1, e0, e1, e2⟩ rfl hs5 (by decide) (fun a6 ρ6 hp6 => ?_)
  have hv6 := hp6.ev
  have hs6 := hp6.sz
  have f178 := hp6.at'
  replace f5 := (hp6.rest 5 (by decide)).trans f5
  replace f8 := (hp6.rest 8 (by decide)).trans f8
  replace f15 := (hp6.rest 15 (by decide)).trans f15
  replace f173 := (hp6.rest 173 (by decide)).trans f173
  replace f174 := (hp6.rest 174 (by decide)).trans f174
  replace f175 := (hp6.rest 175 (by decide)).trans f175
  replace f176 := (hp6.rest 176 (by decide)).trans f176
  replace f177 := (hp6.rest 177 (by decide)).trans f177
  refine lt_load (i := 6) (v := .agg #[.int .i64 M, .int .i64 0, .int .i64 0]) (d := 179) hv6 (by rfl) (by kernel_rfl) (by kernel_rfl) (by kernel_rfl) (by simp) (fun _ _ _ h => h) (by rfl) (fun w hS => rn_load24 rfl f15 w hS.2.2.1 hS.2.2.2.1 hS.2.2.2.2) ⟨c0, c1, e0, e1, e2⟩ rfl hs6 (by decide) (fun a7 ρ7 hp7 => ?_)
  have hv7 := hp7.ev
  have hs7 := hp7.sz
  have f179 := hp7.at'
  replace f5 := (hp7.rest 5 (by decide)).trans f5
  replace f8 := (hp7.rest 8 (by decide)).trans f8
  replace f15 := (hp7.rest 15 (by decide)).trans f15
  replace f173 := (hp7.rest 173 (by decide)).trans f173
  replace f174 := (hp7.rest 174 (by decide)).trans f174
  replace f175 := (hp7.rest 175 (by decide)).trans f175
  replace f176 := (hp7.rest 176 (by decide)).trans f176
  replace f177 := (hp7.rest 177 (by decide)).trans f177
  replace f178 := (hp7.rest 178 (by decide)).trans f178
  refine lt_pure (i := 9) (v := .pointer (some ⟨F, 0, none⟩)) (d := 182) hv7 (by rfl) (by kernel_rfl) (by kernel_rfl) (by kernel_rfl) (fun _ _ _ h => h) (by rfl) (fun w => rn_move rfl f5 w) rfl hs7 (by decide) (fun a8 ρ8 hp8 => ?_)
  have hv8 := hp8.ev
  have hs8 := hp8.sz
  have f182 := hp8.at'
  replace f5 := (hp8.rest 5 (by decide)).trans f5
  replace f8 := (hp8.rest 8 (by decide)).trans f8
  replace f15 := (hp8.rest 15 (by decide)).trans f15
  replace f173 := (hp8.rest 173 (by decide)).trans f173
  replace f174 := (hp8.rest 174 (by decide)).trans f174
  replace f175 := (hp8.rest 175 (by decide)).trans f175
  replace f176 := (hp8.rest 176 (by decide)).trans f176
  replace f177 := (hp8.rest 177 (by decide)).trans f177
  replace f178 := (hp8.rest 178 (by decide)).trans f178
  replace f179 := (hp8.rest 179 (by decide)).trans f179
  refine lt_pure (i := 10) (v := .pointer (some ⟨F, 0, none⟩)) (d := 183) hv8 (by rfl) (by kernel_rfl) (by kernel_rfl) (by kernel_rfl) (fun _ _ _ h => h) (by rfl) (fun w => rn_nil rfl f182 w) rfl hs8 (by decide) (fun a9 ρ9 hp9 => ?_)
  have hv9 := hp9.ev
  have hs9 := hp9.sz
  have f183 := hp9.at'
  replace f5 := (hp9.rest 5 (by decide)).trans f5
  replace f8 := (hp9.rest 8 (by decide)).trans f8
  replace f15 := (hp9.rest 15 (by decide)).trans f15
  replace f173 := (hp9.rest 173 (by decide)).trans f173
  replace f174 := (hp9.rest 174 (by decide)).trans f174
  replace f175 := (hp9.rest 175 (by decide)).trans f175
  replace f176 := (hp9.rest 176 (by decide)).trans f176
  replace f177 := (hp9.rest 177 (by decide)).trans f177
  replace f178 := (hp9.rest 178 (by decide)).trans f178
  replace f179 := (hp9.rest 179 (by decide)).trans f179
  replace f182 := (hp9.rest 182 (by decide)).trans f182
  refine lt_pure (i := 11) (v := .pointer (some ⟨F, 1, none⟩)) (d := 184) hv9 (by rfl) (by kernel_rfl) (by kernel_rfl) (by kernel_rfl) (fun _ _ _ h => h) (by rfl) (fun w => rn_f1 rfl f183 w) rfl hs9 (by decide) (fun a10 ρ10 hp10 => ?_)
  have hv10 := hp10.ev
  have hs10 := hp10.sz
  have f184 := hp10.at'
  replace f5 := (hp10.rest 5 (by decide)).trans f5
  replace f8 := (hp10.rest 8 (by decide)).trans f8
  replace f15 := (hp10.rest 15 (by decide)).trans f15
  replace f173 := (hp10.rest 173 (by decide)).trans f173
  replace f174 := (hp10.rest 174 (by decide)).trans f174
  replace f175 := (hp10.rest 175 (by decide)).trans f175
  replace f176 := (hp10.rest 176 (by decide)).trans f176
  replace f177 := (hp10.rest 177 (by decide)).trans f177
  replace f178 := (hp10.rest 178 (by decide)).trans f178
  replace f179 := (hp10.rest 179 (by decide)).trans f179
  replace f182 := (hp10.rest 182 (by decide)).trans f182
  replace f183 := (hp10.rest 183 (by decide)).trans f183
  refine lt_load (i := 12) (v := .slice (some ⟨g2, 0, none⟩) N cap2) (d := 185) hv10 (by rfl) (by kernel_rfl) (by kernel_rfl) (by kernel_rfl) (by simp) (fun _ _ _ h => h) (by rfl) (fun w hS => rn_load38 rfl f184 w hS.2.1) ⟨c0, c1, e0, e1, e2⟩ rfl hs10 (by decide) (fun a11 ρ11 hp11 => ?_)
  have hv11 := hp11.ev
  have hs11 := hp11.sz
  have f185 := hp11.at'
  replace f5 := (hp11.rest 5 (by decide)).trans f5
  replace f8 := (hp11.rest 8 (by decide)).trans f8
  replace f15 := (hp11.rest 15 (by decide)).trans f15
  replace f173 := (hp11.rest 173 (by decide)).trans f173
  replace f174 := (hp11.rest 174 (by decide)).trans f174
  replace f175 := (hp11.rest 175 (by decide)).trans f175
  replace f176 := (hp11.rest 176 (by decide)).trans f176
  replace f177 := (hp11.rest 177 (by decide)).trans f177
  replace f178 := (hp11.rest 178 (by decide)).trans f178
  replace f179 := (hp11.rest 179 (by decide)).trans f179
  replace f182 := (hp11.rest 182 (by decide)).trans f182
  replace f183 := (hp11.rest 183 (by decide)).trans f183
  replace f184 := (hp11.rest 184 (by decide)).trans f184
  refine lt_pure (i := 13) (v := .int .i64 I) (d := 186) hv11 (by rfl) (by kernel_rfl) (by kernel_rfl) (by kernel_rfl) (fun _ _ _ h => h) (by rfl) (fun w => rn_move rfl f8 w) rfl hs11 (by decide) (fun a12 ρ12 hp12 => ?_)
  have hv12 := hp12.ev
  have hs12 := hp12.sz
  have f186 := hp12.at'
  replace f5 := (hp12.rest 5 (by decide)).trans f5
  replace f8 := (hp12.rest 8 (by decide)).trans f8
  replace f15 := (hp12.rest 15 (by decide)).trans f15
  replace f173 := (hp12.rest 173 (by decide)).trans f173
  replace f174 := (hp12.rest 174 (by decide)).trans f174
  replace f175 := (hp12.rest 175 (by decide)).trans f175
  replace f176 := (hp12.rest 176 (by decide)).trans f176
  replace f177 := (hp12.rest 177 (by decide)).trans f177
  replace f178 := (hp12.rest 178 (by decide)).trans f178
  replace f179 := (hp12.rest 179 (by decide)).trans f179
  replace f182 := (hp12.rest 182 (by decide)).trans f182
  replace f183 := (hp12.rest 183 (by decide)).trans f183
  replace f184 := (hp12.rest 184 (by decide)).trans f184
  replace f185 := (hp12.rest 185 (by decide)).trans f185
  refine wpLate_two (i := 7) (j := 14) (by kernel_rfl) ?_ ?_
  · refine lt_value (v := .slice (some ⟨w5.heap.size, 0, none⟩) 1 1) (w' := w5.alloc (.cells #[.int .i64 M, .int .i64 0, .int .i64 0] 24)) (d := 180) hv12 (by rfl) (by rfl) (rn_build28 rfl f179 w5) rfl hs12 (by decide) (fun _ => .inr ⟨keepA _ c0, keepA _ c1, keepA _ e0, keepA _ e1, keepA _ e2⟩) (fun a13 ρ13 hp13 => ?_)
    have hv13 := hp13.ev
    have hs13 := hp13.sz
    have f180 := hp13.at'
    replace f5 := (hp13.rest 5 (by decide)).trans f5
    replace f8 := (hp13.rest 8 (by decide)).trans f8
    replace f15 := (hp13.rest 15 (by decide)).trans f15
    replace f173 := (hp13.rest 173 (by decide)).trans f173
    replace f174 := (hp13.rest 174 (by decide)).trans f174
    replace f175 := (hp13.rest 175 (by decide)).trans f175
    replace f176 := (hp13.rest 176 (by decide)).trans f176
    replace f177 := (hp13.rest 177 (by decide)).trans f177
    replace f178 := (hp13.rest 178 (by decide)).trans f178
    replace f179 := (hp13.rest 179 (by decide)).trans f179
    replace f182 := (hp13.rest 182 (by decide)).trans f182
    replace f183 := (hp13.rest 183 (by decide)).trans f183
    replace f184 := (hp13.rest 184 (by decide)).trans f184
    replace f185 := (hp13.rest 185 (by decide)).trans f185
    replace f186 := (hp13.rest 186 (by decide)).trans f186
    have zw6 : (w5.alloc (.cells #[.int .i64 M, .int .i64 0, .int .i64 0] 24)).heap.size = w5.heap.size + 1 := by simp
    have nwl : News (w5.alloc (.cells #[.int .i64 M, .int .i64 0, .int .i64 0] 24)) w5.heap.size [.int .i64 M, .int .i64 0, .int .i64 0] := News.new3 _ _ rfl _ _ _ _
    replace c0 := keepA (.cells #[.int .i64 M, .int .i64 0, .int .i64 0] 24) c0
    replace c1 := keepA (.cells #[.int .i64 M, .int .i64 0, .int .i64 0] 24) c1
    replace e0 := keepA (.cells #[.int .i64 M, .int .i64 0, .int .i64 0] 24) e0
    replace e1 := keepA (.cells #[.int .i64 M, .int .i64 0, .int .i64 0] 24) e1
    replace e2 := keepA (.cells #[.int .i64 M, .int .i64 0, .int .i64 0] 24) e2
    replace f0' := (World.frozen?_of_block (a := ⟨F, 0, none⟩) (Below.heap_alloc w5 (.cells #[.int .i64 M, .int .i64 0, .int .i64 0] 24) _ lF)).trans f0'
    replace f1' := (World.frozen?_of_block (a := ⟨F, 1, none⟩) (Below.heap_alloc w5 (.cells #[.int .i64 M, .int .i64 0, .int .i64 0] 24) _ lF)).trans f1'
    replace ol := World.ownsRow.alloc ol (.cells #[.int .i64 M, .int .i64 0, .int .i64 0] 24)
    replace ou := World.ownsRow.alloc ou (.cells #[.int .i64 M, .int .i64 0, .int .i64 0] 24)
    replace ca := ca.below ((Below.refl w5.heap.size w5).alloc (Nat.le_refl _) (.cells #[.int .i64 M, .int .i64 0, .int .i64 0] 24)) ca.hb
    replace cb := cb.below ((Below.refl w5.heap.size w5).alloc (Nat.le_refl _) (.cells #[.int .i64 M, .int .i64 0, .int .i64 0] 24)) cb.hb
    replace bl := bl.alloc (by omega) (.cells #[.int .i64 M, .int .i64 0, .int .i64 0] 24)
    have lFw6 : F < (w5.alloc (.cells #[.int .i64 M, .int .i64 0, .int .i64 0] 24)).heap.size := by omega
    generalize w5.alloc (.cells #[.int .i64 M, .int .i64 0, .int .i64 0] 24) = w6 at *
    clear lF
    have lF := lFw6
    refine wpLate_two (i := 8) (j := 14) (by kernel_rfl) ?_ ?_
    · obtain ⟨gl, capl, w7, hrunl, hownl, hgrowl, hatl, hltl⟩ := run_append_lies (P := Try.prog) (w := w6) 28 28 b 24 i0 (.agg #[.int .i64 0, .int .i64 0, .int .i64 0]) 3 24 Try.underlying28 hi hz0 hz1 hz2' rfl (by decide) (.slice (some ⟨g, 0, none⟩) N cap) N (flat (ps.set I ⟨p.l, p.u, p.g + M⟩)) ol ⟨w5.heap.size, 0, none⟩ 1 1 [.int .i64 M, .int .i64 0, .int .i64 0] rfl nwl (by simp [Value.oneCell']) (by decide) (by unfold maxLen; omega) (by omega) (by omega) _ rfl
      have hgzl := hgrowl.size
      have hgcl : gl = g ∨ gl = w6.heap.size := by
        rcases hatl with h | h
        · left; have e : some g = some gl := h; cases e; rfl
        · right; exact h
      have hnel : ∀ x : Nat, x ≠ g → some x ≠ Value.ownBlock (.slice (some ⟨g, 0, none⟩) N cap) := fun x hx e => hx (by have e2 : some x = some g := e; cases e2; rfl)
      refine lt_value (v := .slice (some ⟨gl, 0, none⟩) (N + 1) capl) (w' := w7) (d := 181) hv13 (by rfl) (by rfl) (rn_append rfl rfl f178 f180 hrunl) rfl hs13 (by decide) (fun _ => .inr ⟨hgrowl.cell c0 (hnel _ n1), hgrowl.cell c1 (hnel _ n1), hgrowl.cell e0 (hnel E (by omega)), hgrowl.cell e1 (hnel E (by omega)), hgrowl.cell e2 (hnel E (by omega))⟩) (fun a14 ρ14 hp14 => ?_)
      have hv14 := hp14.ev
      have hs14 := hp14.sz
      have f181 := hp14.at'
      replace f5 := (hp14.rest 5 (by decide)).trans f5
      replace f8 := (hp14.rest 8 (by decide)).trans f8
      replace f15 := (hp14.rest 15 (by decide)).trans f15
      replace f173 := (hp14.rest 173 (by decide)).trans f173
      replace f174 := (hp14.rest 174 (by decide)).trans f174
      replace f175 := (hp14.rest 175 (by decide)).trans f175
      replace f176 := (hp14.rest 176 (by decide)).trans f176
      replace f177 := (hp14.rest 177 (by decide)).trans f177
      replace f178 := (hp14.rest 178 (by decide)).trans f178
      replace f179 := (hp14.rest 179 (by decide)).trans f179
      replace f180 := (hp14.rest 180 (by decide)).trans f180
      replace f182 := (hp14.rest 182 (by decide)).trans f182
      replace f183 := (hp14.rest 183 (by decide)).trans f183
      replace f184 := (hp14.rest 184 (by decide)).trans f184
      replace f185 := (hp14.rest 185 (by decide)).trans f185
      replace f186 := (hp14.rest 186 (by decide)).trans f186
      replace f0' := (hgrowl.frozen_far ⟨F, 0, none⟩ lF (hnel _ n1)).trans f0'
      replace f1' := (hgrowl.frozen_far ⟨F, 1, none⟩ lF (hnel _ n1)).trans f1'
      replace c0 := hgrowl.cell c0 (hnel _ n1)
      replace c1 := hgrowl.cell c1 (hnel _ n1)
      replace e0 := hgrowl.cell e0 (hnel E (by omega))
      replace e1 := hgrowl.cell e1 (hnel E (by omega))
      replace e2 := hgrowl.cell e2 (hnel E (by omega))
      replace ca := ca.grown hgrowl (hnel _ (by omega))
      replace cb := cb.grown hgrowl (hnel _ (by omega))
      have lFw7 : F < w7.heap.size := by omega
      replace bl := bl.grown hgrowl (by omega) (by intro j hj; have e : some g = some j := hj; cases e; exact (own_lt ol).1)
      replace ou := World.ownsRow.kept ou hgrowl (.inr (by simp [Value.ownBlock]; omega))
      clear lF
      have lF := lFw7
      refine wpLate_one (i := 14) (by kernel_rfl) ?_
      refine lt_value (v := .slice (some ⟨w7.heap.size, 0, none⟩) 1 1) (w' := w7.alloc (.cells #[.int .i64 I] 3)) (d := 187) hv14 (by rfl) (by rfl) (rn_build38 rfl f186 w7) rfl hs14 (by decide) (fun _ => .inr ⟨keepA _ c0, keepA _ c1, keepA _ e0, keepA _ e1, keepA _ e2⟩) (fun a15 ρ15 hp15 => ?_)
      have hv15 := hp15.ev
      have hs15 := hp15.sz
      have f187 := hp15.at'
      replace f5 := (hp15.rest 5 (by decide)).trans f5
      replace f8 := (hp15.rest 8 (by decide)).trans f8
      replace f15 := (hp15.rest 15 (by decide)).trans f15
      replace f173 := (hp15.rest 173 (by decide)).trans f173
      replace f174 := (hp15.rest 174 (by decide)).trans f174
      replace f175 := (hp15.rest 175 (by decide)).trans f175
      replace f176 := (hp15.rest 176 (by decide)).trans f176
      replace f177 := (hp15.rest 177 (by decide)).trans f177
      replace f178 := (hp15.rest 178 (by decide)).trans f178
      replace f179 := (hp15.rest 179 (by decide)).trans f179
      replace f180 := (hp15.rest 180 (by decide)).trans f180
      replace f181 := (hp15.rest 181 (by decide)).trans f181
      replace f182 := (hp15.rest 182 (by decide)).trans f182
      replace f183 := (hp15.rest 183 (by decide)).trans f183
      replace f184 := (hp15.rest 184 (by decide)).trans f184
      replace f185 := (hp15.rest 185 (by decide)).trans f185
      replace f186 := (hp15.rest 186 (by decide)).trans f186
      have zw8 : (w7.alloc (.cells #[.int .i64 I] 3)).heap.size = w7.heap.size + 1 := by simp
      have nwu : News (w7.alloc (.cells #[.int .i64 I] 3)) w7.heap.size [.int .i64 I] := News.new1 _ _ rfl _ _
      replace c0 := keepA (.cells #[.int .i64 I] 3) c0
      replace c1 := keepA (.cells #[.int .i64 I] 3) c1
      replace e0 := keepA (.cells #[.int .i64 I] 3) e0
      replace e1 := keepA (.cells #[.int .i64 I] 3) e1
      replace e2 := keepA (.cells #[.int .i64 I] 3) e2
      replace f0' := (World.frozen?_of_block (a := ⟨F, 0, none⟩) (Below.heap_alloc w7 (.cells #[.int .i64 I] 3) _ lF)).trans f0'
      replace f1' := (World.frozen?_of_block (a := ⟨F, 1, none⟩) (Below.heap_alloc w7 (.cells #[.int .i64 I] 3) _ lF)).trans f1'
      replace ol := World.ownsRow.alloc ol (.cells #[.int .i64 I] 3)
      replace ou := World.ownsRow.alloc ou (.cells #[.int .i64 I] 3)
      replace ca := ca.below ((Below.refl w7.heap.size w7).alloc (Nat.le_refl _) (.cells #[.int .i64 I] 3)) ca.hb
      replace cb := cb.below ((Below.refl w7.heap.size w7).alloc (Nat.le_refl _) (.cells #[.int .i64 I] 3)) cb.hb
      replace bl := bl.alloc (by omega) (.cells #[.int .i64 I] 3)
      replace hownl := World.ownsRow.alloc hownl (.cells #[.int .i64 I] 3)
      have lFw8 : F < (w7.alloc (.cells #[.int .i64 I] 3)).heap.size := by omega
      generalize w7.alloc (.cells #[.int .i64 I] 3) = w8 at *
      clear lF
      have lF := lFw8
      refine wpLate_one (i := 15) (by kernel_rfl) ?_
      obtain ⟨gu, capu, w9, hrunu, hownu, hgrowu, hatu, hltu⟩ := run_append_lies (P := Try.prog) (w := w8) 38 38 b 3 i1 (.int .i64 0) 1 8 Try.underlying38 hi1 hz01 hz11 hz21 rfl (by decide) (.slice (some ⟨g2, 0, none⟩) N cap2) N (ints us) ou ⟨w7.heap.size, 0, none⟩ 1 1 [.int .i64 I] rfl nwu (by simp [Value.oneCell']) (by decide) (by unfold maxLen; omega) (by omega) (by omega) _ rfl
      have hgzu := hgrowu.size
      have hgcu : gu = g2 ∨ gu = w8.heap.size := by
        rcases hatu with h | h
        · left; have e : some g2 = some gu := h; cases e; rfl
        · right; exact h
      have hneu : ∀ x : Nat, x ≠ g2 → some x ≠ Value.ownBlock (.slice (some ⟨g2, 0, none⟩) N cap2) := fun x hx e => hx (by have e2 : some x = some g2 := e; cases e2; rfl)
      refine lt_value (v := .slice (some ⟨gu, 0, none⟩) (N + 1) capu) (w' := w9) (d := 188) hv15 (by rfl) (by rfl) (rn_append rfl rfl f185 f187 hrunu) rfl hs15 (by decide) (fun _ => .inr ⟨hgrowu.cell c0 (hneu _ n2), hgrowu.cell c1 (hneu _ n2), hgrowu.cell e0 (hneu E (by omega)), hgrowu.cell e1 (hneu E (by omega)), hgrowu.cell e2 (hneu E (by omega))⟩) (fun a16 ρ16 hp16 => ?_)
      have hv16 := hp16.ev
      have hs16 := hp16.sz
      have f188 := hp16.at'
      replace f5 := (hp16.rest 5 (by decide)).trans f5
      replace f8 := (hp16.rest 8 (by decide)).trans f8
      replace f15 := (hp16.rest 15 (by decide)).trans f15
      replace f173 := (hp16.rest 173 (by decide)).trans f173
      replace f174 := (hp16.rest 174 (by decide)).trans f174
      replace f175 := (hp16.rest 175 (by decide)).trans f175
      replace f176 := (hp16.rest 176 (by decide)).trans f176
      replace f177 := (hp16.rest 177 (by decide)).trans f177
      replace f178 := (hp16.rest 178 (by decide)).trans f178
      replace f179 := (hp16.rest 179 (by decide)).trans f179
      replace f180 := (hp16.rest 180 (by decide)).trans f180
      replace f181 := (hp16.rest 181 (by decide)).trans f181
      replace f182 := (hp16.rest 182 (by decide)).trans f182
      replace f183 := (hp16.rest 183 (by decide)).trans f183
      replace f184 := (hp16.rest 184 (by decide)).trans f184
      replace f185 := (hp16.rest 185 (by decide)).trans f185
      replace f186 := (hp16.rest 186 (by decide)).trans f186
      replace f187 := (hp16.rest 187 (by decide)).trans f187
      replace f0' := (hgrowu.frozen_far ⟨F, 0, none⟩ lF (hneu _ n2)).trans f0'
      replace f1' := (hgrowu.frozen_far ⟨F, 1, none⟩ lF (hneu _ n2)).trans f1'
      replace c0 := hgrowu.cell c0 (hneu _ n2)
      replace c1 := hgrowu.cell c1 (hneu _ n2)
      replace e0 := hgrowu.cell e0 (hneu E (by omega))
      replace e1 := hgrowu.cell e1 (hneu E (by omega))
      replace e2 := hgrowu.cell e2 (hneu E (by omega))
      replace ca := ca.grown hgrowu (hneu _ (by omega))
      replace cb := cb.grown hgrowu (hneu _ (by omega))
      have lFw9 : F < w9.heap.size := by omega
      replace bl := bl.grown hgrowu (by omega) (by intro j hj; have e : some g2 = some j := hj; cases e; exact (own_lt ou).1)
      replace hownl := World.ownsRow.kept hownl hgrowu (.inr (by simp [Value.ownBlock]; omega))
      clear lF
      have lF := lFw9
      refine lt_pure (i := 16) (v := .pointer (some ⟨F, 0, none⟩)) (d := 189) hv16 (by rfl) (by kernel_rfl) (by kernel_rfl) (by kernel_rfl) (fun _ _ _ h => h) (by rfl) (fun w => rn_nil rfl f173 w) rfl hs16 (by decide) (fun a17 ρ17 hp17 => ?_)
      have hv17 := hp17.ev
      have hs17 := hp17.sz
      have f189 := hp17.at'
      replace f5 := (hp17.rest 5 (by decide)).trans f5
      replace f8 := (hp17.rest 8 (by decide)).trans f8
      replace f15 := (hp17.rest 15 (by decide)).trans f15
      replace f173 := (hp17.rest 173 (by decide)).trans f173
      replace f174 := (hp17.rest 174 (by decide)).trans f174
      replace f175 := (hp17.rest 175 (by decide)).trans f175
      replace f176 := (hp17.rest 176 (by decide)).trans f176
      replace f177 := (hp17.rest 177 (by decide)).trans f177
      replace f178 := (hp17.rest 178 (by decide)).trans f178
      replace f179 := (hp17.rest 179 (by decide)).trans f179
      replace f180 := (hp17.rest 180 (by decide)).trans f180
      replace f181 := (hp17.rest 181 (by decide)).trans f181
      replace f182 := (hp17.rest 182 (by decide)).trans f182
      replace f183 := (hp17.rest 183 (by decide)).trans f183
      replace f184 := (hp17.rest 184 (by decide)).trans f184
      replace f185 := (hp17.rest 185 (by decide)).trans f185
      replace f186 := (hp17.rest 186 (by decide)).trans f186
      replace f187 := (hp17.rest 187 (by decide)).trans f187
      replace f188 := (hp17.rest 188 (by decide)).trans f188
      refine lt_pure (i := 17) (v := .pointer (some ⟨F, 0, none⟩)) (d := 190) hv17 (by rfl) (by kernel_rfl) (by kernel_rfl) (by kernel_rfl) (fun _ _ _ h => h) (by rfl) (fun w => rn_f0 rfl f189 w) rfl hs17 (by decide) (fun a18 ρ18 hp18 => ?_)
      have hv18 := hp18.ev
      have hs18 := hp18.sz
      have f190 := hp18.at'
      replace f5 := (hp18.rest 5 (by decide)).trans f5
      replace f8 := (hp18.rest 8 (by decide)).trans f8
      replace f15 := (hp18.rest 15 (by decide)).trans f15
      replace f173 := (hp18.rest 173 (by decide)).trans f173
      replace f174 := (hp18.rest 174 (by decide)).trans f174
      replace f175 := (hp18.rest 175 (by decide)).trans f175
      replace f176 := (hp18.rest 176 (by decide)).trans f176
      replace f177 := (hp18.rest 177 (by decide)).trans f177
      replace f178 := (hp18.rest 178 (by decide)).trans f178
      replace f179 := (hp18.rest 179 (by decide)).trans f179
      replace f180 := (hp18.rest 180 (by decide)).trans f180
      replace f181 := (hp18.rest 181 (by decide)).trans f181
      replace f182 := (hp18.rest 182 (by decide)).trans f182
      replace f183 := (hp18.rest 183 (by decide)).trans f183
      replace f184 := (hp18.rest 184 (by decide)).trans f184
      replace f185 := (hp18.rest 185 (by decide)).trans f185
      replace f186 := (hp18.rest 186 (by decide)).trans f186
      replace f187 := (hp18.rest 187 (by decide)).trans f187
      replace f188 := (hp18.rest 188 (by decide)).trans f188
      replace f189 := (hp18.rest 189 (by decide)).trans f189
      refine wpLate_one (i := 18) (by kernel_rfl) ?_
      refine lt_skip (w' := (w9.setCell ⟨F, 0, none⟩ (.slice (some ⟨gl, 0, none⟩) (N + 1) capl))) hv18 (by rfl) (by rfl) (rn_store28 rfl f190 f181 w9 c0 f0') rfl (fun h => (Bool.noConfusion ((show lateOn _ _ _ _ = true from (by kernel_rfl)).symm.trans h))) ?_
      have c1' : (w9.setCell ⟨F, 0, none⟩ (.slice (some ⟨gl, 0, none⟩) (N + 1) capl)).cell? ⟨F, 1, none⟩ = some (.slice (some ⟨g2, 0, none⟩) N cap2) := (World.cell?_setCell_other _ _ _ _ (by intro e; injection e with _ e2 _; omega)).trans c1
      have f1'' : (w9.setCell ⟨F, 0, none⟩ (.slice (some ⟨gl, 0, none⟩) (N + 1) capl)).frozen? ⟨F, 1, none⟩ = false := (World.frozen?_setCell _ _ _ _).trans f1'
      refine lt_pure (i := 19) (v := .pointer (some ⟨F, 0, none⟩)) (d := 191) hv18 (by rfl) (by kernel_rfl) (by kernel_rfl) (by kernel_rfl) (fun _ _ _ h => h) (by rfl) (fun w => rn_nil rfl f174 w) rfl hs18 (by decide) (fun a19 ρ19 hp19 => ?_)
      have hv19 := hp19.ev
      have hs19 := hp19.sz
      have f191 := hp19.at'
      replace f5 := (hp19.rest 5 (by decide)).trans f5
      replace f8 := (hp19.rest 8 (by decide)).trans f8
      replace f15 := (hp19.rest 15 (by decide)).trans f15
      replace f173 := (hp19.rest 173 (by decide)).trans f173
      replace f174 := (hp19.rest 174 (by decide)).trans f174
      replace f175 := (hp19.rest 175 (by decide)).trans f175
      replace f176 := (hp19.rest 176 (by decide)).trans f176
      replace f177 := (hp19.rest 177 (by decide)).trans f177
      replace f178 := (hp19.rest 178 (by decide)).trans f178
      replace f179 := (hp19.rest 179 (by decide)).trans f179
      replace f180 := (hp19.rest 180 (by decide)).trans f180
      replace f181 := (hp19.rest 181 (by decide)).trans f181
      replace f182 := (hp19.rest 182 (by decide)).trans f182
      replace f183 := (hp19.rest 183 (by decide)).trans f183
      replace f184 := (hp19.rest 184 (by decide)).trans f184
      replace f185 := (hp19.rest 185 (by decide)).trans f185
      replace f186 := (hp19.rest 186 (by decide)).trans f186
      replace f187 := (hp19.rest 187 (by decide)).trans f187
      replace f188 := (hp19.rest 188 (by decide)).trans f188
      replace f189 := (hp19.rest 189 (by decide)).trans f189
      replace f190 := (hp19.rest 190 (by decide)).trans f190
      refine lt_pure (i := 20) (v := .pointer (some ⟨F, 1, none⟩)) (d := 192) hv19 (by rfl) (by kernel_rfl) (by kernel_rfl) (by kernel_rfl) (fun _ _ _ h => h) (by rfl) (fun w => rn_f1 rfl f191 w) rfl hs19 (by decide) (fun a20 ρ20 hp20 => ?_)
      have hv20 := hp20.ev
      have hs20 := hp20.sz
      have f192 := hp20.at'
      replace f5 := (hp20.rest 5 (by decide)).trans f5
      replace f8 := (hp20.rest 8 (by decide)).trans f8
      replace f15 := (hp20.rest 15 (by decide)).trans f15
      replace f173 := (hp20.rest 173 (by decide)).trans f173
      replace f174 := (hp20.rest 174 (by decide)).trans f174
      replace f175 := (hp20.rest 175 (by decide)).trans f175
      replace f176 := (hp20.rest 176 (by decide)).trans f176
      replace f177 := (hp20.rest 177 (by decide)).trans f177
      replace f178 := (hp20.rest 178 (by decide)).trans f178
      replace f179 := (hp20.rest 179 (by decide)).trans f179
      replace f180 := (hp20.rest 180 (by decide)).trans f180
      replace f181 := (hp20.rest 181 (by decide)).trans f181
      replace f182 := (hp20.rest 182 (by decide)).trans f182
      replace f183 := (hp20.rest 183 (by decide)).trans f183
      replace f184 := (hp20.rest 184 (by decide)).trans f184
      replace f185 := (hp20.rest 185 (by decide)).trans f185
      replace f186 := (hp20.rest 186 (by decide)).trans f186
      replace f187 := (hp20.rest 187 (by decide)).trans f187
      replace f188 := (hp20.rest 188 (by decide)).trans f188
      replace f189 := (hp20.rest 189 (by decide)).trans f189
      replace f190 := (hp20.rest 190 (by decide)).trans f190
      replace f191 := (hp20.rest 191 (by decide)).trans f191
      refine wpLate_one (i := 21) (by kernel_rfl) ?_
      refine lt_skip (w' := ((w9.setCell ⟨F, 0, none⟩ (.slice (some ⟨gl, 0, none⟩) (N + 1) capl)).setCell ⟨F, 1, none⟩ (.slice (some ⟨gu, 0, none⟩) (N + 1) capu))) hv20 (by rfl) (by rfl) (rn_store38 rfl f192 f188 (w9.setCell ⟨F, 0, none⟩ (.slice (some ⟨gl, 0, none⟩) (N + 1) capl)) c1' f1'') rfl (fun h => (Bool.noConfusion ((show lateOn _ _ _ _ = true from (by kernel_rfl)).symm.trans h))) ?_
      have hsw := given_fin hpre hM0 hM1 hN hownl hownu c0 c1 f0' f1' ca cb bl lF (by omega) (by omega) (by omega) (by omega) (by omega)
      refine wpLate_done (by kernel_rfl) ?_
      refine NoPanic.normal ?_
      have hq := hQ w5.heap.size w7.heap.size gl capl gu capu _ hsw
      rw [hp1.eq, hp2.eq, hp3.eq, hp4.eq, hp5.eq, hp6.eq, hp7.eq, hp8.eq, hp9.eq, hp10.eq, hp11.eq, hp12.eq, hp13.eq, hp14.eq, hp15.eq, hp16.eq, hp17.eq, hp18.eq, hp19.eq, hp20.eq] at hq
      exact hq
    · refine lt_value (v := .slice (some ⟨w6.heap.size, 0, none⟩) 1 1) (w' := w6.alloc (.cells #[.int .i64 I] 3)) (d := 187) hv13 (by rfl) (by rfl) (rn_build38 rfl f186 w6) rfl hs13 (by decide) (fun _ => .inr ⟨keepA _ c0, keepA _ c1, keepA _ e0, keepA _ e1, keepA _ e2⟩) (fun a14 ρ14 hp14 => ?_)
      have hv14 := hp14.ev
      have hs14 := hp14.sz
      have f187 := hp14.at'
      replace f5 := (hp14.rest 5 (by decide)).trans f5
      replace f8 := (hp14.rest 8 (by decide)).trans f8
      replace f15 := (hp14.rest 15 (by decide)).trans f15
      replace f173 := (hp14.rest 173 (by decide)).trans f173
      replace f174 := (hp14.rest 174 (by decide)).trans f174
      replace f175 := (hp14.rest 175 (by decide)).trans f175
      replace f176 := (hp14.rest 176 (by decide)).trans f176
      replace f177 := (hp14.rest 177 (by decide)).trans f177
      replace f178 := (hp14.rest 178 (by decide)).trans f178
      replace f179 := (hp14.rest 179 (by decide)).trans f179
      replace f180 := (hp14.rest 180 (by decide)).trans f180
      replace f182 := (hp14.rest 182 (by decide)).trans f182
      replace f183 := (hp14.rest 183 (by decide)).trans f183
      replace f184 := (hp14.rest 184 (by decide)).trans f184
      replace f185 := (hp14.rest 185 (by decide)).trans f185
      replace f186 := (hp14.rest 186 (by decide)).trans f186
      have zw7 : (w6.alloc (.cells #[.int .i64 I] 3)).heap.size = w6.heap.size + 1 := by simp
      have nwu : News (w6.alloc (.cells #[.int .i64 I] 3)) w6.heap.size [.int .i64 I] := News.new1 _ _ rfl _ _
      replace c0 := keepA (.cells #[.int .i64 I] 3) c0
      replace c1 := keepA (.cells #[.int .i64 I] 3) c1
      replace e0 := keepA (.cells #[.int .i64 I] 3) e0
      replace e1 := keepA (.cells #[.int .i64 I] 3) e1
      replace e2 := keepA (.cells #[.int .i64 I] 3) e2
      replace f0' := (World.frozen?_of_block (a := ⟨F, 0, none⟩) (Below.heap_alloc w6 (.cells #[.int .i64 I] 3) _ lF)).trans f0'
      replace f1' := (World.frozen?_of_block (a := ⟨F, 1, none⟩) (Below.heap_alloc w6 (.cells #[.int .i64 I] 3) _ lF)).trans f1'
      replace ol := World.ownsRow.alloc ol (.cells #[.int .i64 I] 3)
      replace ou := World.ownsRow.alloc ou (.cells #[.int .i64 I] 3)
      replace ca := ca.below ((Below.refl w6.heap.size w6).alloc (Nat.le_refl _) (.cells #[.int .i64 I] 3)) ca.hb
      replace cb := cb.below ((Below.refl w6.heap.size w6).alloc (Nat.le_refl _) (.cells #[.int .i64 I] 3)) cb.hb
      replace bl := bl.alloc (by omega) (.cells #[.int .i64 I] 3)
      replace nwl := nwl.alloc (.cells #[.int .i64 I] 3)
      have lFw7 : F < (w6.alloc (.cells #[.int .i64 I] 3)).heap.size := by omega
      generalize w6.alloc (.cells #[.int .i64 I] 3) = w7 at *
      clear lF
      have lF := lFw7
      refine wpLate_one (i := 8) (by kernel_rfl) ?_
      obtain ⟨gl, capl, w8, hrunl, hownl, hgrowl, hatl, hltl⟩ := run_append_lies (P := Try.prog) (w := w7) 28 28 b 24 i0 (.agg #[.int .i64 0, .int .i64 0, .int .i64 0]) 3 24 Try.underlying28 hi hz0 hz1 hz2' rfl (by decide) (.slice (some ⟨g, 0, none⟩) N cap) N (flat (ps.set I ⟨p.l, p.u, p.g + M⟩)) ol ⟨w5.heap.size, 0, none⟩ 1 1 [.int .i64 M, .int .i64 0, .int .i64 0] rfl nwl (by simp [Value.oneCell']) (by decide) (by unfold maxLen; omega) (by omega) (by omega) _ rfl
      have hgzl := hgrowl.size
      have hgcl : gl = g ∨ gl = w7.heap.size := by
        rcases hatl with h | h
        · left; have e : some g = some gl := h; cases e; rfl
        · right; exact h
      have hnel : ∀ x : Nat, x ≠ g → some x ≠ Value.ownBlock (.slice (some ⟨g, 0, none⟩) N cap) := fun x hx e => hx (by have e2 : some x = some g := e; cases e2; rfl)
      refine lt_value (v := .slice (some ⟨gl, 0, none⟩) (N + 1) capl) (w' := w8) (d := 181) hv14 (by rfl) (by rfl) (rn_append rfl rfl f178 f180 hrunl) rfl hs14 (by decide) (fun _ => .inr ⟨hgrowl.cell c0 (hnel _ n1), hgrowl.cell c1 (hnel _ n1), hgrowl.cell e0 (hnel E (by omega)), hgrowl.cell e1 (hnel E (by omega)), hgrowl.cell e2 (hnel E (by omega))⟩) (fun a15 ρ15 hp15 => ?_)
      have hv15 := hp15.ev
      have hs15 := hp15.sz
      have f181 := hp15.at'
      replace f5 := (hp15.rest 5 (by decide)).trans f5
      replace f8 := (hp15.rest 8 (by decide)).trans f8
      replace f15 := (hp15.rest 15 (by decide)).trans f15
      replace f173 := (hp15.rest 173 (by decide)).trans f173
      replace f174 := (hp15.rest 174 (by decide)).trans f174
      replace f175 := (hp15.rest 175 (by decide)).trans f175
      replace f176 := (hp15.rest 176 (by decide)).trans f176
      replace f177 := (hp15.rest 177 (by decide)).trans f177
      replace f178 := (hp15.rest 178 (by decide)).trans f178
      replace f179 := (hp15.rest 179 (by decide)).trans f179
      replace f180 := (hp15.rest 180 (by decide)).trans f180
      replace f182 := (hp15.rest 182 (by decide)).trans f182
      replace f183 := (hp15.rest 183 (by decide)).trans f183
      replace f184 := (hp15.rest 184 (by decide)).trans f184
      replace f185 := (hp15.rest 185 (by decide)).trans f185
      replace f186 := (hp15.rest 186 (by decide)).trans f186
      replace f187 := (hp15.rest 187 (by decide)).trans f187
      replace f0' := (hgrowl.frozen_far ⟨F, 0, none⟩ lF (hnel _ n1)).trans f0'
      replace f1' := (hgrowl.frozen_far ⟨F, 1, none⟩ lF (hnel _ n1)).trans f1'
      replace c0 := hgrowl.cell c0 (hnel _ n1)
      replace c1 := hgrowl.cell c1 (hnel _ n1)
      replace e0 := hgrowl.cell e0 (hnel E (by omega))
      replace e1 := hgrowl.cell e1 (hnel E (by omega))
      replace e2 := hgrowl.cell e2 (hnel E (by omega))
      replace ca := ca.grown hgrowl (hnel _ (by omega))
      replace cb := cb.grown hgrowl (hnel _ (by omega))
      have lFw8 : F < w8.heap.size := by omega
      replace bl := bl.grown hgrowl (by omega) (by intro j hj; have e : some g = some j := hj; cases e; exact (own_lt ol).1)
      replace ou := World.ownsRow.kept ou hgrowl (.inr (by simp [Value.ownBlock]; omega))
      replace nwu := nwu.grown hgrowl (hnel _ (by omega))
      clear lF
      have lF := lFw8
      refine wpLate_one (i := 15) (by kernel_rfl) ?_
      obtain ⟨gu, capu, w9, hrunu, hownu, hgrowu, hatu, hltu⟩ := run_append_lies (P := Try.prog) (w := w8) 38 38 b 3 i1 (.int .i64 0) 1 8 Try.underlying38 hi1 hz01 hz11 hz21 rfl (by decide) (.slice (some ⟨g2, 0, none⟩) N cap2) N (ints us) ou ⟨w6.heap.size, 0, none⟩ 1 1 [.int .i64 I] rfl nwu (by simp [Value.oneCell']) (by decide) (by unfold maxLen; omega) (by omega) (by omega) _ rfl
      have hgzu := hgrowu.size
      have hgcu : gu = g2 ∨ gu = w8.heap.size := by
        rcases hatu with h | h
        · left; have e : some g2 = some gu := h; cases e; rfl
        · right; exact h
      have hneu : ∀ x : Nat, x ≠ g2 → some x ≠ Value.ownBlock (.slice (some ⟨g2, 0, none⟩) N cap2) := fun x hx e => hx (by have e2 : some x = some g2 := e; cases e2; rfl)
      refine lt_value (v := .slice (some ⟨gu, 0, none⟩) (N + 1) capu) (w' := w9) (d := 188) hv15 (by rfl) (by rfl) (rn_append rfl rfl f185 f187 hrunu) rfl hs15 (by decide) (fun _ => .inr ⟨hgrowu.cell c0 (hneu _ n2), hgrowu.cell c1 (hneu _ n2), hgrowu.cell e0 (hneu E (by omega)), hgrowu.cell e1 (hneu E (by omega)), hgrowu.cell e2 (hneu E (by omega))⟩) (fun a16 ρ16 hp16 => ?_)
      have hv16 := hp16.ev
      have hs16 := hp16.sz
      have f188 := hp16.at'
      replace f5 := (hp16.rest 5 (by decide)).trans f5
      replace f8 := (hp16.rest 8 (by decide)).trans f8
      replace f15 := (hp16.rest 15 (by decide)).trans f15
      replace f173 := (hp16.rest 173 (by decide)).trans f173
      replace f174 := (hp16.rest 174 (by decide)).trans f174
      replace f175 := (hp16.rest 175 (by decide)).trans f175
      replace f176 := (hp16.rest 176 (by decide)).trans f176
      replace f177 := (hp16.rest 177 (by decide)).trans f177
      replace f178 := (hp16.rest 178 (by decide)).trans f178
      replace f179 := (hp16.rest 179 (by decide)).trans f179
      replace f180 := (hp16.rest 180 (by decide)).trans f180
      replace f181 := (hp16.rest 181 (by decide)).trans f181
      replace f182 := (hp16.rest 182 (by decide)).trans f182
      replace f183 := (hp16.rest 183 (by decide)).trans f183
      replace f184 := (hp16.rest 184 (by decide)).trans f184
      replace f185 := (hp16.rest 185 (by decide)).trans f185
      replace f186 := (hp16.rest 186 (by decide)).trans f186
      replace f187 := (hp16.rest 187 (by decide)).trans f187
      replace f0' := (hgrowu.frozen_far ⟨F, 0, none⟩ lF (hneu _ n2)).trans f0'
      replace f1' := (hgrowu.frozen_far ⟨F, 1, none⟩ lF (hneu _ n2)).trans f1'
      replace c0 := hgrowu.cell c0 (hneu _ n2)
      replace c1 := hgrowu.cell c1 (hneu _ n2)
      replace e0 := hgrowu.cell e0 (hneu E (by omega))
      replace e1 := hgrowu.cell e1 (hneu E (by omega))
      replace e2 := hgrowu.cell e2 (hneu E (by omega))
      replace ca := ca.grown hgrowu (hneu _ (by omega))
      replace cb := cb.grown hgrowu (hneu _ (by omega))
      have lFw9 : F < w9.heap.size := by omega
      replace bl := bl.grown hgrowu (by omega) (by intro j hj; have e : some g2 = some j := hj; cases e; exact (own_lt ou).1)
      replace hownl := World.ownsRow.kept hownl hgrowu (.inr (by simp [Value.ownBlock]; omega))
      clear lF
      have lF := lFw9
      refine lt_pure (i := 16) (v := .pointer (some ⟨F, 0, none⟩)) (d := 189) hv16 (by rfl) (by kernel_rfl) (by kernel_rfl) (by kernel_rfl) (fun _ _ _ h => h) (by rfl) (fun w => rn_nil rfl f173 w) rfl hs16 (by decide) (fun a17 ρ17 hp17 => ?_)
      have hv17 := hp17.ev
      have hs17 := hp17.sz
      have f189 := hp17.at'
      replace f5 := (hp17.rest 5 (by decide)).trans f5
      replace f8 := (hp17.rest 8 (by decide)).trans f8
      replace f15 := (hp17.rest 15 (by decide)).trans f15
      replace f173 := (hp17.rest 173 (by decide)).trans f173
      replace f174 := (hp17.rest 174 (by decide)).trans f174
      replace f175 := (hp17.rest 175 (by decide)).trans f175
      replace f176 := (hp17.rest 176 (by decide)).trans f176
      replace f177 := (hp17.rest 177 (by decide)).trans f177
      replace f178 := (hp17.rest 178 (by decide)).trans f178
      replace f179 := (hp17.rest 179 (by decide)).trans f179
      replace f180 := (hp17.rest 180 (by decide)).trans f180
      replace f181 := (hp17.rest 181 (by decide)).trans f181
      replace f182 := (hp17.rest 182 (by decide)).trans f182
      replace f183 := (hp17.rest 183 (by decide)).trans f183
      replace f184 := (hp17.rest 184 (by decide)).trans f184
      replace f185 := (hp17.rest 185 (by decide)).trans f185
      replace f186 := (hp17.rest 186 (by decide)).trans f186
      replace f187 := (hp17.rest 187 (by decide)).trans f187
      replace f188 := (hp17.rest 188 (by decide)).trans f188
      refine lt_pure (i := 17) (v := .pointer (some ⟨F, 0, none⟩)) (d := 190) hv17 (by rfl) (by kernel_rfl) (by kernel_rfl) (by kernel_rfl) (fun _ _ _ h => h) (by rfl) (fun w => rn_f0 rfl f189 w) rfl hs17 (by decide) (fun a18 ρ18 hp18 => ?_)
      have hv18 := hp18.ev
      have hs18 := hp18.sz
      have f190 := hp18.at'
      replace f5 := (hp18.rest 5 (by decide)).trans f5
      replace f8 := (hp18.rest 8 (by decide)).trans f8
      replace f15 := (hp18.rest 15 (by decide)).trans f15
      replace f173 := (hp18.rest 173 (by decide)).trans f173
      replace f174 := (hp18.rest 174 (by decide)).trans f174
      replace f175 := (hp18.rest 175 (by decide)).trans f175
      replace f176 := (hp18.rest 176 (by decide)).trans f176
      replace f177 := (hp18.rest 177 (by decide)).trans f177
      replace f178 := (hp18.rest 178 (by decide)).trans f178
      replace f179 := (hp18.rest 179 (by decide)).trans f179
      replace f180 := (hp18.rest 180 (by decide)).trans f180
      replace f181 := (hp18.rest 181 (by decide)).trans f181
      replace f182 := (hp18.rest 182 (by decide)).trans f182
      replace f183 := (hp18.rest 183 (by decide)).trans f183
      replace f184 := (hp18.rest 184 (by decide)).trans f184
      replace f185 := (hp18.rest 185 (by decide)).trans f185
      replace f186 := (hp18.rest 186 (by decide)).trans f186
      replace f187 := (hp18.rest 187 (by decide)).trans f187
      replace f188 := (hp18.rest 188 (by decide)).trans f188
      replace f189 := (hp18.rest 189 (by decide)).trans f189
      refine wpLate_one (i := 18) (by kernel_rfl) ?_
      refine lt_skip (w' := (w9.setCell ⟨F, 0, none⟩ (.slice (some ⟨gl, 0, none⟩) (N + 1) capl))) hv18 (by rfl) (by rfl) (rn_store28 rfl f190 f181 w9 c0 f0') rfl (fun h => (Bool.noConfusion ((show lateOn _ _ _ _ = true from (by kernel_rfl)).symm.trans h))) ?_
      have c1' : (w9.setCell ⟨F, 0, none⟩ (.slice (some ⟨gl, 0, none⟩) (N + 1) capl)).cell? ⟨F, 1, none⟩ = some (.slice (some ⟨g2, 0, none⟩) N cap2) := (World.cell?_setCell_other _ _ _ _ (by intro e; injection e with _ e2 _; omega)).trans c1
      have f1'' : (w9.setCell ⟨F, 0, none⟩ (.slice (some ⟨gl, 0, none⟩) (N + 1) capl)).frozen? ⟨F, 1, none⟩ = false := (World.frozen?_setCell _ _ _ _).trans f1'
      refine lt_pure (i := 19) (v := .pointer (some ⟨F, 0, none⟩)) (d := 191) hv18 (by rfl) (by kernel_rfl) (by kernel_rfl) (by kernel_rfl) (fun _ _ _ h => h) (by rfl) (fun w => rn_nil rfl f174 w) rfl hs18 (by decide) (fun a19 ρ19 hp19 => ?_)
      have hv19 := hp19.ev
      have hs19 := hp19.sz
      have f191 := hp19.at'
      replace f5 := (hp19.rest 5 (by decide)).trans f5
      replace f8 := (hp19.rest 8 (by decide)).trans f8
      replace f15 := (hp19.rest 15 (by decide)).trans f15
      replace f173 := (hp19.rest 173 (by decide)).trans f173
      replace f174 := (hp19.rest 174 (by decide)).trans f174
      replace f175 := (hp19.rest 175 (by decide)).trans f175
      replace f176 := (hp19.rest 176 (by decide)).trans f176
      replace f177 := (hp19.rest 177 (by decide)).trans f177
      replace f178 := (hp19.rest 178 (by decide)).trans f178
      replace f179 := (hp19.rest 179 (by decide)).trans f179
      replace f180 := (hp19.rest 180 (by decide)).trans f180
      replace f181 := (hp19.rest 181 (by decide)).trans f181
      replace f182 := (hp19.rest 182 (by decide)).trans f182
      replace f183 := (hp19.rest 183 (by decide)).trans f183
      replace f184 := (hp19.rest 184 (by decide)).trans f184
      replace f185 := (hp19.rest 185 (by decide)).trans f185
      replace f186 := (hp19.rest 186 (by decide)).trans f186
      replace f187 := (hp19.rest 187 (by decide)).trans f187
      replace f188 := (hp19.rest 188 (by decide)).trans f188
      replace f189 := (hp19.rest 189 (by decide)).trans f189
      replace f190 := (hp19.rest 190 (by decide)).trans f190
      refine lt_pure (i := 20) (v := .pointer (some ⟨F, 1, none⟩)) (d := 192) hv19 (by rfl) (by kernel_rfl) (by kernel_rfl) (by kernel_rfl) (fun _ _ _ h => h) (by rfl) (fun w => rn_f1 rfl f191 w) rfl hs19 (by decide) (fun a20 ρ20 hp20 => ?_)
      have hv20 := hp20.ev
      have hs20 := hp20.sz
      have f192 := hp20.at'
      replace f5 := (hp20.rest 5 (by decide)).trans f5
      replace f8 := (hp20.rest 8 (by decide)).trans f8
      replace f15 := (hp20.rest 15 (by decide)).trans f15
      replace f173 := (hp20.rest 173 (by decide)).trans f173
      replace f174 := (hp20.rest 174 (by decide)).trans f174
      replace f175 := (hp20.rest 175 (by decide)).trans f175
      replace f176 := (hp20.rest 176 (by decide)).trans f176
      replace f177 := (hp20.rest 177 (by decide)).trans f177
      replace f178 := (hp20.rest 178 (by decide)).trans f178
      replace f179 := (hp20.rest 179 (by decide)).trans f179
      replace f180 := (hp20.rest 180 (by decide)).trans f180
      replace f181 := (hp20.rest 181 (by decide)).trans f181
      replace f182 := (hp20.rest 182 (by decide)).trans f182
      replace f183 := (hp20.rest 183 (by decide)).trans f183
      replace f184 := (hp20.rest 184 (by decide)).trans f184
      replace f185 := (hp20.rest 185 (by decide)).trans f185
      replace f186 := (hp20.rest 186 (by decide)).trans f186
      replace f187 := (hp20.rest 187 (by decide)).trans f187
      replace f188 := (hp20.rest 188 (by decide)).trans f188
      replace f189 := (hp20.rest 189 (by decide)).trans f189
      replace f190 := (hp20.rest 190 (by decide)).trans f190
      replace f191 := (hp20.rest 191 (by decide)).trans f191
      refine wpLate_one (i := 21) (by kernel_rfl) ?_
      refine lt_skip (w' := ((w9.setCell ⟨F, 0, none⟩ (.slice (some ⟨gl, 0, none⟩) (N + 1) capl)).setCell ⟨F, 1, none⟩ (.slice (some ⟨gu, 0, none⟩) (N + 1) capu))) hv20 (by rfl) (by rfl) (rn_store38 rfl f192 f188 (w9.setCell ⟨F, 0, none⟩ (.slice (some ⟨gl, 0, none⟩) (N + 1) capl)) c1' f1'') rfl (fun h => (Bool.noConfusion ((show lateOn _ _ _ _ = true from (by kernel_rfl)).symm.trans h))) ?_
      have hsw := given_fin hpre hM0 hM1 hN hownl hownu c0 c1 f0' f1' ca cb bl lF (by omega) (by omega) (by omega) (by omega) (by omega)
      refine wpLate_done (by kernel_rfl) ?_
      refine NoPanic.normal ?_
      have hq := hQ w5.heap.size w6.heap.size gl capl gu capu _ hsw
      rw [put_comm _ 181 187 _ _ (by decide)] at hq
      rw [hp1.eq, hp2.eq, hp3.eq, hp4.eq, hp5.eq, hp6.eq, hp7.eq, hp8.eq, hp9.eq, hp10.eq, hp11.eq, hp12.eq, hp13.eq, hp14.eq, hp15.eq, hp16.eq, hp17.eq, hp18.eq, hp19.eq, hp20.eq] at hq
      exact hq
  · refine lt_value (v := .slice (some ⟨w5.heap.size, 0, none⟩) 1 1) (w' := w5.alloc (.cells #[.int .i64 I] 3)) (d := 187) hv12 (by rfl) (by rfl) (rn_build38 rfl f186 w5) rfl hs12 (by decide) (fun _ => .inr ⟨keepA _ c0, keepA _ c1, keepA _ e0, keepA _ e1, keepA _ e2⟩) (fun a13 ρ13 hp13 => ?_)
    have hv13 := hp13.ev
    have hs13 := hp13.sz
    have f187 := hp13.at'
    replace f5 := (hp13.rest 5 (by decide)).trans f5
    replace f8 := (hp13.rest 8 (by decide)).trans f8
    replace f15 := (hp13.rest 15 (by decide)).trans f15
    replace f173 := (hp13.rest 173 (by decide)).trans f173
    replace f174 := (hp13.rest 174 (by decide)).trans f174
    replace f175 := (hp13.rest 175 (by decide)).trans f175
    replace f176 := (hp13.rest 176 (by decide)).trans f176
    replace f177 := (hp13.rest 177 (by decide)).trans f177
    replace f178 := (hp13.rest 178 (by decide)).trans f178
    replace f179 := (hp13.rest 179 (by decide)).trans f179
    replace f182 := (hp13.rest 182 (by decide)).trans f182
    replace f183 := (hp13.rest 183 (by decide)).trans f183
    replace f184 := (hp13.rest 184 (by decide)).trans f184
    replace f185 := (hp13.rest 185 (by decide)).trans f185
    replace f186 := (hp13.rest 186 (by decide)).trans f186
    have zw6 : (w5.alloc (.cells #[.int .i64 I] 3)).heap.size = w5.heap.size + 1 := by simp
    have nwu : News (w5.alloc (.cells #[.int .i64 I] 3)) w5.heap.size [.int .i64 I] := News.new1 _ _ rfl _ _
    replace c0 := keepA (.cells #[.int .i64 I] 3) c0
    replace c1 := keepA (.cells #[.int .i64 I] 3) c1
    replace e0 := keepA (.cells #[.int .i64 I] 3) e0
    replace e1 := keepA (.cells #[.int .i64 I] 3) e1
    replace e2 := keepA (.cells #[.int .i64 I] 3) e2
    replace f0' := (World.frozen?_of_block (a := ⟨F, 0, none⟩) (Below.heap_alloc w5 (.cells #[.int .i64 I] 3) _ lF)).trans f0'
    replace f1' := (World.frozen?_of_block (a := ⟨F, 1, none⟩) (Below.heap_alloc w5 (.cells #[.int .i64 I] 3) _ lF)).trans f1'
    replace ol := World.ownsRow.alloc ol (.cells #[.int .i64 I] 3)
    replace ou := World.ownsRow.alloc ou (.cells #[.int .i64 I] 3)
    replace ca := ca.below ((Below.refl w5.heap.size w5).alloc (Nat.le_refl _) (.cells #[.int .i64 I] 3)) ca.hb
    replace cb := cb.below ((Below.refl w5.heap.size w5).alloc (Nat.le_refl _) (.cells #[.int .i64 I] 3)) cb.hb
    replace bl := bl.alloc (by omega) (.cells #[.int .i64 I] 3)
    have lFw6 : F < (w5.alloc (.cells #[.int .i64 I] 3)).heap.size := by omega
    generalize w5.alloc (.cells #[.int .i64 I] 3) = w6 at *
    clear lF
    have lF := lFw6
    refine wpLate_one (i := 7) (by kernel_rfl) ?_
    refine lt_value (v := .slice (some ⟨w6.heap.size, 0, none⟩) 1 1) (w' := w6.alloc (.cells #[.int .i64 M, .int .i64 0, .int .i64 0] 24)) (d := 180) hv13 (by rfl) (by rfl) (rn_build28 rfl f179 w6) rfl hs13 (by decide) (fun _ => .inr ⟨keepA _ c0, keepA _ c1, keepA _ e0, keepA _ e1, keepA _ e2⟩) (fun a14 ρ14 hp14 => ?_)
    have hv14 := hp14.ev
    have hs14 := hp14.sz
    have f180 := hp14.at'
    replace f5 := (hp14.rest 5 (by decide)).trans f5
    replace f8 := (hp14.rest 8 (by decide)).trans f8
    replace f15 := (hp14.rest 15 (by decide)).trans f15
    replace f173 := (hp14.rest 173 (by decide)).trans f173
    replace f174 := (hp14.rest 174 (by decide)).trans f174
    replace f175 := (hp14.rest 175 (by decide)).trans f175
    replace f176 := (hp14.rest 176 (by decide)).trans f176
    replace f177 := (hp14.rest 177 (by decide)).trans f177
    replace f178 := (hp14.rest 178 (by decide)).trans f178
    replace f179 := (hp14.rest 179 (by decide)).trans f179
    replace f182 := (hp14.rest 182 (by decide)).trans f182
    replace f183 := (hp14.rest 183 (by decide)).trans f183
    replace f184 := (hp14.rest 184 (by decide)).trans f184
    replace f185 := (hp14.rest 185 (by decide)).trans f185
    replace f186 := (hp14.rest 186 (by decide)).trans f186
    replace f187 := (hp14.rest 187 (by decide)).trans f187
    have zw7 : (w6.alloc (.cells #[.int .i64 M, .int .i64 0, .int .i64 0] 24)).heap.size = w6.heap.size + 1 := by simp
    have nwl : News (w6.alloc (.cells #[.int .i64 M, .int .i64 0, .int .i64 0] 24)) w6.heap.size [.int .i64 M, .int .i64 0, .int .i64 0] := News.new3 _ _ rfl _ _ _ _
    replace c0 := keepA (.cells #[.int .i64 M, .int .i64 0, .int .i64 0] 24) c0
    replace c1 := keepA (.cells #[.int .i64 M, .int .i64 0, .int .i64 0] 24) c1
    replace e0 := keepA (.cells #[.int .i64 M, .int .i64 0, .int .i64 0] 24) e0
    replace e1 := keepA (.cells #[.int .i64 M, .int .i64 0, .int .i64 0] 24) e1
    replace e2 := keepA (.cells #[.int .i64 M, .int .i64 0, .int .i64 0] 24) e2
    replace f0' := (World.frozen?_of_block (a := ⟨F, 0, none⟩) (Below.heap_alloc w6 (.cells #[.int .i64 M, .int .i64 0, .int .i64 0] 24) _ lF)).trans f0'
    replace f1' := (World.frozen?_of_block (a := ⟨F, 1, none⟩) (Below.heap_alloc w6 (.cells #[.int .i64 M, .int .i64 0, .int .i64 0] 24) _ lF)).trans f1'
    replace ol := World.ownsRow.alloc ol (.cells #[.int .i64 M, .int .i64 0, .int .i64 0] 24)
    replace ou := World.ownsRow.alloc ou (.cells #[.int .i64 M, .int .i64 0, .int .i64 0] 24)
    replace ca := ca.below ((Below.refl w6.heap.size w6).alloc (Nat.le_refl _) (.cells #[.int .i64 M, .int .i64 0, .int .i64 0] 24)) ca.hb
    replace cb := cb.below ((Below.refl w6.heap.size w6).alloc (Nat.le_refl _) (.cells #[.int .i64 M, .int .i64 0, .int .i64 0] 24)) cb.hb
    replace bl := bl.alloc (by omega) (.cells #[.int .i64 M, .int .i64 0, .int .i64 0] 24)
    replace nwu := nwu.alloc (.cells #[.int .i64 M, .int .i64 0, .int .i64 0] 24)
    have lFw7 : F < (w6.alloc (.cells #[.int .i64 M, .int .i64 0, .int .i64 0] 24)).heap.size := by omega
    generalize w6.alloc (.cells #[.int .i64 M, .int .i64 0, .int .i64 0] 24) = w7 at *
    clear lF
    have lF := lFw7
    refine wpLate_one (i := 8) (by kernel_rfl) ?_
    obtain ⟨gl, capl, w8, hrunl, hownl, hgrowl, hatl, hltl⟩ := run_append_lies (P := Try.prog) (w := w7) 28 28 b 24 i0 (.agg #[.int .i64 0, .int .i64 0, .int .i64 0]) 3 24 Try.underlying28 hi hz0 hz1 hz2' rfl (by decide) (.slice (some ⟨g, 0, none⟩) N cap) N (flat (ps.set I ⟨p.l, p.u, p.g + M⟩)) ol ⟨w6.heap.size, 0, none⟩ 1 1 [.int .i64 M, .int .i64 0, .int .i64 0] rfl nwl (by simp [Value.oneCell']) (by decide) (by unfold maxLen; omega) (by omega) (by omega) _ rfl
    have hgzl := hgrowl.size
    have hgcl : gl = g ∨ gl = w7.heap.size := by
      rcases hatl with h | h
      · left; have e : some g = some gl := h; cases e; rfl
      · right; exact h
    have hnel : ∀ x : Nat, x ≠ g → some x ≠ Value.ownBlock (.slice (some ⟨g, 0, none⟩) N cap) := fun x hx e => hx (by have e2 : some x = some g := e; cases e2; rfl)
    refine lt_value (v := .slice (some ⟨gl, 0, none⟩) (N + 1) capl) (w' := w8) (d := 181) hv14 (by rfl) (by rfl) (rn_append rfl rfl f178 f180 hrunl) rfl hs14 (by decide) (fun _ => .inr ⟨hgrowl.cell c0 (hnel _ n1), hgrowl.cell c1 (hnel _ n1), hgrowl.cell e0 (hnel E (by omega)), hgrowl.cell e1 (hnel E (by omega)), hgrowl.cell e2 (hnel E (by omega))⟩) (fun a15 ρ15 hp15 => ?_)
    have hv15 := hp15.ev
    have hs15 := hp15.sz
    have f181 := hp15.at'
    replace f5 := (hp15.rest 5 (by decide)).trans f5
    replace f8 := (hp15.rest 8 (by decide)).trans f8
    replace f15 := (hp15.rest 15 (by decide)).trans f15
    replace f173 := (hp15.rest 173 (by decide)).trans f173
    replace f174 := (hp15.rest 174 (by decide)).trans f174
    replace f175 := (hp15.rest 175 (by decide)).trans f175
    replace f176 := (hp15.rest 176 (by decide)).trans f176
    replace f177 := (hp15.rest 177 (by decide)).trans f177
    replace f178 := (hp15.rest 178 (by decide)).trans f178
    replace f179 := (hp15.rest 179 (by decide)).trans f179
    replace f180 := (hp15.rest 180 (by decide)).trans f180
    replace f182 := (hp15.rest 182 (by decide)).trans f182
    replace f183 := (hp15.rest 183 (by decide)).trans f183
    replace f184 := (hp15.rest 184 (by decide)).trans f184
    replace f185 := (hp15.rest 185 (by decide)).trans f185
    replace f186 := (hp15.rest 186 (by decide)).trans f186
    replace f187 := (hp15.rest 187 (by decide)).trans f187
    replace f0' := (hgrowl.frozen_far ⟨F, 0, none⟩ lF (hnel _ n1)).trans f0'
    replace f1' := (hgrowl.frozen_far ⟨F, 1, none⟩ lF (hnel _ n1)).trans f1'
    replace c0 := hgrowl.cell c0 (hnel _ n1)
    replace c1 := hgrowl.cell c1 (hnel _ n1)
    replace e0 := hgrowl.cell e0 (hnel E (by omega))
    replace e1 := hgrowl.cell e1 (hnel E (by omega))
    replace e2 := hgrowl.cell e2 (hnel E (by omega))
    replace ca := ca.grown hgrowl (hnel _ (by omega))
    replace cb := cb.grown hgrowl (hnel _ (by omega))
    have lFw8 : F < w8.heap.size := by omega
    replace bl := bl.grown hgrowl (by omega) (by intro j hj; have e : some g = some j := hj; cases e; exact (own_lt ol).1)
    replace ou := World.ownsRow.kept ou hgrowl (.inr (by simp [Value.ownBlock]; omega))
    replace nwu := nwu.grown hgrowl (hnel _ (by omega))
    clear lF
    have lF := lFw8
    refine wpLate_one (i := 15) (by kernel_rfl) ?_
    obtain ⟨gu, capu, w9, hrunu, hownu, hgrowu, hatu, hltu⟩ := run_append_lies (P := Try.prog) (w := w8) 38 38 b 3 i1 (.int .i64 0) 1 8 Try.underlying38 hi1 hz01 hz11 hz21 rfl (by decide) (.slice (some ⟨g2, 0, none⟩) N cap2) N (ints us) ou ⟨w5.heap.size, 0, none⟩ 1 1 [.int .i64 I] rfl nwu (by simp [Value.oneCell']) (by decide) (by unfold maxLen; omega) (by omega) (by omega) _ rfl
    have hgzu := hgrowu.size
    have hgcu : gu = g2 ∨ gu = w8.heap.size := by
      rcases hatu with h | h
      · left; have e : some g2 = some gu := h; cases e; rfl
      · right; exact h
    have hneu : ∀ x : Nat, x ≠ g2 → some x ≠ Value.ownBlock (.slice (some ⟨g2, 0, none⟩) N cap2) := fun x hx e => hx (by have e2 : some x = some g2 := e; cases e2; rfl)
    refine lt_value (v := .slice (some ⟨gu, 0, none⟩) (N + 1) capu) (w' := w9) (d := 188) hv15 (by rfl) (by rfl) (rn_append rfl rfl f185 f187 hrunu) rfl hs15 (by decide) (fun _ => .inr ⟨hgrowu.cell c0 (hneu _ n2), hgrowu.cell c1 (hneu _ n2), hgrowu.cell e0 (hneu E (by omega)), hgrowu.cell e1 (hneu E (by omega)), hgrowu.cell e2 (hneu E (by omega))⟩) (fun a16 ρ16 hp16 => ?_)
    have hv16 := hp16.ev
    have hs16 := hp16.sz
    have f188 := hp16.at'
    replace f5 := (hp16.rest 5 (by decide)).trans f5
    replace f8 := (hp16.rest 8 (by decide)).trans f8
    replace f15 := (hp16.rest 15 (by decide)).trans f15
    replace f173 := (hp16.rest 173 (by decide)).trans f173
    replace f174 := (hp16.rest 174 (by decide)).trans f174
    replace f175 := (hp16.rest 175 (by decide)).trans f175
    replace f176 := (hp16.rest 176 (by decide)).trans f176
    replace f177 := (hp16.rest 177 (by decide)).trans f177
    replace f178 := (hp16.rest 178 (by decide)).trans f178
    replace f179 := (hp16.rest 179 (by decide)).trans f179
    replace f180 := (hp16.rest 180 (by decide)).trans f180
    replace f181 := (hp16.rest 181 (by decide)).trans f181
    replace f182 := (hp16.rest 182 (by decide)).trans f182
    replace f183 := (hp16.rest 183 (by decide)).trans f183
    replace f184 := (hp16.rest 184 (by decide)).trans f184
    replace f185 := (hp16.rest 185 (by decide)).trans f185
    replace f186 := (hp16.rest 186 (by decide)).trans f186
    replace f187 := (hp16.rest 187 (by decide)).trans f187
    replace f0' := (hgrowu.frozen_far ⟨F, 0, none⟩ lF (hneu _ n2)).trans f0'
    replace f1' := (hgrowu.frozen_far ⟨F, 1, none⟩ lF (hneu _ n2)).trans f1'
    replace c0 := hgrowu.cell c0 (hneu _ n2)
    replace c1 := hgrowu.cell c1 (hneu _ n2)
    replace e0 := hgrowu.cell e0 (hneu E (by omega))
    replace e1 := hgrowu.cell e1 (hneu E (by omega))
    replace e2 := hgrowu.cell e2 (hneu E (by omega))
    replace ca := ca.grown hgrowu (hneu _ (by omega))
    replace cb := cb.grown hgrowu (hneu _ (by omega))
    have lFw9 : F < w9.heap.size := by omega
    replace bl := bl.grown hgrowu (by omega) (by intro j hj; have e : some g2 = some j := hj; cases e; exact (own_lt ou).1)
    replace hownl := World.ownsRow.kept hownl hgrowu (.inr (by simp [Value.ownBlock]; omega))
    clear lF
    have lF := lFw9
    refine lt_pure (i := 16) (v := .pointer (some ⟨F, 0, none⟩)) (d := 189) hv16 (by rfl) (by kernel_rfl) (by kernel_rfl) (by kernel_rfl) (fun _ _ _ h => h) (by rfl) (fun w => rn_nil rfl f173 w) rfl hs16 (by decide) (fun a17 ρ17 hp17 => ?_)
    have hv17 := hp17.ev
    have hs17 := hp17.sz
    have f189 := hp17.at'
    replace f5 := (hp17.rest 5 (by decide)).trans f5
    replace f8 := (hp17.rest 8 (by decide)).trans f8
    replace f15 := (hp17.rest 15 (by decide)).trans f15
    replace f173 := (hp17.rest 173 (by decide)).trans f173
    replace f174 := (hp17.rest 174 (by decide)).trans f174
    replace f175 := (hp17.rest 175 (by decide)).trans f175
    replace f176 := (hp17.rest 176 (by decide)).trans f176
    replace f177 := (hp17.rest 177 (by decide)).trans f177
    replace f178 := (hp17.rest 178 (by decide)).trans f178
    replace f179 := (hp17.rest 179 (by decide)).trans f179
    replace f180 := (hp17.rest 180 (by decide)).trans f180
    replace f181 := (hp17.rest 181 (by decide)).trans f181
    replace f182 := (hp17.rest 182 (by decide)).trans f182
    replace f183 := (hp17.rest 183 (by decide)).trans f183
    replace f184 := (hp17.rest 184 (by decide)).trans f184
    replace f185 := (hp17.rest 185 (by decide)).trans f185
    replace f186 := (hp17.rest 186 (by decide)).trans f186
    replace f187 := (hp17.rest 187 (by decide)).trans f187
    replace f188 := (hp17.rest 188 (by decide)).trans f188
    refine lt_pure (i := 17) (v := .pointer (some ⟨F, 0, none⟩)) (d := 190) hv17 (by rfl) (by kernel_rfl) (by kernel_rfl) (by kernel_rfl) (fun _ _ _ h => h) (by rfl) (fun w => rn_f0 rfl f189 w) rfl hs17 (by decide) (fun a18 ρ18 hp18 => ?_)
    have hv18 := hp18.ev
    have hs18 := hp18.sz
    have f190 := hp18.at'
    replace f5 := (hp18.rest 5 (by decide)).trans f5
    replace f8 := (hp18.rest 8 (by decide)).trans f8
    replace f15 := (hp18.rest 15 (by decide)).trans f15
    replace f173 := (hp18.rest 173 (by decide)).trans f173
    replace f174 := (hp18.rest 174 (by decide)).trans f174
    replace f175 := (hp18.rest 175 (by decide)).trans f175
    replace f176 := (hp18.rest 176 (by decide)).trans f176
    replace f177 := (hp18.rest 177 (by decide)).trans f177
    replace f178 := (hp18.rest 178 (by decide)).trans f178
    replace f179 := (hp18.rest 179 (by decide)).trans f179
    replace f180 := (hp18.rest 180 (by decide)).trans f180
    replace f181 := (hp18.rest 181 (by decide)).trans f181
    replace f182 := (hp18.rest 182 (by decide)).trans f182
    replace f183 := (hp18.rest 183 (by decide)).trans f183
    replace f184 := (hp18.rest 184 (by decide)).trans f184
    replace f185 := (hp18.rest 185 (by decide)).trans f185
    replace f186 := (hp18.rest 186 (by decide)).trans f186
    replace f187 := (hp18.rest 187 (by decide)).trans f187
    replace f188 := (hp18.rest 188 (by decide)).trans f188
    replace f189 := (hp18.rest 189 (by decide)).trans f189
    refine wpLate_one (i := 18) (by kernel_rfl) ?_
    refine lt_skip (w' := (w9.setCell ⟨F, 0, none⟩ (.slice (some ⟨gl, 0, none⟩) (N + 1) capl))) hv18 (by rfl) (by rfl) (rn_store28 rfl f190 f181 w9 c0 f0') rfl (fun h => (Bool.noConfusion ((show lateOn _ _ _ _ = true from (by kernel_rfl)).symm.trans h))) ?_
    have c1' : (w9.setCell ⟨F, 0, none⟩ (.slice (some ⟨gl, 0, none⟩) (N + 1) capl)).cell? ⟨F, 1, none⟩ = some (.slice (some ⟨g2, 0, none⟩) N cap2) := (World.cell?_setCell_other _ _ _ _ (by intro e; injection e with _ e2 _; omega)).trans c1
    have f1'' : (w9.setCell ⟨F, 0, none⟩ (.slice (some ⟨gl, 0, none⟩) (N + 1) capl)).frozen? ⟨F, 1, none⟩ = false := (World.frozen?_setCell _ _ _ _).trans f1'
    refine lt_pure (i := 19) (v := .pointer (some ⟨F, 0, none⟩)) (d := 191) hv18 (by rfl) (by kernel_rfl) (by kernel_rfl) (by kernel_rfl) (fun _ _ _ h => h) (by rfl) (fun w => rn_nil rfl f174 w) rfl hs18 (by decide) (fun a19 ρ19 hp19 => ?_)
    have hv19 := hp19.ev
    have hs19 := hp19.sz
    have f191 := hp19.at'
    replace f5 := (hp19.rest 5 (by decide)).trans f5
    replace f8 := (hp19.rest 8 (by decide)).trans f8
    replace f15 := (hp19.rest 15 (by decide)).trans f15
    replace f173 := (hp19.rest 173 (by decide)).trans f173
    replace f174 := (hp19.rest 174 (by decide)).trans f174
    replace f175 := (hp19.rest 175 (by decide)).trans f175
    replace f176 := (hp19.rest 176 (by decide)).trans f176
    replace f177 := (hp19.rest 177 (by decide)).trans f177
    replace f178 := (hp19.rest 178 (by decide)).trans f178
    replace f179 := (hp19.rest 179 (by decide)).trans f179
    replace f180 := (hp19.rest 180 (by decide)).trans f180
    replace f181 := (hp19.rest 181 (by decide)).trans f181
    replace f182 := (hp19.rest 182 (by decide)).trans f182
    replace f183 := (hp19.rest 183 (by decide)).trans f183
    replace f184 := (hp19.rest 184 (by decide)).trans f184
    replace f185 := (hp19.rest 185 (by decide)).trans f185
    replace f186 := (hp19.rest 186 (by decide)).trans f186
    replace f187 := (hp19.rest 187 (by decide)).trans f187
    replace f188 := (hp19.rest 188 (by decide)).trans f188
    replace f189 := (hp19.rest 189 (by decide)).trans f189
    replace f190 := (hp19.rest 190 (by decide)).trans f190
    refine lt_pure (i := 20) (v := .pointer (some ⟨F, 1, none⟩)) (d := 192) hv19 (by rfl) (by kernel_rfl) (by kernel_rfl) (by kernel_rfl) (fun _ _ _ h => h) (by rfl) (fun w => rn_f1 rfl f191 w) rfl hs19 (by decide) (fun a20 ρ20 hp20 => ?_)
    have hv20 := hp20.ev
    have hs20 := hp20.sz
    have f192 := hp20.at'
    replace f5 := (hp20.rest 5 (by decide)).trans f5
    replace f8 := (hp20.rest 8 (by decide)).trans f8
    replace f15 := (hp20.rest 15 (by decide)).trans f15
    replace f173 := (hp20.rest 173 (by decide)).trans f173
    replace f174 := (hp20.rest 174 (by decide)).trans f174
    replace f175 := (hp20.rest 175 (by decide)).trans f175
    replace f176 := (hp20.rest 176 (by decide)).trans f176
    replace f177 := (hp20.rest 177 (by decide)).trans f177
    replace f178 := (hp20.rest 178 (by decide)).trans f178
    replace f179 := (hp20.rest 179 (by decide)).trans f179
    replace f180 := (hp20.rest 180 (by decide)).trans f180
    replace f181 := (hp20.rest 181 (by decide)).trans f181
    replace f182 := (hp20.rest 182 (by decide)).trans f182
    replace f183 := (hp20.rest 183 (by decide)).trans f183
    replace f184 := (hp20.rest 184 (by decide)).trans f184
    replace f185 := (hp20.rest 185 (by decide)).trans f185
    replace f186 := (hp20.rest 186 (by decide)).trans f186
    replace f187 := (hp20.rest 187 (by decide)).trans f187
    replace f188 := (hp20.rest 188 (by decide)).trans f188
    replace f189 := (hp20.rest 189 (by decide)).trans f189
    replace f190 := (hp20.rest 190 (by decide)).trans f190
    replace f191 := (hp20.rest 191 (by decide)).trans f191
    refine wpLate_one (i := 21) (by kernel_rfl) ?_
    refine lt_skip (w' := ((w9.setCell ⟨F, 0, none⟩ (.slice (some ⟨gl, 0, none⟩) (N + 1) capl)).setCell ⟨F, 1, none⟩ (.slice (some ⟨gu, 0, none⟩) (N + 1) capu))) hv20 (by rfl) (by rfl) (rn_store38 rfl f192 f188 (w9.setCell ⟨F, 0, none⟩ (.slice (some ⟨gl, 0, none⟩) (N + 1) capl)) c1' f1'') rfl (fun h => (Bool.noConfusion ((show lateOn _ _ _ _ = true from (by kernel_rfl)).symm.trans h))) ?_
    have hsw := given_fin hpre hM0 hM1 hN hownl hownu c0 c1 f0' f1' ca cb bl lF (by omega) (by omega) (by omega) (by omega) (by omega)
    refine wpLate_done (by kernel_rfl) ?_
    refine NoPanic.normal ?_
    have hq := hQ w6.heap.size w5.heap.size gl capl gu capu _ hsw
    rw [put_comm _ 181 187 _ _ (by decide)] at hq
    rw [put_comm _ 180 187 _ _ (by decide)] at hq
    rw [hp1.eq, hp2.eq, hp3.eq, hp4.eq, hp5.eq, hp6.eq, hp7.eq, hp8.eq, hp9.eq, hp10.eq, hp11.eq, hp12.eq, hp13.eq, hp14.eq, hp15.eq, hp16.eq, hp17.eq, hp18.eq, hp19.eq, hp20.eq] at hq
    exact hq
end Go.Proofs.Yteflfflmedkdiaa
