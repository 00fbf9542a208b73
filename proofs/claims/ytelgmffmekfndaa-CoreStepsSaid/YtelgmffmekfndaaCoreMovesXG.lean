/- A store and a load whose bytes lie in the memory; strings of bytes. Conditions: as each theorem names them. The last statement of CoreMoves, which draws its order, at a frame that is a letter. Conditions: as each theorem names them. -/
import Derived.Test.YtelgmffmekfndaaCoreFitG
import Derived.Lib.Strings
set_option linter.unusedVariables false
namespace Go.Proofs.Ytelgmffmekfndaa
open Go.ChangeShapes Go.WideShapes Go.ChangeAt Go.RowKit

section
variable {n : Nat} {hole : Int} {R : Nat → Int} {pc : Int} {f : Nat → Int} {op imm : Int} {A B C : Nat}
theorem store_ho (hA : A < 16) (hB : B < 16) (hC : C < 16) (j0 : -2147483648 ≤ imm) (j1 : imm ≤ 2147483647) (o22 : 22 ≤ op) (o24 : op ≤ 24) (k pl : Nat) (hk0 : 0 < k) (hk8 : k ≤ 8) (hpl : pl + k ≤ 262144) (mask v : Int) (hms : MoveStores k mask) (hmask : bits .and .u64 (R A) mask = v) (hv : 0 ≤ v ∧ v < 18446744073709551616)
    (hw1 : ∀ w, Calls Try.prog 57 #[.int .i64 op] w fun e w' => e = .returned (.tuple #[.int .i64 k, .bool true]) ∧ w = w') (hp1 : ∀ w, Calls Try.prog 60 #[.int .u64 (R B), .int .i32 imm, .int .i64 k] w fun e w' => e = .returned (.tuple #[.int .i64 pl, .bool true]) ∧ w = w') (hr : Reach n hole pl k) :
    ∀ W c M g cap, St W c M g n cap hole R pc f → Calls Try.prog 83 #[.pointer (some ⟨c, 0, none⟩), insV op A B C imm, .iface 52 (.pointer (some ⟨M, 0, none⟩))] W fun e w' => e = .returned (.tuple #[.int .u64 (nx pc), .int .i64 0]) ∧ St w' c M g n cap hole R pc (stf f pl k v) ∧ Kept2 c g W w' := by
  intro W c M g cap h
  refine one_mem h.core A B C hA hB hC imm j0 j1 _ op 0 _ (by omega) o24 (fun w1 hg => ?_)
  have h' := h.none hg
  exact (hms h'.core A B C hA hB hC imm j0 j1 M g op pl v true (fun w2 => MemAt w2 M g n cap hole (stf f pl k v)) h.cg h'.gz hw1 hp1 hmask (fun w2 hg2 => (store_yes (h'.none hg2).mem h.Mg pl k v hv.1 hv.2 (by omega) hk0 hk8 hr).mono fun e w3 ⟨he, hm, hs⟩ => ⟨he, hm, hs.env⟩)).mono fun e w2 ⟨he, hm, hc, hg2⟩ => ⟨he, h'.stored hm hg2, (kept2_n hg).trans (kept2_g hg2)⟩
theorem load_ho (hf : ∀ i, 0 ≤ f i ∧ f i ≤ 255) (hA : A < 16) (hB : B < 16) (hC : C < 16) (j0 : -2147483648 ≤ imm) (j1 : imm ≤ 2147483647) (o19 : 19 ≤ op) (o21 : op ≤ 21) (k pl : Nat) (hk0 : 0 < k) (hk8 : k ≤ 8) (hpl : pl + k ≤ 262144)
    (hw1 : ∀ w, Calls Try.prog 57 #[.int .i64 op] w fun e w' => e = .returned (.tuple #[.int .i64 k, .bool false]) ∧ w = w') (hp1 : ∀ w, Calls Try.prog 60 #[.int .u64 (R B), .int .i32 imm, .int .i64 k] w fun e w' => e = .returned (.tuple #[.int .i64 pl, .bool true]) ∧ w = w') (hr : Reach n hole pl k) :
    ∀ W c M g cap, St W c M g n cap hole R pc f → Calls Try.prog 83 #[.pointer (some ⟨c, 0, none⟩), insV op A B C imm, .iface 52 (.pointer (some ⟨M, 0, none⟩))] W fun e w' => e = .returned (.tuple #[.int .u64 (nx pc), .int .i64 0]) ∧ St w' c M g n cap hole (fun i => if i = A then ldv (fun i => f (pl + i)) k else R i) pc f ∧ Kept2 c g W w' := by
  intro W c M g cap h
  have hv := ldv_bd (fun i => f (pl + i)) (fun i => hf _) k hk8
  refine one_mem h.core A B C hA hB hC imm j0 j1 _ op 0 _ o19 (by omega) (fun w1 hg => ?_)
  have h' := h.none hg
  exact (move_load h'.core A B C hA hB hC imm j0 j1 M op k pl _ hv.1 hv.2 hw1 hp1 (fun w2 hg2 => load_yes (h'.mem.grown hg2 (by simpa using fun e : M = c => h.cM e.symm) (by simpa using fun e : g = c => h.cg e.symm) h'.gz) pl k (by omega) hk0 hk8 hr)).mono fun e w2 ⟨he, hr⟩ => ⟨he, h'.ran hr, (kept2_n hg).trans (kept2_c hr.env)⟩
end

/-- a string of a memory's bytes -/
def strF (f : Nat → Int) (o k : Nat) : ByteArray := strOfNums ((List.range k).map fun i => f (o + i))
theorem conv_at {w : World} {M g n cap : Nat} {hole : Int} {f : Nat → Int} (h : MemAt w M g n cap hole f) (o k cap' : Nat) (ho : o + k ≤ n) :
    (convert 48 9 (.slice (some ⟨g, o, none⟩) k cap')).run Try.prog w = .ok (.string (strF f o k)) w :=
  run_convert_bytes_arg w 48 5 Try.underlying48 Try.underlying5 g o k cap' _ (by simp) (fun i hi => by
    rw [h.by' _ (by omega)]
    simp [List.getD, List.getElem?_map, List.getElem?_range hi]) 9 Try.underlying9
theorem strF_congr {f f' : Nat → Int} {o k : Nat} (h : ∀ i, i < k → f (o + i) = f' (o + i)) : strF f o k = strF f' o k := by
  unfold strF
  congr 1
  exact List.map_congr_left fun i hi => h i (List.mem_range.1 hi)
theorem strF_cut (f : Nat → Int) (n a b : Nat) (hab : a ≤ b) (hb : b ≤ n) : (strF f 0 n).extract a b = strF f a (b - a) := by
  apply ByteArray.ext
  apply Array.toList_inj.1
  rw [Go.Lib.extract_data]
  unfold strF
  rw [strOfNums_data, strOfNums_data]
  apply List.ext_getElem
  · simp; omega
  · intro i h1 h2
    simp [List.getElem_take, List.getElem_drop]
theorem strF_size (f : Nat → Int) (o n : Nat) : (strF f o n).size = n := by unfold strF; rw [strOfNums_size]; simp

/-- what is stored is loaded again -/
theorem load_stored (f : Nat → Int) (pl k : Nat) (v : Int) (hk : k ≤ 8) (v0 : 0 ≤ v) (v1 : v < 256 ^ k) : ldv (fun i => stf f pl k v (pl + i)) k = v := by
  have e : ∀ i, i < k → (fun i => stf f pl k v (pl + i)) i = stb v k i := fun i hi => by
    show stf f pl k v (pl + i) = _
    unfold stf
    rw [if_pos (by omega)]
    congr 1; omega
  have h2 : ∀ m, m ≤ k → ldv (fun i => stf f pl k v (pl + i)) m = ldv (stb v k) m := by
    intro m
    induction m with
    | zero => intro _; rfl
    | succ m ih =>
      intro hm
      have e1 : (stf f pl k v (pl + m)) = stb v k m := e m (by omega)
      show bits .or .u64 (IntKind.u64.wrap (ldv (fun i => stf f pl k v (pl + i)) m * 256)) (stf f pl k v (pl + m)) = bits .or .u64 (IntKind.u64.wrap (ldv (stb v k) m * 256)) (stb v k m)
      rw [ih (by omega), e1]
  rw [h2 k (Nat.le_refl _), ldv_lds _ (fun i => stb_bd v k i) k hk, lds_stb v v0 k k (Nat.le_refl _), Nat.sub_self, Int.pow_zero, Int.ediv_one]
  exact Int.emod_eq_of_lt v0 v1
theorem stf_bd (f : Nat → Int) (pl k : Nat) (v : Int) (hf : ∀ i, 0 ≤ f i ∧ f i ≤ 255) (i : Nat) : 0 ≤ stf f pl k v i ∧ stf f pl k v i ≤ 255 := by
  unfold stf
  split
  · exact stb_bd _ _ _
  · exact hf i
end Go.Proofs.Ytelgmffmekfndaa
set_option linter.unusedVariables false
namespace Go.Proofs.Ytelgmffmekfndaa
open Go.ChangeShapes Go.WideShapes Go.ChangeAt Go.RowKit

theorem wanted_of {ops : Array Oper} {a : Act} {ρ : Operand → Value} {oi : Oper} {j d n : Nat} {want : Bool} (hg : oi.guard = some (j, want)) (hd : (ops[j]?).bind (·.dst) = some d) (hρ : a.eval = ρ) (hz : a.tmps.size = n) (hdn : d < n) (hv : ρ (.tmp d) = .bool want) : Region.wanted oi (yielded ops a.tmps) = true := by
  subst hρ
  have h1 : a.tmps.getD d undef = .bool want := hv
  have h2 : a.tmps[d]? = some (.bool want) := by
    rw [Array.getD_eq_getD_getElem?] at h1
    rw [Array.getElem?_eq_getElem (by omega)] at h1 ⊢
    simpa using h1
  unfold Region.wanted
  rw [hg]
  unfold yielded
  simp only [hd, Option.bind_some, h2]
  exact beq_self_eq_true _
section
variable {ρ : Operand → Value}
theorem rn_eq22 {o : Oper} {x y : Operand} {a : Int} {s : TypeId} (ho : o.op = .binOp .eql 22 x y s) (h : ρ x = .int .u64 a) (h2 : ρ y = .int .u64 a) (w : World) : (execOp ρ o).run Try.prog w = .ok (.value (.bool true)) w := by
  unfold execOp; simp [ho, h, h2, go_sem]
theorem rn_eq9 {o : Oper} {x y : Operand} {a : ByteArray} {s : TypeId} (ho : o.op = .binOp .eql 9 x y s) (h : ρ x = .string a) (h2 : ρ y = .string a) (w : World) : (execOp ρ o).run Try.prog w = .ok (.value (.bool true)) w := by
  unfold execOp; simp [ho, h, h2, go_sem]
theorem rn_pick {o : Oper} {x y z : Operand} {v : Value} (ho : o.op = .pick x y z) (h : ρ x = .bool true) (h2 : ρ y = v) (w : World) : (execOp ρ o).run Try.prog w = .ok (.value v) w := by
  subst h2; unfold execOp; simp [ho, h, go_sem]
theorem rn_assign {o : Oper} {x : Operand} {v : Value} (ho : o.op = .assign x) (h : ρ x = v) (w : World) : (execOp ρ o).run Try.prog w = .ok (.value v) w := by
  subst h; unfold execOp; simp [ho, go_sem]
theorem rn_addtt {o : Oper} {x y : Operand} {a b v : Int} {s : TypeId} (ho : o.op = .binOp .add 3 x y s) (h : ρ x = .int .i64 a) (h2 : ρ y = .int .i64 b) (hx : IntKind.i64.wrap (a + b) = v) (w : World) : (execOp ρ o).run Try.prog w = .ok (.value (.int .i64 v)) w := by
  subst hx
  unfold execOp; simp [ho, h, h2, go_sem]
theorem rn_sl48b {o : Oper} {x y z : Operand} {g n c k b : Nat} (ho : o.op = .slice 48 x (some y) (some z) none) (h : ρ x = .slice (some ⟨g, 0, none⟩) n c) (h2 : ρ y = .int .i64 (k : Nat)) (h3 : ρ z = .int .i64 (b : Nat)) (hk : k ≤ b) (hb : b ≤ c) (hn : n ≤ c) (hkc : ¬ c = k) (w : World) : (execOp ρ o).run Try.prog w = .ok (.value (.slice (some ⟨g, k, none⟩) (b - k) (c - k))) w := by
  have h4 : (k : Int) ≤ (b : Int) := by omega
  have h5 : (b : Int) ≤ (c : Int) := by omega
  have h6 : 0 ≤ (k : Int) := by omega
  unfold execOp; simp [ho, h, h2, h3, h4, h5, hkc, go_sem]
theorem rn_conv {o : Oper} {x : Operand} {v : Value} {B : ByteArray} (ho : o.op = .convert 48 9 x) (h : ρ x = v) {w : World} (hc : (convert 48 9 v).run Try.prog w = .ok (.string B) w) : (execOp ρ o).run Try.prog w = .ok (.value (.string B)) w := by
  subst h
  unfold execOp
  simp only [ho, Sem.run_bind, hc, Result.andThen_ok, Sem.run_pure]
theorem rn_sls {o : Oper} {x y z : Operand} {S B : ByteArray} {k b : Nat} (ho : o.op = .slice 9 x (some y) (some z) none) (h : ρ x = .string S) (h2 : ρ y = .int .i64 (k : Nat)) (h3 : ρ z = .int .i64 (b : Nat)) (hk : k ≤ b) (hb : b ≤ S.size) (hB : S.extract k b = B) (w : World) : (execOp ρ o).run Try.prog w = .ok (.value (.string B)) w := by
  have h4 : (k : Int) ≤ (b : Int) := by omega
  have h5 : (b : Int) ≤ (S.size : Int) := by omega
  have h6 : 0 ≤ (k : Int) := by omega
  unfold execOp; simp [ho, h, h2, h3, h4, h5, go_sem, hB]
theorem rn_sls1 {o : Oper} {x y : Operand} {S B : ByteArray} {k : Nat} (ho : o.op = .slice 9 x (some y) none none) (h : ρ x = .string S) (h2 : ρ y = .int .i64 (k : Nat)) (hk : k ≤ S.size) (hB : S.extract k S.size = B) (w : World) : (execOp ρ o).run Try.prog w = .ok (.value (.string B)) w := by
  have h4 : (k : Int) ≤ (S.size : Int) := by omega
  have h6 : 0 ≤ (k : Int) := by omega
  unfold execOp; simp [ho, h, h2, h4, go_sem, hB]
end
noncomputable def code20_22 : Code := (Try.f20.body.bind (regionOf 22)).getD .skip
set_option maxRecDepth 100000 in
set_option maxHeartbeats 4000000 in
theorem moves_reg (c M g cap a k : Nat) (hole v : Int) (f : Nat → Int) (O S1 S2 : ByteArray) (wA : World) (hm0 : MemAt wA M g 256 cap hole f) (gz0 : g < wA.heap.size) (c50 : wA.cell? ⟨c, 5, none⟩ = some (.int .u64 v)) (h64 : 64 ≤ a) (hak : a + k ≤ 192) (hcap : ¬ cap = 64) (hc256 : 256 ≤ cap)
    (hSa : strF f 64 (a - 64) = S1) (hSb : strF f (a + k) (256 - (a + k)) = S2) (hO1 : a ≤ O.size) (hO2 : O.extract 64 a = S1) (hO3 : a + k ≤ O.size) (hO4 : O.extract (a + k) O.size = S2)
    (a0 : Act) (hs0 : a0.tmps.size = 138) (f1 : a0.eval (.tmp 1) = .int .i64 (a : Nat)) (f7 : a0.eval (.tmp 7) = .int .i64 (k : Nat)) (f8 : a0.eval (.tmp 8) = .pointer (some ⟨M, 0, none⟩)) (f10 : a0.eval (.tmp 10) = .string O) (f11 : a0.eval (.tmp 11) = .pointer (some ⟨c, 0, none⟩)) (f12 : a0.eval (.tmp 12) = .int .u64 v) (Q : Exit → Act → World → Prop)
    (hQ : Q .normal ((((((((((((((((((((((((((((((((((((a0.put (some 103) (.pointer (some ⟨c, 0, none⟩))).put (some 104) (.pointer (some ⟨c, 5, none⟩))).put (some 105) (.int .u64 v)).put (some 106) (.int .u64 v)).put (some 107) (.bool true)).put (some 108) (.bool true)).put (some 109) (.pointer (some ⟨M, 0, none⟩))).put (some 110) (.pointer (some ⟨M, 0, none⟩))).put (some 111) (.pointer (some ⟨M, 0, none⟩))).put (some 112) (.slice (some ⟨g, 0, none⟩) 256 cap)).put (some 113) (.int .i64 (a : Nat))).put (some 114) (.slice (some ⟨g, 64, none⟩) (a - 64) (cap - 64))).put (some 115) (.string S1)).put (some 116) (.string O)).put (some 117) (.int .i64 (a : Nat))).put (some 118) (.string S1)).put (some 119) (.bool true)).put (some 120) (.bool true)).put (some 121) (.bool true)).put (some 122) (.pointer (some ⟨M, 0, none⟩))).put (some 123) (.pointer (some ⟨M, 0, none⟩))).put (some 124) (.pointer (some ⟨M, 0, none⟩))).put (some 125) (.slice (some ⟨g, 0, none⟩) 256 cap)).put (some 126) (.int .i64 (a : Nat))).put (some 127) (.int .i64 (k : Nat))).put (some 128) (.int .i64 ((a + k : Nat) : Int))).put (some 129) (.slice (some ⟨g, a + k, none⟩) (256 - (a + k)) (cap - (a + k)))).put (some 130) (.string S2)).put (some 131) (.string O)).put (some 132) (.int .i64 (a : Nat))).put (some 133) (.int .i64 (k : Nat))).put (some 134) (.int .i64 ((a + k : Nat) : Int))).put (some 135) (.string S2)).put (some 136) (.bool true)).put (some 137) (.bool true)).put (some 6) (.bool true)) wA.drew) : code20_22.wp Try.prog Q a0 wA := by
  conv => arg 2; whnf
  refine wp_region_noPanic ?_
  refine wp_region_late (fun w' => w'.cell? ⟨c, 5, none⟩ = some (.int .u64 v) ∧ MemAt w' M g 256 cap hole f) [2, 9, 12, 22, 27] 36 (by rfl) (by kernel_rfl) ?_
  have c5 : wA.drew.cell? ⟨c, 5, none⟩ = some (.int .u64 v) := c50
  have hm : MemAt wA.drew M g 256 cap hole f := hm0.grown (row := none) ⟨rfl, rfl, rfl, Nat.le_refl _, fun _ _ _ => rfl⟩ (by simp) (by simp) gz0
  clear c50 hm0 gz0
  generalize wA.drew = w5 at *
  have hv0 : a0.eval = a0.eval := rfl
  refine lt_pure (i := 0) (v := .pointer (some ⟨c, 0, none⟩)) (d := 103) hv0 (by rfl) (by kernel_rfl) (by kernel_rfl) (by kernel_rfl) (fun _ _ _ h => h) (by rfl) (fun w => rn_f57 rfl f11 w) rfl hs0 (by decide) (fun a1 ρ1 hp1 => ?_)
  have hv1 := hp1.ev
  have hs1 := hp1.sz
  have f103 := hp1.at'
  replace f1 := (hp1.rest 1 (by decide)).trans f1
  replace f7 := (hp1.rest 7 (by decide)).trans f7
  replace f8 := (hp1.rest 8 (by decide)).trans f8
  replace f10 := (hp1.rest 10 (by decide)).trans f10
  replace f11 := (hp1.rest 11 (by decide)).trans f11
  replace f12 := (hp1.rest 12 (by decide)).trans f12
  refine lt_pure (i := 1) (v := .pointer (some ⟨c, 5, none⟩)) (d := 104) hv1 (by rfl) (by kernel_rfl) (by kernel_rfl) (by kernel_rfl) (fun _ _ _ h => h) (by rfl) (fun w => rn_ix55 (A := 5) rfl f103 (by rw [← hv1]; rfl) (by omega) w) rfl hs1 (by decide) (fun a2 ρ2 hp2 => ?_)
  have hv2 := hp2.ev
  have hs2 := hp2.sz
  have f104 := hp2.at'
  replace f1 := (hp2.rest 1 (by decide)).trans f1
  replace f7 := (hp2.rest 7 (by decide)).trans f7
  replace f8 := (hp2.rest 8 (by decide)).trans f8
  replace f10 := (hp2.rest 10 (by decide)).trans f10
  replace f11 := (hp2.rest 11 (by decide)).trans f11
  replace f12 := (hp2.rest 12 (by decide)).trans f12
  replace f103 := (hp2.rest 103 (by decide)).trans f103
  refine lt_load (i := 2) (v := .int .u64 v) (d := 105) hv2 (by rfl) (by kernel_rfl) (by kernel_rfl) (by kernel_rfl) (by simp) (fun _ _ _ h => h) (by rfl) (fun w hS => rn_load22 rfl f104 w hS.1) ⟨c5, hm⟩ rfl hs2 (by decide) (fun a3 ρ3 hp3 => ?_)
  have hv3 := hp3.ev
  have hs3 := hp3.sz
  have f105 := hp3.at'
  replace f1 := (hp3.rest 1 (by decide)).trans f1
  replace f7 := (hp3.rest 7 (by decide)).trans f7
  replace f8 := (hp3.rest 8 (by decide)).trans f8
  replace f10 := (hp3.rest 10 (by decide)).trans f10
  replace f11 := (hp3.rest 11 (by decide)).trans f11
  replace f12 := (hp3.rest 12 (by decide)).trans f12
  replace f103 := (hp3.rest 103 (by decide)).trans f103
  replace f104 := (hp3.rest 104 (by decide)).trans f104
  refine lt_pure (i := 3) (v := .int .u64 v) (d := 106) hv3 (by rfl) (by kernel_rfl) (by kernel_rfl) (by kernel_rfl) (fun _ _ _ h => h) (by rfl) (fun w => rn_move rfl f12 w) rfl hs3 (by decide) (fun a4 ρ4 hp4 => ?_)
  have hv4 := hp4.ev
  have hs4 := hp4.sz
  have f106 := hp4.at'
  replace f1 := (hp4.rest 1 (by decide)).trans f1
  replace f7 := (hp4.rest 7 (by decide)).trans f7
  replace f8 := (hp4.rest 8 (by decide)).trans f8
  replace f10 := (hp4.rest 10 (by decide)).trans f10
  replace f11 := (hp4.rest 11 (by decide)).trans f11
  replace f12 := (hp4.rest 12 (by decide)).trans f12
  replace f103 := (hp4.rest 103 (by decide)).trans f103
  replace f104 := (hp4.rest 104 (by decide)).trans f104
  replace f105 := (hp4.rest 105 (by decide)).trans f105
  refine lt_pure (i := 4) (v := .bool true) (d := 107) hv4 (by rfl) (by kernel_rfl) (by kernel_rfl) (by kernel_rfl) (fun _ _ _ h => h) (by rfl) (fun w => rn_eq22 rfl f105 f106 w) rfl hs4 (by decide) (fun a5 ρ5 hp5 => ?_)
  have hv5 := hp5.ev
  have hs5 := hp5.sz
  have f107 := hp5.at'
  replace f1 := (hp5.rest 1 (by decide)).trans f1
  replace f7 := (hp5.rest 7 (by decide)).trans f7
  replace f8 := (hp5.rest 8 (by decide)).trans f8
  replace f10 := (hp5.rest 10 (by decide)).trans f10
  replace f11 := (hp5.rest 11 (by decide)).trans f11
  replace f12 := (hp5.rest 12 (by decide)).trans f12
  replace f103 := (hp5.rest 103 (by decide)).trans f103
  replace f104 := (hp5.rest 104 (by decide)).trans f104
  replace f105 := (hp5.rest 105 (by decide)).trans f105
  replace f106 := (hp5.rest 106 (by decide)).trans f106
  refine lt_pure (i := 5) (v := .bool true) (d := 108) hv5 (by rfl) (by kernel_rfl) (by kernel_rfl) (by kernel_rfl) (fun _ _ _ h => h) (by rfl) (fun w => rn_move rfl f107 w) rfl hs5 (by decide) (fun a6 ρ6 hp6 => ?_)
  have hv6 := hp6.ev
  have hs6 := hp6.sz
  have f108 := hp6.at'
  replace f1 := (hp6.rest 1 (by decide)).trans f1
  replace f7 := (hp6.rest 7 (by decide)).trans f7
  replace f8 := (hp6.rest 8 (by decide)).trans f8
  replace f10 := (hp6.rest 10 (by decide)).trans f10
  replace f11 := (hp6.rest 11 (by decide)).trans f11
  replace f12 := (hp6.rest 12 (by decide)).trans f12
  replace f103 := (hp6.rest 103 (by decide)).trans f103
  replace f104 := (hp6.rest 104 (by decide)).trans f104
  replace f105 := (hp6.rest 105 (by decide)).trans f105
  replace f106 := (hp6.rest 106 (by decide)).trans f106
  replace f107 := (hp6.rest 107 (by decide)).trans f107
  refine lt_pure (i := 6) (v := .pointer (some ⟨M, 0, none⟩)) (d := 109) hv6 (by rfl) (by kernel_rfl) (by kernel_rfl) (by kernel_rfl) (fun _ _ _ h => h) (wanted_of (d := 108) (by rfl) (by rfl) hv6 hs6 (by decide) f108) (fun w => rn_move rfl f8 w) rfl hs6 (by decide) (fun a7 ρ7 hp7 => ?_)
  have hv7 := hp7.ev
  have hs7 := hp7.sz
  have f109 := hp7.at'
  replace f1 := (hp7.rest 1 (by decide)).trans f1
  replace f7 := (hp7.rest 7 (by decide)).trans f7
  replace f8 := (hp7.rest 8 (by decide)).trans f8
  replace f10 := (hp7.rest 10 (by decide)).trans f10
  replace f11 := (hp7.rest 11 (by decide)).trans f11
  replace f12 := (hp7.rest 12 (by decide)).trans f12
  replace f103 := (hp7.rest 103 (by decide)).trans f103
  replace f104 := (hp7.rest 104 (by decide)).trans f104
  replace f105 := (hp7.rest 105 (by decide)).trans f105
  replace f106 := (hp7.rest 106 (by decide)).trans f106
  replace f107 := (hp7.rest 107 (by decide)).trans f107
  replace f108 := (hp7.rest 108 (by decide)).trans f108
  refine lt_pure (i := 7) (v := .pointer (some ⟨M, 0, none⟩)) (d := 110) hv7 (by rfl) (by kernel_rfl) (by kernel_rfl) (by kernel_rfl) (fun _ _ _ h => h) (wanted_of (d := 108) (by rfl) (by rfl) hv7 hs7 (by decide) f108) (fun w => rn_nil rfl f109 w) rfl hs7 (by decide) (fun a8 ρ8 hp8 => ?_)
  have hv8 := hp8.ev
  have hs8 := hp8.sz
  have f110 := hp8.at'
  replace f1 := (hp8.rest 1 (by decide)).trans f1
  replace f7 := (hp8.rest 7 (by decide)).trans f7
  replace f8 := (hp8.rest 8 (by decide)).trans f8
  replace f10 := (hp8.rest 10 (by decide)).trans f10
  replace f11 := (hp8.rest 11 (by decide)).trans f11
  replace f12 := (hp8.rest 12 (by decide)).trans f12
  replace f103 := (hp8.rest 103 (by decide)).trans f103
  replace f104 := (hp8.rest 104 (by decide)).trans f104
  replace f105 := (hp8.rest 105 (by decide)).trans f105
  replace f106 := (hp8.rest 106 (by decide)).trans f106
  replace f107 := (hp8.rest 107 (by decide)).trans f107
  replace f108 := (hp8.rest 108 (by decide)).trans f108
  replace f109 := (hp8.rest 109 (by decide)).trans f109
  refine lt_pure (i := 8) (v := .pointer (some ⟨M, 0, none⟩)) (d := 111) hv8 (by rfl) (by kernel_rfl) (by kernel_rfl) (by kernel_rfl) (fun _ _ _ h => h) (wanted_of (d := 108) (by rfl) (by rfl) hv8 hs8 (by decide) f108) (fun w => rn_f54 rfl f110 w) rfl hs8 (by decide) (fun a9 ρ9 hp9 => ?_)
  have hv9 := hp9.ev
  have hs9 := hp9.sz
  have f111 := hp9.at'
  replace f1 := (hp9.rest 1 (by decide)).trans f1
  replace f7 := (hp9.rest 7 (by decide)).trans f7
  replace f8 := (hp9.rest 8 (by decide)).trans f8
  replace f10 := (hp9.rest 10 (by decide)).trans f10
  replace f11 := (hp9.rest 11 (by decide)).trans f11
  replace f12 := (hp9.rest 12 (by decide)).trans f12
  replace f103 := (hp9.rest 103 (by decide)).trans f103
  replace f104 := (hp9.rest 104 (by decide)).trans f104
  replace f105 := (hp9.rest 105 (by decide)).trans f105
  replace f106 := (hp9.rest 106 (by decide)).trans f106
  replace f107 := (hp9.rest 107 (by decide)).trans f107
  replace f108 := (hp9.rest 108 (by decide)).trans f108
  replace f109 := (hp9.rest 109 (by decide)).trans f109
  replace f110 := (hp9.rest 110 (by decide)).trans f110
  refine lt_load (i := 9) (v := .slice (some ⟨g, 0, none⟩) 256 cap) (d := 112) hv9 (by rfl) (by kernel_rfl) (by kernel_rfl) (by kernel_rfl) (by simp) (fun _ _ _ h => h) (wanted_of (d := 108) (by rfl) (by rfl) hv9 hs9 (by decide) f108) (fun w hS => rn_load48 rfl f111 w hS.2.cb) ⟨c5, hm⟩ rfl hs9 (by decide) (fun a10 ρ10 hp10 => ?_)
  have hv10 := hp10.ev
  have hs10 := hp10.sz
  have f112 := hp10.at'
  replace f1 := (hp10.rest 1 (by decide)).trans f1
  replace f7 := (hp10.rest 7 (by decide)).trans f7
  replace f8 := (hp10.rest 8 (by decide)).trans f8
  replace f10 := (hp10.rest 10 (by decide)).trans f10
  replace f11 := (hp10.rest 11 (by decide)).trans f11
  replace f12 := (hp10.rest 12 (by decide)).trans f12
  replace f103 := (hp10.rest 103 (by decide)).trans f103
  replace f104 := (hp10.rest 104 (by decide)).trans f104
  replace f105 := (hp10.rest 105 (by decide)).trans f105
  replace f106 := (hp10.rest 106 (by decide)).trans f106
  replace f107 := (hp10.rest 107 (by decide)).trans f107
  replace f108 := (hp10.rest 108 (by decide)).trans f108
  replace f109 := (hp10.rest 109 (by decide)).trans f109
  replace f110 := (hp10.rest 110 (by decide)).trans f110
  replace f111 := (hp10.rest 111 (by decide)).trans f111
  refine lt_pure (i := 10) (v := .int .i64 (a : Nat)) (d := 113) hv10 (by rfl) (by kernel_rfl) (by kernel_rfl) (by kernel_rfl) (fun _ _ _ h => h) (wanted_of (d := 108) (by rfl) (by rfl) hv10 hs10 (by decide) f108) (fun w => rn_move rfl f1 w) rfl hs10 (by decide) (fun a11 ρ11 hp11 => ?_)
  have hv11 := hp11.ev
  have hs11 := hp11.sz
  have f113 := hp11.at'
  replace f1 := (hp11.rest 1 (by decide)).trans f1
  replace f7 := (hp11.rest 7 (by decide)).trans f7
  replace f8 := (hp11.rest 8 (by decide)).trans f8
  replace f10 := (hp11.rest 10 (by decide)).trans f10
  replace f11 := (hp11.rest 11 (by decide)).trans f11
  replace f12 := (hp11.rest 12 (by decide)).trans f12
  replace f103 := (hp11.rest 103 (by decide)).trans f103
  replace f104 := (hp11.rest 104 (by decide)).trans f104
  replace f105 := (hp11.rest 105 (by decide)).trans f105
  replace f106 := (hp11.rest 106 (by decide)).trans f106
  replace f107 := (hp11.rest 107 (by decide)).trans f107
  replace f108 := (hp11.rest 108 (by decide)).trans f108
  replace f109 := (hp11.rest 109 (by decide)).trans f109
  replace f110 := (hp11.rest 110 (by decide)).trans f110
  replace f111 := (hp11.rest 111 (by decide)).trans f111
  replace f112 := (hp11.rest 112 (by decide)).trans f112
  refine lt_pure (i := 11) (v := .slice (some ⟨g, 64, none⟩) (a - 64) (cap - 64)) (d := 114) hv11 (by rfl) (by kernel_rfl) (by kernel_rfl) (by kernel_rfl) (fun _ _ _ h => h) (wanted_of (d := 108) (by rfl) (by rfl) hv11 hs11 (by decide) f108) (fun w => rn_sl48b (k := 64) rfl f112 (by rw [← hv11]; rfl) f113 h64 (by omega) (by omega) hcap w) rfl hs11 (by decide) (fun a12 ρ12 hp12 => ?_)
  have hv12 := hp12.ev
  have hs12 := hp12.sz
  have f114 := hp12.at'
  replace f1 := (hp12.rest 1 (by decide)).trans f1
  replace f7 := (hp12.rest 7 (by decide)).trans f7
  replace f8 := (hp12.rest 8 (by decide)).trans f8
  replace f10 := (hp12.rest 10 (by decide)).trans f10
  replace f11 := (hp12.rest 11 (by decide)).trans f11
  replace f12 := (hp12.rest 12 (by decide)).trans f12
  replace f103 := (hp12.rest 103 (by decide)).trans f103
  replace f104 := (hp12.rest 104 (by decide)).trans f104
  replace f105 := (hp12.rest 105 (by decide)).trans f105
  replace f106 := (hp12.rest 106 (by decide)).trans f106
  replace f107 := (hp12.rest 107 (by decide)).trans f107
  replace f108 := (hp12.rest 108 (by decide)).trans f108
  replace f109 := (hp12.rest 109 (by decide)).trans f109
  replace f110 := (hp12.rest 110 (by decide)).trans f110
  replace f111 := (hp12.rest 111 (by decide)).trans f111
  replace f112 := (hp12.rest 112 (by decide)).trans f112
  replace f113 := (hp12.rest 113 (by decide)).trans f113
  refine lt_load (i := 12) (v := .string S1) (d := 115) hv12 (by rfl) (by kernel_rfl) (by kernel_rfl) (by kernel_rfl) (by simp) (fun _ _ _ h => h) (wanted_of (d := 108) (by rfl) (by rfl) hv12 hs12 (by decide) f108) (fun w hS => rn_conv rfl f114 ((conv_at hS.2 64 (a - 64) _ (by omega)).trans (by rw [hSa]))) ⟨c5, hm⟩ rfl hs12 (by decide) (fun a13 ρ13 hp13 => ?_)
  have hv13 := hp13.ev
  have hs13 := hp13.sz
  have f115 := hp13.at'
  replace f1 := (hp13.rest 1 (by decide)).trans f1
  replace f7 := (hp13.rest 7 (by decide)).trans f7
  replace f8 := (hp13.rest 8 (by decide)).trans f8
  replace f10 := (hp13.rest 10 (by decide)).trans f10
  replace f11 := (hp13.rest 11 (by decide)).trans f11
  replace f12 := (hp13.rest 12 (by decide)).trans f12
  replace f103 := (hp13.rest 103 (by decide)).trans f103
  replace f104 := (hp13.rest 104 (by decide)).trans f104
  replace f105 := (hp13.rest 105 (by decide)).trans f105
  replace f106 := (hp13.rest 106 (by decide)).trans f106
  replace f107 := (hp13.rest 107 (by decide)).trans f107
  replace f108 := (hp13.rest 108 (by decide)).trans f108
  replace f109 := (hp13.rest 109 (by decide)).trans f109
  replace f110 := (hp13.rest 110 (by decide)).trans f110
  replace f111 := (hp13.rest 111 (by decide)).trans f111
  replace f112 := (hp13.rest 112 (by decide)).trans f112
  replace f113 := (hp13.rest 113 (by decide)).trans f113
  replace f114 := (hp13.rest 114 (by decide)).trans f114
  refine lt_pure (i := 13) (v := .string O) (d := 116) hv13 (by rfl) (by kernel_rfl) (by kernel_rfl) (by kernel_rfl) (fun _ _ _ h => h) (wanted_of (d := 108) (by rfl) (by rfl) hv13 hs13 (by decide) f108) (fun w => rn_move rfl f10 w) rfl hs13 (by decide) (fun a14 ρ14 hp14 => ?_)
  have hv14 := hp14.ev
  have hs14 := hp14.sz
  have f116 := hp14.at'
  replace f1 := (hp14.rest 1 (by decide)).trans f1
  replace f7 := (hp14.rest 7 (by decide)).trans f7
  replace f8 := (hp14.rest 8 (by decide)).trans f8
  replace f10 := (hp14.rest 10 (by decide)).trans f10
  replace f11 := (hp14.rest 11 (by decide)).trans f11
  replace f12 := (hp14.rest 12 (by decide)).trans f12
  replace f103 := (hp14.rest 103 (by decide)).trans f103
  replace f104 := (hp14.rest 104 (by decide)).trans f104
  replace f105 := (hp14.rest 105 (by decide)).trans f105
  replace f106 := (hp14.rest 106 (by decide)).trans f106
  replace f107 := (hp14.rest 107 (by decide)).trans f107
  replace f108 := (hp14.rest 108 (by decide)).trans f108
  replace f109 := (hp14.rest 109 (by decide)).trans f109
  replace f110 := (hp14.rest 110 (by decide)).trans f110
  replace f111 := (hp14.rest 111 (by decide)).trans f111
  replace f112 := (hp14.rest 112 (by decide)).trans f112
  replace f113 := (hp14.rest 113 (by decide)).trans f113
  replace f114 := (hp14.rest 114 (by decide)).trans f114
  replace f115 := (hp14.rest 115 (by decide)).trans f115
  refine lt_pure (i := 14) (v := .int .i64 (a : Nat)) (d := 117) hv14 (by rfl) (by kernel_rfl) (by kernel_rfl) (by kernel_rfl) (fun _ _ _ h => h) (wanted_of (d := 108) (by rfl) (by rfl) hv14 hs14 (by decide) f108) (fun w => rn_move rfl f1 w) rfl hs14 (by decide) (fun a15 ρ15 hp15 => ?_)
  have hv15 := hp15.ev
  have hs15 := hp15.sz
  have f117 := hp15.at'
  replace f1 := (hp15.rest 1 (by decide)).trans f1
  replace f7 := (hp15.rest 7 (by decide)).trans f7
  replace f8 := (hp15.rest 8 (by decide)).trans f8
  replace f10 := (hp15.rest 10 (by decide)).trans f10
  replace f11 := (hp15.rest 11 (by decide)).trans f11
  replace f12 := (hp15.rest 12 (by decide)).trans f12
  replace f103 := (hp15.rest 103 (by decide)).trans f103
  replace f104 := (hp15.rest 104 (by decide)).trans f104
  replace f105 := (hp15.rest 105 (by decide)).trans f105
  replace f106 := (hp15.rest 106 (by decide)).trans f106
  replace f107 := (hp15.rest 107 (by decide)).trans f107
  replace f108 := (hp15.rest 108 (by decide)).trans f108
  replace f109 := (hp15.rest 109 (by decide)).trans f109
  replace f110 := (hp15.rest 110 (by decide)).trans f110
  replace f111 := (hp15.rest 111 (by decide)).trans f111
  replace f112 := (hp15.rest 112 (by decide)).trans f112
  replace f113 := (hp15.rest 113 (by decide)).trans f113
  replace f114 := (hp15.rest 114 (by decide)).trans f114
  replace f115 := (hp15.rest 115 (by decide)).trans f115
  replace f116 := (hp15.rest 116 (by decide)).trans f116
  refine lt_pure (i := 15) (v := .string S1) (d := 118) hv15 (by rfl) (by kernel_rfl) (by kernel_rfl) (by kernel_rfl) (fun _ _ _ h => h) (wanted_of (d := 108) (by rfl) (by rfl) hv15 hs15 (by decide) f108) (fun w => rn_sls (k := 64) rfl f116 (by rw [← hv15]; rfl) f117 h64 hO1 hO2 w) rfl hs15 (by decide) (fun a16 ρ16 hp16 => ?_)
  have hv16 := hp16.ev
  have hs16 := hp16.sz
  have f118 := hp16.at'
  replace f1 := (hp16.rest 1 (by decide)).trans f1
  replace f7 := (hp16.rest 7 (by decide)).trans f7
  replace f8 := (hp16.rest 8 (by decide)).trans f8
  replace f10 := (hp16.rest 10 (by decide)).trans f10
  replace f11 := (hp16.rest 11 (by decide)).trans f11
  replace f12 := (hp16.rest 12 (by decide)).trans f12
  replace f103 := (hp16.rest 103 (by decide)).trans f103
  replace f104 := (hp16.rest 104 (by decide)).trans f104
  replace f105 := (hp16.rest 105 (by decide)).trans f105
  replace f106 := (hp16.rest 106 (by decide)).trans f106
  replace f107 := (hp16.rest 107 (by decide)).trans f107
  replace f108 := (hp16.rest 108 (by decide)).trans f108
  replace f109 := (hp16.rest 109 (by decide)).trans f109
  replace f110 := (hp16.rest 110 (by decide)).trans f110
  replace f111 := (hp16.rest 111 (by decide)).trans f111
  replace f112 := (hp16.rest 112 (by decide)).trans f112
  replace f113 := (hp16.rest 113 (by decide)).trans f113
  replace f114 := (hp16.rest 114 (by decide)).trans f114
  replace f115 := (hp16.rest 115 (by decide)).trans f115
  replace f116 := (hp16.rest 116 (by decide)).trans f116
  replace f117 := (hp16.rest 117 (by decide)).trans f117
  refine lt_pure (i := 16) (v := .bool true) (d := 119) hv16 (by rfl) (by kernel_rfl) (by kernel_rfl) (by kernel_rfl) (fun _ _ _ h => h) (wanted_of (d := 108) (by rfl) (by rfl) hv16 hs16 (by decide) f108) (fun w => rn_eq9 rfl f115 f118 w) rfl hs16 (by decide) (fun a17 ρ17 hp17 => ?_)
  have hv17 := hp17.ev
  have hs17 := hp17.sz
  have f119 := hp17.at'
  replace f1 := (hp17.rest 1 (by decide)).trans f1
  replace f7 := (hp17.rest 7 (by decide)).trans f7
  replace f8 := (hp17.rest 8 (by decide)).trans f8
  replace f10 := (hp17.rest 10 (by decide)).trans f10
  replace f11 := (hp17.rest 11 (by decide)).trans f11
  replace f12 := (hp17.rest 12 (by decide)).trans f12
  replace f103 := (hp17.rest 103 (by decide)).trans f103
  replace f104 := (hp17.rest 104 (by decide)).trans f104
  replace f105 := (hp17.rest 105 (by decide)).trans f105
  replace f106 := (hp17.rest 106 (by decide)).trans f106
  replace f107 := (hp17.rest 107 (by decide)).trans f107
  replace f108 := (hp17.rest 108 (by decide)).trans f108
  replace f109 := (hp17.rest 109 (by decide)).trans f109
  replace f110 := (hp17.rest 110 (by decide)).trans f110
  replace f111 := (hp17.rest 111 (by decide)).trans f111
  replace f112 := (hp17.rest 112 (by decide)).trans f112
  replace f113 := (hp17.rest 113 (by decide)).trans f113
  replace f114 := (hp17.rest 114 (by decide)).trans f114
  replace f115 := (hp17.rest 115 (by decide)).trans f115
  replace f116 := (hp17.rest 116 (by decide)).trans f116
  replace f117 := (hp17.rest 117 (by decide)).trans f117
  replace f118 := (hp17.rest 118 (by decide)).trans f118
  refine lt_pure (i := 17) (v := .bool true) (d := 120) hv17 (by rfl) (by kernel_rfl) (by kernel_rfl) (by kernel_rfl) (fun _ _ _ h => h) (by rfl) (fun w => rn_pick rfl f108 f119 w) rfl hs17 (by decide) (fun a18 ρ18 hp18 => ?_)
  have hv18 := hp18.ev
  have hs18 := hp18.sz
  have f120 := hp18.at'
  replace f1 := (hp18.rest 1 (by decide)).trans f1
  replace f7 := (hp18.rest 7 (by decide)).trans f7
  replace f8 := (hp18.rest 8 (by decide)).trans f8
  replace f10 := (hp18.rest 10 (by decide)).trans f10
  replace f11 := (hp18.rest 11 (by decide)).trans f11
  replace f12 := (hp18.rest 12 (by decide)).trans f12
  replace f103 := (hp18.rest 103 (by decide)).trans f103
  replace f104 := (hp18.rest 104 (by decide)).trans f104
  replace f105 := (hp18.rest 105 (by decide)).trans f105
  replace f106 := (hp18.rest 106 (by decide)).trans f106
  replace f107 := (hp18.rest 107 (by decide)).trans f107
  replace f108 := (hp18.rest 108 (by decide)).trans f108
  replace f109 := (hp18.rest 109 (by decide)).trans f109
  replace f110 := (hp18.rest 110 (by decide)).trans f110
  replace f111 := (hp18.rest 111 (by decide)).trans f111
  replace f112 := (hp18.rest 112 (by decide)).trans f112
  replace f113 := (hp18.rest 113 (by decide)).trans f113
  replace f114 := (hp18.rest 114 (by decide)).trans f114
  replace f115 := (hp18.rest 115 (by decide)).trans f115
  replace f116 := (hp18.rest 116 (by decide)).trans f116
  replace f117 := (hp18.rest 117 (by decide)).trans f117
  replace f118 := (hp18.rest 118 (by decide)).trans f118
  replace f119 := (hp18.rest 119 (by decide)).trans f119
  refine lt_pure (i := 18) (v := .bool true) (d := 121) hv18 (by rfl) (by kernel_rfl) (by kernel_rfl) (by kernel_rfl) (fun _ _ _ h => h) (by rfl) (fun w => rn_move rfl f120 w) rfl hs18 (by decide) (fun a19 ρ19 hp19 => ?_)
  have hv19 := hp19.ev
  have hs19 := hp19.sz
  have f121 := hp19.at'
  replace f1 := (hp19.rest 1 (by decide)).trans f1
  replace f7 := (hp19.rest 7 (by decide)).trans f7
  replace f8 := (hp19.rest 8 (by decide)).trans f8
  replace f10 := (hp19.rest 10 (by decide)).trans f10
  replace f11 := (hp19.rest 11 (by decide)).trans f11
  replace f12 := (hp19.rest 12 (by decide)).trans f12
  replace f103 := (hp19.rest 103 (by decide)).trans f103
  replace f104 := (hp19.rest 104 (by decide)).trans f104
  replace f105 := (hp19.rest 105 (by decide)).trans f105
  replace f106 := (hp19.rest 106 (by decide)).trans f106
  replace f107 := (hp19.rest 107 (by decide)).trans f107
  replace f108 := (hp19.rest 108 (by decide)).trans f108
  replace f109 := (hp19.rest 109 (by decide)).trans f109
  replace f110 := (hp19.rest 110 (by decide)).trans f110
  replace f111 := (hp19.rest 111 (by decide)).trans f111
  replace f112 := (hp19.rest 112 (by decide)).trans f112
  replace f113 := (hp19.rest 113 (by decide)).trans f113
  replace f114 := (hp19.rest 114 (by decide)).trans f114
  replace f115 := (hp19.rest 115 (by decide)).trans f115
  replace f116 := (hp19.rest 116 (by decide)).trans f116
  replace f117 := (hp19.rest 117 (by decide)).trans f117
  replace f118 := (hp19.rest 118 (by decide)).trans f118
  replace f119 := (hp19.rest 119 (by decide)).trans f119
  replace f120 := (hp19.rest 120 (by decide)).trans f120
  refine lt_pure (i := 19) (v := .pointer (some ⟨M, 0, none⟩)) (d := 122) hv19 (by rfl) (by kernel_rfl) (by kernel_rfl) (by kernel_rfl) (fun _ _ _ h => h) (wanted_of (d := 121) (by rfl) (by rfl) hv19 hs19 (by decide) f121) (fun w => rn_move rfl f8 w) rfl hs19 (by decide) (fun a20 ρ20 hp20 => ?_)
  have hv20 := hp20.ev
  have hs20 := hp20.sz
  have f122 := hp20.at'
  replace f1 := (hp20.rest 1 (by decide)).trans f1
  replace f7 := (hp20.rest 7 (by decide)).trans f7
  replace f8 := (hp20.rest 8 (by decide)).trans f8
  replace f10 := (hp20.rest 10 (by decide)).trans f10
  replace f11 := (hp20.rest 11 (by decide)).trans f11
  replace f12 := (hp20.rest 12 (by decide)).trans f12
  replace f103 := (hp20.rest 103 (by decide)).trans f103
  replace f104 := (hp20.rest 104 (by decide)).trans f104
  replace f105 := (hp20.rest 105 (by decide)).trans f105
  replace f106 := (hp20.rest 106 (by decide)).trans f106
  replace f107 := (hp20.rest 107 (by decide)).trans f107
  replace f108 := (hp20.rest 108 (by decide)).trans f108
  replace f109 := (hp20.rest 109 (by decide)).trans f109
  replace f110 := (hp20.rest 110 (by decide)).trans f110
  replace f111 := (hp20.rest 111 (by decide)).trans f111
  replace f112 := (hp20.rest 112 (by decide)).trans f112
  replace f113 := (hp20.rest 113 (by decide)).trans f113
  replace f114 := (hp20.rest 114 (by decide)).trans f114
  replace f115 := (hp20.rest 115 (by decide)).trans f115
  replace f116 := (hp20.rest 116 (by decide)).trans f116
  replace f117 := (hp20.rest 117 (by decide)).trans f117
  replace f118 := (hp20.rest 118 (by decide)).trans f118
  replace f119 := (hp20.rest 119 (by decide)).trans f119
  replace f120 := (hp20.rest 120 (by decide)).trans f120
  replace f121 := (hp20.rest 121 (by decide)).trans f121
  refine lt_pure (i := 20) (v := .pointer (some ⟨M, 0, none⟩)) (d := 123) hv20 (by rfl) (by kernel_rfl) (by kernel_rfl) (by kernel_rfl) (fun _ _ _ h => h) (wanted_of (d := 121) (by rfl) (by rfl) hv20 hs20 (by decide) f121) (fun w => rn_nil rfl f122 w) rfl hs20 (by decide) (fun a21 ρ21 hp21 => ?_)
  have hv21 := hp21.ev
  have hs21 := hp21.sz
  have f123 := hp21.at'
  replace f1 := (hp21.rest 1 (by decide)).trans f1
  replace f7 := (hp21.rest 7 (by decide)).trans f7
  replace f8 := (hp21.rest 8 (by decide)).trans f8
  replace f10 := (hp21.rest 10 (by decide)).trans f10
  replace f11 := (hp21.rest 11 (by decide)).trans f11
  replace f12 := (hp21.rest 12 (by decide)).trans f12
  replace f103 := (hp21.rest 103 (by decide)).trans f103
  replace f104 := (hp21.rest 104 (by decide)).trans f104
  replace f105 := (hp21.rest 105 (by decide)).trans f105
  replace f106 := (hp21.rest 106 (by decide)).trans f106
  replace f107 := (hp21.rest 107 (by decide)).trans f107
  replace f108 := (hp21.rest 108 (by decide)).trans f108
  replace f109 := (hp21.rest 109 (by decide)).trans f109
  replace f110 := (hp21.rest 110 (by decide)).trans f110
  replace f111 := (hp21.rest 111 (by decide)).trans f111
  replace f112 := (hp21.rest 112 (by decide)).trans f112
  replace f113 := (hp21.rest 113 (by decide)).trans f113
  replace f114 := (hp21.rest 114 (by decide)).trans f114
  replace f115 := (hp21.rest 115 (by decide)).trans f115
  replace f116 := (hp21.rest 116 (by decide)).trans f116
  replace f117 := (hp21.rest 117 (by decide)).trans f117
  replace f118 := (hp21.rest 118 (by decide)).trans f118
  replace f119 := (hp21.rest 119 (by decide)).trans f119
  replace f120 := (hp21.rest 120 (by decide)).trans f120
  replace f121 := (hp21.rest 121 (by decide)).trans f121
  replace f122 := (hp21.rest 122 (by decide)).trans f122
  refine lt_pure (i := 21) (v := .pointer (some ⟨M, 0, none⟩)) (d := 124) hv21 (by rfl) (by kernel_rfl) (by kernel_rfl) (by kernel_rfl) (fun _ _ _ h => h) (wanted_of (d := 121) (by rfl) (by rfl) hv21 hs21 (by decide) f121) (fun w => rn_f54 rfl f123 w) rfl hs21 (by decide) (fun a22 ρ22 hp22 => ?_)
  have hv22 := hp22.ev
  have hs22 := hp22.sz
  have f124 := hp22.at'
  replace f1 := (hp22.rest 1 (by decide)).trans f1
  replace f7 := (hp22.rest 7 (by decide)).trans f7
  replace f8 := (hp22.rest 8 (by decide)).trans f8
  replace f10 := (hp22.rest 10 (by decide)).trans f10
  replace f11 := (hp22.rest 11 (by decide)).trans f11
  replace f12 := (hp22.rest 12 (by decide)).trans f12
  replace f103 := (hp22.rest 103 (by decide)).trans f103
  replace f104 := (hp22.rest 104 (by decide)).trans f104
  replace f105 := (hp22.rest 105 (by decide)).trans f105
  replace f106 := (hp22.rest 106 (by decide)).trans f106
  replace f107 := (hp22.rest 107 (by decide)).trans f107
  replace f108 := (hp22.rest 108 (by decide)).trans f108
  replace f109 := (hp22.rest 109 (by decide)).trans f109
  replace f110 := (hp22.rest 110 (by decide)).trans f110
  replace f111 := (hp22.rest 111 (by decide)).trans f111
  replace f112 := (hp22.rest 112 (by decide)).trans f112
  replace f113 := (hp22.rest 113 (by decide)).trans f113
  replace f114 := (hp22.rest 114 (by decide)).trans f114
  replace f115 := (hp22.rest 115 (by decide)).trans f115
  replace f116 := (hp22.rest 116 (by decide)).trans f116
  replace f117 := (hp22.rest 117 (by decide)).trans f117
  replace f118 := (hp22.rest 118 (by decide)).trans f118
  replace f119 := (hp22.rest 119 (by decide)).trans f119
  replace f120 := (hp22.rest 120 (by decide)).trans f120
  replace f121 := (hp22.rest 121 (by decide)).trans f121
  replace f122 := (hp22.rest 122 (by decide)).trans f122
  replace f123 := (hp22.rest 123 (by decide)).trans f123
  refine lt_load (i := 22) (v := .slice (some ⟨g, 0, none⟩) 256 cap) (d := 125) hv22 (by rfl) (by kernel_rfl) (by kernel_rfl) (by kernel_rfl) (by simp) (fun _ _ _ h => h) (wanted_of (d := 121) (by rfl) (by rfl) hv22 hs22 (by decide) f121) (fun w hS => rn_load48 rfl f124 w hS.2.cb) ⟨c5, hm⟩ rfl hs22 (by decide) (fun a23 ρ23 hp23 => ?_)
  have hv23 := hp23.ev
  have hs23 := hp23.sz
  have f125 := hp23.at'
  replace f1 := (hp23.rest 1 (by decide)).trans f1
  replace f7 := (hp23.rest 7 (by decide)).trans f7
  replace f8 := (hp23.rest 8 (by decide)).trans f8
  replace f10 := (hp23.rest 10 (by decide)).trans f10
  replace f11 := (hp23.rest 11 (by decide)).trans f11
  replace f12 := (hp23.rest 12 (by decide)).trans f12
  replace f103 := (hp23.rest 103 (by decide)).trans f103
  replace f104 := (hp23.rest 104 (by decide)).trans f104
  replace f105 := (hp23.rest 105 (by decide)).trans f105
  replace f106 := (hp23.rest 106 (by decide)).trans f106
  replace f107 := (hp23.rest 107 (by decide)).trans f107
  replace f108 := (hp23.rest 108 (by decide)).trans f108
  replace f109 := (hp23.rest 109 (by decide)).trans f109
  replace f110 := (hp23.rest 110 (by decide)).trans f110
  replace f111 := (hp23.rest 111 (by decide)).trans f111
  replace f112 := (hp23.rest 112 (by decide)).trans f112
  replace f113 := (hp23.rest 113 (by decide)).trans f113
  replace f114 := (hp23.rest 114 (by decide)).trans f114
  replace f115 := (hp23.rest 115 (by decide)).trans f115
  replace f116 := (hp23.rest 116 (by decide)).trans f116
  replace f117 := (hp23.rest 117 (by decide)).trans f117
  replace f118 := (hp23.rest 118 (by decide)).trans f118
  replace f119 := (hp23.rest 119 (by decide)).trans f119
  replace f120 := (hp23.rest 120 (by decide)).trans f120
  replace f121 := (hp23.rest 121 (by decide)).trans f121
  replace f122 := (hp23.rest 122 (by decide)).trans f122
  replace f123 := (hp23.rest 123 (by decide)).trans f123
  replace f124 := (hp23.rest 124 (by decide)).trans f124
  refine lt_pure (i := 23) (v := .int .i64 (a : Nat)) (d := 126) hv23 (by rfl) (by kernel_rfl) (by kernel_rfl) (by kernel_rfl) (fun _ _ _ h => h) (wanted_of (d := 121) (by rfl) (by rfl) hv23 hs23 (by decide) f121) (fun w => rn_move rfl f1 w) rfl hs23 (by decide) (fun a24 ρ24 hp24 => ?_)
  have hv24 := hp24.ev
  have hs24 := hp24.sz
  have f126 := hp24.at'
  replace f1 := (hp24.rest 1 (by decide)).trans f1
  replace f7 := (hp24.rest 7 (by decide)).trans f7
  replace f8 := (hp24.rest 8 (by decide)).trans f8
  replace f10 := (hp24.rest 10 (by decide)).trans f10
  replace f11 := (hp24.rest 11 (by decide)).trans f11
  replace f12 := (hp24.rest 12 (by decide)).trans f12
  replace f103 := (hp24.rest 103 (by decide)).trans f103
  replace f104 := (hp24.rest 104 (by decide)).trans f104
  replace f105 := (hp24.rest 105 (by decide)).trans f105
  replace f106 := (hp24.rest 106 (by decide)).trans f106
  replace f107 := (hp24.rest 107 (by decide)).trans f107
  replace f108 := (hp24.rest 108 (by decide)).trans f108
  replace f109 := (hp24.rest 109 (by decide)).trans f109
  replace f110 := (hp24.rest 110 (by decide)).trans f110
  replace f111 := (hp24.rest 111 (by decide)).trans f111
  replace f112 := (hp24.rest 112 (by decide)).trans f112
  replace f113 := (hp24.rest 113 (by decide)).trans f113
  replace f114 := (hp24.rest 114 (by decide)).trans f114
  replace f115 := (hp24.rest 115 (by decide)).trans f115
  replace f116 := (hp24.rest 116 (by decide)).trans f116
  replace f117 := (hp24.rest 117 (by decide)).trans f117
  replace f118 := (hp24.rest 118 (by decide)).trans f118
  replace f119 := (hp24.rest 119 (by decide)).trans f119
  replace f120 := (hp24.rest 120 (by decide)).trans f120
  replace f121 := (hp24.rest 121 (by decide)).trans f121
  replace f122 := (hp24.rest 122 (by decide)).trans f122
  replace f123 := (hp24.rest 123 (by decide)).trans f123
  replace f124 := (hp24.rest 124 (by decide)).trans f124
  replace f125 := (hp24.rest 125 (by decide)).trans f125
  refine lt_pure (i := 24) (v := .int .i64 (k : Nat)) (d := 127) hv24 (by rfl) (by kernel_rfl) (by kernel_rfl) (by kernel_rfl) (fun _ _ _ h => h) (wanted_of (d := 121) (by rfl) (by rfl) hv24 hs24 (by decide) f121) (fun w => rn_move rfl f7 w) rfl hs24 (by decide) (fun a25 ρ25 hp25 => ?_)
  have hv25 := hp25.ev
  have hs25 := hp25.sz
  have f127 := hp25.at'
  replace f1 := (hp25.rest 1 (by decide)).trans f1
  replace f7 := (hp25.rest 7 (by decide)).trans f7
  replace f8 := (hp25.rest 8 (by decide)).trans f8
  replace f10 := (hp25.rest 10 (by decide)).trans f10
  replace f11 := (hp25.rest 11 (by decide)).trans f11
  replace f12 := (hp25.rest 12 (by decide)).trans f12
  replace f103 := (hp25.rest 103 (by decide)).trans f103
  replace f104 := (hp25.rest 104 (by decide)).trans f104
  replace f105 := (hp25.rest 105 (by decide)).trans f105
  replace f106 := (hp25.rest 106 (by decide)).trans f106
  replace f107 := (hp25.rest 107 (by decide)).trans f107
  replace f108 := (hp25.rest 108 (by decide)).trans f108
  replace f109 := (hp25.rest 109 (by decide)).trans f109
  replace f110 := (hp25.rest 110 (by decide)).trans f110
  replace f111 := (hp25.rest 111 (by decide)).trans f111
  replace f112 := (hp25.rest 112 (by decide)).trans f112
  replace f113 := (hp25.rest 113 (by decide)).trans f113
  replace f114 := (hp25.rest 114 (by decide)).trans f114
  replace f115 := (hp25.rest 115 (by decide)).trans f115
  replace f116 := (hp25.rest 116 (by decide)).trans f116
  replace f117 := (hp25.rest 117 (by decide)).trans f117
  replace f118 := (hp25.rest 118 (by decide)).trans f118
  replace f119 := (hp25.rest 119 (by decide)).trans f119
  replace f120 := (hp25.rest 120 (by decide)).trans f120
  replace f121 := (hp25.rest 121 (by decide)).trans f121
  replace f122 := (hp25.rest 122 (by decide)).trans f122
  replace f123 := (hp25.rest 123 (by decide)).trans f123
  replace f124 := (hp25.rest 124 (by decide)).trans f124
  replace f125 := (hp25.rest 125 (by decide)).trans f125
  replace f126 := (hp25.rest 126 (by decide)).trans f126
  refine lt_pure (i := 25) (v := .int .i64 ((a + k : Nat) : Int)) (d := 128) hv25 (by rfl) (by kernel_rfl) (by kernel_rfl) (by kernel_rfl) (fun _ _ _ h => h) (wanted_of (d := 121) (by rfl) (by rfl) hv25 hs25 (by decide) f121) (fun w => rn_addtt rfl f126 f127 (by rw [IntKind.wrap_i64]; omega) w) rfl hs25 (by decide) (fun a26 ρ26 hp26 => ?_)
  have hv26 := hp26.ev
  have hs26 := hp26.sz
  have f128 := hp26.at'
  replace f1 := (hp26.rest 1 (by decide)).trans f1
  replace f7 := (hp26.rest 7 (by decide)).trans f7
  replace f8 := (hp26.rest 8 (by decide)).trans f8
  replace f10 := (hp26.rest 10 (by decide)).trans f10
  replace f11 := (hp26.rest 11 (by decide)).trans f11
  replace f12 := (hp26.rest 12 (by decide)).trans f12
  replace f103 := (hp26.rest 103 (by decide)).trans f103
  replace f104 := (hp26.rest 104 (by decide)).trans f104
  replace f105 := (hp26.rest 105 (by decide)).trans f105
  replace f106 := (hp26.rest 106 (by decide)).trans f106
  replace f107 := (hp26.rest 107 (by decide)).trans f107
  replace f108 := (hp26.rest 108 (by decide)).trans f108
  replace f109 := (hp26.rest 109 (by decide)).trans f109
  replace f110 := (hp26.rest 110 (by decide)).trans f110
  replace f111 := (hp26.rest 111 (by decide)).trans f111
  replace f112 := (hp26.rest 112 (by decide)).trans f112
  replace f113 := (hp26.rest 113 (by decide)).trans f113
  replace f114 := (hp26.rest 114 (by decide)).trans f114
  replace f115 := (hp26.rest 115 (by decide)).trans f115
  replace f116 := (hp26.rest 116 (by decide)).trans f116
  replace f117 := (hp26.rest 117 (by decide)).trans f117
  replace f118 := (hp26.rest 118 (by decide)).trans f118
  replace f119 := (hp26.rest 119 (by decide)).trans f119
  replace f120 := (hp26.rest 120 (by decide)).trans f120
  replace f121 := (hp26.rest 121 (by decide)).trans f121
  replace f122 := (hp26.rest 122 (by decide)).trans f122
  replace f123 := (hp26.rest 123 (by decide)).trans f123
  replace f124 := (hp26.rest 124 (by decide)).trans f124
  replace f125 := (hp26.rest 125 (by decide)).trans f125
  replace f126 := (hp26.rest 126 (by decide)).trans f126
  replace f127 := (hp26.rest 127 (by decide)).trans f127
  refine lt_pure (i := 26) (v := .slice (some ⟨g, a + k, none⟩) (256 - (a + k)) (cap - (a + k))) (d := 129) hv26 (by rfl) (by kernel_rfl) (by kernel_rfl) (by kernel_rfl) (fun _ _ _ h => h) (wanted_of (d := 121) (by rfl) (by rfl) hv26 hs26 (by decide) f121) (fun w => rn_sl48 rfl f125 f128 (by omega) (by omega) (by omega) w) rfl hs26 (by decide) (fun a27 ρ27 hp27 => ?_)
  have hv27 := hp27.ev
  have hs27 := hp27.sz
  have f129 := hp27.at'
  replace f1 := (hp27.rest 1 (by decide)).trans f1
  replace f7 := (hp27.rest 7 (by decide)).trans f7
  replace f8 := (hp27.rest 8 (by decide)).trans f8
  replace f10 := (hp27.rest 10 (by decide)).trans f10
  replace f11 := (hp27.rest 11 (by decide)).trans f11
  replace f12 := (hp27.rest 12 (by decide)).trans f12
  replace f103 := (hp27.rest 103 (by decide)).trans f103
  replace f104 := (hp27.rest 104 (by decide)).trans f104
  replace f105 := (hp27.rest 105 (by decide)).trans f105
  replace f106 := (hp27.rest 106 (by decide)).trans f106
  replace f107 := (hp27.rest 107 (by decide)).trans f107
  replace f108 := (hp27.rest 108 (by decide)).trans f108
  replace f109 := (hp27.rest 109 (by decide)).trans f109
  replace f110 := (hp27.rest 110 (by decide)).trans f110
  replace f111 := (hp27.rest 111 (by decide)).trans f111
  replace f112 := (hp27.rest 112 (by decide)).trans f112
  replace f113 := (hp27.rest 113 (by decide)).trans f113
  replace f114 := (hp27.rest 114 (by decide)).trans f114
  replace f115 := (hp27.rest 115 (by decide)).trans f115
  replace f116 := (hp27.rest 116 (by decide)).trans f116
  replace f117 := (hp27.rest 117 (by decide)).trans f117
  replace f118 := (hp27.rest 118 (by decide)).trans f118
  replace f119 := (hp27.rest 119 (by decide)).trans f119
  replace f120 := (hp27.rest 120 (by decide)).trans f120
  replace f121 := (hp27.rest 121 (by decide)).trans f121
  replace f122 := (hp27.rest 122 (by decide)).trans f122
  replace f123 := (hp27.rest 123 (by decide)).trans f123
  replace f124 := (hp27.rest 124 (by decide)).trans f124
  replace f125 := (hp27.rest 125 (by decide)).trans f125
  replace f126 := (hp27.rest 126 (by decide)).trans f126
  replace f127 := (hp27.rest 127 (by decide)).trans f127
  replace f128 := (hp27.rest 128 (by decide)).trans f128
  refine lt_load (i := 27) (v := .string S2) (d := 130) hv27 (by rfl) (by kernel_rfl) (by kernel_rfl) (by kernel_rfl) (by simp) (fun _ _ _ h => h) (wanted_of (d := 121) (by rfl) (by rfl) hv27 hs27 (by decide) f121) (fun w hS => rn_conv rfl f129 ((conv_at hS.2 (a + k) (256 - (a + k)) _ (by omega)).trans (by rw [hSb]))) ⟨c5, hm⟩ rfl hs27 (by decide) (fun a28 ρ28 hp28 => ?_)
  have hv28 := hp28.ev
  have hs28 := hp28.sz
  have f130 := hp28.at'
  replace f1 := (hp28.rest 1 (by decide)).trans f1
  replace f7 := (hp28.rest 7 (by decide)).trans f7
  replace f8 := (hp28.rest 8 (by decide)).trans f8
  replace f10 := (hp28.rest 10 (by decide)).trans f10
  replace f11 := (hp28.rest 11 (by decide)).trans f11
  replace f12 := (hp28.rest 12 (by decide)).trans f12
  replace f103 := (hp28.rest 103 (by decide)).trans f103
  replace f104 := (hp28.rest 104 (by decide)).trans f104
  replace f105 := (hp28.rest 105 (by decide)).trans f105
  replace f106 := (hp28.rest 106 (by decide)).trans f106
  replace f107 := (hp28.rest 107 (by decide)).trans f107
  replace f108 := (hp28.rest 108 (by decide)).trans f108
  replace f109 := (hp28.rest 109 (by decide)).trans f109
  replace f110 := (hp28.rest 110 (by decide)).trans f110
  replace f111 := (hp28.rest 111 (by decide)).trans f111
  replace f112 := (hp28.rest 112 (by decide)).trans f112
  replace f113 := (hp28.rest 113 (by decide)).trans f113
  replace f114 := (hp28.rest 114 (by decide)).trans f114
  replace f115 := (hp28.rest 115 (by decide)).trans f115
  replace f116 := (hp28.rest 116 (by decide)).trans f116
  replace f117 := (hp28.rest 117 (by decide)).trans f117
  replace f118 := (hp28.rest 118 (by decide)).trans f118
  replace f119 := (hp28.rest 119 (by decide)).trans f119
  replace f120 := (hp28.rest 120 (by decide)).trans f120
  replace f121 := (hp28.rest 121 (by decide)).trans f121
  replace f122 := (hp28.rest 122 (by decide)).trans f122
  replace f123 := (hp28.rest 123 (by decide)).trans f123
  replace f124 := (hp28.rest 124 (by decide)).trans f124
  replace f125 := (hp28.rest 125 (by decide)).trans f125
  replace f126 := (hp28.rest 126 (by decide)).trans f126
  replace f127 := (hp28.rest 127 (by decide)).trans f127
  replace f128 := (hp28.rest 128 (by decide)).trans f128
  replace f129 := (hp28.rest 129 (by decide)).trans f129
  refine lt_pure (i := 28) (v := .string O) (d := 131) hv28 (by rfl) (by kernel_rfl) (by kernel_rfl) (by kernel_rfl) (fun _ _ _ h => h) (wanted_of (d := 121) (by rfl) (by rfl) hv28 hs28 (by decide) f121) (fun w => rn_move rfl f10 w) rfl hs28 (by decide) (fun a29 ρ29 hp29 => ?_)
  have hv29 := hp29.ev
  have hs29 := hp29.sz
  have f131 := hp29.at'
  replace f1 := (hp29.rest 1 (by decide)).trans f1
  replace f7 := (hp29.rest 7 (by decide)).trans f7
  replace f8 := (hp29.rest 8 (by decide)).trans f8
  replace f10 := (hp29.rest 10 (by decide)).trans f10
  replace f11 := (hp29.rest 11 (by decide)).trans f11
  replace f12 := (hp29.rest 12 (by decide)).trans f12
  replace f103 := (hp29.rest 103 (by decide)).trans f103
  replace f104 := (hp29.rest 104 (by decide)).trans f104
  replace f105 := (hp29.rest 105 (by decide)).trans f105
  replace f106 := (hp29.rest 106 (by decide)).trans f106
  replace f107 := (hp29.rest 107 (by decide)).trans f107
  replace f108 := (hp29.rest 108 (by decide)).trans f108
  replace f109 := (hp29.rest 109 (by decide)).trans f109
  replace f110 := (hp29.rest 110 (by decide)).trans f110
  replace f111 := (hp29.rest 111 (by decide)).trans f111
  replace f112 := (hp29.rest 112 (by decide)).trans f112
  replace f113 := (hp29.rest 113 (by decide)).trans f113
  replace f114 := (hp29.rest 114 (by decide)).trans f114
  replace f115 := (hp29.rest 115 (by decide)).trans f115
  replace f116 := (hp29.rest 116 (by decide)).trans f116
  replace f117 := (hp29.rest 117 (by decide)).trans f117
  replace f118 := (hp29.rest 118 (by decide)).trans f118
  replace f119 := (hp29.rest 119 (by decide)).trans f119
  replace f120 := (hp29.rest 120 (by decide)).trans f120
  replace f121 := (hp29.rest 121 (by decide)).trans f121
  replace f122 := (hp29.rest 122 (by decide)).trans f122
  replace f123 := (hp29.rest 123 (by decide)).trans f123
  replace f124 := (hp29.rest 124 (by decide)).trans f124
  replace f125 := (hp29.rest 125 (by decide)).trans f125
  replace f126 := (hp29.rest 126 (by decide)).trans f126
  replace f127 := (hp29.rest 127 (by decide)).trans f127
  replace f128 := (hp29.rest 128 (by decide)).trans f128
  replace f129 := (hp29.rest 129 (by decide)).trans f129
  replace f130 := (hp29.rest 130 (by decide)).trans f130
  refine lt_pure (i := 29) (v := .int .i64 (a : Nat)) (d := 132) hv29 (by rfl) (by kernel_rfl) (by kernel_rfl) (by kernel_rfl) (fun _ _ _ h => h) (wanted_of (d := 121) (by rfl) (by rfl) hv29 hs29 (by decide) f121) (fun w => rn_move rfl f1 w) rfl hs29 (by decide) (fun a30 ρ30 hp30 => ?_)
  have hv30 := hp30.ev
  have hs30 := hp30.sz
  have f132 := hp30.at'
  replace f1 := (hp30.rest 1 (by decide)).trans f1
  replace f7 := (hp30.rest 7 (by decide)).trans f7
  replace f8 := (hp30.rest 8 (by decide)).trans f8
  replace f10 := (hp30.rest 10 (by decide)).trans f10
  replace f11 := (hp30.rest 11 (by decide)).trans f11
  replace f12 := (hp30.rest 12 (by decide)).trans f12
  replace f103 := (hp30.rest 103 (by decide)).trans f103
  replace f104 := (hp30.rest 104 (by decide)).trans f104
  replace f105 := (hp30.rest 105 (by decide)).trans f105
  replace f106 := (hp30.rest 106 (by decide)).trans f106
  replace f107 := (hp30.rest 107 (by decide)).trans f107
  replace f108 := (hp30.rest 108 (by decide)).trans f108
  replace f109 := (hp30.rest 109 (by decide)).trans f109
  replace f110 := (hp30.rest 110 (by decide)).trans f110
  replace f111 := (hp30.rest 111 (by decide)).trans f111
  replace f112 := (hp30.rest 112 (by decide)).trans f112
  replace f113 := (hp30.rest 113 (by decide)).trans f113
  replace f114 := (hp30.rest 114 (by decide)).trans f114
  replace f115 := (hp30.rest 115 (by decide)).trans f115
  replace f116 := (hp30.rest 116 (by decide)).trans f116
  replace f117 := (hp30.rest 117 (by decide)).trans f117
  replace f118 := (hp30.rest 118 (by decide)).trans f118
  replace f119 := (hp30.rest 119 (by decide)).trans f119
  replace f120 := (hp30.rest 120 (by decide)).trans f120
  replace f121 := (hp30.rest 121 (by decide)).trans f121
  replace f122 := (hp30.rest 122 (by decide)).trans f122
  replace f123 := (hp30.rest 123 (by decide)).trans f123
  replace f124 := (hp30.rest 124 (by decide)).trans f124
  replace f125 := (hp30.rest 125 (by decide)).trans f125
  replace f126 := (hp30.rest 126 (by decide)).trans f126
  replace f127 := (hp30.rest 127 (by decide)).trans f127
  replace f128 := (hp30.rest 128 (by decide)).trans f128
  replace f129 := (hp30.rest 129 (by decide)).trans f129
  replace f130 := (hp30.rest 130 (by decide)).trans f130
  replace f131 := (hp30.rest 131 (by decide)).trans f131
  refine lt_pure (i := 30) (v := .int .i64 (k : Nat)) (d := 133) hv30 (by rfl) (by kernel_rfl) (by kernel_rfl) (by kernel_rfl) (fun _ _ _ h => h) (wanted_of (d := 121) (by rfl) (by rfl) hv30 hs30 (by decide) f121) (fun w => rn_move rfl f7 w) rfl hs30 (by decide) (fun a31 ρ31 hp31 => ?_)
  have hv31 := hp31.ev
  have hs31 := hp31.sz
  have f133 := hp31.at'
  replace f1 := (hp31.rest 1 (by decide)).trans f1
  replace f7 := (hp31.rest 7 (by decide)).trans f7
  replace f8 := (hp31.rest 8 (by decide)).trans f8
  replace f10 := (hp31.rest 10 (by decide)).trans f10
  replace f11 := (hp31.rest 11 (by decide)).trans f11
  replace f12 := (hp31.rest 12 (by decide)).trans f12
  replace f103 := (hp31.rest 103 (by decide)).trans f103
  replace f104 := (hp31.rest 104 (by decide)).trans f104
  replace f105 := (hp31.rest 105 (by decide)).trans f105
  replace f106 := (hp31.rest 106 (by decide)).trans f106
  replace f107 := (hp31.rest 107 (by decide)).trans f107
  replace f108 := (hp31.rest 108 (by decide)).trans f108
  replace f109 := (hp31.rest 109 (by decide)).trans f109
  replace f110 := (hp31.rest 110 (by decide)).trans f110
  replace f111 := (hp31.rest 111 (by decide)).trans f111
  replace f112 := (hp31.rest 112 (by decide)).trans f112
  replace f113 := (hp31.rest 113 (by decide)).trans f113
  replace f114 := (hp31.rest 114 (by decide)).trans f114
  replace f115 := (hp31.rest 115 (by decide)).trans f115
  replace f116 := (hp31.rest 116 (by decide)).trans f116
  replace f117 := (hp31.rest 117 (by decide)).trans f117
  replace f118 := (hp31.rest 118 (by decide)).trans f118
  replace f119 := (hp31.rest 119 (by decide)).trans f119
  replace f120 := (hp31.rest 120 (by decide)).trans f120
  replace f121 := (hp31.rest 121 (by decide)).trans f121
  replace f122 := (hp31.rest 122 (by decide)).trans f122
  replace f123 := (hp31.rest 123 (by decide)).trans f123
  replace f124 := (hp31.rest 124 (by decide)).trans f124
  replace f125 := (hp31.rest 125 (by decide)).trans f125
  replace f126 := (hp31.rest 126 (by decide)).trans f126
  replace f127 := (hp31.rest 127 (by decide)).trans f127
  replace f128 := (hp31.rest 128 (by decide)).trans f128
  replace f129 := (hp31.rest 129 (by decide)).trans f129
  replace f130 := (hp31.rest 130 (by decide)).trans f130
  replace f131 := (hp31.rest 131 (by decide)).trans f131
  replace f132 := (hp31.rest 132 (by decide)).trans f132
  refine lt_pure (i := 31) (v := .int .i64 ((a + k : Nat) : Int)) (d := 134) hv31 (by rfl) (by kernel_rfl) (by kernel_rfl) (by kernel_rfl) (fun _ _ _ h => h) (wanted_of (d := 121) (by rfl) (by rfl) hv31 hs31 (by decide) f121) (fun w => rn_addtt rfl f132 f133 (by rw [IntKind.wrap_i64]; omega) w) rfl hs31 (by decide) (fun a32 ρ32 hp32 => ?_)
  have hv32 := hp32.ev
  have hs32 := hp32.sz
  have f134 := hp32.at'
  replace f1 := (hp32.rest 1 (by decide)).trans f1
  replace f7 := (hp32.rest 7 (by decide)).trans f7
  replace f8 := (hp32.rest 8 (by decide)).trans f8
  replace f10 := (hp32.rest 10 (by decide)).trans f10
  replace f11 := (hp32.rest 11 (by decide)).trans f11
  replace f12 := (hp32.rest 12 (by decide)).trans f12
  replace f103 := (hp32.rest 103 (by decide)).trans f103
  replace f104 := (hp32.rest 104 (by decide)).trans f104
  replace f105 := (hp32.rest 105 (by decide)).trans f105
  replace f106 := (hp32.rest 106 (by decide)).trans f106
  replace f107 := (hp32.rest 107 (by decide)).trans f107
  replace f108 := (hp32.rest 108 (by decide)).trans f108
  replace f109 := (hp32.rest 109 (by decide)).trans f109
  replace f110 := (hp32.rest 110 (by decide)).trans f110
  replace f111 := (hp32.rest 111 (by decide)).trans f111
  replace f112 := (hp32.rest 112 (by decide)).trans f112
  replace f113 := (hp32.rest 113 (by decide)).trans f113
  replace f114 := (hp32.rest 114 (by decide)).trans f114
  replace f115 := (hp32.rest 115 (by decide)).trans f115
  replace f116 := (hp32.rest 116 (by decide)).trans f116
  replace f117 := (hp32.rest 117 (by decide)).trans f117
  replace f118 := (hp32.rest 118 (by decide)).trans f118
  replace f119 := (hp32.rest 119 (by decide)).trans f119
  replace f120 := (hp32.rest 120 (by decide)).trans f120
  replace f121 := (hp32.rest 121 (by decide)).trans f121
  replace f122 := (hp32.rest 122 (by decide)).trans f122
  replace f123 := (hp32.rest 123 (by decide)).trans f123
  replace f124 := (hp32.rest 124 (by decide)).trans f124
  replace f125 := (hp32.rest 125 (by decide)).trans f125
  replace f126 := (hp32.rest 126 (by decide)).trans f126
  replace f127 := (hp32.rest 127 (by decide)).trans f127
  replace f128 := (hp32.rest 128 (by decide)).trans f128
  replace f129 := (hp32.rest 129 (by decide)).trans f129
  replace f130 := (hp32.rest 130 (by decide)).trans f130
  replace f131 := (hp32.rest 131 (by decide)).trans f131
  replace f132 := (hp32.rest 132 (by decide)).trans f132
  replace f133 := (hp32.rest 133 (by decide)).trans f133
  refine lt_pure (i := 32) (v := .string S2) (d := 135) hv32 (by rfl) (by kernel_rfl) (by kernel_rfl) (by kernel_rfl) (fun _ _ _ h => h) (wanted_of (d := 121) (by rfl) (by rfl) hv32 hs32 (by decide) f121) (fun w => rn_sls1 rfl f131 f134 hO3 hO4 w) rfl hs32 (by decide) (fun a33 ρ33 hp33 => ?_)
  have hv33 := hp33.ev
  have hs33 := hp33.sz
  have f135 := hp33.at'
  replace f1 := (hp33.rest 1 (by decide)).trans f1
  replace f7 := (hp33.rest 7 (by decide)).trans f7
  replace f8 := (hp33.rest 8 (by decide)).trans f8
  replace f10 := (hp33.rest 10 (by decide)).trans f10
  replace f11 := (hp33.rest 11 (by decide)).trans f11
  replace f12 := (hp33.rest 12 (by decide)).trans f12
  replace f103 := (hp33.rest 103 (by decide)).trans f103
  replace f104 := (hp33.rest 104 (by decide)).trans f104
  replace f105 := (hp33.rest 105 (by decide)).trans f105
  replace f106 := (hp33.rest 106 (by decide)).trans f106
  replace f107 := (hp33.rest 107 (by decide)).trans f107
  replace f108 := (hp33.rest 108 (by decide)).trans f108
  replace f109 := (hp33.rest 109 (by decide)).trans f109
  replace f110 := (hp33.rest 110 (by decide)).trans f110
  replace f111 := (hp33.rest 111 (by decide)).trans f111
  replace f112 := (hp33.rest 112 (by decide)).trans f112
  replace f113 := (hp33.rest 113 (by decide)).trans f113
  replace f114 := (hp33.rest 114 (by decide)).trans f114
  replace f115 := (hp33.rest 115 (by decide)).trans f115
  replace f116 := (hp33.rest 116 (by decide)).trans f116
  replace f117 := (hp33.rest 117 (by decide)).trans f117
  replace f118 := (hp33.rest 118 (by decide)).trans f118
  replace f119 := (hp33.rest 119 (by decide)).trans f119
  replace f120 := (hp33.rest 120 (by decide)).trans f120
  replace f121 := (hp33.rest 121 (by decide)).trans f121
  replace f122 := (hp33.rest 122 (by decide)).trans f122
  replace f123 := (hp33.rest 123 (by decide)).trans f123
  replace f124 := (hp33.rest 124 (by decide)).trans f124
  replace f125 := (hp33.rest 125 (by decide)).trans f125
  replace f126 := (hp33.rest 126 (by decide)).trans f126
  replace f127 := (hp33.rest 127 (by decide)).trans f127
  replace f128 := (hp33.rest 128 (by decide)).trans f128
  replace f129 := (hp33.rest 129 (by decide)).trans f129
  replace f130 := (hp33.rest 130 (by decide)).trans f130
  replace f131 := (hp33.rest 131 (by decide)).trans f131
  replace f132 := (hp33.rest 132 (by decide)).trans f132
  replace f133 := (hp33.rest 133 (by decide)).trans f133
  replace f134 := (hp33.rest 134 (by decide)).trans f134
  refine lt_pure (i := 33) (v := .bool true) (d := 136) hv33 (by rfl) (by kernel_rfl) (by kernel_rfl) (by kernel_rfl) (fun _ _ _ h => h) (wanted_of (d := 121) (by rfl) (by rfl) hv33 hs33 (by decide) f121) (fun w => rn_eq9 rfl f130 f135 w) rfl hs33 (by decide) (fun a34 ρ34 hp34 => ?_)
  have hv34 := hp34.ev
  have hs34 := hp34.sz
  have f136 := hp34.at'
  replace f1 := (hp34.rest 1 (by decide)).trans f1
  replace f7 := (hp34.rest 7 (by decide)).trans f7
  replace f8 := (hp34.rest 8 (by decide)).trans f8
  replace f10 := (hp34.rest 10 (by decide)).trans f10
  replace f11 := (hp34.rest 11 (by decide)).trans f11
  replace f12 := (hp34.rest 12 (by decide)).trans f12
  replace f103 := (hp34.rest 103 (by decide)).trans f103
  replace f104 := (hp34.rest 104 (by decide)).trans f104
  replace f105 := (hp34.rest 105 (by decide)).trans f105
  replace f106 := (hp34.rest 106 (by decide)).trans f106
  replace f107 := (hp34.rest 107 (by decide)).trans f107
  replace f108 := (hp34.rest 108 (by decide)).trans f108
  replace f109 := (hp34.rest 109 (by decide)).trans f109
  replace f110 := (hp34.rest 110 (by decide)).trans f110
  replace f111 := (hp34.rest 111 (by decide)).trans f111
  replace f112 := (hp34.rest 112 (by decide)).trans f112
  replace f113 := (hp34.rest 113 (by decide)).trans f113
  replace f114 := (hp34.rest 114 (by decide)).trans f114
  replace f115 := (hp34.rest 115 (by decide)).trans f115
  replace f116 := (hp34.rest 116 (by decide)).trans f116
  replace f117 := (hp34.rest 117 (by decide)).trans f117
  replace f118 := (hp34.rest 118 (by decide)).trans f118
  replace f119 := (hp34.rest 119 (by decide)).trans f119
  replace f120 := (hp34.rest 120 (by decide)).trans f120
  replace f121 := (hp34.rest 121 (by decide)).trans f121
  replace f122 := (hp34.rest 122 (by decide)).trans f122
  replace f123 := (hp34.rest 123 (by decide)).trans f123
  replace f124 := (hp34.rest 124 (by decide)).trans f124
  replace f125 := (hp34.rest 125 (by decide)).trans f125
  replace f126 := (hp34.rest 126 (by decide)).trans f126
  replace f127 := (hp34.rest 127 (by decide)).trans f127
  replace f128 := (hp34.rest 128 (by decide)).trans f128
  replace f129 := (hp34.rest 129 (by decide)).trans f129
  replace f130 := (hp34.rest 130 (by decide)).trans f130
  replace f131 := (hp34.rest 131 (by decide)).trans f131
  replace f132 := (hp34.rest 132 (by decide)).trans f132
  replace f133 := (hp34.rest 133 (by decide)).trans f133
  replace f134 := (hp34.rest 134 (by decide)).trans f134
  replace f135 := (hp34.rest 135 (by decide)).trans f135
  refine lt_pure (i := 34) (v := .bool true) (d := 137) hv34 (by rfl) (by kernel_rfl) (by kernel_rfl) (by kernel_rfl) (fun _ _ _ h => h) (by rfl) (fun w => rn_pick rfl f121 f136 w) rfl hs34 (by decide) (fun a35 ρ35 hp35 => ?_)
  have hv35 := hp35.ev
  have hs35 := hp35.sz
  have f137 := hp35.at'
  replace f1 := (hp35.rest 1 (by decide)).trans f1
  replace f7 := (hp35.rest 7 (by decide)).trans f7
  replace f8 := (hp35.rest 8 (by decide)).trans f8
  replace f10 := (hp35.rest 10 (by decide)).trans f10
  replace f11 := (hp35.rest 11 (by decide)).trans f11
  replace f12 := (hp35.rest 12 (by decide)).trans f12
  replace f103 := (hp35.rest 103 (by decide)).trans f103
  replace f104 := (hp35.rest 104 (by decide)).trans f104
  replace f105 := (hp35.rest 105 (by decide)).trans f105
  replace f106 := (hp35.rest 106 (by decide)).trans f106
  replace f107 := (hp35.rest 107 (by decide)).trans f107
  replace f108 := (hp35.rest 108 (by decide)).trans f108
  replace f109 := (hp35.rest 109 (by decide)).trans f109
  replace f110 := (hp35.rest 110 (by decide)).trans f110
  replace f111 := (hp35.rest 111 (by decide)).trans f111
  replace f112 := (hp35.rest 112 (by decide)).trans f112
  replace f113 := (hp35.rest 113 (by decide)).trans f113
  replace f114 := (hp35.rest 114 (by decide)).trans f114
  replace f115 := (hp35.rest 115 (by decide)).trans f115
  replace f116 := (hp35.rest 116 (by decide)).trans f116
  replace f117 := (hp35.rest 117 (by decide)).trans f117
  replace f118 := (hp35.rest 118 (by decide)).trans f118
  replace f119 := (hp35.rest 119 (by decide)).trans f119
  replace f120 := (hp35.rest 120 (by decide)).trans f120
  replace f121 := (hp35.rest 121 (by decide)).trans f121
  replace f122 := (hp35.rest 122 (by decide)).trans f122
  replace f123 := (hp35.rest 123 (by decide)).trans f123
  replace f124 := (hp35.rest 124 (by decide)).trans f124
  replace f125 := (hp35.rest 125 (by decide)).trans f125
  replace f126 := (hp35.rest 126 (by decide)).trans f126
  replace f127 := (hp35.rest 127 (by decide)).trans f127
  replace f128 := (hp35.rest 128 (by decide)).trans f128
  replace f129 := (hp35.rest 129 (by decide)).trans f129
  replace f130 := (hp35.rest 130 (by decide)).trans f130
  replace f131 := (hp35.rest 131 (by decide)).trans f131
  replace f132 := (hp35.rest 132 (by decide)).trans f132
  replace f133 := (hp35.rest 133 (by decide)).trans f133
  replace f134 := (hp35.rest 134 (by decide)).trans f134
  replace f135 := (hp35.rest 135 (by decide)).trans f135
  replace f136 := (hp35.rest 136 (by decide)).trans f136
  refine wpLate_one (i := 35) (by kernel_rfl) ?_
  refine lt_value (v := .bool true) (w' := w5) (d := 6) hv35 (by rfl) (by rfl) (rn_assign rfl f137 _) rfl hs35 (by decide) (fun _ => .inl rfl) (fun a36 ρ36 hp36 => ?_)
  have hv36 := hp36.ev
  have hs36 := hp36.sz
  have f6 := hp36.at'
  replace f1 := (hp36.rest 1 (by decide)).trans f1
  replace f7 := (hp36.rest 7 (by decide)).trans f7
  replace f8 := (hp36.rest 8 (by decide)).trans f8
  replace f10 := (hp36.rest 10 (by decide)).trans f10
  replace f11 := (hp36.rest 11 (by decide)).trans f11
  replace f12 := (hp36.rest 12 (by decide)).trans f12
  replace f103 := (hp36.rest 103 (by decide)).trans f103
  replace f104 := (hp36.rest 104 (by decide)).trans f104
  replace f105 := (hp36.rest 105 (by decide)).trans f105
  replace f106 := (hp36.rest 106 (by decide)).trans f106
  replace f107 := (hp36.rest 107 (by decide)).trans f107
  replace f108 := (hp36.rest 108 (by decide)).trans f108
  replace f109 := (hp36.rest 109 (by decide)).trans f109
  replace f110 := (hp36.rest 110 (by decide)).trans f110
  replace f111 := (hp36.rest 111 (by decide)).trans f111
  replace f112 := (hp36.rest 112 (by decide)).trans f112
  replace f113 := (hp36.rest 113 (by decide)).trans f113
  replace f114 := (hp36.rest 114 (by decide)).trans f114
  replace f115 := (hp36.rest 115 (by decide)).trans f115
  replace f116 := (hp36.rest 116 (by decide)).trans f116
  replace f117 := (hp36.rest 117 (by decide)).trans f117
  replace f118 := (hp36.rest 118 (by decide)).trans f118
  replace f119 := (hp36.rest 119 (by decide)).trans f119
  replace f120 := (hp36.rest 120 (by decide)).trans f120
  replace f121 := (hp36.rest 121 (by decide)).trans f121
  replace f122 := (hp36.rest 122 (by decide)).trans f122
  replace f123 := (hp36.rest 123 (by decide)).trans f123
  replace f124 := (hp36.rest 124 (by decide)).trans f124
  replace f125 := (hp36.rest 125 (by decide)).trans f125
  replace f126 := (hp36.rest 126 (by decide)).trans f126
  replace f127 := (hp36.rest 127 (by decide)).trans f127
  replace f128 := (hp36.rest 128 (by decide)).trans f128
  replace f129 := (hp36.rest 129 (by decide)).trans f129
  replace f130 := (hp36.rest 130 (by decide)).trans f130
  replace f131 := (hp36.rest 131 (by decide)).trans f131
  replace f132 := (hp36.rest 132 (by decide)).trans f132
  replace f133 := (hp36.rest 133 (by decide)).trans f133
  replace f134 := (hp36.rest 134 (by decide)).trans f134
  replace f135 := (hp36.rest 135 (by decide)).trans f135
  replace f136 := (hp36.rest 136 (by decide)).trans f136
  replace f137 := (hp36.rest 137 (by decide)).trans f137
  refine wpLate_done (by kernel_rfl) ?_
  refine NoPanic.normal ?_
  have hq := hQ
  rw [hp1.eq, hp2.eq, hp3.eq, hp4.eq, hp5.eq, hp6.eq, hp7.eq, hp8.eq, hp9.eq, hp10.eq, hp11.eq, hp12.eq, hp13.eq, hp14.eq, hp15.eq, hp16.eq, hp17.eq, hp18.eq, hp19.eq, hp20.eq, hp21.eq, hp22.eq, hp23.eq, hp24.eq, hp25.eq, hp26.eq, hp27.eq, hp28.eq, hp29.eq, hp30.eq, hp31.eq, hp32.eq, hp33.eq, hp34.eq, hp35.eq, hp36.eq] at hq
  exact hq
end Go.Proofs.Ytelgmffmekfndaa
