/- Bytes of the call's own: an append of so many zeros; a memory over them. Conditions: as each theorem names them. CoreSteps compares two cores and two memories: one statement that draws its order, at a frame that is a letter. Conditions: as each theorem names them. -/
import Derived.Test.YtelgmffmekfndaaCoreEqsG
import Derived.Test.YtelgmffmekfndaaOwnRowG
import Derived.Lib.AppendZerosOnto
set_option linter.unusedVariables false
namespace Go.Proofs.Ytelgmffmekfndaa
open Go.ChangeShapes Go.WideShapes Go.ChangeAt Go.RowKit

theorem zeroCells_list (k : Nat) : (Builtin.zeroCells #[.int .u8 0] k).toList = List.replicate k (.int .u8 0) := by
  unfold Builtin.zeroCells
  apply List.ext_getElem
  · simp
  · intro i h1 h2
    simp [Nat.mod_one]
set_option maxRecDepth 100000 in
theorem run_append_room_zeros {P : Program} (w : World) (t tn ty e : TypeId) (i : TypeInfo) (z : Value) (kq kn : IntKind) (ht : P.underlying t = some (.slice e)) (htn : P.underlying tn = some (.int kn)) (hi : P.info? e = some i) (hz : i.zero = some z)
    (g sLen sCap k : Nat) (cur : Array Value) (hg : w.heap[g]? = some (.cells cur e (0, 0))) (h0 : 0 < k) (hs : i.size = 1) (hroom : sLen + k ≤ sCap) (hfit : sLen + k ≤ cur.size) (hz1 : z.cells = #[z]) (hz2 : z.oneCell' = true)
    (h63 : (k : Int) ≤ 9223372036854775807) (h48 : k * i.bytes ≤ 281474976710656) :
    (Builtin.append_ #[t, tn] ty #[.slice (some ⟨g, 0, none⟩) sLen sCap, .int kq k]).run P w =
      .ok (.slice (some ⟨g, 0, none⟩) (sLen + k) sCap) (w.setRow g (cur.toList.take sLen ++ (Builtin.zeroCells z.cells k).toList ++ cur.toList.drop (sLen + k)).toArray) := by
  have hk : k ≠ 0 := by omega
  have hw : IntKind.i64.wrap (k : Int) = k := by rw [IntKind.wrap_i64]; omega
  have h48i : ¬ (281474976710656 < (k : Int) * (i.bytes : Int)) := by
    rw [← Int.natCast_mul]
    omega
  have hneg : ¬ ((k : Int) < 0) := by omega
  have hlen : (Builtin.zeroCells z.cells k).toList.length = k := by rw [hz1]; simp [Builtin.zeroCells]
  have hall : ∀ v ∈ (Builtin.zeroCells z.cells k).toList, v.oneCell' = true := by
    intro v hv
    rw [hz1] at hv
    unfold Builtin.zeroCells at hv
    simp [Nat.mod_one] at hv
    obtain ⟨_, _, rfl⟩ := hv
    exact hz2
  have hst := run_storeCells_at P g sLen e (Builtin.zeroCells z.cells k).toList 0 cur w hg (by rw [hlen]; omega) hall
  rw [hlen] at hst
  simp only [Nat.add_zero] at hst
  simp [Builtin.append_, run_underlying ht, run_underlying htn, sizeOf, typeInfo, zeroValue, hi, hz, asInt, asIntOf, hw, hneg, hk, h48i, hs, hroom, Addr.add_lit, hst]

/-- append(b, make([]byte, k)...) on bytes of the call's own -/
theorem append_make {w : World} {base n k : Nat} {v : Value} {xs : List Value} (hown : w.ownsRow base 5 1 v n xs) (h0 : 0 < k) (hb : n + k ≤ 1000000) (hbase : base ≤ w.heap.size) (ty : TypeId) :
    ∃ v' w', (Builtin.append_ #[48, 3] ty #[v, .int .i64 k]).run Try.prog w = .ok v' w' ∧ w'.ownsRow base 5 1 v' (n + k) (xs ++ List.replicate k (.int .u8 0)) ∧ w.grownBy w' v.ownBlock := by
  obtain ⟨i, hi, hz0, hz1, hz2⟩ := info_parts info5
  have hzc : (Value.int .u8 0).cells = #[.int .u8 0] := rfl
  have hm : n + k ≤ maxLen := by unfold maxLen; omega
  have hlen : (xs ++ List.replicate k (Value.int .u8 0)).length = (n + k) * 1 := by rw [List.length_append, hown.1, List.length_replicate]; omega
  have grown : ∀ (old : Nat), old < n + k → ∀ (row : Option Nat),
      (w.drew.alloc (.cells (xs.toArray ++ Builtin.zeroCells #[.int .u8 0] k ++ Builtin.zeroCells #[.int .u8 0] (grownCap w (n + k) old 5 - (n + k))) 5)).ownsRow base 5 1
        (.slice (some ⟨w.heap.size, 0, none⟩) (n + k) (grownCap w (n + k) old 5)) (n + k) (xs ++ List.replicate k (.int .u8 0)) ∧
      w.grownBy (w.drew.alloc (.cells (xs.toArray ++ Builtin.zeroCells #[.int .u8 0] k ++ Builtin.zeroCells #[.int .u8 0] (grownCap w (n + k) old 5 - (n + k))) 5)) row := by
    intro old ho row
    have hge := grownCap_ge w (n + k) old 5
    have hcm : grownCap w (n + k) old 5 ≤ maxLen := grownCap_le_maxLen w (n + k) old 5 hm
    refine ⟨⟨hlen, .inr ⟨w.heap.size, _, _, rfl, hbase, heap_alloc_new w.drew _, hge, hcm, ?_, ?_⟩⟩, ⟨rfl, rfl, rfl, by simp, fun k hk _ => Below.heap_alloc w.drew _ k hk⟩⟩
    · simp only [Array.size_append, List.size_toArray, size_zeroCells, hown.1]
      simp
      omega
    · simp only [Array.toList_append, List.append_assoc, zeroCells_list]
      rw [← List.append_assoc, ← hlen]
      exact List.take_left
  rcases hown.2 with ⟨rfl, rfl⟩ | ⟨g, cap, cur, rfl, hbg, hg, hnc, hcm, hcs, htake⟩
  · have hx : xs = [] := List.eq_nil_of_length_eq_zero (by simpa using hown.1)
    subst hx
    have hr := Go.Lib.run_append_nil_zeros (P := Try.prog) w 48 3 ty 5 i (.int .u8 0) .i64 .i64 Try.underlying48 Try.underlying3 hi hz0 k h0 (by rw [hz1]; omega) (by omega) (by rw [hz2]; omega)
    have hgr := grown 0 (by omega) (Value.ownBlock (.slice none 0 0))
    rw [hzc] at hr
    simp only [Nat.zero_add, List.nil_append, Array.empty_append] at hgr ⊢
    exact ⟨_, _, hr, hgr.1, hgr.2⟩
  · by_cases hroom : n + k ≤ cap
    · have hr := run_append_room_zeros (P := Try.prog) w 48 3 ty 5 i (.int .u8 0) .i64 .i64 Try.underlying48 Try.underlying3 hi hz0 g n cap k cur hg h0 hz1 hroom (by rw [hcs]; omega) rfl rfl (by omega) (by rw [hz2]; omega)
      rw [hzc, zeroCells_list] at hr
      refine ⟨_, _, hr, ⟨hlen, .inr ⟨g, cap, _, rfl, hbg, setRow_heap w g cur _ 5 _ hg, hroom, hcm, ?_, ?_⟩⟩, ⟨rfl, rfl, rfl, by simp, fun k _ hk => setRow_other w g k _ (fun e => hk (by simp [Value.ownBlock, e]))⟩⟩
      · simp only [List.size_toArray, List.length_append, List.length_take, List.length_drop, Array.length_toList, List.length_replicate]
        omega
      · rw [Nat.mul_one] at htake
        rw [htake, ← hlen]
        exact List.take_left
    · have holds : ∀ j u, xs[j]? = some u → w.drew.cell? ((⟨g, 0, none⟩ : Addr).add j) = some u := fun j u hu => hown.cells (g := g) rfl j u hu
      have hfc := run_firstCells_some (P := Try.prog) w.drew 1 n ⟨g, 0, none⟩ n cap xs hown.1 holds
      have hr := Go.Lib.run_append_grow_zeros (P := Try.prog) w 48 3 ty 5 i (.int .u8 0) .i64 .i64 Try.underlying48 Try.underlying3 hi hz0 (some ⟨g, 0, none⟩) n cap xs (by rw [hz1]; exact hfc) k h0 (by rw [hz1]; omega) (by omega) (by omega) (by rw [hz2]; omega) (growslice_fits (by omega) (by rw [hz2]; omega))
      rw [hzc] at hr
      have hgr := grown cap (by omega) (Value.ownBlock (.slice (some ⟨g, 0, none⟩) n cap))
      exact ⟨_, _, hr, hgr.1, hgr.2⟩

/-- bytes as values -/
abbrev bys (ys : List Int) : List Value := ys.map (Value.int .u8)
def Byted (ys : List Int) : Prop := ∀ y ∈ ys, 0 ≤ y ∧ y ≤ 255
theorem Byted.nil : Byted [] := fun y hy => by cases hy
theorem Byted.append {a b : List Int} (ha : Byted a) (hb : Byted b) : Byted (a ++ b) := fun y hy => by
  rcases List.mem_append.1 hy with h | h
  · exact ha y h
  · exact hb y h
theorem Byted.zeros (k : Nat) : Byted (List.replicate k 0) := fun y hy => by rw [List.eq_of_mem_replicate hy]; omega
/-- a memory over bytes of the call's own -/
theorem mem_own {w : World} {base N : Nat} {v : Value} {ys : List Int} {hole : Int} (h : w.ownsRow base 5 1 v (N + 1) (bys ys)) (hy : Byted ys) (hN : N + 1 ≤ 1000000) (hb : -9223372036854775808 ≤ hole ∧ hole ≤ 9223372036854775807) :
    ∃ g cap, v = .slice (some ⟨g, 0, none⟩) (N + 1) cap ∧ base ≤ g ∧ g < w.heap.size ∧ N + 1 ≤ cap ∧ MemAt (w.alloc (.cells #[v, .int .i64 hole] 54)) w.heap.size g (N + 1) cap hole (fun i => ys.getD i 0) := by
  obtain ⟨g, cap, rfl, h1, h2, h3, _⟩ := own_form h
  have hlen : ys.length = N + 1 := by have := h.1; simpa using this
  refine ⟨g, cap, rfl, h1, h2, h3, by simp, by simp, fun i hi => ?_, fun i => ?_, fun i => ?_, h3, hN, hb⟩
  · rw [World.cell?_of_block (a := ⟨g, i, none⟩) (Below.heap_alloc _ _ _ h2), h.cellAt i (by omega)]
    simp [bys, List.getElem?_map, List.getElem?_eq_getElem (show i < ys.length by omega)]
  · by_cases hi : i < ys.length
    · simp only [List.getD, List.getElem?_eq_getElem hi, Option.getD_some]
      exact hy _ (List.getElem_mem hi)
    · simp only [List.getD, List.getElem?_eq_none (Nat.le_of_not_lt hi), Option.getD_none]
      omega
  · rw [World.frozen?_of_block (a := ⟨g, i, none⟩) (Below.heap_alloc _ _ _ h2)]
    exact h.frozenAt i
end Go.Proofs.Ytelgmffmekfndaa
set_option linter.unusedVariables false
namespace Go.Proofs.Ytelgmffmekfndaa
open Go.ChangeShapes Go.WideShapes Go.ChangeAt Go.RowKit

section
variable {ρ : Operand → Value}
theorem rn_neq3 {o : Oper} {x y : Operand} {a : Int} {s : TypeId} (ho : o.op = .binOp .neq 3 x y s) (h : ρ x = .int .i64 a) (h2 : ρ y = .int .i64 a) (w : World) : (execOp ρ o).run Try.prog w = .ok (.value (.bool false)) w := by
  unfold execOp; simp [ho, h, h2, go_sem]
theorem rn_neq22 {o : Oper} {x y : Operand} {a : Int} {s : TypeId} (ho : o.op = .binOp .neq 22 x y s) (h : ρ x = .int .u64 a) (h2 : ρ y = .int .u64 a) (w : World) : (execOp ρ o).run Try.prog w = .ok (.value (.bool false)) w := by
  unfold execOp; simp [ho, h, h2, go_sem]
theorem rn_neq9 {o : Oper} {x y : Operand} {a : ByteArray} {s : TypeId} (ho : o.op = .binOp .neq 9 x y s) (h : ρ x = .string a) (h2 : ρ y = .string a) (w : World) : (execOp ρ o).run Try.prog w = .ok (.value (.bool false)) w := by
  unfold execOp; simp [ho, h, h2, go_sem]
theorem rn_neq55 {o : Oper} {x y : Operand} {R : Nat → Int} {s : TypeId} (ho : o.op = .binOp .neq 55 x y s) (h : ρ x = .agg (regs R)) (h2 : ρ y = .agg (regs R)) (w : World) : (execOp ρ o).run Try.prog w = .ok (.value (.bool false)) w := by
  have := eq_arr0 R
  unfold execOp; simp [ho, h, h2, go_sem, this]
theorem rn_pickf {o : Oper} {x y z : Operand} {v : Value} (ho : o.op = .pick x y z) (h : ρ x = .bool false) (h2 : ρ z = v) (w : World) : (execOp ρ o).run Try.prog w = .ok (.value v) w := by
  subst h2; unfold execOp; simp [ho, h, go_sem]
theorem rn_f57b {o : Oper} {x : Operand} {b : Nat} (ho : o.op = .fieldAddr 57 x 1) (h : ρ x = .pointer (some ⟨b, 0, none⟩)) (w : World) : (execOp ρ o).run Try.prog w = .ok (.value (.pointer (some ⟨b, 16, none⟩))) w := by
  unfold execOp; simp [ho, h, go_sem]
theorem rn_f58b {o : Oper} {x : Operand} {b : Nat} (ho : o.op = .fieldAddr 58 x 1) (h : ρ x = .pointer (some ⟨b, 0, none⟩)) (w : World) : (execOp ρ o).run Try.prog w = .ok (.value (.pointer (some ⟨b, 16, none⟩))) w := by
  unfold execOp; simp [ho, h, go_sem]
theorem rn_load55 {o : Oper} {x : Operand} {c : Nat} {R : Nat → Int} {pc : Int} (ho : o.op = .load 55 x) (h : ρ x = .pointer (some ⟨c, 0, none⟩)) (w : World) (hc : CoreAt w c R pc) : (execOp ρ o).run Try.prog w = .ok (.value (.agg (regs R))) w := by
  have c0 := hc.r 0 (by omega)
  have c1 := hc.r 1 (by omega)
  have c2 := hc.r 2 (by omega)
  have c3 := hc.r 3 (by omega)
  have c4 := hc.r 4 (by omega)
  have c5 := hc.r 5 (by omega)
  have c6 := hc.r 6 (by omega)
  have c7 := hc.r 7 (by omega)
  have c8 := hc.r 8 (by omega)
  have c9 := hc.r 9 (by omega)
  have c10 := hc.r 10 (by omega)
  have c11 := hc.r 11 (by omega)
  have c12 := hc.r 12 (by omega)
  have c13 := hc.r 13 (by omega)
  have c14 := hc.r 14 (by omega)
  have c15 := hc.r 15 (by omega)
  unfold execOp; simp [ho, h, c0, c1, c2, c3, c4, c5, c6, c7, c8, c9, c10, c11, c12, c13, c14, c15, go_sem]
end
noncomputable def code17_22 : Code := (Try.f17.body.bind (regionOf 22)).getD .skip
set_option maxRecDepth 100000 in
set_option maxHeartbeats 4000000 in
theorem steps_reg (c d M M' g g' n cap cap' : Nat) (hole pc x : Int) (R f : Nat → Int) (wA : World) (hc0 : CoreAt wA c R pc) (hd0 : CoreAt wA d R pc) (hm0 : MemAt wA M g n cap hole f) (hn0 : MemAt wA M' g' n cap' hole f) (gz0 : g < wA.heap.size) (gz1 : g' < wA.heap.size)
    (a0 : Act) (hs0 : a0.tmps.size = 114) (f10 : a0.eval (.tmp 10) = .pointer (some ⟨M, 0, none⟩)) (f11 : a0.eval (.tmp 11) = .pointer (some ⟨M', 0, none⟩)) (f12 : a0.eval (.tmp 12) = .pointer (some ⟨c, 0, none⟩)) (f13 : a0.eval (.tmp 13) = .pointer (some ⟨d, 0, none⟩)) (f14 : a0.eval (.tmp 14) = .int .i64 x) (f15 : a0.eval (.tmp 15) = .int .i64 x) (Q : Exit → Act → World → Prop)
    (hQ : Q .normal ((((((((((((((((((((((((((((((a0.put (some 81) (.int .i64 x)).put (some 82) (.int .i64 x)).put (some 83) (.bool false)).put (some 84) (.bool false)).put (some 85) (.pointer (some ⟨c, 0, none⟩))).put (some 86) (.agg (regs R))).put (some 87) (.pointer (some ⟨d, 0, none⟩))).put (some 88) (.agg (regs R))).put (some 89) (.bool false)).put (some 90) (.bool false)).put (some 91) (.bool false)).put (some 92) (.pointer (some ⟨c, 16, none⟩))).put (some 93) (.int .u64 pc)).put (some 94) (.pointer (some ⟨d, 16, none⟩))).put (some 95) (.int .u64 pc)).put (some 96) (.bool false)).put (some 97) (.bool false)).put (some 98) (.bool false)).put (some 99) (.pointer (some ⟨M, 0, none⟩))).put (some 100) (.pointer (some ⟨M, 0, none⟩))).put (some 101) (.pointer (some ⟨M, 0, none⟩))).put (some 102) (.slice (some ⟨g, 0, none⟩) n cap)).put (some 103) (.string (strF f 0 n))).put (some 104) (.pointer (some ⟨M', 0, none⟩))).put (some 105) (.pointer (some ⟨M', 0, none⟩))).put (some 106) (.pointer (some ⟨M', 0, none⟩))).put (some 107) (.slice (some ⟨g', 0, none⟩) n cap')).put (some 108) (.string (strF f 0 n))).put (some 109) (.bool false)).put (some 110) (.bool false)) wA.drew) : code17_22.wp Try.prog Q a0 wA := by
  conv => arg 2; whnf
  refine wp_region_noPanic ?_
  refine wp_region_late (fun w' => CoreAt w' c R pc ∧ CoreAt w' d R pc ∧ MemAt w' M g n cap hole f ∧ MemAt w' M' g' n cap' hole f) [5, 7, 12, 14, 21, 22, 26, 27] 30 (by rfl) (by kernel_rfl) ?_
  have hc : CoreAt wA.drew c R pc := hc0.grown (row := none) ⟨rfl, rfl, rfl, Nat.le_refl _, fun _ _ _ => rfl⟩ (by simp)
  have hd : CoreAt wA.drew d R pc := hd0.grown (row := none) ⟨rfl, rfl, rfl, Nat.le_refl _, fun _ _ _ => rfl⟩ (by simp)
  have hm : MemAt wA.drew M g n cap hole f := hm0.grown (row := none) ⟨rfl, rfl, rfl, Nat.le_refl _, fun _ _ _ => rfl⟩ (by simp) (by simp) gz0
  have hn : MemAt wA.drew M' g' n cap' hole f := hn0.grown (row := none) ⟨rfl, rfl, rfl, Nat.le_refl _, fun _ _ _ => rfl⟩ (by simp) (by simp) gz1
  clear hc0 hd0 hm0 hn0 gz0 gz1
  generalize wA.drew = w5 at *
  have hv0 : a0.eval = a0.eval := rfl
  refine lt_pure (i := 0) (v := .int .i64 x) (d := 81) hv0 (by rfl) (by kernel_rfl) (by kernel_rfl) (by kernel_rfl) (fun _ _ _ h => h) (by rfl) (fun w => rn_move rfl f14 w) rfl hs0 (by decide) (fun a1 ρ1 hp1 => ?_)
  have hv1 := hp1.ev
  have hs1 := hp1.sz
  have f81 := hp1.at'
  replace f10 := (hp1.rest 10 (by decide)).trans f10
  replace f11 := (hp1.rest 11 (by decide)).trans f11
  replace f12 := (hp1.rest 12 (by decide)).trans f12
  replace f13 := (hp1.rest 13 (by decide)).trans f13
  replace f14 := (hp1.rest 14 (by decide)).trans f14
  replace f15 := (hp1.rest 15 (by decide)).trans f15
  refine lt_pure (i := 1) (v := .int .i64 x) (d := 82) hv1 (by rfl) (by kernel_rfl) (by kernel_rfl) (by kernel_rfl) (fun _ _ _ h => h) (by rfl) (fun w => rn_move rfl f15 w) rfl hs1 (by decide) (fun a2 ρ2 hp2 => ?_)
  have hv2 := hp2.ev
  have hs2 := hp2.sz
  have f82 := hp2.at'
  replace f10 := (hp2.rest 10 (by decide)).trans f10
  replace f11 := (hp2.rest 11 (by decide)).trans f11
  replace f12 := (hp2.rest 12 (by decide)).trans f12
  replace f13 := (hp2.rest 13 (by decide)).trans f13
  replace f14 := (hp2.rest 14 (by decide)).trans f14
  replace f15 := (hp2.rest 15 (by decide)).trans f15
  replace f81 := (hp2.rest 81 (by decide)).trans f81
  refine lt_pure (i := 2) (v := .bool false) (d := 83) hv2 (by rfl) (by kernel_rfl) (by kernel_rfl) (by kernel_rfl) (fun _ _ _ h => h) (by rfl) (fun w => rn_neq3 rfl f81 f82 w) rfl hs2 (by decide) (fun a3 ρ3 hp3 => ?_)
  have hv3 := hp3.ev
  have hs3 := hp3.sz
  have f83 := hp3.at'
  replace f10 := (hp3.rest 10 (by decide)).trans f10
  replace f11 := (hp3.rest 11 (by decide)).trans f11
  replace f12 := (hp3.rest 12 (by decide)).trans f12
  replace f13 := (hp3.rest 13 (by decide)).trans f13
  replace f14 := (hp3.rest 14 (by decide)).trans f14
  replace f15 := (hp3.rest 15 (by decide)).trans f15
  replace f81 := (hp3.rest 81 (by decide)).trans f81
  replace f82 := (hp3.rest 82 (by decide)).trans f82
  refine lt_pure (i := 3) (v := .bool false) (d := 84) hv3 (by rfl) (by kernel_rfl) (by kernel_rfl) (by kernel_rfl) (fun _ _ _ h => h) (by rfl) (fun w => rn_move rfl f83 w) rfl hs3 (by decide) (fun a4 ρ4 hp4 => ?_)
  have hv4 := hp4.ev
  have hs4 := hp4.sz
  have f84 := hp4.at'
  replace f10 := (hp4.rest 10 (by decide)).trans f10
  replace f11 := (hp4.rest 11 (by decide)).trans f11
  replace f12 := (hp4.rest 12 (by decide)).trans f12
  replace f13 := (hp4.rest 13 (by decide)).trans f13
  replace f14 := (hp4.rest 14 (by decide)).trans f14
  replace f15 := (hp4.rest 15 (by decide)).trans f15
  replace f81 := (hp4.rest 81 (by decide)).trans f81
  replace f82 := (hp4.rest 82 (by decide)).trans f82
  replace f83 := (hp4.rest 83 (by decide)).trans f83
  refine lt_pure (i := 4) (v := .pointer (some ⟨c, 0, none⟩)) (d := 85) hv4 (by rfl) (by kernel_rfl) (by kernel_rfl) (by kernel_rfl) (fun _ _ _ h => h) (wanted_of (d := 84) (by rfl) (by rfl) hv4 hs4 (by decide) f84) (fun w => rn_f57 rfl f12 w) rfl hs4 (by decide) (fun a5 ρ5 hp5 => ?_)
  have hv5 := hp5.ev
  have hs5 := hp5.sz
  have f85 := hp5.at'
  replace f10 := (hp5.rest 10 (by decide)).trans f10
  replace f11 := (hp5.rest 11 (by decide)).trans f11
  replace f12 := (hp5.rest 12 (by decide)).trans f12
  replace f13 := (hp5.rest 13 (by decide)).trans f13
  replace f14 := (hp5.rest 14 (by decide)).trans f14
  replace f15 := (hp5.rest 15 (by decide)).trans f15
  replace f81 := (hp5.rest 81 (by decide)).trans f81
  replace f82 := (hp5.rest 82 (by decide)).trans f82
  replace f83 := (hp5.rest 83 (by decide)).trans f83
  replace f84 := (hp5.rest 84 (by decide)).trans f84
  refine lt_load (i := 5) (v := .agg (regs R)) (d := 86) hv5 (by rfl) (by kernel_rfl) (by kernel_rfl) (by kernel_rfl) (by simp) (fun _ _ _ h => h) (wanted_of (d := 84) (by rfl) (by rfl) hv5 hs5 (by decide) f84) (fun w hS => rn_load55 rfl f85 w hS.1) ⟨hc, hd, hm, hn⟩ rfl hs5 (by decide) (fun a6 ρ6 hp6 => ?_)
  have hv6 := hp6.ev
  have hs6 := hp6.sz
  have f86 := hp6.at'
  replace f10 := (hp6.rest 10 (by decide)).trans f10
  replace f11 := (hp6.rest 11 (by decide)).trans f11
  replace f12 := (hp6.rest 12 (by decide)).trans f12
  replace f13 := (hp6.rest 13 (by decide)).trans f13
  replace f14 := (hp6.rest 14 (by decide)).trans f14
  replace f15 := (hp6.rest 15 (by decide)).trans f15
  replace f81 := (hp6.rest 81 (by decide)).trans f81
  replace f82 := (hp6.rest 82 (by decide)).trans f82
  replace f83 := (hp6.rest 83 (by decide)).trans f83
  replace f84 := (hp6.rest 84 (by decide)).trans f84
  replace f85 := (hp6.rest 85 (by decide)).trans f85
  refine lt_pure (i := 6) (v := .pointer (some ⟨d, 0, none⟩)) (d := 87) hv6 (by rfl) (by kernel_rfl) (by kernel_rfl) (by kernel_rfl) (fun _ _ _ h => h) (wanted_of (d := 84) (by rfl) (by rfl) hv6 hs6 (by decide) f84) (fun w => rn_f58 rfl f13 w) rfl hs6 (by decide) (fun a7 ρ7 hp7 => ?_)
  have hv7 := hp7.ev
  have hs7 := hp7.sz
  have f87 := hp7.at'
  replace f10 := (hp7.rest 10 (by decide)).trans f10
  replace f11 := (hp7.rest 11 (by decide)).trans f11
  replace f12 := (hp7.rest 12 (by decide)).trans f12
  replace f13 := (hp7.rest 13 (by decide)).trans f13
  replace f14 := (hp7.rest 14 (by decide)).trans f14
  replace f15 := (hp7.rest 15 (by decide)).trans f15
  replace f81 := (hp7.rest 81 (by decide)).trans f81
  replace f82 := (hp7.rest 82 (by decide)).trans f82
  replace f83 := (hp7.rest 83 (by decide)).trans f83
  replace f84 := (hp7.rest 84 (by decide)).trans f84
  replace f85 := (hp7.rest 85 (by decide)).trans f85
  replace f86 := (hp7.rest 86 (by decide)).trans f86
  refine lt_load (i := 7) (v := .agg (regs R)) (d := 88) hv7 (by rfl) (by kernel_rfl) (by kernel_rfl) (by kernel_rfl) (by simp) (fun _ _ _ h => h) (wanted_of (d := 84) (by rfl) (by rfl) hv7 hs7 (by decide) f84) (fun w hS => rn_load55 rfl f87 w hS.2.1) ⟨hc, hd, hm, hn⟩ rfl hs7 (by decide) (fun a8 ρ8 hp8 => ?_)
  have hv8 := hp8.ev
  have hs8 := hp8.sz
  have f88 := hp8.at'
  replace f10 := (hp8.rest 10 (by decide)).trans f10
  replace f11 := (hp8.rest 11 (by decide)).trans f11
  replace f12 := (hp8.rest 12 (by decide)).trans f12
  replace f13 := (hp8.rest 13 (by decide)).trans f13
  replace f14 := (hp8.rest 14 (by decide)).trans f14
  replace f15 := (hp8.rest 15 (by decide)).trans f15
  replace f81 := (hp8.rest 81 (by decide)).trans f81
  replace f82 := (hp8.rest 82 (by decide)).trans f82
  replace f83 := (hp8.rest 83 (by decide)).trans f83
  replace f84 := (hp8.rest 84 (by decide)).trans f84
  replace f85 := (hp8.rest 85 (by decide)).trans f85
  replace f86 := (hp8.rest 86 (by decide)).trans f86
  replace f87 := (hp8.rest 87 (by decide)).trans f87
  refine lt_pure (i := 8) (v := .bool false) (d := 89) hv8 (by rfl) (by kernel_rfl) (by kernel_rfl) (by kernel_rfl) (fun _ _ _ h => h) (wanted_of (d := 84) (by rfl) (by rfl) hv8 hs8 (by decide) f84) (fun w => rn_neq55 rfl f86 f88 w) rfl hs8 (by decide) (fun a9 ρ9 hp9 => ?_)
  have hv9 := hp9.ev
  have hs9 := hp9.sz
  have f89 := hp9.at'
  replace f10 := (hp9.rest 10 (by decide)).trans f10
  replace f11 := (hp9.rest 11 (by decide)).trans f11
  replace f12 := (hp9.rest 12 (by decide)).trans f12
  replace f13 := (hp9.rest 13 (by decide)).trans f13
  replace f14 := (hp9.rest 14 (by decide)).trans f14
  replace f15 := (hp9.rest 15 (by decide)).trans f15
  replace f81 := (hp9.rest 81 (by decide)).trans f81
  replace f82 := (hp9.rest 82 (by decide)).trans f82
  replace f83 := (hp9.rest 83 (by decide)).trans f83
  replace f84 := (hp9.rest 84 (by decide)).trans f84
  replace f85 := (hp9.rest 85 (by decide)).trans f85
  replace f86 := (hp9.rest 86 (by decide)).trans f86
  replace f87 := (hp9.rest 87 (by decide)).trans f87
  replace f88 := (hp9.rest 88 (by decide)).trans f88
  refine lt_pure (i := 9) (v := .bool false) (d := 90) hv9 (by rfl) (by kernel_rfl) (by kernel_rfl) (by kernel_rfl) (fun _ _ _ h => h) (by rfl) (fun w => rn_pickf rfl f84 f89 w) rfl hs9 (by decide) (fun a10 ρ10 hp10 => ?_)
  have hv10 := hp10.ev
  have hs10 := hp10.sz
  have f90 := hp10.at'
  replace f10 := (hp10.rest 10 (by decide)).trans f10
  replace f11 := (hp10.rest 11 (by decide)).trans f11
  replace f12 := (hp10.rest 12 (by decide)).trans f12
  replace f13 := (hp10.rest 13 (by decide)).trans f13
  replace f14 := (hp10.rest 14 (by decide)).trans f14
  replace f15 := (hp10.rest 15 (by decide)).trans f15
  replace f81 := (hp10.rest 81 (by decide)).trans f81
  replace f82 := (hp10.rest 82 (by decide)).trans f82
  replace f83 := (hp10.rest 83 (by decide)).trans f83
  replace f84 := (hp10.rest 84 (by decide)).trans f84
  replace f85 := (hp10.rest 85 (by decide)).trans f85
  replace f86 := (hp10.rest 86 (by decide)).trans f86
  replace f87 := (hp10.rest 87 (by decide)).trans f87
  replace f88 := (hp10.rest 88 (by decide)).trans f88
  replace f89 := (hp10.rest 89 (by decide)).trans f89
  refine lt_pure (i := 10) (v := .bool false) (d := 91) hv10 (by rfl) (by kernel_rfl) (by kernel_rfl) (by kernel_rfl) (fun _ _ _ h => h) (by rfl) (fun w => rn_move rfl f90 w) rfl hs10 (by decide) (fun a11 ρ11 hp11 => ?_)
  have hv11 := hp11.ev
  have hs11 := hp11.sz
  have f91 := hp11.at'
  replace f10 := (hp11.rest 10 (by decide)).trans f10
  replace f11 := (hp11.rest 11 (by decide)).trans f11
  replace f12 := (hp11.rest 12 (by decide)).trans f12
  replace f13 := (hp11.rest 13 (by decide)).trans f13
  replace f14 := (hp11.rest 14 (by decide)).trans f14
  replace f15 := (hp11.rest 15 (by decide)).trans f15
  replace f81 := (hp11.rest 81 (by decide)).trans f81
  replace f82 := (hp11.rest 82 (by decide)).trans f82
  replace f83 := (hp11.rest 83 (by decide)).trans f83
  replace f84 := (hp11.rest 84 (by decide)).trans f84
  replace f85 := (hp11.rest 85 (by decide)).trans f85
  replace f86 := (hp11.rest 86 (by decide)).trans f86
  replace f87 := (hp11.rest 87 (by decide)).trans f87
  replace f88 := (hp11.rest 88 (by decide)).trans f88
  replace f89 := (hp11.rest 89 (by decide)).trans f89
  replace f90 := (hp11.rest 90 (by decide)).trans f90
  refine lt_pure (i := 11) (v := .pointer (some ⟨c, 16, none⟩)) (d := 92) hv11 (by rfl) (by kernel_rfl) (by kernel_rfl) (by kernel_rfl) (fun _ _ _ h => h) (wanted_of (d := 91) (by rfl) (by rfl) hv11 hs11 (by decide) f91) (fun w => rn_f57b rfl f12 w) rfl hs11 (by decide) (fun a12 ρ12 hp12 => ?_)
  have hv12 := hp12.ev
  have hs12 := hp12.sz
  have f92 := hp12.at'
  replace f10 := (hp12.rest 10 (by decide)).trans f10
  replace f11 := (hp12.rest 11 (by decide)).trans f11
  replace f12 := (hp12.rest 12 (by decide)).trans f12
  replace f13 := (hp12.rest 13 (by decide)).trans f13
  replace f14 := (hp12.rest 14 (by decide)).trans f14
  replace f15 := (hp12.rest 15 (by decide)).trans f15
  replace f81 := (hp12.rest 81 (by decide)).trans f81
  replace f82 := (hp12.rest 82 (by decide)).trans f82
  replace f83 := (hp12.rest 83 (by decide)).trans f83
  replace f84 := (hp12.rest 84 (by decide)).trans f84
  replace f85 := (hp12.rest 85 (by decide)).trans f85
  replace f86 := (hp12.rest 86 (by decide)).trans f86
  replace f87 := (hp12.rest 87 (by decide)).trans f87
  replace f88 := (hp12.rest 88 (by decide)).trans f88
  replace f89 := (hp12.rest 89 (by decide)).trans f89
  replace f90 := (hp12.rest 90 (by decide)).trans f90
  replace f91 := (hp12.rest 91 (by decide)).trans f91
  refine lt_load (i := 12) (v := .int .u64 pc) (d := 93) hv12 (by rfl) (by kernel_rfl) (by kernel_rfl) (by kernel_rfl) (by simp) (fun _ _ _ h => h) (wanted_of (d := 91) (by rfl) (by rfl) hv12 hs12 (by decide) f91) (fun w hS => rn_load22 rfl f92 w hS.1.p) ⟨hc, hd, hm, hn⟩ rfl hs12 (by decide) (fun a13 ρ13 hp13 => ?_)
  have hv13 := hp13.ev
  have hs13 := hp13.sz
  have f93 := hp13.at'
  replace f10 := (hp13.rest 10 (by decide)).trans f10
  replace f11 := (hp13.rest 11 (by decide)).trans f11
  replace f12 := (hp13.rest 12 (by decide)).trans f12
  replace f13 := (hp13.rest 13 (by decide)).trans f13
  replace f14 := (hp13.rest 14 (by decide)).trans f14
  replace f15 := (hp13.rest 15 (by decide)).trans f15
  replace f81 := (hp13.rest 81 (by decide)).trans f81
  replace f82 := (hp13.rest 82 (by decide)).trans f82
  replace f83 := (hp13.rest 83 (by decide)).trans f83
  replace f84 := (hp13.rest 84 (by decide)).trans f84
  replace f85 := (hp13.rest 85 (by decide)).trans f85
  replace f86 := (hp13.rest 86 (by decide)).trans f86
  replace f87 := (hp13.rest 87 (by decide)).trans f87
  replace f88 := (hp13.rest 88 (by decide)).trans f88
  replace f89 := (hp13.rest 89 (by decide)).trans f89
  replace f90 := (hp13.rest 90 (by decide)).trans f90
  replace f91 := (hp13.rest 91 (by decide)).trans f91
  replace f92 := (hp13.rest 92 (by decide)).trans f92
  refine lt_pure (i := 13) (v := .pointer (some ⟨d, 16, none⟩)) (d := 94) hv13 (by rfl) (by kernel_rfl) (by kernel_rfl) (by kernel_rfl) (fun _ _ _ h => h) (wanted_of (d := 91) (by rfl) (by rfl) hv13 hs13 (by decide) f91) (fun w => rn_f58b rfl f13 w) rfl hs13 (by decide) (fun a14 ρ14 hp14 => ?_)
  have hv14 := hp14.ev
  have hs14 := hp14.sz
  have f94 := hp14.at'
  replace f10 := (hp14.rest 10 (by decide)).trans f10
  replace f11 := (hp14.rest 11 (by decide)).trans f11
  replace f12 := (hp14.rest 12 (by decide)).trans f12
  replace f13 := (hp14.rest 13 (by decide)).trans f13
  replace f14 := (hp14.rest 14 (by decide)).trans f14
  replace f15 := (hp14.rest 15 (by decide)).trans f15
  replace f81 := (hp14.rest 81 (by decide)).trans f81
  replace f82 := (hp14.rest 82 (by decide)).trans f82
  replace f83 := (hp14.rest 83 (by decide)).trans f83
  replace f84 := (hp14.rest 84 (by decide)).trans f84
  replace f85 := (hp14.rest 85 (by decide)).trans f85
  replace f86 := (hp14.rest 86 (by decide)).trans f86
  replace f87 := (hp14.rest 87 (by decide)).trans f87
  replace f88 := (hp14.rest 88 (by decide)).trans f88
  replace f89 := (hp14.rest 89 (by decide)).trans f89
  replace f90 := (hp14.rest 90 (by decide)).trans f90
  replace f91 := (hp14.rest 91 (by decide)).trans f91
  replace f92 := (hp14.rest 92 (by decide)).trans f92
  replace f93 := (hp14.rest 93 (by decide)).trans f93
  refine lt_load (i := 14) (v := .int .u64 pc) (d := 95) hv14 (by rfl) (by kernel_rfl) (by kernel_rfl) (by kernel_rfl) (by simp) (fun _ _ _ h => h) (wanted_of (d := 91) (by rfl) (by rfl) hv14 hs14 (by decide) f91) (fun w hS => rn_load22 rfl f94 w hS.2.1.p) ⟨hc, hd, hm, hn⟩ rfl hs14 (by decide) (fun a15 ρ15 hp15 => ?_)
  have hv15 := hp15.ev
  have hs15 := hp15.sz
  have f95 := hp15.at'
  replace f10 := (hp15.rest 10 (by decide)).trans f10
  replace f11 := (hp15.rest 11 (by decide)).trans f11
  replace f12 := (hp15.rest 12 (by decide)).trans f12
  replace f13 := (hp15.rest 13 (by decide)).trans f13
  replace f14 := (hp15.rest 14 (by decide)).trans f14
  replace f15 := (hp15.rest 15 (by decide)).trans f15
  replace f81 := (hp15.rest 81 (by decide)).trans f81
  replace f82 := (hp15.rest 82 (by decide)).trans f82
  replace f83 := (hp15.rest 83 (by decide)).trans f83
  replace f84 := (hp15.rest 84 (by decide)).trans f84
  replace f85 := (hp15.rest 85 (by decide)).trans f85
  replace f86 := (hp15.rest 86 (by decide)).trans f86
  replace f87 := (hp15.rest 87 (by decide)).trans f87
  replace f88 := (hp15.rest 88 (by decide)).trans f88
  replace f89 := (hp15.rest 89 (by decide)).trans f89
  replace f90 := (hp15.rest 90 (by decide)).trans f90
  replace f91 := (hp15.rest 91 (by decide)).trans f91
  replace f92 := (hp15.rest 92 (by decide)).trans f92
  replace f93 := (hp15.rest 93 (by decide)).trans f93
  replace f94 := (hp15.rest 94 (by decide)).trans f94
  refine lt_pure (i := 15) (v := .bool false) (d := 96) hv15 (by rfl) (by kernel_rfl) (by kernel_rfl) (by kernel_rfl) (fun _ _ _ h => h) (wanted_of (d := 91) (by rfl) (by rfl) hv15 hs15 (by decide) f91) (fun w => rn_neq22 rfl f93 f95 w) rfl hs15 (by decide) (fun a16 ρ16 hp16 => ?_)
  have hv16 := hp16.ev
  have hs16 := hp16.sz
  have f96 := hp16.at'
  replace f10 := (hp16.rest 10 (by decide)).trans f10
  replace f11 := (hp16.rest 11 (by decide)).trans f11
  replace f12 := (hp16.rest 12 (by decide)).trans f12
  replace f13 := (hp16.rest 13 (by decide)).trans f13
  replace f14 := (hp16.rest 14 (by decide)).trans f14
  replace f15 := (hp16.rest 15 (by decide)).trans f15
  replace f81 := (hp16.rest 81 (by decide)).trans f81
  replace f82 := (hp16.rest 82 (by decide)).trans f82
  replace f83 := (hp16.rest 83 (by decide)).trans f83
  replace f84 := (hp16.rest 84 (by decide)).trans f84
  replace f85 := (hp16.rest 85 (by decide)).trans f85
  replace f86 := (hp16.rest 86 (by decide)).trans f86
  replace f87 := (hp16.rest 87 (by decide)).trans f87
  replace f88 := (hp16.rest 88 (by decide)).trans f88
  replace f89 := (hp16.rest 89 (by decide)).trans f89
  replace f90 := (hp16.rest 90 (by decide)).trans f90
  replace f91 := (hp16.rest 91 (by decide)).trans f91
  replace f92 := (hp16.rest 92 (by decide)).trans f92
  replace f93 := (hp16.rest 93 (by decide)).trans f93
  replace f94 := (hp16.rest 94 (by decide)).trans f94
  replace f95 := (hp16.rest 95 (by decide)).trans f95
  refine lt_pure (i := 16) (v := .bool false) (d := 97) hv16 (by rfl) (by kernel_rfl) (by kernel_rfl) (by kernel_rfl) (fun _ _ _ h => h) (by rfl) (fun w => rn_pickf rfl f91 f96 w) rfl hs16 (by decide) (fun a17 ρ17 hp17 => ?_)
  have hv17 := hp17.ev
  have hs17 := hp17.sz
  have f97 := hp17.at'
  replace f10 := (hp17.rest 10 (by decide)).trans f10
  replace f11 := (hp17.rest 11 (by decide)).trans f11
  replace f12 := (hp17.rest 12 (by decide)).trans f12
  replace f13 := (hp17.rest 13 (by decide)).trans f13
  replace f14 := (hp17.rest 14 (by decide)).trans f14
  replace f15 := (hp17.rest 15 (by decide)).trans f15
  replace f81 := (hp17.rest 81 (by decide)).trans f81
  replace f82 := (hp17.rest 82 (by decide)).trans f82
  replace f83 := (hp17.rest 83 (by decide)).trans f83
  replace f84 := (hp17.rest 84 (by decide)).trans f84
  replace f85 := (hp17.rest 85 (by decide)).trans f85
  replace f86 := (hp17.rest 86 (by decide)).trans f86
  replace f87 := (hp17.rest 87 (by decide)).trans f87
  replace f88 := (hp17.rest 88 (by decide)).trans f88
  replace f89 := (hp17.rest 89 (by decide)).trans f89
  replace f90 := (hp17.rest 90 (by decide)).trans f90
  replace f91 := (hp17.rest 91 (by decide)).trans f91
  replace f92 := (hp17.rest 92 (by decide)).trans f92
  replace f93 := (hp17.rest 93 (by decide)).trans f93
  replace f94 := (hp17.rest 94 (by decide)).trans f94
  replace f95 := (hp17.rest 95 (by decide)).trans f95
  replace f96 := (hp17.rest 96 (by decide)).trans f96
  refine lt_pure (i := 17) (v := .bool false) (d := 98) hv17 (by rfl) (by kernel_rfl) (by kernel_rfl) (by kernel_rfl) (fun _ _ _ h => h) (by rfl) (fun w => rn_move rfl f97 w) rfl hs17 (by decide) (fun a18 ρ18 hp18 => ?_)
  have hv18 := hp18.ev
  have hs18 := hp18.sz
  have f98 := hp18.at'
  replace f10 := (hp18.rest 10 (by decide)).trans f10
  replace f11 := (hp18.rest 11 (by decide)).trans f11
  replace f12 := (hp18.rest 12 (by decide)).trans f12
  replace f13 := (hp18.rest 13 (by decide)).trans f13
  replace f14 := (hp18.rest 14 (by decide)).trans f14
  replace f15 := (hp18.rest 15 (by decide)).trans f15
  replace f81 := (hp18.rest 81 (by decide)).trans f81
  replace f82 := (hp18.rest 82 (by decide)).trans f82
  replace f83 := (hp18.rest 83 (by decide)).trans f83
  replace f84 := (hp18.rest 84 (by decide)).trans f84
  replace f85 := (hp18.rest 85 (by decide)).trans f85
  replace f86 := (hp18.rest 86 (by decide)).trans f86
  replace f87 := (hp18.rest 87 (by decide)).trans f87
  replace f88 := (hp18.rest 88 (by decide)).trans f88
  replace f89 := (hp18.rest 89 (by decide)).trans f89
  replace f90 := (hp18.rest 90 (by decide)).trans f90
  replace f91 := (hp18.rest 91 (by decide)).trans f91
  replace f92 := (hp18.rest 92 (by decide)).trans f92
  replace f93 := (hp18.rest 93 (by decide)).trans f93
  replace f94 := (hp18.rest 94 (by decide)).trans f94
  replace f95 := (hp18.rest 95 (by decide)).trans f95
  replace f96 := (hp18.rest 96 (by decide)).trans f96
  replace f97 := (hp18.rest 97 (by decide)).trans f97
  refine lt_pure (i := 18) (v := .pointer (some ⟨M, 0, none⟩)) (d := 99) hv18 (by rfl) (by kernel_rfl) (by kernel_rfl) (by kernel_rfl) (fun _ _ _ h => h) (wanted_of (d := 98) (by rfl) (by rfl) hv18 hs18 (by decide) f98) (fun w => rn_move rfl f10 w) rfl hs18 (by decide) (fun a19 ρ19 hp19 => ?_)
  have hv19 := hp19.ev
  have hs19 := hp19.sz
  have f99 := hp19.at'
  replace f10 := (hp19.rest 10 (by decide)).trans f10
  replace f11 := (hp19.rest 11 (by decide)).trans f11
  replace f12 := (hp19.rest 12 (by decide)).trans f12
  replace f13 := (hp19.rest 13 (by decide)).trans f13
  replace f14 := (hp19.rest 14 (by decide)).trans f14
  replace f15 := (hp19.rest 15 (by decide)).trans f15
  replace f81 := (hp19.rest 81 (by decide)).trans f81
  replace f82 := (hp19.rest 82 (by decide)).trans f82
  replace f83 := (hp19.rest 83 (by decide)).trans f83
  replace f84 := (hp19.rest 84 (by decide)).trans f84
  replace f85 := (hp19.rest 85 (by decide)).trans f85
  replace f86 := (hp19.rest 86 (by decide)).trans f86
  replace f87 := (hp19.rest 87 (by decide)).trans f87
  replace f88 := (hp19.rest 88 (by decide)).trans f88
  replace f89 := (hp19.rest 89 (by decide)).trans f89
  replace f90 := (hp19.rest 90 (by decide)).trans f90
  replace f91 := (hp19.rest 91 (by decide)).trans f91
  replace f92 := (hp19.rest 92 (by decide)).trans f92
  replace f93 := (hp19.rest 93 (by decide)).trans f93
  replace f94 := (hp19.rest 94 (by decide)).trans f94
  replace f95 := (hp19.rest 95 (by decide)).trans f95
  replace f96 := (hp19.rest 96 (by decide)).trans f96
  replace f97 := (hp19.rest 97 (by decide)).trans f97
  replace f98 := (hp19.rest 98 (by decide)).trans f98
  refine lt_pure (i := 19) (v := .pointer (some ⟨M, 0, none⟩)) (d := 100) hv19 (by rfl) (by kernel_rfl) (by kernel_rfl) (by kernel_rfl) (fun _ _ _ h => h) (wanted_of (d := 98) (by rfl) (by rfl) hv19 hs19 (by decide) f98) (fun w => rn_nil rfl f99 w) rfl hs19 (by decide) (fun a20 ρ20 hp20 => ?_)
  have hv20 := hp20.ev
  have hs20 := hp20.sz
  have f100 := hp20.at'
  replace f10 := (hp20.rest 10 (by decide)).trans f10
  replace f11 := (hp20.rest 11 (by decide)).trans f11
  replace f12 := (hp20.rest 12 (by decide)).trans f12
  replace f13 := (hp20.rest 13 (by decide)).trans f13
  replace f14 := (hp20.rest 14 (by decide)).trans f14
  replace f15 := (hp20.rest 15 (by decide)).trans f15
  replace f81 := (hp20.rest 81 (by decide)).trans f81
  replace f82 := (hp20.rest 82 (by decide)).trans f82
  replace f83 := (hp20.rest 83 (by decide)).trans f83
  replace f84 := (hp20.rest 84 (by decide)).trans f84
  replace f85 := (hp20.rest 85 (by decide)).trans f85
  replace f86 := (hp20.rest 86 (by decide)).trans f86
  replace f87 := (hp20.rest 87 (by decide)).trans f87
  replace f88 := (hp20.rest 88 (by decide)).trans f88
  replace f89 := (hp20.rest 89 (by decide)).trans f89
  replace f90 := (hp20.rest 90 (by decide)).trans f90
  replace f91 := (hp20.rest 91 (by decide)).trans f91
  replace f92 := (hp20.rest 92 (by decide)).trans f92
  replace f93 := (hp20.rest 93 (by decide)).trans f93
  replace f94 := (hp20.rest 94 (by decide)).trans f94
  replace f95 := (hp20.rest 95 (by decide)).trans f95
  replace f96 := (hp20.rest 96 (by decide)).trans f96
  replace f97 := (hp20.rest 97 (by decide)).trans f97
  replace f98 := (hp20.rest 98 (by decide)).trans f98
  replace f99 := (hp20.rest 99 (by decide)).trans f99
  refine lt_pure (i := 20) (v := .pointer (some ⟨M, 0, none⟩)) (d := 101) hv20 (by rfl) (by kernel_rfl) (by kernel_rfl) (by kernel_rfl) (fun _ _ _ h => h) (wanted_of (d := 98) (by rfl) (by rfl) hv20 hs20 (by decide) f98) (fun w => rn_f54 rfl f100 w) rfl hs20 (by decide) (fun a21 ρ21 hp21 => ?_)
  have hv21 := hp21.ev
  have hs21 := hp21.sz
  have f101 := hp21.at'
  replace f10 := (hp21.rest 10 (by decide)).trans f10
  replace f11 := (hp21.rest 11 (by decide)).trans f11
  replace f12 := (hp21.rest 12 (by decide)).trans f12
  replace f13 := (hp21.rest 13 (by decide)).trans f13
  replace f14 := (hp21.rest 14 (by decide)).trans f14
  replace f15 := (hp21.rest 15 (by decide)).trans f15
  replace f81 := (hp21.rest 81 (by decide)).trans f81
  replace f82 := (hp21.rest 82 (by decide)).trans f82
  replace f83 := (hp21.rest 83 (by decide)).trans f83
  replace f84 := (hp21.rest 84 (by decide)).trans f84
  replace f85 := (hp21.rest 85 (by decide)).trans f85
  replace f86 := (hp21.rest 86 (by decide)).trans f86
  replace f87 := (hp21.rest 87 (by decide)).trans f87
  replace f88 := (hp21.rest 88 (by decide)).trans f88
  replace f89 := (hp21.rest 89 (by decide)).trans f89
  replace f90 := (hp21.rest 90 (by decide)).trans f90
  replace f91 := (hp21.rest 91 (by decide)).trans f91
  replace f92 := (hp21.rest 92 (by decide)).trans f92
  replace f93 := (hp21.rest 93 (by decide)).trans f93
  replace f94 := (hp21.rest 94 (by decide)).trans f94
  replace f95 := (hp21.rest 95 (by decide)).trans f95
  replace f96 := (hp21.rest 96 (by decide)).trans f96
  replace f97 := (hp21.rest 97 (by decide)).trans f97
  replace f98 := (hp21.rest 98 (by decide)).trans f98
  replace f99 := (hp21.rest 99 (by decide)).trans f99
  replace f100 := (hp21.rest 100 (by decide)).trans f100
  refine lt_load (i := 21) (v := .slice (some ⟨g, 0, none⟩) n cap) (d := 102) hv21 (by rfl) (by kernel_rfl) (by kernel_rfl) (by kernel_rfl) (by simp) (fun _ _ _ h => h) (wanted_of (d := 98) (by rfl) (by rfl) hv21 hs21 (by decide) f98) (fun w hS => rn_load48 rfl f101 w hS.2.2.1.cb) ⟨hc, hd, hm, hn⟩ rfl hs21 (by decide) (fun a22 ρ22 hp22 => ?_)
  have hv22 := hp22.ev
  have hs22 := hp22.sz
  have f102 := hp22.at'
  replace f10 := (hp22.rest 10 (by decide)).trans f10
  replace f11 := (hp22.rest 11 (by decide)).trans f11
  replace f12 := (hp22.rest 12 (by decide)).trans f12
  replace f13 := (hp22.rest 13 (by decide)).trans f13
  replace f14 := (hp22.rest 14 (by decide)).trans f14
  replace f15 := (hp22.rest 15 (by decide)).trans f15
  replace f81 := (hp22.rest 81 (by decide)).trans f81
  replace f82 := (hp22.rest 82 (by decide)).trans f82
  replace f83 := (hp22.rest 83 (by decide)).trans f83
  replace f84 := (hp22.rest 84 (by decide)).trans f84
  replace f85 := (hp22.rest 85 (by decide)).trans f85
  replace f86 := (hp22.rest 86 (by decide)).trans f86
  replace f87 := (hp22.rest 87 (by decide)).trans f87
  replace f88 := (hp22.rest 88 (by decide)).trans f88
  replace f89 := (hp22.rest 89 (by decide)).trans f89
  replace f90 := (hp22.rest 90 (by decide)).trans f90
  replace f91 := (hp22.rest 91 (by decide)).trans f91
  replace f92 := (hp22.rest 92 (by decide)).trans f92
  replace f93 := (hp22.rest 93 (by decide)).trans f93
  replace f94 := (hp22.rest 94 (by decide)).trans f94
  replace f95 := (hp22.rest 95 (by decide)).trans f95
  replace f96 := (hp22.rest 96 (by decide)).trans f96
  replace f97 := (hp22.rest 97 (by decide)).trans f97
  replace f98 := (hp22.rest 98 (by decide)).trans f98
  replace f99 := (hp22.rest 99 (by decide)).trans f99
  replace f100 := (hp22.rest 100 (by decide)).trans f100
  replace f101 := (hp22.rest 101 (by decide)).trans f101
  refine lt_load (i := 22) (v := .string (strF f 0 n)) (d := 103) hv22 (by rfl) (by kernel_rfl) (by kernel_rfl) (by kernel_rfl) (by simp) (fun _ _ _ h => h) (wanted_of (d := 98) (by rfl) (by rfl) hv22 hs22 (by decide) f98) (fun w hS => rn_conv rfl f102 (conv_at hS.2.2.1 0 n cap (by omega))) ⟨hc, hd, hm, hn⟩ rfl hs22 (by decide) (fun a23 ρ23 hp23 => ?_)
  have hv23 := hp23.ev
  have hs23 := hp23.sz
  have f103 := hp23.at'
  replace f10 := (hp23.rest 10 (by decide)).trans f10
  replace f11 := (hp23.rest 11 (by decide)).trans f11
  replace f12 := (hp23.rest 12 (by decide)).trans f12
  replace f13 := (hp23.rest 13 (by decide)).trans f13
  replace f14 := (hp23.rest 14 (by decide)).trans f14
  replace f15 := (hp23.rest 15 (by decide)).trans f15
  replace f81 := (hp23.rest 81 (by decide)).trans f81
  replace f82 := (hp23.rest 82 (by decide)).trans f82
  replace f83 := (hp23.rest 83 (by decide)).trans f83
  replace f84 := (hp23.rest 84 (by decide)).trans f84
  replace f85 := (hp23.rest 85 (by decide)).trans f85
  replace f86 := (hp23.rest 86 (by decide)).trans f86
  replace f87 := (hp23.rest 87 (by decide)).trans f87
  replace f88 := (hp23.rest 88 (by decide)).trans f88
  replace f89 := (hp23.rest 89 (by decide)).trans f89
  replace f90 := (hp23.rest 90 (by decide)).trans f90
  replace f91 := (hp23.rest 91 (by decide)).trans f91
  replace f92 := (hp23.rest 92 (by decide)).trans f92
  replace f93 := (hp23.rest 93 (by decide)).trans f93
  replace f94 := (hp23.rest 94 (by decide)).trans f94
  replace f95 := (hp23.rest 95 (by decide)).trans f95
  replace f96 := (hp23.rest 96 (by decide)).trans f96
  replace f97 := (hp23.rest 97 (by decide)).trans f97
  replace f98 := (hp23.rest 98 (by decide)).trans f98
  replace f99 := (hp23.rest 99 (by decide)).trans f99
  replace f100 := (hp23.rest 100 (by decide)).trans f100
  replace f101 := (hp23.rest 101 (by decide)).trans f101
  replace f102 := (hp23.rest 102 (by decide)).trans f102
  refine lt_pure (i := 23) (v := .pointer (some ⟨M', 0, none⟩)) (d := 104) hv23 (by rfl) (by kernel_rfl) (by kernel_rfl) (by kernel_rfl) (fun _ _ _ h => h) (wanted_of (d := 98) (by rfl) (by rfl) hv23 hs23 (by decide) f98) (fun w => rn_move rfl f11 w) rfl hs23 (by decide) (fun a24 ρ24 hp24 => ?_)
  have hv24 := hp24.ev
  have hs24 := hp24.sz
  have f104 := hp24.at'
  replace f10 := (hp24.rest 10 (by decide)).trans f10
  replace f11 := (hp24.rest 11 (by decide)).trans f11
  replace f12 := (hp24.rest 12 (by decide)).trans f12
  replace f13 := (hp24.rest 13 (by decide)).trans f13
  replace f14 := (hp24.rest 14 (by decide)).trans f14
  replace f15 := (hp24.rest 15 (by decide)).trans f15
  replace f81 := (hp24.rest 81 (by decide)).trans f81
  replace f82 := (hp24.rest 82 (by decide)).trans f82
  replace f83 := (hp24.rest 83 (by decide)).trans f83
  replace f84 := (hp24.rest 84 (by decide)).trans f84
  replace f85 := (hp24.rest 85 (by decide)).trans f85
  replace f86 := (hp24.rest 86 (by decide)).trans f86
  replace f87 := (hp24.rest 87 (by decide)).trans f87
  replace f88 := (hp24.rest 88 (by decide)).trans f88
  replace f89 := (hp24.rest 89 (by decide)).trans f89
  replace f90 := (hp24.rest 90 (by decide)).trans f90
  replace f91 := (hp24.rest 91 (by decide)).trans f91
  replace f92 := (hp24.rest 92 (by decide)).trans f92
  replace f93 := (hp24.rest 93 (by decide)).trans f93
  replace f94 := (hp24.rest 94 (by decide)).trans f94
  replace f95 := (hp24.rest 95 (by decide)).trans f95
  replace f96 := (hp24.rest 96 (by decide)).trans f96
  replace f97 := (hp24.rest 97 (by decide)).trans f97
  replace f98 := (hp24.rest 98 (by decide)).trans f98
  replace f99 := (hp24.rest 99 (by decide)).trans f99
  replace f100 := (hp24.rest 100 (by decide)).trans f100
  replace f101 := (hp24.rest 101 (by decide)).trans f101
  replace f102 := (hp24.rest 102 (by decide)).trans f102
  replace f103 := (hp24.rest 103 (by decide)).trans f103
  refine lt_pure (i := 24) (v := .pointer (some ⟨M', 0, none⟩)) (d := 105) hv24 (by rfl) (by kernel_rfl) (by kernel_rfl) (by kernel_rfl) (fun _ _ _ h => h) (wanted_of (d := 98) (by rfl) (by rfl) hv24 hs24 (by decide) f98) (fun w => rn_nil rfl f104 w) rfl hs24 (by decide) (fun a25 ρ25 hp25 => ?_)
  have hv25 := hp25.ev
  have hs25 := hp25.sz
  have f105 := hp25.at'
  replace f10 := (hp25.rest 10 (by decide)).trans f10
  replace f11 := (hp25.rest 11 (by decide)).trans f11
  replace f12 := (hp25.rest 12 (by decide)).trans f12
  replace f13 := (hp25.rest 13 (by decide)).trans f13
  replace f14 := (hp25.rest 14 (by decide)).trans f14
  replace f15 := (hp25.rest 15 (by decide)).trans f15
  replace f81 := (hp25.rest 81 (by decide)).trans f81
  replace f82 := (hp25.rest 82 (by decide)).trans f82
  replace f83 := (hp25.rest 83 (by decide)).trans f83
  replace f84 := (hp25.rest 84 (by decide)).trans f84
  replace f85 := (hp25.rest 85 (by decide)).trans f85
  replace f86 := (hp25.rest 86 (by decide)).trans f86
  replace f87 := (hp25.rest 87 (by decide)).trans f87
  replace f88 := (hp25.rest 88 (by decide)).trans f88
  replace f89 := (hp25.rest 89 (by decide)).trans f89
  replace f90 := (hp25.rest 90 (by decide)).trans f90
  replace f91 := (hp25.rest 91 (by decide)).trans f91
  replace f92 := (hp25.rest 92 (by decide)).trans f92
  replace f93 := (hp25.rest 93 (by decide)).trans f93
  replace f94 := (hp25.rest 94 (by decide)).trans f94
  replace f95 := (hp25.rest 95 (by decide)).trans f95
  replace f96 := (hp25.rest 96 (by decide)).trans f96
  replace f97 := (hp25.rest 97 (by decide)).trans f97
  replace f98 := (hp25.rest 98 (by decide)).trans f98
  replace f99 := (hp25.rest 99 (by decide)).trans f99
  replace f100 := (hp25.rest 100 (by decide)).trans f100
  replace f101 := (hp25.rest 101 (by decide)).trans f101
  replace f102 := (hp25.rest 102 (by decide)).trans f102
  replace f103 := (hp25.rest 103 (by decide)).trans f103
  replace f104 := (hp25.rest 104 (by decide)).trans f104
  refine lt_pure (i := 25) (v := .pointer (some ⟨M', 0, none⟩)) (d := 106) hv25 (by rfl) (by kernel_rfl) (by kernel_rfl) (by kernel_rfl) (fun _ _ _ h => h) (wanted_of (d := 98) (by rfl) (by rfl) hv25 hs25 (by decide) f98) (fun w => rn_f54 rfl f105 w) rfl hs25 (by decide) (fun a26 ρ26 hp26 => ?_)
  have hv26 := hp26.ev
  have hs26 := hp26.sz
  have f106 := hp26.at'
  replace f10 := (hp26.rest 10 (by decide)).trans f10
  replace f11 := (hp26.rest 11 (by decide)).trans f11
  replace f12 := (hp26.rest 12 (by decide)).trans f12
  replace f13 := (hp26.rest 13 (by decide)).trans f13
  replace f14 := (hp26.rest 14 (by decide)).trans f14
  replace f15 := (hp26.rest 15 (by decide)).trans f15
  replace f81 := (hp26.rest 81 (by decide)).trans f81
  replace f82 := (hp26.rest 82 (by decide)).trans f82
  replace f83 := (hp26.rest 83 (by decide)).trans f83
  replace f84 := (hp26.rest 84 (by decide)).trans f84
  replace f85 := (hp26.rest 85 (by decide)).trans f85
  replace f86 := (hp26.rest 86 (by decide)).trans f86
  replace f87 := (hp26.rest 87 (by decide)).trans f87
  replace f88 := (hp26.rest 88 (by decide)).trans f88
  replace f89 := (hp26.rest 89 (by decide)).trans f89
  replace f90 := (hp26.rest 90 (by decide)).trans f90
  replace f91 := (hp26.rest 91 (by decide)).trans f91
  replace f92 := (hp26.rest 92 (by decide)).trans f92
  replace f93 := (hp26.rest 93 (by decide)).trans f93
  replace f94 := (hp26.rest 94 (by decide)).trans f94
  replace f95 := (hp26.rest 95 (by decide)).trans f95
  replace f96 := (hp26.rest 96 (by decide)).trans f96
  replace f97 := (hp26.rest 97 (by decide)).trans f97
  replace f98 := (hp26.rest 98 (by decide)).trans f98
  replace f99 := (hp26.rest 99 (by decide)).trans f99
  replace f100 := (hp26.rest 100 (by decide)).trans f100
  replace f101 := (hp26.rest 101 (by decide)).trans f101
  replace f102 := (hp26.rest 102 (by decide)).trans f102
  replace f103 := (hp26.rest 103 (by decide)).trans f103
  replace f104 := (hp26.rest 104 (by decide)).trans f104
  replace f105 := (hp26.rest 105 (by decide)).trans f105
  refine lt_load (i := 26) (v := .slice (some ⟨g', 0, none⟩) n cap') (d := 107) hv26 (by rfl) (by kernel_rfl) (by kernel_rfl) (by kernel_rfl) (by simp) (fun _ _ _ h => h) (wanted_of (d := 98) (by rfl) (by rfl) hv26 hs26 (by decide) f98) (fun w hS => rn_load48 rfl f106 w hS.2.2.2.cb) ⟨hc, hd, hm, hn⟩ rfl hs26 (by decide) (fun a27 ρ27 hp27 => ?_)
  have hv27 := hp27.ev
  have hs27 := hp27.sz
  have f107 := hp27.at'
  replace f10 := (hp27.rest 10 (by decide)).trans f10
  replace f11 := (hp27.rest 11 (by decide)).trans f11
  replace f12 := (hp27.rest 12 (by decide)).trans f12
  replace f13 := (hp27.rest 13 (by decide)).trans f13
  replace f14 := (hp27.rest 14 (by decide)).trans f14
  replace f15 := (hp27.rest 15 (by decide)).trans f15
  replace f81 := (hp27.rest 81 (by decide)).trans f81
  replace f82 := (hp27.rest 82 (by decide)).trans f82
  replace f83 := (hp27.rest 83 (by decide)).trans f83
  replace f84 := (hp27.rest 84 (by decide)).trans f84
  replace f85 := (hp27.rest 85 (by decide)).trans f85
  replace f86 := (hp27.rest 86 (by decide)).trans f86
  replace f87 := (hp27.rest 87 (by decide)).trans f87
  replace f88 := (hp27.rest 88 (by decide)).trans f88
  replace f89 := (hp27.rest 89 (by decide)).trans f89
  replace f90 := (hp27.rest 90 (by decide)).trans f90
  replace f91 := (hp27.rest 91 (by decide)).trans f91
  replace f92 := (hp27.rest 92 (by decide)).trans f92
  replace f93 := (hp27.rest 93 (by decide)).trans f93
  replace f94 := (hp27.rest 94 (by decide)).trans f94
  replace f95 := (hp27.rest 95 (by decide)).trans f95
  replace f96 := (hp27.rest 96 (by decide)).trans f96
  replace f97 := (hp27.rest 97 (by decide)).trans f97
  replace f98 := (hp27.rest 98 (by decide)).trans f98
  replace f99 := (hp27.rest 99 (by decide)).trans f99
  replace f100 := (hp27.rest 100 (by decide)).trans f100
  replace f101 := (hp27.rest 101 (by decide)).trans f101
  replace f102 := (hp27.rest 102 (by decide)).trans f102
  replace f103 := (hp27.rest 103 (by decide)).trans f103
  replace f104 := (hp27.rest 104 (by decide)).trans f104
  replace f105 := (hp27.rest 105 (by decide)).trans f105
  replace f106 := (hp27.rest 106 (by decide)).trans f106
  refine lt_load (i := 27) (v := .string (strF f 0 n)) (d := 108) hv27 (by rfl) (by kernel_rfl) (by kernel_rfl) (by kernel_rfl) (by simp) (fun _ _ _ h => h) (wanted_of (d := 98) (by rfl) (by rfl) hv27 hs27 (by decide) f98) (fun w hS => rn_conv rfl f107 (conv_at hS.2.2.2 0 n cap' (by omega))) ⟨hc, hd, hm, hn⟩ rfl hs27 (by decide) (fun a28 ρ28 hp28 => ?_)
  have hv28 := hp28.ev
  have hs28 := hp28.sz
  have f108 := hp28.at'
  replace f10 := (hp28.rest 10 (by decide)).trans f10
  replace f11 := (hp28.rest 11 (by decide)).trans f11
  replace f12 := (hp28.rest 12 (by decide)).trans f12
  replace f13 := (hp28.rest 13 (by decide)).trans f13
  replace f14 := (hp28.rest 14 (by decide)).trans f14
  replace f15 := (hp28.rest 15 (by decide)).trans f15
  replace f81 := (hp28.rest 81 (by decide)).trans f81
  replace f82 := (hp28.rest 82 (by decide)).trans f82
  replace f83 := (hp28.rest 83 (by decide)).trans f83
  replace f84 := (hp28.rest 84 (by decide)).trans f84
  replace f85 := (hp28.rest 85 (by decide)).trans f85
  replace f86 := (hp28.rest 86 (by decide)).trans f86
  replace f87 := (hp28.rest 87 (by decide)).trans f87
  replace f88 := (hp28.rest 88 (by decide)).trans f88
  replace f89 := (hp28.rest 89 (by decide)).trans f89
  replace f90 := (hp28.rest 90 (by decide)).trans f90
  replace f91 := (hp28.rest 91 (by decide)).trans f91
  replace f92 := (hp28.rest 92 (by decide)).trans f92
  replace f93 := (hp28.rest 93 (by decide)).trans f93
  replace f94 := (hp28.rest 94 (by decide)).trans f94
  replace f95 := (hp28.rest 95 (by decide)).trans f95
  replace f96 := (hp28.rest 96 (by decide)).trans f96
  replace f97 := (hp28.rest 97 (by decide)).trans f97
  replace f98 := (hp28.rest 98 (by decide)).trans f98
  replace f99 := (hp28.rest 99 (by decide)).trans f99
  replace f100 := (hp28.rest 100 (by decide)).trans f100
  replace f101 := (hp28.rest 101 (by decide)).trans f101
  replace f102 := (hp28.rest 102 (by decide)).trans f102
  replace f103 := (hp28.rest 103 (by decide)).trans f103
  replace f104 := (hp28.rest 104 (by decide)).trans f104
  replace f105 := (hp28.rest 105 (by decide)).trans f105
  replace f106 := (hp28.rest 106 (by decide)).trans f106
  replace f107 := (hp28.rest 107 (by decide)).trans f107
  refine lt_pure (i := 28) (v := .bool false) (d := 109) hv28 (by rfl) (by kernel_rfl) (by kernel_rfl) (by kernel_rfl) (fun _ _ _ h => h) (wanted_of (d := 98) (by rfl) (by rfl) hv28 hs28 (by decide) f98) (fun w => rn_neq9 rfl f103 f108 w) rfl hs28 (by decide) (fun a29 ρ29 hp29 => ?_)
  have hv29 := hp29.ev
  have hs29 := hp29.sz
  have f109 := hp29.at'
  replace f10 := (hp29.rest 10 (by decide)).trans f10
  replace f11 := (hp29.rest 11 (by decide)).trans f11
  replace f12 := (hp29.rest 12 (by decide)).trans f12
  replace f13 := (hp29.rest 13 (by decide)).trans f13
  replace f14 := (hp29.rest 14 (by decide)).trans f14
  replace f15 := (hp29.rest 15 (by decide)).trans f15
  replace f81 := (hp29.rest 81 (by decide)).trans f81
  replace f82 := (hp29.rest 82 (by decide)).trans f82
  replace f83 := (hp29.rest 83 (by decide)).trans f83
  replace f84 := (hp29.rest 84 (by decide)).trans f84
  replace f85 := (hp29.rest 85 (by decide)).trans f85
  replace f86 := (hp29.rest 86 (by decide)).trans f86
  replace f87 := (hp29.rest 87 (by decide)).trans f87
  replace f88 := (hp29.rest 88 (by decide)).trans f88
  replace f89 := (hp29.rest 89 (by decide)).trans f89
  replace f90 := (hp29.rest 90 (by decide)).trans f90
  replace f91 := (hp29.rest 91 (by decide)).trans f91
  replace f92 := (hp29.rest 92 (by decide)).trans f92
  replace f93 := (hp29.rest 93 (by decide)).trans f93
  replace f94 := (hp29.rest 94 (by decide)).trans f94
  replace f95 := (hp29.rest 95 (by decide)).trans f95
  replace f96 := (hp29.rest 96 (by decide)).trans f96
  replace f97 := (hp29.rest 97 (by decide)).trans f97
  replace f98 := (hp29.rest 98 (by decide)).trans f98
  replace f99 := (hp29.rest 99 (by decide)).trans f99
  replace f100 := (hp29.rest 100 (by decide)).trans f100
  replace f101 := (hp29.rest 101 (by decide)).trans f101
  replace f102 := (hp29.rest 102 (by decide)).trans f102
  replace f103 := (hp29.rest 103 (by decide)).trans f103
  replace f104 := (hp29.rest 104 (by decide)).trans f104
  replace f105 := (hp29.rest 105 (by decide)).trans f105
  replace f106 := (hp29.rest 106 (by decide)).trans f106
  replace f107 := (hp29.rest 107 (by decide)).trans f107
  replace f108 := (hp29.rest 108 (by decide)).trans f108
  refine lt_pure (i := 29) (v := .bool false) (d := 110) hv29 (by rfl) (by kernel_rfl) (by kernel_rfl) (by kernel_rfl) (fun _ _ _ h => h) (by rfl) (fun w => rn_pickf rfl f98 f109 w) rfl hs29 (by decide) (fun a30 ρ30 hp30 => ?_)
  have hv30 := hp30.ev
  have hs30 := hp30.sz
  have f110 := hp30.at'
  replace f10 := (hp30.rest 10 (by decide)).trans f10
  replace f11 := (hp30.rest 11 (by decide)).trans f11
  replace f12 := (hp30.rest 12 (by decide)).trans f12
  replace f13 := (hp30.rest 13 (by decide)).trans f13
  replace f14 := (hp30.rest 14 (by decide)).trans f14
  replace f15 := (hp30.rest 15 (by decide)).trans f15
  replace f81 := (hp30.rest 81 (by decide)).trans f81
  replace f82 := (hp30.rest 82 (by decide)).trans f82
  replace f83 := (hp30.rest 83 (by decide)).trans f83
  replace f84 := (hp30.rest 84 (by decide)).trans f84
  replace f85 := (hp30.rest 85 (by decide)).trans f85
  replace f86 := (hp30.rest 86 (by decide)).trans f86
  replace f87 := (hp30.rest 87 (by decide)).trans f87
  replace f88 := (hp30.rest 88 (by decide)).trans f88
  replace f89 := (hp30.rest 89 (by decide)).trans f89
  replace f90 := (hp30.rest 90 (by decide)).trans f90
  replace f91 := (hp30.rest 91 (by decide)).trans f91
  replace f92 := (hp30.rest 92 (by decide)).trans f92
  replace f93 := (hp30.rest 93 (by decide)).trans f93
  replace f94 := (hp30.rest 94 (by decide)).trans f94
  replace f95 := (hp30.rest 95 (by decide)).trans f95
  replace f96 := (hp30.rest 96 (by decide)).trans f96
  replace f97 := (hp30.rest 97 (by decide)).trans f97
  replace f98 := (hp30.rest 98 (by decide)).trans f98
  replace f99 := (hp30.rest 99 (by decide)).trans f99
  replace f100 := (hp30.rest 100 (by decide)).trans f100
  replace f101 := (hp30.rest 101 (by decide)).trans f101
  replace f102 := (hp30.rest 102 (by decide)).trans f102
  replace f103 := (hp30.rest 103 (by decide)).trans f103
  replace f104 := (hp30.rest 104 (by decide)).trans f104
  replace f105 := (hp30.rest 105 (by decide)).trans f105
  replace f106 := (hp30.rest 106 (by decide)).trans f106
  replace f107 := (hp30.rest 107 (by decide)).trans f107
  replace f108 := (hp30.rest 108 (by decide)).trans f108
  replace f109 := (hp30.rest 109 (by decide)).trans f109
  refine wpLate_done (by kernel_rfl) ?_
  refine NoPanic.normal ?_
  have hq := hQ
  rw [hp1.eq, hp2.eq, hp3.eq, hp4.eq, hp5.eq, hp6.eq, hp7.eq, hp8.eq, hp9.eq, hp10.eq, hp11.eq, hp12.eq, hp13.eq, hp14.eq, hp15.eq, hp16.eq, hp17.eq, hp18.eq, hp19.eq, hp20.eq, hp21.eq, hp22.eq, hp23.eq, hp24.eq, hp25.eq, hp26.eq, hp27.eq, hp28.eq, hp29.eq, hp30.eq] at hq
  exact hq
end Go.Proofs.Ytelgmffmekfndaa
