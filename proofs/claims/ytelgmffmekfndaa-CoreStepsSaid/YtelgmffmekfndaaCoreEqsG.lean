/- Two arrays of registers, two cores that hold the same are equal; registers are laid by a copy. Conditions: as each theorem names them. An instruction in a block of its own; a core that is laid as a whole. Conditions: as each theorem names them. -/
import Derived.Test.YtelgmffmekfndaaCoreMovesXG
import Derived.Laws.StructEq
set_option linter.unusedVariables false
namespace Go.Proofs.Ytelgmffmekfndaa
open Go.ChangeShapes Go.WideShapes Go.ChangeAt Go.RowKit

/-- sixteen registers; a core -/
abbrev regs (f : Nat → Int) : Array Value := #[.int .u64 (f 0), .int .u64 (f 1), .int .u64 (f 2), .int .u64 (f 3), .int .u64 (f 4), .int .u64 (f 5), .int .u64 (f 6), .int .u64 (f 7), .int .u64 (f 8), .int .u64 (f 9), .int .u64 (f 10), .int .u64 (f 11), .int .u64 (f 12), .int .u64 (f 13), .int .u64 (f 14), .int .u64 (f 15)]
abbrev coreV (f : Nat → Int) (p : Int) : Array Value := #[.int .u64 (f 0), .int .u64 (f 1), .int .u64 (f 2), .int .u64 (f 3), .int .u64 (f 4), .int .u64 (f 5), .int .u64 (f 6), .int .u64 (f 7), .int .u64 (f 8), .int .u64 (f 9), .int .u64 (f 10), .int .u64 (f 11), .int .u64 (f 12), .int .u64 (f 13), .int .u64 (f 14), .int .u64 (f 15), .int .u64 p]

set_option maxRecDepth 100000 in
set_option maxHeartbeats 2000000 in
theorem eq_arr (d : Nat) (f : Nat → Int) (w : World) : (Op.equalIn (d + 1 + 1) 55 (.agg (regs f)) (.agg (regs f))).run Try.prog w = .ok true w := by
  rw [Op.equalIn]
  simp [run_underlying Try.underlying55, go_sem, Std.Legacy.Range.forIn_eq_forIn_range', List.range']
theorem eq_arr1 (f : Nat → Int) (w : World) : (Op.equalIn 9999 55 (.agg (regs f)) (.agg (regs f))).run Try.prog w = .ok true w := eq_arr 9997 f w
theorem eq_arr0 (f : Nat → Int) (w : World) : (Op.equalIn 10000 55 (.agg (regs f)) (.agg (regs f))).run Try.prog w = .ok true w := eq_arr 9998 f w
set_option maxRecDepth 100000 in
set_option maxHeartbeats 2000000 in
theorem eq_core (f : Nat → Int) (p : Int) (w : World) : (Op.equalIn 10000 57 (.agg (coreV f p)) (.agg (coreV f p))).run Try.prog w = .ok true w := by
  have := eq_arr1 f
  simp [go_sem, this]

/-- registers that are handed over -/
def RegsAt (w : World) (v : Value) (n : Nat) (zs : Nat → Int) : Prop := ∃ ao cap, v = .slice ao n cap ∧ n ≤ cap ∧ (∀ i, 0 ≤ zs i ∧ zs i < 18446744073709551616) ∧ (n = 0 ∨ ∃ a, ao = some a ∧ a.block < w.heap.size ∧ ∀ i, i < n → w.cell? (a.add i) = some (.int .u64 (zs i)))
theorem add_block (a : Addr) (i : Nat) : (a.add i).block = a.block := by
  unfold Addr.add
  split <;> rfl
theorem RegsAt.below {w w' : World} {v : Value} {n B : Nat} {zs : Nat → Int} (h : RegsAt w v n zs) (hb : Below B w w') (hB : w.heap.size ≤ B) : RegsAt w' v n zs := by
  obtain ⟨ao, cap, h1, h2, h3, h4⟩ := h
  refine ⟨ao, cap, h1, h2, h3, ?_⟩
  rcases h4 with h4 | ⟨a, h5, h6, h7⟩
  · exact .inl h4
  · exact .inr ⟨a, h5, Nat.lt_of_lt_of_le h6 hb.size, fun i hi => (World.cell?_of_block (a := a.add i) (by rw [add_block]; exact hb.block _ (by omega))).trans (h7 i hi)⟩
theorem CoreAt.setCells {c : Nat} {pc : Int} : ∀ (es : List Int) (o : Nat) (W : World) (R : Nat → Int), CoreAt W c R pc → (∀ e ∈ es, 0 ≤ e ∧ e < 18446744073709551616) → o + es.length ≤ 16 → CoreAt (W.setCells c o (es.map (Value.int .u64))) c (layL R o es) pc
  | [], _, _, _, h, _, _ => h
  | e :: r, o, W, R, h, he, hn => by
    have h1 := h.set (A := o) (v := e) (by simp at hn; omega) (he e (by simp)).1 (he e (by simp)).2
    exact CoreAt.setCells r (o + 1) _ _ h1 (fun x hx => he x (by simp [hx])) (by simp at hn; omega)
theorem size22 : (Try.prog.info? 22).map (·.size) = some 1 := by kernel_rfl
/-- registers are copied into a core -/
theorem copy_regs {w : World} {c n : Nat} {R : Nat → Int} {pc : Int} {v : Value} {zs : Nat → Int} (h : CoreAt w c R pc) (hv : RegsAt w v n zs) (hn : n ≤ 16) (ty : TypeId) :
    (Builtin.copy_ #[35, 35] ty #[.slice (some ⟨c, 0, none⟩) 16 16, v]).run Try.prog w = .ok (.int .i64 n) (w.setCells c 0 (((List.range n).map zs).map (Value.int .u64))) ∧
      CoreAt (w.setCells c 0 (((List.range n).map zs).map (Value.int .u64))) c (layL R 0 ((List.range n).map zs)) pc ∧ w.grownBy (w.setCells c 0 (((List.range n).map zs).map (Value.int .u64))) (some c) := by
  obtain ⟨ao, cap, rfl, hc, hz, h4⟩ := hv
  refine ⟨?_, h.setCells _ _ _ _ (fun e he => by obtain ⟨i, _, rfl⟩ := List.mem_map.1 he; exact hz i) (by simp; omega), grownBy_setCells _ _ _ _⟩
  rcases h4 with rfl | ⟨a, rfl, hlt, hcell⟩
  · exact run_copy_none (P := Try.prog) w 35 35 ty 22 _ ao 16 16 0 cap Try.underlying35 size22 rfl
  · have hl : (((List.range n).map zs).map (Value.int .u64)).length = n := by simp
    have hr := run_copy_cells (P := Try.prog) w 35 35 ty 22 c 0 16 16 a n cap (((List.range n).map zs).map (Value.int .u64)) Try.underlying35 size22 (by rw [hl]; show n = min n 16; omega) (fun j x hj => ?_) (fun j hj => ?_) (fun j hj => h.fz _) (fun x hx => ?_)
    · rw [hl] at hr
      exact hr
    · have hjn : j < n := by
        rcases Nat.lt_or_ge j n with k | k
        · exact k
        · rw [List.getElem?_eq_none (by rw [hl]; exact k)] at hj; cases hj
      rw [hcell j hjn]
      rw [List.getElem?_map, List.getElem?_map, List.getElem?_range hjn] at hj
      exact hj
    · rw [hl] at hj
      rw [Nat.zero_add, h.r j (by omega)]; rfl
    · obtain ⟨e, _, rfl⟩ := List.mem_map.1 hx
      rfl
end Go.Proofs.Ytelgmffmekfndaa
set_option linter.unusedVariables false
namespace Go.Proofs.Ytelgmffmekfndaa
open Go.ChangeShapes Go.WideShapes Go.ChangeAt Go.RowKit

theorem and_15 (n : Int) : 0 ≤ bits .and .i64 n 15 ∧ bits .and .i64 n 15 ≤ 15 := by
  have h : bits .and .i64 n 15 = IntKind.i64.wrap ((BitVec.ofInt 64 n &&& BitVec.ofInt 64 15).toNat : Int) := rfl
  have h2 : (BitVec.ofInt 64 n &&& BitVec.ofInt 64 15).toNat ≤ 15 := by
    rw [BitVec.toNat_and]
    exact Nat.le_trans Nat.and_le_right (by decide)
  rw [h, IntKind.wrap_i64]
  omega
/-- an instruction in a block of its own -/
structure InsAt (W : World) (X : Nat) (op A B C imm : Int) : Prop where
  c0 : W.cell? ⟨X, 0, none⟩ = some (.int .i64 op)
  c1 : W.cell? ⟨X, 1, none⟩ = some (.int .i64 A)
  c2 : W.cell? ⟨X, 2, none⟩ = some (.int .i64 B)
  c3 : W.cell? ⟨X, 3, none⟩ = some (.int .i64 C)
  c4 : W.cell? ⟨X, 4, none⟩ = some (.int .i32 imm)
  fz : ∀ i, W.frozen? ⟨X, i, none⟩ = false
theorem InsAt.new (W : World) (op A B C imm : Int) : InsAt (W.alloc (insO op A B C imm)) W.heap.size op A B C imm := ⟨by simp, by simp, by simp, by simp, by simp, fun i => by simp⟩
theorem InsAt.grown {W W' : World} {X : Nat} {op A B C imm : Int} {row : Option Nat} (h : InsAt W X op A B C imm) (hg : W.grownBy W' row) (hr : some X ≠ row) (hX : X < W.heap.size) : InsAt W' X op A B C imm :=
  ⟨hg.cell h.c0 hr, hg.cell h.c1 hr, hg.cell h.c2 hr, hg.cell h.c3 hr, hg.cell h.c4 hr, fun i => (hg.frozen_far ⟨X, i, none⟩ hX hr).trans (h.fz i)⟩
theorem InsAt.set3 {W : World} {X : Nat} {op A B C imm : Int} (h : InsAt W X op A B C imm) (a b c : Int) : InsAt (((W.setCell ⟨X, 1, none⟩ (.int .i64 a)).setCell ⟨X, 2, none⟩ (.int .i64 b)).setCell ⟨X, 3, none⟩ (.int .i64 c)) X op a b c imm := by
  have o : ∀ (W : World) i j v, j ≠ i → (W.setCell ⟨X, i, none⟩ v).cell? ⟨X, j, none⟩ = W.cell? ⟨X, j, none⟩ := fun W i j v hi => World.cell?_setCell_other _ _ _ _ (by intro e; injection e with _ e2 _; exact hi e2.symm)
  refine ⟨?_, ?_, ?_, ?_, ?_, fun i => ?_⟩
  · rw [o _ _ _ _ (by omega), o _ _ _ _ (by omega), o _ _ _ _ (by omega)]; exact h.c0
  · rw [o _ _ _ _ (by omega), o _ _ _ _ (by omega)]; exact World.cell?_setCell_same' _ _ _ (by rw [h.c1]; rfl)
  · rw [o _ _ _ _ (by omega)]; exact World.cell?_setCell_same' _ _ _ (by rw [o _ _ _ _ (by omega), h.c2]; rfl)
  · exact World.cell?_setCell_same' _ _ _ (by rw [o _ _ _ _ (by omega), o _ _ _ _ (by omega), h.c3]; rfl)
  · rw [o _ _ _ _ (by omega), o _ _ _ _ (by omega), o _ _ _ _ (by omega)]; exact h.c4
  · rw [World.frozen?_setCell, World.frozen?_setCell, World.frozen?_setCell]; exact h.fz i
theorem core_lit (W : World) (R : Nat → Int) (pc : Int) (hR : ∀ i, 0 ≤ R i ∧ R i < 18446744073709551616) (hp : 0 ≤ pc ∧ pc < 18446744073709551616) : CoreAt (W.alloc (.cells (coreV R pc) 57)) W.heap.size R pc := by
  refine ⟨fun i hi => ?_, by simp, hR, hp, fun i => by simp, by simp⟩
  rcases (by omega : i = 0 ∨ i = 1 ∨ i = 2 ∨ i = 3 ∨ i = 4 ∨ i = 5 ∨ i = 6 ∨ i = 7 ∨ i = 8 ∨ i = 9 ∨ i = 10 ∨ i = 11 ∨ i = 12 ∨ i = 13 ∨ i = 14 ∨ i = 15) with rfl | rfl | rfl | rfl | rfl | rfl | rfl | rfl | rfl | rfl | rfl | rfl | rfl | rfl | rfl | rfl <;> simp
theorem CoreAt.kept2 {W W' : World} {c g x : Nat} {R : Nat → Int} {pc : Int} (h : CoreAt W x R pc) (k : Kept2 c g W W') (hc : x ≠ c) (hg : x ≠ g) : CoreAt W' x R pc := by
  have e : ∀ i, W'.cell? ⟨x, i, none⟩ = W.cell? ⟨x, i, none⟩ := fun i => World.cell?_of_block (a := ⟨x, i, none⟩) (k.block x h.lt hc hg)
  exact ⟨fun i hi => (e i).trans (h.r i hi), (e 16).trans h.p, h.rb, h.pb, fun i => (World.frozen?_of_block (a := ⟨x, i, none⟩) (k.block x h.lt hc hg)).trans (h.fz i), Nat.lt_of_lt_of_le h.lt k.size⟩
end Go.Proofs.Ytelgmffmekfndaa
