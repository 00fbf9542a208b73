/- The walk of the law NamesApart: the law returns true at every number and all cuts and changes nothing that existed. Conditions: as each theorem names them. -/
import Derived.Test.YthkcpdhlpalaiaaNamesSet
set_option linter.unusedVariables false
namespace Go.Proofs.Ythkcpdhlpalaiaa
open Go.ChangeShapes Go.WideShapes Go.ChangeAt Go.RowKit Go.Maps

theorem info25 : (Try.prog.info? 25).map (fun i => (i.zero, i.size, i.bytes)) = some (some (.agg #[.int .u64 0, .int .u64 0, .int .u64 0]), 3, 24) := by kernel_rfl
theorem law22 : Keyed Try.prog 22 := int_keyed Try.underlying22
theorem zero3 (w : World) : (zeroValue 3).run Try.prog w = .ok (.int .i64 0) w := by kernel_rfl

theorem and_mask (x : Int) (m : Nat) (hm : m < 9223372036854775808) : ∃ L : Int, bits .and .i64 x m = L ∧ 0 ≤ L ∧ L ≤ m := by
  have e : bits .and .i64 x m = ((BitVec.ofInt 64 x).toNat &&& m : Nat) := by
    show IntKind.i64.wrap ((BitVec.ofInt 64 x &&& BitVec.ofInt 64 (m : Int)).toNat : Int) = _
    have hm2 : (BitVec.ofInt 64 (m : Int)).toNat = m := by
      rw [BitVec.ofInt_natCast, BitVec.toNat_ofNat]; exact Nat.mod_eq_of_lt (by omega)
    rw [BitVec.toNat_and, hm2, IntKind.wrap_i64]
    have := Nat.and_le_right (n := (BitVec.ofInt 64 x).toNat) (m := m)
    omega
  have := Nat.and_le_right (n := (BitVec.ofInt 64 x).toNat) (m := m)
  exact ⟨_, e, by omega, by omega⟩

/-- behind the cuts -/
structure Cut (b k : Nat) (n : Int) (g cap N : Nat) (ps : List Pu) (w1 wr : World) : Prop where
  fam : wr.ownsRow b 25 3 (.slice (some ⟨g, 0, none⟩) N cap) N (flat ps)
  len : ps.length = N
  parts : Parts n ps
  fresh : ∀ (i : Nat) p, ps[i]? = some p → p.u = p.l
  le : N ≤ k + 1
  bl : Below b w1 wr
theorem Cut.at' {b k : Nat} {n : Int} {g cap N : Nat} {ps : List Pu} {w1 wr : World} (h : Cut b k n g cap N ps w1 wr) {i : Nat} {p : Pu} (hp : ps[i]? = some p) : At wr g (i * 3) p.l p.u p.g := by
  have hf : Fam b wr g cap ps := by unfold Fam; rw [h.len]; exact h.fam
  rw [Nat.mul_comm]; exact hf.at' hp
theorem cut_start (n : Int) (h : 0 ≤ n) (w1 W : World) (hb : Below w1.heap.size w1 W) (G : Nat) (hG : W.heap.size = G) : Cut w1.heap.size 0 n G 1 1 [⟨5, 5, 5 + n⟩] w1 (W.alloc (rgc 5 5 (5 + n))) := by
  subst hG
  refine ⟨⟨rfl, .inr ⟨W.heap.size, 1, #[.int .u64 5, .int .u64 5, .int .u64 (5 + n)], rfl, hb.size, heap_alloc_new W _, Nat.le_refl _, by unfold maxLen; omega, rfl, rfl⟩⟩, rfl, Parts.start n h, ?_, Nat.le_refl _, hb.alloc hb.size _⟩
  intro i p hp
  match i, hp with
  | 0, hp => simp at hp; subst hp; rfl
theorem Cut.below {b k : Nat} {n : Int} {g cap N : Nat} {ps : List Pu} {w1 wr w' : World} (h : Cut b k n g cap N ps w1 wr) (hb : Below wr.heap.size wr w') : Cut b (k + 1) n g cap N ps w1 w' :=
  ⟨World.ownsRow.kept (row := none) h.fam ⟨hb.os, hb.tape, hb.output, hb.size, fun i hi _ => hb.block i hi⟩ (.inr (by simp [Value.ownBlock])), h.len, h.parts, h.fresh, by have := h.le; omega, h.bl.trans (hb.mono (by have := (own_lt h.fam); omega))⟩
theorem Cut.alloc {b k : Nat} {n : Int} {g cap N : Nat} {ps : List Pu} {w1 wr : World} (h : Cut b k n g cap N ps w1 wr) (o : Obj) : Cut b k n g cap N ps w1 (wr.alloc o) :=
  ⟨World.ownsRow.alloc h.fam o, h.len, h.parts, h.fresh, h.le, h.bl.alloc (by have := (own_lt h.fam); omega) o⟩
theorem Cut.splits {b k : Nat} {n V : Int} {g cap N i : Nat} {ps : List Pu} {w1 wr : World} {p : Pu} (h : Cut b k n g cap N ps w1 wr) (hp : ps[i]? = some p) (o1 o2 : Obj) :
    ((((wr.setCell ⟨g, i * 3 + 2, none⟩ (.int .u64 (p.g - V))).alloc o1).alloc o2).drew).ownsRow b 25 3 (.slice (some ⟨g, 0, none⟩) N cap) N (flat (ps.set i ⟨p.l, p.u, p.g - V⟩)) ∧ Below b w1 ((((wr.setCell ⟨g, i * 3 + 2, none⟩ (.int .u64 (p.g - V))).alloc o1).alloc o2).drew) := by
  have hf : Fam b wr g cap ps := by unfold Fam; rw [h.len]; exact h.fam
  have hg := own_lt h.fam
  have h2 := (hf.set_g hp (p.g - V))
  unfold Fam at h2
  rw [List.length_set, h.len] at h2
  rw [Nat.mul_comm]
  exact ⟨(World.ownsRow.alloc (World.ownsRow.alloc h2 o1) o2), (((h.bl.setCell (by exact hg.1) _).alloc (by simp; omega) o1).alloc (by simp; omega) o2).drew⟩
theorem Cut.step {b k : Nat} {n V : Int} {g cap N i g' cap' : Nat} {ps : List Pu} {w1 wr w3 : World} {p : Pu} (h : Cut b k n g cap N ps w1 wr) (hp : ps[i]? = some p) (h0 : 0 ≤ V) (h1 : V ≤ p.g - p.u)
    (ho : w3.ownsRow b 25 3 (.slice (some ⟨g', 0, none⟩) (N + 1) cap') (N + 1) (flat (ps.set i ⟨p.l, p.u, p.g - V⟩) ++ [.int .u64 (p.g - V), .int .u64 (p.g - V), .int .u64 p.g])) (hb : Below b w1 w3) :
    Cut b (k + 1) n g' cap' (N + 1) (ps.set i ⟨p.l, p.u, p.g - V⟩ ++ [⟨p.g - V, p.g - V, p.g⟩]) w1 w3 := by
  refine ⟨by rw [flat_append]; exact ho, by simp [h.len], h.parts.split hp h0 h1, fun j s hs => ?_, by have := h.le; omega, hb⟩
  rcases at_set_append hp hs with ⟨_, rfl⟩ | ⟨_, h2⟩ | ⟨_, rfl⟩
  · exact h.fresh i p hp
  · exact h.fresh j s h2
  · rfl
end Go.Proofs.Ythkcpdhlpalaiaa
