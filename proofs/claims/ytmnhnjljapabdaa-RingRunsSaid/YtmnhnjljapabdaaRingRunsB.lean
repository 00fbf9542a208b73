/- What the law RingRuns holds between its statements, and what each call makes of it. Conditions: as each theorem names them. -/
import Derived.Test.YtmnhnjljapabdaaRingRunsA
set_option linter.unusedVariables false
namespace Go.Proofs.Ytmnhnjljapabdaa
open Go.ChangeShapes Go.WideShapes Go.ChangeAt Go.RowKit Go.Shelf
open Go.Lib (Bytes)

/-- the ring at block R holds the packets ps and has given out xs; the law holds the strings qs (in the box at R + 1) and the numbers ys -/
structure RI (R a : Nat) (f : Nat → Value) (lv ov outv : Value) (lost : Nat) (ps qs : List ByteArray) (xs ys : List Value) (w1 wr : World) : Prop where
  ha : a < 8
  ring : RS R a ps.length f w1 wr
  le8 : ps.length ≤ 8
  pk : ∀ j (h : j < ps.length), Packet wr (R + 2) (f ((a + j) % 8)) ps[j] ∧ ps[j].size ≤ 32
  c10 : wr.cell? ⟨R, 10, none⟩ = some (.int .i64 lost)
  c11 : wr.cell? ⟨R, 11, none⟩ = some ov
  ow : wr.ownsRow (R + 2) 33 1 ov xs.length xs
  ou : wr.ownsRow (R + 2) 33 1 outv ys.length ys
  d3 : ov.ownBlock = none ∨ ov.ownBlock ≠ outv.ownBlock
  lb : wr.cell? ⟨R + 1, 0, none⟩ = some lv
  lf : wr.frozen? ⟨R + 1, 0, none⟩ = false
  lz : R + 2 ≤ wr.heap.size
  ls : Strs wr (R + 2) lv qs

theorem ne_low {v : Value} {b : Nat} (h : ∀ q, v.ownBlock = some q → b < q) : v.ownBlock = none ∨ v.ownBlock ≠ some b := by
  cases hv : v.ownBlock with
  | none => exact .inl rfl
  | some q => right; intro e; have := h q hv; injection e with e; omega
theorem own_above {w : World} {base e size n : Nat} {v : Value} {xs : List Value} (h : w.ownsRow base e size v n xs) {b : Nat} (hb : b < base) : v.ownBlock = none ∨ v.ownBlock ≠ some b := ne_low fun q hq => by have := (h.lt q hq).1; omega
theorem strs_above {w : World} {base : Nat} {v : Value} {ps : List ByteArray} (h : Strs w base v ps) {b : Nat} (hb : b < base) : v.ownBlock = none ∨ v.ownBlock ≠ some b := ne_low fun q hq => by have := (h.block q hq).1; omega
theorem none_row {v : Value} : v.ownBlock = none ∨ v.ownBlock ≠ (none : Option Nat) := by
  cases hv : v.ownBlock with
  | none => exact .inl rfl
  | some q => right; intro e; cases e

variable {R a lost : Nat} {f : Nat → Value} {lv ov outv : Value} {ps qs : List ByteArray} {xs ys : List Value} {w1 wr w' : World}

/-- what changes no block that was there -/
theorem RI.grew (h : RI R a f lv ov outv lost ps qs xs ys w1 wr) (hg : wr.grownBy w' none) : RI R a f lv ov outv lost ps qs xs ys w1 w' :=
  ⟨h.ha, h.ring.grown hg (fun k hk => by cases hk), h.le8, fun j hj => ⟨(h.pk j hj).1.kept hg none_row, (h.pk j hj).2⟩, hg.cell h.c10 (by simp), hg.cell h.c11 (by simp), h.ow.kept hg none_row, h.ou.kept hg none_row, h.d3, hg.cell h.lb (by simp),
    (World.frozen?_of_block (a := ⟨R + 1, 0, .none⟩) (hg.block (R + 1) (by have := h.lz; omega) (by simp))).trans h.lf, Nat.le_trans h.lz hg.size, h.ls.kept hg none_row⟩
theorem RI.alloc (h : RI R a f lv ov outv lost ps qs xs ys w1 wr) (o : Obj) : RI R a f lv ov outv lost ps qs xs ys w1 (wr.alloc o) := h.grew (World.grownBy_alloc _ _ _)
theorem RI.drew (h : RI R a f lv ov outv lost ps qs xs ys w1 wr) : RI R a f lv ov outv lost ps qs xs ys w1 wr.drew := h.grew ⟨rfl, rfl, rfl, Nat.le_refl _, fun _ _ _ => rfl⟩

/-- what changes the ring's block alone: the rest is as it was -/
theorem RI.rest (h : RI R a f lv ov outv lost ps qs xs ys w1 wr) (hg : wr.grownBy w' (some R)) :
    (∀ j (hj : j < ps.length), Packet w' (R + 2) (f ((a + j) % 8)) ps[j] ∧ ps[j].size ≤ 32) ∧ w'.ownsRow (R + 2) 33 1 ov xs.length xs ∧ w'.ownsRow (R + 2) 33 1 outv ys.length ys ∧ w'.cell? ⟨R + 1, 0, .none⟩ = some lv ∧ w'.frozen? ⟨R + 1, 0, .none⟩ = false ∧ R + 2 ≤ w'.heap.size ∧ Strs w' (R + 2) lv qs :=
  ⟨fun j hj => ⟨(h.pk j hj).1.kept hg (own_above (h.pk j hj).1.own (by omega)), (h.pk j hj).2⟩, h.ow.kept hg (own_above h.ow (by omega)), h.ou.kept hg (own_above h.ou (by omega)), hg.cell h.lb (some_ne (by show R + 1 ≠ R; omega)),
    (World.frozen?_of_block (a := ⟨R + 1, 0, .none⟩) (hg.block (R + 1) (by have := h.lz; omega) (some_ne (by omega)))).trans h.lf, Nat.le_trans h.lz hg.size, h.ls.kept hg (strs_above h.ls (by omega))⟩

theorem RI.pushed {x : Value} {B : ByteArray} (h : RI R a f lv ov outv lost ps qs xs ys w1 wr) (h8 : ps.length < 8) (hr : RS R a (ps.length + 1) (fun i => if i = (a + ps.length) % 8 then x else f i) w1 w') (hp : Packet w' wr.heap.size x (pkt B)) (hg : wr.grownBy w' (some R))
    (hc : ∀ q, 10 ≤ q → w'.cell? ⟨R, q, .none⟩ = wr.cell? ⟨R, q, .none⟩) : RI R a (fun i => if i = (a + ps.length) % 8 then x else f i) lv ov outv lost (ps ++ [pkt B]) qs xs ys w1 w' := by
  obtain ⟨q1, q2, q3, q4, q5, q6, q7⟩ := h.rest hg
  have ha := h.ha
  refine ⟨ha, by simpa using hr, by simp; omega, fun j hj => ?_, (hc 10 (by omega)).trans h.c10, (hc 11 (by omega)).trans h.c11, q2, q3, h.d3, q4, q5, q6, q7⟩
  by_cases hj2 : j = ps.length
  · subst hj2
    refine ⟨?_, ?_⟩
    · simp only [if_pos]
      simpa using hp.lower h.lz
    · simp [pkt_size]; omega
  · have hj3 : j < ps.length := by simp at hj; omega
    have hne : (a + j) % 8 ≠ (a + ps.length) % 8 := by omega
    simp only [if_neg hne]
    rw [List.getElem_append_left hj3]
    exact q1 j hj3
theorem RI.lost1 (h : RI R a f lv ov outv lost ps qs xs ys w1 wr) : RI R a f lv ov outv (lost + 1) ps qs xs ys w1 (wr.setCell ⟨R, 10, .none⟩ (.int .i64 ((lost + 1 : Nat) : Int))) := by
  have hg := Go.Lib.grownBy_setCell wr R 10 (.int .i64 ((lost + 1 : Nat) : Int))
  obtain ⟨q1, q2, q3, q4, q5, q6, q7⟩ := h.rest hg
  have o : ∀ q, q ≠ 10 → (wr.setCell ⟨R, 10, .none⟩ (.int .i64 ((lost + 1 : Nat) : Int))).cell? ⟨R, q, .none⟩ = wr.cell? ⟨R, q, .none⟩ := fun q hq => World.cell?_setCell_other _ _ _ _ (by intro e; injection e with _ e2 _; exact hq e2.symm)
  refine ⟨h.ha, ⟨(o 8 (by omega)).trans h.ring.c8, (o 9 (by omega)).trans h.ring.c9, fun q hq => (o q (by omega)).trans (h.ring.cq q hq), fun q => (World.frozen?_setCell _ _ _ _).trans (h.ring.fr q), by have := h.ring.hb; simpa [World.setCell] using this, h.ring.bl.setCell (Nat.le_refl R) _⟩, h.le8, q1, World.cell?_setCell_same' _ _ _ (by rw [h.c10]; rfl), (o 11 (by omega)).trans h.c11, q2, q3, h.d3, q4, q5, q6, q7⟩
theorem RI.popped {p : ByteArray} {n' : Nat} (h : RI R a f lv ov outv lost (p :: ps) qs xs ys w1 wr) (hr : RS R ((a + 1) % 8) n' (fun i => if i = a then .slice .none 0 0 else f i) w1 w') (hn' : n' = ps.length) (hg : wr.grownBy w' (some R))
    (hc : ∀ q, 10 ≤ q → w'.cell? ⟨R, q, .none⟩ = wr.cell? ⟨R, q, .none⟩) : RI R ((a + 1) % 8) (fun i => if i = a then .slice .none 0 0 else f i) lv ov outv lost ps qs xs ys w1 w' := by
  obtain ⟨q1, q2, q3, q4, q5, q6, q7⟩ := h.rest hg
  have ha := h.ha
  have h8 := h.le8
  simp at h8
  subst hn'
  refine ⟨Nat.mod_lt _ (by decide), hr, by omega, fun j hj => ?_, (hc 10 (by omega)).trans h.c10, (hc 11 (by omega)).trans h.c11, q2, q3, h.d3, q4, q5, q6, q7⟩
  have hne : ((a + 1) % 8 + j) % 8 ≠ a := by omega
  simp only [if_neg hne]
  have := q1 (j + 1) (by simp; omega)
  rw [show (a + (j + 1)) % 8 = ((a + 1) % 8 + j) % 8 by omega] at this
  simpa using this
/-- the box of strings is set -/
theorem RI.boxed {lv' : Value} {qs' : List ByteArray} (h : RI R a f lv ov outv lost ps qs xs ys w1 wr) (hs : Strs wr (R + 2) lv' qs') : RI R a f lv' ov outv lost ps qs' xs ys w1 (wr.setCell ⟨R + 1, 0, .none⟩ lv') := by
  have hg := Go.Lib.grownBy_setCell wr (R + 1) 0 lv'
  have hgR : some R ≠ some (R + 1) := some_ne (by omega)
  exact ⟨h.ha, h.ring.grown hg (fun k hk => by cases hk; omega), h.le8, fun j hj => ⟨(h.pk j hj).1.kept hg (own_above (h.pk j hj).1.own (by omega)), (h.pk j hj).2⟩, hg.cell h.c10 hgR, hg.cell h.c11 hgR, h.ow.kept hg (own_above h.ow (by omega)), h.ou.kept hg (own_above h.ou (by omega)), h.d3,
    World.cell?_setCell_same' _ _ _ (by rw [h.lb]; rfl), (World.frozen?_setCell _ _ _ _).trans h.lf, by have := h.lz; simpa [World.setCell] using this, hs.kept hg (strs_above hs (by omega))⟩
theorem RI.appended {lv' : Value} {s : ByteArray} (h : RI R a f lv ov outv lost ps qs xs ys w1 wr) (hg : wr.grownBy w' lv.ownBlock) (hs : Strs w' (R + 2) lv' (qs ++ [s])) : RI R a f lv' ov outv lost ps (qs ++ [s]) xs ys w1 (w'.setCell ⟨R + 1, 0, .none⟩ lv') := by
  have hlow : ∀ b, b < R + 2 → some b ≠ lv.ownBlock := fun b hb e => by have := (h.ls.block b e.symm).1; omega
  have hbk : ∀ b, b < R + 2 → w'.heap[b]? = wr.heap[b]? := fun b hb => hg.block b (by have := h.lz; omega) (hlow b hb)
  have hg2 := Go.Lib.grownBy_setCell w' (R + 1) 0 lv'
  have hgR : some R ≠ some (R + 1) := some_ne (by omega)
  have lb' : w'.cell? ⟨R + 1, 0, .none⟩ = some lv := (World.cell?_of_block (a := ⟨R + 1, 0, .none⟩) (hbk (R + 1) (by omega))).trans h.lb
  have hr' : RS R a ps.length f w1 w' := by
    have hc : ∀ q, w'.cell? ⟨R, q, .none⟩ = wr.cell? ⟨R, q, .none⟩ := fun q => World.cell?_of_block (a := ⟨R, q, .none⟩) (hbk R (by omega))
    exact ⟨(hc 8).trans h.ring.c8, (hc 9).trans h.ring.c9, fun q hq => (hc q).trans (h.ring.cq q hq), fun q => (World.frozen?_of_block (a := ⟨R, q, .none⟩) (hbk R (by omega))).trans (h.ring.fr q), Nat.lt_of_lt_of_le h.ring.hb hg.size, h.ring.bl.grown hg (Nat.le_of_lt h.ring.hb) (fun k hk => by have := (h.ls.block k hk).1; omega)⟩
  have hpk : ∀ j (hj : j < ps.length), Packet w' (R + 2) (f ((a + j) % 8)) ps[j] := fun j hj => (h.pk j hj).1.kept hg (h.ls.ne (h.pk j hj).1.own (by decide))
  have how : w'.ownsRow (R + 2) 33 1 ov xs.length xs := h.ow.kept hg (h.ls.ne h.ow (by decide))
  have hou : w'.ownsRow (R + 2) 33 1 outv ys.length ys := h.ou.kept hg (h.ls.ne h.ou (by decide))
  exact ⟨h.ha, hr'.grown hg2 (fun k hk => by cases hk; omega), h.le8, fun j hj => ⟨(hpk j hj).kept hg2 (own_above (hpk j hj).own (by omega)), (h.pk j hj).2⟩, hg2.cell ((World.cell?_of_block (a := ⟨R, 10, .none⟩) (hbk R (by omega))).trans h.c10) hgR, hg2.cell ((World.cell?_of_block (a := ⟨R, 11, .none⟩) (hbk R (by omega))).trans h.c11) hgR,
    how.kept hg2 (own_above how (by omega)), hou.kept hg2 (own_above hou (by omega)), h.d3, World.cell?_setCell_same' _ _ _ (by rw [lb']; rfl), (World.frozen?_setCell _ _ _ _).trans ((World.frozen?_of_block (a := ⟨R + 1, 0, .none⟩) (hbk (R + 1) (by omega))).trans h.lf), by have := h.lz; have := hg.size; simp [World.setCell]; omega, hs.kept hg2 (strs_above hs (by omega))⟩
end Go.Proofs.Ytmnhnjljapabdaa
