/- The calls of a ring within the law RingRuns. Conditions: as each theorem names them. -/
import Derived.Test.YtmnhnjljapabdaaRingRunsB
import Derived.Test.YtmnhnjljapabdaaRingPut
set_option linter.unusedVariables false
namespace Go.Proofs.Ytmnhnjljapabdaa
open Go.ChangeShapes Go.WideShapes Go.ChangeAt Go.RowKit Go.Shelf
open Go.Lib (Bytes)

/-- what a Put leaves, written out -/
def PutAt (b : Nat) (x : Int) (n : Nat) (v : Value) (xs : List Value) (w w' : World) : Prop :=
  ∃ v' w1, (w.alloc (.cells #[.int .u64 x] 33)).grownBy w1 v.ownBlock ∧ w1.ownsRow (b + 1) 33 1 v' (n + 1) (xs ++ [.int .u64 x]) ∧ (v'.ownBlock = v.ownBlock ∨ v'.ownBlock = some (w.heap.size + 1)) ∧ w1.setCell ⟨b, 11, none⟩ v' = w'

theorem put_exact_some (b g cap : Nat) (x : Int) (n : Nat) (xs : List Value) (w : World) (hc : w.cell? ⟨b, 11, none⟩ = some (.slice (some ⟨g, 0, none⟩) n cap)) (hf : w.frozen? ⟨b, 11, none⟩ = false)
    (hown : w.ownsRow (b + 1) 33 1 (.slice (some ⟨g, 0, none⟩) n cap) n xs) (hn : n < 1024) (hb : b < w.heap.size) :
    Calls Try.prog 11 #[.pointer (some ⟨b, 0, none⟩), .int .u64 x] w fun e w' => e = .returned (.bool true) ∧ PutAt b x n (.slice (some ⟨g, 0, none⟩) n cap) xs w w' := by
  obtain ⟨i0, hi, hz0, hz1, hz2⟩ := info_parts info33
  have hn1 : ((n : Int) == 1024) = false := by rw [beq_eq_false_iff_ne]; omega
  have H := Lib.hid hown
  clear hown
  go_enter Try.func11, Try.ntmps11
  go_wp2_with (first
    | (at_builtin; refine wpList_append_own_at _ rfl (.tmp 19) (.tmp 21) 25 rfl (b + 1) 33 i0 (.int .u64 0) 1 8 Try.underlying25 hi hz0 hz1 hz2 rfl (by decide) _ _ _ rfl (H.out.alloc _) ⟨w.heap.size, 0, none⟩ 1 1 [.int .u64 x] rfl rfl (cell_one_new w _ _) (by simp [Value.oneCell']) (by unfold maxLen; omega) (by omega) (by simp; omega) ?_; intro v' w1 hown' hgrow hnil hat; obtain ⟨g', cap', rfl, hg', hg2, hg3, hg4⟩ := own_form hown'; obtain ⟨hc1, hf1⟩ := grown_one hgrow (own_block H.out) (Nat.lt_succ_self b) hb; have hc2 := (hc1 11).trans hc; have hf2 := (hf1 11).trans hf; have HO := Lib.hid hown'; have HG := Lib.hid hgrow; have HA := Lib.hid hat; clear hown' hgrow hnil hat hc1 hf1)
    | fail)
  go_ret
  exact ⟨rfl, _, w1, HG.out, HO.out, Or.elim HA.out (fun e => .inl e) (fun e => .inr (e.trans (by simp))), rfl⟩
theorem put_exact_none (b : Nat) (x : Int) (xs : List Value) (w : World) (hc : w.cell? ⟨b, 11, none⟩ = some (.slice none 0 0)) (hf : w.frozen? ⟨b, 11, none⟩ = false)
    (hown : w.ownsRow (b + 1) 33 1 (.slice none 0 0) 0 xs) (hb : b < w.heap.size) :
    Calls Try.prog 11 #[.pointer (some ⟨b, 0, none⟩), .int .u64 x] w fun e w' => e = .returned (.bool true) ∧ PutAt b x 0 (.slice none 0 0) xs w w' := by
  obtain ⟨i0, hi, hz0, hz1, hz2⟩ := info_parts info33
  have H := Lib.hid hown
  clear hown
  go_enter Try.func11, Try.ntmps11
  go_wp2_with (first
    | (at_builtin; refine wpList_append_own_at _ rfl (.tmp 19) (.tmp 21) 25 rfl (b + 1) 33 i0 (.int .u64 0) 1 8 Try.underlying25 hi hz0 hz1 hz2 rfl (by decide) _ _ _ rfl (H.out.alloc _) ⟨w.heap.size, 0, none⟩ 1 1 [.int .u64 x] rfl rfl (cell_one_new w _ _) (by simp [Value.oneCell']) (by unfold maxLen; omega) (by omega) (by simp; omega) ?_; intro v' w1 hown' hgrow hnil hat; obtain ⟨g', cap', rfl, hg', hg2, hg3, hg4⟩ := own_form hown'; obtain ⟨hc1, hf1⟩ := grown_one hgrow (own_block H.out) (Nat.lt_succ_self b) hb; have hc2 := (hc1 11).trans hc; have hf2 := (hf1 11).trans hf; have HO := Lib.hid hown'; have HG := Lib.hid hgrow; have HA := Lib.hid hat; clear hown' hgrow hnil hat hc1 hf1)
    | fail)
  go_ret
  exact ⟨rfl, _, w1, HG.out, HO.out, Or.elim HA.out (fun e => .inl e) (fun e => .inr (e.trans (by simp))), rfl⟩

variable {R a lost : Nat} {f : Nat → Value} {lv ov outv : Value} {ps qs : List ByteArray} {xs ys : List Value} {w1 wr w' : World}

theorem own_lower {w : World} {base b2 e size n : Nat} {v : Value} {xs : List Value} (h : w.ownsRow base e size v n xs) (hb : b2 ≤ base) : w.ownsRow b2 e size v n xs := by
  obtain ⟨hl, hc | ⟨g, cap, cur, h1, h2, h3⟩⟩ := h
  · exact ⟨hl, .inl hc⟩
  · exact ⟨hl, .inr ⟨g, cap, cur, h1, by omega, h3⟩⟩
theorem own_lift {w : World} {base b2 e size n : Nat} {v : Value} {xs : List Value} (h : w.ownsRow base e size v n xs) (hb : ∀ q, v.ownBlock = some q → b2 ≤ q) : w.ownsRow b2 e size v n xs := by
  obtain ⟨hl, hc | ⟨g, cap, cur, h1, h2, h3⟩⟩ := h
  · exact ⟨hl, .inl hc⟩
  · exact ⟨hl, .inr ⟨g, cap, cur, h1, hb g (by rw [h1]; rfl), h3⟩⟩

/-- a number goes out -/
theorem RI.put_call (h : RI R a f lv ov outv lost ps qs xs ys w1 wr) (x : Int) (hx : xs.length < 1024) :
    Calls Try.prog 11 #[.pointer (some ⟨R, 0, none⟩), .int .u64 x] wr fun e w' => e = .returned (.bool true) ∧ (∃ ov', RI R a f lv ov' outv lost ps qs (xs ++ [.int .u64 x]) ys w1 w') ∧ wr.heap.size ≤ w'.heap.size ∧ ∀ q, q < wr.heap.size → q ≠ R → some q ≠ ov.ownBlock → w'.heap[q]? = wr.heap[q]? := by
  have key : ∀ w', PutAt R x xs.length ov xs wr w' → (∃ ov', RI R a f lv ov' outv lost ps qs (xs ++ [.int .u64 x]) ys w1 w') ∧ wr.heap.size ≤ w'.heap.size ∧ ∀ q, q < wr.heap.size → q ≠ R → some q ≠ ov.ownBlock → w'.heap[q]? = wr.heap[q]? := by
    rintro w' ⟨v', w2, hg, ho, hat, rfl⟩
    have h1 := h.alloc (.cells #[.int .u64 x] 33)
    have hlow : ∀ b, b < R + 2 → some b ≠ ov.ownBlock := fun b hb e => by have := (h.ow.lt b e.symm).1; omega
    have hz := h.lz
    have hbk : ∀ b, b < R + 2 → w2.heap[b]? = (wr.alloc (.cells #[.int .u64 x] 33)).heap[b]? := fun b hb => hg.block b (by simp; omega) (hlow b hb)
    have hc : ∀ q, w2.cell? ⟨R, q, none⟩ = (wr.alloc (.cells #[.int .u64 x] 33)).cell? ⟨R, q, none⟩ := fun q => World.cell?_of_block (a := ⟨R, q, none⟩) (hbk R (by omega))
    have hsz : wr.heap.size + 1 ≤ w2.heap.size := by have := hg.size; simpa using this
    have hg2 := Go.Lib.grownBy_setCell w2 R 11 v'
    have o : ∀ q, q ≠ 11 → (w2.setCell ⟨R, 11, none⟩ v').cell? ⟨R, q, none⟩ = w2.cell? ⟨R, q, none⟩ := fun q hq => World.cell?_setCell_other _ _ _ _ (by intro e; injection e with _ e2 _; exact hq e2.symm)
    have hv' : ∀ q, v'.ownBlock = some q → R + 2 ≤ q := fun q hq => by
      rcases hat with e | e
      · rw [hq] at e; have := (h.ow.lt q e.symm).1; omega
      · rw [hq] at e; injection e with e; omega
    have ho2 := own_lift ho hv'
    have hpk : ∀ j (hj : j < ps.length), Packet w2 (R + 2) (f ((a + j) % 8)) ps[j] := fun j hj => (h1.pk j hj).1.kept hg (own_ne (h1.pk j hj).1.own h1.ow (by decide))
    have hls : Strs w2 (R + 2) lv qs := h1.ls.kept hg (h1.ls.ne' h1.ow (by decide))
    have hou : w2.ownsRow (R + 2) 33 1 outv ys.length ys := h1.ou.kept hg (by
      rcases h.d3 with e | e
      · rw [e]; exact none_row
      · cases hq : outv.ownBlock with
        | none => exact .inl rfl
        | some q => right; rw [hq] at e; exact fun e2 => e e2.symm)
    refine ⟨⟨v', h.ha, ⟨(o 8 (by omega)).trans ((hc 8).trans h1.ring.c8), (o 9 (by omega)).trans ((hc 9).trans h1.ring.c9), fun q hq => (o q (by omega)).trans ((hc q).trans (h1.ring.cq q hq)), fun q => (World.frozen?_setCell _ _ _ _).trans ((World.frozen?_of_block (a := ⟨R, q, none⟩) (hbk R (by omega))).trans (h1.ring.fr q)), by simp [World.setCell]; omega, (h1.ring.bl.grown hg (by simp; omega) (fun k hk => by have := (h.ow.lt k hk).1; omega)).setCell (Nat.le_refl R) _⟩, h.le8, fun j hj => ⟨(hpk j hj).kept hg2 (own_above (hpk j hj).own (by omega)), (h.pk j hj).2⟩,
      (o 10 (by omega)).trans ((hc 10).trans h1.c10), World.cell?_setCell_same' _ _ _ (by rw [hc 11, h1.c11]; rfl), ?_, hou.kept hg2 (own_above hou (by omega)), ?_, hg2.cell ((World.cell?_of_block (a := ⟨R + 1, 0, none⟩) (hbk (R + 1) (by omega))).trans h1.lb) (some_ne (by show R + 1 ≠ R; omega)), (World.frozen?_setCell _ _ _ _).trans ((World.frozen?_of_block (a := ⟨R + 1, 0, none⟩) (hbk (R + 1) (by omega))).trans h1.lf), by simp [World.setCell]; omega, hls.kept hg2 (strs_above hls (by omega))⟩, by simp [World.setCell]; omega, fun q hq hR hov => ?_⟩
    · simpa using ho2.kept hg2 (own_above ho2 (by omega))
    · rcases hat with e | e
      · rw [e]; exact h.d3
      · right
        rw [e]
        intro e2
        have := (h.ou.lt _ e2.symm).2
        omega
    · have e1 := Below.heap_setCell w2 ⟨R, 11, none⟩ v' q (by exact hR)
      have e2 := hg.block q (by simp; omega) hov
      have e3 := Below.heap_alloc wr (.cells #[.int .u64 x] 33) q hq
      exact e1.trans (e2.trans e3)
  have hRr := h.ring.fr 11
  rcases own_none h.ow with ⟨hov, hn, hx0⟩ | ⟨g, cap, hov, _⟩
  · have hc := h.c11
    have ho := own_lower h.ow (show R + 1 ≤ R + 2 by omega)
    rw [hov] at hc ho
    rw [hn] at ho
    refine (put_exact_none R x xs wr hc hRr ho h.ring.hb).mono ?_
    rintro e w' ⟨rfl, hp⟩
    refine ⟨rfl, key w' ?_⟩
    rw [hov, hn]; exact hp
  · have hc := h.c11
    have ho := own_lower h.ow (show R + 1 ≤ R + 2 by omega)
    rw [hov] at hc ho
    refine (put_exact_some R g cap x xs.length xs wr hc hRr ho hx h.ring.hb).mono ?_
    rintro e w' ⟨rfl, hp⟩
    refine ⟨rfl, key w' ?_⟩
    rw [hov]; exact hp

/-- a packet comes; there is room -/
theorem RI.push_call (h : RI R a f lv ov outv lost ps qs xs ys w1 wr) (h8 : ps.length < 8) {v : Value} {B : ByteArray} (hv : Reads wr v B) :
    Calls Try.prog 8 #[.pointer (some ⟨R, 0, none⟩), v] wr fun e w' => e = .returned (.bool true) ∧ (∃ f', RI R a f' lv ov outv lost (ps ++ [pkt B]) qs xs ys w1 w') ∧ wr.grownBy w' (some R) := by
  have ha := h.ha
  have hq : (a + ps.length) % 8 < 8 := Nat.mod_lt _ (by decide)
  have fin : ∀ w' (m : Nat) (bs : List Value) (x : Value), Pushed R ((a + ps.length) % 8) ps.length m bs wr w' → w'.cell? ⟨R, (a + ps.length) % 8, none⟩ = some x → Packet w' wr.heap.size x (pkt B) → (∃ f', RI R a f' lv ov outv lost (ps ++ [pkt B]) qs xs ys w1 w') ∧ wr.grownBy w' (some R) := by
    intro w' m bs x hp hc hpk
    exact ⟨⟨_, h.pushed h8 (h.ring.pushed hq hp hc) hpk hp.env (fun q hq2 => hp.rest q (by omega) (by omega))⟩, hp.env⟩
  have nil : ∀ w', B.size = 0 → Packet w' wr.heap.size (.slice none 0 0) (pkt B) := fun w' h0 => by
    have hs : (pkt B).size = 0 := by rw [pkt_size]; omega
    refine ⟨?_, fun _ => rfl⟩
    have e : cellsOf (pkt B) (pkt B).size = [] := by rw [hs]; rfl
    rw [e, hs]
    exact World.ownsRow_nil _ _ _ _
  rcases hv with ⟨rfl, h0⟩ | ⟨p, c, rfl, h0⟩ | ⟨g, off, c, rfl, h0, h1, h2, h3, hby⟩
  · refine (push_nil R a ps.length _ _ wr h.ring.c8 h.ring.c9 (h.ring.cq _ hq) rfl h.ring.fr ha h8 h.ring.hb).mono ?_
    rintro e w' ⟨rfl, hp, hc⟩
    exact ⟨rfl, fin w' _ _ _ hp hc (nil w' h0)⟩
  · refine (push_zero R c a ps.length _ p _ wr h.ring.c8 h.ring.c9 (h.ring.cq _ hq) rfl h.ring.fr ha h8 h.ring.hb).mono ?_
    rintro e w' ⟨rfl, hp, hc⟩
    exact ⟨rfl, fin w' _ _ _ hp hc (nil w' h0)⟩
  · refine (push_gen R g off a ps.length _ B.size (min B.size 32) c (cellsOf B (min B.size 32)) _ wr h.ring.c8 h.ring.c9 (h.ring.cq _ hq) rfl h.ring.fr ha h8 h.ring.hb rfl (by omega) (by omega) (by rw [cellsOf_length]; omega) (bytes_cells hby (by omega)) (cellsOf_one B _)).mono ?_
    rintro e w' ⟨rfl, hp⟩
    obtain ⟨x, hx, ho⟩ := hp.val
    refine ⟨rfl, fin w' _ _ _ hp hx ⟨?_, fun hz => ?_⟩⟩
    · rw [cells_pkt, pkt_size]; exact ho
    · rw [pkt_size] at hz; omega
/-- a packet comes; the ring is full -/
theorem RI.full_call (h : RI R a f lv ov outv lost ps qs xs ys w1 wr) (h8 : ps.length = 8) (hl : lost ≤ 1000) (v : Value) :
    Calls Try.prog 8 #[.pointer (some ⟨R, 0, none⟩), v] wr fun e w' => e = .returned (.bool false) ∧ RI R a f lv ov outv (lost + 1) ps qs xs ys w1 w' ∧ wr.grownBy w' (some R) := by
  have hc := h.ring.c9
  rw [h8] at hc
  refine (push_full R v lost wr hc h.c10 (h.ring.fr 10)).mono ?_
  rintro e w' ⟨rfl, hw⟩
  rw [show wrap64 ((lost : Int) + 1) = ((lost + 1 : Nat) : Int) by unfold wrap64; omega] at hw
  rw [← hw]
  exact ⟨rfl, h.lost1, Go.Lib.grownBy_setCell _ _ _ _⟩
/-- the first packet goes -/
theorem RI.pop_call {p : ByteArray} (h : RI R a f lv ov outv lost (p :: ps) qs xs ys w1 wr) :
    Calls Try.prog 9 #[.pointer (some ⟨R, 0, none⟩)] wr fun e w' => ∃ x, e = .returned (.tuple #[x, .bool true]) ∧ (∃ a' f', RI R a' f' lv ov outv lost ps qs xs ys w1 w') ∧ Packet w' (R + 2) x p ∧ wr.grownBy w' (some R) := by
  have ha := h.ha
  have h8 := h.le8
  simp at h8
  refine (pop_some R a (p :: ps).length _ wr h.ring.c8 h.ring.c9 (h.ring.cq a ha) h.ring.fr ha (by simp) (by simp; omega) h.ring.hb).mono ?_
  rintro e w' ⟨rfl, hp⟩
  have hk := (h.pk 0 (by simp)).1
  rw [show (a + 0) % 8 = a by omega] at hk
  exact ⟨_, rfl, ⟨_, _, h.popped (h.ring.popped ha hp) (by simp) hp.env (fun q hq => hp.rest q (by omega) (by omega) (by omega))⟩, hk.kept hp.env (own_above hk.own (by omega)), hp.env⟩
end Go.Proofs.Ytmnhnjljapabdaa
