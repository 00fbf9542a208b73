/- The walk of the law WaitsAlerts. -/
import Derived.Test.YtngmhhjgfmbcbaaAlertsC
import Derived.Test.YtngmhhjgfmbcbaaWaitsWalkB
import Derived.Deep.LoopGhost
import Derived.ArgAppend
set_option linter.unusedVariables false
namespace Go.Proofs.Ytngmhhjgfmbcbaa
open Go.ChangeShapes Go.WideShapes Go.ChangeAt Go.RowKit

/-- the slice v of the call's own holds xs, wherever in its row it begins -/
def Win (base : Nat) (w : World) (v : Value) (xs : List Int) : Prop :=
  (v = .slice none 0 0 ∧ xs = []) ∨ ∃ g off cap cur, v = .slice (some ⟨g, off, none⟩) xs.length cap ∧ base ≤ g ∧ w.heap[g]? = some (.cells cur 22 (0, 0)) ∧ xs.length ≤ cap ∧ cap ≤ maxLen ∧ off + cap ≤ cur.size ∧ ∀ j x, xs[j]? = some x → cur[off + j]? = some (.int .u64 x)

theorem Win.kept {base : Nat} {w w' : World} {v : Value} {xs : List Int} (h : Win base w v xs) (hk : ∀ g, v.ownBlock = some g → w'.heap[g]? = w.heap[g]?) : Win base w' v xs := by
  rcases h with h | ⟨g, off, cap, cur, rfl, h1, h2, h3⟩
  · exact .inl h
  · exact .inr ⟨g, off, cap, cur, rfl, h1, (hk g rfl).trans h2, h3⟩

theorem Win.tail {base g off cap : Nat} {w : World} {x : Int} {xs : List Int} (h : Win base w (.slice (some ⟨g, off, none⟩) (xs.length + 1) cap) (x :: xs)) :
    Win base w (.slice (if cap = 1 then some ⟨g, off, none⟩ else some ⟨g, off + 1, none⟩) xs.length (cap - 1)) xs := by
  rcases h with ⟨h, _⟩ | ⟨g', off', cap', cur, h0, h1, h2, h3, h4, h5, h6⟩
  · cases h
  · cases h0
    have h3 : xs.length + 1 ≤ cap := h3
    right
    by_cases c : cap = 1
    · rw [if_pos c]
      have hx : xs = [] := List.eq_nil_of_length_eq_zero (by omega)
      subst hx
      exact ⟨g, off, cap - 1, cur, rfl, h1, h2, by simp, by omega, by omega, by intro j y hy; simp at hy⟩
    · rw [if_neg c]
      refine ⟨g, off + 1, cap - 1, cur, rfl, h1, h2, by omega, by omega, by omega, ?_⟩
      intro j y hy
      have := h6 (j + 1) y (by simpa using hy)
      rw [show off + 1 + j = off + (j + 1) by omega]
      exact this

theorem Win.cells {base g off n cap : Nat} {w : World} {xs : List Int} (h : Win base w (.slice (some ⟨g, off, none⟩) n cap) xs) : ∀ j u, (nums xs)[j]? = some u → w.cell? ⟨g, off + j, none⟩ = some u := by
  rcases h with ⟨h, _⟩ | ⟨g', off', cap', cur, h0, h1, h2, h3, h4, h5, h6⟩
  · cases h
  · cases h0
    intro j u hu
    unfold nums at hu
    rw [List.getElem?_map, Option.map_eq_some_iff] at hu
    obtain ⟨x, hx, rfl⟩ := hu
    have := h6 j x hx
    simp [World.cell?, h2, this]

theorem Win.spare {base g off n cap : Nat} {w : World} {xs : List Int} (h : Win base w (.slice (some ⟨g, off, none⟩) n cap) xs) (hn : n + 1 ≤ cap) : (w.cell? ⟨g, off + n, none⟩).isSome = true ∧ w.frozen? ⟨g, off + n, none⟩ = false := by
  rcases h with ⟨h, _⟩ | ⟨g', off', cap', cur, h0, h1, h2, h3, h4, h5, h6⟩
  · cases h
  · cases h0
    have hlt : off + xs.length < cur.size := by omega
    refine ⟨?_, by simp [World.frozen?, h2]⟩
    simp [World.cell?, h2, hlt]

theorem Win.add {base g off n cap : Nat} {w : World} {xs : List Int} {x : Int} (h : Win base w (.slice (some ⟨g, off, none⟩) n cap) xs) (hn : n + 1 ≤ cap) : Win base (w.setCell ⟨g, off + n, none⟩ (.int .u64 x)) (.slice (some ⟨g, off, none⟩) (n + 1) cap) (xs ++ [x]) := by
  rcases h with ⟨h, _⟩ | ⟨g', off', cap', cur, h0, h1, h2, h3, h4, h5, h6⟩
  · cases h
  · cases h0
    right
    refine ⟨g, off, cap, cur.setIfInBounds (off + xs.length) (.int .u64 x), by simp, h1, ?_, by simp; omega, h4, by simp; omega, ?_⟩
    · simp only [World.setCell, Array.getElem?_modify]
      simp [h2]
    · intro j y hy
      by_cases hj : j < xs.length
      · rw [List.getElem?_append_left hj] at hy
        rw [Array.getElem?_setIfInBounds_ne (by omega)]
        exact h6 j y hy
      · have hj2 : j = xs.length := by
          have := (List.getElem?_eq_some_iff.1 hy).1
          simp at this; omega
        subst hj2
        simp at hy
        subst hy
        rw [Array.getElem?_setIfInBounds_self_of_lt (by omega)]

theorem Win.of_own {base b0 n : Nat} {w : World} {v : Value} {xs : List Int} (h : w.ownsRow b0 22 1 v n (nums xs)) (hb : base ≤ b0) : Win base w v xs := by
  obtain ⟨hl, ⟨h1, h0⟩ | ⟨g, cap, cur, rfl, h1, h2, h3, h4, h5, h6⟩⟩ := h
  · left
    refine ⟨h1, ?_⟩
    subst h0
    exact List.eq_nil_of_length_eq_zero (by simpa [nums] using hl)
  · right
    have hn : xs.length = n := by simpa [nums] using hl
    refine ⟨g, 0, cap, cur, by rw [hn], by omega, h2, by omega, h4, by omega, ?_⟩
    intro j x hx
    have hj := (List.getElem?_eq_some_iff.1 hx).1
    have h7 : (nums xs)[j]? = some (.int .u64 x) := by unfold nums; rw [List.getElem?_map, hx]; rfl
    rw [← h6, List.getElem?_take_of_lt (by omega)] at h7
    rw [Nat.zero_add, ← h7]
    simp

theorem Win.slice {base : Nat} {w : World} {v : Value} {xs : List Int} (h : Win base w v xs) : ∃ lo cap, v = .slice lo xs.length cap ∧ (lo = none → xs.length = 0 ∧ cap = 0) ∧ ∀ a, lo = some a → ∃ g off, a = ⟨g, off, none⟩ := by
  rcases h with ⟨rfl, rfl⟩ | ⟨g, off, cap, cur, rfl, _⟩
  · exact ⟨none, 0, rfl, fun _ => ⟨rfl, rfl⟩, fun a h => by cases h⟩
  · exact ⟨some ⟨g, off, none⟩, cap, rfl, fun h => (by cases h), fun a h => by cases h; exact ⟨g, off, rfl⟩⟩
theorem own_slice {w : World} {base n : Nat} {v : Value} {xs : List Value} (h : w.ownsRow base 22 1 v n xs) : ∃ go cap, v = .slice go n cap ∧ ∀ a, go = some a → ∃ g, a = ⟨g, 0, none⟩ ∧ base ≤ g := by
  rcases own_none h with ⟨rfl, rfl, _⟩ | ⟨g, cap, rfl, hg, _⟩
  · exact ⟨none, 0, rfl, fun a h => by cases h⟩
  · exact ⟨some ⟨g, 0, none⟩, cap, rfl, fun a h => by cases h; exact ⟨g, rfl, hg⟩⟩

theorem Win.lt {base : Nat} {w : World} {v : Value} {xs : List Int} (h : Win base w v xs) : ∀ k, v.ownBlock = some k → base ≤ k ∧ k < w.heap.size := by
  rcases h with ⟨rfl, rfl⟩ | ⟨g, off, cap, cur, rfl, h1, h2, _⟩
  · intro k hk; cases hk
  · intro k hk; cases hk; exact ⟨h1, (Array.getElem?_eq_some_iff.1 h2).1⟩

structure AS (b : Nat) (va vl : Value) (ys : List Int) (w0 w : World) : Prop where
  al : Al b va ys w
  win : Win (b + 1) w vl ys
  ne : ∀ k, va.ownBlock = some k → vl.ownBlock ≠ some k
  len : ys.length ≤ 4
  bl : Below b w0 w

theorem Al.kept {b : Nat} {v : Value} {xs : List Int} {w w' : World} (h : Al b v xs w) (hb : w'.heap[b]? = w.heap[b]?) (hv : ∀ k, v.ownBlock = some k → w'.heap[k]? = w.heap[k]?) (hz : w.heap.size ≤ w'.heap.size) : Al b v xs w' := by
  refine ⟨(World.cell?_of_block (w := w) (a := ⟨b, 0, none⟩) hb).trans h.c, (World.frozen?_of_block (w := w) (a := ⟨b, 0, none⟩) hb).trans h.f, ?_, Nat.lt_of_lt_of_le h.hb hz⟩
  obtain ⟨hl, hc | ⟨g, cap, cur, h1, h2, h3, h4⟩⟩ := h.o
  · exact ⟨hl, .inl hc⟩
  · subst h1
    exact ⟨hl, .inr ⟨g, cap, cur, rfl, h2, (hv g rfl).trans h3, h4⟩⟩

theorem AS.below {b : Nat} {va vl : Value} {ys : List Int} {w0 w w' : World} (h : AS b va vl ys w0 w) (hb : Below w.heap.size w w') : AS b va vl ys w0 w' :=
  ⟨h.al.kept (hb.block b h.al.hb) (fun k hk => hb.block k (h.al.o.lt k hk).2) hb.size, h.win.kept (fun g hg => hb.block g (h.win.lt g hg).2), h.ne, h.len, h.bl.trans (hb.mono (Nat.le_of_lt h.al.hb))⟩

/-- behind a push or a pop the window is as it was -/
theorem AS.side {b : Nat} {va vl : Value} {ys zs : List Int} {w0 w w1 : World} (h : AS b va vl ys w0 w) (ht : Turned b va zs w w1) :
    ∃ va', Al b va' zs w1 ∧ Win (b + 1) w1 vl ys ∧ (∀ k, va'.ownBlock = some k → vl.ownBlock ≠ some k) ∧ Below b w0 w1 := by
  obtain ⟨va', hal, hs, ho⟩ := ht
  have hw : Win (b + 1) w1 vl ys := h.win.kept fun g hg => by
    have := h.win.lt g hg
    refine hs.block g this.2 (by omega) ?_
    intro e
    exact h.ne g e hg
  refine ⟨va', hal, hw, ?_, ?_⟩
  · intro k hk e
    have hlt := h.win.lt k e
    rcases ho with ho | ho | ⟨j, ho, hj⟩
    · exact h.ne k (ho.symm.trans hk) e
    · rw [hk] at ho; cases ho
    · rw [hk] at ho; cases ho; omega
  · refine h.bl.trans ⟨hs.os, hs.tape, hs.output, hs.size, fun i hi => hs.block i (Nat.lt_trans hi h.al.hb) (by omega) ?_⟩
    intro e
    have := (h.al.o.lt i e).1
    omega

theorem AS.room {b g off n cap : Nat} {va' : Value} {ys : List Int} {c : Int} {w0 w1 : World} {o : Obj} (hal : Al b va' (ys ++ [c]) w1) (hw : Win (b + 1) w1 (.slice (some ⟨g, off, none⟩) n cap) ys) (hne : ∀ k, va'.ownBlock = some k → (Value.slice (some ⟨g, off, none⟩) n cap).ownBlock ≠ some k) (hbl : Below b w0 w1) (hn : n + 1 ≤ cap) (h4 : ys.length < 4) :
    AS b va' (.slice (some ⟨g, off, none⟩) (n + 1) cap) (ys ++ [c]) w0 ((w1.alloc o).setCell ⟨g, off + n, none⟩ (.int .u64 c)) := by
  have hg := hw.lt g rfl
  have hz := hal.hb
  refine ⟨hal.kept ?_ ?_ (by simp), ?_, fun k hk => hne k hk, by simp; omega, (hbl.alloc (Nat.le_of_lt hz) o).setCell (by show b ≤ g; omega) _⟩
  · rw [Below.heap_setCell _ _ _ _ (by show b ≠ g; omega)]; exact Below.heap_alloc _ _ _ hz
  · intro k hk
    have hkl := (hal.o.lt k hk).2
    rw [Below.heap_setCell _ _ _ _ (by show k ≠ g; intro e; exact hne k hk (by rw [e]; rfl))]
    exact Below.heap_alloc _ _ _ hkl
  · exact (hw.kept (w' := w1.alloc o) fun j hj => Below.heap_alloc _ _ _ (hw.lt j hj).2).add hn

theorem AS.grow {b : Nat} {va' v' : Value} {ys : List Int} {n : Nat} {w0 w1 w2 : World} {o : Obj} (hal : Al b va' ys w1) (hbl : Below b w0 w1) (h4 : ys.length ≤ 4) (ho : w2.ownsRow (w1.alloc o).heap.size 22 1 v' n (nums ys)) (hg : (w1.alloc o).grownBy w2 none) : AS b va' v' ys w0 w2 := by
  have hz := hal.hb
  have hb2 : Below w1.heap.size w1 w2 := ((Below.refl _ w1).alloc (Nat.le_refl _) o).grown hg (by simp) (by intro k hk; cases hk)
  refine ⟨hal.kept (hb2.block b hz) (fun k hk => hb2.block k (hal.o.lt k hk).2) hb2.size, Win.of_own ho (by simp; omega), ?_, h4, hbl.trans (hb2.mono (Nat.le_of_lt hz))⟩
  intro k hk e
  have h1 := (hal.o.lt k hk).2
  have h2 := (ho.lt k e).1
  simp at h2
  omega

theorem alerts_start (w : World) : AS w.heap.size (.slice none 0 0) (.slice none 0 0) [] w (w.alloc (.cells #[.slice none 0 0] 33)) :=
  ⟨⟨by simp, by simp, World.ownsRow_nil _ _ _ _, by simp⟩, .inl ⟨rfl, rfl⟩, fun k hk => (by cases hk), by simp, (Below.refl _ _).alloc (Nat.le_refl _) _⟩

theorem lt_of_cell {w : World} {p : Addr} {v : Value} (h : w.cell? p = some v) : p.block < w.heap.size := by
  rcases Nat.lt_or_ge p.block w.heap.size with c | c
  · exact c
  · exfalso
    simp [World.cell?, Array.getElem?_eq_none c] at h

theorem add_at (g o j : Nat) : ((⟨g, o, none⟩ : Addr).add j) = ⟨g, o + j, none⟩ := by
  unfold Addr.add
  split
  · rename_i e; subst e; rfl
  · rfl
theorem Win.cellsA {base n cap : Nat} {w : World} {lo : Option Addr} {ys : List Int} (h : Win base w (.slice lo n cap) ys) (o : Obj) : ∀ a, lo = some a → ∀ j u, (nums ys)[j]? = some u → (w.alloc o).cell? (a.add j) = some u := by
  intro a ha j u hu
  subst ha
  obtain ⟨l2, c2, e, _, h2⟩ := h.slice
  cases e
  obtain ⟨g, off, rfl⟩ := h2 _ rfl
  have hlt := (h.lt g rfl).2
  rw [add_at]
  exact (World.cell?_of_block (w := w) (a := ⟨g, off + j, none⟩) (Below.heap_alloc _ _ _ hlt)).trans (h.cells j u hu)
theorem Win.form {base n cap : Nat} {w : World} {lo : Option Addr} {ys : List Int} (h : Win base w (.slice lo n cap) ys) : (lo = none → n = 0 ∧ cap = 0) ∧ (∀ a, lo = some a → ∃ g off, a = ⟨g, off, none⟩) ∧ ys.length = n := by
  obtain ⟨l2, c2, e, h1, h2⟩ := h.slice
  cases e
  exact ⟨h1, h2, rfl⟩
theorem set_one (w : World) (g o : Nat) (v : Value) : w.setCells g o [v] = w.setCell ⟨g, o, none⟩ v := rfl
theorem Win.spareA {base g off n cap : Nat} {w : World} {xs : List Int} (h : Win base w (.slice (some ⟨g, off, none⟩) n cap) xs) (hn : n + 1 ≤ cap) (o : Obj) : ∀ j, j < 1 → ((w.alloc o).cell? ⟨g, off + n * 1 + j, none⟩).isSome = true ∧ (w.alloc o).frozen? ⟨g, off + n * 1 + j, none⟩ = false := by
  intro j hj
  obtain rfl : j = 0 := by omega
  rw [Nat.mul_one, Nat.add_zero]
  have hlt := (h.lt g rfl).2
  rw [World.cell?_of_block (w := w) (a := ⟨g, off + n, none⟩) (Below.heap_alloc _ _ _ hlt), World.frozen?_of_block (w := w) (a := ⟨g, off + n, none⟩) (Below.heap_alloc _ _ _ hlt)]
  exact h.spare hn

theorem own_set {w : World} {base size n g cap k : Nat} {e : TypeId} {xs : List Value} (h : w.ownsRow base e size (.slice (some ⟨g, 0, none⟩) n cap) n xs) (hk : k < xs.length) (u : Value) :
    (w.setCell ⟨g, k, none⟩ u).ownsRow base e size (.slice (some ⟨g, 0, none⟩) n cap) n (xs.set k u) := by
  obtain ⟨hl, ⟨h1, _⟩ | ⟨g', cap', cur, h1, hb, hg, h2, h3, h4, h5⟩⟩ := h
  · cases h1
  · cases h1
    refine ⟨by rw [List.length_set]; exact hl, .inr ⟨g, cap, cur.setIfInBounds k u, rfl, hb, ?_, h2, h3, by rw [Array.size_setIfInBounds]; exact h4, ?_⟩⟩
    · simp only [World.setCell, Array.getElem?_modify]
      simp [hg]
    · rw [Array.toList_setIfInBounds, List.take_set, h5]
theorem own_frozen {w : World} {base size n g cap : Nat} {e : TypeId} {xs : List Value} (h : w.ownsRow base e size (.slice (some ⟨g, 0, none⟩) n cap) n xs) (k : Nat) : w.frozen? ⟨g, k, none⟩ = false := by
  obtain ⟨hl, ⟨h1, _⟩ | ⟨g', cap', cur, h1, hb, hg, h2, h3, h4, h5⟩⟩ := h
  · cases h1
  · cases h1
    simp [World.frozen?, hg]
/-- behind i rounds over what List gave: from i on it is as it was given -/
structure GotRel (N i : Nat) (go : Option Addr) (cg : Nat) (zs : List Int) (W wr : World) : Prop where
  bl : Below W.heap.size W wr
  row : ∃ cs, wr.ownsRow W.heap.size 22 1 (.slice go N cg) N cs ∧ ∀ j, i ≤ j → cs[j]? = (nums zs)[j]?
theorem GotRel.drew {N i : Nat} {go : Option Addr} {cg : Nat} {zs : List Int} {W wr : World} (h : GotRel N i go cg zs W wr) : GotRel N i go cg zs W wr.drew := ⟨h.bl.drew, h.row⟩
theorem GotRel.step {N i gg : Nat} {cg : Nat} {zs : List Int} {W wr : World} (h : GotRel N i (some ⟨gg, 0, none⟩) cg zs W wr) (hi : i < N) (y : Int) : GotRel N (i + 1) (some ⟨gg, 0, none⟩) cg zs W (wr.setCell ⟨gg, i, none⟩ (.int .u64 y)) := by
  obtain ⟨cs, hrow, hcs⟩ := h.row
  have hg := (hrow.lt gg rfl).1
  refine ⟨h.bl.setCell hg _, cs.set i (.int .u64 y), own_set hrow (by have := hrow.1; omega) _, ?_⟩
  intro j hj
  rw [List.getElem?_set_ne (by omega)]
  exact hcs j (by omega)

theorem Win.room {base n cap : Nat} {w : World} {lo : Option Addr} {ys : List Int} (h : Win base w (.slice lo n cap) ys) : n ≤ cap := by
  rcases h with ⟨h, _⟩ | ⟨g', off', cap', cur, h0, h1, h2, h3, h4, h5, h6⟩
  · cases h; exact Nat.le_refl _
  · cases h0; exact h3
set_option maxRecDepth 100000 in
set_option maxHeartbeats 16000000 in
theorem lawAlerts_some (cao : Option Addr) (cm cc : Nat) (cs : Nat → Int) (hc3 : cm ≤ 300) (w : World) (hca : 0 < cm → ∃ ca, cao = some ca ∧ ∀ i, i < cm → w.cell? (ca.add i) = some (.int .u64 (cs i))) :
    Calls Try.prog 5 #[.slice cao cm cc] w fun e w' => e = .returned (.bool true) ∧ Below w.heap.size w w' := by
  have hcI : ¬ (300 : Int) < (cm : Int) := by omega
  obtain ⟨i0, hi, hz0, hz1, hz2⟩ := info_parts info22
  go_enter Try.func5, Try.ntmps5
  go_wp2_with fail
  refine (fit_any _).mono ?_
  rintro e w1 ⟨rfl, hb1⟩
  have hs := alerts_start w1
  have HS := Lib.hid hs
  clear hs
  go_wp2_with fail
  go_loopw [4, 19] (fun s4 s19 wr => ∃ (k : Nat) (va : Value) (lo : Option Addr) (cap : Nat) (ys : List Int), k ≤ cm ∧ s19 = .int .i64 k ∧ s4 = .slice lo ys.length cap ∧ AS w1.heap.size va (.slice lo ys.length cap) ys w1 wr) (fun _ s19 _ => cm - (intOf s19).toNat)
  case atStart => exact ⟨0, _, none, 0, [], by omega, rfl, rfl, HS.out⟩
  case round =>
    obtain ⟨k, va, lo, cap, ys, hk, rfl, rfl, hr⟩ := hrel
    by_cases hkc : k < cm
    · obtain ⟨ca, rfl, hcs⟩ := hca (by omega)
      have hc := hcs k hkc
      have hlc := lt_of_cell hc
      have hcw := (hr.bl.cell (p := ca.add k) (Nat.lt_of_lt_of_le hlc hb1.size)).trans ((hb1.cell (p := ca.add k) hlc).trans hc)
      clear hlc hc
      generalize cs k = c at hcw
      have HR := Lib.hid hr
      cases hev : (bits .and .u64 c 1 == 0)
      · have h4 := HR.out.len
        cases ys with
        | nil =>
          have hp := pop_none w1.heap.size va wr HR.out.al
          have HP := Lib.hid hp
          clear hp hr
          go_wp2_with fail
          refine HP.out.mono ?_
          rintro e w2 ⟨rfl, rfl⟩
          have HAS := HR
          have hlen : ([] : List Int).length = 0 := rfl
          have HLEN := Lib.hid hlen
          clear hlen
          have hLI := list_any w1.heap.size _ _ _ HAS.out.len HAS.out.al
          try rw [HLEN.out] at hLI
          have HLI := Lib.hid hLI
          clear hLI
          go_wp2_with fail
          refine HLI.out.mono ?_
          rintro e w5 ⟨vg, rfl, hog, hbg⟩
          have has5 := HAS.out.below hbg
          have hLE := len_any w1.heap.size _ _ w5 has5.al
          try rw [HLEN.out] at hLE
          obtain ⟨go, cg, rfl, hgo⟩ := own_slice hog
          have HLE := Lib.hid hLE
          have HGR := Lib.hid (GotRel.mk (i := 0) hbg ⟨_, hog, fun j _ => rfl⟩)
          clear hLE hgo hog has5 hbg
          go_wp2_with fail
          refine HLE.out.mono ?_
          rintro e w6 ⟨rfl, rfl⟩
          go_wp2_with fail
          go_loopw [86] (fun s86 wr => ∃ (i : Nat) (W : World) (va : Value), i ≤ 0 ∧ s86 = .int .i64 i ∧ AS w1.heap.size va (.slice lo 0 cap) (([] : List Int)) w1 W ∧ GotRel (0) i go cg (([] : List Int)) W wr) (fun s86 _ => 0 - (intOf s86).toNat)
          case atStart => exact ⟨0, _, _, by omega, rfl, HAS.out, HGR.out⟩
          case round =>
            obtain ⟨i, W, va, hi', rfl, has, hgr⟩ := hrel
            by_cases hin : i < 0
            · omega
            · obtain rfl : i = 0 := by omega
              have has2 := has.below hgr.bl
              have HAS2 := Lib.hid has2
              clear has has2 hgr
              go_wp2_with fail
              go_roundw
              case rel => first | exact ⟨k + 1, _, lo, cap, ([] : List Int), by omega, by go_num, by simp, by have := HAS2.out; simpa using this⟩
              case measure => simp [intOf]; omega
        | cons y ys =>
          have hp := pop_any w1.heap.size va y ys wr (by simp at h4; omega) HR.out.al
          have HP := Lib.hid hp
          have hfm := HR.out.win.form
          clear hp hr
          obtain ⟨f1, f2, _⟩ := hfm
          cases lo with
          | none => have := (f1 rfl).1; simp at this
          | some la =>
            obtain ⟨g, off, rfl⟩ := f2 _ rfl
            clear f1 f2
            have hcap := HR.out.win.room
            have h5 : ys.length + 1 ≤ 4 := h4
            have hnI : (1 : Int) ≤ (ys.length : Int) + 1 := by omega
            have hz9 : ((ys.length : Int) + 1 == 0) = false := by rw [beq_eq_false_iff_ne]; omega
            by_cases c1 : cap = 1
            · subst c1
              have he : ys = [] := List.eq_nil_of_length_eq_zero (by have h9 : ys.length + 1 ≤ 1 := hcap; omega)
              subst he
              go_wp2_with fail
              refine HP.out.mono ?_
              rintro e w2 ⟨rfl, ht⟩
              obtain ⟨va', hal, hw, hne, hbl⟩ := HR.out.side ht
              have hcl : w2.cell? ⟨g, off, none⟩ = some (.int .u64 y) := by have := hw.cells 0 (.int .u64 y) (by simp [nums]); simpa using this
              have has : AS w1.heap.size va' (.slice (some ⟨g, off, none⟩) 0 0) [] w1 w2 := ⟨hal, by have := Win.tail hw; simpa using this, fun k hk => hne k hk, by simp, hbl⟩
              have HAS := Lib.hid has
              have hlen : ([] : List Int).length = 0 := rfl
              have HLEN := Lib.hid hlen
              clear has hlen hal hw hne hbl ht
              have hLI := list_any w1.heap.size _ _ _ HAS.out.len HAS.out.al
              try rw [HLEN.out] at hLI
              have HLI := Lib.hid hLI
              clear hLI
              go_wp2_with fail
              refine HLI.out.mono ?_
              rintro e w5 ⟨vg, rfl, hog, hbg⟩
              have has5 := HAS.out.below hbg
              have hLE := len_any w1.heap.size _ _ w5 has5.al
              try rw [HLEN.out] at hLE
              obtain ⟨go, cg, rfl, hgo⟩ := own_slice hog
              have HLE := Lib.hid hLE
              have HGR := Lib.hid (GotRel.mk (i := 0) hbg ⟨_, hog, fun j _ => rfl⟩)
              clear hLE hgo hog has5 hbg
              go_wp2_with fail
              refine HLE.out.mono ?_
              rintro e w6 ⟨rfl, rfl⟩
              go_wp2_with fail
              go_loopw [86] (fun s86 wr => ∃ (i : Nat) (W : World) (va : Value), i ≤ 0 ∧ s86 = .int .i64 i ∧ AS w1.heap.size va (.slice (some ⟨g, off, none⟩) 0 0) (([] : List Int)) w1 W ∧ GotRel (0) i go cg (([] : List Int)) W wr) (fun s86 _ => 0 - (intOf s86).toNat)
              case atStart => exact ⟨0, _, _, by omega, rfl, HAS.out, HGR.out⟩
              case round =>
                obtain ⟨i, W, va, hi', rfl, has, hgr⟩ := hrel
                by_cases hin : i < 0
                · omega
                · obtain rfl : i = 0 := by omega
                  have has2 := has.below hgr.bl
                  have HAS2 := Lib.hid has2
                  clear has has2 hgr
                  go_wp2_with fail
                  go_roundw
                  case rel => first | exact ⟨k + 1, _, (some ⟨g, off, none⟩), 0, ([] : List Int), by omega, by go_num, by simp, by have := HAS2.out; simpa using this⟩
                  case measure => simp [intOf]; omega
            · go_wp2_with fail
              refine HP.out.mono ?_
              rintro e w2 ⟨rfl, ht⟩
              obtain ⟨va', hal, hw, hne, hbl⟩ := HR.out.side ht
              have hcl : w2.cell? ⟨g, off, none⟩ = some (.int .u64 y) := by have := hw.cells 0 (.int .u64 y) (by simp [nums]); simpa using this
              have has : AS w1.heap.size va' (.slice (some ⟨g, off + 1, none⟩) ys.length (cap - 1)) ys w1 w2 := ⟨hal, by have := Win.tail hw; rw [if_neg c1] at this; exact this, fun k hk => hne k hk, by simp at h4; omega, hbl⟩
              have HAS := Lib.hid has
              have hlen : ys.length = ys.length := rfl
              have HLEN := Lib.hid hlen
              clear has hlen hal hw hne hbl ht
              have hLI := list_any w1.heap.size _ _ _ HAS.out.len HAS.out.al
              try rw [HLEN.out] at hLI
              have HLI := Lib.hid hLI
              clear hLI
              go_wp2_with fail
              refine HLI.out.mono ?_
              rintro e w5 ⟨vg, rfl, hog, hbg⟩
              have has5 := HAS.out.below hbg
              have hLE := len_any w1.heap.size _ _ w5 has5.al
              try rw [HLEN.out] at hLE
              obtain ⟨go, cg, rfl, hgo⟩ := own_slice hog
              have HLE := Lib.hid hLE
              have HGR := Lib.hid (GotRel.mk (i := 0) hbg ⟨_, hog, fun j _ => rfl⟩)
              clear hLE hgo hog has5 hbg
              go_wp2_with fail
              refine HLE.out.mono ?_
              rintro e w6 ⟨rfl, rfl⟩
              go_wp2_with fail
              go_loopw [86] (fun s86 wr => ∃ (i : Nat) (W : World) (va : Value), i ≤ ys.length ∧ s86 = .int .i64 i ∧ AS w1.heap.size va (.slice (some ⟨g, off + 1, none⟩) ys.length (cap - 1)) (ys) w1 W ∧ GotRel (ys.length) i go cg (ys) W wr) (fun s86 _ => ys.length - (intOf s86).toNat)
              case atStart => exact ⟨0, _, _, by omega, rfl, HAS.out, HGR.out⟩
              case round =>
                obtain ⟨i, W, va, hi', rfl, has, hgr⟩ := hrel
                by_cases hin : i < ys.length
                · obtain ⟨cs2, hrow, hcs2⟩ := hgr.row
                  obtain ⟨gg, cg2, e, hgg, hgg2, hgc, _⟩ := own_pos (by omega) hrow
                  cases e
                  obtain ⟨z, hz⟩ : ∃ z, (ys)[i]? = some z := ⟨_, List.getElem?_eq_getElem (by have := HLEN.out; omega)⟩
                  have hnz : (nums (ys))[i]? = some (.int .u64 z) := by unfold nums; rw [List.getElem?_map, hz]; rfl
                  have cg1 : wr.cell? ⟨gg, i, none⟩ = some (.int .u64 z) := by
                    have := hrow.cells (g := gg) rfl i _ ((hcs2 i (Nat.le_refl i)).trans hnz)
                    rw [add_at, Nat.zero_add] at this; exact this
                  have cl1 : wr.cell? ⟨g, off + 1 + i, none⟩ = some (.int .u64 z) := (hgr.bl.cell (p := ⟨g, off + 1 + i, none⟩) (has.win.lt g rfl).2).trans (by have := has.win.cells i _ hnz; first | exact this | simpa using this)
                  have cf1 := own_frozen hrow i
                  have hiI : (i : Int) < (ys.length : Int) := by omega
                  have hiJ : (0 : Int) ≤ (i : Int) := by omega
                  have hL4 : ys.length ≤ 4 := by have h9 := has.len; first | omega | (simp at h9; omega)
                  have hst := GotRel.step hgr hin (IntKind.u64.wrap (z + 1))
                  have HST := Lib.hid hst
                  have HAS6 := Lib.hid has
                  clear hst hgr has hrow hcs2 hz hnz
                  go_wp2_with fail
                  go_region_held3 (fun w' => w'.cell? ⟨gg, i, none⟩ = some (.int .u64 z) ∧ w'.cell? ⟨g, off + 1 + i, none⟩ = some (.int .u64 z)) (first | (refine ⟨?_, ?_⟩ <;> first | assumption | (simpa using cg1) | (simpa using cl1)) | go_keep) (fail)
                  go_wp2_with fail
                  go_roundw
                  case rel => first | exact ⟨i + 1, _, _, by omega, by go_num, HAS6.out, HST.out⟩ | exact ⟨i + 1, _, _, by omega, by go_num, HAS6.out, HST.out.drew⟩
                  case measure => simp [intOf]; omega
                · obtain rfl : i = ys.length := by omega
                  have has2 := has.below hgr.bl
                  have HAS2 := Lib.hid has2
                  clear has has2 hgr
                  go_wp2_with fail
                  go_roundw
                  case rel => first | exact ⟨k + 1, _, (some ⟨g, off + 1, none⟩), (cap - 1), ys, by omega, by go_num, by simp, by have := HAS2.out; simpa using this⟩
                  case measure => simp [intOf]; omega
      · by_cases h4 : ys.length < 4
        · have hI4 : (ys.length : Int) < 4 := by omega
          have hp := push_any w1.heap.size va ys c wr h4 hr.al
          have HP := Lib.hid hp
          clear hp hr
          go_wp2_with fail
          refine HP.out.mono ?_
          rintro e w2 ⟨rfl, ht⟩
          obtain ⟨va', hal, hw, hne, hbl⟩ := HR.out.side ht
          clear ht
          have hfm := HR.out.win.form
          have hwc := hw.cellsA (.cells #[.int .u64 c] 22)
          have HWC := Lib.hid hwc
          have HW := Lib.hid hw
          have HAL := Lib.hid hal
          have HNE := Lib.hid hne
          have HBL := Lib.hid hbl
          clear hw hal hne hbl hwc
          obtain ⟨f1, f2, _⟩ := hfm
          by_cases hroom : ys.length + 1 ≤ cap
          · cases lo with
            | none => have := (f1 rfl).2; omega
            | some la =>
              obtain ⟨g, off, rfl⟩ := f2 _ rfl
              clear f1 f2
              go_wp2_with (first
                | (at_builtin; refine wpList_append_arg _ rfl (.tmp 44) (.tmp 46) 31 rfl 22 i0 (.int .u64 0) 1 8 Try.underlying31 hi hz0 hz1 hz2 rfl (by decide) g off ys.length cap (nums ys) rfl (by rw [nums_length]; omega) (fun j u hu => by have := HWC.out _ rfl j u hu; rw [add_at] at this; exact this) ⟨w2.heap.size, 0, none⟩ 1 1 [.int .u64 c] rfl rfl (cell_one_new w2 _ _) (by simp [Value.oneCell']) (fun _ => HW.out.spareA hroom _) (by unfold maxLen; omega) (by omega) ?_ (fun hg => absurd hg (by omega)); intro _; rw [Nat.mul_one, set_one])
                | fail)
              have has := AS.room (o := .cells #[.int .u64 c] 22) HAL.out HW.out HNE.out HBL.out hroom h4
              have HAS := Lib.hid has
              have hlen : (ys ++ [c]).length = ys.length + 1 := by simp
              have HLEN := Lib.hid hlen
              clear has hlen
              have hLI := list_any w1.heap.size _ _ _ HAS.out.len HAS.out.al
              try rw [HLEN.out] at hLI
              have HLI := Lib.hid hLI
              clear hLI
              go_wp2_with fail
              refine HLI.out.mono ?_
              rintro e w5 ⟨vg, rfl, hog, hbg⟩
              have has5 := HAS.out.below hbg
              have hLE := len_any w1.heap.size _ _ w5 has5.al
              try rw [HLEN.out] at hLE
              obtain ⟨go, cg, rfl, hgo⟩ := own_slice hog
              have HLE := Lib.hid hLE
              have HGR := Lib.hid (GotRel.mk (i := 0) hbg ⟨_, hog, fun j _ => rfl⟩)
              clear hLE hgo hog has5 hbg
              go_wp2_with fail
              refine HLE.out.mono ?_
              rintro e w6 ⟨rfl, rfl⟩
              go_wp2_with fail
              go_loopw [86] (fun s86 wr => ∃ (i : Nat) (W : World) (va : Value), i ≤ (ys.length + 1) ∧ s86 = .int .i64 i ∧ AS w1.heap.size va (.slice (some ⟨g, off, none⟩) (ys.length + 1) cap) (ys ++ [c]) w1 W ∧ GotRel ((ys.length + 1)) i go cg (ys ++ [c]) W wr) (fun s86 _ => (ys.length + 1) - (intOf s86).toNat)
              case atStart => exact ⟨0, _, _, by omega, rfl, HAS.out, HGR.out⟩
              case round =>
                obtain ⟨i, W, va, hi', rfl, has, hgr⟩ := hrel
                by_cases hin : i < (ys.length + 1)
                · obtain ⟨cs2, hrow, hcs2⟩ := hgr.row
                  obtain ⟨gg, cg2, e, hgg, hgg2, hgc, _⟩ := own_pos (by omega) hrow
                  cases e
                  obtain ⟨z, hz⟩ : ∃ z, (ys ++ [c])[i]? = some z := ⟨_, List.getElem?_eq_getElem (by have := HLEN.out; omega)⟩
                  have hnz : (nums (ys ++ [c]))[i]? = some (.int .u64 z) := by unfold nums; rw [List.getElem?_map, hz]; rfl
                  have cg1 : wr.cell? ⟨gg, i, none⟩ = some (.int .u64 z) := by
                    have := hrow.cells (g := gg) rfl i _ ((hcs2 i (Nat.le_refl i)).trans hnz)
                    rw [add_at, Nat.zero_add] at this; exact this
                  have cl1 : wr.cell? ⟨g, off + i, none⟩ = some (.int .u64 z) := (hgr.bl.cell (p := ⟨g, off + i, none⟩) (has.win.lt g rfl).2).trans (by have := has.win.cells i _ hnz; first | exact this | simpa using this)
                  have cf1 := own_frozen hrow i
                  have hiI : (i : Int) < (ys.length : Int) + 1 := by omega
                  have hiJ : (0 : Int) ≤ (i : Int) := by omega
                  have hL4 : (ys.length + 1) ≤ 4 := by have h9 := has.len; first | omega | (simp at h9; omega)
                  have hst := GotRel.step hgr hin (IntKind.u64.wrap (z + 1))
                  have HST := Lib.hid hst
                  have HAS6 := Lib.hid has
                  clear hst hgr has hrow hcs2 hz hnz
                  go_wp2_with fail
                  go_region_held3 (fun w' => w'.cell? ⟨gg, i, none⟩ = some (.int .u64 z) ∧ w'.cell? ⟨g, off + i, none⟩ = some (.int .u64 z)) (first | (refine ⟨?_, ?_⟩ <;> first | assumption | (simpa using cg1) | (simpa using cl1)) | go_keep) (fail)
                  go_wp2_with fail
                  go_roundw
                  case rel => first | exact ⟨i + 1, _, _, by omega, by go_num, HAS6.out, HST.out⟩ | exact ⟨i + 1, _, _, by omega, by go_num, HAS6.out, HST.out.drew⟩
                  case measure => simp [intOf]; omega
                · obtain rfl : i = (ys.length + 1) := by omega
                  have has2 := has.below hgr.bl
                  have HAS2 := Lib.hid has2
                  clear has has2 hgr
                  go_wp2_with fail
                  go_roundw
                  case rel => first | exact ⟨k + 1, _, (some ⟨g, off, none⟩), cap, ys ++ [c], by omega, by go_num, by simp, by have := HAS2.out; simpa using this⟩
                  case measure => simp [intOf]; omega
          · have F1 := Lib.hid f1
            clear f1 f2
            go_wp2_with (first
              | (at_builtin; refine wpList_append_grows _ rfl (.tmp 44) (.tmp 46) 31 rfl 22 i0 (.int .u64 0) 1 8 Try.underlying31 hi hz0 hz1 hz2 rfl (by decide) lo ys.length cap (nums ys) rfl F1.out (by rw [nums_length]; omega) HWC.out ⟨w2.heap.size, 0, none⟩ 1 1 [.int .u64 c] rfl rfl (cell_one_new w2 _ _) (by simp [Value.oneCell']) (by omega) (by unfold maxLen; omega) (by omega) ?_; intro v' w3 hown' hgrow; obtain ⟨g, cap', rfl, hg1, _, _, _⟩ := own_form hown'; have HO := Lib.hid hown'; have HG := Lib.hid hgrow; clear hown' hgrow)
              | fail)
            have has := AS.grow (ys := ys ++ [c]) HAL.out HBL.out (by simp; omega) (by rw [nums_append]; exact HO.out) HG.out
            have HAS := Lib.hid has
            have hlen : (ys ++ [c]).length = ys.length + 1 := by simp
            have HLEN := Lib.hid hlen
            clear has hlen
            have hLI := list_any w1.heap.size _ _ _ HAS.out.len HAS.out.al
            try rw [HLEN.out] at hLI
            have HLI := Lib.hid hLI
            clear hLI
            go_wp2_with fail
            refine HLI.out.mono ?_
            rintro e w5 ⟨vg, rfl, hog, hbg⟩
            have has5 := HAS.out.below hbg
            have hLE := len_any w1.heap.size _ _ w5 has5.al
            try rw [HLEN.out] at hLE
            obtain ⟨go, cg, rfl, hgo⟩ := own_slice hog
            have HLE := Lib.hid hLE
            have HGR := Lib.hid (GotRel.mk (i := 0) hbg ⟨_, hog, fun j _ => rfl⟩)
            clear hLE hgo hog has5 hbg
            go_wp2_with fail
            refine HLE.out.mono ?_
            rintro e w6 ⟨rfl, rfl⟩
            go_wp2_with fail
            go_loopw [86] (fun s86 wr => ∃ (i : Nat) (W : World) (va : Value), i ≤ (ys.length + 1) ∧ s86 = .int .i64 i ∧ AS w1.heap.size va (.slice (some ⟨g, 0, none⟩) (ys.length + 1) cap') (ys ++ [c]) w1 W ∧ GotRel ((ys.length + 1)) i go cg (ys ++ [c]) W wr) (fun s86 _ => (ys.length + 1) - (intOf s86).toNat)
            case atStart => exact ⟨0, _, _, by omega, rfl, HAS.out, HGR.out⟩
            case round =>
              obtain ⟨i, W, va, hi', rfl, has, hgr⟩ := hrel
              by_cases hin : i < (ys.length + 1)
              · obtain ⟨cs2, hrow, hcs2⟩ := hgr.row
                obtain ⟨gg, cg2, e, hgg, hgg2, hgc, _⟩ := own_pos (by omega) hrow
                cases e
                obtain ⟨z, hz⟩ : ∃ z, (ys ++ [c])[i]? = some z := ⟨_, List.getElem?_eq_getElem (by have := HLEN.out; omega)⟩
                have hnz : (nums (ys ++ [c]))[i]? = some (.int .u64 z) := by unfold nums; rw [List.getElem?_map, hz]; rfl
                have cg1 : wr.cell? ⟨gg, i, none⟩ = some (.int .u64 z) := by
                  have := hrow.cells (g := gg) rfl i _ ((hcs2 i (Nat.le_refl i)).trans hnz)
                  rw [add_at, Nat.zero_add] at this; exact this
                have cl1 : wr.cell? ⟨g, i, none⟩ = some (.int .u64 z) := (hgr.bl.cell (p := ⟨g, i, none⟩) (has.win.lt g rfl).2).trans (by have := has.win.cells i _ hnz; first | exact this | simpa using this)
                have cf1 := own_frozen hrow i
                have hiI : (i : Int) < (ys.length : Int) + 1 := by omega
                have hiJ : (0 : Int) ≤ (i : Int) := by omega
                have hL4 : (ys.length + 1) ≤ 4 := by have h9 := has.len; first | omega | (simp at h9; omega)
                have hst := GotRel.step hgr hin (IntKind.u64.wrap (z + 1))
                have HST := Lib.hid hst
                have HAS6 := Lib.hid has
                clear hst hgr has hrow hcs2 hz hnz
                go_wp2_with fail
                go_region_held3 (fun w' => w'.cell? ⟨gg, i, none⟩ = some (.int .u64 z) ∧ w'.cell? ⟨g, i, none⟩ = some (.int .u64 z)) (first | (refine ⟨?_, ?_⟩ <;> first | assumption | (simpa using cg1) | (simpa using cl1)) | go_keep) (fail)
                go_wp2_with fail
                go_roundw
                case rel => first | exact ⟨i + 1, _, _, by omega, by go_num, HAS6.out, HST.out⟩ | exact ⟨i + 1, _, _, by omega, by go_num, HAS6.out, HST.out.drew⟩
                case measure => simp [intOf]; omega
              · obtain rfl : i = (ys.length + 1) := by omega
                have has2 := has.below hgr.bl
                have HAS2 := Lib.hid has2
                clear has has2 hgr
                go_wp2_with fail
                go_roundw
                case rel => first | exact ⟨k + 1, _, (some ⟨g, 0, none⟩), cap', ys ++ [c], by omega, by go_num, by simp, by have := HAS2.out; simpa using this⟩
                case measure => simp [intOf]; omega
        · have hI4 : ¬ (ys.length : Int) < 4 := by omega
          have h44 : ys.length = 4 := by have := HR.out.len; omega
          have hp := push_full w1.heap.size va ys c wr hr.al h44
          have HP := Lib.hid hp
          have hfm := hr.win.form
          have H44 := Lib.hid h44
          clear hp hr h44
          obtain ⟨f1, f2, _⟩ := hfm
          cases lo with
          | none => have := (f1 rfl).1; have := H44.out; omega
          | some la =>
            obtain ⟨g, off, rfl⟩ := f2 _ rfl
            clear f1 f2
            go_wp2_with fail
            refine HP.out.mono ?_
            rintro e w2 ⟨rfl, rfl⟩
            have HAS := HR
            have hlen : ys.length = ys.length := rfl
            have HLEN := Lib.hid hlen
            clear hlen
            have hLI := list_any w1.heap.size _ _ _ HAS.out.len HAS.out.al
            try rw [HLEN.out] at hLI
            have HLI := Lib.hid hLI
            clear hLI
            go_wp2_with fail
            refine HLI.out.mono ?_
            rintro e w5 ⟨vg, rfl, hog, hbg⟩
            have has5 := HAS.out.below hbg
            have hLE := len_any w1.heap.size _ _ w5 has5.al
            try rw [HLEN.out] at hLE
            obtain ⟨go, cg, rfl, hgo⟩ := own_slice hog
            have HLE := Lib.hid hLE
            have HGR := Lib.hid (GotRel.mk (i := 0) hbg ⟨_, hog, fun j _ => rfl⟩)
            clear hLE hgo hog has5 hbg
            go_wp2_with fail
            refine HLE.out.mono ?_
            rintro e w6 ⟨rfl, rfl⟩
            go_wp2_with fail
            go_loopw [86] (fun s86 wr => ∃ (i : Nat) (W : World) (va : Value), i ≤ ys.length ∧ s86 = .int .i64 i ∧ AS w1.heap.size va (.slice (some ⟨g, off, none⟩) ys.length cap) (ys) w1 W ∧ GotRel (ys.length) i go cg (ys) W wr) (fun s86 _ => ys.length - (intOf s86).toNat)
            case atStart => exact ⟨0, _, _, by omega, rfl, HAS.out, HGR.out⟩
            case round =>
              obtain ⟨i, W, va, hi', rfl, has, hgr⟩ := hrel
              by_cases hin : i < ys.length
              · obtain ⟨cs2, hrow, hcs2⟩ := hgr.row
                obtain ⟨gg, cg2, e, hgg, hgg2, hgc, _⟩ := own_pos (by omega) hrow
                cases e
                obtain ⟨z, hz⟩ : ∃ z, (ys)[i]? = some z := ⟨_, List.getElem?_eq_getElem (by have := HLEN.out; omega)⟩
                have hnz : (nums (ys))[i]? = some (.int .u64 z) := by unfold nums; rw [List.getElem?_map, hz]; rfl
                have cg1 : wr.cell? ⟨gg, i, none⟩ = some (.int .u64 z) := by
                  have := hrow.cells (g := gg) rfl i _ ((hcs2 i (Nat.le_refl i)).trans hnz)
                  rw [add_at, Nat.zero_add] at this; exact this
                have cl1 : wr.cell? ⟨g, off + i, none⟩ = some (.int .u64 z) := (hgr.bl.cell (p := ⟨g, off + i, none⟩) (has.win.lt g rfl).2).trans (by have := has.win.cells i _ hnz; first | exact this | simpa using this)
                have cf1 := own_frozen hrow i
                have hiI : (i : Int) < (ys.length : Int) := by omega
                have hiJ : (0 : Int) ≤ (i : Int) := by omega
                have hL4 : ys.length ≤ 4 := by have h9 := has.len; first | omega | (simp at h9; omega)
                have hst := GotRel.step hgr hin (IntKind.u64.wrap (z + 1))
                have HST := Lib.hid hst
                have HAS6 := Lib.hid has
                clear hst hgr has hrow hcs2 hz hnz
                go_wp2_with fail
                go_region_held3 (fun w' => w'.cell? ⟨gg, i, none⟩ = some (.int .u64 z) ∧ w'.cell? ⟨g, off + i, none⟩ = some (.int .u64 z)) (first | (refine ⟨?_, ?_⟩ <;> first | assumption | (simpa using cg1) | (simpa using cl1)) | go_keep) (fail)
                go_wp2_with fail
                go_roundw
                case rel => first | exact ⟨i + 1, _, _, by omega, by go_num, HAS6.out, HST.out⟩ | exact ⟨i + 1, _, _, by omega, by go_num, HAS6.out, HST.out.drew⟩
                case measure => simp [intOf]; omega
              · obtain rfl : i = ys.length := by omega
                have has2 := has.below hgr.bl
                have HAS2 := Lib.hid has2
                clear has has2 hgr
                go_wp2_with fail
                go_roundw
                case rel => first | exact ⟨k + 1, _, (some ⟨g, off, none⟩), cap, ys, by omega, by go_num, by simp, by have := HAS2.out; simpa using this⟩
                case measure => simp [intOf]; omega
    · have hbl := hr.bl
      have HB := Lib.hid hbl
      clear hr hbl
      go_wp2_with fail
      go_ret
      exact ⟨rfl, hb1.trans (HB.out.mono hb1.size)⟩

theorem lawAlerts_long (cao : Option Addr) (cm cc : Nat) (h : 300 < cm) (w : World) :
    Calls Try.prog 5 #[.slice cao cm cc] w fun e w' => e = .returned (.bool true) ∧ Below w.heap.size w w' := by
  have hcI : (300 : Int) < (cm : Int) := by omega
  go_enter Try.func5, Try.ntmps5
  go_wp2_with fail
  refine (fit_any _).mono ?_
  rintro e w1 ⟨rfl, hb1⟩
  go_wp2_with fail
  go_ret
  exact ⟨rfl, hb1⟩
end Go.Proofs.Ytngmhhjgfmbcbaa
