/- A slice of ranges that the call has made: its cells, a store into one of them, one more range. Conditions: as each names them. -/
import Derived.Test.YthkcpdhlpalaiaaOwnRow
import Derived.Test.YthkcpdhlpalaiaaNamesWalks
import Derived.Deep.LoopGhost
import Derived.Maps.OwnOps
import Derived.Maps.OwnSet
import Derived.Deep.AppendLies
set_option linter.unusedVariables false
namespace Go.Proofs.Ythkcpdhlpalaiaa
open Go.ChangeShapes Go.WideShapes Go.ChangeAt Go.RowKit

/-- a store into a row of the call's own -/
theorem own_set {w : World} {base size n g cap k : Nat} {e : TypeId} {xs : List Value} (h : w.ownsRow base e size (.slice (some ⟨g, 0, none⟩) n cap) n xs) (hk : k < xs.length) (u : Value) :
    (w.setCell ⟨g, k, none⟩ u).ownsRow base e size (.slice (some ⟨g, 0, none⟩) n cap) n (xs.set k u) := by
  obtain ⟨hl, ⟨h1, _⟩ | ⟨g', cap', cur, h1, hb, hg, h2, h3, h4, h5⟩⟩ := h
  · cases h1
  · cases h1
    refine ⟨by rw [List.length_set]; exact hl, .inr ⟨g, cap, cur.setIfInBounds k u, rfl, hb, ?_, h2, h3, by rw [Array.size_setIfInBounds]; exact h4, ?_⟩⟩
    · simp only [World.setCell, Array.getElem?_modify]
      simp [hg]
    · rw [Array.toList_setIfInBounds, List.take_set, h5]

theorem own_frozen {w : World} {base size n g cap : Nat} {e : TypeId} {xs : List Value} (h : w.ownsRow base e size (.slice (some ⟨g, 0, none⟩) n cap) n xs) (k : Nat) : w.frozen? ⟨g, k, none⟩ = false := by
  obtain ⟨hl, ⟨h1, _⟩ | ⟨g', cap', cur, h1, hb, hg, h2, h3, h4, h5⟩⟩ := h
  · cases h1
  · cases h1
    simp [World.frozen?, hg]

theorem own_lt {w : World} {base size n g cap : Nat} {e : TypeId} {xs : List Value} (h : w.ownsRow base e size (.slice (some ⟨g, 0, none⟩) n cap) n xs) : base ≤ g ∧ g < w.heap.size := by
  obtain ⟨hl, ⟨h1, _⟩ | ⟨g', cap', cur, h1, hb, hg, h2, h3, h4, h5⟩⟩ := h
  · cases h1
  · cases h1
    exact ⟨hb, (Array.getElem?_eq_some_iff.1 hg).1⟩

theorem add_at (g o j : Nat) : ((⟨g, o, none⟩ : Addr).add j) = ⟨g, o + j, none⟩ := by
  unfold Addr.add
  split
  · rename_i e; subst e; rfl
  · rfl

theorem lt_of_cell {w : World} {p : Addr} {v : Value} (h : w.cell? p = some v) : p.block < w.heap.size := by
  rcases Nat.lt_or_ge p.block w.heap.size with c | c
  · exact c
  · exfalso
    simp [World.cell?, Array.getElem?_eq_none c] at h
/-- a range at a place -/
structure At (w : World) (b o : Nat) (l u g : Int) : Prop where
  hb : b < w.heap.size
  hl : w.cell? ⟨b, o, none⟩ = some (.int .u64 l)
  hu : w.cell? ⟨b, o + 1, none⟩ = some (.int .u64 u)
  hg : w.cell? ⟨b, o + 2, none⟩ = some (.int .u64 g)
  fl : w.frozen? ⟨b, o, none⟩ = false
  fu : w.frozen? ⟨b, o + 1, none⟩ = false
  fg : w.frozen? ⟨b, o + 2, none⟩ = false
/-- l: the first name, u: the next one, g: the end -/
structure Pu where
  l : Int
  u : Int
  g : Int

/-- the purses' cells -/
def flat : List Pu → List Value
  | [] => []
  | p :: ps => .int .u64 p.l :: .int .u64 p.u :: .int .u64 p.g :: flat ps
theorem flat_length : ∀ ps : List Pu, (flat ps).length = ps.length * 3
  | [] => rfl
  | p :: ps => by simp [flat, flat_length ps]; omega
theorem flat_append : ∀ ps qs : List Pu, flat (ps ++ qs) = flat ps ++ flat qs
  | [], qs => rfl
  | p :: ps, qs => by simp [flat, flat_append ps qs]
theorem flat_at : ∀ (ps : List Pu) (i : Nat) (p : Pu), ps[i]? = some p → (flat ps)[3 * i]? = some (.int .u64 p.l) ∧ (flat ps)[3 * i + 1]? = some (.int .u64 p.u) ∧ (flat ps)[3 * i + 2]? = some (.int .u64 p.g)
  | [], i, p, h => by simp at h
  | q :: ps, 0, p, h => by simp at h; subst h; simp [flat]
  | q :: ps, i + 1, p, h => by
    have := flat_at ps i p (by simpa using h)
    rw [show 3 * (i + 1) = 3 * i + 1 + 1 + 1 by omega, show 3 * i + 1 + 1 + 1 + 1 = (3 * i + 1) + 1 + 1 + 1 by omega, show 3 * i + 1 + 1 + 1 + 2 = (3 * i + 2) + 1 + 1 + 1 by omega]
    simp only [flat, List.getElem?_cons_succ]
    exact this
theorem flat_set_u : ∀ (ps : List Pu) (i : Nat) (p : Pu) (x : Int), ps[i]? = some p → (flat ps).set (3 * i + 1) (.int .u64 x) = flat (ps.set i ⟨p.l, x, p.g⟩)
  | [], i, p, x, h => by simp at h
  | q :: ps, 0, p, x, h => by simp at h; subst h; simp [flat]
  | q :: ps, i + 1, p, x, h => by
    have := flat_set_u ps i p x (by simpa using h)
    rw [show 3 * (i + 1) + 1 = (3 * i + 1) + 1 + 1 + 1 by omega]
    simp only [flat, List.set_cons_succ, this]
theorem flat_set_g : ∀ (ps : List Pu) (i : Nat) (p : Pu) (x : Int), ps[i]? = some p → (flat ps).set (3 * i + 2) (.int .u64 x) = flat (ps.set i ⟨p.l, p.u, x⟩)
  | [], i, p, x, h => by simp at h
  | q :: ps, 0, p, x, h => by simp at h; subst h; simp [flat]
  | q :: ps, i + 1, p, x, h => by
    have := flat_set_g ps i p x (by simpa using h)
    rw [show 3 * (i + 1) + 2 = (3 * i + 2) + 1 + 1 + 1 by omega]
    simp only [flat, List.set_cons_succ, this]

/-- the slice v holds the purses ps, in memory of the call's own -/
def Fam (base : Nat) (w : World) (g cap : Nat) (ps : List Pu) : Prop := w.ownsRow base 25 3 (.slice (some ⟨g, 0, none⟩) ps.length cap) ps.length (flat ps)

theorem Fam.at' {base g cap i : Nat} {w : World} {ps : List Pu} {p : Pu} (h : Fam base w g cap ps) (hi : ps[i]? = some p) : At w g (3 * i) p.l p.u p.g := by
  obtain ⟨a1, a2, a3⟩ := flat_at ps i p hi
  have c1 := World.ownsRow.cells h (g := g) rfl _ _ a1
  have c2 := World.ownsRow.cells h (g := g) rfl _ _ a2
  have c3 := World.ownsRow.cells h (g := g) rfl _ _ a3
  rw [add_at, Nat.zero_add] at c1 c2 c3
  exact ⟨(own_lt h).2, c1, c2, c3, own_frozen h _, own_frozen h _, own_frozen h _⟩

theorem Fam.set_u {base g cap i : Nat} {w : World} {ps : List Pu} {p : Pu} (h : Fam base w g cap ps) (hi : ps[i]? = some p) (x : Int) : Fam base (w.setCell ⟨g, 3 * i + 1, none⟩ (.int .u64 x)) g cap (ps.set i ⟨p.l, x, p.g⟩) := by
  have hlt := (List.getElem?_eq_some_iff.1 hi).1
  have := own_set h (k := 3 * i + 1) (by rw [flat_length]; omega) (.int .u64 x)
  rw [flat_set_u ps i p x hi] at this
  unfold Fam
  rw [List.length_set]
  exact this
theorem Fam.set_g {base g cap i : Nat} {w : World} {ps : List Pu} {p : Pu} (h : Fam base w g cap ps) (hi : ps[i]? = some p) (x : Int) : Fam base (w.setCell ⟨g, 3 * i + 2, none⟩ (.int .u64 x)) g cap (ps.set i ⟨p.l, p.u, x⟩) := by
  have hlt := (List.getElem?_eq_some_iff.1 hi).1
  have := own_set h (k := 3 * i + 2) (by rw [flat_length]; omega) (.int .u64 x)
  rw [flat_set_g ps i p x hi] at this
  unfold Fam
  rw [List.length_set]
  exact this
theorem Fam.alloc {base g cap : Nat} {w : World} {ps : List Pu} (h : Fam base w g cap ps) (o : Obj) : Fam base (w.alloc o) g cap ps := World.ownsRow.alloc h o
theorem Fam.drew {base g cap : Nat} {w : World} {ps : List Pu} (h : Fam base w g cap ps) : Fam base w.drew g cap ps := h

theorem three_new (w : World) (x y z : Value) (t : TypeId) : ∀ j u, [x, y, z][j]? = some u → (w.alloc (.cells #[x, y, z] t)).cell? ((⟨w.heap.size, 0, none⟩ : Addr).add j) = some u := by
  intro j u hj
  rw [add_at, Nat.zero_add]
  match j, hj with
  | 0, hj => simp at hj; subst hj; simp
  | 1, hj => simp at hj; subst hj; simp
  | 2, hj => simp at hj; subst hj; simp

/-- how many of them hold the name x -/
def cnt (x : Int) : List Pu → Nat
  | [] => 0
  | p :: ps => (if p.l ≤ x ∧ x < p.g then 1 else 0) + cnt x ps
def tot : List Pu → Int
  | [] => 0
  | p :: ps => (p.g - p.l) + tot ps
def tk : List Pu → Int
  | [] => 0
  | p :: ps => (p.u - p.l) + tk ps
theorem cnt_append (x : Int) : ∀ ps qs : List Pu, cnt x (ps ++ qs) = cnt x ps + cnt x qs
  | [], qs => by simp [cnt]
  | p :: ps, qs => by simp [cnt, cnt_append x ps qs]; omega
theorem tot_append : ∀ ps qs : List Pu, tot (ps ++ qs) = tot ps + tot qs
  | [], qs => by simp [tot]
  | p :: ps, qs => by simp [tot, tot_append ps qs]; omega
theorem cnt_set (x : Int) : ∀ (ps : List Pu) (i : Nat) (p q : Pu), ps[i]? = some p → cnt x (ps.set i q) + (if p.l ≤ x ∧ x < p.g then 1 else 0) = cnt x ps + (if q.l ≤ x ∧ x < q.g then 1 else 0)
  | [], i, p, q, h => by simp at h
  | r :: ps, 0, p, q, h => by simp at h; subst h; simp only [List.set_cons_zero, cnt]; omega
  | r :: ps, i + 1, p, q, h => by
    have := cnt_set x ps i p q (by simpa using h)
    simp only [List.set_cons_succ, cnt]
    omega
theorem tot_set : ∀ (ps : List Pu) (i : Nat) (p q : Pu), ps[i]? = some p → tot (ps.set i q) = tot ps - (p.g - p.l) + (q.g - q.l)
  | [], i, p, q, h => by simp at h
  | r :: ps, 0, p, q, h => by simp at h; subst h; simp only [List.set_cons_zero, tot]; omega
  | r :: ps, i + 1, p, q, h => by
    have := tot_set ps i p q (by simpa using h)
    simp only [List.set_cons_succ, tot]
    omega
theorem tk_set : ∀ (ps : List Pu) (i : Nat) (p q : Pu), ps[i]? = some p → tk (ps.set i q) = tk ps - (p.u - p.l) + (q.u - q.l)
  | [], i, p, q, h => by simp at h
  | r :: ps, 0, p, q, h => by simp at h; subst h; simp only [List.set_cons_zero, tk]; omega
  | r :: ps, i + 1, p, q, h => by
    have := tk_set ps i p q (by simpa using h)
    simp only [List.set_cons_succ, tk]
    omega
theorem cnt_one (x : Int) : ∀ (ps : List Pu) (i : Nat) (p : Pu), ps[i]? = some p → p.l ≤ x → x < p.g → 1 ≤ cnt x ps
  | [], i, p, h, _, _ => by simp at h
  | r :: ps, 0, p, h, h1, h2 => by simp at h; subst h; simp only [cnt]; rw [if_pos ⟨h1, h2⟩]; omega
  | r :: ps, i + 1, p, h, h1, h2 => by
    have := cnt_one x ps i p (by simpa using h) h1 h2
    simp only [cnt]
    omega
theorem cnt_two (x : Int) : ∀ (ps : List Pu) (i j : Nat) (p q : Pu), i ≠ j → ps[i]? = some p → ps[j]? = some q → p.l ≤ x → x < p.g → q.l ≤ x → x < q.g → 2 ≤ cnt x ps
  | [], i, j, p, q, _, h, _, _, _, _, _ => by simp at h
  | r :: ps, 0, 0, p, q, hne, _, _, _, _, _, _ => absurd rfl hne
  | r :: ps, 0, j + 1, p, q, _, h, h', a1, a2, b1, b2 => by
    simp at h
    subst h
    have := cnt_one x ps j q (by simpa using h') b1 b2
    simp only [cnt]
    rw [if_pos ⟨a1, a2⟩]
    omega
  | r :: ps, i + 1, 0, p, q, _, h, h', a1, a2, b1, b2 => by
    simp at h'
    subst h'
    have := cnt_one x ps i p (by simpa using h) a1 a2
    simp only [cnt]
    rw [if_pos ⟨b1, b2⟩]
    omega
  | r :: ps, i + 1, j + 1, p, q, hne, h, h', a1, a2, b1, b2 => by
    have := cnt_two x ps i j p q (by omega) (by simpa using h) (by simpa using h') a1 a2 b1 b2
    simp only [cnt]
    omega
theorem cnt_ex (x : Int) : ∀ ps : List Pu, 1 ≤ cnt x ps → ∃ (i : Nat) (p : Pu), ps[i]? = some p ∧ p.l ≤ x ∧ x < p.g
  | [], h => by simp [cnt] at h
  | r :: ps, h => by
    by_cases c : r.l ≤ x ∧ x < r.g
    · exact ⟨0, r, rfl, c.1, c.2⟩
    · simp only [cnt] at h
      rw [if_neg c, Nat.zero_add] at h
      obtain ⟨i, p, h1, h2⟩ := cnt_ex x ps h
      exact ⟨i + 1, p, by simpa using h1, h2⟩
theorem tk_full : ∀ ps : List Pu, (∀ (i : Nat) p, ps[i]? = some p → p.u = p.g) → tk ps = tot ps
  | [], _ => rfl
  | r :: ps, h => by
    have h0 := h 0 r rfl
    have := tk_full ps (fun i p hp => h (i + 1) p (by simpa using hp))
    simp only [tk, tot]
    omega
theorem tk_none : ∀ ps : List Pu, (∀ (i : Nat) p, ps[i]? = some p → p.u = p.l) → tk ps = 0
  | [], _ => rfl
  | r :: ps, h => by
    have h0 := h 0 r rfl
    have := tk_none ps (fun i p hp => h (i + 1) p (by simpa using hp))
    simp only [tk]
    omega

/-- ranges that part the names from 5 on, n of them -/
structure Parts (n : Int) (ps : List Pu) : Prop where
  pos : 0 < ps.length
  in' : ∀ (i : Nat) p, ps[i]? = some p → 5 ≤ p.l ∧ p.l ≤ p.u ∧ p.u ≤ p.g ∧ p.g ≤ 5 + n
  once : ∀ x : Int, cnt x ps = if 5 ≤ x ∧ x < 5 + n then 1 else 0
  tot : tot ps = n
theorem Parts.start (n : Int) (h : 0 ≤ n) : Parts n [⟨5, 5, 5 + n⟩] := by
  refine ⟨by simp, fun i p hp => ?_, fun x => by simp [cnt], by simp [Go.Proofs.Ythkcpdhlpalaiaa.tot]; omega⟩
  match i, hp with
  | 0, hp => simp at hp; subst hp; exact ⟨Int.le_refl _, Int.le_refl _, by show (5 : Int) ≤ 5 + n; omega, Int.le_refl _⟩
theorem at_set_append {ps : List Pu} {i j : Nat} {p q r s : Pu} (hp : ps[i]? = some p) (h : (ps.set i q ++ [r])[j]? = some s) : (j = i ∧ s = q) ∨ (j ≠ i ∧ ps[j]? = some s) ∨ (j = ps.length ∧ s = r) := by
  have hlt := (List.getElem?_eq_some_iff.1 hp).1
  by_cases hj : j < ps.length
  · rw [List.getElem?_append_left (by simpa using hj)] at h
    by_cases e : j = i
    · subst e
      rw [List.getElem?_set_self hlt] at h
      exact .inl ⟨rfl, by simpa using h.symm⟩
    · rw [List.getElem?_set_ne (fun e' => e e'.symm)] at h
      exact .inr (.inl ⟨e, h⟩)
  · rw [List.getElem?_append_right (by simpa using hj)] at h
    have e : j = ps.length := by
      rcases Nat.lt_or_ge ps.length j with c | c
      · rw [List.getElem?_eq_none (by simp; omega)] at h; cases h
      · omega
    subst e
    simp at h
    exact .inr (.inr ⟨rfl, h.symm⟩)
theorem Parts.split {n V : Int} {ps : List Pu} {i : Nat} {p : Pu} (h : Parts n ps) (hp : ps[i]? = some p) (h0 : 0 ≤ V) (h1 : V ≤ p.g - p.u) : Parts n (ps.set i ⟨p.l, p.u, p.g - V⟩ ++ [⟨p.g - V, p.g - V, p.g⟩]) := by
  obtain ⟨a1, a2, a3, a4⟩ := h.in' i p hp
  refine ⟨by simp, fun j s hs => ?_, fun x => ?_, ?_⟩
  · rcases at_set_append hp hs with ⟨_, rfl⟩ | ⟨_, h2⟩ | ⟨_, rfl⟩
    · exact ⟨a1, a2, by show p.u ≤ p.g - V; omega, by show p.g - V ≤ _; omega⟩
    · exact h.in' j s h2
    · exact ⟨by show 5 ≤ p.g - V; omega, Int.le_refl _, by show p.g - V ≤ p.g; omega, a4⟩
  · rw [← h.once x, cnt_append]
    have := cnt_set x ps i p ⟨p.l, p.u, p.g - V⟩ hp
    simp only [cnt] at this ⊢
    repeat' (split at this)
    all_goals (repeat' split)
    all_goals omega
  · rw [tot_append, tot_set ps i p _ hp, h.tot]
    simp only [Go.Proofs.Ythkcpdhlpalaiaa.tot]
    omega
theorem Parts.take {n : Int} {ps : List Pu} {i : Nat} {p : Pu} (h : Parts n ps) (hp : ps[i]? = some p) (h1 : p.u < p.g) : Parts n (ps.set i ⟨p.l, p.u + 1, p.g⟩) := by
  obtain ⟨a1, a2, a3, a4⟩ := h.in' i p hp
  have hlt := (List.getElem?_eq_some_iff.1 hp).1
  refine ⟨by simpa using h.pos, fun j s hs => ?_, fun x => ?_, ?_⟩
  · by_cases e : j = i
    · subst e
      rw [List.getElem?_set_self hlt] at hs
      cases hs
      exact ⟨a1, by show p.l ≤ p.u + 1; omega, by show p.u + 1 ≤ p.g; omega, a4⟩
    · rw [List.getElem?_set_ne (fun e' => e e'.symm)] at hs
      exact h.in' j s hs
  · rw [← h.once x]
    have := cnt_set x ps i p ⟨p.l, p.u + 1, p.g⟩ hp
    dsimp only at this
    omega
  · rw [tot_set ps i p _ hp, h.tot]
    dsimp only
    omega
end Go.Proofs.Ythkcpdhlpalaiaa
