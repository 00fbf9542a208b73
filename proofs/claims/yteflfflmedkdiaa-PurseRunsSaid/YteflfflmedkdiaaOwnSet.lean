/- A slice of purses that the call has made: its cells, a store into one of them, one more purse. Conditions: as each names them. -/
import Derived.Test.YteflfflmedkdiaaOwnRow
import Derived.Test.YteflfflmedkdiaaPurseWalks
set_option linter.unusedVariables false
namespace Go.Proofs.Yteflfflmedkdiaa
open Go.ChangeShapes Go.WideShapes Go.ChangeAt Go.RowKit

/-- a store into a row of the call's own -/
theorem own_set {w : World} {base size n g cap k : Nat} {e : TypeId} {xs : List Value} (h : w.ownsRow base e size (.slice (some ⟨g, 0, none⟩) n cap) n xs) (hk : k < xs.length) (u : Value) :
    (w.setCell ⟨g, k, none⟩ u).ownsRow base e size (.slice (some ⟨g, 0, none⟩) n cap) n (xs.set k u) := by
  obtain ⟨hl, ⟨h1, _⟩ | ⟨g', cap', cur, h1, hb, hg, h2, h3, h4, h5⟩⟩ := h
  · cases h1
  · cases h1
    refine ⟨by rw [List.length_set]; exact hl, .inr ⟨g, cap, cur.setIfInBounds k u, rfl, hb, ?_, h2, h3, by rw [Array.size_setIfInBounds]; exact h4, ?_⟩⟩
    · simp only [World.setCell, Array.getElem?_modify]
      simp [hg]
    · rw [Array.toList_setIfInBounds, List.take_set, h5]

theorem own_frozen {w : World} {base size n g cap : Nat} {e : TypeId} {xs : List Value} (h : w.ownsRow base e size (.slice (some ⟨g, 0, none⟩) n cap) n xs) (k : Nat) : w.frozen? ⟨g, k, none⟩ = false := by
  obtain ⟨hl, ⟨h1, _⟩ | ⟨g', cap', cur, h1, hb, hg, h2, h3, h4, h5⟩⟩ := h
  · cases h1
  · cases h1
    simp [World.frozen?, hg]

theorem own_lt {w : World} {base size n g cap : Nat} {e : TypeId} {xs : List Value} (h : w.ownsRow base e size (.slice (some ⟨g, 0, none⟩) n cap) n xs) : base ≤ g ∧ g < w.heap.size := by
  obtain ⟨hl, ⟨h1, _⟩ | ⟨g', cap', cur, h1, hb, hg, h2, h3, h4, h5⟩⟩ := h
  · cases h1
  · cases h1
    exact ⟨hb, (Array.getElem?_eq_some_iff.1 hg).1⟩

theorem add_at (g o j : Nat) : ((⟨g, o, none⟩ : Addr).add j) = ⟨g, o + j, none⟩ := by
  unfold Addr.add
  split
  · rename_i e; subst e; rfl
  · rfl

structure Pu where
  l : Int
  u : Int
  g : Int

/-- the purses' cells -/
def flat : List Pu → List Value
  | [] => []
  | p :: ps => .int .i64 p.l :: .int .i64 p.u :: .int .i64 p.g :: flat ps
theorem flat_length : ∀ ps : List Pu, (flat ps).length = ps.length * 3
  | [] => rfl
  | p :: ps => by simp [flat, flat_length ps]; omega
theorem flat_append : ∀ ps qs : List Pu, flat (ps ++ qs) = flat ps ++ flat qs
  | [], qs => rfl
  | p :: ps, qs => by simp [flat, flat_append ps qs]
theorem flat_at : ∀ (ps : List Pu) (i : Nat) (p : Pu), ps[i]? = some p → (flat ps)[3 * i]? = some (.int .i64 p.l) ∧ (flat ps)[3 * i + 1]? = some (.int .i64 p.u) ∧ (flat ps)[3 * i + 2]? = some (.int .i64 p.g)
  | [], i, p, h => by simp at h
  | q :: ps, 0, p, h => by simp at h; subst h; simp [flat]
  | q :: ps, i + 1, p, h => by
    have := flat_at ps i p (by simpa using h)
    rw [show 3 * (i + 1) = 3 * i + 1 + 1 + 1 by omega, show 3 * i + 1 + 1 + 1 + 1 = (3 * i + 1) + 1 + 1 + 1 by omega, show 3 * i + 1 + 1 + 1 + 2 = (3 * i + 2) + 1 + 1 + 1 by omega]
    simp only [flat, List.getElem?_cons_succ]
    exact this
theorem flat_set_u : ∀ (ps : List Pu) (i : Nat) (p : Pu) (x : Int), ps[i]? = some p → (flat ps).set (3 * i + 1) (.int .i64 x) = flat (ps.set i ⟨p.l, x, p.g⟩)
  | [], i, p, x, h => by simp at h
  | q :: ps, 0, p, x, h => by simp at h; subst h; simp [flat]
  | q :: ps, i + 1, p, x, h => by
    have := flat_set_u ps i p x (by simpa using h)
    rw [show 3 * (i + 1) + 1 = (3 * i + 1) + 1 + 1 + 1 by omega]
    simp only [flat, List.set_cons_succ, this]
theorem flat_set_g : ∀ (ps : List Pu) (i : Nat) (p : Pu) (x : Int), ps[i]? = some p → (flat ps).set (3 * i + 2) (.int .i64 x) = flat (ps.set i ⟨p.l, p.u, x⟩)
  | [], i, p, x, h => by simp at h
  | q :: ps, 0, p, x, h => by simp at h; subst h; simp [flat]
  | q :: ps, i + 1, p, x, h => by
    have := flat_set_g ps i p x (by simpa using h)
    rw [show 3 * (i + 1) + 2 = (3 * i + 2) + 1 + 1 + 1 by omega]
    simp only [flat, List.set_cons_succ, this]

/-- the slice v holds the purses ps, in memory of the call's own -/
def Fam (base : Nat) (w : World) (g cap : Nat) (ps : List Pu) : Prop := w.ownsRow base 24 3 (.slice (some ⟨g, 0, none⟩) ps.length cap) ps.length (flat ps)

theorem Fam.at' {base g cap i : Nat} {w : World} {ps : List Pu} {p : Pu} (h : Fam base w g cap ps) (hi : ps[i]? = some p) : At w g (3 * i) p.l p.u p.g := by
  obtain ⟨a1, a2, a3⟩ := flat_at ps i p hi
  have c1 := World.ownsRow.cells h (g := g) rfl _ _ a1
  have c2 := World.ownsRow.cells h (g := g) rfl _ _ a2
  have c3 := World.ownsRow.cells h (g := g) rfl _ _ a3
  rw [add_at, Nat.zero_add] at c1 c2 c3
  exact ⟨(own_lt h).2, c1, c2, c3, own_frozen h _, own_frozen h _, own_frozen h _⟩

theorem Fam.set_u {base g cap i : Nat} {w : World} {ps : List Pu} {p : Pu} (h : Fam base w g cap ps) (hi : ps[i]? = some p) (x : Int) : Fam base (w.setCell ⟨g, 3 * i + 1, none⟩ (.int .i64 x)) g cap (ps.set i ⟨p.l, x, p.g⟩) := by
  have hlt := (List.getElem?_eq_some_iff.1 hi).1
  have := own_set h (k := 3 * i + 1) (by rw [flat_length]; omega) (.int .i64 x)
  rw [flat_set_u ps i p x hi] at this
  unfold Fam
  rw [List.length_set]
  exact this
theorem Fam.set_g {base g cap i : Nat} {w : World} {ps : List Pu} {p : Pu} (h : Fam base w g cap ps) (hi : ps[i]? = some p) (x : Int) : Fam base (w.setCell ⟨g, 3 * i + 2, none⟩ (.int .i64 x)) g cap (ps.set i ⟨p.l, p.u, x⟩) := by
  have hlt := (List.getElem?_eq_some_iff.1 hi).1
  have := own_set h (k := 3 * i + 2) (by rw [flat_length]; omega) (.int .i64 x)
  rw [flat_set_g ps i p x hi] at this
  unfold Fam
  rw [List.length_set]
  exact this
theorem Fam.alloc {base g cap : Nat} {w : World} {ps : List Pu} (h : Fam base w g cap ps) (o : Obj) : Fam base (w.alloc o) g cap ps := World.ownsRow.alloc h o
theorem Fam.drew {base g cap : Nat} {w : World} {ps : List Pu} (h : Fam base w g cap ps) : Fam base w.drew g cap ps := h

/-- what the purses have together -/
def total : List Pu → Int
  | [] => 0
  | p :: ps => p.u + (p.l - p.u - p.g) + total ps
theorem total_append : ∀ ps qs : List Pu, total (ps ++ qs) = total ps + total qs
  | [], qs => by simp [total]
  | p :: ps, qs => by simp [total, total_append ps qs]; omega
theorem total_set : ∀ (ps : List Pu) (i : Nat) (p q : Pu), ps[i]? = some p → total (ps.set i q) = total ps - (p.l - p.g) + (q.l - q.g)
  | [], i, p, q, h => by simp at h
  | r :: ps, 0, p, q, h => by simp at h; subst h; simp [total]; omega
  | r :: ps, i + 1, p, q, h => by
    have := total_set ps i p q (by simpa using h)
    simp [total, this]; omega
def AllJust (ps : List Pu) : Prop := ∀ p ∈ ps, Just p.l p.u p.g
theorem AllJust.set {ps : List Pu} {i : Nat} {q : Pu} (h : AllJust ps) (hq : Just q.l q.u q.g) : AllJust (ps.set i q) := by
  intro p hp
  rcases List.mem_or_eq_of_mem_set hp with h1 | h1
  · exact h p h1
  · rw [h1]; exact hq
theorem AllJust.append {ps : List Pu} {q : Pu} (h : AllJust ps) (hq : Just q.l q.u q.g) : AllJust (ps ++ [q]) := by
  intro p hp
  rcases List.mem_append.1 hp with h1 | h1
  · exact h p h1
  · rw [List.mem_singleton.1 h1]; exact hq
theorem AllJust.at' {ps : List Pu} {i : Nat} {p : Pu} (h : AllJust ps) (hi : ps[i]? = some p) : Just p.l p.u p.g := h p (List.mem_of_getElem? hi)
end Go.Proofs.Yteflfflmedkdiaa
