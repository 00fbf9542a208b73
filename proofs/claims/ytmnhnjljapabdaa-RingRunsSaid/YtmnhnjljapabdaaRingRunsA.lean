/- Words for the law RingRuns: a slice of strings that begins within its block; what the calls of a ring leave alone. Conditions: as each theorem names them. -/
import Derived.Test.YtmnhnjljapabdaaRingMemB
import Derived.ArgAppend
import Derived.Laws.Rows
import Derived.Maps.RangeWalk
set_option linter.unusedVariables false
namespace Go.Proofs.Ytmnhnjljapabdaa
open Go.ChangeShapes Go.WideShapes Go.ChangeAt Go.RowKit Go.Shelf
open Go.Lib (Bytes)

theorem own_ne {w : World} {b1 b2 e1 e2 s1 s2 n1 n2 : Nat} {v1 v2 : Value} {x1 x2 : List Value} (h1 : w.ownsRow b1 e1 s1 v1 n1 x1) (h2 : w.ownsRow b2 e2 s2 v2 n2 x2) (he : e1 ≠ e2) : v1.ownBlock = none ∨ v1.ownBlock ≠ v2.ownBlock := by
  obtain ⟨_, hc | ⟨g, cap, cur, rfl, _, hg, _⟩⟩ := h1
  · exact .inl (by rw [hc.1]; rfl)
  · right
    intro e
    obtain ⟨_, hc | ⟨g2, cap2, cur2, rfl, _, hg2, _⟩⟩ := h2
    · rw [hc.1] at e; cases e
    · have e2 : g = g2 := by injection e
      subst e2
      rw [hg] at hg2
      injection hg2 with hg2
      injection hg2 with _ h3 _
      exact he h3

/-- a slice of strings of the call's own, wherever in its block it begins -/
def Strs (w : World) (base : Nat) (v : Value) (ps : List ByteArray) : Prop :=
  (v = .slice none 0 0 ∧ ps = []) ∨
  ∃ g o cap cur, v = .slice (some ⟨g, o, none⟩) ps.length cap ∧ base ≤ g ∧ w.heap[g]? = some (.cells cur 9 (0, 0)) ∧ ps.length ≤ cap ∧ cap ≤ maxLen ∧ o + cap ≤ cur.size ∧ ∀ j (h : j < ps.length), cur[o + j]? = some (.string ps[j])
theorem Strs.len {w : World} {base : Nat} {v : Value} {ps : List ByteArray} (h : Strs w base v ps) : ∃ ao cap, v = .slice ao ps.length cap ∧ ps.length ≤ cap ∧ cap ≤ maxLen := by
  rcases h with ⟨rfl, rfl⟩ | ⟨g, o, cap, cur, rfl, _, _, h1, h2, _⟩
  · exact ⟨none, 0, rfl, Nat.le_refl _, Nat.zero_le _⟩
  · exact ⟨_, _, rfl, h1, h2⟩
theorem Strs.block {w : World} {base : Nat} {v : Value} {ps : List ByteArray} (h : Strs w base v ps) : ∀ q, v.ownBlock = some q → base ≤ q ∧ q < w.heap.size ∧ ∃ cur, w.heap[q]? = some (.cells cur 9 (0, 0)) := by
  intro q hq
  rcases h with ⟨rfl, _⟩ | ⟨g, o, cap, cur, rfl, h1, h2, _⟩
  · cases hq
  · cases hq
    exact ⟨h1, (Array.getElem?_eq_some_iff.1 h2).1, cur, h2⟩
theorem Strs.kept {w w' : World} {base : Nat} {v : Value} {ps : List ByteArray} {row : Option Nat} (h : Strs w base v ps) (hg : w.grownBy w' row) (hne : v.ownBlock = none ∨ v.ownBlock ≠ row) : Strs w' base v ps := by
  rcases h with h | ⟨g, o, cap, cur, rfl, h1, h2, r⟩
  · exact .inl h
  · refine .inr ⟨g, o, cap, cur, rfl, h1, (hg.block g (Array.getElem?_eq_some_iff.1 h2).1 ?_).trans h2, r⟩
    rcases hne with e | e
    · cases e
    · exact e
/-- another row, of elements that are no strings, lies in another block -/
theorem Strs.ne {w : World} {base b2 e2 s2 n2 : Nat} {v v2 : Value} {ps : List ByteArray} {x2 : List Value} (h : Strs w base v ps) (h2 : w.ownsRow b2 e2 s2 v2 n2 x2) (he : e2 ≠ 9) : v2.ownBlock = none ∨ v2.ownBlock ≠ v.ownBlock := by
  obtain ⟨_, hc | ⟨g, cap, cur, rfl, _, hg, _⟩⟩ := h2
  · exact .inl (by rw [hc.1]; rfl)
  · right
    intro e
    obtain ⟨_, _, cur2, hg2⟩ := h.block g e.symm
    rw [hg] at hg2
    injection hg2 with hg2
    injection hg2 with _ h3 _
    exact he h3
theorem Strs.ne' {w : World} {base b2 e2 s2 n2 : Nat} {v v2 : Value} {ps : List ByteArray} {x2 : List Value} (h : Strs w base v ps) (h2 : w.ownsRow b2 e2 s2 v2 n2 x2) (he : e2 ≠ 9) : v.ownBlock = none ∨ v.ownBlock ≠ v2.ownBlock := by
  cases hv : v.ownBlock with
  | none => exact .inl rfl
  | some q =>
    right
    intro e
    rcases h.ne h2 he with h3 | h3
    · rw [h3] at e; cases e
    · rw [hv] at h3; exact h3 e.symm
theorem Strs.cell {w : World} {base : Nat} {v : Value} {ps : List ByteArray} (h : Strs w base v ps) (j : Nat) (hj : j < ps.length) : ∃ g o cap, v = .slice (some ⟨g, o, none⟩) ps.length cap ∧ w.cell? ⟨g, o + j, none⟩ = some (.string ps[j]) := by
  rcases h with ⟨_, rfl⟩ | ⟨g, o, cap, cur, rfl, _, h2, _, _, _, h5⟩
  · exact absurd hj (Nat.not_lt_zero _)
  · refine ⟨g, o, cap, rfl, ?_⟩
    simp [World.cell?, h2, h5 j hj]
/-- the slice without its first string -/
def tailOf : Value → Value
  | .slice (some ⟨g, o, s⟩) n cap => .slice (some (if cap = 1 then ⟨g, o, s⟩ else ⟨g, o + 1, s⟩)) (n - 1) (cap - 1)
  | v => v
theorem Strs.tail {w : World} {base : Nat} {v : Value} {p : ByteArray} {ps : List ByteArray} (h : Strs w base v (p :: ps)) : Strs w base (tailOf v) ps := by
  rcases h with ⟨_, h⟩ | ⟨g, o, cap, cur, rfl, h1, h2, h3, h4, h5, h6⟩
  · cases h
  · simp only [List.length_cons] at h3
    by_cases hc : cap = 1
    · have hl : ps.length = 0 := by omega
      refine .inr ⟨g, o, cap - 1, cur, ?_, h1, h2, by omega, by omega, by omega, fun j hj => by omega⟩
      simp [tailOf, hc]
    · refine .inr ⟨g, o + 1, cap - 1, cur, ?_, h1, h2, by omega, by omega, by omega, fun j hj => ?_⟩
      · simp [tailOf, hc]
      · have := h6 (j + 1) (by simp; omega)
        rw [show o + (j + 1) = o + 1 + j by omega] at this
        simpa using this

theorem info9 : (Try.prog.info? 9).map (fun i => (i.zero, i.size, i.bytes)) = some (some (.string ByteArray.empty), 1, 16) := by kernel_rfl

theorem strs_of_own {w : World} {base b2 : Nat} {v : Value} {ps : List ByteArray} (h : w.ownsRow b2 9 1 v ps.length (ps.map Value.string)) (hb : base ≤ b2) : Strs w base v ps := by
  obtain ⟨_, hc | ⟨g, cap, cur, rfl, q1, q2, q3, q4, q5, q6⟩⟩ := h
  · exact .inl ⟨hc.1, List.length_eq_zero_iff.1 hc.2⟩
  · refine .inr ⟨g, 0, cap, cur, rfl, by omega, q2, q3, q4, by omega, fun j hj => ?_⟩
    have h1 : (cur.toList.take (ps.length * 1))[j]? = some (.string ps[j]) := by rw [q6]; simp [hj]
    rw [List.getElem?_take, if_pos (by omega)] at h1
    simpa using h1
/-- an append of a string -/
theorem Strs.append {w : World} {base : Nat} {v : Value} {ps : List ByteArray} (h : Strs w base v ps) (s : ByteArray) (ad : Addr) (c : Nat) (hn : w.cell? ad = some (.string s)) (hl : ps.length < 400) (hb : base ≤ w.heap.size) :
    ∃ v' w', (Builtin.append_ #[37, 37] 37 #[v, .slice (some ad) 1 c]).run Try.prog w = .ok v' w' ∧ Strs w' base v' (ps ++ [s]) ∧ w.grownBy w' v.ownBlock := by
  obtain ⟨i0, hi, hz0, hz1, hz2⟩ := info_parts info9
  have hnews : ∀ j u, ([.string s] : List Value)[j]? = some u → w.cell? (ad.add j) = some u := by
    intro j u hj
    cases j with
    | zero => simp at hj; subst hj; simpa [Addr.add] using hn
    | succ j => simp at hj
  rcases h with ⟨rfl, rfl⟩ | ⟨g, o, cap, cur, rfl, h1, h2, h3, h4, h5, h6⟩
  · obtain ⟨g', cap', w1, hr, ho, hg, hat, _⟩ := run_append_lies (P := Try.prog) (w := w) 37 37 base 9 i0 (.string ByteArray.empty) 1 16 Try.underlying37 hi hz0 hz1 hz2 rfl (by decide) (.slice none 0 0) 0 [] (World.ownsRow_nil _ _ _ _)
      ad 1 c [.string s] rfl hnews (by simp [Value.oneCell']) (by decide) (by unfold maxLen; omega) (by omega) hb _ rfl
    exact ⟨_, w1, hr, strs_of_own (by simpa using ho) (Nat.le_refl _), hg⟩
  · by_cases hroom : ps.length + 1 ≤ cap
    · have hs : o + ps.length < cur.size := by omega
      have hcell : (w.cell? ⟨g, o + ps.length * i0.size + 0, none⟩).isSome = true := by
        rw [hz1]; simp [World.cell?, h2, hs]
      have hr := run_append_room_cells (P := Try.prog) w 37 37 9 i0 Try.underlying37 hi g o ps.length cap ad 1 c [.string s] (by rw [hz1]; rfl) hnews (by simp [Value.oneCell']) hroom
        (fun j hj => by have : j = 0 := by simpa using hj
                        subst this; exact hcell)
        (fun j hj => by have : j = 0 := by simpa using hj
                        subst this; rw [hz1]; simp [World.frozen?, h2])
      rw [hz1] at hr
      refine ⟨_, _, hr, .inr ⟨g, o, cap, _, by simp, h1, heap_setCell_same w g (o + ps.length * 1) cur 9 (.string s) h2, by simpa using hroom, h4, by simpa using h5, fun j hj => ?_⟩, Go.Lib.grownBy_setCell _ _ _ _⟩
      by_cases hj2 : j = ps.length
      · subst hj2
        simp [hs]
      · have hj3 : j < ps.length := by simp at hj; omega
        rw [Array.getElem?_setIfInBounds_ne (by omega), h6 j hj3]
        simp [List.getElem_append_left hj3]
    · have holds : ∀ j u, (ps.map Value.string)[j]? = some u → w.cell? ((⟨g, o, none⟩ : Addr).add j) = some u := by
        intro j u hj
        have hj2 : j < ps.length := by
          have := (List.getElem?_eq_some_iff.1 hj).1
          simpa using this
        rw [add_at]
        simp [hj2] at hj
        subst hj
        simp [World.cell?, h2, h6 j hj2]
      obtain ⟨v', w', hr, ho, hg⟩ := run_append_arg_grows (P := Try.prog) w 37 37 9 i0 (.string ByteArray.empty) 1 16 Try.underlying37 hi hz0 hz1 hz2 rfl (by decide) ⟨g, o, none⟩ ps.length cap (ps.map Value.string) (by simp) holds
        ad 1 c [.string s] rfl hnews (by omega) (by unfold maxLen; omega) (by omega)
      exact ⟨v', w', hr, strs_of_own (by simpa using ho) hb, hg.but _⟩
end Go.Proofs.Ytmnhnjljapabdaa
