/- Small laws on a slice that the call has made itself: how it reads, and what an append leaves alone. Conditions: as each names them. -/
import Derived.Test.YtelgmffmekfndaaOpenG
import Derived.Maps.AppendAt
import Derived.WalkSpells
import Derived.Lib.Hide
import Derived.OwnWalk
set_option linter.unusedVariables false
namespace Go.Proofs.Ytelgmffmekfndaa
open Go.ChangeShapes Go.WideShapes Go.ChangeAt Go.RowKit

theorem own_form {w : World} {base size n : Nat} {e : TypeId} {v : Value} {xs : List Value} (h : w.ownsRow base e size v (n + 1) xs) : ∃ g cap, v = .slice (some ⟨g, 0, none⟩) (n + 1) cap ∧ base ≤ g ∧ g < w.heap.size ∧ n + 1 ≤ cap ∧ cap ≤ maxLen := by
  obtain ⟨_, ⟨_, h0⟩ | ⟨g, cap, cur, rfl, hb, hg, h1, h2, _⟩⟩ := h
  · omega
  · exact ⟨g, cap, rfl, hb, (Array.getElem?_eq_some_iff.1 hg).1, h1, h2⟩
theorem own_none {w : World} {base size : Nat} {e : TypeId} {v : Value} {n : Nat} {xs : List Value} (h : w.ownsRow base e size v n xs) : (v = .slice none 0 0 ∧ n = 0 ∧ xs = []) ∨ ∃ g cap, v = .slice (some ⟨g, 0, none⟩) n cap ∧ base ≤ g ∧ g < w.heap.size ∧ n ≤ cap ∧ cap ≤ maxLen := by
  obtain ⟨hl, ⟨h1, h0⟩ | ⟨g, cap, cur, rfl, hb, hg, h1, h2, _⟩⟩ := h
  · subst h0; exact .inl ⟨h1, rfl, by simpa using hl⟩
  · exact .inr ⟨g, cap, rfl, hb, (Array.getElem?_eq_some_iff.1 hg).1, h1, h2⟩

/-- behind an append of one element: what lies below the rows is as it was -/
theorem grown_one {w w1 : World} {o : Obj} {row : Option Nat} {B b : Nat} (hg : (w.alloc o).grownBy w1 row) (hr : ∀ k, row = some k → B ≤ k) (hb : b < B) (hB : b < w.heap.size) :
    (∀ k, w1.cell? ⟨b, k, none⟩ = w.cell? ⟨b, k, none⟩) ∧ (∀ k, w1.frozen? ⟨b, k, none⟩ = w.frozen? ⟨b, k, none⟩) := by
  have h : w1.heap[b]? = w.heap[b]? := (hg.block b (by simp; omega) (fun e => by have := hr b e.symm; omega)).trans (Below.heap_alloc _ _ _ hB)
  exact ⟨fun k => World.cell?_of_block (a := ⟨b, k, none⟩) h, fun k => World.frozen?_of_block (a := ⟨b, k, none⟩) h⟩

theorem own_block {w : World} {base size n : Nat} {e : TypeId} {v : Value} {xs : List Value} (h : w.ownsRow base e size v n xs) : ∀ k, v.ownBlock = some k → base ≤ k := fun k hk => (h.lt k hk).1

theorem grown_below {w w1 : World} {o : Obj} {row : Option Nat} {B b : Nat} (hg : (w.alloc o).grownBy w1 row) (hr : ∀ k, row = some k → B ≤ k) (hb : b ≤ B) (hB : b ≤ w.heap.size) : Below b w w1 :=
  ((Below.refl b w).alloc hB o).grown hg (by simp; omega) (fun k hk => by have := hr k hk; omega)

end Go.Proofs.Ytelgmffmekfndaa
