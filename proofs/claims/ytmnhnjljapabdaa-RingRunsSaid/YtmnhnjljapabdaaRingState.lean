/- A ring that the call has made, as its cells tell it; what pushes and pops make of it; bytes in memory. Conditions: as each names them. -/
import Derived.Test.YtmnhnjljapabdaaRingPushB
import Derived.Test.YtmnhnjljapabdaaRingPop
import Derived.Lib.SlBytesRow
set_option linter.unusedVariables false
namespace Go.Proofs.Ytmnhnjljapabdaa
open Go.ChangeShapes Go.WideShapes Go.ChangeAt Go.RowKit
open Go.Lib (Bytes)

structure RS (b a n : Nat) (f : Nat → Value) (w0 wr : World) : Prop where
  c8 : wr.cell? ⟨b, 8, none⟩ = some (.int .i64 a)
  c9 : wr.cell? ⟨b, 9, none⟩ = some (.int .i64 n)
  cq : ∀ q, q < 8 → wr.cell? ⟨b, q, none⟩ = some (f q)
  fr : ∀ q, wr.frozen? ⟨b, q, none⟩ = false
  hb : b < wr.heap.size
  bl : Below b w0 wr

theorem RS.pushed {b a n q m : Nat} {bs : List Value} {f : Nat → Value} {w0 wr w' : World} {v : Value} (h : RS b a n f w0 wr) (hq : q < 8) (hp : Pushed b q n m bs wr w') (hv : w'.cell? ⟨b, q, none⟩ = some v) :
    RS b a (n + 1) (fun i => if i = q then v else f i) w0 w' := by
  refine ⟨(hp.rest 8 (by omega) (by omega)).trans h.c8, hp.cnt, ?_, fun k => (hp.fro k).trans (h.fr k), ?_, ?_⟩
  · intro i hi
    by_cases e : i = q
    · subst e; simp only [if_pos]; exact hv
    · simp only [if_neg e]; exact (hp.rest i e (by omega)).trans (h.cq i hi)
  · have h1 := hp.env.size
    have h2 := h.hb
    omega
  · exact h.bl.grown hp.env (Nat.le_of_lt h.hb) (by intro j hj; cases hj; exact Nat.le_refl _)

theorem RS.popped {b a n : Nat} {f : Nat → Value} {w0 wr w' : World} (h : RS b a n f w0 wr) (ha : a < 8) (hp : Popped b a n wr w') :
    RS b ((a + 1) % 8) (n - 1) (fun i => if i = a then .slice none 0 0 else f i) w0 w' := by
  refine ⟨hp.c8, hp.c9, ?_, fun k => (hp.fro k).trans (h.fr k), ?_, ?_⟩
  · intro i hi
    by_cases e : i = a
    · subst e; simp only [if_pos]; exact hp.ca
    · simp only [if_neg e]; exact (hp.rest i e (by omega) (by omega)).trans (h.cq i hi)
  · have h1 := hp.env.size
    have h2 := h.hb
    omega
  · exact h.bl.grown hp.env (Nat.le_of_lt h.hb) (by intro j hj; cases hj; exact Nat.le_refl _)

theorem ring_start (w : World) : RS w.heap.size 0 0 (fun _ => .slice none 0 0) w (w.alloc (.cells #[.slice none 0 0, .slice none 0 0, .slice none 0 0, .slice none 0 0, .slice none 0 0, .slice none 0 0, .slice none 0 0, .slice none 0 0, .int .i64 0, .int .i64 0, .int .i64 0, .slice none 0 0] 27)) := by
  refine ⟨by simp, by simp, ?_, ?_, by simp, (Below.refl _ _).alloc (Nat.le_refl _) _⟩
  · intro q hq
    match q, hq with
    | 0, _ => simp
    | 1, _ => simp
    | 2, _ => simp
    | 3, _ => simp
    | 4, _ => simp
    | 5, _ => simp
    | 6, _ => simp
    | 7, _ => simp
  · intro q; simp

/-- the first k bytes, as cells hold them -/
def cellsOf (B : ByteArray) (k : Nat) : List Value := (List.range k).map fun i => .int .u8 ((B[i]?.getD 0).toNat : Int)
theorem cellsOf_length (B : ByteArray) (k : Nat) : (cellsOf B k).length = k := by simp [cellsOf]
theorem cellsOf_one (B : ByteArray) (k : Nat) : ∀ u ∈ cellsOf B k, u.oneCell' = true := by
  intro u hu
  unfold cellsOf at hu
  obtain ⟨i, _, rfl⟩ := List.mem_map.1 hu
  rfl
theorem cellsOf_at {B : ByteArray} {k j : Nat} {u : Value} (h : (cellsOf B k)[j]? = some u) : j < k ∧ u = .int .u8 ((B[j]?.getD 0).toNat : Int) := by
  unfold cellsOf at h
  rw [List.getElem?_map] at h
  by_cases hj : j < k
  · rw [List.getElem?_range hj] at h
    simp at h
    exact ⟨hj, h.symm⟩
  · rw [List.getElem?_eq_none (by simp; omega)] at h
    simp at h
theorem add_at (g o j : Nat) : ((⟨g, o, none⟩ : Addr).add j) = ⟨g, o + j, none⟩ := by
  unfold Addr.add
  split
  · rename_i e; subst e; rfl
  · rfl
theorem bytes_cells {w : World} {g o k : Nat} {B : ByteArray} (h : Bytes w g o B) (hk : k ≤ B.size) : ∀ j u, (cellsOf B k)[j]? = some u → w.cell? ((⟨g, o, none⟩ : Addr).add j) = some u := by
  intro j u hu
  obtain ⟨hj, rfl⟩ := cellsOf_at hu
  rw [add_at, h j (by omega)]
  simp [show j < B.size by omega]
theorem bytes_cut (B : ByteArray) (k : Nat) (hk : k ≤ B.size) : (B.extract 0 k).size = k := by
  rw [ByteArray.size_extract]; omega
theorem row_bytes {w : World} {base g cap k : Nat} {B : ByteArray} (hk : k ≤ B.size) (h : w.ownsRow base 5 1 (.slice (some ⟨g, 0, none⟩) k cap) k (cellsOf B k)) : Bytes w g 0 (B.extract 0 k) := by
  intro i hi
  have hi2 : i < k := by rw [bytes_cut B k hk] at hi; exact hi
  have := h.cells (g := g) rfl i (.int .u8 ((B[i]?.getD 0).toNat : Int)) (by unfold cellsOf; rw [List.getElem?_map, List.getElem?_range hi2]; rfl)
  rw [add_at] at this
  rw [this]
  congr 2
  have e : (B.extract 0 k)[i] = B[i]'(by omega) := by
    rw [ByteArray.getElem_extract]; simp
  rw [e]
  simp [show i < B.size by omega]
theorem bytes_pre {w : World} {g o k : Nat} {B : ByteArray} (h : Bytes w g o B) (hk : k ≤ B.size) : Bytes w g o (B.extract 0 k) := by
  intro i hi
  have hi2 : i < k := by rw [bytes_cut B k hk] at hi; exact hi
  rw [h i (by omega)]
  congr 3
  rw [ByteArray.getElem_extract]; simp
theorem bytes_below {w w' : World} {b g o : Nat} {B : ByteArray} (h : Bytes w g o B) (hb : Below b w w') (hg : g < b) : Bytes w' g o B :=
  fun i hi => (hb.cell (p := ⟨g, o + i, none⟩) hg).trans (h i hi)
end Go.Proofs.Ytmnhnjljapabdaa
