/- The contracts of ring.Pop at a ring that the call has made. Conditions: as each names them. -/
import Derived.Test.YtmnhnjljapabdaaRingFit
set_option linter.unusedVariables false
namespace Go.Proofs.Ytmnhnjljapabdaa
open Go.ChangeShapes Go.WideShapes Go.ChangeAt Go.RowKit

/-- behind a pop: its place is empty, the next one is the first, all else is as it was -/
structure Popped (b a n : Nat) (w w' : World) : Prop where
  c8 : w'.cell? ⟨b, 8, none⟩ = some (.int .i64 (((a + 1) % 8 : Nat) : Int))
  c9 : w'.cell? ⟨b, 9, none⟩ = some (.int .i64 ((n - 1 : Nat) : Int))
  ca : w'.cell? ⟨b, a, none⟩ = some (.slice none 0 0)
  rest : ∀ k, k ≠ a → k ≠ 8 → k ≠ 9 → w'.cell? ⟨b, k, none⟩ = w.cell? ⟨b, k, none⟩
  fro : ∀ k, w'.frozen? ⟨b, k, none⟩ = w.frozen? ⟨b, k, none⟩
  env : w.grownBy w' (some b)

theorem popped_of {b a n : Nat} {w : World} {v c8 c9 : Value} (hb : b < w.heap.size) (ha : w.cell? ⟨b, 8, none⟩ = some c8) (hc : w.cell? ⟨b, 9, none⟩ = some c9) (hq : w.cell? ⟨b, a, none⟩ = some v) (h8 : a < 8) :
    Popped b a n w ((((w.setCell ⟨b, a, none⟩ (.slice none 0 0)).setCell ⟨b, 8, none⟩ (.int .i64 (((a + 1) % 8 : Nat) : Int))).setCell ⟨b, 9, none⟩ (.int .i64 ((n - 1 : Nat) : Int))).drew.drew) := by
  have ne : ∀ k j : Nat, k ≠ j → (⟨b, k, none⟩ : Addr) ≠ ⟨b, j, none⟩ := fun k j h e => by injection e with _ e2 _; exact h e2
  have o : ∀ (w1 : World) (k j : Nat) (x : Value), k ≠ j → (w1.setCell ⟨b, k, none⟩ x).cell? ⟨b, j, none⟩ = w1.cell? ⟨b, j, none⟩ := fun w1 k j x h => World.cell?_setCell_other _ _ _ _ (ne k j h)
  have dr : ∀ (w1 : World) (p : Addr), w1.drew.cell? p = w1.cell? p := fun w1 p => rfl
  have df : ∀ (w1 : World) (p : Addr), w1.drew.frozen? p = w1.frozen? p := fun w1 p => rfl
  refine ⟨?_, ?_, ?_, ?_, ?_, ?_⟩
  · rw [dr, dr, o _ _ _ _ (by omega)]
    exact World.cell?_setCell_same' _ _ _ (by rw [o _ _ _ _ (by omega), ha]; rfl)
  · rw [dr, dr]
    exact World.cell?_setCell_same' _ _ _ (by rw [o _ _ _ _ (by omega), o _ _ _ _ (by omega), hc]; rfl)
  · rw [dr, dr, o _ _ _ _ (by omega), o _ _ _ _ (by omega)]
    exact World.cell?_setCell_same' _ _ _ (by rw [hq]; rfl)
  · intro k h1 h2 h3
    rw [dr, dr, o _ _ _ _ (by omega), o _ _ _ _ (by omega), o _ _ _ _ (by omega)]
  · intro k
    rw [df, df, World.frozen?_setCell, World.frozen?_setCell, World.frozen?_setCell]
  · refine ⟨rfl, rfl, rfl, by simp, ?_⟩
    intro i hi hne
    have hib : i ≠ b := fun e => hne (by rw [e])
    show ((((w.setCell ⟨b, a, none⟩ (.slice none 0 0)).setCell ⟨b, 8, none⟩ (.int .i64 (((a + 1) % 8 : Nat) : Int))).setCell ⟨b, 9, none⟩ (.int .i64 ((n - 1 : Nat) : Int)))).heap[i]? = _
    rw [Below.heap_setCell _ _ _ _ hib, Below.heap_setCell _ _ _ _ hib, Below.heap_setCell _ _ _ _ hib]

attribute [local go_sem ↓] Go.wp_at_zero Go.wp_at_succ
set_option maxRecDepth 100000 in
set_option maxHeartbeats 2000000 in
theorem pop_some (b a n : Nat) (v : Value) (w : World) (ha : w.cell? ⟨b, 8, none⟩ = some (.int .i64 a)) (hc : w.cell? ⟨b, 9, none⟩ = some (.int .i64 n)) (hq : w.cell? ⟨b, a, none⟩ = some v)
    (hf : ∀ k, w.frozen? ⟨b, k, none⟩ = false) (h8 : a < 8) (hn : 0 < n) (hn8 : n ≤ 8) (hb : b < w.heap.size) :
    Calls Try.prog 9 #[.pointer (some ⟨b, 0, none⟩)] w fun e w' => e = .returned (.tuple #[v, .bool true]) ∧ Popped b a n w w' := by
  have hn1 : ((n : Int) == 0) = false := by rw [beq_eq_false_iff_ne]; omega
  have hq0 : (0 : Int) ≤ (a : Int) := by omega
  have hq8 : (a : Int) < 8 := by omega
  have hw9 : IntKind.i64.wrap ((a : Int) + 1) = (a : Int) + 1 := by rw [IntKind.wrap_i64]; omega
  have hw7 : ((a : Int) + 1).tmod 8 = (((a + 1) % 8 : Nat) : Int) := by rw [Int.tmod_eq_emod_of_nonneg (by omega)]; omega
  have hw6 : ((a : Int) + 1) % 8 = (((a + 1) % 8 : Nat) : Int) := by omega
  have hw5 : IntKind.i64.wrap ((n : Int) - 1) = ((n - 1 : Nat) : Int) := by rw [IntKind.wrap_i64]; omega
  have hs8 : ∀ (w1 : World) (v : Value), (w1.setCell ⟨b, a, none⟩ v).cell? ⟨b, 8, none⟩ = w1.cell? ⟨b, 8, none⟩ := fun w1 v => World.cell?_setCell_other _ _ _ _ (by intro e; injection e with _ e2 _; omega)
  have hs9 : ∀ (w1 : World) (v : Value), (w1.setCell ⟨b, a, none⟩ v).cell? ⟨b, 9, none⟩ = w1.cell? ⟨b, 9, none⟩ := fun w1 v => World.cell?_setCell_other _ _ _ _ (by intro e; injection e with _ e2 _; omega)
  generalize hq1 : (a + 1) % 8 = a2 at *
  generalize hq2 : n - 1 = n2 at *
  have HQ1 := Lib.hid hq1
  have HQ2 := Lib.hid hq2
  clear hq1 hq2
  go_enter Try.func9, Try.ntmps9
  go_wp2_with fail
  go_region_held3 (fun w' => w'.cell? ⟨b, 8, none⟩ = some (.int .i64 a) ∧ w'.cell? ⟨b, a, none⟩ = some v) (first | (refine ⟨?_, ?_⟩ <;> first | assumption | (rw [hs8]; assumption) | (rw [hs9]; assumption)) | go_keep) (fail)
  go_wp2_with fail
  go_region_held3 (fun w' => w'.cell? ⟨b, 8, none⟩ = some (.int .i64 a)) (first | assumption | (rw [hs8]; assumption) | go_keep) (fail)
  go_wp2_with fail
  refine bodyPost_ret (v := .tuple #[v, .bool true]) (by simp [results, Try.results9, go_sem]) rfl ⟨rfl, ?_⟩
  have hp := popped_of (n := n) hb ha hc hq h8
  rw [HQ1.out, HQ2.out] at hp
  exact hp

theorem pop_none (b : Nat) (w : World) (hc : w.cell? ⟨b, 9, none⟩ = some (.int .i64 0)) :
    Calls Try.prog 9 #[.pointer (some ⟨b, 0, none⟩)] w fun e w' => e = .returned (.tuple #[.slice none 0 0, .bool false]) ∧ w = w' := by
  go_enter Try.func9, Try.ntmps9
  go_wp2_with fail
  exact bodyPost_ret (v := .tuple #[.slice none 0 0, .bool false]) (by simp [results, Try.results9, go_sem]) rfl ⟨rfl, rfl⟩
end Go.Proofs.Ytmnhnjljapabdaa
