/- The contracts of ring.Push at a ring that the call has made: one byte comes; the ring is full. Conditions: as each names them. -/
import Derived.Test.YtmnhnjljapabdaaOwnRow
import Derived.Deep.RegionHeld3
import Derived.Deep.AppendLies
import Derived.Deep.DrawnRows
set_option linter.unusedVariables false
namespace Go.Proofs.Ytmnhnjljapabdaa
open Go.ChangeShapes Go.WideShapes Go.ChangeAt Go.RowKit

theorem info5 : (Try.prog.info? 5).map (fun i => (i.zero, i.size, i.bytes)) = some (some (.int .u8 0), 1, 1) := by kernel_rfl

theorem push_full (b : Nat) (v : Value) (lost : Int) (w : World) (hc : w.cell? ⟨b, 9, none⟩ = some (.int .i64 8)) (hl : w.cell? ⟨b, 10, none⟩ = some (.int .i64 lost)) (hf : w.frozen? ⟨b, 10, none⟩ = false) :
    Calls Try.prog 8 #[.pointer (some ⟨b, 0, none⟩), v] w fun e w' => e = .returned (.bool false) ∧ w.setCell ⟨b, 10, none⟩ (.int .i64 (wrap64 (lost + 1))) = w' := by
  go_enter Try.func8, Try.ntmps8
  go_wp2_with fail
  go_ret
  exact ⟨rfl, rfl⟩

theorem grown_drew {w w1 : World} {row : Option Nat} {B b : Nat} (hg : w.drew.grownBy w1 row) (hr : ∀ k, row = some k → B ≤ k) (hb : b < B) (hB : b < w.heap.size) :
    (∀ k, w1.cell? ⟨b, k, none⟩ = w.cell? ⟨b, k, none⟩) ∧ (∀ k, w1.frozen? ⟨b, k, none⟩ = w.frozen? ⟨b, k, none⟩) := by
  have h : w1.heap[b]? = w.heap[b]? := hg.block b (by simp; omega) (fun e => by have := hr b e.symm; omega)
  exact ⟨fun k => World.cell?_of_block (a := ⟨b, k, none⟩) h, fun k => World.frozen?_of_block (a := ⟨b, k, none⟩) h⟩

/-- behind a push: the packet lies at its place, all else is as it was -/
structure Pushed (b q n m : Nat) (bs : List Value) (w w' : World) : Prop where
  val : ∃ v', w'.cell? ⟨b, q, none⟩ = some v' ∧ w'.ownsRow w.heap.size 5 1 v' m bs
  cnt : w'.cell? ⟨b, 9, none⟩ = some (.int .i64 ((n + 1 : Nat) : Int))
  rest : ∀ k, k ≠ q → k ≠ 9 → w'.cell? ⟨b, k, none⟩ = w.cell? ⟨b, k, none⟩
  fro : ∀ k, w'.frozen? ⟨b, k, none⟩ = w.frozen? ⟨b, k, none⟩
  env : w.grownBy w' (some b)

theorem pushed_of {b q n m : Nat} {bs : List Value} {w w1 : World} {v old : Value} {c : Value} {row : Option Nat} (hq9 : q ≠ 9) (hg : w.drew.grownBy w1 row) (hr : ∀ k, row = some k → w.heap.size ≤ k) (hb : b < w.heap.size) (hown : w1.ownsRow w.heap.size 5 1 v m bs)
    (hq : w1.cell? ⟨b, q, none⟩ = some old) (hc : w1.cell? ⟨b, 9, none⟩ = some c) :
    Pushed b q n m bs w ((w1.setCell ⟨b, q, none⟩ v).setCell ⟨b, 9, none⟩ (.int .i64 ((n + 1 : Nat) : Int))) := by
  obtain ⟨hc1, hf1⟩ := grown_drew hg (B := w.heap.size) hr hb hb
  have ne1 : (⟨b, q, none⟩ : Addr) ≠ ⟨b, 9, none⟩ := by intro e; injection e with _ e2 _; omega
  refine ⟨⟨v, ?_, ?_⟩, ?_, ?_, ?_, ?_⟩
  · rw [World.cell?_setCell_other _ _ _ _ (Ne.symm ne1)]
    exact World.cell?_setCell_same' w1 _ _ (by rw [hq]; rfl)
  · exact ownsRow_setCell_below (ownsRow_setCell_below hown hb _) hb _
  · exact World.cell?_setCell_same' _ _ _ (by rw [World.cell?_setCell_other _ _ _ _ ne1, hc]; rfl)
  · intro k k1 k2
    rw [World.cell?_setCell_other _ _ _ _ (by intro e; injection e with _ e2 _; omega), World.cell?_setCell_other _ _ _ _ (by intro e; injection e with _ e2 _; omega)]
    exact hc1 k
  · intro k
    rw [World.frozen?_setCell, World.frozen?_setCell]
    exact hf1 k
  · refine ⟨hg.os, hg.tape, hg.output, ?_, ?_⟩
    · have := hg.size; simp at this ⊢; exact this
    · intro i hi hne
      have hib : i ≠ b := fun e => hne (by rw [e])
      rw [Below.heap_setCell _ _ _ _ hib, Below.heap_setCell _ _ _ _ hib]
      exact hg.block i (by simpa using hi) (fun e => by have := hr i e.symm; omega)

attribute [local go_sem ↓] Go.wp_at_zero Go.wp_at_succ
set_option maxRecDepth 100000 in
set_option maxHeartbeats 2000000 in
theorem push_one (b g at' n q : Nat) (x : Value) (old : Value) (w : World) (ha : w.cell? ⟨b, 8, none⟩ = some (.int .i64 at')) (hc : w.cell? ⟨b, 9, none⟩ = some (.int .i64 n)) (hq : w.cell? ⟨b, q, none⟩ = some old) (hqe : q = (at' + n) % 8)
    (hf : ∀ k, w.frozen? ⟨b, k, none⟩ = false) (h8 : at' < 8) (hn : n < 8) (hb : b < w.heap.size)
    (hx : w.cell? ⟨g, 0, none⟩ = some x) (h1 : x.oneCell' = true) :
    Calls Try.prog 8 #[.pointer (some ⟨b, 0, none⟩), .slice (some ⟨g, 0, none⟩) 1 1] w fun e w' => e = .returned (.bool true) ∧ Pushed b q n 1 [x] w w' := by
  obtain ⟨i0, hi, hz0, hz1, hz2⟩ := info_parts info5
  have hn1 : ((n : Int) == 8) = false := by rw [beq_eq_false_iff_ne]; omega
  have hw8 : ((at' : Int) + n) % 8 = (q : Int) := by omega
  have hw7 : ((at' : Int) + n).tmod 8 = (q : Int) := by rw [Int.tmod_eq_emod_of_nonneg (by omega)]; exact hw8
  have hw9 : IntKind.i64.wrap ((at' : Int) + n) = (at' : Int) + n := by rw [IntKind.wrap_i64]; omega
  have hq0 : (0 : Int) ≤ (q : Int) := by omega
  have hq8 : (q : Int) < 8 := by omega
  have hqn : q < 8 := by omega
  have hnews2 : ∀ j u, [x][j]? = some u → w.drew.cell? ((⟨g, 0, none⟩ : Addr).add j) = some u := by
    intro j u h
    match j, h with
    | 0, h => simp at h; subst h; simpa [Addr.add] using hx
  have hs8 : ∀ (w1 : World) (v : Value), (w1.setCell ⟨b, q, none⟩ v).cell? ⟨b, 8, none⟩ = w1.cell? ⟨b, 8, none⟩ := fun w1 v => World.cell?_setCell_other _ _ _ _ (by intro e; injection e with _ e2 _; omega)
  have hs9 : ∀ (w1 : World) (v : Value), (w1.setCell ⟨b, q, none⟩ v).cell? ⟨b, 9, none⟩ = w1.cell? ⟨b, 9, none⟩ := fun w1 v => World.cell?_setCell_other _ _ _ _ (by intro e; injection e with _ e2 _; omega)
  have HN := Lib.hid hnews2
  clear hnews2 hqe hx
  go_enter Try.func8, Try.ntmps8
  go_wp2_with fail
  go_region_held3 (fun w' => w'.cell? ⟨b, 8, none⟩ = some (.int .i64 at') ∧ w'.cell? ⟨b, 9, none⟩ = some (.int .i64 n)) (first | (refine ⟨?_, ?_⟩ <;> first | assumption | (rw [hs8]; assumption) | (rw [hs9]; assumption)) | go_keep) (first | (refine step_append_lies _ (by rfl) (.const (.slice none 0 0)) (.tmp 34) 22 (by rfl) w.heap.size 5 i0 (.int .u8 0) 1 1 Try.underlying22 hi hz0 hz1 hz2 (by rfl) (by decide) (.slice none 0 0) 0 [] (by rfl) (World.ownsRow_nil _ _ _ _) ⟨g, 0, none⟩ 1 1 [x] (by rfl) rfl HN.out (by intro u hu; simp at hu; subst hu; exact h1) (by omega) (by unfold maxLen; omega) (by omega) (by simp) w.heap.size (by simp) ?_; intro g1 cap1 w1 hown1 hgrow hat hlt; obtain ⟨hc1, hf1⟩ := grown_drew hgrow (B := b + 1) (by intro k hk; simp [Value.ownBlock] at hk) (Nat.lt_succ_self b) hb; have ha1 := (hc1 8).trans ha; have hn1' := (hc1 9).trans hc; have hq1 := (hc1 q).trans hq; have hfq := (hf1 q).trans (hf q); have hf9 := (hf1 9).trans (hf 9); rw [Nat.zero_add, List.nil_append] at hown1; have HO := Lib.hid hown1; have HG := Lib.hid hgrow; clear hown1 hgrow hc1 hf1) | fail)
  go_wp2_with fail
  go_ret
  refine ⟨rfl, ?_⟩
  exact pushed_of (row := none) (by omega) HG.out (by intro k hk; cases hk) hb HO.out hq1 hn1'
end Go.Proofs.Ytmnhnjljapabdaa
