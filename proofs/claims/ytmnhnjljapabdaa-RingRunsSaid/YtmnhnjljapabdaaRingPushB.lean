/- The contracts of ring.Push at a ring that the call has made: bytes of any number come, at most 32 are kept. Conditions: as each names them. -/
import Derived.Test.YtmnhnjljapabdaaRingPush
set_option linter.unusedVariables false
namespace Go.Proofs.Ytmnhnjljapabdaa
open Go.ChangeShapes Go.WideShapes Go.ChangeAt Go.RowKit

theorem step_run {P : Program} {ops : Array Oper} {o : Oper} {a : Act} {w : World} {K : Act → World → Prop} {Q : Exit → Act → World → Prop} {E : Prop} (hgd : o.guard = none) (v : Value) (hr : (execOp a.eval o).run P w = .ok (.value v) w) (h : K (a.put o.dst v) w) :
    if Region.wanted o (yielded ops a.tmps) = true then Oper.wp P o a w K Q else E := by
  have hw : Region.wanted o (yielded ops a.tmps) = true := by simp [Region.wanted, hgd]
  rw [if_pos hw]
  unfold Oper.wp
  rw [hr]
  exact h
attribute [local go_sem ↓] Go.wp_at_zero Go.wp_at_succ
set_option maxRecDepth 100000 in
set_option maxHeartbeats 2000000 in
theorem push_gen (b g off at' n q m k c : Nat) (bs : List Value) (old : Value) (w : World) (ha : w.cell? ⟨b, 8, none⟩ = some (.int .i64 at')) (hc : w.cell? ⟨b, 9, none⟩ = some (.int .i64 n)) (hq : w.cell? ⟨b, q, none⟩ = some old) (hqe : q = (at' + n) % 8)
    (hf : ∀ k, w.frozen? ⟨b, k, none⟩ = false) (h8 : at' < 8) (hn : n < 8) (hb : b < w.heap.size)
    (hk : k = min m 32) (hm0 : 0 < k) (hmc : k ≤ c) (hl : bs.length = k * 1) (hnews : ∀ j u, bs[j]? = some u → w.cell? ((⟨g, off, none⟩ : Addr).add j) = some u) (h1 : ∀ u ∈ bs, u.oneCell' = true) :
    Calls Try.prog 8 #[.pointer (some ⟨b, 0, none⟩), .slice (some ⟨g, off, none⟩) m c] w fun e w' => e = .returned (.bool true) ∧ Pushed b q n k bs w w' := by
  obtain ⟨i0, hi, hz0, hz1, hz2⟩ := info_parts info5
  have hn1 : ((n : Int) == 8) = false := by rw [beq_eq_false_iff_ne]; omega
  have hw8 : ((at' : Int) + n) % 8 = (q : Int) := by omega
  have hw7 : ((at' : Int) + n).tmod 8 = (q : Int) := by rw [Int.tmod_eq_emod_of_nonneg (by omega)]; exact hw8
  have hw9 : IntKind.i64.wrap ((at' : Int) + n) = (at' : Int) + n := by rw [IntKind.wrap_i64]; omega
  have hq0 : (0 : Int) ≤ (q : Int) := by omega
  have hq8 : (q : Int) < 8 := by omega
  have hqn : q < 8 := by omega
  have hnews2 : ∀ j u, bs[j]? = some u → w.drew.cell? ((⟨g, off, none⟩ : Addr).add j) = some u := fun j u h => by have := hnews j u h; simpa using this
  have hm : k ≤ 32 := by omega
  have hm1 : (0 : Int) ≤ (k : Int) := by omega
  have hm2 : (k : Int) ≤ (c : Int) := by omega
  have HK := Lib.hid hk
  have hs8 : ∀ (w1 : World) (v : Value), (w1.setCell ⟨b, q, none⟩ v).cell? ⟨b, 8, none⟩ = w1.cell? ⟨b, 8, none⟩ := fun w1 v => World.cell?_setCell_other _ _ _ _ (by intro e; injection e with _ e2 _; omega)
  have hs9 : ∀ (w1 : World) (v : Value), (w1.setCell ⟨b, q, none⟩ v).cell? ⟨b, 9, none⟩ = w1.cell? ⟨b, 9, none⟩ := fun w1 v => World.cell?_setCell_other _ _ _ _ (by intro e; injection e with _ e2 _; omega)
  have HN := Lib.hid hnews2
  have HL := Lib.hid hl
  have HM := Lib.hid hm0
  have HM2 := Lib.hid hm
  clear hnews hnews2 hqe hl hm0 hm hk
  go_enter Try.func8, Try.ntmps8
  go_wp2_with fail
  go_region_held3 (fun w' => w'.cell? ⟨b, 8, none⟩ = some (.int .i64 at') ∧ w'.cell? ⟨b, 9, none⟩ = some (.int .i64 n)) (first | (refine ⟨?_, ?_⟩ <;> first | assumption | (rw [hs8]; assumption) | (rw [hs9]; assumption)) | go_keep) (first | (refine step_append_lies _ (by rfl) (.const (.slice none 0 0)) (.tmp 34) 22 (by rfl) w.heap.size 5 i0 (.int .u8 0) 1 1 Try.underlying22 hi hz0 hz1 hz2 (by rfl) (by decide) (.slice none 0 0) 0 [] (by rfl) (World.ownsRow_nil _ _ _ _) ⟨g, off, none⟩ k c bs (by rfl) HL.out HN.out h1 HM.out (by have := HM2.out; unfold maxLen; omega) (by have := HM2.out; omega) (by simp) w.heap.size (by simp) ?_; intro g1 cap1 w1 hown1 hgrow hat hlt; obtain ⟨hc1, hf1⟩ := grown_drew hgrow (B := b + 1) (by intro k hk; simp [Value.ownBlock] at hk) (Nat.lt_succ_self b) hb; have ha1 := (hc1 8).trans ha; have hn1' := (hc1 9).trans hc; have hq1 := (hc1 q).trans hq; have hfq := (hf1 q).trans (hf q); have hf9 := (hf1 9).trans (hf 9); rw [Nat.zero_add, List.nil_append] at hown1; have HO := Lib.hid hown1; have HG := Lib.hid hgrow; clear hown1 hgrow hc1 hf1) | (refine step_run (by rfl) (.int .i64 k) (by have hmin := HK.out; go_simp; first | done | omega | (split <;> omega) | (intros; omega)) ?_) | fail)
  go_wp2_with fail
  go_ret
  refine ⟨rfl, ?_⟩
  exact pushed_of (row := none) (by omega) HG.out (by intro k hk; cases hk) hb HO.out hq1 hn1'

set_option maxRecDepth 100000 in
set_option maxHeartbeats 2000000 in
theorem push_nil (b at' n q : Nat) (old : Value) (w : World) (ha : w.cell? ⟨b, 8, none⟩ = some (.int .i64 at')) (hc : w.cell? ⟨b, 9, none⟩ = some (.int .i64 n)) (hq : w.cell? ⟨b, q, none⟩ = some old) (hqe : q = (at' + n) % 8)
    (hf : ∀ k, w.frozen? ⟨b, k, none⟩ = false) (h8 : at' < 8) (hn : n < 8) (hb : b < w.heap.size) :
    Calls Try.prog 8 #[.pointer (some ⟨b, 0, none⟩), Value.slice none 0 0] w fun e w' => e = .returned (.bool true) ∧ Pushed b q n 0 [] w w' ∧ w'.cell? ⟨b, q, none⟩ = some (.slice none 0 0) := by
  have hn1 : ((n : Int) == 8) = false := by rw [beq_eq_false_iff_ne]; omega
  have hw8 : ((at' : Int) + n) % 8 = (q : Int) := by omega
  have hw7 : ((at' : Int) + n).tmod 8 = (q : Int) := by rw [Int.tmod_eq_emod_of_nonneg (by omega)]; exact hw8
  have hw9 : IntKind.i64.wrap ((at' : Int) + n) = (at' : Int) + n := by rw [IntKind.wrap_i64]; omega
  have hq0 : (0 : Int) ≤ (q : Int) := by omega
  have hq8 : (q : Int) < 8 := by omega
  have hqn : q < 8 := by omega
  have hs8 : ∀ (w1 : World) (v : Value), (w1.setCell ⟨b, q, none⟩ v).cell? ⟨b, 8, none⟩ = w1.cell? ⟨b, 8, none⟩ := fun w1 v => World.cell?_setCell_other _ _ _ _ (by intro e; injection e with _ e2 _; omega)
  have hs9 : ∀ (w1 : World) (v : Value), (w1.setCell ⟨b, q, none⟩ v).cell? ⟨b, 9, none⟩ = w1.cell? ⟨b, 9, none⟩ := fun w1 v => World.cell?_setCell_other _ _ _ _ (by intro e; injection e with _ e2 _; omega)
  clear hqe
  go_enter Try.func8, Try.ntmps8
  go_wp2_with fail
  go_region_held3 (fun w' => w'.cell? ⟨b, 8, none⟩ = some (.int .i64 at') ∧ w'.cell? ⟨b, 9, none⟩ = some (.int .i64 n)) (first | (refine ⟨?_, ?_⟩ <;> first | assumption | (rw [hs8]; assumption) | (rw [hs9]; assumption)) | go_keep) (fail)
  go_wp2_with fail
  go_ret
  refine ⟨rfl, ?_, ?_⟩
  · exact pushed_of (w1 := w.drew) (v := .slice none 0 0) (old := old) (c := .int .i64 n) (row := none) (by omega) ⟨rfl, rfl, rfl, Nat.le_refl _, fun _ _ _ => rfl⟩ (by intro k hk; cases hk) hb (World.ownsRow_nil _ _ _ _) (by simpa using hq) (by simpa using hc)
  · show ((w.setCell ⟨b, q, none⟩ (.slice none 0 0)).setCell ⟨b, 9, none⟩ (.int .i64 ((n : Int) + 1))).cell? ⟨b, q, none⟩ = _
    have ne : (⟨b, 9, none⟩ : Addr) ≠ ⟨b, q, none⟩ := by intro e; injection e with _ e2 _; omega
    rw [World.cell?_setCell_other _ _ _ _ ne]
    exact World.cell?_setCell_same' _ _ _ (by rw [hq]; rfl)

set_option maxRecDepth 100000 in
set_option maxHeartbeats 2000000 in
theorem push_zero (b c at' n q : Nat) (p : Addr) (old : Value) (w : World) (ha : w.cell? ⟨b, 8, none⟩ = some (.int .i64 at')) (hc : w.cell? ⟨b, 9, none⟩ = some (.int .i64 n)) (hq : w.cell? ⟨b, q, none⟩ = some old) (hqe : q = (at' + n) % 8)
    (hf : ∀ k, w.frozen? ⟨b, k, none⟩ = false) (h8 : at' < 8) (hn : n < 8) (hb : b < w.heap.size) :
    Calls Try.prog 8 #[.pointer (some ⟨b, 0, none⟩), .slice (some p) 0 c] w fun e w' => e = .returned (.bool true) ∧ Pushed b q n 0 [] w w' ∧ w'.cell? ⟨b, q, none⟩ = some (.slice none 0 0) := by
  have hn1 : ((n : Int) == 8) = false := by rw [beq_eq_false_iff_ne]; omega
  have hw8 : ((at' : Int) + n) % 8 = (q : Int) := by omega
  have hw7 : ((at' : Int) + n).tmod 8 = (q : Int) := by rw [Int.tmod_eq_emod_of_nonneg (by omega)]; exact hw8
  have hw9 : IntKind.i64.wrap ((at' : Int) + n) = (at' : Int) + n := by rw [IntKind.wrap_i64]; omega
  have hq0 : (0 : Int) ≤ (q : Int) := by omega
  have hq8 : (q : Int) < 8 := by omega
  have hqn : q < 8 := by omega
  have hs8 : ∀ (w1 : World) (v : Value), (w1.setCell ⟨b, q, none⟩ v).cell? ⟨b, 8, none⟩ = w1.cell? ⟨b, 8, none⟩ := fun w1 v => World.cell?_setCell_other _ _ _ _ (by intro e; injection e with _ e2 _; omega)
  have hs9 : ∀ (w1 : World) (v : Value), (w1.setCell ⟨b, q, none⟩ v).cell? ⟨b, 9, none⟩ = w1.cell? ⟨b, 9, none⟩ := fun w1 v => World.cell?_setCell_other _ _ _ _ (by intro e; injection e with _ e2 _; omega)
  clear hqe
  go_enter Try.func8, Try.ntmps8
  go_wp2_with fail
  go_region_held3 (fun w' => w'.cell? ⟨b, 8, none⟩ = some (.int .i64 at') ∧ w'.cell? ⟨b, 9, none⟩ = some (.int .i64 n)) (first | (refine ⟨?_, ?_⟩ <;> first | assumption | (rw [hs8]; assumption) | (rw [hs9]; assumption)) | go_keep) (fail)
  go_wp2_with fail
  go_ret
  refine ⟨rfl, ?_, ?_⟩
  · exact pushed_of (w1 := w.drew) (v := .slice none 0 0) (old := old) (c := .int .i64 n) (row := none) (by omega) ⟨rfl, rfl, rfl, Nat.le_refl _, fun _ _ _ => rfl⟩ (by intro k hk; cases hk) hb (World.ownsRow_nil _ _ _ _) (by simpa using hq) (by simpa using hc)
  · show ((w.setCell ⟨b, q, none⟩ (.slice none 0 0)).setCell ⟨b, 9, none⟩ (.int .i64 ((n : Int) + 1))).cell? ⟨b, q, none⟩ = _
    have ne : (⟨b, 9, none⟩ : Addr) ≠ ⟨b, q, none⟩ := by intro e; injection e with _ e2 _; omega
    rw [World.cell?_setCell_other _ _ _ _ ne]
    exact World.cell?_setCell_same' _ _ _ (by rw [hq]; rfl)
end Go.Proofs.Ytmnhnjljapabdaa
