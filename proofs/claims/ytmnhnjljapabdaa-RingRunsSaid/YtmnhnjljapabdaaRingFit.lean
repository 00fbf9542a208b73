/- The contracts of ring.Len and ring.Lost, and of the examples in the laws of rings: they hold. Conditions: as each names them. -/
import Derived.Test.YtmnhnjljapabdaaRingPush
import Derived.Deep.LoopGhost
set_option linter.unusedVariables false
namespace Go.Proofs.Ytmnhnjljapabdaa
open Go.ChangeShapes Go.WideShapes Go.ChangeAt Go.RowKit

theorem len_any (b : Nat) (v : Int) (w : World) (h : w.cell? ⟨b, 9, none⟩ = some (.int .i64 v)) :
    Calls Try.prog 10 #[.pointer (some ⟨b, 0, none⟩)] w fun e w' => e = .returned (.int .i64 v) ∧ w = w' := by
  go_enter Try.func10, Try.ntmps10
  go_wp2_with fail
  go_ret
  exact ⟨rfl, rfl⟩
theorem lost_any (b : Nat) (v : Int) (w : World) (h : w.cell? ⟨b, 10, none⟩ = some (.int .i64 v)) :
    Calls Try.prog 14 #[.pointer (some ⟨b, 0, none⟩)] w fun e w' => e = .returned (.int .i64 v) ∧ w = w' := by
  go_enter Try.func14, Try.ntmps14
  go_wp2_with fail
  go_ret
  exact ⟨rfl, rfl⟩

theorem alloc_cell {w : World} {b : Nat} (o : Obj) (hb : b < w.heap.size) : (∀ k, (w.alloc o).cell? ⟨b, k, none⟩ = w.cell? ⟨b, k, none⟩) ∧ (∀ k, (w.alloc o).frozen? ⟨b, k, none⟩ = w.frozen? ⟨b, k, none⟩) :=
  ⟨fun k => World.cell?_of_block (a := ⟨b, k, none⟩) (Below.heap_alloc _ _ _ hb), fun k => World.frozen?_of_block (a := ⟨b, k, none⟩) (Below.heap_alloc _ _ _ hb)⟩

/-- behind k bytes that were pushed one by one -/
structure FitRel (b k : Nat) (w0 wr : World) : Prop where
  c8 : wr.cell? ⟨b, 8, none⟩ = some (.int .i64 (0 : Nat))
  c9 : wr.cell? ⟨b, 9, none⟩ = some (.int .i64 (min k 8 : Nat))
  c10 : wr.cell? ⟨b, 10, none⟩ = some (.int .i64 (k - 8 : Nat))
  cq : ∀ q, q < 8 → ∃ old, wr.cell? ⟨b, q, none⟩ = some old
  fr : ∀ q, wr.frozen? ⟨b, q, none⟩ = false
  hb : b < wr.heap.size
  bl : Below b w0 wr

theorem FitRel.step {b k : Nat} {w0 wr w' : World} {o : Obj} {x : Value} (h : FitRel b k w0 wr) (hk : k < 8) (hp : Pushed b k k 1 [x] (wr.alloc o) w') : FitRel b (k + 1) w0 w' := by
  obtain ⟨hc, hf⟩ := alloc_cell o h.hb
  obtain ⟨v', hv, _⟩ := hp.val
  refine ⟨(hp.rest 8 (by omega) (by omega)).trans ((hc 8).trans h.c8), ?_, ?_, ?_, fun q => (hp.fro q).trans ((hf q).trans (h.fr q)), ?_, ?_⟩
  · rw [hp.cnt, show min (k + 1) 8 = k + 1 by omega]
  · rw [hp.rest 10 (by omega) (by omega), hc 10, h.c10, show k + 1 - 8 = k - 8 by omega]
  · intro q hq
    by_cases e : q = k
    · subst e; exact ⟨_, hv⟩
    · obtain ⟨old, ho⟩ := h.cq q hq
      exact ⟨old, (hp.rest q e (by omega)).trans ((hc q).trans ho)⟩
  · have h1 := hp.env.size
    have h2 := h.hb
    simp at h1
    omega
  · exact (h.bl.alloc (Nat.le_of_lt h.hb) o).grown hp.env (by have := h.hb; simp; omega) (by intro j hj; cases hj; exact Nat.le_refl _)

theorem FitRel.last {b : Nat} {w0 wr : World} {o : Obj} (h : FitRel b 8 w0 wr) : FitRel b 9 w0 ((wr.alloc o).setCell ⟨b, 10, none⟩ (.int .i64 1)) := by
  obtain ⟨hc, hf⟩ := alloc_cell o h.hb
  have hne : ∀ k, k ≠ 10 → ((wr.alloc o).setCell ⟨b, 10, none⟩ (.int .i64 1)).cell? ⟨b, k, none⟩ = wr.cell? ⟨b, k, none⟩ := by
    intro k hk
    rw [World.cell?_setCell_other _ _ _ _ (by intro e; injection e with _ e2 _; omega)]
    exact hc k
  refine ⟨(hne 8 (by omega)).trans h.c8, (hne 9 (by omega)).trans h.c9, ?_, ?_, ?_, ?_, ?_⟩
  · exact World.cell?_setCell_same' _ _ _ (by rw [hc 10, h.c10]; rfl)
  · intro q hq
    obtain ⟨old, ho⟩ := h.cq q hq
    exact ⟨old, (hne q (by omega)).trans ho⟩
  · intro q; rw [World.frozen?_setCell]; exact (hf q).trans (h.fr q)
  · have := h.hb; simp; omega
  · exact (h.bl.alloc (Nat.le_of_lt h.hb) o).setCell (Nat.le_refl b) _

theorem fit_start (w : World) : FitRel w.heap.size 0 w (w.alloc (.cells #[.slice none 0 0, .slice none 0 0, .slice none 0 0, .slice none 0 0, .slice none 0 0, .slice none 0 0, .slice none 0 0, .slice none 0 0, .int .i64 0, .int .i64 0, .int .i64 0, .slice none 0 0] 27)) := by
  refine ⟨by simp, by simp, by simp, ?_, ?_, by simp, (Below.refl _ _).alloc (Nat.le_refl _) _⟩
  · intro q hq
    match q, hq with
    | 0, _ => exact ⟨.slice none 0 0, by simp⟩
    | 1, _ => exact ⟨.slice none 0 0, by simp⟩
    | 2, _ => exact ⟨.slice none 0 0, by simp⟩
    | 3, _ => exact ⟨.slice none 0 0, by simp⟩
    | 4, _ => exact ⟨.slice none 0 0, by simp⟩
    | 5, _ => exact ⟨.slice none 0 0, by simp⟩
    | 6, _ => exact ⟨.slice none 0 0, by simp⟩
    | 7, _ => exact ⟨.slice none 0 0, by simp⟩
  · intro q; simp

theorem FitRel.push {b k g : Nat} {w0 wr : World} (h : FitRel b k w0 wr) (hk : k < 8) (wa : World) (o : Obj) (ho : wa = wr.alloc o) (hx : wa.cell? ⟨g, 0, none⟩ = some (.int .u8 1)) :
    Calls Try.prog 8 #[.pointer (some ⟨b, 0, none⟩), .slice (some ⟨g, 0, none⟩) 1 1] wa fun e w' => e = .returned (.bool true) ∧ Pushed b k k 1 [.int .u8 1] wa w' := by
  have hz := h.hb
  obtain ⟨hc, hf⟩ := alloc_cell o hz
  obtain ⟨old, hold⟩ := h.cq k hk
  have c9 := h.c9
  rw [show min k 8 = k by omega] at c9
  exact push_one b g 0 k k (.int .u8 1) old wa (by rw [ho, hc]; exact h.c8) (by rw [ho, hc]; exact c9) (by rw [ho, hc]; exact hold) (by omega) (by intro q; rw [ho, hf]; exact h.fr q) (by omega) hk (by rw [ho]; simp; omega) hx rfl
theorem FitRel.over {b : Nat} {w0 wr : World} (h : FitRel b 8 w0 wr) (v : Value) (wa : World) (o : Obj) (ho : wa = wr.alloc o) :
    Calls Try.prog 8 #[.pointer (some ⟨b, 0, none⟩), v] wa fun e w' => e = .returned (.bool false) ∧ wa.setCell ⟨b, 10, none⟩ (.int .i64 (wrap64 (0 + 1))) = w' := by
  obtain ⟨hc, hf⟩ := alloc_cell o h.hb
  exact push_full b v 0 wa (by rw [ho, hc]; exact h.c9) (by rw [ho, hc]; exact h.c10) (by rw [ho, hf]; exact h.fr 10)

set_option maxHeartbeats 1000000 in
theorem fit_any (w : World) : Calls Try.prog 7 #[] w fun e w' => e = .returned (.bool true) ∧ Below w.heap.size w w' := by
  have hs := fit_start w
  have HS := Lib.hid hs
  clear hs
  go_enter Try.func7, Try.ntmps7
  go_wp2_with fail
  go_loopw [2, 3] (fun s2 s3 wr => ∃ k : Nat, k ≤ 9 ∧ s2 = .int .i64 (min k 8 : Nat) ∧ s3 = .int .i64 k ∧ FitRel w.heap.size k w wr) (fun _ s3 _ => 9 - (intOf s3).toNat)
  case atStart => exact ⟨0, by omega, rfl, rfl, HS.out⟩
  case round =>
    obtain ⟨k, hk, rfl, rfl, hr⟩ := hrel
    have hz := hr.hb
    by_cases h8 : k < 8
    · have hp := fun wa o ho hx => FitRel.push (g := wr.heap.size) hr h8 wa o ho hx
      have HP := Lib.hid hp
      have HR := Lib.hid hr
      clear hp hr
      have e1 : min k 8 = k := by omega
      rw [e1]
      go_wp2_with fail
      refine (HP.out _ _ rfl (by simp)).mono ?_
      rintro e w2 ⟨rfl, hpu⟩
      have hr2 := FitRel.step HR.out h8 hpu
      have HR2 := Lib.hid hr2
      clear hr2 hpu
      go_wp2_with fail
      go_roundw
      case rel => exact ⟨k + 1, by omega, by rw [show min (k + 1) 8 = k + 1 by omega]; go_num, by go_num, HR2.out⟩
      case measure => simp [intOf]; omega
    · by_cases h9 : k < 9
      · obtain rfl : k = 8 := by omega
        have hp := fun v wa o ho => FitRel.over hr v wa o ho
        have HP := Lib.hid hp
        have HR := Lib.hid hr
        clear hp hr
        go_wp2_with fail
        refine (HP.out _ _ _ rfl).mono ?_
        rintro e w2 ⟨rfl, hpu⟩
        rw [show wrap64 (0 + 1) = 1 by simp [wrap64]] at hpu
        have hr2 := FitRel.last (o := .cells #[.int .u8 1] 5) HR.out
        rw [hpu] at hr2
        clear hpu
        have HR2 := Lib.hid hr2
        clear hr2
        go_wp2_with fail
        go_roundw
        case rel => exact ⟨9, by omega, rfl, rfl, HR2.out⟩
        case measure => simp [intOf]
      · obtain rfl : k = 9 := by omega
        have hl := lost_any w.heap.size 1 wr hr.c10
        have hn := len_any w.heap.size 8 wr hr.c9
        have HR := Lib.hid hr
        clear hr
        go_wp2_with fail
        refine hl.mono ?_
        rintro e w2 ⟨rfl, rfl⟩
        go_wp2_with fail
        refine hn.mono ?_
        rintro e w2 ⟨rfl, rfl⟩
        go_wp2_with fail
        go_ret
        exact ⟨rfl, HR.out.bl⟩
end Go.Proofs.Ytmnhnjljapabdaa
