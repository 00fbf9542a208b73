/- The contracts of ring.Put and ring.Out at a ring that the call has made. Conditions: as each names them. -/
import Derived.Test.YtmnhnjljapabdaaOwnRow
set_option linter.unusedVariables false
namespace Go.Proofs.Ytmnhnjljapabdaa
open Go.ChangeShapes Go.WideShapes Go.ChangeAt Go.RowKit

theorem info33 : (Try.prog.info? 33).map (fun i => (i.zero, i.size, i.bytes)) = some (some (.int .u64 0), 1, 8) := by kernel_rfl

theorem put_some (b g cap : Nat) (x : Int) (n : Nat) (xs : List Value) (w : World) (hc : w.cell? ⟨b, 11, none⟩ = some (.slice (some ⟨g, 0, none⟩) n cap)) (hf : w.frozen? ⟨b, 11, none⟩ = false)
    (hown : w.ownsRow (b + 1) 33 1 (.slice (some ⟨g, 0, none⟩) n cap) n xs) (hn : n < 1024) (hb : b < w.heap.size) :
    Calls Try.prog 11 #[.pointer (some ⟨b, 0, none⟩), .int .u64 x] w fun e w' => e = .returned (.bool true) ∧
      ∃ v', w'.cell? ⟨b, 11, none⟩ = some v' ∧ w'.frozen? ⟨b, 11, none⟩ = false ∧ w'.ownsRow (b + 1) 33 1 v' (n + 1) (xs ++ [.int .u64 x]) ∧ Below b w w' := by
  obtain ⟨i0, hi, hz0, hz1, hz2⟩ := info_parts info33
  have hn1 : ((n : Int) == 1024) = false := by rw [beq_eq_false_iff_ne]; omega
  have H := Lib.hid hown
  clear hown
  go_enter Try.func11, Try.ntmps11
  go_wp2_with (first
    | (at_builtin; refine wpList_append_own_at _ rfl (.tmp 19) (.tmp 21) 25 rfl (b + 1) 33 i0 (.int .u64 0) 1 8 Try.underlying25 hi hz0 hz1 hz2 rfl (by decide) _ _ _ rfl (H.out.alloc _) ⟨w.heap.size, 0, none⟩ 1 1 [.int .u64 x] rfl rfl (cell_one_new w _ _) (by simp [Value.oneCell']) (by unfold maxLen; omega) (by omega) (by simp; omega) ?_; intro v' w1 hown' hgrow hnil hat; obtain ⟨g', cap', rfl, hg', hg2, hg3, hg4⟩ := own_form hown'; obtain ⟨hc1, hf1⟩ := grown_one hgrow (own_block H.out) (Nat.lt_succ_self b) hb; have hc2 := (hc1 11).trans hc; have hf2 := (hf1 11).trans hf; have hbl := grown_below hgrow (own_block H.out) (Nat.le_succ b) (Nat.le_of_lt hb); have HO := Lib.hid hown'; clear hown' hgrow hnil hat hc1 hf1)
    | fail)
  go_ret
  refine ⟨rfl, _, ?_, ?_, ownsRow_setCell_below HO.out (by show b < b + 1; omega) _, hbl.setCell (Nat.le_refl b) _⟩
  · exact World.cell?_setCell_same' w1 _ _ (by rw [hc2]; rfl)
  · exact (World.frozen?_setCell _ _ _ _).trans hf2

theorem put_none (b : Nat) (x : Int) (xs : List Value) (w : World) (hc : w.cell? ⟨b, 11, none⟩ = some (.slice none 0 0)) (hf : w.frozen? ⟨b, 11, none⟩ = false)
    (hown : w.ownsRow (b + 1) 33 1 (.slice none 0 0) 0 xs) (hb : b < w.heap.size) :
    Calls Try.prog 11 #[.pointer (some ⟨b, 0, none⟩), .int .u64 x] w fun e w' => e = .returned (.bool true) ∧
      ∃ v', w'.cell? ⟨b, 11, none⟩ = some v' ∧ w'.frozen? ⟨b, 11, none⟩ = false ∧ w'.ownsRow (b + 1) 33 1 v' (0 + 1) (xs ++ [.int .u64 x]) ∧ Below b w w' := by
  obtain ⟨i0, hi, hz0, hz1, hz2⟩ := info_parts info33
  have H := Lib.hid hown
  clear hown
  go_enter Try.func11, Try.ntmps11
  go_wp2_with (first
    | (at_builtin; refine wpList_append_own_at _ rfl (.tmp 19) (.tmp 21) 25 rfl (b + 1) 33 i0 (.int .u64 0) 1 8 Try.underlying25 hi hz0 hz1 hz2 rfl (by decide) _ _ _ rfl (H.out.alloc _) ⟨w.heap.size, 0, none⟩ 1 1 [.int .u64 x] rfl rfl (cell_one_new w _ _) (by simp [Value.oneCell']) (by unfold maxLen; omega) (by omega) (by simp; omega) ?_; intro v' w1 hown' hgrow hnil hat; obtain ⟨g', cap', rfl, hg', hg2, hg3, hg4⟩ := own_form hown'; obtain ⟨hc1, hf1⟩ := grown_one hgrow (own_block H.out) (Nat.lt_succ_self b) hb; have hc2 := (hc1 11).trans hc; have hf2 := (hf1 11).trans hf; have hbl := grown_below hgrow (own_block H.out) (Nat.le_succ b) (Nat.le_of_lt hb); have HO := Lib.hid hown'; clear hown' hgrow hnil hat hc1 hf1)
    | fail)
  go_ret
  refine ⟨rfl, _, ?_, ?_, ownsRow_setCell_below HO.out (by show b < b + 1; omega) _, hbl.setCell (Nat.le_refl b) _⟩
  · exact World.cell?_setCell_same' w1 _ _ (by rw [hc2]; rfl)
  · exact (World.frozen?_setCell _ _ _ _).trans hf2

theorem put_any (b : Nat) (x : Int) (n : Nat) (v : Value) (xs : List Value) (w : World) (hc : w.cell? ⟨b, 11, none⟩ = some v) (hf : w.frozen? ⟨b, 11, none⟩ = false)
    (hown : w.ownsRow (b + 1) 33 1 v n xs) (hn : n < 1024) (hb : b < w.heap.size) :
    Calls Try.prog 11 #[.pointer (some ⟨b, 0, none⟩), .int .u64 x] w fun e w' => e = .returned (.bool true) ∧
      ∃ v', w'.cell? ⟨b, 11, none⟩ = some v' ∧ w'.frozen? ⟨b, 11, none⟩ = false ∧ w'.ownsRow (b + 1) 33 1 v' (n + 1) (xs ++ [.int .u64 x]) ∧ Below b w w' := by
  rcases own_none hown with ⟨rfl, rfl, _⟩ | ⟨g, cap, rfl, _⟩
  · exact put_none b x xs w hc hf hown hb
  · exact put_some b g cap x n xs w hc hf hown hn hb

theorem put_full (b g cap : Nat) (x : Int) (w : World) (hc : w.cell? ⟨b, 11, none⟩ = some (.slice (some ⟨g, 0, none⟩) 1024 cap)) :
    Calls Try.prog 11 #[.pointer (some ⟨b, 0, none⟩), .int .u64 x] w fun e w' => e = .returned (.bool false) ∧ w = w' := by
  go_enter Try.func11, Try.ntmps11
  go_wp2_with fail
  go_ret
  exact ⟨rfl, rfl⟩

theorem out_any (b g cap n : Nat) (xs : List Value) (w : World) (hc : w.cell? ⟨b, 11, none⟩ = some (.slice (some ⟨g, 0, none⟩) n cap))
    (hown : w.ownsRow (b + 1) 33 1 (.slice (some ⟨g, 0, none⟩) n cap) n xs) (h1 : ∀ u ∈ xs, u.oneCell' = true) (hn : n ≤ 1024) :
    Calls Try.prog 12 #[.pointer (some ⟨b, 0, none⟩)] w fun e w' => ∃ v', e = .returned v' ∧ w'.ownsRow w.heap.size 33 1 v' n xs ∧ Below w.heap.size w w' := by
  obtain ⟨i0, hi, hz0, hz1, hz2⟩ := info_parts info33
  have hl : xs.length = n * 1 := hown.1
  have hcs := hown.cells (g := g) rfl
  have H := Lib.hid hown
  have HC := Lib.hid hcs
  clear hown hcs
  go_enter Try.func12, Try.ntmps12
  go_wp2_with (first
    | (at_builtin; refine wpList_append_own_at _ rfl (.const (.slice none 0 0)) (.tmp 8) 25 rfl w.heap.size 33 i0 (.int .u64 0) 1 8 Try.underlying25 hi hz0 hz1 hz2 rfl (by decide) (.slice none 0 0) 0 [] rfl (World.ownsRow_nil _ _ _ _) ⟨g, 0, none⟩ n cap xs rfl hl HC.out h1 (by unfold maxLen; omega) (by omega) (Nat.le_refl _) ?_; intro v' w1 hown' hgrow hnil hat; rw [Nat.zero_add, List.nil_append] at hown'; have hbl := (Below.refl w.heap.size w).grown hgrow (Nat.le_refl _) (by intro k hk; simp [Value.ownBlock] at hk); have HO := Lib.hid hown'; clear hown' hgrow hnil hat)
    | fail)
  go_ret
  exact ⟨_, rfl, HO.out, hbl⟩
end Go.Proofs.Ytmnhnjljapabdaa
