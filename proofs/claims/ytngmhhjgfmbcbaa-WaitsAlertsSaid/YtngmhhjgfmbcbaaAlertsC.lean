/- The contracts of alerts that the call has made: Push, Pop, List, Len. Conditions: as each names them. -/
import Derived.Test.YtngmhhjgfmbcbaaOwnRow
import Derived.Deep.RegionHeld3
import Derived.Deep.AppendLies
import Derived.Deep.DrawnRows
set_option linter.unusedVariables false
namespace Go.Proofs.Ytngmhhjgfmbcbaa
open Go.ChangeShapes Go.WideShapes Go.ChangeAt Go.RowKit

theorem info22 : (Try.prog.info? 22).map (fun i => (i.zero, i.size, i.bytes)) = some (some (.int .u64 0), 1, 8) := by kernel_rfl

/-- numbers as cells -/
def nums (xs : List Int) : List Value := xs.map fun x => .int .u64 x
theorem nums_one (xs : List Int) : ∀ u ∈ nums xs, u.oneCell' = true := by
  intro u hu
  obtain ⟨i, _, rfl⟩ := List.mem_map.1 hu
  rfl

/-- the alerts at block b are xs, their slice is v -/
structure Al (b : Nat) (v : Value) (xs : List Int) (w : World) : Prop where
  c : w.cell? ⟨b, 0, none⟩ = some v
  f : w.frozen? ⟨b, 0, none⟩ = false
  o : w.ownsRow (b + 1) 22 1 v xs.length (nums xs)
  hb : b < w.heap.size

/-- only block b, the slice's own row and new blocks may differ -/
structure Side (b : Nat) (v : Value) (w w' : World) : Prop where
  os : w'.os = w.os
  tape : w'.tape = w.tape
  output : w'.output = w.output
  size : w.heap.size ≤ w'.heap.size
  block : ∀ i, i < w.heap.size → i ≠ b → v.ownBlock ≠ some i → w'.heap[i]? = w.heap[i]?

theorem len_any (b : Nat) (v : Value) (xs : List Int) (w : World) (h : Al b v xs w) :
    Calls Try.prog 11 #[.pointer (some ⟨b, 0, none⟩)] w fun e w' => e = .returned (.int .i64 xs.length) ∧ w = w' := by
  have hc := h.c
  rcases own_none h.o with ⟨rfl, h0, _⟩ | ⟨g, cap, rfl, _⟩
  · rw [h0]
    go_enter Try.func11, Try.ntmps11
    go_wp2_with fail
    go_ret
    exact ⟨rfl, rfl⟩
  · go_enter Try.func11, Try.ntmps11
    go_wp2_with fail
    go_ret
    exact ⟨rfl, rfl⟩

theorem push_full (b : Nat) (v : Value) (xs : List Int) (x : Int) (w : World) (h : Al b v xs w) (hn : xs.length = 4) :
    Calls Try.prog 8 #[.pointer (some ⟨b, 0, none⟩), .int .u64 x] w fun e w' => e = .returned (.int .i64 7) ∧ w = w' := by
  have hc := h.c
  have ho := h.o
  rw [hn] at ho
  obtain ⟨g, cap, rfl, _⟩ := own_form ho
  clear h ho
  go_enter Try.func8, Try.ntmps8
  go_wp2_with fail
  go_ret
  exact ⟨rfl, rfl⟩

/-- how a push or a pop leaves things: the alerts are xs, little else differs, the slice lies where it lay or in a new block -/
def Turned (b : Nat) (v : Value) (xs : List Int) (w w' : World) : Prop := ∃ v', Al b v' xs w' ∧ Side b v w w' ∧ (v'.ownBlock = v.ownBlock ∨ v'.ownBlock = none ∨ ∃ k, v'.ownBlock = some k ∧ w.heap.size ≤ k)

theorem nums_append (xs : List Int) (x : Int) : nums (xs ++ [x]) = nums xs ++ [.int .u64 x] := by simp [nums]
theorem nums_length (xs : List Int) : (nums xs).length = xs.length := by simp [nums]

theorem turned_of {b : Nat} {v v' : Value} {xs : List Int} {w w1 : World} {o : Obj} {old : Value} (hg : (w.alloc o).grownBy w1 v.ownBlock) (hr : ∀ k, v.ownBlock = some k → b + 1 ≤ k) (hb : b < w.heap.size) (hc : w.cell? ⟨b, 0, none⟩ = some old) (hf : w.frozen? ⟨b, 0, none⟩ = false)
    (ho : w1.ownsRow (b + 1) 22 1 v' xs.length (nums xs)) (ha : v'.ownBlock = v.ownBlock ∨ v'.ownBlock = none ∨ ∃ k, v'.ownBlock = some k ∧ w.heap.size ≤ k) : Turned b v xs w (w1.setCell ⟨b, 0, none⟩ v') := by
  obtain ⟨hc1, hf1⟩ := grown_one hg hr (Nat.lt_succ_self b) hb
  have hz := hg.size
  simp at hz
  refine ⟨v', ⟨?_, ?_, ownsRow_setCell_below ho (by show b < b + 1; omega) _, by simp; omega⟩, ⟨hg.os, hg.tape, hg.output, by simp; omega, ?_⟩, ha⟩
  · exact World.cell?_setCell_same' w1 _ _ (by rw [hc1 0, hc]; rfl)
  · rw [World.frozen?_setCell]; exact (hf1 0).trans hf
  · intro i hi hib hne
    rw [Below.heap_setCell _ _ _ _ hib]
    exact (hg.block i (by simp; omega) (fun e => hne e.symm)).trans (Below.heap_alloc _ _ _ hi)

theorem push_some (b g cap n : Nat) (xs : List Int) (x : Int) (w : World) (hn : xs.length = n) (h4 : xs.length < 4) (h : Al b (.slice (some ⟨g, 0, none⟩) n cap) xs w) :
    Calls Try.prog 8 #[.pointer (some ⟨b, 0, none⟩), .int .u64 x] w fun e w' => e = .returned (.int .i64 0) ∧ Turned b (.slice (some ⟨g, 0, none⟩) n cap) (xs ++ [x]) w w' := by
  obtain ⟨i0, hi, hz0, hz1, hz2⟩ := info_parts info22
  obtain ⟨hc, hf, ho, hb⟩ := h
  rw [hn] at ho
  have hn1 : ((n : Int) == 4) = false := by rw [beq_eq_false_iff_ne]; omega
  have H := Lib.hid ho
  clear ho
  go_enter Try.func8, Try.ntmps8
  go_wp2_with (first
    | (at_builtin; refine wpList_append_own_at _ rfl (.tmp 15) (.tmp 17) 31 rfl (b + 1) 22 i0 (.int .u64 0) 1 8 Try.underlying31 hi hz0 hz1 hz2 rfl (by decide) _ _ _ rfl (H.out.alloc _) ⟨w.heap.size, 0, none⟩ 1 1 [.int .u64 x] rfl rfl (cell_one_new w _ _) (by simp [Value.oneCell']) (by unfold maxLen; omega) (by omega) (by simp; omega) ?_; intro v' w1 hown' hgrow hnil hat; obtain ⟨g', cap', rfl, hg', hg2, hg3, hg4⟩ := own_form hown'; obtain ⟨hc1, hf1⟩ := grown_one hgrow (own_block H.out) (Nat.lt_succ_self b) hb; have hc2 := (hc1 0).trans hc; have hf2 := (hf1 0).trans hf; have HO := Lib.hid hown'; have HG := Lib.hid hgrow; have HA := Lib.hid hat; clear hown' hgrow hnil hat hc1 hf1)
    | fail)
  go_ret
  refine ⟨rfl, turned_of HG.out (own_block H.out) hb hc hf ?_ ?_⟩
  · have := HO.out
    rw [← nums_append] at this
    rw [show (xs ++ [x]).length = n + 1 by simp [hn]]
    exact this
  · rcases HA.out with e | e
    · exact .inl e
    · exact .inr (.inr ⟨_, e, by simp⟩)

theorem push_none (b : Nat) (xs : List Int) (x : Int) (w : World) (hn : xs.length = 0) (h4 : xs.length < 4) (h : Al b (.slice none 0 0) xs w) :
    Calls Try.prog 8 #[.pointer (some ⟨b, 0, none⟩), .int .u64 x] w fun e w' => e = .returned (.int .i64 0) ∧ Turned b (.slice none 0 0) (xs ++ [x]) w w' := by
  obtain ⟨i0, hi, hz0, hz1, hz2⟩ := info_parts info22
  obtain ⟨hc, hf, ho, hb⟩ := h
  rw [hn] at ho
  have H := Lib.hid ho
  clear ho
  go_enter Try.func8, Try.ntmps8
  go_wp2_with (first
    | (at_builtin; refine wpList_append_own_at _ rfl (.tmp 15) (.tmp 17) 31 rfl (b + 1) 22 i0 (.int .u64 0) 1 8 Try.underlying31 hi hz0 hz1 hz2 rfl (by decide) _ _ _ rfl (H.out.alloc _) ⟨w.heap.size, 0, none⟩ 1 1 [.int .u64 x] rfl rfl (cell_one_new w _ _) (by simp [Value.oneCell']) (by unfold maxLen; omega) (by omega) (by simp; omega) ?_; intro v' w1 hown' hgrow hnil hat; obtain ⟨g', cap', rfl, hg', hg2, hg3, hg4⟩ := own_form hown'; obtain ⟨hc1, hf1⟩ := grown_one hgrow (own_block H.out) (Nat.lt_succ_self b) hb; have hc2 := (hc1 0).trans hc; have hf2 := (hf1 0).trans hf; have HO := Lib.hid hown'; have HG := Lib.hid hgrow; have HA := Lib.hid hat; clear hown' hgrow hnil hat hc1 hf1)
    | fail)
  go_ret
  refine ⟨rfl, turned_of HG.out (own_block H.out) hb hc hf ?_ ?_⟩
  · have := HO.out
    rw [← nums_append] at this
    rw [show (xs ++ [x]).length = 0 + 1 by simp [hn]]
    exact this
  · rcases HA.out with e | e
    · exact .inl e
    · exact .inr (.inr ⟨_, e, by simp⟩)

theorem own_pos {w : World} {base size n : Nat} {e : TypeId} {v : Value} {xs : List Value} (hn : 0 < n) (h : w.ownsRow base e size v n xs) : ∃ g cap, v = .slice (some ⟨g, 0, none⟩) n cap ∧ base ≤ g ∧ g < w.heap.size ∧ n ≤ cap ∧ cap ≤ maxLen := by
  rcases own_none h with ⟨_, h0, _⟩ | h
  · omega
  · exact h

theorem turned_new {b : Nat} {v v' : Value} {xs : List Int} {w w1 : World} {old : Value} (hg : w.grownBy w1 none) (hb : b < w.heap.size) (hc : w.cell? ⟨b, 0, none⟩ = some old) (hf : w.frozen? ⟨b, 0, none⟩ = false)
    (ho : w1.ownsRow w.heap.size 22 1 v' xs.length (nums xs)) : Turned b v xs w (w1.setCell ⟨b, 0, none⟩ v') := by
  have hh : w1.heap[b]? = w.heap[b]? := hg.block b hb (fun e => by cases e)
  have hz := hg.size
  have ho2 : w1.ownsRow (b + 1) 22 1 v' xs.length (nums xs) := by
    obtain ⟨hl, hc | ⟨g', cap, cur, h1, h2, h3⟩⟩ := ho
    · exact ⟨hl, .inl hc⟩
    · exact ⟨hl, .inr ⟨g', cap, cur, h1, by omega, h3⟩⟩
  refine ⟨v', ⟨?_, ?_, ownsRow_setCell_below ho2 (by show b < b + 1; omega) _, by simp; omega⟩, ⟨hg.os, hg.tape, hg.output, by simp; omega, ?_⟩, ?_⟩
  · exact World.cell?_setCell_same' w1 _ _ (by rw [World.cell?_of_block (w := w) (a := ⟨b, 0, none⟩) hh, hc]; rfl)
  · rw [World.frozen?_setCell]; exact (World.frozen?_of_block (w := w) (a := ⟨b, 0, none⟩) hh).trans hf
  · intro i hi hib hne
    rw [Below.heap_setCell _ _ _ _ hib]
    exact hg.block i hi (fun e => by cases e)
  · rcases own_none ho with ⟨rfl, _, _⟩ | ⟨g, cap, rfl, hg2, _⟩
    · exact .inr (.inl rfl)
    · exact .inr (.inr ⟨g, rfl, hg2⟩)

theorem push_any (b : Nat) (v : Value) (xs : List Int) (x : Int) (w : World) (h4 : xs.length < 4) (h : Al b v xs w) :
    Calls Try.prog 8 #[.pointer (some ⟨b, 0, none⟩), .int .u64 x] w fun e w' => e = .returned (.int .i64 0) ∧ Turned b v (xs ++ [x]) w w' := by
  rcases own_none h.o with ⟨rfl, h0, _⟩ | ⟨g, cap, rfl, _⟩
  · exact push_none b xs x w h0 h4 h
  · exact push_some b g cap _ xs x w rfl h4 h

theorem pop_none (b : Nat) (v : Value) (w : World) (h : Al b v [] w) :
    Calls Try.prog 9 #[.pointer (some ⟨b, 0, none⟩)] w fun e w' => e = .returned (.tuple #[.int .u64 0, .int .i64 2]) ∧ w = w' := by
  have hc := h.c
  rcases own_none h.o with ⟨rfl, _, _⟩ | ⟨g, cap, rfl, _⟩
  · go_enter Try.func9, Try.ntmps9
    go_wp2_with fail
    exact bodyPost_ret (v := .tuple #[.int .u64 0, .int .i64 2]) (by simp [results, Try.results9, go_sem]) rfl ⟨rfl, rfl⟩
  · go_enter Try.func9, Try.ntmps9
    go_wp2_with fail
    exact bodyPost_ret (v := .tuple #[.int .u64 0, .int .i64 2]) (by simp [results, Try.results9, go_sem]) rfl ⟨rfl, rfl⟩

theorem pop_more (b g cap n : Nat) (x : Int) (xs : List Int) (w : World) (hn : xs.length = n) (hn0 : 0 < n) (hn4 : n ≤ 4) (h : Al b (.slice (some ⟨g, 0, none⟩) (n + 1) cap) (x :: xs) w) (hcap : n + 1 ≤ cap) :
    Calls Try.prog 9 #[.pointer (some ⟨b, 0, none⟩)] w fun e w' => e = .returned (.tuple #[.int .u64 x, .int .i64 0]) ∧ Turned b (.slice (some ⟨g, 0, none⟩) (n + 1) cap) xs w w' := by
  obtain ⟨i0, hi, hz0, hz1, hz2⟩ := info_parts info22
  obtain ⟨hc, hf, ho, hb⟩ := h
  have hcs := ho.cells (g := g) rfl
  have h0 : w.cell? ⟨g, 0, none⟩ = some (.int .u64 x) := hcs 0 _ (by simp [nums])
  have hnews : ∀ j u, (nums xs)[j]? = some u → w.cell? ((⟨g, 1, none⟩ : Addr).add j) = some u := by
    intro j u hu
    have := hcs (j + 1) u (by simpa [nums] using hu)
    unfold Addr.add at this ⊢
    split
    · rename_i e; subst e; simpa using this
    · simpa [Nat.add_comm] using this
  have hn1 : ((n : Int) + 1 == 0) = false := by rw [beq_eq_false_iff_ne]; omega
  have hnI : (1 : Int) ≤ (n : Int) + 1 := by omega
  have hcI : ¬ cap = 1 := by omega
  have HN := Lib.hid hnews
  have HR := Lib.hid (own_block ho)
  have H0 := Lib.hid hn0
  clear hnews hcs ho hn0
  go_enter Try.func9, Try.ntmps9
  go_wp2_with (first
    | (at_builtin; refine wpList_append_own_at _ rfl (.const (.slice none 0 0)) (.tmp 22) 31 rfl w.heap.size 22 i0 (.int .u64 0) 1 8 Try.underlying31 hi hz0 hz1 hz2 rfl (by decide) (.slice none 0 0) 0 [] rfl (World.ownsRow_nil _ _ _ _) ⟨g, 1, none⟩ n (cap - 1) (nums xs) rfl (by rw [nums_length]; omega) HN.out (nums_one xs) (by unfold maxLen; omega) (by omega) (Nat.le_refl _) ?_; intro v' w1 hown' hgrow hnil hat; rw [Nat.zero_add, List.nil_append] at hown'; obtain ⟨g', cap', rfl, hg', hg2, hg3, hg4⟩ := own_pos H0.out hown'; have hh : w1.heap[b]? = w.heap[b]? := hgrow.block b hb (fun e => by simp [Value.ownBlock] at e); have hc2 := (World.cell?_of_block (w := w) (a := ⟨b, 0, none⟩) hh).trans hc; have hf2 := (World.frozen?_of_block (w := w) (a := ⟨b, 0, none⟩) hh).trans hf; have HO := Lib.hid hown'; have HG := Lib.hid hgrow; clear hown' hgrow hnil hat hh)
    | fail)
  refine bodyPost_ret (v := .tuple #[.int .u64 x, .int .i64 0]) (by simp [results, Try.results9, go_sem]) rfl ⟨rfl, ?_⟩
  refine turned_new HG.out hb hc hf ?_
  rw [hn]
  exact HO.out

theorem pop_one (b g cap : Nat) (x : Int) (w : World) (h : Al b (.slice (some ⟨g, 0, none⟩) 1 cap) [x] w) (hcap : 1 ≤ cap) :
    Calls Try.prog 9 #[.pointer (some ⟨b, 0, none⟩)] w fun e w' => e = .returned (.tuple #[.int .u64 x, .int .i64 0]) ∧ Turned b (.slice (some ⟨g, 0, none⟩) 1 cap) [] w w' := by
  obtain ⟨hc, hf, ho, hb⟩ := h
  have h0 : w.cell? ⟨g, 0, none⟩ = some (.int .u64 x) := ho.cells (g := g) rfl 0 _ (by simp [nums])
  clear ho
  have hz : w.grownBy w none := ⟨rfl, rfl, rfl, Nat.le_refl _, fun _ _ _ => rfl⟩
  by_cases c1 : cap = 1
  · subst c1
    go_enter Try.func9, Try.ntmps9
    go_wp2_with fail
    exact bodyPost_ret (v := .tuple #[.int .u64 x, .int .i64 0]) (by simp [results, Try.results9, go_sem]) rfl ⟨rfl, turned_new hz hb hc hf (World.ownsRow_nil _ _ _ _)⟩
  · go_enter Try.func9, Try.ntmps9
    go_wp2_with fail
    exact bodyPost_ret (v := .tuple #[.int .u64 x, .int .i64 0]) (by simp [results, Try.results9, go_sem]) rfl ⟨rfl, turned_new hz hb hc hf (World.ownsRow_nil _ _ _ _)⟩

theorem pop_any (b : Nat) (v : Value) (x : Int) (xs : List Int) (w : World) (h4 : xs.length < 4) (h : Al b v (x :: xs) w) :
    Calls Try.prog 9 #[.pointer (some ⟨b, 0, none⟩)] w fun e w' => e = .returned (.tuple #[.int .u64 x, .int .i64 0]) ∧ Turned b v xs w w' := by
  obtain ⟨g, cap, rfl, _, _, hcap, _⟩ := own_pos (by simp) h.o
  cases xs with
  | nil => exact pop_one b g cap x w h hcap
  | cons y ys => exact pop_more b g cap (ys.length + 1) x (y :: ys) w rfl (by omega) (by simp at h4; omega) h hcap

theorem list_some (b g cap n : Nat) (xs : List Int) (w : World) (hn : xs.length = n) (hn0 : 0 < n) (hn4 : n ≤ 4) (h : Al b (.slice (some ⟨g, 0, none⟩) n cap) xs w) :
    Calls Try.prog 10 #[.pointer (some ⟨b, 0, none⟩)] w fun e w' => ∃ v', e = .returned v' ∧ w'.ownsRow w.heap.size 22 1 v' n (nums xs) ∧ Below w.heap.size w w' := by
  obtain ⟨i0, hi, hz0, hz1, hz2⟩ := info_parts info22
  obtain ⟨hc, hf, ho, hb⟩ := h
  have hcs := ho.cells (g := g) rfl
  have HC := Lib.hid hcs
  clear hcs ho
  go_enter Try.func10, Try.ntmps10
  go_wp2_with (first
    | (at_builtin; refine wpList_append_own_at _ rfl (.const (.slice none 0 0)) (.tmp 6) 31 rfl w.heap.size 22 i0 (.int .u64 0) 1 8 Try.underlying31 hi hz0 hz1 hz2 rfl (by decide) (.slice none 0 0) 0 [] rfl (World.ownsRow_nil _ _ _ _) ⟨g, 0, none⟩ n cap (nums xs) rfl (by rw [nums_length]; omega) HC.out (nums_one xs) (by unfold maxLen; omega) (by omega) (Nat.le_refl _) ?_; intro v' w1 hown' hgrow hnil hat; rw [Nat.zero_add, List.nil_append] at hown'; have hbl := (Below.refl w.heap.size w).grown hgrow (Nat.le_refl _) (by intro k hk; simp [Value.ownBlock] at hk); have HO := Lib.hid hown'; clear hown' hgrow hnil hat)
    | fail)
  go_ret
  exact ⟨_, rfl, HO.out, hbl⟩

theorem list_any (b : Nat) (v : Value) (xs : List Int) (w : World) (h4 : xs.length ≤ 4) (h : Al b v xs w) :
    Calls Try.prog 10 #[.pointer (some ⟨b, 0, none⟩)] w fun e w' => ∃ v', e = .returned v' ∧ w'.ownsRow w.heap.size 22 1 v' xs.length (nums xs) ∧ Below w.heap.size w w' := by
  by_cases h0 : 0 < xs.length
  · obtain ⟨g, cap, rfl, _⟩ := own_pos h0 h.o
    exact list_some b g cap _ xs w rfl h0 h4 h
  · have e : xs = [] := List.eq_nil_of_length_eq_zero (by omega)
    subst e
    have hc := h.c
    rcases own_none h.o with ⟨rfl, _, _⟩ | ⟨g, cap, rfl, _⟩
    · go_enter Try.func10, Try.ntmps10
      go_wp2_with fail
      go_ret
      exact ⟨_, rfl, World.ownsRow_nil _ _ _ _, Below.refl _ _⟩
    · go_enter Try.func10, Try.ntmps10
      go_wp2_with fail
      go_ret
      exact ⟨_, rfl, World.ownsRow_nil _ _ _ _, Below.refl _ _⟩
end Go.Proofs.Ytngmhhjgfmbcbaa
