/- The walk of the law RingRuns: the law returns true at all calls and changes nothing that existed. Conditions: as each theorem names them. -/
import Derived.Test.YtmnhnjljapabdaaRingGive
import Derived.Test.YtmnhnjljapabdaaRingQuiet
import Derived.Test.YtmnhnjljapabdaaRingCutB
import Derived.Deep.DeepCutAuto
import Derived.Deep.CutBlock
import Derived.Outline
import Derived.Lib.BufferWrite
import Derived.Deep.QuietTactic
import Derived.BigQuiet
set_option linter.unusedVariables false
namespace Go.Proofs.Ytmnhnjljapabdaa
open Go.ChangeShapes Go.WideShapes Go.ChangeAt Go.RowKit Go.Shelf
open Go.Lib (Bytes)
open Go.BigFrame
attribute [local go_sem] Oper.semAt_some

theorem kind3 (K : Int) : ∃ r : Int, (K.tmod 3 + 3).tmod 3 = r ∧ (r = 0 ∨ r = 1 ∨ r = 2) ∧ -3 < K.tmod 3 ∧ K.tmod 3 < 3 := by
  have h1 : (K.tmod 3).natAbs < 3 := by rw [Int.natAbs_tmod]; exact Nat.mod_lt _ (by decide)
  have h2 : (K.tmod 3 + 3).tmod 3 = (K.tmod 3 + 3) % 3 := Int.tmod_eq_emod_of_nonneg (by omega)
  exact ⟨_, rfl, by omega, by omega, by omega⟩

theorem RI.out_run {R a lost : Nat} {f : Nat → Value} {lv ov outv : Value} {ps qs : List ByteArray} {xs ys : List Value} {w1 wr : World} (h : RI R a f lv ov outv lost ps qs xs ys w1 wr) (x : Int) (hy : ys.length < 1000) :
    ∃ outv' w', (Builtin.append_ #[25, 25] 25 #[outv, .slice (some ⟨wr.heap.size, 0, none⟩) 1 1]).run Try.prog (wr.alloc (.cells #[.int .u64 x] 33)) = .ok outv' w' ∧ RI R a f lv ov outv' lost ps qs xs (ys ++ [.int .u64 x]) w1 w' := by
  obtain ⟨i0, hi, hz0, hz1, hz2⟩ := info_parts info33
  have h1 := h.alloc (.cells #[.int .u64 x] 33)
  have hz := h.lz
  obtain ⟨v', w', hr, ho, hg, _, hat⟩ := run_append_own_at (P := Try.prog) (wr.alloc (.cells #[.int .u64 x] 33)) (R + 2) 25 25 33 i0 (.int .u64 0) 1 8 Try.underlying25 hi hz0 hz1 hz2 rfl (by decide) outv ys.length ys h1.ou ⟨wr.heap.size, 0, none⟩ 1 1 [.int .u64 x] rfl (cell_one_new wr _ _) (by simp [Value.oneCell']) (by unfold maxLen; omega) (by omega) (by simp; omega)
  have hlow : ∀ b, b < R + 2 → some b ≠ outv.ownBlock := fun b hb e => by have := (h.ou.lt b e.symm).1; omega
  have hbk : ∀ b, b < R + 2 → w'.heap[b]? = (wr.alloc (.cells #[.int .u64 x] 33)).heap[b]? := fun b hb => hg.block b (by simp; omega) (hlow b hb)
  have hc : ∀ q, w'.cell? ⟨R, q, none⟩ = (wr.alloc (.cells #[.int .u64 x] 33)).cell? ⟨R, q, none⟩ := fun q => World.cell?_of_block (a := ⟨R, q, none⟩) (hbk R (by omega))
  have hsz := hg.size
  simp only [World.size_alloc] at hsz
  refine ⟨v', w', hr, h.ha, ⟨(hc 8).trans h1.ring.c8, (hc 9).trans h1.ring.c9, fun q hq => (hc q).trans (h1.ring.cq q hq), fun q => (World.frozen?_of_block (a := ⟨R, q, none⟩) (hbk R (by omega))).trans (h1.ring.fr q), by omega, h1.ring.bl.grown hg (by simp; omega) (fun k hk => by have := (h.ou.lt k hk).1; omega)⟩, h.le8, fun j hj => ⟨(h1.pk j hj).1.kept hg (own_ne (h1.pk j hj).1.own h1.ou (by decide)), (h.pk j hj).2⟩, (hc 10).trans h1.c10, (hc 11).trans h1.c11,
    h1.ow.kept hg h.d3, by simpa using ho, ?_, (World.cell?_of_block (a := ⟨R + 1, 0, none⟩) (hbk (R + 1) (by omega))).trans h1.lb, (World.frozen?_of_block (a := ⟨R + 1, 0, none⟩) (hbk (R + 1) (by omega))).trans h1.lf, by omega, h1.ls.kept hg (h1.ls.ne' h1.ou (by decide))⟩
  rcases hat with e | e
  · rw [e]; exact h.d3
  · right
    rw [e]
    intro e2
    have := (h.ow.lt _ e2).2
    simp at this
    omega
theorem out_nil (b : Nat) (w : World) (hc : w.cell? ⟨b, 11, none⟩ = some (.slice none 0 0)) : Calls Try.prog 12 #[.pointer (some ⟨b, 0, none⟩)] w fun e w' => e = .returned (.slice none 0 0) ∧ w = w' := by
  go_enter Try.func12, Try.ntmps12
  go_wp2_with fail
  go_ret
  exact ⟨rfl, rfl⟩
/-- the numbers that went out, given as a copy -/
theorem RI.out_call {R a lost : Nat} {f : Nat → Value} {lv ov outv : Value} {ps qs : List ByteArray} {zs : List Int} {ys : List Value} {w1 wr : World} (h : RI R a f lv ov outv lost ps qs (zs.map (Value.int .u64)) ys w1 wr) (hx : zs.length ≤ 1024) :
    Calls Try.prog 12 #[.pointer (some ⟨R, 0, none⟩)] wr fun e w' => ∃ go gc, e = .returned (.slice go zs.length gc) ∧ (∀ i (hi : i < zs.length), ∃ g, go = some ⟨g, 0, none⟩ ∧ w'.cell? ⟨g, i, none⟩ = some (.int .u64 zs[i])) ∧ Below wr.heap.size wr w' := by
  rcases own_none h.ow with ⟨hov, hn, _⟩ | ⟨g, cap, hov, _⟩
  · rw [List.length_map] at hn
    refine (out_nil R wr (by rw [h.c11, hov])).mono ?_
    rintro e w' ⟨rfl, rfl⟩
    exact ⟨none, 0, by rw [hn], fun i hi => by omega, Below.refl _ _⟩
  · have ho := own_lower h.ow (show R + 1 ≤ R + 2 by omega)
    have hc := h.c11
    rw [hov] at ho hc
    refine (out_any R g cap _ _ wr hc ho (by intro u hu; obtain ⟨z, _, rfl⟩ := List.mem_map.1 hu; rfl) (by simpa using hx)).mono ?_
    rintro e w' ⟨v', rfl, ho', hb⟩
    rw [List.length_map] at ho'
    rcases own_none ho' with ⟨h1, h2, _⟩ | ⟨g', cap', h1, _⟩
    · exact ⟨none, 0, by rw [h1, h2], fun i hi => by omega, hb⟩
    · subst h1
      refine ⟨some ⟨g', 0, none⟩, cap', rfl, fun i hi => ⟨g', rfl, ?_⟩, hb⟩
      have := ho'.cells (g := g') rfl i (.int .u64 zs[i]) (by simp [hi])
      rw [add_at] at this
      simpa using this
/-- all that the law holds lies below block N -/
structure Low (N R a : Nat) (f : Nat → Value) (lv ov outv : Value) (n : Nat) : Prop where
  r : R + 2 ≤ N
  p : ∀ j, j < n → ∀ q, (f ((a + j) % 8)).ownBlock = some q → q < N
  l : ∀ q, lv.ownBlock = some q → q < N
  o : ∀ q, ov.ownBlock = some q → q < N
  u : ∀ q, outv.ownBlock = some q → q < N
theorem RI.low {R a lost : Nat} {f : Nat → Value} {lv ov outv : Value} {ps qs : List ByteArray} {xs ys : List Value} {w1 wr : World} (h : RI R a f lv ov outv lost ps qs xs ys w1 wr) : Low wr.heap.size R a f lv ov outv ps.length :=
  ⟨h.lz, fun j hj q hq => ((h.pk j hj).1.base_le q hq).2, fun q hq => (h.ls.block q hq).2.1, fun q hq => (h.ow.lt q hq).2, fun q hq => (h.ou.lt q hq).2⟩
theorem RI.far {N R a lost : Nat} {f : Nat → Value} {lv ov outv : Value} {ps qs : List ByteArray} {xs ys : List Value} {w1 wr w' : World} {row : Option Nat} (h : RI R a f lv ov outv lost ps qs xs ys w1 wr) (hL : Low N R a f lv ov outv ps.length) (hg : wr.grownBy w' row) (hr : ∀ k, row = some k → N ≤ k) : RI R a f lv ov outv lost ps qs xs ys w1 w' := by
  have hv : ∀ v : Value, (∀ q, v.ownBlock = some q → q < N) → v.ownBlock = none ∨ v.ownBlock ≠ row := fun v hb => by
    cases hq : v.ownBlock with
    | none => exact .inl rfl
    | some q => right; intro e; have h1 := hb q hq; have h2 := hr q e.symm; omega
  have hlow : ∀ b, b < N → some b ≠ row := fun b hb e => by have := hr b e.symm; omega
  have h0 := hL.r
  exact ⟨h.ha, h.ring.grown hg (fun k hk => by have := hr k hk; omega), h.le8, fun j hj => ⟨(h.pk j hj).1.kept hg (hv _ (hL.p j hj)), (h.pk j hj).2⟩, hg.cell h.c10 (hlow R (by omega)), hg.cell h.c11 (hlow R (by omega)), h.ow.kept hg (hv _ hL.o), h.ou.kept hg (hv _ hL.u), h.d3, hg.cell h.lb (hlow (R + 1) (by omega)),
    (World.frozen?_of_block (a := ⟨R + 1, 0, none⟩) (hg.block (R + 1) (by have := h.lz; omega) (hlow (R + 1) (by omega)))).trans h.lf, Nat.le_trans h.lz hg.size, h.ls.kept hg (hv _ hL.l)⟩
theorem retc_true {b : Nat} {tm : Array Value} {w W : World} (h2 : tm.getD 2 undef = .pointer (some ⟨b, 0, none⟩)) (hc : W.cell? ⟨b, 0, none⟩ = some (.bool true)) (hB : Below w.heap.size w W) :
    bodyPostM Fence.wide 2 Try.prog Try.f5 (fun e w' => e = .returned (.bool true) ∧ Below w.heap.size w w') .ret { tmps := tm, defers := [] } W := by
  refine ⟨.bool true, ?_, rfl, hB⟩
  rw [Array.getD_eq_getD_getElem?] at h2
  simp [results, Try.f5, go_sem, h2, hc]
theorem retc_mark {b D : Nat} {tm : Array Value} {w W : World} (h2 : tm.getD 2 undef = .pointer (some ⟨b, 0, none⟩)) (hc : W.cell? ⟨b, 0, none⟩ = some (.bool true)) (hB : Below w.heap.size w W) (hD : w.heap.size ≤ D) (hb : b ≠ D) (hK : W.heap[D]? = some (.deferred (some []))) :
    bodyPostM Fence.wide 2 Try.prog Try.f5 (fun e w' => e = .returned (.bool true) ∧ Below w.heap.size w w') .ret { tmps := tm, defers := [{ target := .collected D, args := #[] }] } W := by
  have hc2 : (W.putObj D (.deferred none)).cell? ⟨b, 0, none⟩ = some (.bool true) := (World.cell?_of_block (a := ⟨b, 0, none⟩) (World.putObj_heap_other hb)).trans hc
  refine ⟨by simp, .inl ⟨_, _, rfl, run_takeDeferred hK, ?_⟩⟩
  refine ⟨.bool true, ?_, rfl, hB.grown (grownBy_putObj' _ _ _) hB.size (fun k hk => by cases hk; exact hD)⟩
  rw [Array.getD_eq_getD_getElem?] at h2
  simp [results, Try.f5, go_sem, h2, hc2]

/-- the blocks that a round of the range keeps -/
def KR (N R a : Nat) (f : Nat → Value) (n : Nat) (q : Nat) : Prop := q = N + 1 ∨ q = R ∨ ∃ j, j < n ∧ (f ((a + j) % 8)).ownBlock = some q
/-- the k-th packet -/
def nth (ps : List ByteArray) (k : Nat) : ByteArray := ps[k]?.getD ByteArray.empty
theorem nth_at {ps : List ByteArray} {k : Nat} (h : k < ps.length) : nth ps k = ps[k] := by simp [nth, h]

set_option maxRecDepth 100000 in
set_option maxHeartbeats 4000000 in
theorem lawRR_some (cao : Option Addr) (m cc : Nat) (kd : Nat → Int) (dv : Nat → Value) (D : Nat → ByteArray) (xv : Nat → Int) (hm : m ≤ 300) (w : World)
    (hk : ∀ i, i < m → -9223372036854775808 ≤ kd i ∧ kd i ≤ 9223372036854775807)
    (hca : 0 < m → ∃ ca, cao = some ca ∧ ∀ i, i < m → w.cell? (ca.add (i * 3)) = some (.int .i64 (kd i)) ∧ w.cell? ((ca.add (i * 3)).add 1) = some (dv i) ∧ w.cell? ((ca.add (i * 3)).add 2) = some (.int .u64 (xv i)))
    (hrd : ∀ i, i < m → Reads w (dv i) (D i)) :
    Calls Try.prog 5 #[.slice cao m cc] w fun e w' => e = .returned (.bool true) ∧ Below w.heap.size w w' := by
  have hmI : ¬ (300 : Int) < (m : Int) := by omega
  have HCA := Lib.hid hca
  have HRD := Lib.hid hrd
  have HK := Lib.hid hk
  clear hca hrd hk
  refine callsIn_wide.1 (callsIn_of_wp_marks (n := 2) Try.func5 rfl trivial (wpIn_wide.2 ?_) rfl)
  simp only [Try.ntmps5, List.size_toArray, List.length_cons, List.length_nil, Nat.reduceAdd, Nat.reduceSub, Array.replicate_succ, Array.replicate_zero, List.push_toArray, List.append_toArray, List.nil_append, List.cons_append]
  go_wp2_with fail
  refine (fit_any _).mono ?_
  rintro e w1 ⟨rfl, hb1⟩
  have hw1 : Below w.heap.size w w1 := ((Below.refl _ w).alloc (Nat.le_refl _) _).trans (hb1.mono (by simp))
  have cR : w1.cell? ⟨w.heap.size, 0, none⟩ = some (.bool false) := (hb1.cell (p := ⟨w.heap.size, 0, none⟩) (by simp)).trans (by simp)
  have fR : w1.frozen? ⟨w.heap.size, 0, none⟩ = false := (hb1.frozen (p := ⟨w.heap.size, 0, none⟩) (by simp)).trans (by simp)
  have hz1 : w.heap.size < w1.heap.size := by have := hb1.size; simp at this; omega
  have HW1 := Lib.hid hw1
  have HCR := Lib.hid cR
  have HFR := Lib.hid fR
  clear hb1 hw1 cR fR
  have hri : RI w1.heap.size 0 (fun _ => .slice none 0 0) (.slice none 0 0) (.slice none 0 0) (.slice none 0 0) 0 [] [] [] [] w1 ((w1.alloc (.cells #[.slice none 0 0, .slice none 0 0, .slice none 0 0, .slice none 0 0, .slice none 0 0, .slice none 0 0, .slice none 0 0, .slice none 0 0, .int .i64 0, .int .i64 0, .int .i64 0, .slice none 0 0] 27)).alloc (.cells #[.slice none 0 0] 37)) := by
    have hb : w1.heap.size < (w1.alloc (.cells #[.slice none 0 0, .slice none 0 0, .slice none 0 0, .slice none 0 0, .slice none 0 0, .slice none 0 0, .slice none 0 0, .slice none 0 0, .int .i64 0, .int .i64 0, .int .i64 0, .slice none 0 0] 27)).heap.size := by simp
    refine ⟨by decide, (ring_start w1).grown (World.grownBy_alloc _ _ none) (fun k hk => by cases hk), by decide, fun j hj => absurd hj (Nat.not_lt_zero _), ?_, ?_, World.ownsRow_nil _ _ _ _, World.ownsRow_nil _ _ _ _, .inl rfl, ?_, ?_, by simp, .inl ⟨rfl, rfl⟩⟩
    · rw [World.cell?_of_block (Below.heap_alloc _ _ _ hb)]; simp
    · rw [World.cell?_of_block (Below.heap_alloc _ _ _ hb)]; simp
    · simp
    · simp
  have HRI := Lib.hid hri
  clear hri
  go_wp2_with fail
  go_loopw [5, 6, 23] (fun s5 s6 s23 wr => ∃ (k a : Nat) (f : Nat → Value) (lv ov outv : Value) (lost : Nat) (ps : List ByteArray) (zs : List Int), k ≤ m ∧ s23 = .int .i64 k ∧ outv = s5 ∧ s6 = .int .i64 lost ∧ lost ≤ k ∧ zs.length ≤ k ∧ RI w1.heap.size a f lv ov outv lost ps ps (zs.map (Value.int .u64)) (zs.map (Value.int .u64)) w1 wr) (fun _ _ s23 _ => m - (intOf s23).toNat)
  case atStart => exact ⟨0, 0, _, _, _, _, 0, [], [], by omega, rfl, rfl, rfl, by omega, by simp, HRI.out⟩
  case round =>
    obtain ⟨k, a, f, lv, ov, outv, lost, ps, zs, hk, rfl, rfl, rfl, hlk, hyk, hri⟩ := hrel
    by_cases hkm : k < m
    · obtain ⟨ca, rfl, hcs⟩ := HCA.out (by omega)
      obtain ⟨hc0, hc1, hc2⟩ := hcs k hkm
      obtain ⟨q0, q1⟩ := HK.out k hkm
      have hrk := HRD.out k hkm
      have mv : ∀ {p : Addr} {v : Value}, w.cell? p = some v → wr.cell? p = some v := fun {p v} h => by
        have hl : p.block < w.heap.size := by
          rcases Nat.lt_or_ge p.block w.heap.size with c | c
          · exact c
          · exfalso
            simp [World.cell?, Array.getElem?_eq_none c] at h
        exact (hri.ring.bl.cell (p := p) (by omega)).trans ((HW1.out.cell (p := p) hl).trans h)
      have d0 := mv hc0
      have d1 : wr.cell? ⟨(ca.add (k * 3)).block, (ca.add (k * 3)).off + 1, none⟩ = some (dv k) := mv hc1
      have d2 : wr.cell? ⟨(ca.add (k * 3)).block, (ca.add (k * 3)).off + 2, none⟩ = some (.int .u64 (xv k)) := mv hc2
      have hrw1 := hrk.below HW1.out (Nat.le_refl _)
      have hrw : Reads wr (dv k) (D k) := (hrk.below HW1.out (Nat.le_refl _)).below hri.ring.bl (Nat.le_refl _)
      obtain ⟨ao, c, hdv⟩ := hrw.form
      rw [hdv] at d1 hrw hrw1
      clear mv hc0 hc1 hc2 hcs hrk hdv
      generalize kd k = K at *
      generalize D k = B at *
      generalize xv k = X at *
      have HR := Lib.hid hri
      have HRW := Lib.hid hrw
      have HRW1 := Lib.hid hrw1
      have hkI : (k : Int) < (m : Int) := by omega
      have cRr := (hri.ring.bl.cell (p := ⟨w.heap.size, 0, none⟩) hz1).trans HCR.out
      have fRr := (hri.ring.bl.frozen (p := ⟨w.heap.size, 0, none⟩) hz1).trans HFR.out
      have hzr : w1.heap.size + 2 ≤ wr.heap.size := hri.lz
      clear hri hrw hrw1
      by_cases hB : 200 < B.size
      · have hBI : (200 : Int) < (B.size : Int) := by omega
        have hwr : Below w.heap.size w ((wr.alloc (.cells #[.int .i64 K, .slice ao B.size c, .int .u64 X] 39)).setCell ⟨w.heap.size, 0, none⟩ (.bool true)) := (((HW1.out.trans (HR.out.ring.bl.mono HW1.out.size)).alloc (by omega) _).setCell (Nat.le_refl _) _)
        have cRa : (wr.alloc (.cells #[.int .i64 K, .slice ao B.size c, .int .u64 X] 39)).cell? ⟨w.heap.size, 0, none⟩ = some (.bool false) := (World.cell?_of_block (a := ⟨w.heap.size, 0, none⟩) (Below.heap_alloc _ _ _ (by show w.heap.size < _; omega))).trans cRr
        have fRa : (wr.alloc (.cells #[.int .i64 K, .slice ao B.size c, .int .u64 X] 39)).frozen? ⟨w.heap.size, 0, none⟩ = false := (World.frozen?_of_block (a := ⟨w.heap.size, 0, none⟩) (Below.heap_alloc _ _ _ (by show w.heap.size < _; omega))).trans fRr
        have HWR := Lib.hid hwr
        clear hwr cRr fRr
        go_wp2_with fail
        exact retc_true rfl (World.cell?_setCell_same' _ _ _ (by rw [cRa]; rfl)) HWR.out
      · have hBI : ¬ (200 : Int) < (B.size : Int) := by omega
        obtain ⟨r, hr, hr3, hk0, hk1⟩ := kind3 K
        have hrA := HR.out.alloc (.cells #[.int .i64 K, .slice ao B.size c, .int .u64 X] 39)
        have hrwA : Reads (wr.alloc (.cells #[.int .i64 K, .slice ao B.size c, .int .u64 X] 39)) (.slice ao B.size c) B := HRW.out.below ((Below.refl _ _).alloc (Nat.le_refl _) _) (Nat.le_refl _)
        have hC0 : (wr.alloc (.cells #[.int .i64 K, .slice ao B.size c, .int .u64 X] 39)).cell? ⟨wr.heap.size, 1, none⟩ = some (.slice ao B.size c) := by simp
        have hC2 : (wr.alloc (.cells #[.int .i64 K, .slice ao B.size c, .int .u64 X] 39)).cell? ⟨wr.heap.size, 2, none⟩ = some (.int .u64 X) := by simp
        go_upto_region 18 with fail
        have hLC : some wr.heap.size ≠ lv.ownBlock := fun e => by have := (HR.out.ls.block _ e.symm).2.1; omega
        have hOC : some wr.heap.size ≠ ov.ownBlock := fun e => by have := (HR.out.ow.lt _ e.symm).2; omega
        have hzA : wr.heap.size < (wr.alloc (.cells #[.int .i64 K, .slice ao B.size c, .int .u64 X] 39)).heap.size := by simp
        generalize (wr.alloc (.cells #[.int .i64 K, .slice ao B.size c, .int .u64 X] 39)) = wa at *
        have hCR : wr.heap.size ≠ w1.heap.size := by omega
        generalize wr.heap.size = C at *
        have HA := Lib.hid hrA
        have HLC := Lib.hid hLC
        have HOC := Lib.hid hOC
        have hlb := hrA.lb
        obtain ⟨lo, lc, hlv, hlc1, hlc2⟩ := hrA.ls.len
        have hle8 := hrA.le8
        clear hr hrA hLC hOC hrwA
        rcases hr3 with rfl | rfl | rfl
        · by_cases h8 : ps.length < 8
          · have hpu := HA.out.push_call h8 (HRW1.out.below HA.out.ring.bl (Nat.le_refl _))
            have HPU := Lib.hid hpu
            have h8I : (ps.length : Int) < 8 := by omega
            rw [hlv] at hlb
            clear hpu
            go_wp2_with fail
            refine HPU.out.mono ?_
            rintro e W2 ⟨rfl, ⟨f', hr2⟩, hg2⟩
            have hC1 := hg2.cell hC0 (some_ne hCR)
            have hz2 := hg2.size
            have HR2 := Lib.hid hr2
            clear hr2 hg2 hlb
            go_wp2_with fail
            refine ring_give (w1.heap.size + 1) C (w1.heap.size + 2) lv ps ao c B W2 HR2.out.ls (by omega) HR2.out.lz (by omega) (HRW1.out.below HR2.out.ring.bl (Nat.le_refl _)) HR2.out.lb HR2.out.lf (by have := HR2.out.lz; omega) HLC.out hC1 _ rfl rfl rfl _ ?_
            intro B1 lv' w5 w6 h5 h6 hst
            have hr6 := ((HR2.out.grew h5).alloc _).appended h6 hst
            have HR6 := Lib.hid hr6
            clear hr6 h5 h6 hst
            go_wp2_with fail
            go_roundw
            case rel => exact ⟨k + 1, a, f', lv', ov, outv, lost, ps ++ [pkt B], zs, by omega, by go_num, rfl, rfl, by omega, by omega, HR6.out⟩
            case measure => simp [intOf]; omega
          · have hfu := HA.out.full_call (by omega) (by omega) (.slice ao B.size c)
            have HFU := Lib.hid hfu
            have h8I : ¬ (ps.length : Int) < 8 := by omega
            rw [hlv] at hlb
            have hw2 : IntKind.i64.wrap ((lost : Int) + 1) = (lost : Int) + 1 := by rw [IntKind.wrap_i64]; omega
            clear hfu
            go_wp2_with fail
            refine HFU.out.mono ?_
            rintro e W2 ⟨rfl, hr2, hg2⟩
            have HR2 := Lib.hid hr2
            clear hr2 hg2 hlb
            go_wp2_with fail
            go_roundw
            case rel => exact ⟨k + 1, a, f, lv, ov, outv, lost + 1, ps, zs, by omega, by go_num, rfl, by go_num, by omega, by omega, HR2.out⟩
            case measure => simp [intOf]; omega
        · cases ps with
          | nil =>
            have hn9 := HA.out.ring.c9
            have hpn := pop_none w1.heap.size wa hn9
            have HPN := Lib.hid hpn
            rw [hlv] at hlb
            simp only [List.length_nil] at hlb
            clear hpn hn9
            go_wp2_with fail
            refine HPN.out.mono ?_
            rintro e W2 ⟨rfl, rfl⟩
            go_wp2_with fail
            go_quiet (fail)
            go_wp2_with fail
            go_roundw
            case rel => exact ⟨k + 1, a, f, lv, ov, outv, lost, [], zs, by omega, by go_num, rfl, rfl, by omega, by omega, HA.out.grew ⟨rfl, rfl, rfl, Nat.le_refl _, fun _ _ _ => rfl⟩⟩
            case measure => simp [intOf]; omega
          | cons p ps' =>
            have hpp := HA.out.pop_call
            have HPP := Lib.hid hpp
            clear hpp hlb
            go_wp2_with fail
            refine HPP.out.mono ?_
            rintro e W2 ⟨x, rfl, ⟨a', f', hr2⟩, hpk, hg2⟩
            obtain ⟨xo, xc, rfl⟩ := hpk.reads.form
            have hcv : ∀ nq, (convert 22 9 (.slice xo p.size xc)).run Try.prog (W2.drewN nq) = .ok (.string p) (W2.drewN nq) := fun nq => holds_convert (hpk.kept (W' := W2.drewN nq) (row := none) ⟨rfl, rfl, rfl, Nat.le_refl _, fun _ _ _ => rfl⟩ none_row).holds
            obtain ⟨g, o, cap, hlv2, hstr⟩ := hr2.ls.cell 0 (by simp)
            simp only [Nat.add_zero, List.getElem_cons_zero] at hstr
            have hlb2 := hr2.lb
            have hlf2 := hr2.lf
            rw [hlv2] at hlb2
            simp only [List.length_cons] at hlb2
            have htl := hr2.ls.tail
            have HR2 := Lib.hid hr2
            have HTL := Lib.hid htl
            have HLV2 := Lib.hid hlv2
            have hcl : ps'.length + 1 ≤ cap ∧ cap ≤ 9223372036854775807 := by
              obtain ⟨ao2, cap2, e2, h1, h2⟩ := hr2.ls.len
              rw [hlv2] at e2
              injection e2 with _ _ e3
              subst e3
              simp at h1
              unfold maxLen at h2
              omega
            obtain ⟨hcl1, hcl2⟩ := hcl
            have hcI : ((ps'.length + 1 : Nat) : Int) ≤ (cap : Int) := by omega
            have hnp : (0 : Int) < ((ps'.length + 1 : Nat) : Int) := by omega
            clear hr2 htl hg2 hpk hlv2 hlv
            go_wp2_with fail
            go_quiet (fail)
            go_wp2_with fail
            have e : tailOf lv = .slice (if cap = 1 then some ⟨g, o, none⟩ else some ⟨g, o + 1, none⟩) ps'.length (cap - 1) := by
              rw [HLV2.out]
              by_cases h1 : cap = 1 <;> simp [tailOf, h1]
            have hfin := (HR2.out.grew (w' := W2.drewN nq) ⟨rfl, rfl, rfl, Nat.le_refl _, fun _ _ _ => rfl⟩).boxed (HTL.out.kept (w' := W2.drewN nq) (row := none) ⟨rfl, rfl, rfl, Nat.le_refl _, fun _ _ _ => rfl⟩ none_row)
            rw [e] at hfin
            go_roundw
            case rel => exact ⟨k + 1, a', f', _, ov, outv, lost, ps', zs, by omega, by go_num, rfl, rfl, by omega, by omega, hfin⟩
            case measure => simp [intOf]; omega
        · have hpt := HA.out.put_call X (by simp; omega)
          have HPT := Lib.hid hpt
          clear hpt
          go_wp2_with fail
          refine HPT.out.mono ?_
          rintro e W2 ⟨rfl, ⟨ov', hr2⟩, hz2, hk2⟩
          have hC1 := (World.cell?_of_block (a := ⟨C, 2, none⟩) (hk2 C hzA hCR HOC.out)).trans hC2
          have HR2 := Lib.hid hr2
          clear hr2 hk2
          obtain ⟨outv', W3, hrun, hr3⟩ := HR2.out.out_run X (by simp; omega)
          have HR3 := Lib.hid hr3
          clear hr3
          obtain ⟨oo, oc, houtv⟩ : ∃ oo oc, outv = .slice oo zs.length oc := by
            rcases own_none HR2.out.ou with ⟨h1, h2, _⟩ | ⟨g, cap, h1, _⟩
            · rw [List.length_map] at h2; rw [h2]; exact ⟨_, _, h1⟩
            · rw [List.length_map] at h1; exact ⟨_, _, h1⟩
          subst houtv
          go_wp2_with (refine copy_list rfl rfl rfl rfl rfl hrun ?_)
          go_roundw
          case rel => exact ⟨k + 1, a, f, lv, ov', outv', lost, ps, zs ++ [X], by omega, by go_num, rfl, rfl, by omega, by simp; omega, by have h := HR3.out; simpa using h⟩
          case measure => simp [intOf]; omega
    · obtain rfl : k = m := by omega
      have cRr := (hri.ring.bl.cell (p := ⟨w.heap.size, 0, none⟩) hz1).trans HCR.out
      have hzr : w1.heap.size + 2 ≤ wr.heap.size := hri.lz
      have HR := Lib.hid hri
      clear hri
      go_wp2_with fail
      refine (all_any _ _).mono ?_
      rintro e W7 ⟨rfl, hW7⟩
      go_wp2_with fail
      have hr7 : RI w1.heap.size a f lv ov outv lost ps ps (zs.map (Value.int .u64)) (zs.map (Value.int .u64)) w1 W7 := by rw [← hW7]; exact (HR.out.alloc _).alloc _
      have cI : W7.cell? ⟨wr.heap.size, 0, none⟩ = some (.int .i64 0) := by rw [← hW7]; simp
      have fI : W7.frozen? ⟨wr.heap.size, 0, none⟩ = false := by rw [← hW7]; simp
      have cB : W7.cell? ⟨wr.heap.size + 1, 0, none⟩ = some (.pointer (some ⟨w1.heap.size, 0, none⟩)) := by rw [← hW7]; simp
      have hz7 : W7.heap.size = wr.heap.size + 2 := by rw [← hW7]; simp
      have hlow := HR.out.low
      have hpb : ∀ j (hj : j < ps.length) q, (f ((a + j) % 8)).ownBlock = some q → q < wr.heap.size := fun j hj q hq => ((HR.out.pk j hj).1.base_le q hq).2
      have hlq : ∀ q, lv.ownBlock = some q → q < wr.heap.size := fun q hq => (HR.out.ls.block q hq).2.1
      clear hW7
      generalize wr.heap.size = N at *
      have HPB := Lib.hid hpb
      have HLOW := Lib.hid hlow
      have HLQ := Lib.hid hlq
      have HR7 := Lib.hid hr7
      have hle8 := hr7.le8
      have ha8 := hr7.ha
      have hT : SeqTold Fence.wide (2 - 1) Try.prog 15 #[.pointer (some ⟨N + 1, 0, none⟩)] (fun x : Value => #[x]) (fun pre x W => pre.length < ps.length ∧ Packet W W7.heap.size x (nth ps pre.length)) (KeptB (KR N w1.heap.size a f ps.length)) (fun xs => xs.length = ps.length) W7 := by
        refine all_told w1.heap.size a ps.length W7.heap.size (N + 1) (fun k => f ((a + k) % 8)) (nth ps) _ W7 ha8 hle8 (Nat.le_refl _) ?hK cB (.inl rfl) (.inr (.inl rfl)) ?hR ?hkp
        case hK =>
          rintro q (rfl | rfl | ⟨j, hj, hq⟩)
          · omega
          · omega
          · have := HPB.out j hj q hq; omega
        case hR =>
          refine ⟨HR7.out.ring.c8, HR7.out.ring.c9, fun k hk => HR7.out.ring.cq _ (Nat.mod_lt _ (by decide)), fun k hk => ?_⟩
          rw [nth_at hk]
          exact ⟨(HR7.out.pk k hk).1.holds, (HR7.out.pk k hk).2⟩
        case hkp => exact fun k hk q hq => .inr (.inr ⟨k, hk, hq⟩)
      have HT := Lib.hid hT
      clear hT hpb hlq hr7 hlow
      refine (wpIn_wide (n := 2)).1 ?_
      refine wpIn_rangeFunc_told2 (n := 2) (gf := 15) (lb := #[.pointer (some ⟨N + 1, 0, none⟩)]) 13 rfl (by decide) rfl trivial (enters_of Try.func15 (by kernel_rfl) rfl) HT.out (fun h k => h.trans k) ?hKb ?hG (Below.refl _ _)
        (fun pre W => RI w1.heap.size a f lv ov outv lost ps ps (zs.map (Value.int .u64)) (zs.map (Value.int .u64)) w1 W ∧ W.cell? ⟨N, 0, none⟩ = some (.int .i64 pre.length) ∧ W.frozen? ⟨N, 0, none⟩ = false ∧ N < W.heap.size)
        (fun _ _ _ => False) ?hI (fun _ _ _ _ _ hs _ _ => hs) ⟨HR7.out, cI, fI, by omega⟩ ?assign ?body ?done (fun _ _ _ _ _ h _ => h.elim)
      case hKb =>
        intro W l o o' hl ho hc
        refine ⟨by simp, fun q hq => World.putObj_heap_other ?_⟩
        rcases hq with rfl | rfl | ⟨j, hj, hq⟩
        · omega
        · omega
        · have := HPB.out j hj q hq; omega
      case hG =>
        intro pre x W l o o' hl ho hc hg
        exact ⟨hg.1, hg.2.put ho hc⟩
      case hI =>
        intro pre A C row hs hg hr
        have hr2 : ∀ k, row = some k → N + 2 ≤ k := fun k hk => by have := (hr k hk).1; omega
        exact ⟨hs.1.far HLOW.out hg (fun k hk => by have := hr2 k hk; omega), hg.cell hs.2.1 (fun e => by have := hr2 N e.symm; omega), (World.frozen?_of_block (a := ⟨N, 0, none⟩) (hg.block N hs.2.2.2 (fun e => by have := hr2 N e.symm; omega))).trans hs.2.2.1, Nat.lt_of_lt_of_le hs.2.2.2 hg.size⟩
      case assign =>
        intro l x W K hK
        simp only [List.setIfInBounds_toArray, List.set_cons_succ, List.set_cons_zero] at hK ⊢
        gi_wp2
        exact hK
      case body =>
        rintro l pre x W ⟨hri, cn, fn, hn⟩ ⟨hlen, hpk⟩
        simp only [List.setIfInBounds_toArray, List.set_cons_succ, List.set_cons_zero]
        obtain ⟨xo, xc, rfl⟩ := hpk.reads.form
        have hcv : ∀ nq, (convert 22 9 (.slice xo (nth ps pre.length).size xc)).run Try.prog (W.drewN nq) = .ok (.string (nth ps pre.length)) (W.drewN nq) := fun nq => holds_convert (hpk.kept (W' := W.drewN nq) (row := none) ⟨rfl, rfl, rfl, Nat.le_refl _, fun _ _ _ => rfl⟩ none_row).holds
        obtain ⟨g, o, cap, hlv2, hstr⟩ := hri.ls.cell pre.length hlen
        rw [← nth_at hlen] at hstr
        have hlb := hri.lb
        rw [hlv2] at hlb
        generalize nth ps pre.length = S at *
        have hnI : (pre.length : Int) < (ps.length : Int) := by omega
        have hnB : ((pre.length : Int) == (ps.length : Int)) = false := by rw [beq_eq_false_iff_ne]; omega
        have hw1 : IntKind.i64.wrap ((pre.length : Int) + 1) = (pre.length : Int) + 1 := by rw [IntKind.wrap_i64]; omega
        have HRI2 := Lib.hid hri
        have HPK := Lib.hid hpk
        have HLV := Lib.hid hlv2
        clear hri hpk hlv2
        gi_wp2
        refine quiet_round rfl (by kernel_rfl) (by kernel_rfl) (by kernel_rfl) ?_
        repeat (gi_big_quiet_step (fail))
        refine wpQuietIn_nil ?_
        intro _ hw'
        obtain ⟨nq, hw''⟩ := hw'
        subst hw''
        gi_wp2
        have hri3 := (HRI2.out.grew (w' := W.drewN nq) ⟨rfl, rfl, rfl, Nat.le_refl _, fun _ _ _ => rfl⟩).far HLOW.out (Go.Lib.grownBy_setCell (W.drewN nq) N 0 (.int .i64 ((pre.length : Int) + 1))) (fun k hk => by cases hk; exact Nat.le_refl _)
        have hkk : ¬ KR N w1.heap.size a f ps.length N := by
          rintro (e | e | ⟨j, hj, e⟩)
          · omega
          · omega
          · have := HPB.out j hj N e; omega
        refine ⟨(show KeepsOthers W (W.drewN nq) from ⟨Nat.le_refl _, fun _ _ h _ => h⟩).trans (KeepsOthers.setCell _ _ _), (show KeptB (KR N w1.heap.size a f ps.length) W (W.drewN nq) from ⟨Nat.le_refl _, fun _ _ => rfl⟩).setCell N 0 _ hkk, hri3, ?_, (World.frozen?_setCell _ _ _ _).trans fn, by simpa [World.setCell] using hn⟩
        rw [World.cell?_setCell_same' _ _ _ (by rw [show (W.drewN nq).cell? ⟨N, 0, none⟩ = W.cell? ⟨N, 0, none⟩ from rfl, cn]; rfl)]
        simp
      case done =>
        rintro D xs W hD hS ⟨hri, cn, fn, hn⟩ hK
        rw [hS] at cn
        have hoc := hri.out_call (by omega)
        have hlD := (Array.getElem?_eq_some_iff.1 hK).1
        have cRw := (hri.ring.bl.cell (p := ⟨w.heap.size, 0, none⟩) hz1).trans HCR.out
        have fRw := (hri.ring.bl.frozen (p := ⟨w.heap.size, 0, none⟩) hz1).trans HFR.out
        have HOC := Lib.hid hoc
        have HRI3 := Lib.hid hri
        have HK3 := Lib.hid hK
        clear hoc hri hK hS
        go_wp2_with fail
        refine HOC.out.mono ?_
        rintro e W8 ⟨go', gc, rfl, hgo, hb8⟩
        have hg8 : W.grownBy W8 none := ⟨hb8.os, hb8.tape, hb8.output, hb8.size, fun k hk _ => hb8.block k hk⟩
        have hri8 := HRI3.out.grew hg8
        have cn8 := hg8.cell cn (by simp)
        have hK8 := (hb8.block D hlD).trans HK3.out
        have cR8 := (hb8.cell (p := ⟨w.heap.size, 0, none⟩) (by show w.heap.size < _; have := HRI3.out.lz; omega)).trans cRw
        have fR8 := (hb8.frozen (p := ⟨w.heap.size, 0, none⟩) (by show w.heap.size < _; have := HRI3.out.lz; omega)).trans fRw
        have hlb := hri8.lb
        obtain ⟨lo, lc, hlv, _, _⟩ := hri8.ls.len
        rw [hlv] at hlb
        obtain ⟨oo, oc, houtv, hou⟩ : ∃ oo oc, outv = .slice oo zs.length oc ∧ ∀ i (hi : i < zs.length), ∃ g, oo = some ⟨g, 0, none⟩ ∧ W8.cell? ⟨g, i, none⟩ = some (.int .u64 zs[i]) := by
          have ho := hri8.ou
          rcases own_none ho with ⟨h1, h2, _⟩ | ⟨g, cap, h1, _⟩
          · rw [List.length_map] at h2
            exact ⟨none, 0, by rw [h1, h2], fun i hi => by omega⟩
          · rw [List.length_map] at h1 ho
            subst h1
            refine ⟨some ⟨g, 0, none⟩, cap, rfl, fun i hi => ⟨g, rfl, ?_⟩⟩
            have := ho.cells (g := g) rfl i (.int .u64 zs[i]) (by simp [hi])
            rw [add_at] at this
            simpa using this
        subst houtv
        have HGO := Lib.hid hgo
        have HOU := Lib.hid hou
        have HRI8 := Lib.hid hri8
        have HK8 := Lib.hid hK8
        have HCR8 := Lib.hid cR8
        have HFR8 := Lib.hid fR8
        have hlD8 : D < W8.heap.size := Nat.lt_of_lt_of_le hlD hb8.size
        clear hgo hou hri8 hK8 cR8 fR8 hb8 hg8 hlv cn cRw fRw fn
        go_wp2_with fail
        go_loopw [126] (fun s126 wx => ∃ i nn : Nat, i ≤ zs.length ∧ s126 = .int .i64 i ∧ wx = W8.drewN nn) (fun s126 _ => zs.length - (intOf s126).toNat)
        case atStart => exact ⟨0, 0, by omega, rfl, rfl⟩
        case round =>
          obtain ⟨i, nn, hi, rfl, hwx⟩ := hrel
          subst hwx
          by_cases hlt : i < zs.length
          · obtain ⟨g1, rfl, hc1⟩ := HGO.out i hlt
            obtain ⟨g2, rfl, hc2⟩ := HOU.out i hlt
            have hiI : (i : Int) < (zs.length : Int) := by omega
            generalize zs[i] = z at *
            go_wp2_with fail
            go_quiet (fail)
            go_wp2_with fail
            go_roundw
            case rel => exact ⟨i + 1, nn + nq, by omega, by go_num, by first | rfl | (rw [World.drewN_drewN]) | simp [World.drewN, Nat.add_assoc]⟩
            case measure => simp [intOf]; omega
          · obtain rfl : i = zs.length := by omega
            have c9 := HRI8.out.ring.c9
            have c10 := HRI8.out.c10
            have HC9 := Lib.hid c9
            have HC10 := Lib.hid c10
            have cR8 := HCR8.out
            have fR8 := HFR8.out
            clear c9 c10
            have hne1 : w.heap.size ≠ w1.heap.size + 1 := by omega
            have hnD : w.heap.size ≠ D := by omega
            have hle1 := HRI8.out.lz
            have hsw : ∀ n1, Below w.heap.size w ((W8.drewN n1).setCell ⟨w.heap.size, 0, none⟩ (.bool true)) := fun n1 => (show Below w.heap.size w (W8.drewN n1) from ((HW1.out.trans (HRI8.out.ring.bl.mono HW1.out.size)).trans ⟨rfl, rfl, rfl, Nat.le_refl _, fun _ _ => rfl⟩)).setCell (Nat.le_refl _) _
            have HSW := Lib.hid hsw
            clear hsw
            go_wp2_with fail
            go_region_held3 (fun w' => w'.cell? ⟨w1.heap.size + 1, 0, none⟩ = some (.slice lo ps.length lc)) (first | assumption | (rw [World.cell?_setCell_other _ _ _ _ (by intro e; injection e with e1 _ _; omega)]; assumption) | go_keep)
              (first | ((try rw [if_pos (by rfl)]); go_at_call 10; refine (len_any w1.heap.size ps.length _ (by exact HC9.out)).mono ?_; rintro e w4 ⟨rfl, rfl⟩) | ((try rw [if_pos (by rfl)]); go_at_call 14; refine (lost_any w1.heap.size lost _ (by exact HC10.out)).mono ?_; rintro e w4 ⟨rfl, rfl⟩))
            go_wp2_with fail
            exact retc_mark rfl (World.cell?_setCell_same' _ _ _ (by rw [show (W8.drewN (nn + 1)).cell? ⟨w.heap.size, 0, none⟩ = W8.cell? ⟨w.heap.size, 0, none⟩ from rfl, cR8]; rfl)) (HSW.out _) (by omega) hnD ((Below.heap_setCell _ _ _ _ (by exact hnD.symm)).trans HK8.out)
end Go.Proofs.Ytmnhnjljapabdaa
