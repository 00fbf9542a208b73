/- The walk of the law RingMemory: the law returns true at whatever bytes and number and changes nothing that existed. Conditions: as each theorem names them. -/
import Derived.Test.YtmnhnjljapabdaaRingMemB
import Derived.Test.YtmnhnjljapabdaaRingCutB
import Derived.Deep.DeepCutAuto
import Derived.Deep.CutBlock
import Derived.Outline
import Derived.Lib.BufferWrite
set_option linter.unusedVariables false
namespace Go.Proofs.Ytmnhnjljapabdaa
open Go.ChangeShapes Go.WideShapes Go.ChangeAt Go.RowKit Go.Shelf
open Go.Lib (Bytes)
attribute [local go_sem] Oper.semAt_some

set_option maxRecDepth 100000 in
set_option maxHeartbeats 2000000 in
theorem lawMem_core (bv : Value) (B : ByteArray) (stop : Int) (hB : B.size ≤ 100) (s0 : -9223372036854775808 ≤ stop) (s1 : stop ≤ 9223372036854775807) (w : World) (hb : Reads w bv B) :
    Calls Try.prog 6 #[bv, .int .i64 stop] w fun e w' => e = .returned (.bool true) ∧ Below w.heap.size w w' := by
  obtain ⟨ao, c, rfl⟩ := hb.form
  have HB := Lib.hid hb
  have hmI : ¬ (100 : Int) < (B.size : Int) := by omega
  have HBS := Lib.hid hB
  clear hb hB
  refine callsIn_wide.1 (callsIn_of_wp_marks (n := 2) Try.func6 rfl trivial (wpIn_wide.2 ?_) rfl)
  simp only [Try.ntmps6, List.size_toArray, List.length_cons, List.length_nil, Nat.reduceAdd, Nat.reduceSub, Array.replicate_succ, Array.replicate_zero, List.push_toArray, List.append_toArray, List.nil_append, List.cons_append]
  go_wp2_with fail
  refine (fit_any _).mono ?_
  rintro e w1 ⟨rfl, hb1⟩
  have hw1 : Below w.heap.size w w1 := (((Below.refl _ w).alloc (Nat.le_refl _) _).alloc (by simp) _).trans (hb1.mono (by simp; omega))
  have cS : w1.cell? ⟨w.heap.size, 0, none⟩ = some (.int .i64 stop) := (hb1.cell (p := ⟨w.heap.size, 0, none⟩) (by simp; omega)).trans (by simp)
  have cR : w1.cell? ⟨w.heap.size + 1, 0, none⟩ = some (.bool false) := (hb1.cell (p := ⟨w.heap.size + 1, 0, none⟩) (by simp)).trans (by simp)
  have fR : w1.frozen? ⟨w.heap.size + 1, 0, none⟩ = false := (hb1.frozen (p := ⟨w.heap.size + 1, 0, none⟩) (by simp)).trans (by simp)
  have hz1 : w.heap.size + 1 < w1.heap.size := by have := hb1.size; simp at this; omega
  have HW1 := Lib.hid hw1
  have HCS := Lib.hid cS
  have HCR := Lib.hid cR
  have HFR := Lib.hid fR
  clear hb1 hw1 cS cR fR
  have hs := ring_start w1
  have HS := Lib.hid hs
  clear hs
  have hrd := (HB.out.below HW1.out (Nat.le_refl _)).below HS.out.bl (Nat.le_refl _)
  have hsz := HS.out.hb
  go_upto_region 6 with fail
  generalize hW2 : w1.alloc _ = W2 at *
  clear hW2
  obtain ⟨x, W3, hrun, hpk, hgr⟩ := copy_reads W2 (w1.heap.size + 1) B (.slice ao B.size c) hrd (by have := HBS.out; omega) hsz
  obtain ⟨mo, mc, rfl⟩ := hpk.reads.form
  have hring := HS.out.grown hgr (fun k hk => by cases hk)
  have hrd3 := hrd.below (Below.of_grown hgr) (Nat.le_refl _)
  have hsz3 := hgr.size
  have HR := Lib.hid hring
  have HP := Lib.hid hpk
  have HRD := Lib.hid hrd3
  clear hring hpk hrd hrd3 hgr
  have hcv := reads_cut HRD.out
  have hm1 : min (B.size : Int) 32 ≤ (c : Int) := by have := reads_le HRD.out; omega
  have hm0 : 0 ≤ min (B.size : Int) 32 := by omega
  go_wp2_with (refine copy_list rfl rfl rfl rfl rfl hrun ?_)
  clear hrun
  have hR2 := HR.out.grown (World.grownBy_alloc W3 (.cells #[.string (pkt B)] 9) none) (fun k hk => by cases hk)
  have hP2 := HP.out.kept (World.grownBy_alloc W3 (.cells #[.string (pkt B)] 9) none) (by cases mo <;> simp [Value.ownBlock])
  have cV : (W3.alloc (.cells #[.string (pkt B)] 9)).cell? ⟨W3.heap.size, 0, none⟩ = some (.string (pkt B)) := by simp
  have hzV : W3.heap.size < (W3.alloc (.cells #[.string (pkt B)] 9)).heap.size := by simp
  have hxV := HP.out.base_le
  generalize (W3.alloc (.cells #[.string (pkt B)] 9)) = W4 at *
  have hRV : w1.heap.size < W3.heap.size := by omega
  generalize W3.heap.size = V at *
  clear HR HP HRD hcv
  have hpush := hR2.push_reads (by decide) (by decide) hP2.reads
  have HPU := Lib.hid hpush
  have HP2 := Lib.hid hP2
  have HX := Lib.hid hxV
  have HCV := Lib.hid cV
  clear hpush hP2 hR2 hxV cV
  refine HPU.out.mono ?_
  rintro e W5 ⟨rfl, x0, hR5, hp0, hg5⟩
  have hP5 := HP2.out.kept hg5 (.inr (fun e => by have := HX.out _ e; omega))
  have cV5 := hg5.cell HCV.out (some_ne (by show V ≠ _; omega))
  have hz5 := hg5.size
  have hpush2 := hR5.push_reads (by decide) (by decide) hP5.reads
  have HPU2 := Lib.hid hpush2
  have HP5 := Lib.hid hP5
  have HP0 := Lib.hid hp0
  have HCV5 := Lib.hid cV5
  clear hpush2 hP5 hR5 hg5 cV5 hp0 HPU HCV HP2
  go_wp2_with fail
  refine HPU2.out.mono ?_
  rintro e W6 ⟨rfl, x1, hR6, hp1, hg6⟩
  have hME : ME w1.heap.size V x0 x1 B w1 W6 := ⟨hR6, (HP0.out.kept hg6 (.inr (fun e => by have := HP0.out.base_le _ e; omega))).lower (by omega), hp1.lower (by omega), hg6.cell HCV5.out (some_ne (by show V ≠ _; omega)), by omega, by have := hg6.size; omega⟩
  have hP6 := HP5.out.kept hg6 (.inr (fun e => by have := HX.out _ e; omega))
  have hz6 := hg6.size
  have hx0 : ∀ q, x0.ownBlock = some q → V < q ∧ q < W6.heap.size := fun q hq => by have := hME.p0.base_le q hq; omega
  have hx1 : ∀ q, x1.ownBlock = some q → V < q ∧ q < W6.heap.size := fun q hq => by have := hME.p1.base_le q hq; omega
  have HME := Lib.hid hME
  have HP6 := Lib.hid hP6
  have HX0 := Lib.hid hx0
  have HX1 := Lib.hid hx1
  clear hME hP6 hR6 hp1 hg6 HP5 HP0 HCV5 HPU2 hx0 hx1
  go_wp2_with fail
  go_loopw [40] (fun s40 wr => ∃ i : Nat, i ≤ B.size ∧ s40 = .int .i64 i ∧ ME w1.heap.size V x0 x1 B w1 wr ∧ V < wr.heap.size ∧ W6.heap.size ≤ wr.heap.size ∧ (∀ k, k < B.size → ∃ g z, mo = some ⟨g, 0, none⟩ ∧ w1.heap.size < g ∧ g < V ∧ wr.cell? ⟨g, k, none⟩ = some (.int .u8 z) ∧ wr.frozen? ⟨g, k, none⟩ = false)) (fun s40 _ => B.size - (intOf s40).toNat)
  case atStart =>
    refine ⟨0, by omega, rfl, HME.out, by have := HME.out.vl; omega, Nat.le_refl _, fun k hk => ?_⟩
    obtain ⟨g, z, h1, h2, h3, h4, h5⟩ := HP6.out.cells k hk
    exact ⟨g, z, h1, by omega, (HX.out g (by rw [h1]; rfl)).2, h4, h5⟩
  case round =>
    obtain ⟨i, hi, rfl, hme, hv, hz, hcs⟩ := hrel
    have HME2 := Lib.hid hme
    clear hme
    by_cases hlt : i < B.size
    · obtain ⟨g, z, rfl, hg1, hg2, hc, hf⟩ := hcs i hlt
      have HCS2 := Lib.hid hcs
      have hiI : (i : Int) < (B.size : Int) := by omega
      clear hcs
      go_wp2_with fail
      go_roundw
      case rel =>
        refine ⟨i + 1, by omega, by go_num, HME2.out.grown (Go.Lib.grownBy_setCell _ _ _ _) (fun k hk => ?_), by simpa using hv, by simpa using hz, fun k hk => ?_⟩
        · cases hk
          exact ⟨hg1, by omega, fun e => by have := HX0.out _ e; omega, fun e => by have := HX1.out _ e; omega⟩
        · obtain ⟨g', z', e, h1, h2, h3, h4⟩ := HCS2.out k hk
          injection e with e
          injection e with e _ _
          subst e
          by_cases hk2 : k = i
          · subst hk2
            exact ⟨g, _, rfl, h1, h2, World.cell?_setCell_same' _ _ _ (by rw [h3]; rfl), by rw [World.frozen?_setCell]; exact h4⟩
          · exact ⟨g, z', rfl, h1, h2, (World.cell?_setCell_other _ _ _ _ (by intro e; injection e with _ e2 _; exact hk2 e2.symm)).trans h3, by rw [World.frozen?_setCell]; exact h4⟩
      case measure => simp [intOf]; omega
    · obtain rfl : i = B.size := by omega
      clear hcs
      go_wp2_with fail
      refine (all_any _ _).mono ?_
      rintro e W7 ⟨rfl, hW7⟩
      go_wp2_with fail
      have hME7 : ME w1.heap.size V x0 x1 B w1 W7 := by
        rw [← hW7]; exact (HME2.out.grown (World.grownBy_alloc _ _ none) (fun k hk => by cases hk)).grown (World.grownBy_alloc _ _ none) (fun k hk => by cases hk)
      have cN : W7.cell? ⟨wr.heap.size, 0, none⟩ = some (.int .i64 0) := by rw [← hW7]; simp
      have fN : W7.frozen? ⟨wr.heap.size, 0, none⟩ = false := by rw [← hW7]; simp
      have cB : W7.cell? ⟨wr.heap.size + 1, 0, none⟩ = some (.pointer (some ⟨w1.heap.size, 0, none⟩)) := by rw [← hW7]; simp
      have hz7 : W7.heap.size = wr.heap.size + 2 := by rw [← hW7]; simp
      clear hW7
      generalize wr.heap.size = N at *
      have hx0' : ∀ q, x0.ownBlock = some q → V < q ∧ q < N := fun q hq => by have := HX0.out q hq; omega
      have hx1' : ∀ q, x1.ownBlock = some q → V < q ∧ q < N := fun q hq => by have := HX1.out q hq; omega
      have hrv := hME7.rv
      have HX0' := Lib.hid hx0'
      have HX1' := Lib.hid hx1'
      have HME7 := Lib.hid hME7
      clear hx0' hx1' hME7
      have hsz32 : (pkt B).size ≤ 32 := by rw [pkt_size]; omega
      refine (wpIn_wide (n := 2)).1 ?_
      have hT : SeqTold Fence.wide (2 - 1) Try.prog 15 #[.pointer (some ⟨N + 1, 0, none⟩)] (fun x : Value => #[x]) (fun pre x W => pre.length < 2 ∧ Packet W W7.heap.size x (pkt B)) (KeptB (KM N w1.heap.size x0 x1)) (fun xs => xs.length = 2) W7 := by
        refine all_told w1.heap.size 0 2 W7.heap.size (N + 1) (fun k => if k = 1 then x1 else x0) (fun _ => pkt B) _ W7 (by decide) (by decide) (Nat.le_refl _) ?hK cB (.inl rfl) (.inr (.inl rfl)) ?hR ?hkp
        case hK =>
          rintro q (rfl | rfl | hq | hq)
          · omega
          · omega
          · have := HX0'.out q hq; omega
          · have := HX1'.out q hq; omega
        case hR =>
          refine ⟨HME7.out.ring.c8, HME7.out.ring.c9, fun k hk => ?_, fun k hk => ?_⟩
          · have := HME7.out.ring.cq ((0 + k) % 8) (Nat.mod_lt _ (by decide))
            rw [this]
            have h2 : k = 0 ∨ k = 1 := by omega
            rcases h2 with rfl | rfl <;> rfl
          · have h2 : k = 0 ∨ k = 1 := by omega
            rcases h2 with rfl | rfl
            · exact ⟨HME7.out.p0.holds, hsz32⟩
            · exact ⟨HME7.out.p1.holds, hsz32⟩
        case hkp =>
          intro k hk q hq
          have h2 : k = 0 ∨ k = 1 := by omega
          rcases h2 with rfl | rfl
          · exact .inr (.inr (.inl hq))
          · exact .inr (.inr (.inr hq))
      have HT := Lib.hid hT
      clear hT
      refine wpIn_rangeFunc_told2 (n := 2) (gf := 15) (lb := #[.pointer (some ⟨N + 1, 0, none⟩)]) 10 rfl (by decide) rfl trivial (enters_of Try.func15 (by kernel_rfl) rfl) HT.out (fun h k => h.trans k) ?hKb ?hG (Below.refl _ _)
        (fun pre W => ME w1.heap.size V x0 x1 B w1 W ∧ W.cell? ⟨N, 0, none⟩ = some (.int .i64 pre.length) ∧ W.frozen? ⟨N, 0, none⟩ = false ∧ N < W.heap.size)
        (fun c pre W => c = .exit 2 ∧ ME w1.heap.size V x0 x1 B w1 W) ?hI ?hIx ⟨HME7.out, cN, fN, by omega⟩ ?assign ?body ?done ?stop
      case hKb =>
        intro W l o o' hl ho hc
        refine ⟨by simp, fun q hq => World.putObj_heap_other ?_⟩
        rcases hq with rfl | rfl | hq | hq
        · omega
        · omega
        · have := HX0'.out q hq; omega
        · have := HX1'.out q hq; omega
      case hG =>
        intro pre x W l o o' hl ho hc hg
        exact ⟨hg.1, hg.2.put ho hc⟩
      case hI =>
        intro pre A C row hs hg hr
        have hr2 : ∀ k, row = some k → N + 2 ≤ k := fun k hk => by have := (hr k hk).1; omega
        refine ⟨hs.1.grown hg (fun k hk => ?_), hg.cell hs.2.1 (fun e => by have := hr2 N e.symm; omega), (World.frozen?_of_block (a := ⟨N, 0, none⟩) (hg.block N hs.2.2.2 (fun e => by have := hr2 N e.symm; omega))).trans hs.2.2.1, Nat.lt_of_lt_of_le hs.2.2.2 hg.size⟩
        have hk2 := hr2 k hk
        exact ⟨by omega, by omega, fun e => by have := HX0'.out k e; omega, fun e => by have := HX1'.out k e; omega⟩
      case hIx =>
        intro c pre A C row hs hg hr
        have hr2 : ∀ k, row = some k → N + 2 ≤ k := fun k hk => by have := (hr k hk).1; omega
        refine ⟨hs.1, hs.2.grown hg (fun k hk => ?_)⟩
        have hk2 := hr2 k hk
        exact ⟨by omega, by omega, fun e => by have := HX0'.out k e; omega, fun e => by have := HX1'.out k e; omega⟩
      case assign =>
        intro l x W K hK
        simp only [List.setIfInBounds_toArray, List.set_cons_succ, List.set_cons_zero] at hK ⊢
        gi_wp2
        exact hK
      case body =>
        rintro l pre x W ⟨hme, cn, fn, hn⟩ ⟨hlen, hpk⟩
        simp only [List.setIfInBounds_toArray, List.set_cons_succ, List.set_cons_zero]
        obtain ⟨xo, xc, rfl⟩ := hpk.reads.form
        have hcv := holds_convert hpk.holds
        have cV := hme.want
        have cS := (hme.ring.bl.cell (p := ⟨w.heap.size, 0, none⟩) (by show w.heap.size < _; omega)).trans HCS.out
        have hV : V < N := by omega
        have hmb : MBody N w1.heap.size V x0 x1 B pre.length xo w1 W W := ⟨KeepsOthers.refl _, KeptB.refl _ _, hme, cn, fn, hn, fun j hj => by
          obtain ⟨g, z, h1, h2, h3, h4, h5⟩ := hpk.cells j hj
          exact ⟨g, z, h1, by omega, h4, h5⟩⟩
        have HMB := Lib.hid hmb
        clear hme hpk hmb cn fn hn
        gi_wp2
        clear cV hcv
        gi_loopw [58] (fun s58 wx => ∃ i : Nat, i ≤ (pkt B).size ∧ s58 = .int .i64 i ∧ MBody N w1.heap.size V x0 x1 B pre.length xo w1 W wx) (fun s58 _ => (pkt B).size - (intOf s58).toNat)
        case atStart => exact ⟨0, by omega, rfl, HMB.out⟩
        case round =>
          rename World => wx
          obtain ⟨i, hi2, rfl, hm⟩ := hrel
          by_cases hlt2 : i < (pkt B).size
          · obtain ⟨g, z, rfl, hg1, hc, hf⟩ := hm.xs i hlt2
            have hm2 := fun v => hm.store (i := i) hV HX0'.out HX1'.out hg1 v
            have HM2 := Lib.hid hm2
            have hiI : (i : Int) < ((pkt B).size : Int) := by omega
            clear hm hm2
            gi_wp2
            go_roundw
            case rel => exact ⟨i + 1, by omega, by go_num, HM2.out _⟩
            case measure => simp [intOf]; omega
          · obtain rfl : i = (pkt B).size := by omega
            have hm2 := hm.count hV HX0'.out HX1'.out
            have cn := hm.cn
            have fn := hm.fn
            have cS2 := (hm.me.ring.bl.cell (p := ⟨w.heap.size, 0, none⟩) (by show w.heap.size < _; omega)).trans HCS.out
            rw [show ((pre.length + 1 : Nat) : Int) = (pre.length : Int) + 1 by omega] at hm2
            have HM2 := Lib.hid hm2
            have hNS : N ≠ w.heap.size := by omega
            have hw1 : IntKind.i64.wrap ((pre.length : Int) + 1) = ((pre.length + 1 : Nat) : Int) := by rw [IntKind.wrap_i64]; omega
            clear hm hm2 cS
            gi_wp2
            · exact ⟨HM2.out.1, rfl, HM2.out.2.2.1⟩
            · refine ⟨HM2.out.1, HM2.out.2.1, HM2.out.2.2.1, HM2.out.2.2.2.1.trans ?_, HM2.out.2.2.2.2.1, HM2.out.2.2.2.2.2⟩
              rw [List.length_append]
              simp
      case' done => rintro D xs W hD hS ⟨hme, _, _, _⟩ hK
      case' stop =>
        rintro D cd pre W hD ⟨rfl, hme⟩ hK
        refine wpIn_wide.2 ?_
      all_goals
        have hp1 := hme.pop0
        have hlD := (Array.getElem?_eq_some_iff.1 hK).1
        have hDR : D ≠ w1.heap.size := by omega
        have hDR2 : D ≠ w.heap.size + 1 := by omega
        have hpp0 := hme.p0
        have hpp1 := hme.p1
        have cV := hme.want
        have hVR : V ≠ w1.heap.size := by omega
        have hx0R : x0.ownBlock ≠ some w1.heap.size := fun e => by have := HX0'.out _ e; omega
        have hx1R : x1.ownBlock ≠ some w1.heap.size := fun e => by have := HX1'.out _ e; omega
        have HP1 := Lib.hid hp1
        have HK := Lib.hid hK
        have HPP0 := Lib.hid hpp0
        have HPP1 := Lib.hid hpp1
        have HCV := Lib.hid cV
        clear hp1 hme hK hpp0 hpp1 cV
        go_wp2_with fail
        refine HP1.out.mono ?_
        rintro e W8 ⟨rfl, hr8, hg8⟩
        have hp2 := hr8.pop1
        have HP2' := Lib.hid hp2
        have HG8 := Lib.hid hg8
        clear hp2 hr8 hg8 HP1
        go_wp2_with fail
        refine HP2'.out.mono ?_
        rintro e W9 ⟨rfl, hc9, hb9, hg9⟩
        have hg := HG8.out.trans hg9
        have hp3 := pop_none w1.heap.size W9 hc9
        have hK9 := (hg.block D hlD (some_ne hDR)).trans HK.out
        have cV9 := hg.cell HCV.out (some_ne hVR)
        have cv0 := holds_convert (HPP0.out.kept hg (.inr hx0R)).holds
        have cv1 := holds_convert (HPP1.out.kept hg (.inr hx1R)).holds
        have cR9 := (hb9.cell (p := ⟨w.heap.size + 1, 0, none⟩) hz1).trans HCR.out
        have fR9 := (hb9.frozen (p := ⟨w.heap.size + 1, 0, none⟩) hz1).trans HFR.out
        have HP3 := Lib.hid hp3
        have HK9 := Lib.hid hK9
        have HB9 := Lib.hid hb9
        clear hp3 hg9 hK9 hb9 hg HG8 HCV HK HPP0 HPP1 hc9
        go_wp2_with fail
        refine HP3.out.mono ?_
        rintro e W9' ⟨rfl, rfl⟩
        go_wp2_with fail
        refine (nil_pop _).mono ?_
        rintro e W9' ⟨rfl, rfl⟩
        go_wp2_with fail
        refine (nil_push _ _).mono ?_
        rintro e W9' ⟨rfl, rfl⟩
        go_wp2_with fail
        refine (nil_len _).mono ?_
        rintro e W9' ⟨rfl, rfl⟩
        go_wp2_with fail
        refine (nil_lost _).mono ?_
        rintro e W9' ⟨rfl, rfl⟩
        go_wp2_with fail
        refine (nil_out _).mono ?_
        rintro e W9' ⟨rfl, rfl⟩
        go_wp2_with fail
        refine (nil_put _ _).mono ?_
        rintro e W9' ⟨rfl, rfl⟩
        have hKf : (W9.setCell ⟨w.heap.size + 1, 0, none⟩ (.bool true)).heap[D]? = some (.deferred (some [])) := (Below.heap_setCell _ _ _ _ (by exact hDR2)).trans HK9.out
        have cRf : (W9.setCell ⟨w.heap.size + 1, 0, none⟩ (.bool true)).cell? ⟨w.heap.size + 1, 0, none⟩ = some (.bool true) := World.cell?_setCell_same' _ _ _ (by rw [cR9]; rfl)
        have cRg : ((W9.setCell ⟨w.heap.size + 1, 0, none⟩ (.bool true)).putObj D (.deferred none)).cell? ⟨w.heap.size + 1, 0, none⟩ = some (.bool true) := (World.cell?_of_block (a := ⟨w.heap.size + 1, 0, none⟩) (World.putObj_heap_other (fun e => hDR2 e.symm))).trans cRf
        go_wp2_with fail
        refine ⟨by simp, .inl ⟨_, _, rfl, run_takeDeferred hKf, ?_⟩⟩
        refine ⟨.bool true, ?_, rfl, ?_⟩
        · simp [results, Try.f6, go_sem, cRg]
        · have hbw : Below w.heap.size w W9 := HW1.out.trans (HB9.out.mono HW1.out.size)
          have hbs : Below w.heap.size w (W9.setCell ⟨w.heap.size + 1, 0, none⟩ (.bool true)) := hbw.setCell (by show w.heap.size ≤ w.heap.size + 1; omega) _
          exact hbs.grown (grownBy_putObj' _ _ _) hbs.size (fun k hk => by cases hk; omega)
end Go.Proofs.Ytmnhnjljapabdaa
