/- The walk of the law NamesApart: the law returns true at every number and all cuts and changes nothing that existed. Conditions: as each theorem names them. -/
import Derived.Test.YthkcpdhlpalaiaaNamesSeen
set_option linter.unusedVariables false
namespace Go.Proofs.Ythkcpdhlpalaiaa
open Go.ChangeShapes Go.WideShapes Go.ChangeAt Go.RowKit Go.Maps

set_option maxRecDepth 100000 in
set_option maxHeartbeats 8000000 in
theorem lawApart_some (n : Int) (cao : Option Addr) (cm cc : Nat) (cs : Nat → Int) (hc30 : cm ≤ 30) (n0 : -9223372036854775808 ≤ n) (n1 : n ≤ 9223372036854775807) (w : World)
    (hcb : ∀ i, -9223372036854775808 ≤ cs i ∧ cs i ≤ 9223372036854775807) (hca : 0 < cm → ∃ ca, cao = some ca ∧ ∀ i, i < cm → w.cell? (ca.add i) = some (.int .i64 (cs i))) :
    Calls Try.prog 4 #[.int .i64 n, .slice cao cm cc] w fun e w' => e = .returned (.bool true) ∧ Below w.heap.size w w' := by
  have hm : -200 < n.tmod 200 ∧ n.tmod 200 < 200 := by
    have h1 : (n.tmod 200).natAbs < 200 := by rw [Int.natAbs_tmod]; exact Nat.mod_lt _ (by decide)
    omega
  obtain ⟨NN, hN, hN8⟩ : ∃ N : Nat, (n.tmod 200 + 200) % 200 = (N : Int) ∧ N < 200 := ⟨((n.tmod 200 + 200) % 200).toNat, by omega, by omega⟩
  have hN2 : n.tmod 200 % 200 = (NN : Int) := by omega
  have HN := Lib.hid hN
  have HN2 := Lib.hid hN2
  clear hN hN2
  have hm31 : ¬ (30 : Int) < (cm : Int) := by omega
  obtain ⟨i0, hi, hz0, hz1, hz2'⟩ := info_parts info25
  have HCA := Lib.hid hca
  have HCB := Lib.hid hcb
  clear hca hcb
  have hmm := @run_makeMap Try.prog
  go_enter Try.func4, Try.ntmps4
  go_wp2_with fail
  refine (fit_any _).mono ?_
  rintro e w1 ⟨rfl, hb1⟩
  have HB1 := Lib.hid hb1
  clear hb1
  go_wp2_with fail
  rw [HN.out]
  go_wp2_with fail
  rw [HN2.out]
  refine (new_yes 5 (NN : Int) (by omega) (by omega) (by omega) (by omega) _).mono ?_
  rintro e w2 ⟨rfl, rfl⟩
  have hs := cut_start (NN : Int) (by omega) w1 ((w1.alloc (rgc 5 5 (5 + (NN : Int)))).alloc (rgc 5 5 (5 + (NN : Int)))) (((Below.refl _ _).alloc (Nat.le_refl _) _).alloc (by simp) _) (w1.heap.size + 1 + 1) (by simp)
  have HS := Lib.hid hs
  clear hs
  go_wp2_with fail
  go_loopw [7, 35] (fun s7 s35 wr => ∃ (k g cap N : Nat) (ps : List Pu), k ≤ cm ∧ s35 = .int .i64 k ∧ s7 = .slice (some ⟨g, 0, none⟩) N cap ∧ Cut w1.heap.size k NN g cap N ps w1 wr) (fun _ s35 _ => cm - (intOf s35).toNat)
  case atStart => exact ⟨0, _, _, _, _, by omega, rfl, rfl, HS.out⟩
  case round =>
    obtain ⟨k, g, cap, N, ps, hk, rfl, rfl, hr⟩ := hrel
    by_cases hkm : k < cm
    · obtain ⟨ca, rfl, hcs⟩ := HCA.out (by omega)
      obtain ⟨q0, q1⟩ := HCB.out k
      have hc := hcs k hkm
      have hlc := lt_of_cell hc
      have hcw := (hr.bl.cell (p := ca.add k) (Nat.lt_of_lt_of_le hlc HB1.out.size)).trans ((HB1.out.cell (p := ca.add k) hlc).trans hc)
      clear hlc hc hcs
      generalize cs k = C at *
      obtain ⟨V, hV', V0, V1'⟩ := and_mask (C.tmod 50) 31 (by omega)
      have hV : bits .and .i64 (C.tmod 50) 31 = V := hV'
      have V1 : V ≤ 31 := V1'
      clear hV' V1'
      have hN0 : 0 < N := by have := hr.parts.pos; have := hr.len; omega
      have hNk : N ≤ 31 := by have := hr.le; omega
      obtain ⟨q, hq, hqk⟩ : ∃ q : Nat, q = k % N ∧ q < N := ⟨_, rfl, Nat.mod_lt _ hN0⟩
      have hq1 : ((k : Int)).tmod (N : Int) = (q : Int) := by rw [Int.tmod_eq_emod_of_nonneg (by omega), hq]; rfl
      have hq2 : ((k : Int)) % (N : Int) = (q : Int) := by rw [hq]; rfl
      have hq3 : (0 : Int) ≤ (q : Int) := by omega
      have hq4 : (q : Int) < (N : Int) := by omega
      have hNI : ¬ ((N : Int) = 0) := by omega
      clear hq
      obtain ⟨p, hp⟩ : ∃ p, ps[q]? = some p := ⟨_, List.getElem?_eq_getElem (by have := hr.len; omega)⟩
      obtain ⟨i1, i2, i3, i4⟩ := hr.parts.in' q p hp
      obtain ⟨ab, al, au, ag, afl, afu, afg⟩ := hr.at' hp
      have HR := Lib.hid hr
      have HP := Lib.hid hp
      have hbz := hr.bl.size
      have hgb := own_lt hr.fam
      have HGB := Lib.hid hgb
      clear hr hp hgb
      by_cases hVp : V ≤ p.g - p.u
      · have hsp := split_yes g (q * 3) p.l p.u p.g V wr ab al au ag afg (by omega) (by omega) (by omega) V0 hVp
        have HSP := Lib.hid hsp
        obtain ⟨ho2, hb2⟩ := HR.out.splits (V := V) HP.out (rgc (p.g - V) (p.g - V) p.g) (rgc p.l p.u p.g)
        clear hsp
        go_wp2_with fail
        refine HSP.out.mono ?_
        rintro e w2 ⟨rfl, hw2⟩
        rw [hw2] at ho2 hb2
        have HO := Lib.hid ho2
        have HB2 := Lib.hid hb2
        have hz2 := hb2.size
        clear hw2 ho2 hb2
        go_wp2_with (first
          | (at_builtin; refine wpList_append_own_at _ rfl (.tmp 55) (.tmp 57) 31 rfl w1.heap.size 25 i0 (.agg #[.int .u64 0, .int .u64 0, .int .u64 0]) 3 24 Try.underlying31 hi hz0 hz1 hz2' rfl (by decide) _ _ _ rfl ((HO.out.alloc _).alloc _) ⟨w2.heap.size + 1, 0, none⟩ 1 1 [.int .u64 (p.g - V), .int .u64 (p.g - V), .int .u64 p.g] rfl rfl (by have := three_new (w2.alloc (.cells #[.int .u64 (p.g - V), .int .u64 (p.g - V), .int .u64 p.g] 25)) (.int .u64 (p.g - V)) (.int .u64 (p.g - V)) (.int .u64 p.g) 25; simpa using this) (by simp [Value.oneCell']) (by unfold maxLen; omega) (by omega) (by simp; omega) ?_; intro v' w3 hown' hgrow hnil hat; obtain ⟨g', cap', rfl, hg', hg2, hg3, hg4⟩ := own_form hown'; have HO3 := Lib.hid hown'; have HG := Lib.hid hgrow; clear hown' hgrow hnil hat)
          | fail)
        have hb3 : Below w1.heap.size w1 w3 := Below.grown (Below.alloc (Below.alloc HB2.out (by omega) _) (by simp; omega) _) HG.out (by simp; omega) (by intro j hj; have e : some g = some j := hj; cases e; exact HGB.out.1)
        have hr3 := HR.out.step HP.out V0 hVp HO3.out hb3
        have HR3 := Lib.hid hr3
        clear hr3 hb3
        go_roundw
        case rel => exact ⟨k + 1, _, _, _, _, by omega, by go_num, rfl, HR3.out⟩
        case measure => simp [intOf]; omega
      · have hsp := split_no g (q * 3) p.l p.u p.g V wr ab al au ag (by omega) (by omega) (by omega) (by omega)
        have HSP := Lib.hid hsp
        clear hsp
        go_wp2_with fail
        refine HSP.out.mono ?_
        rintro e w2 ⟨rfl, hw2⟩
        have hr3 := HR.out.below hw2
        have HR3 := Lib.hid hr3
        have hz2 := hw2.size
        clear hr3 hw2
        go_wp2_with fail
        go_roundw
        case rel => exact ⟨k + 1, _, _, _, _, by omega, by go_num, rfl, HR3.out.alloc _⟩
        case measure => simp [intOf]; omega
    · obtain rfl : k = cm := by omega
      have hgv := hr.give
      have HGV := Lib.hid hgv
      have hNk : N ≤ 31 := by have := hr.le; omega
      have hlen := hr.len
      have HLEN := Lib.hid hlen
      clear hgv hr hlen
      go_wp2_with fail
      generalize wr.heap.size = M at *
      go_loopw [63] (fun s63 wx => ∃ (i : Nat) (ps : List Pu) (D : DataW Unit), i ≤ N ∧ s63 = .int .i64 i ∧ Give w1.heap.size i NN g cap N M ps D w1 wx) (fun s63 _ => N - (intOf s63).toNat)
      case atStart => exact ⟨0, _, _, by omega, rfl, HGV.out⟩
      case round =>
        obtain ⟨wx, hwx⟩ : ∃ wx : World, wx = wr := ⟨_, rfl⟩
        subst hwx
        obtain ⟨i, ps, D, hiN, rfl, hr⟩ := hrel
        by_cases hi : i < N
        · obtain ⟨p0, hp0⟩ : ∃ p, ps[i]? = some p := ⟨_, List.getElem?_eq_getElem (by have := hr.len; omega)⟩
          obtain ⟨G0, hG0⟩ : ∃ G, p0.g = G := ⟨_, rfl⟩
          obtain ⟨L0, hL0⟩ : ∃ L, p0.l = L := ⟨_, rfl⟩
          have HR := Lib.hid hr
          have HP0 := Lib.hid hp0
          have HG0 := Lib.hid (And.intro hG0 hL0)
          have hiI : (i : Int) < (N : Int) := by omega
          clear hr hp0 hG0 hL0
          go_wp2_with fail
          go_loopw [15] (fun _ wy => ∃ (ps : List Pu) (D : DataW Unit) (u : Int), Give w1.heap.size i NN g cap N M ps D w1 wy ∧ ps[i]? = some ⟨L0, u, G0⟩) (fun _ wy => (G0 - num wy ⟨g, i * 3 + 1, none⟩).toNat)
          case atStart => exact ⟨ps, D, p0.u, HR.out, by rw [HP0.out, ← HG0.out.1, ← HG0.out.2]⟩
          case round =>
            obtain ⟨wy, hwy⟩ : ∃ wy : World, wy = wr := ⟨_, rfl⟩
            subst hwy
            obtain ⟨ps, D, u, hr, hp⟩ := hrel
            obtain ⟨i1, i2, i3, i4⟩ := hr.parts.in' i _ hp
            obtain ⟨ab, al, au, ag, afl, afu, afg⟩ := hr.at' hp
            dsimp only at i1 i2 i3 i4 al au ag
            have hnum := num_of au
            have HNUM := Lib.hid hnum
            clear hnum
            have HR1 := Lib.hid hr
            have HP := Lib.hid hp
            have hgl := own_lt hr.fam
            have hMg := hr.ne
            by_cases hu : u < G0
            · have htk := take_yes g (i * 3) L0 u G0 wy ab al au ag afu (by omega) hu (by omega)
              have HTK := Lib.hid htk
              have hu0 : (u == 0) = false := by rw [beq_eq_false_iff_ne]; omega
              have hfr := hr.seen.fresh hr.parts hp hu
              have HFR := Lib.hid hfr
              have hkey : keyOf Try.prog 22 (.int .u64 u) = some (.int .u64 u) := keyOf_int_mk Try.underlying22 (by simp [Lit.wf, IntKind.min, IntKind.max, IntKind.signed, IntKind.bits]; omega)
              have HKEY := Lib.hid hkey
              have hn2 : tk ps ≤ 200 := by
                have := hr.parts.tk_le; omega
              clear htk hfr hkey hr hp
              have hgy := given_yes L0 (u + 1) G0 u i2 (by omega)
              have HGY := Lib.hid hgy
              clear hgy
              obtain ⟨g1, g2⟩ := hgl
              obtain ⟨hat4, hmap4⟩ := HR1.out.after HP.out (rgc L0 u G0)
              go_wp2_with fail
              refine HTK.out.mono ?_
              rintro e w4 ⟨rfl, hw4⟩
              rw [hw4] at hat4 hmap4
              obtain ⟨_, bl4, bu4, bg4, _, _, _⟩ := hat4
              have HW4 := Lib.hid hw4
              clear hw4 al au ag afl afu afg
              go_wp2_with fail
              refine (HGY.out _).mono ?_
              rintro e w5 ⟨rfl, hw5⟩
              have hmap5 := hmap4.alloc (rgc L0 (u + 1) G0)
              rw [hw5] at hmap5
              have HM5 := Lib.hid hmap5
              have HW5 := Lib.hid hw5
              clear hw5 hmap5 hmap4 bl4 bu4 bg4
              go_wp2_with (first
                | (at_lookup; refine wpList_lookup_own_int _ rfl _ _ 34 rfl 22 3 .i64 law22 Try.underlying34 Try.underlying3 (zero3 _) M _ _ rfl HM5.out _ _ rfl HKEY.out ?_; intro c hat hwc; have hc1 : c = 0 := (by have h2 := HFR.out.symm.trans hat; injection h2 with h3; injection h3 with _ h4; exact h4.symm); subst hc1; clear hat hwc)
                | (at_mapUpdate; refine wpList_mapUpdate_own _ rfl _ _ _ 34 rfl 22 3 law22 Try.underlying34 _ M _ _ rfl HM5.out (by unfold maxLen; omega) _ (.int .i64 1) _ rfl (by rfl) HKEY.out _ [] (plainElem_int Try.underlying3 (by decide)) ?_; intro w6 hown6 hgrow6; have HO6 := Lib.hid hown6; have HG6 := Lib.hid hgrow6; clear hown6 hgrow6)
                | fail)
              have hg6 := HG6.out
              rw [← HW5.out, ← HW4.out] at hg6
              have hr6 := HR1.out.taken HP.out hu _ _ HO6.out hg6
              have hp6 : (ps.set i ⟨L0, u + 1, G0⟩)[i]? = some ⟨L0, u + 1, G0⟩ := List.getElem?_set_self (List.getElem?_eq_some_iff.1 HP.out).1
              have hn6 := num_of (hr6.at' hp6).hu
              dsimp only at hn6
              have HR6 := Lib.hid hr6
              have HP6 := Lib.hid hp6
              have HN6 := Lib.hid hn6
              clear hr6 hp6 hn6 hg6
              go_roundw
              case rel => first | exact ⟨_, _, _, HR6.out, HP6.out⟩ | ((repeat apply Exists.intro); exact ⟨⟨_, _, _, HR6.out, HP6.out⟩, rfl⟩)
              case measure => rw [HN6.out, HNUM.out]; omega
            · obtain rfl : u = G0 := by omega
              have htk := take_no g (i * 3) L0 u wy al au ag
              have HTK := Lib.hid htk
              clear htk hr hp
              go_wp2_with fail
              refine HTK.out.mono ?_
              rintro e w4 ⟨rfl, hw4⟩
              have hr4 := (HR1.out.next HP.out rfl).alloc (rgc L0 u u)
              rw [hw4] at hr4
              have HR4 := Lib.hid hr4
              clear hr4 hw4
              go_wp2_with fail
              go_roundw
              case rel => exact ⟨i + 1, _, _, by omega, by go_num, HR4.out⟩
              case measure => simp [intOf]; omega
        · obtain rfl : i = N := by omega
          obtain ⟨hsz, hall⟩ := hr.all
          have HSZ := Lib.hid hsz
          have HALL := Lib.hid hall
          have hmap := hr.map
          have HMAP := Lib.hid hmap
          have hbl := hr.bl
          have HBL := Lib.hid hbl
          clear hr hsz hall hmap hbl
          go_wp2_with fail
          go_loopw [85] (fun s85 wz => ∃ t : Nat, t ≤ NN ∧ s85 = .int .i64 t ∧ wz = wx) (fun s85 _ => NN - (intOf s85).toNat)
          case atStart => exact ⟨0, by omega, rfl, rfl⟩
          case round =>
            obtain ⟨t, ht, rfl, rfl⟩ := hrel
            by_cases htn : t < NN
            · have hkey : keyOf Try.prog 22 (.int .u64 (5 + (t : Int))) = some (.int .u64 (5 + (t : Int))) := keyOf_int_mk Try.underlying22 (by simp [Lit.wf, IntKind.min, IntKind.max, IntKind.signed, IntKind.bits]; omega)
              have HKEY := Lib.hid hkey
              have h1 := HALL.out (5 + (t : Int)) (by omega) (by omega)
              have H1 := Lib.hid h1
              have htI : (t : Int) < (NN : Int) := by omega
              clear hkey h1
              go_wp2_with (first
                | (at_lookup; refine wpList_lookup_own_int _ rfl _ _ 34 rfl 22 3 .i64 law22 Try.underlying34 Try.underlying3 (zero3 _) M _ _ rfl HMAP.out _ _ rfl HKEY.out ?_; intro c hat hwc; have hc1 : c = 1 := (by have h2 := H1.out.symm.trans hat; injection h2 with h3; injection h3 with _ h4; exact h4.symm); subst hc1; clear hat hwc)
                | fail)
              go_roundw
              case rel => first | exact ⟨t + 1, by omega, by go_num, rfl⟩ | exact ⟨t + 1, by omega, by go_num, trivial⟩
              case measure => simp [intOf]; omega
            · obtain rfl : t = NN := by omega
              go_wp2_with (first
                | (at_len; refine wpList_len_own _ rfl _ 34 rfl 22 3 Try.underlying34 _ M _ _ rfl HMAP.out ?_)
                | fail)
              go_ret
              exact ⟨ret_bool (by rw [HSZ.out]; simp), HB1.out.trans (HBL.out.mono HB1.out.size)⟩
end Go.Proofs.Ythkcpdhlpalaiaa
