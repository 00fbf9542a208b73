/- The contract of 'move'. Conditions: as each names them. -/
import Derived.Test.YteflfflmedkdiaaPurseMove
set_option linter.unusedVariables false
namespace Go.Proofs.Yteflfflmedkdiaa
open Go.ChangeShapes Go.WideShapes Go.ChangeAt Go.RowKit

set_option maxRecDepth 100000 in
set_option maxHeartbeats 8000000 in
theorem move_any (b F g cap g2 cap2 i : Nat) (ps : List Pu) (us : List Int) (kd at_ n : Int) (w : World) (h : PFS b F g cap g2 cap2 ps us w) (hG : Good ps us) (hn : ps.length ≤ 101) (hi : i < ps.length) (n0 : -9223372036854775808 ≤ n) (n1 : n ≤ 9223372036854775807) :
    Calls Try.prog 15 #[.pointer (some ⟨F, 0, none⟩), .agg #[.int .i64 kd, .int .i64 at_, .int .i64 n], .int .i64 i] w fun e w' => e = .returned (.bool true) ∧ Below b w w' ∧ ∃ ps', ps'.length = ps.length ∧ PFS b F g cap g2 cap2 ps' us w' ∧ Good ps' us := by
  have H := Lib.hid h
  have HG := Lib.hid hG
  obtain ⟨_, _, c0, c1, _⟩ := h
  clear hG
  obtain ⟨p, hp⟩ : ∃ p, ps[i]? = some p := ⟨_, List.getElem?_eq_getElem hi⟩
  have HP := Lib.hid hp
  have hj := HG.out.just.at' hp
  have hat := H.out.at' hp
  clear hp
  generalize hN : ps.length = N at *
  have HN := Lib.hid hN
  clear hN
  obtain ⟨ab, al, au, ag, afl, afu, afg⟩ := hat
  obtain ⟨j1, j2, j3, j4⟩ := hj
  have hFl := H.out.lt
  have hg2l := H.out.lts.2.2.2
  go_enter Try.func15, Try.ntmps15
  go_wp2_with fail
  go_loopw [18] (fun s18 wx => ∃ (k : Nat), k ≤ N ∧ s18 = .int .i64 k ∧ wx = w.alloc (.cells #[.int .i64 kd, .int .i64 at_, .int .i64 n] 42)) (fun s18 _ => N - (intOf s18).toNat)
  case atStart => exact ⟨0, by omega, rfl, by first | rfl | trivial⟩
  case round =>
    obtain ⟨k, hk, rfl, rfl⟩ := hrel
    by_cases hkn : k < N
    · obtain ⟨q, hq⟩ : ∃ q, ps[k]? = some q := ⟨_, List.getElem?_eq_getElem (by have := HN.out; omega)⟩
      obtain ⟨u, hu⟩ : ∃ u, us[k]? = some u := ⟨_, List.getElem?_eq_getElem (by have := HN.out; have := HG.out.len; omega)⟩
      have cu := H.out.up hu
      have hjq := HG.out.just.at' hq
      have hatq := H.out.at' hq
      have HQ := Lib.hid hq
      have HU := Lib.hid hu
      obtain ⟨qb, ql, qu, qg, qfl, qfu, qfg⟩ := hatq
      obtain ⟨k1, k2, k3, k4⟩ := hjq
      have hkI : (k : Int) < (N : Int) := by omega
      clear hu hq
      by_cases hui : u = (i : Int)
      · have hFne := H.out.ne1
        go_upto_region 5 with fail
        go_cut [9, 10] (fun s9 s10 wc => ∃ A B : Nat, s9 = .pointer (some ⟨A, 0, none⟩) ∧ s10 = .pointer (some ⟨B, 0, none⟩) ∧ Duo (w.alloc (.cells #[.int .i64 kd, .int .i64 at_, .int .i64 n] 42)) A B p q wc)
        case first =>
          go_region_held3 (fun w' => w'.cell? ⟨F, 0, none⟩ = some (.slice (some ⟨g, 0, none⟩) N cap) ∧ w'.cell? ⟨g, i * 3, none⟩ = some (.int .i64 p.l) ∧ w'.cell? ⟨g, i * 3 + 1, none⟩ = some (.int .i64 p.u) ∧ w'.cell? ⟨g, i * 3 + 2, none⟩ = some (.int .i64 p.g) ∧ w'.cell? ⟨g, k * 3, none⟩ = some (.int .i64 q.l) ∧ w'.cell? ⟨g, k * 3 + 1, none⟩ = some (.int .i64 q.u) ∧ w'.cell? ⟨g, k * 3 + 2, none⟩ = some (.int .i64 q.g)) (exact ⟨by (repeat (first | assumption | with_reducible refine keepD ?_ | with_reducible refine keepA _ ?_)), by (repeat (first | assumption | with_reducible refine keepD ?_ | with_reducible refine keepA _ ?_)), by (repeat (first | assumption | with_reducible refine keepD ?_ | with_reducible refine keepA _ ?_)), by (repeat (first | assumption | with_reducible refine keepD ?_ | with_reducible refine keepA _ ?_)), by (repeat (first | assumption | with_reducible refine keepD ?_ | with_reducible refine keepA _ ?_)), by (repeat (first | assumption | with_reducible refine keepD ?_ | with_reducible refine keepA _ ?_)), by (repeat (first | assumption | with_reducible refine keepD ?_ | with_reducible refine keepA _ ?_))⟩) (fail)
          all_goals go_wp2_with fail
          all_goals go_meet
          all_goals first | exact ⟨_, _, rfl, rfl, Duo.mk1 _ p q _ (by simp)⟩ | exact ⟨_, _, rfl, rfl, Duo.mk2 _ p q _ (by simp)⟩
        case rest =>
          obtain ⟨A, B, rfl, rfl, hd⟩ := hcut
          have h2 := (H.out.alloc (.cells #[.int .i64 kd, .int .i64 at_, .int .i64 n] 42)).below hd.bl
          have cD : wc.cell? ⟨w.heap.size, 2, none⟩ = some (.int .i64 n) := (hd.bl.cell (p := ⟨w.heap.size, 2, none⟩) (by simp)).trans (by simp)
          have H2 := Lib.hid h2
          have HD := Lib.hid hd
          have dF := h2.c0
          rw [HN.out] at dF
          have he : Env F g cap N A B w.heap.size i k n p q p q wc := ⟨dF, cD, h2.at' HP.out, h2.at' HQ.out, hd.a, hd.b⟩
          have hFA : A ≠ F := by have := hd.hA; simp at this; omega
          have hFB : B ≠ F := by have := hd.hB; simp at this; omega
          have hgA : A ≠ g := by have := hd.hA; simp at this; omega
          have hgB : B ≠ g := by have := hd.hB; simp at this; omega
          have hDA : A ≠ w.heap.size := by have := hd.hA; simp at this; omega
          have hDB : B ≠ w.heap.size := by have := hd.hB; simp at this; omega
          have hAB := hd.ne
          have hDg : w.heap.size ≠ g := by omega
          have hDF : w.heap.size ≠ F := by omega
          have hbA := hd.hA
          have hbB := hd.hB
          rw [show (w.alloc (.cells #[.int .i64 kd, .int .i64 at_, .int .i64 n] 42)).heap.size = w.heap.size + 1 by simp] at hbA hbB
          have hble := H.out.le
          have hblw : Below b w wc := ((Below.refl b w).alloc (by omega) _).trans (hd.bl.mono (by simp; omega))
          have HE := Lib.hid he
          have HBL := Lib.hid hblw
          have HNE := Lib.hid (And.intro hFA (And.intro hFB (And.intro hgA (And.intro hgB (And.intro hDA (And.intro hDB (And.intro hAB (And.intro hDg hDF))))))))
          clear h2 hd c0 c1 al au ag afl afu afg ql qu qg qfl qfu qfg cu cD dF hblw hFA hFB hgA hgB hDA hDB hAB hDg hDF
          by_cases c0 : n = -9223372036854775808
          · have hov := fun w => move_over g (i * 3) g (k * 3) n (wrap_least n c0) (by rw [bne_iff_ne]; omega) w
            have HOV := Lib.hid hov
            have hne : (n == -9223372036854775808) = true := by rw [beq_iff_eq]; exact c0
            clear hov c0
            obtain ⟨dF, cD, ⟨ab1, al, au, ag, afl, afu, afg⟩, ⟨qb1, ql, qu, qg, qfl, qfu, qfg⟩, ⟨Ab1, Al, Au, Ag, Afl, Afu, Afg⟩, ⟨Bb1, Bl, Bu, Bg, Bfl, Bfu, Bfg⟩⟩ := he
            go_wp2_with fail
            go_region_held3 (fun w' => w'.cell? ⟨F, 0, none⟩ = some (.slice (some ⟨g, 0, none⟩) N cap) ∧ w'.cell? ⟨w.heap.size, 2, none⟩ = some (.int .i64 n)) (go_keep) (first | (go_at_call 12; refine (HOV.out _).mono ?_; rintro e w3 ⟨rfl, rfl⟩) | fail)
            go_wp2_with fail
            go_quiet (fail)
            go_wp2_with fail
            go_ret
            exact ⟨rfl, below_drewN HBL.out.drew _, ps, HN.out, H2.out.drew.below (below_drewN (Below.refl _ _) _), HG.out⟩
          · have hlo : -9223372036854775808 < n := by omega
            have hne : (n == -9223372036854775808) = false := by rw [beq_eq_false_iff_ne]; exact c0
            clear c0
            by_cases c1 : p.l - p.u - p.g < n ∨ q.l - q.u - q.g < - n
            · have hqu := fun (w' : World) (e : w'.heap = wc.heap) => move_quota g (i * 3) g (k * 3) p.l p.u p.g q.l q.u q.g n w' (HE.out.heap e).p ⟨j1, j2, j3, j4⟩ (HE.out.heap e).q ⟨k1, k2, k3, k4⟩ hlo n1 c1
              have HQU := Lib.hid hqu
              clear hqu
              obtain ⟨dF, cD, _⟩ := he
              by_cases c2 : p.l - p.u - p.g < n
              · have c2' : decide (p.l - p.u - p.g < n) = true := by simpa using c2
                clear c1
                go_wp2_with fail
                go_region_held3 (fun w' => w'.cell? ⟨F, 0, none⟩ = some (.slice (some ⟨g, 0, none⟩) N cap) ∧ w'.cell? ⟨w.heap.size, 2, none⟩ = some (.int .i64 n)) (go_keep) (first | (go_at_call 12; refine (HQU.out wc.drew rfl).mono ?_; rintro e w3 ⟨rfl, hb3⟩; have he3 := Env.below (HE.out.heap (w' := wc.drew) rfl) hb3; have HB3 := Lib.hid hb3; obtain ⟨dF3, cD3, ⟨ab1, al, au, ag, afl, afu, afg⟩, ⟨qb1, ql, qu, qg, qfl, qfu, qfg⟩, ⟨Ab1, Al, Au, Ag, Afl, Afu, Afg⟩, ⟨Bb1, Bl, Bu, Bg, Bfl, Bfu, Bfg⟩⟩ := he3; clear dF cD hb3) | fail)
                go_wp2_with fail
                go_quiet (fail)
                go_wp2_with fail
                go_ret
                exact ⟨rfl, below_drewN (HBL.out.drew.trans (HB3.out.mono (by have := HBL.out.size; show b ≤ wc.heap.size; omega))) _, ps, HN.out, H2.out.drew.below (below_drewN HB3.out _), HG.out⟩
              · have c3 : q.l - q.u - q.g < - n := by omega
                clear c1
                go_wp2_with fail
                go_region_held3 (fun w' => w'.cell? ⟨F, 0, none⟩ = some (.slice (some ⟨g, 0, none⟩) N cap) ∧ w'.cell? ⟨w.heap.size, 2, none⟩ = some (.int .i64 n)) (go_keep) (first | (go_at_call 12; refine (HQU.out wc.drew rfl).mono ?_; rintro e w3 ⟨rfl, hb3⟩; have he3 := Env.below (HE.out.heap (w' := wc.drew) rfl) hb3; have HB3 := Lib.hid hb3; obtain ⟨dF3, cD3, ⟨ab1, al, au, ag, afl, afu, afg⟩, ⟨qb1, ql, qu, qg, qfl, qfu, qfg⟩, ⟨Ab1, Al, Au, Ag, Afl, Afu, Afg⟩, ⟨Bb1, Bl, Bu, Bg, Bfl, Bfu, Bfg⟩⟩ := he3; clear dF cD hb3) | fail)
                go_wp2_with fail
                go_quiet (fail)
                go_wp2_with fail
                go_ret
                exact ⟨rfl, below_drewN (HBL.out.drew.trans (HB3.out.mono (by have := HBL.out.size; show b ≤ wc.heap.size; omega))) _, ps, HN.out, H2.out.drew.below (below_drewN HB3.out _), HG.out⟩
            · have d1 : n ≤ p.l - p.u - p.g := by omega
              have d2 : - n ≤ q.l - q.u - q.g := by omega
              clear c1
              obtain ⟨hgm, hmax, hik⟩ := HG.out.moved HU.out hui HP.out HQ.out d1 d2
              have hlen' := hgm.len
              have hpi : ((ps.set i ⟨p.l, p.u, p.g + n⟩).set k ⟨q.l + n, q.u, q.g⟩)[i]? = some ⟨p.l, p.u, p.g + n⟩ := by
                rw [List.getElem?_set_ne (Ne.symm hik), List.getElem?_set_self (List.getElem?_eq_some_iff.1 HP.out).1]
              have hqk : ((ps.set i ⟨p.l, p.u, p.g + n⟩).set k ⟨q.l + n, q.u, q.g⟩)[k]? = some ⟨q.l + n, q.u, q.g⟩ := by
                rw [List.getElem?_set_self (by simpa using (List.getElem?_eq_some_iff.1 HQ.out).1)]
              obtain ⟨m1, m2, m3, m4⟩ := hgm.just.at' hpi
              obtain ⟨l1, l2, l3, l4⟩ := hgm.just.at' hqk
              have hlen2 : ((ps.set i ⟨p.l, p.u, p.g + n⟩).set k ⟨q.l + n, q.u, q.g⟩).length = N := by simp [HN.out]
              dsimp only at m1 m2 m3 m4 l1 l2 l3 l4
              have hmo := moved_ok b F g cap g2 cap2 i k ps us u n p q wc.drew H2.out.drew HG.out HU.out hui HP.out HQ.out d1 d2
              have HMO := Lib.hid hmo
              have HGM := Lib.hid hgm
              have HPI := Lib.hid hpi
              have HQK := Lib.hid hqk
              have HL2 := Lib.hid hlen2
              clear hmo hgm hpi hqk hlen' hlen2
              have d1' : decide (p.l - p.u - p.g < n) = false := by simp; omega
              have d2' : decide (q.l - q.u - q.g < -n) = false := by simp; omega
              have hw1 : IntKind.i64.wrap (p.g + n) = p.g + n := by rw [IntKind.wrap_i64]; omega
              have hw2 : IntKind.i64.wrap (q.l + n) = q.l + n := by rw [IntKind.wrap_i64]; omega
              obtain ⟨dF, cD, _⟩ := he
              go_wp2_with fail
              go_region_held3 (fun w' => w'.cell? ⟨F, 0, none⟩ = some (.slice (some ⟨g, 0, none⟩) N cap) ∧ w'.cell? ⟨w.heap.size, 2, none⟩ = some (.int .i64 n)) (go_keep) (first | (go_at_call 12; refine HMO.out.mono ?_; rintro e w3 ⟨rfl, hb3, hk3, hf3⟩; have he3 := Env.kept (HE.out.heap (w' := wc.drew) rfl) hk3 hFne HNE.out.2.2.2.2.2.2.2.1 HNE.out.2.2.1 HNE.out.2.2.2.1 (hf3.at' HPI.out) (hf3.at' HQK.out); have HB3 := Lib.hid hb3; have HF3 := Lib.hid hf3; have HE3 := Lib.hid he3; obtain ⟨dF3, cD3, ⟨ab1, al, au, ag, afl, afu, afg⟩, ⟨qb1, ql, qu, qg, qfl, qfu, qfg⟩, ⟨Ab1, Al, Au, Ag, Afl, Afu, Afg⟩, ⟨Bb1, Bl, Bu, Bg, Bfl, Bfu, Bfg⟩⟩ := he3; dsimp only at al au ag ql qu qg; clear dF cD hb3 hf3 hk3) | fail)
              go_upto_block 2 with fail
              go_cut [9, 10, 11, 12] (fun s9 s10 s11 s12 wd => (s9 = .pointer (some ⟨A, 0, none⟩) ∧ s10 = .pointer (some ⟨B, 0, none⟩) ∧ s11 = .int .i64 0 ∧ s12 = .int .i64 0) ∧ Met2 b F g cap g2 cap2 N A B w.heap.size i k n ⟨p.l, p.u, p.g + n⟩ ⟨q.l + n, q.u, q.g⟩ w ((ps.set i ⟨p.l, p.u, p.g + n⟩).set k ⟨q.l + n, q.u, q.g⟩) us wd)
              case first =>
                obtain ⟨m1, m2, m3, m4, m5, m6, m7, m8, m9⟩ := HNE.out
                go_wp2_with fail
                go_region
                all_goals go_wp2_with fail
                go_meet
                exact ⟨⟨rfl, rfl, rfl, rfl⟩, (Met2.mk1 (r := p) (s := q) HE3.out HF3.out (HBL.out.drew.trans HB3.out) m1 m2 m3 m4 m5 m6 m7 (by omega) (by omega) (by omega) (by omega)).drew⟩
              case rest =>
                obtain ⟨⟨rfl, rfl, rfl, rfl⟩, hm2⟩ := hcut
                obtain ⟨hev, hfs, hbl⟩ := hm2
                have HFS := Lib.hid hfs
                have HB4 := Lib.hid hbl
                obtain ⟨eF, eD, ⟨_, el, eu, eg, _⟩, ⟨_, fl, fu, fg, _⟩, ⟨_, Al', Au', Ag', _⟩, ⟨_, Bl', Bu', Bg', _⟩⟩ := hev
                dsimp only at el eu eg fl fu fg Al' Au' Ag' Bl' Bu' Bg'
                clear hfs hbl dF3 cD3 al au ag afl afu afg ql qu qg qfl qfu qfg Al Au Ag Afl Afu Afg Bl Bu Bg Bfl Bfu Bfg hw1 hw2 d1' d2'
                go_wp2_with fail
                go_quiet (fail)
                go_wp2_with fail
                go_ret
                exact ⟨rfl, below_drewN HB4.out _, _, HL2.out, HFS.out.below (below_drewN (Below.refl _ _) _), HGM.out⟩
      · go_wp2_with fail
        go_roundw
        case rel => exact ⟨k + 1, by omega, by go_num, by first | rfl | trivial⟩
        case measure => simp [intOf]; omega
    · obtain rfl : k = N := by omega
      go_wp2_with fail
      go_ret
      exact ⟨rfl, by have := H.out.le; have := H.out.lt; exact (Below.refl _ _).alloc (by omega) _, ps, HN.out, H.out.alloc _, HG.out⟩
end Go.Proofs.Yteflfflmedkdiaa
