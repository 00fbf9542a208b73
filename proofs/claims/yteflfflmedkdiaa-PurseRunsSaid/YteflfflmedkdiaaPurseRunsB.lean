/- The walk of the law PurseRuns: the law returns true at every limit and all calls and changes nothing that existed. Conditions: as each theorem names them. -/
import Derived.Test.YteflfflmedkdiaaPurseRuns
import Derived.Test.YteflfflmedkdiaaPurseGive
set_option linter.unusedVariables false
namespace Go.Proofs.Yteflfflmedkdiaa
open Go.ChangeShapes Go.WideShapes Go.ChangeAt Go.RowKit

theorem runs_index (x : Int) (N : Nat) (h0 : 0 < N) (hN : N ≤ 101) (x0 : -9223372036854775808 ≤ x) (x1 : x ≤ 9223372036854775807) : ∃ I : Nat, I < N ∧ (x.tmod N + N).tmod N = (I : Int) ∧ -(N : Int) < x.tmod N ∧ x.tmod N < N := by
  have h1 : (x.tmod N).natAbs < N := by rw [Int.natAbs_tmod]; simpa using Nat.mod_lt _ h0
  have h2 : (x.tmod N + N).tmod N = (x.tmod N + N) % N := Int.tmod_eq_emod_of_nonneg (by omega)
  have h3 : 0 ≤ (x.tmod N + N) % N := Int.emod_nonneg _ (by omega)
  have h4 : (x.tmod N + N) % N < N := Int.emod_lt_of_pos _ (by omega)
  exact ⟨((x.tmod N + N) % N).toNat, by omega, by rw [h2]; omega, by omega, by omega⟩

set_option maxRecDepth 100000 in
set_option maxHeartbeats 60000000 in
theorem lawRuns_some (l0 : Int) (ao : Option Addr) (m c : Nat) (kd at_ n : Nat → Int) (hm : m ≤ 100) (w : World)
    (hw : ∀ i, -9223372036854775808 ≤ kd i ∧ kd i ≤ 9223372036854775807 ∧ -9223372036854775808 ≤ at_ i ∧ at_ i ≤ 9223372036854775807 ∧ -9223372036854775808 ≤ n i ∧ n i ≤ 9223372036854775807)
    (ha : 0 < m → ∃ a, ao = some a ∧ ∀ i, i < m → w.cell? (a.add (i * 3)) = some (.int .i64 (kd i)) ∧ w.cell? ((a.add (i * 3)).add 1) = some (.int .i64 (at_ i)) ∧ w.cell? ((a.add (i * 3)).add 2) = some (.int .i64 (n i))) :
    Calls Try.prog 6 #[.int .i64 l0, .slice ao m c] w fun e w' => e = .returned (.bool true) ∧ Below w.heap.size w w' := by
  obtain ⟨L, hl', a0, a1⟩ := and_mask l0 1099511627775 (by omega)
  have hl : bits .and .i64 l0 1099511627775 = L := hl'
  clear hl'
  have a1 : L ≤ 1099511627775 := a1
  have hm1 : ¬ (100 : Int) < (m : Int) := by omega
  have HW := Lib.hid hw
  have HA := Lib.hid ha
  clear hw ha
  go_enter Try.func6, Try.ntmps6
  go_wp2_with fail
  refine (fit_any _).mono ?_
  rintro e w1 ⟨rfl, hb1⟩
  have hs := runs_start L a0 a1 w1
  have HS := Lib.hid hs
  have HB1 := Lib.hid hb1
  clear hs hb1
  go_wp2_with fail
  go_loopw [31] (fun s31 wr => ∃ (k : Nat), k ≤ m ∧ s31 = .int .i64 k ∧ RunRel w1.heap.size (w1.heap.size + 1 + 1) k w1 wr) (fun s31 _ => m - (intOf s31).toNat)
  case atStart => exact ⟨0, by omega, rfl, HS.out⟩
  case round =>
    obtain ⟨k, hk, rfl, hr⟩ := hrel
    by_cases hkm : k < m
    · obtain ⟨g, cap, g2, cap2, ps, us, hfs, hG, hlen, hbl⟩ := hr
      obtain ⟨a, rfl, hca⟩ := HA.out (by omega)
      obtain ⟨q0, q1, q2, q3, q4, q5⟩ := HW.out k
      obtain ⟨ca, cb, cc⟩ := hca k hkm
      have mv : ∀ {p : Addr} {v : Value}, w.cell? p = some v → wr.cell? p = some v := fun {p v} h => (hbl.cell (p := p) (Nat.lt_of_lt_of_le (lt_of_cell h) HB1.out.size)).trans ((HB1.out.cell (p := p) (lt_of_cell h)).trans h)
      have da := mv ca
      have db : wr.cell? ⟨(a.add (k * 3)).block, (a.add (k * 3)).off + 1, none⟩ = some (.int .i64 (at_ k)) := mv cb
      have dc : wr.cell? ⟨(a.add (k * 3)).block, (a.add (k * 3)).off + 2, none⟩ = some (.int .i64 (n k)) := mv cc
      generalize kd k = K at *
      generalize at_ k = T at *
      generalize n k = M at *
      have hN := hG.pos
      generalize hNe : ps.length = N at *
      obtain ⟨I, hI, hI1, hI2, hI3⟩ := runs_index T N hN (by omega) q2 q3
      obtain ⟨p, hp⟩ : ∃ p, ps[I]? = some p := ⟨_, List.getElem?_eq_getElem (by omega)⟩
      have hj := hG.just.at' hp
      have hat := hfs.at' hp
      have dF := hfs.c0
      rw [hNe] at dF
      obtain ⟨ab, al, au, ag, afl, afu, afg⟩ := hat
      obtain ⟨j1, j2, j3, j4⟩ := hj
      have HP := Lib.hid hp
      have HNE := Lib.hid hNe
      have HFS := Lib.hid hfs
      have HG := Lib.hid hG
      have HBL := Lib.hid hbl
      have hzz := hbl.size
      have hFl := hfs.lt
      have hA0 := lt_of_cell da
      clear mv hca ca cb cc hp hNe hfs hG hbl
      have hw1 : IntKind.i64.wrap (T.tmod N + N) = T.tmod N + N := by rw [IntKind.wrap_i64]; omega
      have hNI : ¬ ((N : Int) = 0) := by omega
      have hII : (I : Int) < (N : Int) := by omega
      have hI0 : (0 : Int) ≤ (I : Int) := by omega
      go_wp2_with fail
      go_quiet (fail)
      have hbF : w1.heap.size ≤ wr.heap.size := hzz
      generalize hw2 : (wr.alloc (.cells #[.int .i64 K, .int .i64 T, .int .i64 M] 42)).drewN nq = w2
      have dK : w2.cell? ⟨wr.heap.size, 0, none⟩ = some (.int .i64 K) := by rw [← hw2]; show (wr.alloc _).cell? _ = _; simp
      have dT : w2.cell? ⟨wr.heap.size, 1, none⟩ = some (.int .i64 T) := by rw [← hw2]; show (wr.alloc _).cell? _ = _; simp
      have dM : w2.cell? ⟨wr.heap.size, 2, none⟩ = some (.int .i64 M) := by rw [← hw2]; show (wr.alloc _).cell? _ = _; simp
      have h2 : PFS w1.heap.size (w1.heap.size + 1 + 1) g cap g2 cap2 ps us w2 := by rw [← hw2]; exact (HFS.out.alloc _).below (below_drewN (Below.refl _ _) _)
      have hb2 : Below w1.heap.size w1 w2 := by rw [← hw2]; exact below_drewN (HBL.out.alloc hbF _) _
      have hz2 : wr.heap.size < w2.heap.size := by rw [← hw2]; show _ < (wr.alloc _).heap.size; simp
      have hat2 := h2.at' HP.out
      have dF2 := h2.c0
      rw [HNE.out] at dF2
      obtain ⟨ab2, al2, au2, ag2, afl2, afu2, afg2⟩ := hat2
      have HF2 := Lib.hid h2
      have HB2 := Lib.hid hb2
      clear hw2 h2 hb2 dF al au ag afl afu afg da db dc
      have hDg0 : wr.heap.size ≠ g := by have := HFS.out.lts.2.1; omega
      generalize wr.heap.size = D at *
      go_wp2_with fail
      go_region_held3 (fun w' => w'.cell? ⟨w2.heap.size, 0, none⟩ = some (.int .i64 p.l) ∧ w'.cell? ⟨w2.heap.size, 1, none⟩ = some (.int .i64 p.u) ∧ w'.cell? ⟨w2.heap.size, 2, none⟩ = some (.int .i64 p.g)) (first | (refine ⟨?_, ?_, ?_⟩ <;> (simp; done)) | go_keep) (fail)
      obtain ⟨R, hR, hR0, hR5, hk0, hk5⟩ : ∃ R : Int, (K.tmod 5 + 5) % 5 = R ∧ 0 ≤ R ∧ R < 5 ∧ -5 < K.tmod 5 ∧ K.tmod 5 < 5 := by
        have h1 : (K.tmod 5).natAbs < 5 := by rw [Int.natAbs_tmod]; exact Nat.mod_lt _ (by decide)
        exact ⟨_, rfl, by omega, by omega, by omega, by omega⟩
      have hR' : (K.tmod 5 + 5).tmod 5 = R := by rw [Int.tmod_eq_emod_of_nonneg (by omega)]; exact hR
      go_upto_block 2 with fail
      clear hR hR'
      have hduo := Duo.mk1 w2 p p w2.heap.size rfl
      have h3 := HF2.out.below hduo.bl
      have hb3 : Below w1.heap.size w1 ((w2.alloc (puc p.l p.u p.g)).alloc (puc p.l p.u p.g)).drew := HB2.out.trans (hduo.bl.mono (by have := HB2.out.size; omega))
      generalize hw3 : ((w2.alloc (.cells #[.int .i64 p.l, .int .i64 p.u, .int .i64 p.g] 24)).alloc (.cells #[.int .i64 p.l, .int .i64 p.u, .int .i64 p.g] 24)).drew = w3
      have hduo : Duo w2 w2.heap.size (w2.heap.size + 1) p p w3 := by rw [← hw3]; exact hduo
      have h3 : PFS w1.heap.size (w1.heap.size + 1 + 1) g cap g2 cap2 ps us w3 := by rw [← hw3]; exact h3
      have hb3 : Below w1.heap.size w1 w3 := by rw [← hw3]; exact hb3
      have dK3 := (hduo.bl.cell (p := ⟨D, 0, none⟩) hz2).trans dK
      have dT3 := (hduo.bl.cell (p := ⟨D, 1, none⟩) hz2).trans dT
      have dM3 := (hduo.bl.cell (p := ⟨D, 2, none⟩) hz2).trans dM
      have hbw2 := HB2.out.size
      have hFA := HF2.out.lt
      have hgA := HF2.out.lts.2.1
      have hg2A := HF2.out.lts.2.2.2
      have hDg : D ≠ g := hDg0
      generalize w2.heap.size = A at *
      have HD3 := Lib.hid hduo
      have HF3 := Lib.hid h3
      have HB3 := Lib.hid hb3
      clear hw3 dK dT dM dF2 al2 au2 ag2 afl2 afu2 afg2 h3 hb3 hduo
      go_cut [12, 14] (fun s12 s14 wc => ∃ want : Int, s12 = .int .i64 want ∧ s14 = .int .i64 want ∧ Sw w1.heap.size (w1.heap.size + 1 + 1) k I A (A + 1) w1 p want wc)
      case first =>
        have hpre : Pre w1.heap.size (w1.heap.size + 1 + 1) k I A w1 w3 p g cap g2 cap2 ps us := ⟨HF3.out, HG.out, by have := HNE.out; omega, HB3.out, HP.out, HD3.out.a, HD3.out.b, hbw2, hFA, hgA, hg2A⟩
        have HPRE := Lib.hid hpre
        have hat3 := HF3.out.at' HP.out
        have HAT := Lib.hid hat3
        clear hpre hat3
        rcases (by omega : R = 0 ∨ R = 1 ∨ R = 2 ∨ R = 3 ∨ R = 4) with rfl | rfl | rfl | rfl | rfl
        · by_cases hM0 : M < 0
          · as_aux_lemma =>
              have hE := take_err g (I * 3) p.l p.u p.g M w3 HAT.out ⟨j1, j2, j3, j4⟩ (.inl hM0)
              rw [if_pos hM0] at hE
              have HE := Lib.hid hE
              clear hE
              go_wp2_with fail
              refine HE.out.mono ?_
              rintro e w4 ⟨rfl, hb4⟩
              have HB4 := Lib.hid hb4
              have dM4 := keepB hb4 dM3
              obtain ⟨_, Al4, Au4, Ag4, _, _, _⟩ := HPRE.out.ca.below hb4 HPRE.out.ca.hb
              obtain ⟨_, Bl4, Bu4, Bg4, Bfl4, Bfu4, Bfg4⟩ := HPRE.out.cb.below hb4 HPRE.out.cb.hb
              clear dM3 dK3 dT3
              clear hb4
              go_wp2_with fail
              go_meet
              exact ⟨1, rfl, rfl, HPRE.out.bad_u HB4.out _ 1 (by decide)⟩
          · by_cases hM1 : p.l - p.u - p.g < M
            · as_aux_lemma =>
                have hE := take_err g (I * 3) p.l p.u p.g M w3 HAT.out ⟨j1, j2, j3, j4⟩ (.inr hM1)
                rw [if_neg hM0] at hE
                have HE := Lib.hid hE
                clear hE
                go_wp2_with fail
                refine HE.out.mono ?_
                rintro e w4 ⟨rfl, hb4⟩
                have HB4 := Lib.hid hb4
                have dM4 := keepB hb4 dM3
                obtain ⟨_, Al4, Au4, Ag4, _, _, _⟩ := HPRE.out.ca.below hb4 HPRE.out.ca.hb
                obtain ⟨_, Bl4, Bu4, Bg4, Bfl4, Bfu4, Bfg4⟩ := HPRE.out.cb.below hb4 HPRE.out.cb.hb
                clear dM3 dK3 dT3
                clear hb4
                go_wp2_with fail
                go_meet
                exact ⟨5, rfl, rfl, HPRE.out.bad_u HB4.out _ 5 (by decide)⟩
            · as_aux_lemma =>
                have hE := take_ok g (I * 3) p.l p.u p.g M w3 HAT.out ⟨j1, j2, j3, j4⟩ (by omega) (by omega)
                have HE := Lib.hid hE
                have hb5 : Below w3.heap.size (w3.setCell ⟨g, I * 3 + 1, none⟩ (.int .i64 (p.u + M))) ((w3.setCell ⟨g, I * 3 + 1, none⟩ (.int .i64 (p.u + M))).alloc (puc p.l p.u p.g)) := (Below.refl _ _).alloc (by simp) _
                have hca := (HPRE.out.ca.set_other ⟨g, I * 3 + 1, none⟩ (by have := HPRE.out.gA; show A ≠ g; omega) (.int .i64 (p.u + M))).below hb5 HPRE.out.ca.hb
                have hcb := (HPRE.out.cb.set_other ⟨g, I * 3 + 1, none⟩ (by have := HPRE.out.gA; show A + 1 ≠ g; omega) (.int .i64 (p.u + M))).below hb5 HPRE.out.cb.hb
                have hdg : (⟨g, I * 3 + 1, none⟩ : Addr) ≠ ⟨D, 2, none⟩ := by intro e; have := congrArg Addr.block e; exact hDg this.symm
                have dM4 : ((w3.setCell ⟨g, I * 3 + 1, none⟩ (.int .i64 (p.u + M))).alloc (puc p.l p.u p.g)).cell? ⟨D, 2, none⟩ = some (.int .i64 M) := keepA _ ((World.cell?_setCell_other _ _ _ _ hdg).trans dM3)
                clear hE
                go_wp2_with fail
                refine HE.out.mono ?_
                rintro e w4 ⟨rfl, hw4⟩
                rw [hw4] at hb5 hca hcb dM4
                have HB5 := Lib.hid hb5
                obtain ⟨_, Al4, Au4, Ag4, _, _, _⟩ := hca
                obtain ⟨_, Bl4, Bu4, Bg4, Bfl4, Bfu4, Bfg4⟩ := hcb
                clear hw4 hb5 dM3 dK3 dT3
                go_wp2_with fail
                go_meet
                exact ⟨0, rfl, rfl, HPRE.out.did_u _ (by omega) (by omega) HB5.out⟩
        · by_cases hM0 : M < 0
          · as_aux_lemma =>
              have hE := back_err g (I * 3) p.l p.u p.g M w3 HAT.out (.inl hM0)
              have HE := Lib.hid hE
              obtain ⟨_, Al4, Au4, Ag4, _, _, _⟩ := HPRE.out.ca
              obtain ⟨_, Bl4, Bu4, Bg4, Bfl4, Bfu4, Bfg4⟩ := HPRE.out.cb
              clear hE
              go_wp2_with fail
              refine HE.out.mono ?_
              rintro e w4 ⟨rfl, rfl⟩
              go_wp2_with fail
              go_meet
              exact ⟨1, rfl, rfl, HPRE.out.bad_u (Below.refl _ _) _ 1 (by decide)⟩
          · by_cases hM1 : p.u < M
            · as_aux_lemma =>
                have hE := back_err g (I * 3) p.l p.u p.g M w3 HAT.out (.inr hM1)
                have HE := Lib.hid hE
                obtain ⟨_, Al4, Au4, Ag4, _, _, _⟩ := HPRE.out.ca
                obtain ⟨_, Bl4, Bu4, Bg4, Bfl4, Bfu4, Bfg4⟩ := HPRE.out.cb
                clear hE
                go_wp2_with fail
                refine HE.out.mono ?_
                rintro e w4 ⟨rfl, rfl⟩
                go_wp2_with fail
                go_meet
                exact ⟨1, rfl, rfl, HPRE.out.bad_u (Below.refl _ _) _ 1 (by decide)⟩
            · as_aux_lemma =>
                have hE := back_ok g (I * 3) p.l p.u p.g M w3 HAT.out (by omega) (by omega) (by omega)
                have HE := Lib.hid hE
                have hca := HPRE.out.ca.set_other ⟨g, I * 3 + 1, none⟩ (by have := HPRE.out.gA; show A ≠ g; omega) (.int .i64 (p.u - M))
                have hcb := HPRE.out.cb.set_other ⟨g, I * 3 + 1, none⟩ (by have := HPRE.out.gA; show A + 1 ≠ g; omega) (.int .i64 (p.u - M))
                have hdg : (⟨g, I * 3 + 1, none⟩ : Addr) ≠ ⟨D, 2, none⟩ := by intro e; have := congrArg Addr.block e; exact hDg this.symm
                have dM4 : (w3.setCell ⟨g, I * 3 + 1, none⟩ (.int .i64 (p.u - M))).cell? ⟨D, 2, none⟩ = some (.int .i64 M) := (World.cell?_setCell_other _ _ _ _ hdg).trans dM3
                have hb5 : Below w3.heap.size (w3.setCell ⟨g, I * 3 + 1, none⟩ (.int .i64 (p.u - M))) (w3.setCell ⟨g, I * 3 + 1, none⟩ (.int .i64 (p.u - M))) := Below.refl _ _
                clear hE
                go_wp2_with fail
                refine HE.out.mono ?_
                rintro e w4 ⟨rfl, hw4⟩
                have hb5 : Below w3.heap.size (w3.setCell ⟨g, I * 3 + 1, none⟩ (.int .i64 (p.u - M))) w4 := by rw [← hw4]; exact Below.refl _ _
                rw [hw4] at hca hcb dM4
                have HB5 := Lib.hid hb5
                obtain ⟨_, Al4, Au4, Ag4, _, _, _⟩ := hca
                obtain ⟨_, Bl4, Bu4, Bg4, Bfl4, Bfu4, Bfg4⟩ := hcb
                clear hw4 hb5 dM3 dK3 dT3
                go_wp2_with fail
                go_meet
                exact ⟨0, rfl, rfl, HPRE.out.did_u _ (by omega) (by omega) HB5.out⟩
        · by_cases hM0 : M < 0
          · as_aux_lemma =>
              have hE := give_err g (I * 3) p.l p.u p.g M (w3.alloc (puc 0 0 0)) ((HF3.out.alloc _).at' HP.out) ⟨j1, j2, j3, j4⟩ (.inl hM0)
              rw [if_pos hM0] at hE
              have HE := Lib.hid hE
              have hEA : w3.heap.size ≠ A := by have := HPRE.out.ca.hb; omega
              have hEB : w3.heap.size ≠ A + 1 := by have := HPRE.out.cb.hb; omega
              have hED : w3.heap.size ≠ D := by have := HPRE.out.ca.hb; omega
              have hEA' := hEA.symm
              have hEB' := hEB.symm
              have hED' := hED.symm
              have dM3a : (w3.alloc (.cells #[.int .i64 0, .int .i64 0, .int .i64 0] 24)).cell? ⟨D, 2, none⟩ = some (.int .i64 M) := keepA _ dM3
              clear hE
              go_wp2_with fail
              refine HE.out.mono ?_
              rintro e w4 ⟨rfl, hb4⟩
              have hb5 : Below w3.heap.size w3 w4 := ((Below.refl _ _).alloc (Nat.le_refl _) _).trans (hb4.mono (by simp))
              have hce := (at_of_block (heap_alloc_new w3 (puc 0 0 0))).below hb4 (by simp)
              have HB4 := Lib.hid hb5
              have dM4 := keepB hb5 dM3
              obtain ⟨_, Al4, Au4, Ag4, _, _, _⟩ := HPRE.out.ca.below hb5 HPRE.out.ca.hb
              obtain ⟨_, Bl4, Bu4, Bg4, Bfl4, Bfu4, Bfg4⟩ := HPRE.out.cb.below hb5 HPRE.out.cb.hb
              clear dM3 dK3 dT3
              obtain ⟨_, El4, Eu4, Eg4, Efl4, Efu4, Efg4⟩ := hce
              clear hb4 hb5
              go_wp2_with fail
              go_meet
              exact ⟨1, rfl, rfl, HPRE.out.bad_g (((HB4.out.setCell (Nat.le_refl _) _).setCell (Nat.le_refl _) _).setCell (Nat.le_refl _) _) _ 1 (by decide)⟩
          · by_cases hM1 : p.l - p.u - p.g < M
            · as_aux_lemma =>
                have hE := give_err g (I * 3) p.l p.u p.g M (w3.alloc (puc 0 0 0)) ((HF3.out.alloc _).at' HP.out) ⟨j1, j2, j3, j4⟩ (.inr hM1)
                rw [if_neg hM0] at hE
                have HE := Lib.hid hE
                have hEA : w3.heap.size ≠ A := by have := HPRE.out.ca.hb; omega
                have hEB : w3.heap.size ≠ A + 1 := by have := HPRE.out.cb.hb; omega
                have hED : w3.heap.size ≠ D := by have := HPRE.out.ca.hb; omega
                have hEA' := hEA.symm
                have hEB' := hEB.symm
                have hED' := hED.symm
                have dM3a : (w3.alloc (.cells #[.int .i64 0, .int .i64 0, .int .i64 0] 24)).cell? ⟨D, 2, none⟩ = some (.int .i64 M) := keepA _ dM3
                clear hE
                go_wp2_with fail
                refine HE.out.mono ?_
                rintro e w4 ⟨rfl, hb4⟩
                have hb5 : Below w3.heap.size w3 w4 := ((Below.refl _ _).alloc (Nat.le_refl _) _).trans (hb4.mono (by simp))
                have hce := (at_of_block (heap_alloc_new w3 (puc 0 0 0))).below hb4 (by simp)
                have HB4 := Lib.hid hb5
                have dM4 := keepB hb5 dM3
                obtain ⟨_, Al4, Au4, Ag4, _, _, _⟩ := HPRE.out.ca.below hb5 HPRE.out.ca.hb
                obtain ⟨_, Bl4, Bu4, Bg4, Bfl4, Bfu4, Bfg4⟩ := HPRE.out.cb.below hb5 HPRE.out.cb.hb
                clear dM3 dK3 dT3
                obtain ⟨_, El4, Eu4, Eg4, Efl4, Efu4, Efg4⟩ := hce
                clear hb4 hb5
                go_wp2_with fail
                go_meet
                exact ⟨5, rfl, rfl, HPRE.out.bad_g (((HB4.out.setCell (Nat.le_refl _) _).setCell (Nat.le_refl _) _).setCell (Nat.le_refl _) _) _ 5 (by decide)⟩
            · have hE := give_ok g (I * 3) p.l p.u p.g M (w3.alloc (puc 0 0 0)) ((HF3.out.alloc _).at' HP.out) ⟨j1, j2, j3, j4⟩ (by omega) (by omega)
              have HE := Lib.hid hE
              have hEA : w3.heap.size ≠ A := by have := HPRE.out.ca.hb; omega
              have hEB : w3.heap.size ≠ A + 1 := by have := HPRE.out.cb.hb; omega
              have hED : w3.heap.size ≠ D := by have := HPRE.out.ca.hb; omega
              have hEA' := hEA.symm
              have hEB' := hEB.symm
              have hED' := hED.symm
              have dM3a : (w3.alloc (.cells #[.int .i64 0, .int .i64 0, .int .i64 0] 24)).cell? ⟨D, 2, none⟩ = some (.int .i64 M) := keepA _ dM3
              have hlt3 := HF3.out.lts
              have hg0 : HG0 w1.heap.size (w1.heap.size + 1 + 1) k I A w1 w3 p g cap g2 cap2 ps us M D := ⟨HPRE.out, dM3, by have := HPRE.out.ca.hb; omega, by omega, by omega, hDg⟩
              have HG0' := Lib.hid hg0
              clear hE hlt3
              go_wp2_with fail
              refine HE.out.mono ?_
              rintro e w4 ⟨rfl, hw4⟩
              have hg1 := HG0'.out.step
              rw [hw4] at hg1
              obtain ⟨dM4, ⟨_, Al4, Au4, Ag4, _, _, _⟩, ⟨_, Bl4, Bu4, Bg4, Bfl4, Bfu4, Bfg4⟩, ⟨_, El4, Eu4, Eg4, Efl4, Efu4, Efg4⟩, _⟩ := id hg1
              have HG1 := Lib.hid hg1
              clear hw4 hg1 hg0 dM3 dK3 dT3
              go_wp2_with fail
              have hg2 := HG1.out.stored HPRE.out rfl HNE.out
              generalize hw5 : ((((w4.setCell ⟨w3.heap.size, 0, none⟩ (.int .i64 M)).setCell ⟨w3.heap.size, 1, none⟩ (.int .i64 0)).setCell ⟨w3.heap.size, 2, none⟩ (.int .i64 0)).setCell ⟨A + 1, 2, none⟩ (.int .i64 (p.g + M))) = w5
              rw [hw5] at hg2
              clear hw5 dM4 Al4 Au4 Ag4 Bl4 Bu4 Bg4 Bfl4 Bfu4 Bfg4 El4 Eu4 Eg4 Efl4 Efu4 Efg4
              have HG2' := Lib.hid hg2
              have hM0' : 0 ≤ M := by omega
              have hM1' : M ≤ p.l - p.u - p.g := by omega
              have hmm : (N : Nat) ≤ 101 := by omega
              clear hg2
              refine give_region w1.heap.size (w1.heap.size + 1 + 1) k I A w3.heap.size N w1 w3 w5 p g cap g2 cap2 ps us M HG2'.out HPRE.out hM0' hM1' HNE.out hmm _ rfl rfl rfl rfl _ ?_
              intro B1 B2 gl capl gu capu w9 hsw
              have HSW := Lib.hid hsw
              clear hsw
              simp only [Act.put, List.setIfInBounds_toArray, List.set_cons_succ, List.set_cons_zero]
              go_wp2_with fail
              go_meet
              exact ⟨0, rfl, rfl, HSW.out⟩
        · by_cases hM0 : M < 0
          · as_aux_lemma =>
              have hE := return_err g (I * 3) p.l p.u p.g M w3 HAT.out (.inl hM0)
              have HE := Lib.hid hE
              obtain ⟨_, Al4, Au4, Ag4, _, _, _⟩ := HPRE.out.ca
              obtain ⟨_, Bl4, Bu4, Bg4, Bfl4, Bfu4, Bfg4⟩ := HPRE.out.cb
              clear hE
              go_wp2_with fail
              refine HE.out.mono ?_
              rintro e w4 ⟨rfl, rfl⟩
              go_wp2_with fail
              go_meet
              exact ⟨1, rfl, rfl, HPRE.out.bad_g (Below.refl _ _) _ 1 (by decide)⟩
          · by_cases hM1 : p.g < M
            · as_aux_lemma =>
                have hE := return_err g (I * 3) p.l p.u p.g M w3 HAT.out (.inr hM1)
                have HE := Lib.hid hE
                obtain ⟨_, Al4, Au4, Ag4, _, _, _⟩ := HPRE.out.ca
                obtain ⟨_, Bl4, Bu4, Bg4, Bfl4, Bfu4, Bfg4⟩ := HPRE.out.cb
                clear hE
                go_wp2_with fail
                refine HE.out.mono ?_
                rintro e w4 ⟨rfl, rfl⟩
                go_wp2_with fail
                go_meet
                exact ⟨1, rfl, rfl, HPRE.out.bad_g (Below.refl _ _) _ 1 (by decide)⟩
            · as_aux_lemma =>
                have hE := return_ok g (I * 3) p.l p.u p.g M w3 HAT.out (by omega) (by omega) (by omega)
                have HE := Lib.hid hE
                have hca := HPRE.out.ca.set_other ⟨g, I * 3 + 2, none⟩ (by have := HPRE.out.gA; show A ≠ g; omega) (.int .i64 (p.g - M))
                have hcb := HPRE.out.cb.set_other ⟨g, I * 3 + 2, none⟩ (by have := HPRE.out.gA; show A + 1 ≠ g; omega) (.int .i64 (p.g - M))
                have hdg : (⟨g, I * 3 + 2, none⟩ : Addr) ≠ ⟨D, 2, none⟩ := by intro e; have := congrArg Addr.block e; exact hDg this.symm
                have dM4 : (w3.setCell ⟨g, I * 3 + 2, none⟩ (.int .i64 (p.g - M))).cell? ⟨D, 2, none⟩ = some (.int .i64 M) := (World.cell?_setCell_other _ _ _ _ hdg).trans dM3
                have hcg := (HF3.out.set_g HP.out (p.g - M)).at' (List.getElem?_set_self (List.getElem?_eq_some_iff.1 HP.out).1)
                have hb5 : Below w1.heap.size w1 (w3.setCell ⟨g, I * 3 + 2, none⟩ (.int .i64 (p.g - M))) := HB3.out.setCell (by exact HF3.out.lts.1) _
                have hgB : A + 1 ≠ g := by have := HPRE.out.gA; omega
                have hgB' : g ≠ A + 1 := hgB.symm
                clear hE
                go_wp2_with fail
                refine HE.out.mono ?_
                rintro e w4 ⟨rfl, hw4⟩
                rw [hw4] at hca hcb dM4 hcg hb5
                have HB5 := Lib.hid hb5
                obtain ⟨_, Al4, Au4, Ag4, _, _, _⟩ := hca
                obtain ⟨_, Bl4, Bu4, Bg4, Bfl4, Bfu4, Bfg4⟩ := hcb
                obtain ⟨_, gl4, gu4, gg4, _, _, _⟩ := hcg
                (try dsimp only at gl4 gu4 gg4)
                clear hw4 hb5 dM3 dK3 dT3
                go_wp2_with fail
                go_quiet (fail)
                go_wp2_with fail
                go_ret
                exact ⟨rfl, HB1.out.trans ((below_drewN (HB5.out.setCell (by show _ ≤ A + 1; omega) _) _).mono HB1.out.size)⟩
        · as_aux_lemma =>
            have hM := move_any w1.heap.size (w1.heap.size + 1 + 1) g cap g2 cap2 I ps us K T M w3 HF3.out HG.out (by have := HNE.out; omega) (by have := HNE.out; omega) (by omega) (by omega)
            have HM := Lib.hid hM
            clear hM
            go_wp2_with fail
            refine HM.out.mono ?_
            rintro e w4 ⟨rfl, hb4, ps4, hl4, hf4, hg4⟩
            have hS := sound_any w1.heap.size (w1.heap.size + 1 + 1) g cap g2 cap2 ps4 us w4 hf4 hg4 (by have := HNE.out; omega)
            have HS4 := Lib.hid hS
            have HB4 := Lib.hid (HB3.out.trans hb4)
            clear hS hb4 hl4 hf4 hg4
            go_wp2_with fail
            refine HS4.out.mono ?_
            rintro e w5 ⟨rfl, hb5⟩
            have HB5 := Lib.hid (HB4.out.trans (hb5.mono HB4.out.size))
            clear hb5
            go_wp2_with fail
            go_ret
            exact ⟨rfl, HB1.out.trans (HB5.out.mono HB1.out.size)⟩
      case rest => as_aux_lemma =>
        obtain ⟨want, rfl, rfl, hsw⟩ := hcut
        have HSW := Lib.hid hsw
        go_upto_if 227 with fail
        go_cut [] (fun wc => Sw2 w1.heap.size (w1.heap.size + 1 + 1) k I (A + 1) w1 wc)
        case first => as_aux_lemma =>
          obtain ⟨⟨_, Al, Au, Ag, _, _, _⟩, ⟨t, ⟨_, Bl, Bu, Bg, Bfl, Bfu, Bfg⟩⟩, _⟩ := hsw.cells
          clear hsw
          by_cases h0 : want = 0
          · have hn0 : (want != 0) = false := by rw [h0]; rfl
            have H0 := Lib.hid h0
            clear h0
            go_wp2_with fail
            go_meet
            exact HSW.out.right H0.out
          · have hn0 : (want != 0) = true := by rw [bne_iff_ne]; exact h0
            have H0 := Lib.hid h0
            clear h0
            go_wp2_with fail
            go_meet
            exact HSW.out.reset H0.out
        case rest => as_aux_lemma =>
          obtain ⟨g', cap', g2', cap2', ps', us', p', h4, hG4, hlen4, hb4, hp4, hB4⟩ := hcut
          have hI4 := (List.getElem?_eq_some_iff.1 hp4).1
          have hj4 := hG4.just.at' hp4
          have hlt := left_any p'.l p'.u p'.g hj4
          have hat4 := h4.at' hp4
          have dF4 := h4.c0
          have hlen5 : ps'.length ≤ 101 := by omega
          obtain ⟨i1, i2, i3, i4⟩ := hj4
          have HF4 := Lib.hid h4
          have HG4 := Lib.hid hG4
          have HB4 := Lib.hid hb4
          have HP4 := Lib.hid hp4
          have HLT := Lib.hid hlt
          have HL5 := Lib.hid hlen5
          have HL4 := Lib.hid hlen4
          have hb4s := hb4.size
          have hF4l := h4.lt
          clear h4 hG4 hb4 hp4 hlt hsw hlen5 hlen4
          obtain ⟨_, gl, gu, gg, _, _, _⟩ := hat4
          obtain ⟨_, Bl, Bu, Bg, _, _, _⟩ := hB4
          generalize ps'.length = N' at dF4 hI4
          have hI5 : (I : Int) < (N' : Int) := by omega
          have hwa : IntKind.i64.wrap (p'.l - p'.u) = p'.l - p'.u := by rw [IntKind.wrap_i64]; omega
          have hwb : IntKind.i64.wrap (p'.l - p'.u - p'.g) = p'.l - p'.u - p'.g := by rw [IntKind.wrap_i64]; omega
          go_wp2_with fail
          go_region_held3 (fun w' => w'.cell? ⟨w1.heap.size + 1 + 1, 0, none⟩ = some (.slice (some ⟨g', 0, none⟩) N' cap') ∧ w'.cell? ⟨g', I * 3, none⟩ = some (.int .i64 p'.l) ∧ w'.cell? ⟨g', I * 3 + 1, none⟩ = some (.int .i64 p'.u) ∧ w'.cell? ⟨g', I * 3 + 2, none⟩ = some (.int .i64 p'.g) ∧ w'.cell? ⟨A + 1, 0, none⟩ = some (.int .i64 p'.l) ∧ w'.cell? ⟨A + 1, 1, none⟩ = some (.int .i64 p'.u) ∧ w'.cell? ⟨A + 1, 2, none⟩ = some (.int .i64 p'.g))
            ((refine ⟨?_, ?_, ?_, ?_, ?_, ?_, ?_⟩ <;> (repeat (first | assumption | with_reducible refine keepD ?_ | with_reducible refine keepA _ ?_ | refine keepB (by assumption) ?_))))
            (first | ((try rw [if_pos (by rfl)]); go_at_call 9; refine (HLT.out _).mono ?_; rintro e w4 ⟨rfl, rfl⟩) | ((try rw [if_pos (by rfl)]); go_at_call 16; refine (sound_any w1.heap.size (w1.heap.size + 1 + 1) g' cap' g2' cap2' ps' us' _ (by repeat (first | exact HF4.out | refine PFS.drew ?_ | refine PFS.alloc ?_ _)) HG4.out HL5.out).mono ?_; rintro e w5 ⟨rfl, hb5⟩; have h5 : PFS w1.heap.size (w1.heap.size + 1 + 1) g' cap' g2' cap2' ps' us' w5 := PFS.below (by repeat (first | exact HF4.out | refine PFS.drew ?_ | refine PFS.alloc ?_ _)) hb5) | fail)
          go_wp2_with fail
          go_roundw
          case rel =>
            exact ⟨k + 1, by omega, by go_num, _, _, _, _, _, _, h5, HG4.out, HL4.out, (HB4.out.trans ((Below.refl _ _).drew.alloc (by exact hb4s) _)).trans (hb5.mono (by simp; omega))⟩
          case measure => simp [intOf]; omega
    · as_aux_lemma =>
      obtain rfl : k = m := by omega
      obtain ⟨g, cap, g2, cap2, ps, us, hfs, hG, hlen, hbl⟩ := hr
      have HBL := Lib.hid hbl
      clear hfs hG hlen hbl
      go_wp2_with fail
      go_ret
      exact ⟨rfl, HB1.out.trans (HBL.out.mono HB1.out.size)⟩
end Go.Proofs.Yteflfflmedkdiaa
