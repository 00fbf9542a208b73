/- Core.Step: the walk. Conditions: as each theorem names them. -/
import Derived.Test.YtelgmffmekfndaaCoreDecodeBG
import Derived.Test.YtelgmffmekfndaaCoreOnesG
set_option linter.unusedVariables false
namespace Go.Proofs.Ytelgmffmekfndaa
open Go.ChangeShapes Go.WideShapes Go.ChangeAt Go.RowKit

set_option maxRecDepth 100000 in
theorem step_bad {W : World} {c : Nat} {R : Nat → Int} {pc : Int} (h : CoreAt W c R pc) (m : Value) (hb : ¬ (pc < 262144 ∧ pc % 8 = 0)) :
    Calls Try.prog 64 #[.pointer (some ⟨c, 0, none⟩), m] W fun e w' => e = .returned (.int .i64 6) ∧ W = w' := by
  have cp := h.p
  obtain ⟨p0, p1⟩ := h.pb
  by_cases h1 : pc < 262144
  · have h2 : ¬ pc % 8 = 0 := fun e => hb ⟨h1, e⟩
    have g1 : decide (262144 ≤ pc) = false := by simp; omega
    have g2 : pc.tmod 8 = pc % 8 := Int.tmod_eq_emod_of_nonneg p0
    have g3 : (pc % 8 != 0) = true := by simpa using h2
    obtain ⟨q, hq⟩ : ∃ q, pc % 8 = q := ⟨_, rfl⟩
    rw [hq] at g2 g3
    clear hb h2 hq h
    go_enter Try.func64, Try.ntmps64
    go_wp2_with fail
    go_ret
    exact ⟨rfl, rfl⟩
  · have g1 : decide (262144 ≤ pc) = true := by simp; omega
    clear hb h1 h
    go_enter Try.func64, Try.ntmps64
    go_wp2_with fail
    go_ret
    exact ⟨rfl, rfl⟩

set_option maxRecDepth 100000 in
theorem step_nofetch {W : World} {c M g n cap : Nat} {R : Nat → Int} {pc hole : Int} {f : Nat → Int} (h : CoreAt W c R pc) (hm : MemAt W M g n cap hole f) (pcn : Nat) (hpc : pc = pcn) (hlt : pcn < 262144) (h8 : pcn % 8 = 0) (hr : ¬ Reach n hole pcn 8) :
    Calls Try.prog 64 #[.pointer (some ⟨c, 0, none⟩), .iface 52 (.pointer (some ⟨M, 0, none⟩))] W fun e w' => e = .returned (.int .i64 3) ∧ W = w' := by
  have HF := Lib.hid (fetch_no hm pcn (by omega) hr)
  have cp := h.p
  rw [hpc] at cp
  have g1 : decide (262144 ≤ (pcn : Int)) = false := by simp; omega
  have g2 : (pcn : Int).tmod 8 = 0 := by rw [Int.tmod_eq_emod_of_nonneg (by omega)]; omega
  have g4 : IntKind.i64.wrap (pcn : Int) = pcn := by rw [IntKind.wrap_i64]; omega
  clear h hm hr hpc h8
  go_enter Try.func64, Try.ntmps64
  go_wp2_with fail
  refine HF.out.mono ?_
  rintro e w' ⟨rfl, rfl⟩
  go_wp2_with fail
  go_ret
  exact ⟨rfl, rfl⟩

/-- eight bytes of a number, of which k are laid -/
structure Laying (W : World) (x : Int) (k : Nat) (wr : World) : Prop where
  c : ∀ i, i < 8 → wr.cell? ⟨W.heap.size, i, none⟩ = some (.int .u8 (if i < k then stb x 8 i else 0))
  fz : ∀ i, wr.frozen? ⟨W.heap.size, i, none⟩ = false
  env : Below W.heap.size W wr
  lt : W.heap.size < wr.heap.size
theorem Laying.start (W : World) (x : Int) : Laying W x 0 (W.alloc (.cells #[.int .u8 0, .int .u8 0, .int .u8 0, .int .u8 0, .int .u8 0, .int .u8 0, .int .u8 0, .int .u8 0] 83)) :=
  ⟨fun i hi => by
    rcases (by omega : i = 0 ∨ i = 1 ∨ i = 2 ∨ i = 3 ∨ i = 4 ∨ i = 5 ∨ i = 6 ∨ i = 7) with rfl | rfl | rfl | rfl | rfl | rfl | rfl | rfl <;> simp, fun i => by simp, (Below.refl _ W).alloc (Nat.le_refl _) _, by simp⟩
theorem Laying.next {W : World} {x : Int} {k : Nat} {wr : World} (h : Laying W x k wr) (hk : k < 8) : Laying W x (k + 1) (wr.setCell ⟨W.heap.size, k, none⟩ (.int .u8 (stb x 8 k))) := by
  refine ⟨fun i hi => ?_, fun i => (World.frozen?_setCell _ _ _ _).trans (h.fz i), h.env.setCell (Nat.le_refl _) _, by have := h.lt; simpa [World.setCell] using this⟩
  by_cases e : i = k
  · subst e
    rw [if_pos (by omega)]
    exact World.cell?_setCell_same' _ _ _ (by rw [h.c i hi]; rfl)
  · rw [World.cell?_setCell_other _ _ _ _ (by intro e2; injection e2 with _ e3 _; exact e e3.symm), h.c i hi]
    by_cases h1 : i < k
    · rw [if_pos h1, if_pos (by omega)]
    · rw [if_neg h1, if_neg (by omega)]
theorem Laying.eight {W : World} {x : Int} {wr : World} (h : Laying W x 8 wr) : Eight wr W.heap.size (stb x 8) :=
  ⟨fun i hi => by rw [h.c i hi, if_pos hi], fun i => stb_bd x 8 i⟩

set_option maxRecDepth 100000 in
set_option maxHeartbeats 4000000 in
theorem step_none {W : World} {c M g n cap : Nat} {R : Nat → Int} {pc hole : Int} {f : Nat → Int} (h : CoreAt W c R pc) (hm : MemAt W M g n cap hole f) (pcn : Nat) (hpc : pc = pcn) (hlt : pcn < 262144) (h8 : pcn % 8 = 0) (hr : Reach n hole pcn 8) (x : Int) (hx : ldv (fun i => f (pcn + i)) 8 = x) (x0 : 0 ≤ x) (x1 : x < 18446744073709551616)
    (hd : ¬ Rightly (stb x 8 0) (stb x 8 1) (stb x 8 2) (stb x 8 3)) :
    Calls Try.prog 64 #[.pointer (some ⟨c, 0, none⟩), .iface 52 (.pointer (some ⟨M, 0, none⟩))] W fun e w' => e = .returned (.int .i64 4) ∧ Below W.heap.size W w' := by
  have hF := fetch_yes hm pcn (by omega) hr
  rw [hx] at hF
  have HF := Lib.hid hF
  have HD := Lib.hid hd
  have cp := h.p
  rw [hpc] at cp
  have g1 : decide (262144 ≤ (pcn : Int)) = false := by simp; omega
  have g2 : (pcn : Int).tmod 8 = 0 := by rw [Int.tmod_eq_emod_of_nonneg (by omega)]; omega
  have g4 : IntKind.i64.wrap (pcn : Int) = pcn := by rw [IntKind.wrap_i64]; omega
  clear h hm hr hpc h8 hF hd hx
  go_enter Try.func64, Try.ntmps64
  go_wp2_with fail
  refine HF.out.mono ?_
  rintro e w' ⟨rfl, rfl⟩
  go_wp2_with fail
  go_loopw [38] (fun s38 wr => ∃ k : Nat, k ≤ 8 ∧ s38 = .int .i64 k ∧ Laying W x k wr) (fun s38 _ => 8 - (intOf s38).toNat)
  case atStart => exact ⟨0, by omega, rfl, Laying.start _ _⟩
  case round =>
    obtain ⟨k, hk, rfl, hL⟩ := hrel
    by_cases hlt8 : k < 8
    · have hc1 := hL.c k hlt8
      have hf1 := hL.fz k
      have HL := Lib.hid hL
      have hkI : (k : Int) < 8 := by omega
      clear hL
      go_wp2_with fail
      go_roundw
      case rel =>
        refine ⟨k + 1, by omega, by go_num, ?_⟩
        exact HL.out.next hlt8
      case measure => simp [intOf]; omega
    · obtain rfl : k = 8 := by omega
      have HL := Lib.hid hL
      clear hL
      go_wp2_with fail
      refine (decode_no _ W.heap.size (stb x 8) HL.out.eight HD.out).mono ?_
      rintro e w2 ⟨rfl, hb⟩
      have HB := Lib.hid hb
      clear hb
      unfold ins
      go_wp2_with fail
      go_ret
      exact ⟨rfl, (HL.out.env.trans (HB.out.mono (by have := HL.out.lt; omega))).alloc (by have := HL.out.env.size; have := HB.out.size; omega) _⟩

set_option maxRecDepth 100000 in
set_option maxHeartbeats 4000000 in
theorem step_run {W : World} {c M g n cap : Nat} {R : Nat → Int} {pc hole : Int} {f : Nat → Int} (h : CoreAt W c R pc) (hm : MemAt W M g n cap hole f) (pcn : Nat) (hpc : pc = pcn) (hlt : pcn < 262144) (h8 : pcn % 8 = 0) (hr : Reach n hole pcn 8) (x : Int) (hx : ldv (fun i => f (pcn + i)) 8 = x) (x0 : 0 ≤ x) (x1 : x < 18446744073709551616)
    (hd : Rightly (stb x 8 0) (stb x 8 1) (stb x 8 2) (stb x 8 3)) (nxt en : Int) (V : World → Prop) (hen : en = 0 ∨ en = 1) (old : World → Value) (hVc : ∀ w2, V w2 → w2.cell? ⟨c, 16, none⟩ = some (old w2) ∧ w2.frozen? ⟨c, 16, none⟩ = false)
    (ho : ∀ w', W.grownBy w' none → Calls Try.prog 83 #[.pointer (some ⟨c, 0, none⟩), ins (stb x 8 0) (stb x 8 1) (stb x 8 2) (stb x 8 3) (immOf (stb x 8 4) (stb x 8 5) (stb x 8 6) (stb x 8 7)), .iface 52 (.pointer (some ⟨M, 0, none⟩))] w' fun e w2 => e = .returned (.tuple #[.int .u64 nxt, .int .i64 en]) ∧ V w2) :
    Calls Try.prog 64 #[.pointer (some ⟨c, 0, none⟩), .iface 52 (.pointer (some ⟨M, 0, none⟩))] W fun e w' => e = .returned (.int .i64 en) ∧ ∃ w2, V w2 ∧ w2.setCell ⟨c, 16, none⟩ (.int .u64 nxt) = w' := by
  have hF := fetch_yes hm pcn (by omega) hr
  rw [hx] at hF
  have HF := Lib.hid hF
  have HD := Lib.hid hd
  have HO := Lib.hid ho
  have HVC := Lib.hid hVc
  have cp := h.p
  rw [hpc] at cp
  have g1 : decide (262144 ≤ (pcn : Int)) = false := by simp; omega
  have g2 : (pcn : Int).tmod 8 = 0 := by rw [Int.tmod_eq_emod_of_nonneg (by omega)]; omega
  have g4 : IntKind.i64.wrap (pcn : Int) = pcn := by rw [IntKind.wrap_i64]; omega
  clear h hm hr hpc h8 hF hd hx ho hVc
  go_enter Try.func64, Try.ntmps64
  go_wp2_with fail
  refine HF.out.mono ?_
  rintro e w' ⟨rfl, rfl⟩
  go_wp2_with fail
  go_loopw [38] (fun s38 wr => ∃ k : Nat, k ≤ 8 ∧ s38 = .int .i64 k ∧ Laying W x k wr) (fun s38 _ => 8 - (intOf s38).toNat)
  case atStart => exact ⟨0, by omega, rfl, Laying.start _ _⟩
  case round =>
    obtain ⟨k, hk, rfl, hL⟩ := hrel
    by_cases hlt8 : k < 8
    · have hc1 := hL.c k hlt8
      have hf1 := hL.fz k
      have HL := Lib.hid hL
      have hkI : (k : Int) < 8 := by omega
      clear hL
      go_wp2_with fail
      go_roundw
      case rel =>
        refine ⟨k + 1, by omega, by go_num, ?_⟩
        exact HL.out.next hlt8
      case measure => simp [intOf]; omega
    · obtain rfl : k = 8 := by omega
      have HL := Lib.hid hL
      clear hL
      go_wp2_with fail
      refine (decode_yes _ W.heap.size (stb x 8) HL.out.eight HD.out).mono ?_
      rintro e w2 ⟨rfl, hb⟩
      have hg := ((HL.out.env.trans (hb.mono (by have := HL.out.lt; omega))).alloc (by have := HL.out.env.size; have := hb.size; omega) (insO (stb x 8 0) (stb x 8 1) (stb x 8 2) (stb x 8 3) (immOf (stb x 8 4) (stb x 8 5) (stb x 8 6) (stb x 8 7))))
      have HG := Lib.hid (grown_of_below hg none)
      clear hb hg
      unfold ins at HO ⊢
      generalize stb x 8 0 = y0 at *
      generalize stb x 8 1 = y1 at *
      generalize stb x 8 2 = y2 at *
      generalize stb x 8 3 = y3 at *
      generalize immOf _ _ _ _ = imm at *
      go_wp2_with fail
      refine (HO.out _ HG.out).mono ?_
      rintro e w3 ⟨rfl, hV⟩
      obtain ⟨c16, f16⟩ := HVC.out w3 hV
      have HV := Lib.hid hV
      clear hV
      generalize old w3 = ov at *
      rcases hen with rfl | rfl
      · go_wp2_with fail
        go_ret
        exact ⟨rfl, w3, HV.out, rfl⟩
      · go_wp2_with fail
        go_ret
        exact ⟨rfl, w3, HV.out, rfl⟩

set_option maxRecDepth 100000 in
set_option maxHeartbeats 4000000 in
theorem step_stop {W : World} {c M g n cap : Nat} {R : Nat → Int} {pc hole : Int} {f : Nat → Int} (h : CoreAt W c R pc) (hm : MemAt W M g n cap hole f) (pcn : Nat) (hpc : pc = pcn) (hlt : pcn < 262144) (h8 : pcn % 8 = 0) (hr : Reach n hole pcn 8) (x : Int) (hx : ldv (fun i => f (pcn + i)) 8 = x) (x0 : 0 ≤ x) (x1 : x < 18446744073709551616)
    (hd : Rightly (stb x 8 0) (stb x 8 1) (stb x 8 2) (stb x 8 3)) (nxt en : Int) (V : World → Prop) (hen : 2 ≤ en)
    (ho : ∀ w', W.grownBy w' none → Calls Try.prog 83 #[.pointer (some ⟨c, 0, none⟩), ins (stb x 8 0) (stb x 8 1) (stb x 8 2) (stb x 8 3) (immOf (stb x 8 4) (stb x 8 5) (stb x 8 6) (stb x 8 7)), .iface 52 (.pointer (some ⟨M, 0, none⟩))] w' fun e w2 => e = .returned (.tuple #[.int .u64 nxt, .int .i64 en]) ∧ V w2) :
    Calls Try.prog 64 #[.pointer (some ⟨c, 0, none⟩), .iface 52 (.pointer (some ⟨M, 0, none⟩))] W fun e w' => e = .returned (.int .i64 en) ∧ V w' := by
  have hF := fetch_yes hm pcn (by omega) hr
  rw [hx] at hF
  have HF := Lib.hid hF
  have HD := Lib.hid hd
  have HO := Lib.hid ho
  have cp := h.p
  rw [hpc] at cp
  have g1 : decide (262144 ≤ (pcn : Int)) = false := by simp; omega
  have g2 : (pcn : Int).tmod 8 = 0 := by rw [Int.tmod_eq_emod_of_nonneg (by omega)]; omega
  have g4 : IntKind.i64.wrap (pcn : Int) = pcn := by rw [IntKind.wrap_i64]; omega
  clear h hm hr hpc h8 hF hd hx ho
  go_enter Try.func64, Try.ntmps64
  go_wp2_with fail
  refine HF.out.mono ?_
  rintro e w' ⟨rfl, rfl⟩
  go_wp2_with fail
  go_loopw [38] (fun s38 wr => ∃ k : Nat, k ≤ 8 ∧ s38 = .int .i64 k ∧ Laying W x k wr) (fun s38 _ => 8 - (intOf s38).toNat)
  case atStart => exact ⟨0, by omega, rfl, Laying.start _ _⟩
  case round =>
    obtain ⟨k, hk, rfl, hL⟩ := hrel
    by_cases hlt8 : k < 8
    · have hc1 := hL.c k hlt8
      have hf1 := hL.fz k
      have HL := Lib.hid hL
      have hkI : (k : Int) < 8 := by omega
      clear hL
      go_wp2_with fail
      go_roundw
      case rel =>
        refine ⟨k + 1, by omega, by go_num, ?_⟩
        exact HL.out.next hlt8
      case measure => simp [intOf]; omega
    · obtain rfl : k = 8 := by omega
      have HL := Lib.hid hL
      clear hL
      go_wp2_with fail
      refine (decode_yes _ W.heap.size (stb x 8) HL.out.eight HD.out).mono ?_
      rintro e w2 ⟨rfl, hb⟩
      have hg := ((HL.out.env.trans (hb.mono (by have := HL.out.lt; omega))).alloc (by have := HL.out.env.size; have := hb.size; omega) (insO (stb x 8 0) (stb x 8 1) (stb x 8 2) (stb x 8 3) (immOf (stb x 8 4) (stb x 8 5) (stb x 8 6) (stb x 8 7))))
      have HG := Lib.hid (grown_of_below hg none)
      clear hb hg
      unfold ins at HO ⊢
      generalize stb x 8 0 = y0 at *
      generalize stb x 8 1 = y1 at *
      generalize stb x 8 2 = y2 at *
      generalize stb x 8 3 = y3 at *
      generalize immOf _ _ _ _ = imm at *
      go_wp2_with fail
      refine (HO.out _ HG.out).mono ?_
      rintro e w3 ⟨rfl, hV⟩
      have HV := Lib.hid hV
      have e0 : (en == 0) = false := by simp; omega
      have e1 : (en == 1) = false := by simp; omega
      clear hV
      go_wp2_with fail
      go_ret
      exact ⟨rfl, HV.out⟩
end Go.Proofs.Ytelgmffmekfndaa
