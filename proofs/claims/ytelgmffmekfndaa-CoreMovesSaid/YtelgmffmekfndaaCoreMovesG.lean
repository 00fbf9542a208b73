/- CoreMoves: the walk of the law, width by width. Conditions: as each theorem names them. -/
import Derived.Test.YtelgmffmekfndaaCoreMovesXG
set_option linter.unusedVariables false
namespace Go.Proofs.Ytelgmffmekfndaa
open Go.ChangeShapes Go.WideShapes Go.ChangeAt Go.RowKit

theorem and_127 (n : Int) : 0 ≤ bits .and .i64 n 127 ∧ bits .and .i64 n 127 ≤ 127 := by
  have h : bits .and .i64 n 127 = IntKind.i64.wrap ((BitVec.ofInt 64 n &&& BitVec.ofInt 64 127).toNat : Int) := rfl
  have h2 : (BitVec.ofInt 64 n &&& BitVec.ofInt 64 127).toNat ≤ 127 := by
    rw [BitVec.toNat_and]
    exact Nat.le_trans Nat.and_le_right (by decide)
  rw [h, IntKind.wrap_i64]
  omega

namespace Mv
/-- the memory's bytes, of which k are laid from 64 on -/
def fill (k j : Nat) : Int := if 64 ≤ j ∧ j < 64 + k then ((j - 64 : Nat) : Int) else 0
theorem fill_zero : fill 0 = fun _ => 0 := by funext j; unfold fill; rw [if_neg (by omega)]
theorem fill_next (k : Nat) : (fun j => if j = 64 + k then (k : Int) else fill k j) = fill (k + 1) := by
  funext j
  unfold fill
  by_cases h : j = 64 + k
  · subst h; rw [if_pos rfl, if_pos (by omega)]; omega
  · rw [if_neg h]
    by_cases h2 : 64 ≤ j ∧ j < 64 + k
    · rw [if_pos h2, if_pos (by omega)]
    · rw [if_neg h2, if_neg (by omega)]
theorem core_new3 (W : World) (x : Int) (t : TypeId) (hx : 0 ≤ x ∧ x < 18446744073709551616) :
    CoreAt (W.alloc (.cells #[.int .u64 0, .int .u64 0, .int .u64 0, .int .u64 x, .int .u64 0, .int .u64 0, .int .u64 0, .int .u64 0, .int .u64 0, .int .u64 0, .int .u64 0, .int .u64 0, .int .u64 0, .int .u64 0, .int .u64 0, .int .u64 0, .int .u64 0] t)) W.heap.size (fun i => if i = 3 then x else 0) 0 := by
  refine ⟨fun i hi => ?_, by simp, fun i => ?_, by omega, fun i => by simp, by simp⟩
  · rcases (by omega : i = 0 ∨ i = 1 ∨ i = 2 ∨ i = 3 ∨ i = 4 ∨ i = 5 ∨ i = 6 ∨ i = 7 ∨ i = 8 ∨ i = 9 ∨ i = 10 ∨ i = 11 ∨ i = 12 ∨ i = 13 ∨ i = 14 ∨ i = 15) with rfl | rfl | rfl | rfl | rfl | rfl | rfl | rfl | rfl | rfl | rfl | rfl | rfl | rfl | rfl | rfl <;> simp
  · show 0 ≤ (if i = 3 then x else 0) ∧ (if i = 3 then x else 0) < _
    split
    · exact hx
    · omega
theorem lay2 (f : Nat → Int) (p q r s t p' q' r' s' t' : Int) : (∀ i, i < 8 → layL (layL f 0 (encL p q r s t)) 8 (encL p' q' r' s' t') (0 + i) = encB p q r s t i) ∧ (∀ i, i < 8 → layL (layL f 0 (encL p q r s t)) 8 (encL p' q' r' s' t') (8 + i) = encB p' q' r' s' t' i) ∧ ∀ j, 16 ≤ j → layL (layL f 0 (encL p q r s t)) 8 (encL p' q' r' s' t') j = f j := by
  refine ⟨fun i hi => ?_, fun i hi => ?_, fun j hj => ?_⟩
  · rw [layL_out _ _ _ _ (by omega), layL_in _ _ 0 i (by simpa [encL] using hi), encL_at _ _ _ _ _ i hi]
  · rw [layL_in _ _ 8 i (by simpa [encL] using hi), encL_at _ _ _ _ _ i hi]
  · rw [layL_out _ _ _ _ (by simp [encL]; omega), layL_out _ _ _ _ (by simp [encL]; omega)]

/-- behind k rounds of the laying loop -/
structure LM (w1 : World) (k : Nat) (wr : World) : Prop where
  mem : MemAt wr (w1.heap.size + 1 + 1) (w1.heap.size + 1) 256 256 0 (fill k)
  env : Below w1.heap.size w1 wr
  sz : w1.heap.size + 3 ≤ wr.heap.size
theorem LM.start (w1 : World) (o : Obj) : LM w1 0 (((w1.alloc o).alloc (.cells (madeCells #[.int .u8 0] 256) 5)).alloc (.cells #[.slice (some ⟨w1.heap.size + 1, 0, none⟩) 256 256, .int .i64 0] 54)) := by
  have hs : (w1.alloc o).heap.size = w1.heap.size + 1 := by simp
  have hm := mem_new (w1.alloc o) 256 0 (by omega) (by omega)
  rw [hs] at hm
  rw [← fill_zero] at hm
  exact ⟨hm, (((Below.refl _ w1).alloc (Nat.le_refl _) _).alloc (by simp) _).alloc (by simp; omega) _, by simp⟩
theorem LM.next {w1 wr : World} {k : Nat} (h : LM w1 k wr) (hk : k < 192) : LM w1 (k + 1) (wr.setCell ⟨w1.heap.size + 1, 64 + k, none⟩ (.int .u8 k)) := by
  have hm := h.mem.set (by omega) (64 + k) (by omega) (k : Int) (by omega) (by omega)
  rw [fill_next] at hm
  exact ⟨hm, h.env.setCell (by simp) _, by have := h.sz; simpa [World.setCell] using this⟩
end Mv

set_option maxRecDepth 100000 in
set_option maxHeartbeats 4000000 in
theorem moves8 (x at' how r s : Int) (x0 : 0 ≤ x) (x1 : x < 18446744073709551616) (hr : how.tmod 3 = r) (hs : IntKind.i64.wrap (r + 3) = s) (hH : s.tmod 3 = 0) (w : World) : Calls Try.prog 20 #[.int .u64 x, .int .i64 at', .int .i64 how] w fun e w' => e = .returned (.bool true) ∧ Below w.heap.size w w' := by
  obtain ⟨q, hq⟩ : ∃ q, bits .and .i64 at' 127 = q := ⟨_, rfl⟩
  have hqb : 0 ≤ q ∧ q ≤ 127 := by rw [← hq]; exact and_127 at'
  obtain ⟨a, ha⟩ : ∃ a : Nat, q / 8 * 8 + 64 = a := ⟨(q / 8 * 8 + 64).toNat, by omega⟩
  have hab : 64 ≤ a ∧ a + 8 ≤ 192 ∧ a % 8 = 0 := by omega
  obtain ⟨d, hd⟩ : ∃ d, q / 8 = d := ⟨_, rfl⟩
  have hdt : q.tdiv 8 = d := by rw [Int.tdiv_eq_ediv_of_nonneg hqb.1, hd]
  have hdb : 0 ≤ d ∧ d ≤ 127 := by omega
  have hdw : IntKind.i64.wrap d = d := by rw [IntKind.wrap_i64]; omega
  rw [hd] at ha
  clear hd
  obtain ⟨m, hm⟩ : ∃ m, d * 8 = m := ⟨_, rfl⟩
  have hmw : IntKind.i64.wrap m = m := by rw [IntKind.wrap_i64]; omega
  rw [hm] at ha
  have haw : IntKind.i64.wrap (m + 64) = (a : Int) := by rw [IntKind.wrap_i64]; omega
  have hmk : ∀ w, (Instr.makeSlice 48 (.int .i64 256) (.int .i64 256)).run Try.prog w = .ok (.slice (some ⟨w.heap.size, 0, none⟩) 256 256) (w.alloc (.cells (madeCells #[.int .u8 0] 256) 5)) := make_bytes 256 (by omega)
  clear hqb ha hdb
  go_enter Try.func20, Try.ntmps20
  go_wp2_with fail
  refine (fit09_any _).mono ?_
  rintro e w1 ⟨rfl, hb1⟩
  go_wp2_with fail
  go_loopw [39] (fun s39 wr => ∃ k : Nat, k ≤ 192 ∧ s39 = .int .i64 k ∧ Mv.LM w1 k wr) (fun s39 _ => 192 - (intOf s39).toNat)
  case atStart => exact ⟨0, by omega, rfl, Mv.LM.start _ _⟩
  case round =>
    obtain ⟨k, hk, rfl, hL⟩ := hrel
    by_cases hlt : k < 192
    · have hcb := hL.mem.cb
      have hc1 := hL.mem.by' (64 + k) (by omega)
      have hf1 := hL.mem.fz (64 + k)
      have HL := Lib.hid hL
      have hkI : (k : Int) < 192 := by omega
      have hw5 : IntKind.i64.wrap (64 + (k : Int)) = 64 + (k : Int) := by rw [IntKind.wrap_i64]; omega
      have hw6 : IntKind.u8.wrap (k : Int) = (k : Int) := by simp [IntKind.wrap, IntKind.bits, IntKind.signed]; omega
      clear hL
      go_wp2_with fail
      go_roundw
      case rel => exact ⟨k + 1, by omega, by go_num, HL.out.next hlt⟩
      case measure => simp [intOf]; omega
    · obtain rfl : k = 192 := by omega
      obtain ⟨wx, hwx⟩ : ∃ wx : World, wx = wr := ⟨_, rfl⟩
      subst hwx
      have hz := hL.sz
      have hmx := hL.mem
      have hcb := hmx.cb
      have hcv := conv_at hmx 0 256 256 (by omega)
      have HOs := Lib.hid (strF_size (Mv.fill 192) 0 256)
      have HOc := Lib.hid (fun a b hab hb => strF_cut (Mv.fill 192) 256 a b hab hb)
      generalize strF (Mv.fill 192) 0 256 = O at *
      have HM := Lib.hid hmx
      have HBx := Lib.hid hL.env
      clear hL hmx
      go_wp2_with fail
      refine copy20a (w1.heap.size + 1 + 1) (w1.heap.size + 1) 256 256 0 (Mv.fill 192) 0 (a : Int) 22 (a : Int) _ HM.out (by omega) (by omega) (by omega) (by omega) (by rw [IntKind.wrap_i64]; rfl) (by simp [IntKind.wrap, IntKind.bits, IntKind.signed]; omega) HM.out.cb (by omega) _ rfl rfl rfl rfl _ ?_
      intro b9 w3 hcp
      have HB3 := Lib.hid (below_grown HBx.out.drew hcp.env (by omega))
      have hz3 : w1.heap.size + 3 ≤ w3.heap.size := Nat.le_trans hz hcp.env.size
      have HM3 := Lib.hid hcp.mem
      clear hcp hcb
      simp only [Act.put, List.setIfInBounds_toArray, List.set_cons_succ, List.set_cons_zero]
      go_wp2_with fail
      refine copy20b (w1.heap.size + 1 + 1) (w1.heap.size + 1) 256 256 0 _ 0 (a : Int) 19 (a : Int) _ HM3.out (by omega) (by omega) (by omega) (by omega) (by rw [IntKind.wrap_i64]; rfl) (by simp [IntKind.wrap, IntKind.bits, IntKind.signed]; omega) HM3.out.cb (by omega) _ rfl rfl rfl rfl _ ?_
      intro b10 w4 hcp
      have HB4 := Lib.hid (below_grown HB3.out.drew hcp.env (by omega))
      have hz4 : w1.heap.size + 3 ≤ w4.heap.size := Nat.le_trans hz3 hcp.env.size
      have HM4 := Lib.hid hcp.mem
      clear hcp
      simp only [Act.put, List.setIfInBounds_toArray, List.set_cons_succ, List.set_cons_zero]
      go_wp2_with fail
      obtain ⟨L1, L2, L3⟩ := Mv.lay2 (Mv.fill 192) 22 3 4 0 (a : Int) 19 5 4 0 (a : Int)
      obtain ⟨f2, hf2⟩ : ∃ f2, layL (layL (Mv.fill 192) 0 (encL 22 3 4 0 (a : Int))) 8 (encL 19 5 4 0 (a : Int)) = f2 := ⟨_, rfl⟩
      rw [hf2] at L1 L2 L3
      have hM4 := HM4.out
      rw [hf2] at hM4
      clear HM4 hf2
      have hf2b := hM4.rg
      have hx4 : xOf 0 (a : Int) = a := by unfold xOf; rw [IntKind.wrap_u64, IntKind.wrap_u64]; omega
      have hpl := place8_yes 0 (a : Int) (by omega) (by omega) (by rw [hx4]; omega)
      rw [hx4] at hpl
      have hst : St (w4.alloc (.cells #[.int .u64 0, .int .u64 0, .int .u64 0, .int .u64 x, .int .u64 0, .int .u64 0, .int .u64 0, .int .u64 0, .int .u64 0, .int .u64 0, .int .u64 0, .int .u64 0, .int .u64 0, .int .u64 0, .int .u64 0, .int .u64 0, .int .u64 0] 57)) w4.heap.size (w1.heap.size + 1 + 1) (w1.heap.size + 1) 256 256 0 (fun i => if i = 3 then x else 0) 0 f2 :=
        ⟨Mv.core_new3 w4 x 57 ⟨x0, x1⟩, hM4.grown (World.grownBy_alloc _ _ none) (by simp) (by simp) (by omega), by omega, by omega, by omega, by simp; omega⟩
      have hB5 : Below w1.heap.size w1 (w4.alloc (.cells #[.int .u64 0, .int .u64 0, .int .u64 0, .int .u64 x, .int .u64 0, .int .u64 0, .int .u64 0, .int .u64 0, .int .u64 0, .int .u64 0, .int .u64 0, .int .u64 0, .int .u64 0, .int .u64 0, .int .u64 0, .int .u64 0, .int .u64 0] 57)) := HB4.out.alloc (by omega) _
      have HB5 := Lib.hid hB5
      obtain ⟨v, hv⟩ : ∃ v, x = v := ⟨_, rfl⟩
      have hvb : 0 ≤ v ∧ v < 18446744073709551616 := by omega
      have hmask : bits .and .u64 x 18446744073709551615 = v := by rw [← hv]; exact low8 x x0 x1
      have hc1 : Code1 22 3 4 0 (a : Int) := ⟨by omega, by omega, by omega, by omega, by omega, by omega, by omega⟩
      have hc2 : Code1 19 5 4 0 (a : Int) := ⟨by omega, by omega, by omega, by omega, by omega, by omega, by omega⟩
      have hreach : Reach 256 0 a 8 := ⟨by omega, .inl rfl⟩
      have hs1 := step_coded (pc := 0) (pcn := 0) hc1 hf2b rfl (by omega) (by omega) ⟨by omega, .inl rfl⟩ L1 0 (nx 0) (by omega) (nx_bd 0) (store_ho (R := fun i => if i = 3 then x else 0) (by omega) (by omega) (by omega) (by omega) (by omega) (by omega) (by omega) 8 a (by omega) (by omega) (by omega) 18446744073709551615 v move_store8 hmask ⟨hvb.1, by omega⟩ width22 hpl hreach) hst
      have HS1 := Lib.hid hs1
      have hf3b := stf_bd f2 a 8 v hf2b
      have L2' : ∀ i, i < 8 → stf f2 a 8 v (8 + i) = encB 19 5 4 0 (a : Int) i := fun i hi => by
        unfold stf
        rw [if_neg (by omega)]
        exact L2 i hi
      have L3' : ∀ j, 64 ≤ j → (j < a ∨ a + 8 ≤ j) → stf f2 a 8 v j = Mv.fill 192 j := fun j h1 h2 => by
        unfold stf
        rw [if_neg (by omega)]
        exact L3 j (by omega)
      have hld := load_stored f2 a 8 v (by omega) hvb.1 (by rw [show (256 : Int) ^ 8 = 18446744073709551616 by decide]; exact hvb.2)
      have e8 : pcOf 0 (nx 0) 0 = 8 := by rw [pcOf_go]; unfold nx; rw [IntKind.wrap_u64]; rfl
      have HS2 := Lib.hid (fun W (h : St W w4.heap.size (w1.heap.size + 1 + 1) (w1.heap.size + 1) 256 256 0 (fun i => if i = 3 then x else 0) 8 (stf f2 a 8 v)) => step_coded (pc := 8) (pcn := 8) hc2 hf3b rfl (by omega) (by omega) ⟨by omega, .inl rfl⟩ L2' 0 (nx 8) (by omega) (nx_bd 8) (load_ho (R := fun i => if i = 3 then x else 0) hf3b (by omega) (by omega) (by omega) (by omega) (by omega) (by omega) (by omega) 8 a (by omega) (by omega) (by omega) width19 hpl hreach) h)
      have HL3 := Lib.hid L3'
      have HLD := Lib.hid hld
      have HE8 := Lib.hid e8
      have HV := Lib.hid hv
      clear hst hB5 hs1 hf2b hf3b L1 L2 L3 L2' L3' hld e8 hpl hx4 hM4 hc1 hc2 hreach hv
      refine HS1.out.mono ?_
      rintro e w5 ⟨rfl, hS5, hk5⟩
      rw [HE8.out] at hS5
      have HB6 := Lib.hid (below_kept2 HB5.out hk5 (by omega) (by omega))
      have HS2' := Lib.hid (HS2.out _ hS5)
      clear hS5 hk5
      go_wp2_with fail
      refine HS2'.out.mono ?_
      rintro e w6 ⟨rfl, hS6, hk6⟩
      have HB7 := Lib.hid (below_kept2 HB6.out hk6 (by omega) (by omega))
      have c5 := hS6.core.r 5 (by omega)
      have c5' : w6.cell? ⟨w4.heap.size, 5, none⟩ = some (.int .u64 v) := c5.trans (by rw [if_pos rfl, HLD.out])
      have HC5 := Lib.hid c5'
      have HM6 := Lib.hid hS6.mem
      have hz6 : w1.heap.size + 1 < w6.heap.size := hS6.gz
      clear hS6 hk6 c5 c5'
      go_wp2_with fail
      obtain rfl := HV.out
      refine moves_reg w4.heap.size (w1.heap.size + 1 + 1) (w1.heap.size + 1) 256 a 8 0 _ _ O (strF (Mv.fill 192) 64 (a - 64)) (strF (Mv.fill 192) (a + 8) (256 - (a + 8))) w6 HM6.out hz6 HC5.out hab.1 hab.2.1 (by omega) (by omega) (strF_congr fun i hi => HL3.out _ (by omega) (by omega)) (strF_congr fun i hi => HL3.out _ (by omega) (by omega)) (by rw [HOs.out]; omega) (HOc.out 64 a (by omega) (by omega)) (by rw [HOs.out]; omega) (by rw [HOs.out]; exact HOc.out (a + 8) 256 (by omega) (by omega)) _ rfl rfl rfl rfl rfl rfl rfl _ ?_
      simp only [Act.put, List.setIfInBounds_toArray, List.set_cons_succ, List.set_cons_zero]
      go_wp2_with fail
      go_ret
      exact ⟨rfl, hb1.trans (HB7.out.drew.mono hb1.size)⟩
set_option maxRecDepth 100000 in
set_option maxHeartbeats 4000000 in
theorem moves4 (x at' how r s : Int) (x0 : 0 ≤ x) (x1 : x < 18446744073709551616) (hr : how.tmod 3 = r) (hs : IntKind.i64.wrap (r + 3) = s) (hH : s.tmod 3 = 1) (w : World) : Calls Try.prog 20 #[.int .u64 x, .int .i64 at', .int .i64 how] w fun e w' => e = .returned (.bool true) ∧ Below w.heap.size w w' := by
  obtain ⟨q, hq⟩ : ∃ q, bits .and .i64 at' 127 = q := ⟨_, rfl⟩
  have hqb : 0 ≤ q ∧ q ≤ 127 := by rw [← hq]; exact and_127 at'
  obtain ⟨a, ha⟩ : ∃ a : Nat, q / 4 * 4 + 64 = a := ⟨(q / 4 * 4 + 64).toNat, by omega⟩
  have hab : 64 ≤ a ∧ a + 4 ≤ 192 ∧ a % 4 = 0 := by omega
  obtain ⟨d, hd⟩ : ∃ d, q / 4 = d := ⟨_, rfl⟩
  have hdt : q.tdiv 4 = d := by rw [Int.tdiv_eq_ediv_of_nonneg hqb.1, hd]
  have hdb : 0 ≤ d ∧ d ≤ 127 := by omega
  have hdw : IntKind.i64.wrap d = d := by rw [IntKind.wrap_i64]; omega
  rw [hd] at ha
  clear hd
  obtain ⟨m, hm⟩ : ∃ m, d * 4 = m := ⟨_, rfl⟩
  have hmw : IntKind.i64.wrap m = m := by rw [IntKind.wrap_i64]; omega
  rw [hm] at ha
  have haw : IntKind.i64.wrap (m + 64) = (a : Int) := by rw [IntKind.wrap_i64]; omega
  have hmk : ∀ w, (Instr.makeSlice 48 (.int .i64 256) (.int .i64 256)).run Try.prog w = .ok (.slice (some ⟨w.heap.size, 0, none⟩) 256 256) (w.alloc (.cells (madeCells #[.int .u8 0] 256) 5)) := make_bytes 256 (by omega)
  clear hqb ha hdb
  go_enter Try.func20, Try.ntmps20
  go_wp2_with fail
  refine (fit09_any _).mono ?_
  rintro e w1 ⟨rfl, hb1⟩
  go_wp2_with fail
  go_loopw [39] (fun s39 wr => ∃ k : Nat, k ≤ 192 ∧ s39 = .int .i64 k ∧ Mv.LM w1 k wr) (fun s39 _ => 192 - (intOf s39).toNat)
  case atStart => exact ⟨0, by omega, rfl, Mv.LM.start _ _⟩
  case round =>
    obtain ⟨k, hk, rfl, hL⟩ := hrel
    by_cases hlt : k < 192
    · have hcb := hL.mem.cb
      have hc1 := hL.mem.by' (64 + k) (by omega)
      have hf1 := hL.mem.fz (64 + k)
      have HL := Lib.hid hL
      have hkI : (k : Int) < 192 := by omega
      have hw5 : IntKind.i64.wrap (64 + (k : Int)) = 64 + (k : Int) := by rw [IntKind.wrap_i64]; omega
      have hw6 : IntKind.u8.wrap (k : Int) = (k : Int) := by simp [IntKind.wrap, IntKind.bits, IntKind.signed]; omega
      clear hL
      go_wp2_with fail
      go_roundw
      case rel => exact ⟨k + 1, by omega, by go_num, HL.out.next hlt⟩
      case measure => simp [intOf]; omega
    · obtain rfl : k = 192 := by omega
      obtain ⟨wx, hwx⟩ : ∃ wx : World, wx = wr := ⟨_, rfl⟩
      subst hwx
      have hz := hL.sz
      have hmx := hL.mem
      have hcb := hmx.cb
      have hcv := conv_at hmx 0 256 256 (by omega)
      have HOs := Lib.hid (strF_size (Mv.fill 192) 0 256)
      have HOc := Lib.hid (fun a b hab hb => strF_cut (Mv.fill 192) 256 a b hab hb)
      generalize strF (Mv.fill 192) 0 256 = O at *
      have HM := Lib.hid hmx
      have HBx := Lib.hid hL.env
      clear hL hmx
      go_wp2_with fail
      refine copy20a (w1.heap.size + 1 + 1) (w1.heap.size + 1) 256 256 0 (Mv.fill 192) 1 (a : Int) 23 (a : Int) _ HM.out (by omega) (by omega) (by omega) (by omega) (by rw [IntKind.wrap_i64]; rfl) (by simp [IntKind.wrap, IntKind.bits, IntKind.signed]; omega) HM.out.cb (by omega) _ rfl rfl rfl rfl _ ?_
      intro b9 w3 hcp
      have HB3 := Lib.hid (below_grown HBx.out.drew hcp.env (by omega))
      have hz3 : w1.heap.size + 3 ≤ w3.heap.size := Nat.le_trans hz hcp.env.size
      have HM3 := Lib.hid hcp.mem
      clear hcp hcb
      simp only [Act.put, List.setIfInBounds_toArray, List.set_cons_succ, List.set_cons_zero]
      go_wp2_with fail
      refine copy20b (w1.heap.size + 1 + 1) (w1.heap.size + 1) 256 256 0 _ 1 (a : Int) 20 (a : Int) _ HM3.out (by omega) (by omega) (by omega) (by omega) (by rw [IntKind.wrap_i64]; rfl) (by simp [IntKind.wrap, IntKind.bits, IntKind.signed]; omega) HM3.out.cb (by omega) _ rfl rfl rfl rfl _ ?_
      intro b10 w4 hcp
      have HB4 := Lib.hid (below_grown HB3.out.drew hcp.env (by omega))
      have hz4 : w1.heap.size + 3 ≤ w4.heap.size := Nat.le_trans hz3 hcp.env.size
      have HM4 := Lib.hid hcp.mem
      clear hcp
      simp only [Act.put, List.setIfInBounds_toArray, List.set_cons_succ, List.set_cons_zero]
      go_wp2_with fail
      obtain ⟨L1, L2, L3⟩ := Mv.lay2 (Mv.fill 192) 23 3 4 0 (a : Int) 20 5 4 0 (a : Int)
      obtain ⟨f2, hf2⟩ : ∃ f2, layL (layL (Mv.fill 192) 0 (encL 23 3 4 0 (a : Int))) 8 (encL 20 5 4 0 (a : Int)) = f2 := ⟨_, rfl⟩
      rw [hf2] at L1 L2 L3
      have hM4 := HM4.out
      rw [hf2] at hM4
      clear HM4 hf2
      have hf2b := hM4.rg
      have hx4 : xOf 0 (a : Int) = a := by unfold xOf; rw [IntKind.wrap_u64, IntKind.wrap_u64]; omega
      have hpl := place4_yes 0 (a : Int) (by omega) (by omega) (by rw [hx4]; omega)
      rw [hx4] at hpl
      have hst : St (w4.alloc (.cells #[.int .u64 0, .int .u64 0, .int .u64 0, .int .u64 x, .int .u64 0, .int .u64 0, .int .u64 0, .int .u64 0, .int .u64 0, .int .u64 0, .int .u64 0, .int .u64 0, .int .u64 0, .int .u64 0, .int .u64 0, .int .u64 0, .int .u64 0] 57)) w4.heap.size (w1.heap.size + 1 + 1) (w1.heap.size + 1) 256 256 0 (fun i => if i = 3 then x else 0) 0 f2 :=
        ⟨Mv.core_new3 w4 x 57 ⟨x0, x1⟩, hM4.grown (World.grownBy_alloc _ _ none) (by simp) (by simp) (by omega), by omega, by omega, by omega, by simp; omega⟩
      have hB5 : Below w1.heap.size w1 (w4.alloc (.cells #[.int .u64 0, .int .u64 0, .int .u64 0, .int .u64 x, .int .u64 0, .int .u64 0, .int .u64 0, .int .u64 0, .int .u64 0, .int .u64 0, .int .u64 0, .int .u64 0, .int .u64 0, .int .u64 0, .int .u64 0, .int .u64 0, .int .u64 0] 57)) := HB4.out.alloc (by omega) _
      have HB5 := Lib.hid hB5
      obtain ⟨v, hv⟩ : ∃ v, x % 4294967296 = v := ⟨_, rfl⟩
      have hvb : 0 ≤ v ∧ v < 4294967296 := by omega
      have hmask : bits .and .u64 x 4294967295 = v := by rw [← hv]; exact low4 x x0 x1
      have hc1 : Code1 23 3 4 0 (a : Int) := ⟨by omega, by omega, by omega, by omega, by omega, by omega, by omega⟩
      have hc2 : Code1 20 5 4 0 (a : Int) := ⟨by omega, by omega, by omega, by omega, by omega, by omega, by omega⟩
      have hreach : Reach 256 0 a 4 := ⟨by omega, .inl rfl⟩
      have hs1 := step_coded (pc := 0) (pcn := 0) hc1 hf2b rfl (by omega) (by omega) ⟨by omega, .inl rfl⟩ L1 0 (nx 0) (by omega) (nx_bd 0) (store_ho (R := fun i => if i = 3 then x else 0) (by omega) (by omega) (by omega) (by omega) (by omega) (by omega) (by omega) 4 a (by omega) (by omega) (by omega) 4294967295 v move_store4 hmask ⟨hvb.1, by omega⟩ width23 hpl hreach) hst
      have HS1 := Lib.hid hs1
      have hf3b := stf_bd f2 a 4 v hf2b
      have L2' : ∀ i, i < 8 → stf f2 a 4 v (8 + i) = encB 20 5 4 0 (a : Int) i := fun i hi => by
        unfold stf
        rw [if_neg (by omega)]
        exact L2 i hi
      have L3' : ∀ j, 64 ≤ j → (j < a ∨ a + 4 ≤ j) → stf f2 a 4 v j = Mv.fill 192 j := fun j h1 h2 => by
        unfold stf
        rw [if_neg (by omega)]
        exact L3 j (by omega)
      have hld := load_stored f2 a 4 v (by omega) hvb.1 (by rw [show (256 : Int) ^ 4 = 4294967296 by decide]; exact hvb.2)
      have e8 : pcOf 0 (nx 0) 0 = 8 := by rw [pcOf_go]; unfold nx; rw [IntKind.wrap_u64]; rfl
      have HS2 := Lib.hid (fun W (h : St W w4.heap.size (w1.heap.size + 1 + 1) (w1.heap.size + 1) 256 256 0 (fun i => if i = 3 then x else 0) 8 (stf f2 a 4 v)) => step_coded (pc := 8) (pcn := 8) hc2 hf3b rfl (by omega) (by omega) ⟨by omega, .inl rfl⟩ L2' 0 (nx 8) (by omega) (nx_bd 8) (load_ho (R := fun i => if i = 3 then x else 0) hf3b (by omega) (by omega) (by omega) (by omega) (by omega) (by omega) (by omega) 4 a (by omega) (by omega) (by omega) width20 hpl hreach) h)
      have HL3 := Lib.hid L3'
      have HLD := Lib.hid hld
      have HE8 := Lib.hid e8
      have HV := Lib.hid hv
      clear hst hB5 hs1 hf2b hf3b L1 L2 L3 L2' L3' hld e8 hpl hx4 hM4 hc1 hc2 hreach hv
      refine HS1.out.mono ?_
      rintro e w5 ⟨rfl, hS5, hk5⟩
      rw [HE8.out] at hS5
      have HB6 := Lib.hid (below_kept2 HB5.out hk5 (by omega) (by omega))
      have HS2' := Lib.hid (HS2.out _ hS5)
      clear hS5 hk5
      go_wp2_with fail
      refine HS2'.out.mono ?_
      rintro e w6 ⟨rfl, hS6, hk6⟩
      have HB7 := Lib.hid (below_kept2 HB6.out hk6 (by omega) (by omega))
      have c5 := hS6.core.r 5 (by omega)
      have c5' : w6.cell? ⟨w4.heap.size, 5, none⟩ = some (.int .u64 v) := c5.trans (by rw [if_pos rfl, HLD.out])
      have HC5 := Lib.hid c5'
      have HM6 := Lib.hid hS6.mem
      have hz6 : w1.heap.size + 1 < w6.heap.size := hS6.gz
      clear hS6 hk6 c5 c5'
      go_wp2_with fail
      refine moves_reg w4.heap.size (w1.heap.size + 1 + 1) (w1.heap.size + 1) 256 a 4 0 _ _ O (strF (Mv.fill 192) 64 (a - 64)) (strF (Mv.fill 192) (a + 4) (256 - (a + 4))) w6 HM6.out hz6 HC5.out hab.1 hab.2.1 (by omega) (by omega) (strF_congr fun i hi => HL3.out _ (by omega) (by omega)) (strF_congr fun i hi => HL3.out _ (by omega) (by omega)) (by rw [HOs.out]; omega) (HOc.out 64 a (by omega) (by omega)) (by rw [HOs.out]; omega) (by rw [HOs.out]; exact HOc.out (a + 4) 256 (by omega) (by omega)) _ rfl rfl rfl rfl rfl rfl rfl _ ?_
      simp only [Act.put, List.setIfInBounds_toArray, List.set_cons_succ, List.set_cons_zero]
      go_wp2_with fail
      go_ret
      exact ⟨rfl, hb1.trans (HB7.out.drew.mono hb1.size)⟩
set_option maxRecDepth 100000 in
set_option maxHeartbeats 4000000 in
theorem moves1 (x at' how r s : Int) (x0 : 0 ≤ x) (x1 : x < 18446744073709551616) (hr : how.tmod 3 = r) (hs : IntKind.i64.wrap (r + 3) = s) (hH : s.tmod 3 = 2) (w : World) : Calls Try.prog 20 #[.int .u64 x, .int .i64 at', .int .i64 how] w fun e w' => e = .returned (.bool true) ∧ Below w.heap.size w w' := by
  obtain ⟨q, hq⟩ : ∃ q, bits .and .i64 at' 127 = q := ⟨_, rfl⟩
  have hqb : 0 ≤ q ∧ q ≤ 127 := by rw [← hq]; exact and_127 at'
  obtain ⟨a, ha⟩ : ∃ a : Nat, q / 1 * 1 + 64 = a := ⟨(q / 1 * 1 + 64).toNat, by omega⟩
  have hab : 64 ≤ a ∧ a + 1 ≤ 192 ∧ a % 1 = 0 := by omega
  obtain ⟨d, hd⟩ : ∃ d, q / 1 = d := ⟨_, rfl⟩
  have hdt : q.tdiv 1 = d := by rw [Int.tdiv_eq_ediv_of_nonneg hqb.1, hd]
  have hdb : 0 ≤ d ∧ d ≤ 127 := by omega
  have hdw : IntKind.i64.wrap d = d := by rw [IntKind.wrap_i64]; omega
  rw [hd] at ha
  clear hd
  obtain ⟨m, hm⟩ : ∃ m, d * 1 = m := ⟨_, rfl⟩
  have hmw : IntKind.i64.wrap m = m := by rw [IntKind.wrap_i64]; omega
  rw [hm] at ha
  have haw : IntKind.i64.wrap (m + 64) = (a : Int) := by rw [IntKind.wrap_i64]; omega
  have hmk : ∀ w, (Instr.makeSlice 48 (.int .i64 256) (.int .i64 256)).run Try.prog w = .ok (.slice (some ⟨w.heap.size, 0, none⟩) 256 256) (w.alloc (.cells (madeCells #[.int .u8 0] 256) 5)) := make_bytes 256 (by omega)
  clear hqb ha hdb
  go_enter Try.func20, Try.ntmps20
  go_wp2_with fail
  refine (fit09_any _).mono ?_
  rintro e w1 ⟨rfl, hb1⟩
  go_wp2_with fail
  go_loopw [39] (fun s39 wr => ∃ k : Nat, k ≤ 192 ∧ s39 = .int .i64 k ∧ Mv.LM w1 k wr) (fun s39 _ => 192 - (intOf s39).toNat)
  case atStart => exact ⟨0, by omega, rfl, Mv.LM.start _ _⟩
  case round =>
    obtain ⟨k, hk, rfl, hL⟩ := hrel
    by_cases hlt : k < 192
    · have hcb := hL.mem.cb
      have hc1 := hL.mem.by' (64 + k) (by omega)
      have hf1 := hL.mem.fz (64 + k)
      have HL := Lib.hid hL
      have hkI : (k : Int) < 192 := by omega
      have hw5 : IntKind.i64.wrap (64 + (k : Int)) = 64 + (k : Int) := by rw [IntKind.wrap_i64]; omega
      have hw6 : IntKind.u8.wrap (k : Int) = (k : Int) := by simp [IntKind.wrap, IntKind.bits, IntKind.signed]; omega
      clear hL
      go_wp2_with fail
      go_roundw
      case rel => exact ⟨k + 1, by omega, by go_num, HL.out.next hlt⟩
      case measure => simp [intOf]; omega
    · obtain rfl : k = 192 := by omega
      obtain ⟨wx, hwx⟩ : ∃ wx : World, wx = wr := ⟨_, rfl⟩
      subst hwx
      have hz := hL.sz
      have hmx := hL.mem
      have hcb := hmx.cb
      have hcv := conv_at hmx 0 256 256 (by omega)
      have HOs := Lib.hid (strF_size (Mv.fill 192) 0 256)
      have HOc := Lib.hid (fun a b hab hb => strF_cut (Mv.fill 192) 256 a b hab hb)
      generalize strF (Mv.fill 192) 0 256 = O at *
      have HM := Lib.hid hmx
      have HBx := Lib.hid hL.env
      clear hL hmx
      go_wp2_with fail
      refine copy20a (w1.heap.size + 1 + 1) (w1.heap.size + 1) 256 256 0 (Mv.fill 192) 2 (a : Int) 24 (a : Int) _ HM.out (by omega) (by omega) (by omega) (by omega) (by rw [IntKind.wrap_i64]; rfl) (by simp [IntKind.wrap, IntKind.bits, IntKind.signed]; omega) HM.out.cb (by omega) _ rfl rfl rfl rfl _ ?_
      intro b9 w3 hcp
      have HB3 := Lib.hid (below_grown HBx.out.drew hcp.env (by omega))
      have hz3 : w1.heap.size + 3 ≤ w3.heap.size := Nat.le_trans hz hcp.env.size
      have HM3 := Lib.hid hcp.mem
      clear hcp hcb
      simp only [Act.put, List.setIfInBounds_toArray, List.set_cons_succ, List.set_cons_zero]
      go_wp2_with fail
      refine copy20b (w1.heap.size + 1 + 1) (w1.heap.size + 1) 256 256 0 _ 2 (a : Int) 21 (a : Int) _ HM3.out (by omega) (by omega) (by omega) (by omega) (by rw [IntKind.wrap_i64]; rfl) (by simp [IntKind.wrap, IntKind.bits, IntKind.signed]; omega) HM3.out.cb (by omega) _ rfl rfl rfl rfl _ ?_
      intro b10 w4 hcp
      have HB4 := Lib.hid (below_grown HB3.out.drew hcp.env (by omega))
      have hz4 : w1.heap.size + 3 ≤ w4.heap.size := Nat.le_trans hz3 hcp.env.size
      have HM4 := Lib.hid hcp.mem
      clear hcp
      simp only [Act.put, List.setIfInBounds_toArray, List.set_cons_succ, List.set_cons_zero]
      go_wp2_with fail
      obtain ⟨L1, L2, L3⟩ := Mv.lay2 (Mv.fill 192) 24 3 4 0 (a : Int) 21 5 4 0 (a : Int)
      obtain ⟨f2, hf2⟩ : ∃ f2, layL (layL (Mv.fill 192) 0 (encL 24 3 4 0 (a : Int))) 8 (encL 21 5 4 0 (a : Int)) = f2 := ⟨_, rfl⟩
      rw [hf2] at L1 L2 L3
      have hM4 := HM4.out
      rw [hf2] at hM4
      clear HM4 hf2
      have hf2b := hM4.rg
      have hx4 : xOf 0 (a : Int) = a := by unfold xOf; rw [IntKind.wrap_u64, IntKind.wrap_u64]; omega
      have hpl := place1_yes 0 (a : Int) (by omega) (by omega) (by rw [hx4]; omega)
      rw [hx4] at hpl
      have hst : St (w4.alloc (.cells #[.int .u64 0, .int .u64 0, .int .u64 0, .int .u64 x, .int .u64 0, .int .u64 0, .int .u64 0, .int .u64 0, .int .u64 0, .int .u64 0, .int .u64 0, .int .u64 0, .int .u64 0, .int .u64 0, .int .u64 0, .int .u64 0, .int .u64 0] 57)) w4.heap.size (w1.heap.size + 1 + 1) (w1.heap.size + 1) 256 256 0 (fun i => if i = 3 then x else 0) 0 f2 :=
        ⟨Mv.core_new3 w4 x 57 ⟨x0, x1⟩, hM4.grown (World.grownBy_alloc _ _ none) (by simp) (by simp) (by omega), by omega, by omega, by omega, by simp; omega⟩
      have hB5 : Below w1.heap.size w1 (w4.alloc (.cells #[.int .u64 0, .int .u64 0, .int .u64 0, .int .u64 x, .int .u64 0, .int .u64 0, .int .u64 0, .int .u64 0, .int .u64 0, .int .u64 0, .int .u64 0, .int .u64 0, .int .u64 0, .int .u64 0, .int .u64 0, .int .u64 0, .int .u64 0] 57)) := HB4.out.alloc (by omega) _
      have HB5 := Lib.hid hB5
      obtain ⟨v, hv⟩ : ∃ v, x % 256 = v := ⟨_, rfl⟩
      have hvb : 0 ≤ v ∧ v < 256 := by omega
      have hmask : bits .and .u64 x 255 = v := by rw [← hv]; exact low1 x x0 x1
      have hc1 : Code1 24 3 4 0 (a : Int) := ⟨by omega, by omega, by omega, by omega, by omega, by omega, by omega⟩
      have hc2 : Code1 21 5 4 0 (a : Int) := ⟨by omega, by omega, by omega, by omega, by omega, by omega, by omega⟩
      have hreach : Reach 256 0 a 1 := ⟨by omega, .inl rfl⟩
      have hs1 := step_coded (pc := 0) (pcn := 0) hc1 hf2b rfl (by omega) (by omega) ⟨by omega, .inl rfl⟩ L1 0 (nx 0) (by omega) (nx_bd 0) (store_ho (R := fun i => if i = 3 then x else 0) (by omega) (by omega) (by omega) (by omega) (by omega) (by omega) (by omega) 1 a (by omega) (by omega) (by omega) 255 v move_store1 hmask ⟨hvb.1, by omega⟩ width24 hpl hreach) hst
      have HS1 := Lib.hid hs1
      have hf3b := stf_bd f2 a 1 v hf2b
      have L2' : ∀ i, i < 8 → stf f2 a 1 v (8 + i) = encB 21 5 4 0 (a : Int) i := fun i hi => by
        unfold stf
        rw [if_neg (by omega)]
        exact L2 i hi
      have L3' : ∀ j, 64 ≤ j → (j < a ∨ a + 1 ≤ j) → stf f2 a 1 v j = Mv.fill 192 j := fun j h1 h2 => by
        unfold stf
        rw [if_neg (by omega)]
        exact L3 j (by omega)
      have hld := load_stored f2 a 1 v (by omega) hvb.1 (by rw [show (256 : Int) ^ 1 = 256 by decide]; exact hvb.2)
      have e8 : pcOf 0 (nx 0) 0 = 8 := by rw [pcOf_go]; unfold nx; rw [IntKind.wrap_u64]; rfl
      have HS2 := Lib.hid (fun W (h : St W w4.heap.size (w1.heap.size + 1 + 1) (w1.heap.size + 1) 256 256 0 (fun i => if i = 3 then x else 0) 8 (stf f2 a 1 v)) => step_coded (pc := 8) (pcn := 8) hc2 hf3b rfl (by omega) (by omega) ⟨by omega, .inl rfl⟩ L2' 0 (nx 8) (by omega) (nx_bd 8) (load_ho (R := fun i => if i = 3 then x else 0) hf3b (by omega) (by omega) (by omega) (by omega) (by omega) (by omega) (by omega) 1 a (by omega) (by omega) (by omega) width21 hpl hreach) h)
      have HL3 := Lib.hid L3'
      have HLD := Lib.hid hld
      have HE8 := Lib.hid e8
      have HV := Lib.hid hv
      clear hst hB5 hs1 hf2b hf3b L1 L2 L3 L2' L3' hld e8 hpl hx4 hM4 hc1 hc2 hreach hv
      refine HS1.out.mono ?_
      rintro e w5 ⟨rfl, hS5, hk5⟩
      rw [HE8.out] at hS5
      have HB6 := Lib.hid (below_kept2 HB5.out hk5 (by omega) (by omega))
      have HS2' := Lib.hid (HS2.out _ hS5)
      clear hS5 hk5
      go_wp2_with fail
      refine HS2'.out.mono ?_
      rintro e w6 ⟨rfl, hS6, hk6⟩
      have HB7 := Lib.hid (below_kept2 HB6.out hk6 (by omega) (by omega))
      have c5 := hS6.core.r 5 (by omega)
      have c5' : w6.cell? ⟨w4.heap.size, 5, none⟩ = some (.int .u64 v) := c5.trans (by rw [if_pos rfl, HLD.out])
      have HC5 := Lib.hid c5'
      have HM6 := Lib.hid hS6.mem
      have hz6 : w1.heap.size + 1 < w6.heap.size := hS6.gz
      clear hS6 hk6 c5 c5'
      go_wp2_with fail
      refine moves_reg w4.heap.size (w1.heap.size + 1 + 1) (w1.heap.size + 1) 256 a 1 0 _ _ O (strF (Mv.fill 192) 64 (a - 64)) (strF (Mv.fill 192) (a + 1) (256 - (a + 1))) w6 HM6.out hz6 HC5.out hab.1 hab.2.1 (by omega) (by omega) (strF_congr fun i hi => HL3.out _ (by omega) (by omega)) (strF_congr fun i hi => HL3.out _ (by omega) (by omega)) (by rw [HOs.out]; omega) (HOc.out 64 a (by omega) (by omega)) (by rw [HOs.out]; omega) (by rw [HOs.out]; exact HOc.out (a + 1) 256 (by omega) (by omega)) _ rfl rfl rfl rfl rfl rfl rfl _ ?_
      simp only [Act.put, List.setIfInBounds_toArray, List.set_cons_succ, List.set_cons_zero]
      go_wp2_with fail
      go_ret
      exact ⟨rfl, hb1.trans (HB7.out.drew.mono hb1.size)⟩

theorem lawMoves (x at' how : Int) (x0 : 0 ≤ x) (x1 : x < 18446744073709551616) (w : World) : Calls Try.prog 20 #[.int .u64 x, .int .i64 at', .int .i64 how] w fun e w' => e = .returned (.bool true) ∧ Below w.heap.size w w' := by
  have h1 := Int.mul_tdiv_add_tmod how 3
  have hb : -3 < how.tmod 3 ∧ how.tmod 3 < 3 := by
    have := Int.tmod_lt_of_pos how (show (0 : Int) < 3 by decide)
    have h2 := Int.tmod_lt_of_pos (-how) (show (0 : Int) < 3 by decide)
    rw [Int.neg_tmod] at h2
    omega
  have hs : IntKind.i64.wrap (how.tmod 3 + 3) = how.tmod 3 + 3 := by rw [IntKind.wrap_i64]; omega
  have ht : (how.tmod 3 + 3).tmod 3 = (how.tmod 3 + 3) % 3 := Int.tmod_eq_emod_of_nonneg (by omega)
  rcases (by omega : (how.tmod 3 + 3) % 3 = 0 ∨ (how.tmod 3 + 3) % 3 = 1 ∨ (how.tmod 3 + 3) % 3 = 2) with e | e | e
  · exact moves8 x at' how _ _ x0 x1 rfl hs (ht.trans e) w
  · exact moves4 x at' how _ _ x0 x1 rfl hs (ht.trans e) w
  · exact moves1 x at' how _ _ x0 x1 rfl hs (ht.trans e) w
end Go.Proofs.Ytelgmffmekfndaa
