/- CoreSteps: the walk of the law. Conditions: as each theorem names them. -/
import Derived.Test.YtelgmffmekfndaaCoreStepsXG
import Derived.Test.YtelgmffmekfndaaCoreEqsG
set_option linter.unusedVariables false
namespace Go.Proofs.Ytelgmffmekfndaa
open Go.ChangeShapes Go.WideShapes Go.ChangeAt Go.RowKit

/-- instructions that are handed over -/
def InsRow (w : World) (v : Value) (m : Nat) : Prop := ∃ ao cap, v = .slice ao m cap ∧ (0 < m → ∃ a, ao = some a ∧ a.block < w.heap.size ∧ ∀ i, i < m → ∃ x0 x1 x2 x3 x4 : Int, w.cell? (a.add (i * 5)) = some (.int .i64 x0) ∧ w.cell? ((a.add (i * 5)).add 1) = some (.int .i64 x1) ∧ w.cell? ((a.add (i * 5)).add 2) = some (.int .i64 x2) ∧ w.cell? ((a.add (i * 5)).add 3) = some (.int .i64 x3) ∧ w.cell? ((a.add (i * 5)).add 4) = some (.int .i32 x4))

namespace Ss
/-- behind k rounds of the first loop -/
def SL (w : World) (k : Nat) (v : Value) (wr : World) : Prop := ∃ ys, wr.ownsRow w.heap.size 5 1 v (8 * k) (bys ys) ∧ Byted ys ∧ Below w.heap.size w wr
theorem St.kept2 {W W' : World} {c M g n cap x y : Nat} {hole : Int} {R : Nat → Int} {pc : Int} {f : Nat → Int} (h : St W c M g n cap hole R pc f) (k : Kept2 x y W W') (c1 : c ≠ x) (c2 : c ≠ y) (M1 : M ≠ x) (M2 : M ≠ y) (g1 : g ≠ x) (g2 : g ≠ y) : St W' c M g n cap hole R pc f := by
  have lM : M < W.heap.size := by
    rcases Nat.lt_or_ge M W.heap.size with q | q
    · exact q
    · exfalso
      have := h.mem.cb
      simp [World.cell?, Array.getElem?_eq_none q] at this
  have eM : ∀ i, W'.cell? ⟨M, i, none⟩ = W.cell? ⟨M, i, none⟩ := fun i => World.cell?_of_block (a := ⟨M, i, none⟩) (k.block M lM M1 M2)
  have eg : ∀ i, W'.cell? ⟨g, i, none⟩ = W.cell? ⟨g, i, none⟩ := fun i => World.cell?_of_block (a := ⟨g, i, none⟩) (k.block g h.gz g1 g2)
  exact ⟨h.core.kept2 k c1 c2, ⟨(eM 0).trans h.mem.cb, (eM 1).trans h.mem.ch, fun i hi => (eg i).trans (h.mem.by' i hi), h.mem.rg, fun i => (World.frozen?_of_block (a := ⟨g, i, none⟩) (k.block g h.gz g1 g2)).trans (h.mem.fz i), h.mem.nc, h.mem.nb, h.mem.hb⟩, h.cM, h.cg, h.Mg, Nat.lt_of_lt_of_le h.gz k.size⟩
/-- the two cores and their memories -/
structure Twin (wr : World) (c d M M' g g' N cap cap' : Nat) (hole : Int) (R : Nat → Int) (pc : Int) (f : Nat → Int) : Prop where
  one : St wr c M g N cap hole R pc f
  two : St wr d M' g' N cap' hole R pc f
  cd : c ≠ d
  cg : c ≠ g'
  dg : d ≠ g
  Md : M ≠ d
  Mg : M ≠ g'
  Mc : M' ≠ c
  Mg' : M' ≠ g
  gg : g ≠ g'
theorem Twin.drew {wr : World} {c d M M' g g' N cap cap' : Nat} {hole : Int} {R : Nat → Int} {pc : Int} {f : Nat → Int} (h : Twin wr c d M M' g g' N cap cap' hole R pc f) : Twin wr.drew c d M M' g g' N cap cap' hole R pc f :=
  ⟨h.one.none ⟨rfl, rfl, rfl, Nat.le_refl _, fun _ _ _ => rfl⟩, h.two.none ⟨rfl, rfl, rfl, Nat.le_refl _, fun _ _ _ => rfl⟩, h.cd, h.cg, h.dg, h.Md, h.Mg, h.Mc, h.Mg', h.gg⟩
end Ss

set_option maxRecDepth 100000 in
set_option maxHeartbeats 4000000 in
theorem steps_many (lv rv : Value) (m n : Nat) (zs : Nat → Int) (hole : Int) (w : World) (hl : InsRow w lv m) (hv : RegsAt w rv n zs) (hn2 : (n : Int) ≤ 9223372036854775807) (hm2 : (m : Int) ≤ 9223372036854775807) (hx : 100 < m ∨ 16 < n) : Calls Try.prog 17 #[lv, rv, .int .i64 hole] w fun e w' => e = .returned (.bool true) ∧ Below w.heap.size w w' := by
  obtain ⟨ao, cap, rfl, -, -, -⟩ := hv
  obtain ⟨al, capl, rfl, -⟩ := hl
  by_cases h1 : 100 < m
  · have hmI : decide ((m : Int) > 100) = true := by simp; omega
    have hmI2 : (100 : Int) < (m : Int) := by omega
    go_enter Try.func17, Try.ntmps17
    go_wp2_with fail
    refine (fit09_any _).mono ?_
    rintro e w1 ⟨rfl, hb1⟩
    have HB := Lib.hid hb1
    clear hb1
    go_wp2_with fail
    go_ret
    exact ⟨rfl, HB.out⟩
  · have hmI : decide ((m : Int) > 100) = false := by simp; omega
    have hmI2 : ¬ (100 : Int) < (m : Int) := by omega
    have hnI : decide ((n : Int) > 16) = true := by simp; omega
    have hnI2 : (16 : Int) < (n : Int) := by omega
    go_enter Try.func17, Try.ntmps17
    go_wp2_with fail
    refine (fit09_any _).mono ?_
    rintro e w1 ⟨rfl, hb1⟩
    have HB := Lib.hid hb1
    clear hb1
    go_wp2_with fail
    go_ret
    exact ⟨rfl, HB.out⟩

set_option maxRecDepth 100000 in
set_option maxHeartbeats 8000000 in
theorem steps_all (lv rv : Value) (m n : Nat) (zs : Nat → Int) (hole : Int) (w : World) (hl : InsRow w lv m) (hv : RegsAt w rv n zs) (hm : m ≤ 100) (hn : n ≤ 16) : Calls Try.prog 17 #[lv, rv, .int .i64 hole] w fun e w' => e = .returned (.bool true) ∧ Below w.heap.size w w' := by
  have HV := Lib.hid hv
  obtain ⟨ao, cap, rfl, -, -, -⟩ := hv
  obtain ⟨al, capl, rfl, hrow⟩ := hl
  have HROW := Lib.hid hrow
  obtain ⟨i0, hi, hz0, hz1, hz2⟩ := info_parts info5
  have hmI : decide ((m : Int) > 100) = false := by simp; omega
  have hmI2 : ¬ (100 : Int) < (m : Int) := by omega
  have hnI : decide ((n : Int) > 16) = false := by simp; omega
  have hnI2 : ¬ (16 : Int) < (n : Int) := by omega
  clear hrow
  go_enter Try.func17, Try.ntmps17
  go_wp2_with fail
  refine (fit09_any _).mono ?_
  rintro e w1 ⟨rfl, hb1⟩
  have HB1 := Lib.hid hb1
  clear hb1
  go_wp2_with fail
  go_loopw [7, 28] (fun s7 s28 wr => ∃ k : Nat, k ≤ m ∧ s28 = .int .i64 k ∧ Ss.SL w k s7 wr) (fun _ s28 _ => m - (intOf s28).toNat)
  case atStart => exact ⟨0, by omega, rfl, [], World.ownsRow_nil _ _ _ _, Byted.nil, HB1.out⟩
  case round =>
    obtain ⟨k, hk, rfl, hL⟩ := hrel
    by_cases hlt : k < m
    · obtain ⟨ys, hown, hys, hbl⟩ := hL
      obtain ⟨a, rfl, hab, hcells⟩ := HROW.out (by omega)
      obtain ⟨x0, x1, x2, x3, x4, q0, q1, q2, q3, q4⟩ := hcells k hlt
      have tr : ∀ (p : Addr) (v : Value), p.block = a.block → w.cell? p = some v → wr.cell? p = some v := fun p v hp h => (World.cell?_of_block (a := p) (by rw [hp]; exact hbl.block _ hab)).trans h
      replace q0 := tr _ _ (add_block _ _) q0
      replace q1 : wr.cell? ⟨(a.add (k * 5)).block, (a.add (k * 5)).off + 1, none⟩ = some (.int .i64 x1) := tr _ _ (add_block _ _) q1
      replace q2 : wr.cell? ⟨(a.add (k * 5)).block, (a.add (k * 5)).off + 2, none⟩ = some (.int .i64 x2) := tr _ _ (add_block _ _) q2
      replace q3 : wr.cell? ⟨(a.add (k * 5)).block, (a.add (k * 5)).off + 3, none⟩ = some (.int .i64 x3) := tr _ _ (add_block _ _) q3
      replace q4 : wr.cell? ⟨(a.add (k * 5)).block, (a.add (k * 5)).off + 4, none⟩ = some (.int .i32 x4) := tr _ _ (add_block _ _) q4
      have HOWN := Lib.hid hown
      have HBL := Lib.hid hbl
      have hkI : (k : Int) < (m : Int) := by omega
      obtain ⟨A', hA⟩ : ∃ a, bits .and .i64 x1 15 = a := ⟨_, rfl⟩
      obtain ⟨B', hB⟩ : ∃ a, bits .and .i64 x2 15 = a := ⟨_, rfl⟩
      obtain ⟨C', hC⟩ : ∃ a, bits .and .i64 x3 15 = a := ⟨_, rfl⟩
      clear tr hcells hown hbl
      go_wp2_with fail
      refine (enc_any x0 A' B' C' x4 _).mono ?_
      rintro e w3 ⟨rfl, hE⟩
      have hsz1 : (wr.alloc (insO x0 A' B' C' x4)).heap.size + 1 = wr.heap.size + 1 + 1 := by simp
      rw [hsz1] at hE ⊢
      have hal := World.grownBy_alloc wr (insO x0 A' B' C' x4) none
      have hg3 := hal.trans hE.env
      have hown3 := HOWN.out.kept hg3 (by cases hq : u7.ownBlock <;> simp)
      have HO3 := Lib.hid hown3
      have hz3 : w.heap.size ≤ w3.heap.size := Nat.le_trans HBL.out.size hg3.size
      have hnews : ∀ j u, (bys (encL x0 A' B' C' x4))[j]? = some u → w3.cell? ((⟨wr.heap.size + 1 + 1, 0, none⟩ : Addr).add j) = some u := fun j u hj => by
        have hj8 : j < 8 := by
          rcases Nat.lt_or_ge j 8 with q | q
          · exact q
          · rw [List.getElem?_eq_none (by simpa [bys, encL] using q)] at hj; cases hj
        have hadd : (⟨wr.heap.size + 1 + 1, 0, none⟩ : Addr).add j = ⟨wr.heap.size + 1 + 1, j, none⟩ := by unfold Addr.add; split <;> simp_all
        rw [hadd, hE.c j hj8]
        rw [List.getElem?_map, List.getElem?_eq_getElem (by simpa [encL] using hj8), encL_at _ _ _ _ _ j hj8] at hj
        exact hj
      have HNW := Lib.hid hnews
      have HG3 := Lib.hid hg3
      clear hsz1 hE hal hg3 hown3 hnews q0 q1 q2 q3 q4
      have hone : ∀ u ∈ bys (encL x0 A' B' C' x4), u.oneCell' = true := fun u hu => by
        obtain ⟨_, _, rfl⟩ := List.mem_map.1 hu
        rfl
      have HONE := Lib.hid hone
      clear hone
      go_wp2_with (first
        | (at_builtin; refine wpList_append_own _ rfl (.tmp 44) (.tmp 46) 48 rfl w.heap.size 5 i0 (.int .u8 0) 1 1 Try.underlying48 hi hz0 hz1 hz2 rfl (by decide) _ _ _ rfl HO3.out ⟨wr.heap.size + 1 + 1, 0, none⟩ 8 8 (bys (encL x0 A' B' C' x4)) rfl rfl HNW.out HONE.out (by unfold maxLen; omega) (by omega) hz3 ?_; intro v' w4 hown4 hg4 hnil4; have HO4 := Lib.hid hown4; have HG4 := Lib.hid hg4; clear hown4 hg4 hnil4)
        | fail)
      go_roundw
      case rel =>
        refine ⟨k + 1, by omega, by go_num, ys ++ encL x0 A' B' C' x4, ?_, Byted.append hys (encL_bd _ _ _ _ _), ?_⟩
        · have := HO4.out
          rw [← List.map_append] at this
          exact this
        · exact (HBL.out.trans (b := wr) (c := w3) ⟨HG3.out.os, HG3.out.tape, HG3.out.output, HG3.out.size, fun i hi => HG3.out.block i (Nat.lt_of_lt_of_le hi HBL.out.size) (by simp)⟩).grown HG4.out hz3 (fun q hq => (own_block HO3.out q hq))
      case measure => simp [intOf]; omega
    · obtain rfl : k = m := by omega
      obtain ⟨wx, hwx⟩ : ∃ wx : World, wx = wr := ⟨_, rfl⟩
      subst hwx
      obtain ⟨ys, hown, hys, hbl⟩ := hL
      obtain ⟨r, hr⟩ : ∃ r, hole.tmod 2000 = r := ⟨_, rfl⟩
      have hrb : -2000 < r ∧ r < 2000 := by
        have h1 := Int.tmod_lt_of_pos hole (show (0 : Int) < 2000 by decide)
        have h2 := Int.tmod_lt_of_pos (-hole) (show (0 : Int) < 2000 by decide)
        rw [Int.neg_tmod] at h2
        omega
      obtain ⟨s, hs⟩ : ∃ s, IntKind.i64.wrap (r + 2000) = s := ⟨_, rfl⟩
      have hse : s = r + 2000 := by rw [← hs, IntKind.wrap_i64]; omega
      obtain ⟨H, hH⟩ : ∃ H, s.tmod 2000 = H := ⟨_, rfl⟩
      have hHb : 0 ≤ H ∧ H < 2000 := by
        rw [← hH, Int.tmod_eq_emod_of_nonneg (by omega)]
        omega
      clear hrb hse
      obtain ⟨v1, wa, hr1, hown1, hg1⟩ := append_make (k := 512) hown (by omega) (by omega) hbl.size 48
      have hba := hbl.grown hg1 hbl.size (fun q hq => own_block hown q hq)
      obtain ⟨ys1, hys1⟩ : ∃ ys1, ys ++ List.replicate 512 0 = ys1 := ⟨_, rfl⟩
      have hyb : Byted ys1 := by rw [← hys1]; exact Byted.append hys (Byted.zeros 512)
      have hownA : wa.ownsRow w.heap.size 5 1 v1 (8 * k + 511 + 1) (bys ys1) := by
        have e : bys ys ++ List.replicate 512 (Value.int .u8 0) = bys ys1 := by rw [← hys1]; simp [bys]
        rw [e] at hown1
        exact hown1
      obtain ⟨g, cap1, hv1, hgb, hgl, hcap1, hm1⟩ := mem_own (hole := H) hownA hyb (by omega) (by omega)
      have hownB := hownA.alloc (.cells #[v1, .int .i64 H] 54)
      have hszb : (wa.alloc (.cells #[v1, .int .i64 H] 54)).heap.size = wa.heap.size + 1 := by simp
      obtain ⟨wb, hwb⟩ : ∃ wb, wa.alloc (.cells #[v1, .int .i64 H] 54) = wb := ⟨_, rfl⟩
      have hbb : Below w.heap.size w wb := by rw [← hwb]; exact hba.alloc hba.size _
      rw [hwb] at hownB hszb hm1
      have hcsB : ∀ j u, (bys ys1)[j]? = some u → wb.cell? ((⟨g, 0, none⟩ : Addr).add j) = some u := hownB.cells (by rw [hv1]; rfl)
      have hone : ∀ u ∈ bys ys1, u.oneCell' = true := fun u hu => by
        obtain ⟨_, _, rfl⟩ := List.mem_map.1 hu
        rfl
      have hlen1 : (bys ys1).length = 8 * k + 512 := by have := hownA.1; simpa using this
      obtain ⟨v2, wc, hr2, hown2, hg2, _⟩ := run_append_own (P := Try.prog) wb wb.heap.size 48 48 5 i0 (.int .u8 0) 1 1 Try.underlying48 hi hz0 hz1 hz2 rfl (by decide) (.slice none 0 0) 0 [] (World.ownsRow_nil _ _ _ _) ⟨g, 0, none⟩ (8 * k + 512) cap1 (bys ys1) (by rw [hlen1]; omega) hcsB hone (by unfold maxLen; omega) (by omega) (Nat.le_refl _)
      have hownC : wc.ownsRow wb.heap.size 5 1 v2 (8 * k + 511 + 1) (bys ys1) := by
        rw [Nat.zero_add, List.nil_append] at hown2
        exact hown2
      have hg2' : wb.grownBy wc none := hg2
      obtain ⟨g2, cap2, hv2, hgb2, hgl2, hcap2, hm2⟩ := mem_own (hole := H) hownC hyb (by omega) (by omega)
      have hszd : (wc.alloc (.cells #[v2, .int .i64 H] 54)).heap.size = wc.heap.size + 1 := by simp
      have hm1d := (hm1.grown hg2' (by simp) (by simp) (by omega)).grown (World.grownBy_alloc wc (.cells #[v2, .int .i64 H] 54) none) (by simp) (by simp) (by omega)
      obtain ⟨wd, hwd⟩ : ∃ wd, wc.alloc (.cells #[v2, .int .i64 H] 54) = wd := ⟨_, rfl⟩
      have hbd : Below w.heap.size w wd := by rw [← hwd]; exact ((hbb.trans ⟨hg2'.os, hg2'.tape, hg2'.output, hg2'.size, fun i hi => hg2'.block i (Nat.lt_of_lt_of_le hi hbb.size) (by simp)⟩).alloc (Nat.le_trans hbb.size hg2'.size) _)
      rw [hwd] at hszd hm2 hm1d
      have hzcw := hg2'.size
      generalize (fun i => ys1.getD i 0) = f at *
      obtain ⟨N, hN⟩ : ∃ N, 8 * k + 511 + 1 = N := ⟨_, rfl⟩
      rw [hN] at hm1d hm2 hv1 hv2
      -- the cores
      have hszf : ((wd.alloc (.cells (coreV (fun _ => 0) 0) 57)).alloc (.cells (coreV (fun _ => 0) 0) 58)).heap.size = wd.heap.size + 2 := by simp
      have hsze : (wd.alloc (.cells (coreV (fun _ => 0) 0) 57)).heap.size = wd.heap.size + 1 := by simp
      have hgf : wd.grownBy ((wd.alloc (.cells (coreV (fun _ => 0) 0) 57)).alloc (.cells (coreV (fun _ => 0) 0) 58)) none := (World.grownBy_alloc _ _ _).trans (World.grownBy_alloc _ _ _)
      have hcf := (core_new wd 0 57 (by omega)).grown (World.grownBy_alloc _ (.cells (coreV (fun _ => 0) 0) 58) none) (by simp)
      have hdf := core_new (wd.alloc (.cells (coreV (fun _ => 0) 0) 57)) 0 58 (by omega)
      rw [hsze] at hdf
      have hbf := (hbd.alloc hbd.size (.cells (coreV (fun _ => 0) 0) 57)).alloc (by rw [hsze]; exact Nat.le_succ_of_le hbd.size) (.cells (coreV (fun _ => 0) 0) 58)
      have hm1f := hm1d.grown hgf (by simp) (by simp) (by omega)
      have hm2f := hm2.grown hgf (by simp) (by simp) (by omega)
      have hrgf := HV.out.below hbf (Nat.le_refl _)
      have hcrA := fun ty => copy_regs hcf hrgf hn ty
      obtain ⟨w5, hw5⟩ : ∃ w5, ((wd.alloc (.cells (coreV (fun _ => 0) 0) 57)).alloc (.cells (coreV (fun _ => 0) 0) 58)).setCells wd.heap.size 0 (((List.range n).map zs).map (Value.int .u64)) = w5 := ⟨_, rfl⟩
      rw [hw5] at hcrA
      have hrunA := fun ty => (hcrA ty).1
      obtain ⟨_, hc5, hg5⟩ := hcrA 0
      have hd5 := hdf.grown hg5 (by simp)
      have hb5 := below_grown hbf hg5 hbd.size
      have hm15 := hm1f.grown hg5 (by simp; omega) (by simp; omega) (by omega)
      have hm25 := hm2f.grown hg5 (by simp; omega) (by simp; omega) (by omega)
      have hcrB := fun ty => copy_regs hd5 (HV.out.below hb5 (Nat.le_refl _)) hn ty
      obtain ⟨w6, hw6⟩ : ∃ w6, w5.setCells (wd.heap.size + 1) 0 (((List.range n).map zs).map (Value.int .u64)) = w6 := ⟨_, rfl⟩
      rw [hw6] at hcrB
      have hrunB := fun ty => (hcrB ty).1
      obtain ⟨_, hd6, hg6⟩ := hcrB 0
      have hz5 := hg5.size
      rw [hszf] at hz5
      have hc6 := hc5.grown hg6 (by simp)
      have hb6 := below_grown hb5 hg6 (by have := hbd.size; omega)
      have hm16 := hm15.grown hg6 (by simp; omega) (by simp; omega) (by omega)
      have hm26 := hm25.grown hg6 (by simp; omega) (by simp; omega) (by omega)
      have hz6 := hg6.size
      have hbz := hba.size
      have htw : Ss.Twin w6 wd.heap.size (wd.heap.size + 1) wa.heap.size wc.heap.size g g2 N cap1 cap2 H (layL (fun _ => 0) 0 ((List.range n).map zs)) 0 f :=
        ⟨⟨hc6, hm16, by omega, by omega, by omega, by omega⟩, ⟨hd6, hm26, by omega, by omega, by omega, by omega⟩, by omega, by omega, by omega, by omega, by omega, by omega, by omega, by omega⟩
      generalize layL (fun _ => 0) 0 ((List.range n).map zs) = R at *
      have HTW := Lib.hid htw
      have HB6 := Lib.hid hb6
      have HBD := Lib.hid hbd
      have hza : w.heap.size ≤ wa.heap.size := hbz
      have hzg2 : w.heap.size ≤ g2 := by omega
      have hzd2 : w.heap.size ≤ wd.heap.size := hbd.size
      have hzc2 : wa.heap.size + 1 ≤ wc.heap.size := by rw [← hszb]; exact hzcw
      clear hszd hszf hsze hszb hz5 hz6 hbz hzcw
      clear hown hys hbl hown1 hg1 hba hys1 hyb hownA hm1 hownB hbb hcsB hone hlen1 hown2 hg2 hownC hg2' hm2 hm1d hbd hcf hdf hbf hm1f hm2f hrgf hcrA hw5 hc5 hg5 hd5 hb5 hm15 hm25 hcrB hw6 hd6 hg6 hc6 hb6 hm16 hm26 htw hgf
      have hr1' : (Builtin.append_ #[48, 3] 48 #[u7, .int .i64 512]).run Try.prog wx = .ok (.slice (some ⟨g, 0, none⟩) N cap1) wa := by rw [← hv1]; exact hr1
      have hr2' : (Builtin.append_ #[48, 48] 48 #[.slice none 0 0, .slice (some ⟨g, 0, none⟩) N cap1]).run Try.prog (wa.alloc (.cells #[.slice (some ⟨g, 0, none⟩) N cap1, .int .i64 H] 54)) = .ok (.slice (some ⟨g2, 0, none⟩) N cap2) wc := by
        rw [← hv1, hwb, hv1, ← hv2, ← hN]
        exact hr2
      have hwd' : wc.alloc (.cells #[.slice (some ⟨g2, 0, none⟩) N cap2, .int .i64 H] 54) = wd := by rw [← hv2]; exact hwd
      clear hr1 hr2 hv1 hwb hv2 hwd
      go_wp2_with (first
        | (at_builtin; refine Go.Lib.wpList_append_run _ rfl (.tmp 53) (.const (.int .i64 512)) 48 3 rfl _ (.int .i64 512) rfl rfl _ wa hr1' ?_)
        | (at_builtin; refine Go.Lib.wpList_append_run _ rfl (.const (.slice none 0 0)) (.tmp 61) 48 48 rfl (.slice none 0 0) (.slice (some ⟨g, 0, none⟩) N cap1) rfl rfl _ wc hr2' ?_)
        | fail)
      go_loopw [74] (fun s74 wr => ∃ q : Nat, q ≤ 200 ∧ s74 = .int .i64 q ∧ ∃ R pc f, Ss.Twin wr wd.heap.size (wd.heap.size + 1) wa.heap.size wc.heap.size g g2 N cap1 cap2 H R pc f ∧ Below w.heap.size w wr) (fun s74 _ => 200 - (intOf s74).toNat)
      case atStart => exact ⟨0, by omega, rfl, R, 0, f, HTW.out, HB6.out⟩
      case round =>
        obtain ⟨q, hq, rfl, R', pc, f', hT, hB⟩ := hrel
        by_cases hlt : q < 200
        · obtain ⟨en, R2, pc2, f2, e0, _, h64, h65⟩ := step_alike N H R' pc f' hT.one.core.rb hT.one.core.pb hT.one.mem.rg
          have HS1 := Lib.hid (h64 _ _ _ _ _ hT.one)
          have HS2 := Lib.hid h65
          have HT := Lib.hid hT
          have HB := Lib.hid hB
          have hqI : (q : Int) < 200 := by omega
          have hw5' : IntKind.i64.wrap ((q : Int) + 1) = (q : Int) + 1 := by rw [IntKind.wrap_i64]; omega
          clear h64 h65 hT hB
          go_wp2_with fail
          refine HS1.out.mono ?_
          rintro e w7 ⟨rfl, hS7, hk7⟩
          have ht7 := Ss.St.kept2 HT.out.two hk7 (Ne.symm HT.out.cd) HT.out.dg HT.out.Mc HT.out.Mg' (Ne.symm HT.out.cg) (Ne.symm HT.out.gg)
          have hb7 := below_kept2 HB.out hk7 (by omega) (by omega)
          have HS7 := Lib.hid hS7
          have HC2 := Lib.hid (HS2.out _ _ _ _ _ ht7)
          have HB7 := Lib.hid hb7
          clear hS7 hk7 ht7 hb7
          go_wp2_with fail
          refine HC2.out.mono ?_
          rintro e w8 ⟨rfl, hS8, hk8⟩
          have hs8 := Ss.St.kept2 HS7.out hk8 HT.out.cd HT.out.cg HT.out.Md HT.out.Mg (Ne.symm HT.out.dg) HT.out.gg
          have hb8 := below_kept2 HB7.out hk8 (by omega) (by omega)
          have HT8 := Lib.hid (Ss.Twin.mk hs8 hS8 HT.out.cd HT.out.cg HT.out.dg HT.out.Md HT.out.Mg HT.out.Mc HT.out.Mg' HT.out.gg)
          have HB8 := Lib.hid hb8
          clear hS8 hk8 hs8 hb8
          go_wp2_with fail
          refine steps_reg wd.heap.size (wd.heap.size + 1) wa.heap.size wc.heap.size g g2 N cap1 cap2 H pc2 en R2 f2 w8 HT8.out.one.core HT8.out.two.core HT8.out.one.mem HT8.out.two.mem HT8.out.one.gz HT8.out.two.gz _ rfl rfl rfl rfl rfl rfl rfl _ ?_
          simp only [Act.put, List.setIfInBounds_toArray, List.set_cons_succ, List.set_cons_zero]
          by_cases hen : 1 < en
          · have hd1 : decide (1 < en) = true := by simpa using hen
            go_wp2_with fail
            go_ret
            exact ⟨rfl, HB8.out.drew⟩
          · have hd1 : decide (1 < en) = false := by simpa using hen
            go_wp2_with fail
            go_roundw
            case rel => exact ⟨q + 1, by omega, by go_num, R2, pc2, f2, HT8.out.drew, HB8.out.drew⟩
            case measure => simp [intOf]; omega
        · obtain rfl : q = 200 := by omega
          have HB := Lib.hid hB
          clear hT hB
          go_wp2_with fail
          go_ret
          exact ⟨rfl, HB.out⟩

theorem lawSteps (lv rv : Value) (m n : Nat) (zs : Nat → Int) (hole : Int) (w : World) (hl : InsRow w lv m) (hv : RegsAt w rv n zs) (hn2 : (n : Int) ≤ 9223372036854775807) (hm2 : (m : Int) ≤ 9223372036854775807) : Calls Try.prog 17 #[lv, rv, .int .i64 hole] w fun e w' => e = .returned (.bool true) ∧ Below w.heap.size w w' := by
  by_cases h : m ≤ 100 ∧ n ≤ 16
  · exact steps_all lv rv m n zs hole w hl hv h.1 h.2
  · exact steps_many lv rv m n zs hole w hl hv hn2 hm2 (by omega)
end Go.Proofs.Ytelgmffmekfndaa
