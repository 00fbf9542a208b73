/- The walk of the law PurseTree: the law returns true at every limit and all numbers and changes nothing that existed. Conditions: as each theorem names them. -/
import Derived.Test.YteflfflmedkdiaaOwnSet
import Derived.Test.YteflfflmedkdiaaPurseWays
import Derived.Deep.LoopGhost
import Derived.Deep.RegionHeld3
import Derived.Deep.AppendLies
import Derived.Deep.DrawnRows
set_option linter.unusedVariables false
namespace Go.Proofs.Yteflfflmedkdiaa
open Go.ChangeShapes Go.WideShapes Go.ChangeAt Go.RowKit

theorem info24 : (Try.prog.info? 24).map (fun i => (i.zero, i.size, i.bytes)) = some (some (.agg #[.int .i64 0, .int .i64 0, .int .i64 0]), 3, 24) := by kernel_rfl

theorem lt_of_cell {w : World} {p : Addr} {v : Value} (h : w.cell? p = some v) : p.block < w.heap.size := by
  rcases Nat.lt_or_ge p.block w.heap.size with c | c
  · exact c
  · exfalso
    simp [World.cell?, Array.getElem?_eq_none c] at h

/-- behind k gives -/
structure Tree (b k : Nat) (L : Int) (g cap : Nat) (ps : List Pu) (w0 wr : World) : Prop where
  fam : Fam b wr g cap ps
  len : ps.length = k + 1
  just : AllJust ps
  tot : total ps = L
  bl : Below b w0 wr

theorem tree_start (L : Int) (a0 : 0 ≤ L) (a1 : L ≤ 1073741823) (w : World) : Tree w.heap.size 0 L w.heap.size 1 [⟨L, 0, 0⟩] w (w.alloc (.cells #[.int .i64 L, .int .i64 0, .int .i64 0] 24)) := by
  refine ⟨?_, rfl, ?_, by simp [total], (Below.refl _ _).alloc (Nat.le_refl _) _⟩
  · refine ⟨rfl, .inr ⟨w.heap.size, 1, #[.int .i64 L, .int .i64 0, .int .i64 0], rfl, Nat.le_refl _, heap_alloc_new w _, Nat.le_refl _, by unfold maxLen; omega, rfl, rfl⟩⟩
  · intro p hp
    rw [List.mem_singleton.1 hp]
    exact ⟨by show L ≤ _; omega, Int.le_refl _, Int.le_refl _, by show (0 : Int) + 0 ≤ L; omega⟩

theorem three_new (w : World) (x y z : Value) (t : TypeId) : ∀ j u, [x, y, z][j]? = some u → (w.alloc (.cells #[x, y, z] t)).cell? ((⟨w.heap.size, 0, none⟩ : Addr).add j) = some u := by
  intro j u hj
  rw [add_at, Nat.zero_add]
  match j, hj with
  | 0, hj => simp at hj; subst hj; simp
  | 1, hj => simp at hj; subst hj; simp
  | 2, hj => simp at hj; subst hj; simp

theorem Tree.given {b k : Nat} {L n : Int} {g cap : Nat} {ps : List Pu} {w0 wr : World} {p : Pu} (h : Tree b k L g cap ps w0 wr) (hp : ps[k]? = some p) (o1 o2 o3 : Obj) (hb : b ≤ wr.heap.size) :
    Fam b ((((wr.alloc o1).setCell ⟨g, k * 3 + 2, none⟩ (.int .i64 (p.g + n))).alloc o2).alloc o3) g cap (ps.set k ⟨p.l, p.u, p.g + n⟩) ∧ Below b w0 ((((wr.alloc o1).setCell ⟨g, k * 3 + 2, none⟩ (.int .i64 (p.g + n))).alloc o2).alloc o3) := by
  rw [Nat.mul_comm]
  refine ⟨(((h.fam.alloc o1).set_g hp (p.g + n)).alloc o2).alloc o3, ?_⟩
  have hg := (own_lt h.fam).1
  refine Below.alloc (Below.alloc (Below.setCell (h.bl.alloc hb o1) hg _) ?_ o2) ?_ o3
  · simp; omega
  · simp; omega

theorem Tree.own {b k : Nat} {g cap : Nat} {ps : List Pu} {w : World} (h : Fam b w g cap ps) (hl : ps.length = k + 1) : w.ownsRow b 24 3 (.slice (some ⟨g, 0, none⟩) (k + 1) cap) (k + 1) (flat ps) := by
  unfold Fam at h; rw [hl] at h; exact h

theorem Tree.step {b k : Nat} {L n : Int} {g cap g' cap' : Nat} {ps : List Pu} {w0 wr w3 : World} {p : Pu} (h : Tree b k L g cap ps w0 wr) (hp : ps[k]? = some p) (h0 : 0 ≤ n) (hn : n ≤ p.l - p.u - p.g)
    (ho : w3.ownsRow b 24 3 (.slice (some ⟨g', 0, none⟩) (k + 1 + 1) cap') (k + 1 + 1) (flat (ps.set k ⟨p.l, p.u, p.g + n⟩) ++ [.int .i64 n, .int .i64 0, .int .i64 0])) (hbl : Below b w0 w3) :
    Tree b (k + 1) L g' cap' (ps.set k ⟨p.l, p.u, p.g + n⟩ ++ [⟨n, 0, 0⟩]) w0 w3 := by
  obtain ⟨j1, j2, j3, j4⟩ := h.just.at' hp
  have hlen : (ps.set k ⟨p.l, p.u, p.g + n⟩ ++ [(⟨n, 0, 0⟩ : Pu)]).length = k + 1 + 1 := by simp [h.len]
  refine ⟨?_, hlen, ?_, ?_, hbl⟩
  · unfold Fam
    rw [hlen, flat_append]
    exact ho
  · refine AllJust.append (h.just.set ⟨j1, j2, ?_, ?_⟩) ⟨?_, Int.le_refl _, Int.le_refl _, ?_⟩
    · show 0 ≤ p.g + n; omega
    · show p.u + (p.g + n) ≤ p.l; omega
    · show n ≤ _; omega
    · show (0 : Int) + 0 ≤ n; omega
  · rw [total_append, total_set ps k p _ hp, h.tot]
    simp [total]
    omega

theorem Tree.took {b k q : Nat} {L n : Int} {g cap : Nat} {ps : List Pu} {w0 wr : World} {p : Pu} (h : Tree b k L g cap ps w0 wr) (hp : ps[q]? = some p) (h0 : 0 ≤ n) (hn : n ≤ p.l - p.u - p.g) (o1 o2 : Obj) (hb : b ≤ wr.heap.size) :
    Tree b k L g cap (ps.set q ⟨p.l, p.u + n, p.g⟩) w0 ((((wr.alloc o1).setCell ⟨g, q * 3 + 1, none⟩ (.int .i64 (p.u + n)))).alloc o2) := by
  obtain ⟨j1, j2, j3, j4⟩ := h.just.at' hp
  rw [Nat.mul_comm]
  refine ⟨((h.fam.alloc o1).set_u hp (p.u + n)).alloc o2, by rw [List.length_set]; exact h.len, h.just.set ⟨j1, ?_, j3, ?_⟩, ?_, ?_⟩
  · show 0 ≤ p.u + n; omega
  · show p.u + n + p.g ≤ p.l; omega
  · rw [total_set ps q p _ hp, h.tot]
    show L - (p.l - p.g) + (p.l - p.g) = L
    omega
  · have hg := (own_lt h.fam).1
    refine Below.alloc (Below.setCell (h.bl.alloc hb o1) hg _) ?_ o2
    simp; omega

theorem Tree.below {b k : Nat} {L : Int} {g cap : Nat} {ps : List Pu} {w0 wr w' : World} (h : Tree b k L g cap ps w0 wr) (hb : Below wr.heap.size wr w') (hz : b ≤ wr.heap.size) : Tree b k L g cap ps w0 w' :=
  ⟨World.ownsRow.kept (row := none) h.fam ⟨hb.os, hb.tape, hb.output, hb.size, fun i hi _ => hb.block i hi⟩ (.inr (by simp [Value.ownBlock])), h.len, h.just, h.tot, h.bl.trans (hb.mono hz)⟩

theorem total_nonneg : ∀ ps : List Pu, AllJust ps → 0 ≤ total ps
  | [], _ => Int.le_refl _
  | p :: ps, h => by
    have h1 := total_nonneg ps (fun q hq => h q (List.mem_cons_of_mem _ hq))
    obtain ⟨j1, j2, j3, j4⟩ := h p List.mem_cons_self
    simp only [total]
    omega
theorem total_take {ps : List Pu} (h : AllJust ps) (i : Nat) : 0 ≤ total (ps.take i) ∧ total (ps.take i) ≤ total ps := by
  have h1 := total_nonneg (ps.take i) (fun q hq => h q (List.mem_of_mem_take hq))
  have h2 := total_nonneg (ps.drop i) (fun q hq => h q (List.mem_of_mem_drop hq))
  have h3 := total_append (ps.take i) (ps.drop i)
  rw [List.take_append_drop] at h3
  omega
theorem total_next {ps : List Pu} {i : Nat} {p : Pu} (hp : ps[i]? = some p) : total (ps.take (i + 1)) = total (ps.take i) + (p.u + (p.l - p.u - p.g)) := by
  rw [List.take_add_one, hp, Option.toList_some, total_append]
  simp [total]

set_option maxRecDepth 100000 in
set_option maxHeartbeats 4000000 in
theorem lawTree_some (l0 : Int) (gao tao : Option Addr) (gm gc tm tc : Nat) (gs ts : Nat → Int) (hg30 : gm ≤ 30) (ht60 : tm ≤ 60) (w : World)
    (hga : 0 < gm → ∃ ga, gao = some ga ∧ ∀ i, i < gm → w.cell? (ga.add i) = some (.int .i64 (gs i))) (hta : 0 < tm → ∃ ta, tao = some ta ∧ ∀ i, i < tm → w.cell? (ta.add i) = some (.int .i64 (ts i))) :
    Calls Try.prog 4 #[.int .i64 l0, .slice gao gm gc, .slice tao tm tc] w fun e w' => e = .returned (.bool true) ∧ Below w.heap.size w w' := by
  obtain ⟨L, hl', a0, a1⟩ := and_mask l0 1073741823 (by omega)
  have hl : bits .and .i64 l0 1073741823 = L := hl'
  clear hl'
  have a1 : L ≤ 1073741823 := a1
  have hg31 : ¬ (30 : Int) < (gm : Int) := by omega
  have ht61 : ¬ (60 : Int) < (tm : Int) := by omega
  obtain ⟨i0, hi, hz0, hz1, hz2'⟩ := info_parts info24
  go_enter Try.func4, Try.ntmps4
  go_wp2_with fail
  refine (fit_any _).mono ?_
  rintro e w1 ⟨rfl, hb1⟩
  go_wp2_with fail
  have hs := tree_start L a0 a1 w1
  have HS := Lib.hid hs
  clear hs
  go_loopw [7, 38] (fun s7 s38 wr => ∃ (k g cap : Nat) (ps : List Pu), k ≤ gm ∧ s38 = .int .i64 k ∧ s7 = .slice (some ⟨g, 0, none⟩) (k + 1) cap ∧ Tree w1.heap.size k L g cap ps w1 wr) (fun _ s38 _ => gm - (intOf s38).toNat)
  case atStart => exact ⟨0, _, _, _, by omega, rfl, rfl, HS.out⟩
  case round =>
    obtain ⟨k, g, cap, ps, hk, rfl, rfl, hr⟩ := hrel
    by_cases hkg : k < gm
    · obtain ⟨G, hG', G0, G1'⟩ := and_mask (gs k) 1073741823 (by omega)
      have hG : bits .and .i64 (gs k) 1073741823 = G := hG'
      have G1 : G ≤ 1073741823 := G1'
      clear hG' G1'
      obtain ⟨ga, rfl, hgs⟩ := hga (by omega)
      have hc := hgs k hkg
      have hlc := lt_of_cell hc
      have hcw := (hr.bl.cell (p := ga.add k) (Nat.lt_of_lt_of_le hlc hb1.size)).trans ((hb1.cell (p := ga.add k) hlc).trans hc)
      clear hlc hc
      obtain ⟨p, hp⟩ : ∃ p, ps[k]? = some p := ⟨_, List.getElem?_eq_getElem (by have := hr.len; omega)⟩
      have hj := hr.just.at' hp
      have hat : At wr g (k * 3) p.l p.u p.g := by rw [Nat.mul_comm]; exact hr.fam.at' hp
      have hgive := fun (o : Obj) (n : Int) (h0 : 0 ≤ n) (hn : n ≤ p.l - p.u - p.g) => give_ok g (k * 3) p.l p.u p.g n (wr.alloc o) (by rw [Nat.mul_comm]; exact (hr.fam.alloc o).at' hp) hj h0 hn
      have HGIVE := Lib.hid hgive
      obtain ⟨j1, j2, j3, j4⟩ := hj
      have hleft : 0 ≤ p.l - p.u - p.g := by omega
      clear hgive
      obtain ⟨ab, al, au, ag, afl, afu, afg⟩ := hat
      have hw1 : IntKind.i64.wrap ((k : Int) + 1 - 1) = k := by rw [IntKind.wrap_i64]; omega
      have hkI : (0 : Int) ≤ (k : Int) := by omega
      have hkJ : (k : Int) < (k : Int) + 1 := by omega
      have hlt := left_any p.l p.u p.g ⟨j1, j2, j3, j4⟩
      have HLT := Lib.hid hlt
      have HR := Lib.hid hr
      clear hlt hr
      have HP := Lib.hid hp
      have hbz := HR.out.bl.size
      have HB := Lib.hid hbz
      have hgb := (own_lt HR.out.fam).1
      have HGB := Lib.hid hgb
      clear hp hgb
      by_cases hmn : G ≤ p.l - p.u - p.g
      · go_wp2_with fail
        refine (HLT.out _).mono ?_
        rintro e w2 ⟨rfl, rfl⟩
        go_wp2_with fail
        refine (HGIVE.out _ _ (by omega) (by omega)).mono ?_
        rintro e w2 ⟨rfl, hw2⟩
        obtain ⟨hf2, hb2⟩ := HR.out.given (n := G) HP.out (puc p.l p.u p.g) (puc G 0 0) (puc p.l p.u p.g) HB.out
        rw [hw2] at hf2 hb2
        have hown := Tree.own (k := k) hf2 (by simp [HR.out.len])
        have HO := Lib.hid hown
        have hz2 := hb2.size
        clear hw2 hf2 hown
        go_wp2_with (first
          | (at_builtin; refine wpList_append_own_at _ rfl (.tmp 62) (.tmp 64) 28 rfl w1.heap.size 24 i0 (.agg #[.int .i64 0, .int .i64 0, .int .i64 0]) 3 24 Try.underlying28 hi hz0 hz1 hz2' rfl (by decide) _ _ _ rfl ((HO.out.alloc _).alloc _) ⟨w2.heap.size + 1, 0, none⟩ 1 1 [.int .i64 G, .int .i64 0, .int .i64 0] rfl rfl (by have := three_new (w2.alloc (.cells #[.int .i64 G, .int .i64 0, .int .i64 0] 24)) (.int .i64 G) (.int .i64 0) (.int .i64 0) 24; simpa using this) (by simp [Value.oneCell']) (by unfold maxLen; omega) (by omega) (by simp; omega) ?_; intro v' w3 hown' hgrow hnil hat; obtain ⟨g', cap', rfl, hg', hg2, hg3, hg4⟩ := own_form hown'; have HO3 := Lib.hid hown'; have HG := Lib.hid hgrow; clear hown' hgrow hnil hat)
          | fail)
        have hb3 : Below w1.heap.size w1 w3 := Below.grown (Below.alloc (Below.alloc hb2 (by omega) _) (by simp; omega) _) HG.out (by simp; omega) (by intro j hj; have e : some g = some j := hj; cases e; exact HGB.out)
        have hr3 := Tree.step HR.out HP.out (n := G) (by omega) (by omega) HO3.out hb3
        have HR3 := Lib.hid hr3
        clear hr3 hb3 hb2
        go_roundw
        case rel => exact ⟨k + 1, _, _, _, by omega, by go_num, rfl, HR3.out⟩
        case measure => simp [intOf]; omega
      · go_wp2_with fail
        refine (HLT.out _).mono ?_
        rintro e w2 ⟨rfl, rfl⟩
        go_wp2_with fail
        refine (HGIVE.out _ _ (by omega) (by omega)).mono ?_
        rintro e w2 ⟨rfl, hw2⟩
        obtain ⟨hf2, hb2⟩ := HR.out.given (n := (p.l - p.u - p.g)) HP.out (puc p.l p.u p.g) (puc (p.l - p.u - p.g) 0 0) (puc p.l p.u p.g) HB.out
        rw [hw2] at hf2 hb2
        have hown := Tree.own (k := k) hf2 (by simp [HR.out.len])
        have HO := Lib.hid hown
        have hz2 := hb2.size
        clear hw2 hf2 hown
        go_wp2_with (first
          | (at_builtin; refine wpList_append_own_at _ rfl (.tmp 62) (.tmp 64) 28 rfl w1.heap.size 24 i0 (.agg #[.int .i64 0, .int .i64 0, .int .i64 0]) 3 24 Try.underlying28 hi hz0 hz1 hz2' rfl (by decide) _ _ _ rfl ((HO.out.alloc _).alloc _) ⟨w2.heap.size + 1, 0, none⟩ 1 1 [.int .i64 (p.l - p.u - p.g), .int .i64 0, .int .i64 0] rfl rfl (by have := three_new (w2.alloc (.cells #[.int .i64 (p.l - p.u - p.g), .int .i64 0, .int .i64 0] 24)) (.int .i64 (p.l - p.u - p.g)) (.int .i64 0) (.int .i64 0) 24; simpa using this) (by simp [Value.oneCell']) (by unfold maxLen; omega) (by omega) (by simp; omega) ?_; intro v' w3 hown' hgrow hnil hat; obtain ⟨g', cap', rfl, hg', hg2, hg3, hg4⟩ := own_form hown'; have HO3 := Lib.hid hown'; have HG := Lib.hid hgrow; clear hown' hgrow hnil hat)
          | fail)
        have hb3 : Below w1.heap.size w1 w3 := Below.grown (Below.alloc (Below.alloc hb2 (by omega) _) (by simp; omega) _) HG.out (by simp; omega) (by intro j hj; have e : some g = some j := hj; cases e; exact HGB.out)
        have hr3 := Tree.step HR.out HP.out (n := (p.l - p.u - p.g)) (by omega) (by omega) HO3.out hb3
        have HR3 := Lib.hid hr3
        clear hr3 hb3 hb2
        go_roundw
        case rel => exact ⟨k + 1, _, _, _, by omega, by go_num, rfl, HR3.out⟩
        case measure => simp [intOf]; omega
    · obtain rfl : k = gm := by omega
      have HR := Lib.hid hr
      clear hr
      go_wp2_with fail
      go_loopw [69] (fun s69 wr => ∃ (j : Nat) (ps : List Pu), j ≤ tm ∧ s69 = .int .i64 j ∧ Tree w1.heap.size k L g cap ps w1 wr) (fun s69 _ => tm - (intOf s69).toNat)
      case atStart => exact ⟨0, ps, by omega, rfl, HR.out⟩
      case round =>
        obtain ⟨j, ps, hj, rfl, hr⟩ := hrel
        by_cases hjt : j < tm
        · obtain ⟨ta, rfl, hts⟩ := hta (by omega)
          have hc := hts j hjt
          have hlc := lt_of_cell hc
          have hcw := (hr.bl.cell (p := ta.add j) (Nat.lt_of_lt_of_le hlc hb1.size)).trans ((hb1.cell (p := ta.add j) hlc).trans hc)
          clear hlc hc
          obtain ⟨q, hq, hqk⟩ : ∃ q : Nat, q = j % (k + 1) ∧ q < k + 1 := ⟨_, rfl, Nat.mod_lt _ (by omega)⟩
          have hq1 : ((j : Int)).tmod ((k : Int) + 1) = (q : Int) := by rw [Int.tmod_eq_emod_of_nonneg (by omega), hq]; rfl
          have hq2 : ((j : Int)) % ((k : Int) + 1) = (q : Int) := by rw [hq]; rfl
          have hq3 : (0 : Int) ≤ (q : Int) := by omega
          have hq4 : (q : Int) < (k : Int) + 1 := by omega
          have hk1 : ¬ ((k : Int) + 1 = 0) := by omega
          clear hq
          obtain ⟨p, hp⟩ : ∃ p, ps[q]? = some p := ⟨_, List.getElem?_eq_getElem (by have := hr.len; omega)⟩
          have hjp := hr.just.at' hp
          have hat : At wr g (q * 3) p.l p.u p.g := by rw [Nat.mul_comm]; exact hr.fam.at' hp
          have hata : ∀ o, At (wr.alloc o) g (q * 3) p.l p.u p.g := fun o => by rw [Nat.mul_comm]; exact (hr.fam.alloc o).at' hp
          obtain ⟨ab, al, au, ag, afl, afu, afg⟩ := hat
          have hlt := left_any p.l p.u p.g hjp
          have HLT := Lib.hid hlt
          have HP := Lib.hid hp
          have HR2 := Lib.hid hr
          have hbz := hr.bl.size
          generalize htj : ts j = n at *
          by_cases hn0 : n < 0
          · have hE := fun (o : Obj) => take_err g (q * 3) p.l p.u p.g n (wr.alloc o) (hata o) hjp (.inl hn0)
            rw [if_pos hn0] at hE
            have HE := Lib.hid hE
            clear hlt hp hr hE hata hjp htj
            go_wp2_with fail
            refine (HLT.out _).mono ?_
            rintro e w2 ⟨rfl, rfl⟩
            go_wp2_with fail
            refine (HE.out _).mono ?_
            rintro e w3 ⟨rfl, hw3⟩
            have hr3 := Tree.below HR2.out (((Below.refl _ _).alloc (Nat.le_refl _) _).trans (hw3.mono (by simp))) hbz
            have HT := Lib.hid hr3
            clear hr3 hw3
            go_wp2_with fail
            go_roundw
            case rel => exact ⟨j + 1, _, by omega, by go_num, HT.out⟩
            case measure => simp [intOf]; omega
          · by_cases hn1 : n ≤ p.l - p.u - p.g
            · have hE := fun (o : Obj) => take_ok g (q * 3) p.l p.u p.g n (wr.alloc o) (hata o) hjp (by omega) hn1
              have HE := Lib.hid hE
              clear hlt hp hr hE hata hjp htj
              go_wp2_with fail
              refine (HLT.out _).mono ?_
              rintro e w2 ⟨rfl, rfl⟩
              go_wp2_with fail
              refine (HE.out _).mono ?_
              rintro e w3 ⟨rfl, hw3⟩
              have hr3 := Tree.took HR2.out HP.out (n := n) (by omega) hn1 (puc p.l p.u p.g) (puc p.l p.u p.g) hbz
              rw [hw3] at hr3
              have HT := Lib.hid hr3
              clear hr3 hw3
              go_wp2_with fail
              go_roundw
              case rel => exact ⟨j + 1, _, by omega, by go_num, HT.out⟩
              case measure => simp [intOf]; omega
            · have hE := fun (o : Obj) => take_err g (q * 3) p.l p.u p.g n (wr.alloc o) (hata o) hjp (.inr (by omega))
              rw [if_neg hn0] at hE
              have HE := Lib.hid hE
              clear hlt hp hr hE hata hjp htj
              go_wp2_with fail
              refine (HLT.out _).mono ?_
              rintro e w2 ⟨rfl, rfl⟩
              go_wp2_with fail
              refine (HE.out _).mono ?_
              rintro e w3 ⟨rfl, hw3⟩
              have hr3 := Tree.below HR2.out (((Below.refl _ _).alloc (Nat.le_refl _) _).trans (hw3.mono (by simp))) hbz
              have HT := Lib.hid hr3
              clear hr3 hw3
              go_wp2_with fail
              go_roundw
              case rel => exact ⟨j + 1, _, by omega, by go_num, HT.out⟩
              case measure => simp [intOf]; omega
        · obtain rfl : j = tm := by omega
          have HR2 := Lib.hid hr
          clear hr
          go_wp2_with fail
          go_loopw [18, 100] (fun s18 s100 wr => ∃ (i : Nat), i ≤ k + 1 ∧ s100 = .int .i64 i ∧ s18 = .int .i64 (total (ps.take i)) ∧ Tree w1.heap.size k L g cap ps w1 wr) (fun _ s100 _ => k + 1 - (intOf s100).toNat)
          case atStart => exact ⟨0, by omega, rfl, rfl, HR2.out⟩
          case round =>
            obtain ⟨i, hi', rfl, rfl, hr⟩ := hrel
            by_cases hik : i < k + 1
            · obtain ⟨p, hp⟩ : ∃ p, ps[i]? = some p := ⟨_, List.getElem?_eq_getElem (by have := hr.len; omega)⟩
              have hjp := hr.just.at' hp
              have hat : At wr g (i * 3) p.l p.u p.g := by rw [Nat.mul_comm]; exact hr.fam.at' hp
              obtain ⟨ab, al, au, ag, afl, afu, afg⟩ := hat
              have hlt := left_any p.l p.u p.g hjp
              have hrt := right_yes p.l p.u p.g hjp
              have hnx := total_next hp
              have hb2 := total_take hr.just (i + 1)
              have hb0 := total_take hr.just i
              rw [hr.tot] at hb2 hb0
              rw [hnx] at hb2
              obtain ⟨j1, j2, j3, j4⟩ := hjp
              have hbz := hr.bl.size
              have hI1 : (i : Int) < (k : Int) + 1 := by omega
              have HNX := Lib.hid hnx
              have HLT := Lib.hid hlt
              have HRT := Lib.hid hrt
              have HR3 := Lib.hid hr
              clear hlt hrt hr hp hnx
              have hwa : IntKind.i64.wrap (p.u + (p.l - p.u - p.g)) = p.u + (p.l - p.u - p.g) := by rw [IntKind.wrap_i64]; omega
              generalize total (ps.take i) = S at *
              have hwb : IntKind.i64.wrap (S + (p.u + (p.l - p.u - p.g))) = S + (p.u + (p.l - p.u - p.g)) := by rw [IntKind.wrap_i64]; omega
              go_wp2_with fail
              refine (HRT.out _).mono ?_
              rintro e w2 ⟨rfl, rfl⟩
              go_wp2_with fail
              go_region_held3 (fun w' => w'.cell? ⟨wr.heap.size, 0, none⟩ = some (.int .i64 p.l) ∧ w'.cell? ⟨wr.heap.size, 1, none⟩ = some (.int .i64 p.u) ∧ w'.cell? ⟨wr.heap.size, 2, none⟩ = some (.int .i64 p.g)) (first | (refine ⟨?_, ?_, ?_⟩ <;> (simp; done)) | go_keep) (first | (go_at_call 9; refine (HLT.out _).mono ?_; rintro e w4 ⟨rfl, rfl⟩) | fail)
              go_wp2_with fail
              go_roundw
              case rel => exact ⟨i + 1, by omega, by go_num, by rw [HNX.out], Tree.below HR3.out (Below.drew ((((Below.refl _ _).alloc (Nat.le_refl _) _).alloc (by simp) _).alloc (by simp; omega) _)) hbz⟩
              case measure => simp [intOf]; omega
            · obtain rfl : i = k + 1 := by omega
              have hlen := hr.len
              have htot := hr.tot
              rw [List.take_of_length_le (by omega), htot]
              have hbl := hr.bl
              have HBL := Lib.hid hbl
              clear hr hbl htot hlen
              go_wp2_with fail
              go_ret
              exact ⟨rfl, hb1.trans (HBL.out.mono hb1.size)⟩

theorem lawTree_long (l0 : Int) (gao tao : Option Addr) (gm gc tm tc : Nat) (h : 30 < gm ∨ 60 < tm) (w : World) :
    Calls Try.prog 4 #[.int .i64 l0, .slice gao gm gc, .slice tao tm tc] w fun e w' => e = .returned (.bool true) ∧ Below w.heap.size w w' := by
  by_cases c : 30 < gm
  · have hgI : (30 : Int) < (gm : Int) := by omega
    go_enter Try.func4, Try.ntmps4
    go_wp2_with fail
    refine (fit_any _).mono ?_
    rintro e w1 ⟨rfl, hb1⟩
    go_wp2_with fail
    go_ret
    exact ⟨rfl, hb1⟩
  · have hgI : ¬ (30 : Int) < (gm : Int) := by omega
    have htI : (60 : Int) < (tm : Int) := by omega
    clear h c
    go_enter Try.func4, Try.ntmps4
    go_wp2_with fail
    refine (fit_any _).mono ?_
    rintro e w1 ⟨rfl, hb1⟩
    go_wp2_with fail
    go_ret
    exact ⟨rfl, hb1⟩
end Go.Proofs.Yteflfflmedkdiaa
