/- The walk of the law NamesRuns: the law returns true at every start, number and all calls and changes nothing that existed. Conditions: as each theorem names them. -/
import Derived.Test.YthkcpdhlpalaiaaNamesRow
import Derived.Test.YthkcpdhlpalaiaaAppendKept
set_option linter.unusedVariables false
namespace Go.Proofs.Ythkcpdhlpalaiaa
open Go.ChangeShapes Go.WideShapes Go.ChangeAt Go.RowKit Go.Maps

theorem and_mask_u (x : Int) (m : Nat) (hm : m < 9223372036854775808) : ∃ L : Int, bits .and .u64 x m = L ∧ 0 ≤ L ∧ L ≤ m := by
  have e : bits .and .u64 x m = ((BitVec.ofInt 64 x).toNat &&& m : Nat) := by
    show IntKind.u64.wrap ((BitVec.ofInt 64 x &&& BitVec.ofInt 64 (m : Int)).toNat : Int) = _
    have hm2 : (BitVec.ofInt 64 (m : Int)).toNat = m := by
      rw [BitVec.ofInt_natCast, BitVec.toNat_ofNat]; exact Nat.mod_eq_of_lt (by omega)
    rw [BitVec.toNat_and, hm2, IntKind.wrap_u64]
    have := Nat.and_le_right (n := (BitVec.ofInt 64 x).toNat) (m := m)
    omega
  have := Nat.and_le_right (n := (BitVec.ofInt 64 x).toNat) (m := m)
  exact ⟨_, e, by omega, by omega⟩

theorem runs_start (lo n : Int) (h : 0 ≤ n) (w1 W : World) (hb : Below w1.heap.size w1 W) (G : Nat) (hG : W.heap.size = G) :
    Run w1.heap.size 0 lo n G 1 (G + 1) 1 1 (G + 1 + 1) [⟨lo, lo, lo + n⟩] (.map []) w1 (((W.alloc (rgc lo lo (lo + n))).alloc (.cells #[.int .u64 lo, .int .u64 lo, .int .u64 (lo + n)] 38)).alloc (.map #[] 0)) := by
  subst hG
  have hz := hb.size
  have e1 : (W.alloc (rgc lo lo (lo + n))).heap.size = W.heap.size + 1 := by simp
  have e2 : ((W.alloc (rgc lo lo (lo + n))).alloc (.cells #[.int .u64 lo, .int .u64 lo, .int .u64 (lo + n)] 38)).heap.size = W.heap.size + 1 + 1 := by simp
  have o1 : (W.alloc (rgc lo lo (lo + n))).ownsRow w1.heap.size 25 3 (.slice (some ⟨W.heap.size, 0, none⟩) 1 1) 1 (flat [⟨lo, lo, lo + n⟩]) :=
    ⟨rfl, .inr ⟨W.heap.size, 1, #[.int .u64 lo, .int .u64 lo, .int .u64 (lo + n)], rfl, hz, heap_alloc_new W _, Nat.le_refl _, by unfold maxLen; omega, rfl, rfl⟩⟩
  have o2 : ((W.alloc (rgc lo lo (lo + n))).alloc (.cells #[.int .u64 lo, .int .u64 lo, .int .u64 (lo + n)] 38)).ownsRow w1.heap.size 38 3 (.slice (some ⟨W.heap.size + 1, 0, none⟩) 1 1) 1 (flat [⟨lo, lo, lo + n⟩]) :=
    ⟨rfl, .inr ⟨W.heap.size + 1, 1, #[.int .u64 lo, .int .u64 lo, .int .u64 (lo + n)], rfl, by omega, by have := heap_alloc_new (W.alloc (rgc lo lo (lo + n))) (.cells #[.int .u64 lo, .int .u64 lo, .int .u64 (lo + n)] 38); rw [e1] at this; exact this, Nat.le_refl _, by unfold maxLen; omega, rfl, rfl⟩⟩
  have hm := World.ownsMap_made ((W.alloc (rgc lo lo (lo + n))).alloc (.cells #[.int .u64 lo, .int .u64 lo, .int .u64 (lo + n)] 38)) Try.prog 22 (plainElem (H := Unit) Try.prog 4)
  rw [e2] at hm
  exact ⟨(World.ownsRow.alloc o1 _).alloc _, World.ownsRow.alloc o2 _, rfl, RParts.start lo n h, hm, unseen_start _, Nat.le_refl _, ((hb.alloc hz _).alloc (by omega) _).alloc (by omega) _, by omega, by omega, by omega, by omega⟩

theorem keepA {w : World} {p : Addr} {v : Value} (o : Obj) (h : w.cell? p = some v) : (w.alloc o).cell? p = some v := by
  rw [World.cell?_of_block (w := w) (Below.heap_alloc _ _ _ (lt_of_cell h))]; exact h
theorem keepD {w : World} {p : Addr} {v : Value} (h : w.cell? p = some v) : w.drew.cell? p = some v := h
theorem own_grown {w w' : World} {b e n g cap M : Nat} {xs : List Value} (h : w.ownsRow b e 3 (.slice (some ⟨g, 0, none⟩) n cap) n xs) (hg : w.grownBy w' (some M)) (hne : M ≠ g) : w'.ownsRow b e 3 (.slice (some ⟨g, 0, none⟩) n cap) n xs :=
  World.ownsRow.kept h hg (.inr (by simp [Value.ownBlock]; exact fun e => hne e.symm))
theorem own_dr {w : World} {base size n : Nat} {e : TypeId} {v : Value} {xs : List Value} (h : w.ownsRow base e size v n xs) : w.drew.ownsRow base e size v n xs := h
theorem Run.took {b k : Nat} {lo n : Int} {g cap h caph N M i : Nat} {ps : List Pu} {D : DataW Unit} {w1 wr w6 : World} {p : Pu} (r : Run b k lo n g cap h caph N M ps D w1 wr) (hp : ps[i]? = some p) (h1 : p.u < p.g) (o : Obj)
    (hm : w6.ownsMap Try.prog 22 (plainElem (H := Unit) Try.prog 4) M (k + 1) (D.put (.int .u64 p.u) (.lit (.bool true))))
    (hg : ((((wr.setCell ⟨h, i * 3 + 1, none⟩ (.int .u64 (p.u + 1))).drew).setCell ⟨g, i * 3 + 1, none⟩ (.int .u64 (p.u + 1))).alloc o).grownBy w6 (some M)) :
    Run b (k + 1) lo n g cap h caph N M (ps.set i ⟨p.l, p.u + 1, p.g⟩) (D.put (.int .u64 p.u) (.lit (.bool true))) w1 w6 := by
  have hgl := own_lt r.fam
  have hhl := own_lt r.mod
  have hin := r.parts.in' i p hp
  refine ⟨own_grown (World.ownsRow.alloc (own_set_u (own_dr (own_far r.fam ⟨h, i * 3 + 1, none⟩ (.int .u64 (p.u + 1)) r.n3)) hp (p.u + 1)) o) hg r.n1, own_grown (World.ownsRow.alloc (own_far (own_dr (own_set_u r.mod hp (p.u + 1))) ⟨g, i * 3 + 1, none⟩ (.int .u64 (p.u + 1)) r.n3.symm) o) hg r.n2, by simp [r.len], r.parts.take hp h1, hm, r.seen.take (lo := lo) (n := n) hp hin.2.1, by have := r.le; omega, ?_, r.bM, r.n1, r.n2, r.n3⟩
  exact ((((r.bl.setCell (by exact hhl.1) _).drew).setCell (by exact hgl.1) _).alloc (by simp; omega) o).grown hg (by simp; omega) (fun j hj => by cases hj; exact r.bM)
theorem Run.nought {b k : Nat} {lo n : Int} {g cap h caph N M : Nat} {ps : List Pu} {D : DataW Unit} {w1 wr w6 : World} (r : Run b k lo n g cap h caph N M ps D w1 wr) (o : Obj)
    (hm : w6.ownsMap Try.prog 22 (plainElem (H := Unit) Try.prog 4) M (k + 1) (D.put (.int .u64 0) (.lit (.bool false)))) (hg : (wr.alloc o).grownBy w6 (some M)) :
    Run b (k + 1) lo n g cap h caph N M ps (D.put (.int .u64 0) (.lit (.bool false))) w1 w6 := by
  have hgl := own_lt r.fam
  exact ⟨own_grown (World.ownsRow.alloc r.fam o) hg r.n1, own_grown (World.ownsRow.alloc r.mod o) hg r.n2, r.len, r.parts, hm, r.seen.zero r.map.isMap, by have := r.le; omega, (r.bl.alloc (by omega) o).grown hg (by simp; omega) (fun j hj => by cases hj; exact r.bM), r.bM, r.n1, r.n2, r.n3⟩

/-- cells that were laid to be appended -/
def News (w : World) (B : Nat) (cs : List Value) : Prop := ∀ j u, cs[j]? = some u → w.cell? ((⟨B, 0, none⟩ : Addr).add j) = some u
theorem News.new3 (w : World) (B : Nat) (h : w.heap.size = B) (x y z : Value) (t : TypeId) : News (w.alloc (.cells #[x, y, z] t)) B [x, y, z] := by
  subst h; exact three_new w x y z t
theorem News.alloc {w : World} {B : Nat} {cs : List Value} (h : News w B cs) (o : Obj) : News (w.alloc o) B cs := fun j u hj => keepA o (h j u hj)
theorem News.drew {w : World} {B : Nat} {cs : List Value} (h : News w B cs) : News w.drew B cs := h
theorem News.grown {w w' : World} {B row : Nat} {cs : List Value} (h : News w B cs) (hg : w.grownBy w' (some row)) (hne : B ≠ row) : News w' B cs := fun j u hj => by
  have := h j u hj
  rw [add_at] at this ⊢
  exact hg.cell this (fun e => hne (by injection e))
theorem keepG {w w' : World} {row : Nat} {p : Addr} {v : Value} (hg : w.grownBy w' (some row)) (h : w.cell? p = some v) (hne : p.block ≠ row) : w'.cell? p = some v := hg.cell h (fun e => hne (by injection e))
theorem keepK {w w' : World} {b L k : Nat} {v : Value} (hk : ∀ k, k < L → w'.cell? ⟨b, k, none⟩ = w.cell? ⟨b, k, none⟩) (h : w.cell? ⟨b, k, none⟩ = some v) (hl : k < L) : w'.cell? ⟨b, k, none⟩ = some v := (hk k hl).trans h
/-- before the two appends -/
structure Spl (b k : Nat) (g cap h caph N M S : Nat) (qs : List Pu) (Y G : Int) (D : DataW Unit) (w1 w6 : World) : Prop where
  fam : w6.ownsRow b 25 3 (.slice (some ⟨g, 0, none⟩) N cap) N (flat qs)
  mod : w6.ownsRow b 38 3 (.slice (some ⟨h, 0, none⟩) N caph) N (flat qs)
  map : w6.ownsMap Try.prog 22 (plainElem (H := Unit) Try.prog 4) M k D
  bl : Below b w1 w6
  s0 : w6.cell? ⟨S, 0, none⟩ = some (.int .u64 Y)
  s1 : w6.cell? ⟨S, 1, none⟩ = some (.int .u64 Y)
  s2 : w6.cell? ⟨S, 2, none⟩ = some (.int .u64 G)
  nSg : S ≠ g
  nSh : S ≠ h
  lM : M < w6.heap.size
theorem Run.spl {b k i S : Nat} {lo n X Y : Int} {g cap h caph N M : Nat} {ps : List Pu} {D : DataW Unit} {w1 wr w4 : World} {p : Pu} (r : Run b k lo n g cap h caph N M ps D w1 wr) (hp : ps[i]? = some p) (hY : p.g - X = Y) (o1 o2 : Obj)
    (hw : (((wr.setCell ⟨g, i * 3 + 2, none⟩ (.int .u64 Y)).alloc o1).alloc o2).drew = w4) (hS : w4.heap.size = S) :
    Spl b k g cap h caph N M S (ps.set i ⟨p.l, p.u, Y⟩) Y p.g D w1 (((w4.alloc (rgc Y Y p.g)).setCell ⟨h, i * 3 + 2, none⟩ (.int .u64 Y)).drew) := by
  subst hS
  have hgl := own_lt r.fam
  have hhl := own_lt r.mod
  have hml := r.map.lt
  have f4 : w4.ownsRow b 25 3 (.slice (some ⟨g, 0, none⟩) N cap) N (flat (ps.set i ⟨p.l, p.u, Y⟩)) := by
    rw [← hw]; exact own_dr (World.ownsRow.alloc (World.ownsRow.alloc (own_set_g r.fam hp Y) o1) o2)
  have m4 : w4.ownsRow b 38 3 (.slice (some ⟨h, 0, none⟩) N caph) N (flat ps) := by
    rw [← hw]; exact own_dr (World.ownsRow.alloc (World.ownsRow.alloc (own_far r.mod ⟨g, i * 3 + 2, none⟩ (.int .u64 Y) r.n3.symm) o1) o2)
  have k4 : w4.ownsMap Try.prog 22 (plainElem (H := Unit) Try.prog 4) M k D := by
    rw [← hw]; exact (((r.map.setCell (a := ⟨g, i * 3 + 2, none⟩) (by exact r.n1) (.int .u64 Y)).alloc o1).alloc o2).drew
  have b4 : Below b w1 w4 := by
    rw [← hw]; exact (((r.bl.setCell (by exact hgl.1) _).alloc (by simp; omega) o1).alloc (by simp; omega) o2).drew
  have g4 := own_lt f4
  have h4 := own_lt m4
  have hz := b4.size
  have ne : w4.heap.size ≠ h := by omega
  have c : ∀ j v, (w4.alloc (rgc Y Y p.g)).cell? ⟨w4.heap.size, j, none⟩ = some v → (((w4.alloc (rgc Y Y p.g)).setCell ⟨h, i * 3 + 2, none⟩ (.int .u64 Y)).drew).cell? ⟨w4.heap.size, j, none⟩ = some v := fun j v hv =>
    (World.cell?_of_block (a := ⟨w4.heap.size, j, none⟩) (Below.heap_setCell _ _ _ _ (by exact ne))).trans hv
  exact ⟨own_dr (own_far (World.ownsRow.alloc f4 _) _ _ (by exact r.n3)), own_dr (own_set_g (World.ownsRow.alloc m4 _) hp Y), ((k4.alloc _).setCell (by exact r.n2) _).drew, ((b4.alloc (by omega) _).setCell (by exact hhl.1) _).drew,
    c 0 _ (by simp), c 1 _ (by simp), c 2 _ (by simp), by omega, ne, by have := k4.lt; show M < ((w4.alloc _).setCell _ _).heap.size; simp; omega⟩
theorem Run.done {b k i S gl capl gm capm : Nat} {lo n X Y : Int} {g cap h caph N M : Nat} {ps : List Pu} {D : DataW Unit} {w1 wr w6 w9 : World} {p : Pu} (r : Run b k lo n g cap h caph N M ps D w1 wr) (s : Spl b k g cap h caph N M S (ps.set i ⟨p.l, p.u, Y⟩) Y p.g D w1 w6) (hp : ps[i]? = some p) (hY : p.g - X = Y) (x0 : 0 ≤ X) (x1 : X ≤ p.g - p.u)
    (fl : w9.ownsRow b 25 3 (.slice (some ⟨gl, 0, none⟩) (N + 1) capl) (N + 1) (flat (ps.set i ⟨p.l, p.u, Y⟩) ++ [.int .u64 Y, .int .u64 Y, .int .u64 p.g])) (fm : w9.ownsRow b 38 3 (.slice (some ⟨gm, 0, none⟩) (N + 1) capm) (N + 1) (flat (ps.set i ⟨p.l, p.u, Y⟩) ++ [.int .u64 Y, .int .u64 Y, .int .u64 p.g]))
    (mm : w9.ownsMap Try.prog 22 (plainElem (H := Unit) Try.prog 4) M k D) (bl : Below b w1 w9) (n1 : M ≠ gl) (n2 : M ≠ gm) (n3 : gl ≠ gm) :
    Run b (k + 1) lo n gl capl gm capm (N + 1) M (ps.set i ⟨p.l, p.u, Y⟩ ++ [⟨Y, Y, p.g⟩]) D w1 w9 := by
  subst hY
  exact ⟨by rw [flat_append]; exact fl, by rw [flat_append]; exact fm, by simp [r.len], r.parts.split hp x0 x1, mm.mono (by omega), r.seen.split (lo := lo) (n := n) hp, by have := r.le; omega, bl, r.bM, n1, n2, n3⟩
theorem map_grown {w w' : World} {M k row : Nat} {D : DataW Unit} (h : w.ownsMap Try.prog 22 (plainElem (H := Unit) Try.prog 4) M k D) (hg : w.grownBy w' (some row)) (hne : M ≠ row) : w'.ownsMap Try.prog 22 (plainElem (H := Unit) Try.prog 4) M k D :=
  h.kept hg (fun e => hne (by injection e))
theorem Run.later {b k : Nat} {lo n : Int} {g cap h caph N M : Nat} {ps : List Pu} {D : DataW Unit} {w1 wr : World} (r : Run b k lo n g cap h caph N M ps D w1 wr) : Run b (k + 1) lo n g cap h caph N M ps D w1 wr :=
  ⟨r.fam, r.mod, r.len, r.parts, r.map.mono (by omega), r.seen, by have := r.le; omega, r.bl, r.bM, r.n1, r.n2, r.n3⟩

set_option maxRecDepth 100000 in
set_option maxHeartbeats 20000000 in
theorem lawRuns_some (lo n : Int) (cao : Option Addr) (cm cc : Nat) (cs : Nat → Int) (hc30 : cm ≤ 200) (n0 : -9223372036854775808 ≤ n) (n1 : n ≤ 9223372036854775807) (w : World)
    (hcb : ∀ i, -9223372036854775808 ≤ cs i ∧ cs i ≤ 9223372036854775807) (hca : 0 < cm → ∃ ca, cao = some ca ∧ ∀ i, i < cm → w.cell? (ca.add i) = some (.int .i64 (cs i))) :
    Calls Try.prog 5 #[.int .u64 lo, .int .i64 n, .slice cao cm cc] w fun e w' => e = .returned (.bool true) ∧ Below w.heap.size w w' := by
  have hm : -60 < n.tmod 60 ∧ n.tmod 60 < 60 := by
    have h1 : (n.tmod 60).natAbs < 60 := by rw [Int.natAbs_tmod]; exact Nat.mod_lt _ (by decide)
    omega
  obtain ⟨NN, hN, hN8⟩ : ∃ N : Nat, (n.tmod 60 + 60) % 60 = (N : Int) ∧ N < 60 := ⟨((n.tmod 60 + 60) % 60).toNat, by omega, by omega⟩
  have hN2 : n.tmod 60 % 60 = (NN : Int) := by omega
  obtain ⟨L0, hL', L00, L01'⟩ := and_mask_u lo 1023 (by omega)
  have hL : bits .and .u64 lo 1023 = L0 := hL'
  have L01 : L0 ≤ 1023 := L01'
  clear hL' L01'
  have HN := Lib.hid hN
  have HN2 := Lib.hid hN2
  clear hN hN2
  have hm31 : ¬ (200 : Int) < (cm : Int) := by omega
  obtain ⟨i0, hi, hz0, hz1, hz2'⟩ := info_parts info25
  obtain ⟨ti1, hi1, hz01, hz11, hz21⟩ := info_parts info38
  have HCA := Lib.hid hca
  have HCB := Lib.hid hcb
  clear hca hcb
  have hmm := @run_makeMap Try.prog
  go_enter Try.func5, Try.ntmps5
  go_wp2_with fail
  refine (fit_any _).mono ?_
  rintro e w1 ⟨rfl, hb1⟩
  have HB1 := Lib.hid hb1
  clear hb1
  go_wp2_with fail
  rw [HN.out]
  go_wp2_with fail
  rw [HN2.out]
  refine (new_yes (L0 + 1) (NN : Int) (by omega) (by omega) (by omega) (by omega) _).mono ?_
  rintro e w2 ⟨rfl, rfl⟩
  go_wp2_with fail
  have hs := runs_start (L0 + 1) (NN : Int) (by omega) w1 ((w1.alloc (rgc (L0 + 1) (L0 + 1) (L0 + 1 + (NN : Int)))).alloc (rgc (L0 + 1) (L0 + 1) (L0 + 1 + (NN : Int)))) (((Below.refl _ _).alloc (Nat.le_refl _) _).alloc (by simp) _) (w1.heap.size + 1 + 1) (by simp)
  have HS := Lib.hid hs
  clear hs
  go_loopw [9, 10, 55] (fun s9 s10 s55 wr => ∃ (k g cap h caph N : Nat) (ps : List Pu) (D : DataW Unit), k ≤ cm ∧ s55 = .int .i64 k ∧ s9 = .slice (some ⟨g, 0, none⟩) N cap ∧ s10 = .slice (some ⟨h, 0, none⟩) N caph ∧ Run w1.heap.size k (L0 + 1) NN g cap h caph N (w1.heap.size + 1 + 1 + 1 + 1) ps D w1 wr) (fun _ _ s55 _ => cm - (intOf s55).toNat)
  case atStart => exact ⟨0, _, _, _, _, _, _, _, by omega, rfl, rfl, rfl, HS.out⟩
  case round =>
    obtain ⟨k, g, cap, h, caph, N, ps, D, hk, rfl, rfl, rfl, hr⟩ := hrel
    by_cases hkm : k < cm
    · obtain ⟨ca, rfl, hcs⟩ := HCA.out (by omega)
      obtain ⟨q0, q1⟩ := HCB.out k
      have hc := hcs k hkm
      have hlc := lt_of_cell hc
      have hcw := (hr.bl.cell (p := ca.add k) (Nat.lt_of_lt_of_le hlc HB1.out.size)).trans ((HB1.out.cell (p := ca.add k) hlc).trans hc)
      clear hlc hc hcs
      generalize cs k = C at *
      have hkI : (k : Int) < (cm : Int) := by omega
      obtain ⟨J, hJ', J0, J1'⟩ := and_mask (C / 256) 65535 (by omega)
      have hJ : bits .and .i64 (C / 256) 65535 = J := hJ'
      have J1 : J ≤ 65535 := J1'
      clear hJ' J1'
      obtain ⟨B, hB', B0, B1'⟩ := and_mask C 1 (by omega)
      have hB : bits .and .i64 C 1 = B := hB'
      have B1 : B ≤ 1 := B1'
      clear hB' B1'
      obtain ⟨V, hV', V0, V1'⟩ := and_mask (C / 2) 15 (by omega)
      have hV : bits .and .i64 (C / 2) 15 = V := hV'
      have V1 : V ≤ 15 := V1'
      clear hV' V1'
      have hN0 : 0 < N := by have := hr.parts.pos; have := hr.len; omega
      have hNk : N ≤ 201 := by have := hr.le; omega
      obtain ⟨q, hq, hqk⟩ : ∃ q : Nat, (J % (N : Int) = (q : Int)) ∧ q < N := by
        have h3 : 0 ≤ J % (N : Int) := Int.emod_nonneg _ (by omega)
        have h4 : J % (N : Int) < N := Int.emod_lt_of_pos _ (by omega)
        exact ⟨(J % (N : Int)).toNat, by omega, by omega⟩
      have hq1 : J.tmod (N : Int) = (q : Int) := by rw [Int.tmod_eq_emod_of_nonneg (by omega)]; exact hq
      have hq3 : (0 : Int) ≤ (q : Int) := by omega
      have hq4 : (q : Int) < (N : Int) := by omega
      have hNI : ¬ ((N : Int) = 0) := by omega
      obtain ⟨p, hp⟩ : ∃ p, ps[q]? = some p := ⟨_, List.getElem?_eq_getElem (by have := hr.len; omega)⟩
      obtain ⟨i1, i2, i3, i4⟩ := hr.parts.in' q p hp
      obtain ⟨hb, hl, hu, hg, hfl, hfu, hfg⟩ := own_at hr.mod hp
      have HR := Lib.hid hr
      have HP := Lib.hid hp
      clear hr hp
      have hw1 : IntKind.u64.wrap (p.g - p.u) = p.g - p.u := by rw [IntKind.wrap_u64]; omega
      have hw2 : IntKind.i64.wrap (p.g - p.u) = p.g - p.u := by rw [IntKind.wrap_i64]; omega
      go_wp2_with fail
      go_quiet (fail)
      clear hw1 hw2
      have hr3 := HR.out.below (w' := wr.drewN nq) (below_drewN (Below.refl _ _) _)
      generalize wr.drewN nq = w3 at *
      have HR3 := Lib.hid hr3
      clear hr3 hcw hb hl hu hg hfl hfu hfg
      go_upto_if 79 with fail
      go_cut [9, 10] (fun s9 s10 wc => ∃ (g cap h caph N : Nat) (ps : List Pu) (D : DataW Unit), s9 = .slice (some ⟨g, 0, none⟩) N cap ∧ s10 = .slice (some ⟨h, 0, none⟩) N caph ∧ Run w1.heap.size (k + 1) (L0 + 1) NN g cap h caph N (w1.heap.size + 1 + 1 + 1 + 1) ps D w1 wc)
      case first =>
        obtain ⟨gb, gl, gu, gg, gfl, gfu, gfg⟩ := own_at HR3.out.fam HP.out
        obtain ⟨hb, hl, hu, hg, hfl, hfu, hfg⟩ := own_at HR3.out.mod HP.out
        have hMg := HR3.out.n1
        have hMh := HR3.out.n2
        have hgh := HR3.out.n3
        have hgh' := hgh.symm
        clear hB hJ hq hq1
        by_cases hB0 : B = 0
        · have hBb : (B == 0) = true := by rw [beq_iff_eq]; exact hB0
          clear hB0
          by_cases hpu : p.u < p.g
          · as_aux_lemma =>
              have hatg := own_at (own_dr (own_far HR3.out.fam ⟨h, q * 3 + 1, none⟩ (.int .u64 (p.u + 1)) hgh)) HP.out
              have hmap4 := ((HR3.out.map.setCell (a := ⟨h, q * 3 + 1, none⟩) (by exact hMh) (.int .u64 (p.u + 1))).drew.setCell (a := ⟨g, q * 3 + 1, none⟩) (by exact hMg) (.int .u64 (p.u + 1))).alloc (rgc p.l p.u p.g)
              have htk := take_yes g (q * 3) p.l p.u p.g _ hatg.hb hatg.hl hatg.hu hatg.hg hatg.fu (by omega) hpu (by omega)
              have HTK := Lib.hid htk
              have hkey : keyOf Try.prog 22 (.int .u64 p.u) = some (.int .u64 p.u) := keyOf_int_mk Try.underlying22 (by simp [Lit.wf, IntKind.min, IntKind.max, IntKind.signed, IntKind.bits]; omega)
              have HKEY := Lib.hid hkey
              have hun := HR3.out.seen p.u (HR3.out.parts.not_yet HP.out hpu)
              have HUN := Lib.hid hun
              have hnz : (p.u != 0) = true := by rw [bne_iff_ne]; omega
              have hw3 : IntKind.u64.wrap (p.u + 1) = p.u + 1 := by rw [IntKind.wrap_u64]; omega
              clear htk hkey hun hatg
              go_wp2_with fail
              go_region
              go_wp2_with fail
              refine HTK.out.mono ?_
              rintro e w4 ⟨rfl, hw4⟩
              rw [hw4] at hmap4
              have hlk := lookup_bool hmap4 HKEY.out HUN.out
              have HM4 := Lib.hid hmap4
              have HW4 := Lib.hid hw4
              clear hmap4 hw4
              go_wp2_with (first
                | (at_mapUpdate; refine wpList_mapUpdate_own _ rfl _ _ _ 40 rfl 22 4 law22 Try.underlying40 _ (w1.heap.size + 1 + 1 + 1 + 1) _ _ rfl HM4.out (by unfold maxLen; omega) _ (.bool true) _ rfl (by rfl) HKEY.out _ [] (plainElem_bool Try.underlying4 true) ?_; intro w6 hown6 hgrow6; have HO6 := Lib.hid hown6; have HG6 := Lib.hid hgrow6; clear hown6 hgrow6)
                | fail)
              have hg6 := HG6.out
              rw [← HW4.out] at hg6
              have hr6 := HR3.out.took HP.out hpu _ HO6.out hg6
              have HR6 := Lib.hid hr6
              clear hr6 hg6
              go_meet
              exact ⟨_, _, _, _, _, _, _, rfl, rfl, HR6.out⟩
          · as_aux_lemma =>
              have hgu : p.g = p.u := by omega
              have gg2 : w3.cell? ⟨g, q * 3 + 2, none⟩ = some (.int .u64 p.u) := by rw [← hgu]; exact gg
              have htk := take_no g (q * 3) p.l p.u w3 gl gu gg2
              have HTK := Lib.hid htk
              have hkey : keyOf Try.prog 22 (.int .u64 0) = some (.int .u64 0) := keyOf_int_mk Try.underlying22 (by decide)
              have HKEY := Lib.hid hkey
              have hun := HR3.out.seen 0 (fun j r hj hc => by have := (HR3.out.parts.in' j r hj).1; omega)
              have HUN := Lib.hid hun
              have hmap4 := HR3.out.map.alloc (rgc p.l p.u p.u)
              clear htk hkey hun hgu gg2
              go_wp2_with fail
              refine HTK.out.mono ?_
              rintro e w4 ⟨rfl, hw4⟩
              rw [hw4] at hmap4
              have hlk := lookup_bool hmap4 HKEY.out HUN.out
              have HM4 := Lib.hid hmap4
              have HW4 := Lib.hid hw4
              clear hmap4 hw4
              go_wp2_with (first
                | (at_mapUpdate; refine wpList_mapUpdate_own _ rfl _ _ _ 40 rfl 22 4 law22 Try.underlying40 _ (w1.heap.size + 1 + 1 + 1 + 1) _ _ rfl HM4.out (by unfold maxLen; omega) _ (.bool false) _ rfl (by rfl) HKEY.out _ [] (plainElem_bool Try.underlying4 false) ?_; intro w6 hown6 hgrow6; have HO6 := Lib.hid hown6; have HG6 := Lib.hid hgrow6; clear hown6 hgrow6)
                | fail)
              have hg6 := HG6.out
              rw [← HW4.out] at hg6
              have hr6 := HR3.out.nought _ HO6.out hg6
              have HR6 := Lib.hid hr6
              clear hr6 hg6
              go_meet
              exact ⟨_, _, _, _, _, _, _, rfl, rfl, HR6.out⟩
        · have hBb : (B == 0) = false := by rw [beq_eq_false_iff_ne]; exact hB0
          obtain ⟨X, hX⟩ : ∃ X, V - 1 = X := ⟨_, rfl⟩
          have x0 : -1 ≤ X := by omega
          have x1 : X ≤ 14 := by omega
          clear hB0
          by_cases hXp : 0 ≤ X ∧ X ≤ p.g - p.u
          · as_aux_lemma =>
              obtain ⟨xp0, xp1⟩ := hXp
              obtain ⟨Y, hY⟩ : ∃ Y, p.g - X = Y := ⟨_, rfl⟩
              have hsp := split_yes g (q * 3) p.l p.u p.g X w3 gb gl gu gg gfg (by omega) (by omega) (by omega) xp0 xp1
              rw [hY] at hsp
              have HSP := Lib.hid hsp
              have hYX : Y + X = p.g := by omega
              have y0 : 0 ≤ Y := by omega
              have y1 : Y ≤ 4194304 := by omega
              have hwY : IntKind.u64.wrap Y = Y := by rw [IntKind.wrap_u64]; omega
              have hwG : IntKind.u64.wrap p.g = p.g := by rw [IntKind.wrap_u64]; omega
              have hwX : IntKind.u64.wrap X = X := by rw [IntKind.wrap_u64]; omega
              have hspl := fun (w4 : World) (hw : (((w3.setCell ⟨g, q * 3 + 2, none⟩ (.int .u64 Y)).alloc (rgc Y Y p.g)).alloc (rgc p.l p.u p.g)).drew = w4) => HR3.out.spl HP.out hY (rgc Y Y p.g) (rgc p.l p.u p.g) hw rfl
              have HSPL := Lib.hid hspl
              have hch : ∀ w4 : World, (((w3.setCell ⟨g, q * 3 + 2, none⟩ (.int .u64 Y)).alloc (rgc Y Y p.g)).alloc (rgc p.l p.u p.g)).drew = w4 → At (w4.alloc (rgc Y Y p.g)) h (q * 3) p.l p.u p.g := fun w4 hw => by
                rw [← hw]; exact own_at (World.ownsRow.alloc (own_dr (World.ownsRow.alloc (World.ownsRow.alloc (own_far HR3.out.mod ⟨g, q * 3 + 2, none⟩ (.int .u64 Y) hgh') _) _)) _) HP.out
              have HCH := Lib.hid hch
              have HY := Lib.hid hY
              have hqN : q * 3 + 2 < N * 3 := by omega
              clear hsp hspl hch
              go_wp2_with fail
              refine HSP.out.mono ?_
              rintro e w4 ⟨rfl, hw4⟩
              have hsp6 := HSPL.out w4 hw4
              obtain ⟨hb4, hl4, hu4, hg4, hfl4, hfu4, hfg4⟩ := HCH.out w4 hw4
              have HS6 := Lib.hid hsp6
              clear hsp6 hw4 gb gl gu gg gfl gfu gfg hb hl hu hg hfl hfu hfg
              go_wp2_with fail
              go_region
              have hsp6 := HS6.out
              generalize hw6 : ((w4.alloc (rgc Y Y p.g)).setCell ⟨h, q * 3 + 2, none⟩ (.int .u64 Y)).drew = w6 at *
              clear hw6
              generalize w4.heap.size = S at *
              have hqq : (ps.set q ⟨p.l, p.u, Y⟩)[q]? = some ⟨p.l, p.u, Y⟩ := List.getElem?_set_self (List.getElem?_eq_some_iff.1 HP.out).1
              have hath := (own_at hsp6.mod hqq).hg
              dsimp only at hath
              have s0 := hsp6.s0
              have s1 := hsp6.s1
              have s2 := hsp6.s2
              have hSg := hsp6.nSg
              have hSh := hsp6.nSh
              have HFAM := Lib.hid hsp6.fam
              have HMOD := Lib.hid hsp6.mod
              have HMAP := Lib.hid hsp6.map
              have HBL := Lib.hid hsp6.bl
              have hlM := hsp6.lM
              obtain ⟨hbg, hgl6⟩ := own_lt hsp6.fam
              obtain ⟨hbh, hhl6⟩ := own_lt hsp6.mod
              have hz6 := hsp6.bl.size
              clear hsp6 hqq hl4 hu4 hg4 hfl4 hfu4 hfg4
              go_wp2_with fail
              go_region_held3 (fun w' => w'.cell? ⟨S, 0, none⟩ = some (.int .u64 Y) ∧ w'.cell? ⟨S, 1, none⟩ = some (.int .u64 Y) ∧ w'.cell? ⟨S, 2, none⟩ = some (.int .u64 p.g) ∧ w'.cell? ⟨h, q * 3 + 2, none⟩ = some (.int .u64 Y))
                ((refine ⟨?_, ?_, ?_, ?_⟩ <;> (repeat (first | assumption | with_reducible refine keepD ?_ | with_reducible refine keepA _ ?_ | with_reducible refine keepK hkm ?_ (by omega) | with_reducible refine keepG hgrm ?_ hSh | with_reducible refine keepG hgrl ?_ hSg | with_reducible refine keepG hgrl ?_ hgh'))))
                (first | ((refine step_append_kept (by rfl) (.tmp 151) (.tmp 153) 31 (by rfl) w1.heap.size 25 i0 (.agg #[.int .u64 0, .int .u64 0, .int .u64 0]) 3 24 Try.underlying31 hi hz0 hz1 hz2' (by rfl) (by decide) g N cap (flat (ps.set q ⟨p.l, p.u, Y⟩)) (by rfl) (by repeat (first | with_reducible exact HFAM.out | with_reducible refine own_dr ?_ | with_reducible refine World.ownsRow.alloc ?_ _)) ⟨_, 0, none⟩ 1 1 [.int .u64 Y, .int .u64 Y, .int .u64 p.g] (by rfl) rfl (show News _ _ _ from (by repeat (first | (with_reducible refine News.new3 _ _ ?_ _ _ _ _; (simp; done)) | with_reducible refine News.drew ?_ | with_reducible refine News.alloc ?_ _ | with_reducible refine News.grown ?_ hgrl (by omega)))) (by simp [Value.oneCell']) (by decide) (by unfold maxLen; omega) (by omega) (by (try simp); omega) ?_); intro gl capl wl hownl hgrl hgcl hkl; have hzl := hgrl.size; (try simp at hzl); have hgl' : gl = g ∨ w6.heap.size ≤ gl := (by exact Or.elim hgcl (fun e => Or.inl e) (fun e => Or.inr (by rw [e]; (try simp); (try omega))))) | ((refine step_append_kept (by rfl) (.tmp 155) (.tmp 175) 39 (by rfl) w1.heap.size 38 ti1 (.agg #[.int .u64 0, .int .u64 0, .int .u64 0]) 3 24 Try.underlying39 hi1 hz01 hz11 hz21 (by rfl) (by decide) h N caph (flat (ps.set q ⟨p.l, p.u, Y⟩)) (by rfl) (by repeat (first | with_reducible exact HMOD.out | with_reducible refine own_dr ?_ | with_reducible refine World.ownsRow.alloc ?_ _ | with_reducible refine own_grown ?_ hgrl hgh)) ⟨_, 0, none⟩ 1 1 [.int .u64 Y, .int .u64 Y, .int .u64 p.g] (by rfl) rfl (show News _ _ _ from (by repeat (first | (with_reducible refine News.new3 _ _ ?_ _ _ _ _; (simp; done)) | with_reducible refine News.drew ?_ | with_reducible refine News.alloc ?_ _ | with_reducible refine News.grown ?_ hgrl (by omega)))) (by simp [Value.oneCell']) (by decide) (by unfold maxLen; omega) (by omega) (by (try simp); omega) ?_); intro gm capm wm hownm hgrm hgcm hkm; have hzm := hgrm.size; (try simp at hzm); have hgm' : gm = h ∨ wl.heap.size ≤ gm := (by exact Or.elim hgcm (fun e => Or.inl e) (fun e => Or.inr (by rw [e]; (try simp); (try omega))))) | fail)
              all_goals
                as_aux_lemma =>
                  have hgll := own_lt hownl
                  have hgmm := own_lt hownm
                  have fl : wm.ownsRow w1.heap.size 25 3 (.slice (some ⟨gl, 0, none⟩) (N + 1) capl) (N + 1) (flat (ps.set q ⟨p.l, p.u, Y⟩) ++ [.int .u64 Y, .int .u64 Y, .int .u64 p.g]) := by
                    repeat (first | with_reducible exact hownl | with_reducible refine own_grown ?_ hgrm (by omega) | with_reducible refine own_dr ?_ | with_reducible refine World.ownsRow.alloc ?_ _)
                  have mm : wm.ownsMap Try.prog 22 (plainElem (H := Unit) Try.prog 4) (w1.heap.size + 1 + 1 + 1 + 1) k D := by
                    repeat (first | with_reducible exact HMAP.out | with_reducible refine map_grown ?_ hgrm hMh | with_reducible refine map_grown ?_ hgrl hMg | with_reducible refine World.ownsMap.drew ?_ | with_reducible refine World.ownsMap.alloc ?_ _)
                  have bb : Below w1.heap.size w1 wm := by
                    repeat (first | with_reducible exact HBL.out | (with_reducible refine Below.grown ?_ hgrm (by (try simp); omega) (by intro j hj; cases hj; omega)) | (with_reducible refine Below.grown ?_ hgrl (by (try simp); omega) (by intro j hj; cases hj; omega)) | with_reducible refine Below.drew ?_ | (with_reducible refine Below.alloc ?_ (by (try simp); omega) _))
                  have hr9 := HR3.out.done HS6.out HP.out HY.out xp0 xp1 fl hownm mm bb (by omega) (by omega) (by omega)
                  have HR9 := Lib.hid hr9
                  clear hr9 fl mm bb hgll hgmm hownl hownm hgrl hgrm hgcl hgcm hkl hkm
                  go_wp2_with fail
                  go_meet
                  exact ⟨_, _, _, _, _, _, _, rfl, rfl, HR9.out⟩
          · have hsp := split_no g (q * 3) p.l p.u p.g X w3 gb gl gu gg (by omega) (by omega) (by omega) (by omega)
            have HSP := Lib.hid hsp
            clear hsp
            by_cases hX0 : 0 ≤ X
            · as_aux_lemma =>
                have hX1 : p.g - p.u < X := by omega
                clear hXp
                go_wp2_with fail
                refine HSP.out.mono ?_
                rintro e w4 ⟨rfl, hw4⟩
                have hr4 := (HR3.out.below hw4)
                have hr5 := (hr4.below ((Below.refl _ _).alloc (Nat.le_refl _) (rgc 0 0 0))).later
                have HR5 := Lib.hid hr5
                clear hr4 hr5 hw4
                go_wp2_with fail
                go_meet
                exact ⟨_, _, _, _, _, _, _, rfl, rfl, HR5.out⟩
            · as_aux_lemma =>
                have hX1 : X < 0 := by omega
                clear hXp
                go_wp2_with fail
                refine HSP.out.mono ?_
                rintro e w4 ⟨rfl, hw4⟩
                have hr4 := (HR3.out.below hw4)
                have hr5 := (hr4.below ((Below.refl _ _).alloc (Nat.le_refl _) (rgc 0 0 0))).later
                have HR5 := Lib.hid hr5
                clear hr4 hr5 hw4
                go_wp2_with fail
                go_meet
                exact ⟨_, _, _, _, _, _, _, rfl, rfl, HR5.out⟩
      case rest => as_aux_lemma =>
        obtain ⟨g', cap', h', caph', N', ps', D', rfl, rfl, hr4⟩ := hcut
        have HR4 := Lib.hid hr4
        have hN4 : N' ≤ 203 := by have := hr4.le; omega
        clear hr4
        go_wp2_with fail
        go_loopw [179] (fun s179 wx => ∃ i : Nat, i ≤ N' ∧ s179 = .int .i64 i ∧ Run w1.heap.size (k + 1) (L0 + 1) NN g' cap' h' caph' N' (w1.heap.size + 1 + 1 + 1 + 1) ps' D' w1 wx) (fun s179 _ => N' - (intOf s179).toNat)
        case atStart => exact ⟨0, by omega, rfl, HR4.out⟩
        case round =>
          obtain ⟨wx, hwx⟩ : ∃ wx : World, wx = wr := ⟨_, rfl⟩
          subst hwx
          obtain ⟨i, hiN, rfl, hr5⟩ := hrel
          by_cases hi5 : i < N'
          · as_aux_lemma =>
              obtain ⟨s, hs⟩ : ∃ s, ps'[i]? = some s := ⟨_, List.getElem?_eq_getElem (by have := hr5.len; omega)⟩
              obtain ⟨a1, a2, a3, a4⟩ := hr5.parts.in' i s hs
              obtain ⟨_, gl, gu, gg, _, _, _⟩ := own_at hr5.fam hs
              obtain ⟨_, hl, hu, hg, _, _, _⟩ := own_at hr5.mod hs
              have hIx : (i : Int) < (N' : Int) := by omega
              have HR5 := Lib.hid hr5
              clear hr5 hs
              have x0 : (wx.alloc (.cells #[.int .u64 s.l, .int .u64 s.u, .int .u64 s.g] 25)).cell? ⟨wx.heap.size, 0, none⟩ = some (.int .u64 s.l) := by simp
              have x1 : (wx.alloc (.cells #[.int .u64 s.l, .int .u64 s.u, .int .u64 s.g] 25)).cell? ⟨wx.heap.size, 1, none⟩ = some (.int .u64 s.u) := by simp
              have x2 : (wx.alloc (.cells #[.int .u64 s.l, .int .u64 s.u, .int .u64 s.g] 25)).cell? ⟨wx.heap.size, 2, none⟩ = some (.int .u64 s.g) := by simp
              have y0 := keepA (.cells #[.int .u64 s.l, .int .u64 s.u, .int .u64 s.g] 25) hl
              have y1 := keepA (.cells #[.int .u64 s.l, .int .u64 s.u, .int .u64 s.g] 25) hu
              have y2 := keepA (.cells #[.int .u64 s.l, .int .u64 s.u, .int .u64 s.g] 25) hg
              have hry := right_yes s.l s.u s.g (by omega) a2 a3 (by omega)
              have HRY := Lib.hid hry
              have hly := left_any s.l s.u s.g a3 (by omega)
              have HLY := Lib.hid hly
              have hw3 : IntKind.u64.wrap (s.g - s.u) = s.g - s.u := by rw [IntKind.wrap_u64]; omega
              have hw4 : IntKind.i64.wrap (s.g - s.u) = s.g - s.u := by rw [IntKind.wrap_i64]; omega
              clear hry hly
              go_wp2_with fail
              go_region_held3 (fun w' => w'.cell? ⟨wx.heap.size, 0, none⟩ = some (.int .u64 s.l) ∧ w'.cell? ⟨wx.heap.size, 1, none⟩ = some (.int .u64 s.u) ∧ w'.cell? ⟨wx.heap.size, 2, none⟩ = some (.int .u64 s.g) ∧ w'.cell? ⟨h', i * 3, none⟩ = some (.int .u64 s.l) ∧ w'.cell? ⟨h', i * 3 + 1, none⟩ = some (.int .u64 s.u) ∧ w'.cell? ⟨h', i * 3 + 2, none⟩ = some (.int .u64 s.g))
                ((refine ⟨?_, ?_, ?_, ?_, ?_, ?_⟩ <;> (repeat (first | assumption | with_reducible refine keepD ?_ | with_reducible refine keepA _ ?_))))
                (first | ((try rw [if_pos (by rfl)]); go_at_call 13; refine (HRY.out _).mono ?_; rintro e w4 ⟨rfl, rfl⟩) | ((try rw [if_pos (by rfl)]); go_at_call 9; refine (HLY.out _).mono ?_; rintro e w5 ⟨rfl, rfl⟩) | fail)
              go_wp2_with fail
              go_roundw
              case rel => exact ⟨i + 1, by omega, by go_num, HR5.out.below (by repeat (first | exact Below.refl _ _ | refine Below.drew ?_ | (refine Below.alloc ?_ (by first | omega | (simp; done) | (simp; omega)) _)))⟩
              case measure => simp [intOf]; omega
          · as_aux_lemma =>
              obtain rfl : i = N' := by omega
              have HR5 := Lib.hid hr5
              clear hr5
              go_wp2_with fail
              go_roundw
              case rel => exact ⟨k + 1, _, _, _, _, _, _, _, by omega, by go_num, rfl, rfl, HR5.out⟩
              case measure => simp [intOf]; omega
    · as_aux_lemma =>
        obtain rfl : k = cm := by omega
        have hbl := hr.bl
        have HBL := Lib.hid hbl
        clear hr hbl
        go_wp2_with fail
        go_ret
        exact ⟨rfl, HB1.out.trans (HBL.out.mono HB1.out.size)⟩
end Go.Proofs.Ythkcpdhlpalaiaa
