/- The walk of the law PurseRuns: the law returns true at every limit and all calls and changes nothing that existed. Conditions: as each theorem names them. -/
import Derived.Test.YteflfflmedkdiaaPurseMoveB
import Derived.Test.YteflfflmedkdiaaHeldLate
set_option linter.unusedVariables false
namespace Go.Proofs.Yteflfflmedkdiaa
open Go.ChangeShapes Go.WideShapes Go.ChangeAt Go.RowKit

theorem info3 : (Try.prog.info? 3).map (fun i => (i.zero, i.size, i.bytes)) = some (some (.int .i64 0), 1, 8) := by kernel_rfl
/-- behind k calls -/
def RunRel (b F k : Nat) (w1 wr : World) : Prop := ∃ g cap g2 cap2 ps us, PFS b F g cap g2 cap2 ps us wr ∧ Good ps us ∧ ps.length ≤ k + 1 ∧ Below b w1 wr

theorem runs_start (L : Int) (a0 : 0 ≤ L) (a1 : L ≤ 1099511627775) (w : World) :
    RunRel w.heap.size (w.heap.size + 1 + 1) 0 w (((w.alloc (.cells #[.int .i64 L, .int .i64 0, .int .i64 0] 24)).alloc (.cells #[.int .i64 (-1)] 3)).alloc (.cells #[.slice (some ⟨w.heap.size, 0, none⟩) 1 1, .slice (some ⟨w.heap.size + 1, 0, none⟩) 1 1] 40)) := by
  have e1 : (w.alloc (.cells #[.int .i64 L, .int .i64 0, .int .i64 0] 24)).heap.size = w.heap.size + 1 := by simp
  have e2 : ((w.alloc (.cells #[.int .i64 L, .int .i64 0, .int .i64 0] 24)).alloc (.cells #[.int .i64 (-1)] 3)).heap.size = w.heap.size + 1 + 1 := by simp
  have o1 : (w.alloc (.cells #[.int .i64 L, .int .i64 0, .int .i64 0] 24)).ownsRow w.heap.size 24 3 (.slice (some ⟨w.heap.size, 0, none⟩) 1 1) 1 (flat [⟨L, 0, 0⟩]) :=
    ⟨rfl, .inr ⟨w.heap.size, 1, #[.int .i64 L, .int .i64 0, .int .i64 0], rfl, Nat.le_refl _, heap_alloc_new w _, Nat.le_refl _, by unfold maxLen; omega, rfl, rfl⟩⟩
  have o2 : ((w.alloc (.cells #[.int .i64 L, .int .i64 0, .int .i64 0] 24)).alloc (.cells #[.int .i64 (-1)] 3)).ownsRow w.heap.size 3 1 (.slice (some ⟨w.heap.size + 1, 0, none⟩) 1 1) 1 (ints [-1]) :=
    ⟨rfl, .inr ⟨w.heap.size + 1, 1, #[.int .i64 (-1)], rfl, by omega, by have := heap_alloc_new (w.alloc (.cells #[.int .i64 L, .int .i64 0, .int .i64 0] 24)) (.cells #[.int .i64 (-1)] 3); rw [e1] at this; exact this, Nat.le_refl _, by unfold maxLen; omega, rfl, rfl⟩⟩
  have hj : Just L 0 0 := ⟨by omega, Int.le_refl _, Int.le_refl _, by omega⟩
  have hG : Good [⟨L, 0, 0⟩] [-1] := by
    refine ⟨rfl, by simp, ?_, ?_, ?_⟩
    · intro p hp
      rw [List.mem_singleton.1 hp]
      exact hj
    · intro j u hu
      match j, hu with
      | 0, hu => simp at hu; subst hu; decide
    · intro i p hp
      match i, hp with
      | 0, hp => simp at hp; subst hp; simp [csum]
  have fr : ∀ (W : World) (k : Nat) {cs : Array Value} {t : TypeId}, W.heap[w.heap.size + 1 + 1]? = some (.cells cs t) → W.frozen? ⟨w.heap.size + 1 + 1, k, none⟩ = false := fun W k cs t h => by simp [World.frozen?, h]
  have h3 := heap_alloc_new ((w.alloc (.cells #[.int .i64 L, .int .i64 0, .int .i64 0] 24)).alloc (.cells #[.int .i64 (-1)] 3)) (.cells #[.slice (some ⟨w.heap.size, 0, none⟩) 1 1, .slice (some ⟨w.heap.size + 1, 0, none⟩) 1 1] 40)
  rw [e2] at h3
  have hF : PFS w.heap.size (w.heap.size + 1 + 1) w.heap.size 1 (w.heap.size + 1) 1 [⟨L, 0, 0⟩] [-1] (((w.alloc (.cells #[.int .i64 L, .int .i64 0, .int .i64 0] 24)).alloc (.cells #[.int .i64 (-1)] 3)).alloc (.cells #[.slice (some ⟨w.heap.size, 0, none⟩) 1 1, .slice (some ⟨w.heap.size + 1, 0, none⟩) 1 1] 40)) :=
    ⟨by simp, by omega, (cell_of_row _ _ 0 _ _ _ h3).trans rfl, (cell_of_row _ _ 1 _ _ _ h3).trans rfl, fr _ _ h3, fr _ _ h3, (World.ownsRow.alloc o1 _).alloc _, World.ownsRow.alloc o2 _, by omega, by omega, by omega⟩
  exact ⟨_, _, _, _, _, _, hF, hG, by simp, (((Below.refl _ _).alloc (Nat.le_refl _) _).alloc (by simp) _).alloc (by simp; omega) _⟩

/-- behind the switch: what was wanted, and what the purses are -/
def Sw (b F k I A B : Nat) (w1 : World) (o : Pu) (want : Int) (wc : World) : Prop :=
  ∃ g cap g2 cap2 ps us p t, PFS b F g cap g2 cap2 ps us wc ∧ Good ps us ∧ ps.length ≤ k + 2 ∧ Below b w1 wc ∧ ps[I]? = some p ∧ At wc A 0 o.l o.u o.g ∧ At wc B 0 t.l t.u t.g ∧ (b ≤ B ∧ A ≠ B ∧ B ≠ F ∧ B ≠ g ∧ B ≠ g2) ∧ (want = 0 ∧ t = p ∨ want ≠ 0 ∧ o = p)
/-- and when it was put right -/
def Sw2 (b F k I B : Nat) (w1 : World) (wc : World) : Prop :=
  ∃ g cap g2 cap2 ps us p, PFS b F g cap g2 cap2 ps us wc ∧ Good ps us ∧ ps.length ≤ k + 2 ∧ Below b w1 wc ∧ ps[I]? = some p ∧ At wc B 0 p.l p.u p.g
theorem keepB {w w' : World} {p : Addr} {v : Value} (hb : Below w.heap.size w w') (h : w.cell? p = some v) : w'.cell? p = some v := (hb.cell (lt_of_cell h)).trans h
theorem At.put_u {w : World} {b : Nat} {l u g : Int} (h : At w b 0 l u g) (x : Int) : At (w.setCell ⟨b, 1, none⟩ (.int .i64 x)) b 0 l x g := by
  have ne : ∀ k, k ≠ 1 → (⟨b, 1, none⟩ : Addr) ≠ ⟨b, k, none⟩ := fun k hk e => by injection e with _ e2 _; exact hk e2.symm
  refine ⟨by simpa using h.hb, ?_, ?_, ?_, ?_, ?_, ?_⟩
  · rw [World.cell?_setCell_other _ _ _ _ (ne 0 (by decide))]; exact h.hl
  · exact World.cell?_setCell_same' _ _ _ (by have := h.hu; rw [show 0 + 1 = 1 from rfl] at this; rw [this]; rfl)
  · rw [World.cell?_setCell_other _ _ _ _ (ne (0 + 2) (by decide))]; exact h.hg
  · rw [World.frozen?_setCell]; exact h.fl
  · rw [World.frozen?_setCell]; exact h.fu
  · rw [World.frozen?_setCell]; exact h.fg
theorem At.put3 {w : World} {b : Nat} {l u g : Int} (h : At w b 0 l u g) (x y z : Int) : At (((w.setCell ⟨b, 0, none⟩ (.int .i64 x)).setCell ⟨b, 1, none⟩ (.int .i64 y)).setCell ⟨b, 2, none⟩ (.int .i64 z)) b 0 x y z :=
  ((h.put_l x).put_u y).put_g z
theorem Sw.right {b F k I A B : Nat} {w1 : World} {o : Pu} {want : Int} {wc : World} (h : Sw b F k I A B w1 o want wc) (hw : want = 0) : Sw2 b F k I B w1 wc := by
  obtain ⟨g, cap, g2, cap2, ps, us, p, t, h1, h2, h3, h4, h5, h6, h7, _, h9⟩ := h
  rcases h9 with ⟨_, rfl⟩ | ⟨hx, _⟩
  · exact ⟨g, cap, g2, cap2, ps, us, t, h1, h2, h3, h4, h5, h7⟩
  · exact absurd hw hx
theorem Sw.reset {b F k I A B : Nat} {w1 : World} {o : Pu} {want : Int} {wc : World} (h : Sw b F k I A B w1 o want wc) (hw : want ≠ 0) :
    Sw2 b F k I B w1 (((wc.setCell ⟨B, 0, none⟩ (.int .i64 o.l)).setCell ⟨B, 1, none⟩ (.int .i64 o.u)).setCell ⟨B, 2, none⟩ (.int .i64 o.g)) := by
  obtain ⟨g, cap, g2, cap2, ps, us, p, t, h1, h2, h3, h4, h5, h6, h7, ⟨n0, n1, n2, n3, n4⟩, h9⟩ := h
  rcases h9 with ⟨hx, _⟩ | ⟨_, rfl⟩
  · exact absurd hx hw
  · exact ⟨g, cap, g2, cap2, ps, us, o, ((h1.set_far _ _ n2.symm n3.symm n4.symm).set_far _ _ n2.symm n3.symm n4.symm).set_far _ _ n2.symm n3.symm n4.symm, h2, h3, ((h4.setCell n0 _).setCell n0 _).setCell n0 _, h5, h7.put3 _ _ _⟩
theorem Sw.cells {b F k I A B : Nat} {w1 : World} {o : Pu} {want : Int} {wc : World} (h : Sw b F k I A B w1 o want wc) : At wc A 0 o.l o.u o.g ∧ (∃ t : Pu, At wc B 0 t.l t.u t.g) ∧ A ≠ B := by
  obtain ⟨g, cap, g2, cap2, ps, us, p, t, h1, h2, h3, h4, h5, h6, h7, ⟨n0, n1, n2, n3, n4⟩, h9⟩ := h
  exact ⟨h6, ⟨t, h7⟩, n1⟩

theorem Good.set_u {ps : List Pu} {us : List Int} {i : Nat} {p : Pu} (h : Good ps us) (hp : ps[i]? = some p) (x : Int) (h0 : 0 ≤ x) (h1 : x + p.g ≤ p.l) : Good (ps.set i ⟨p.l, x, p.g⟩) us := by
  obtain ⟨a1, a2, a3, a4⟩ := h.just.at' hp
  refine ⟨by simp [h.len], by simpa using h.pos, AllJust.set (q := ⟨p.l, x, p.g⟩) h.just ⟨a1, h0, a3, h1⟩, h.up, fun j r hr => ?_⟩
  rw [csum_same _ _ _ i p ⟨p.l, x, p.g⟩ hp rfl]
  by_cases hji : j = i
  · subst hji
    rw [List.getElem?_set_self (List.getElem?_eq_some_iff.1 hp).1] at hr
    cases hr
    exact h.sum j p hp
  · rw [List.getElem?_set_ne (fun e => hji e.symm)] at hr
    exact h.sum j r hr
theorem Good.set_g {ps : List Pu} {us : List Int} {i : Nat} {p : Pu} (h : Good ps us) (hp : ps[i]? = some p) (x : Int) (h0 : p.g ≤ x) (h1 : p.u + x ≤ p.l) : Good (ps.set i ⟨p.l, p.u, x⟩) us := by
  obtain ⟨a1, a2, a3, a4⟩ := h.just.at' hp
  refine ⟨by simp [h.len], by simpa using h.pos, AllJust.set (q := ⟨p.l, p.u, x⟩) h.just ⟨a1, a2, by show 0 ≤ x; omega, h1⟩, h.up, fun j r hr => ?_⟩
  rw [csum_same _ _ _ i p ⟨p.l, p.u, x⟩ hp rfl]
  by_cases hji : j = i
  · subst hji
    rw [List.getElem?_set_self (List.getElem?_eq_some_iff.1 hp).1] at hr
    cases hr
    have := h.sum j p hp
    show _ ≤ x
    omega
  · rw [List.getElem?_set_ne (fun e => hji e.symm)] at hr
    exact h.sum j r hr
theorem Good.given {ps : List Pu} {us : List Int} {i : Nat} {p : Pu} {n : Int} (h : Good ps us) (hp : ps[i]? = some p) (h0 : 0 ≤ n) (h1 : n ≤ p.l - p.u - p.g) : Good (ps.set i ⟨p.l, p.u, p.g + n⟩ ++ [⟨n, 0, 0⟩]) (us ++ [(i : Int)]) := by
  obtain ⟨a1, a2, a3, a4⟩ := h.just.at' hp
  have hg := h.set_g hp (p.g + n) (by omega) (by omega)
  have hlt := (List.getElem?_eq_some_iff.1 hp).1
  refine ⟨by simp [h.len], by simp, AllJust.append hg.just ⟨by show n ≤ _; omega, Int.le_refl _, Int.le_refl _, by show (0 : Int) + 0 ≤ n; omega⟩, fun j u hu => ?_, fun j r hr => ?_⟩
  · by_cases hj : j < us.length
    · rw [List.getElem?_append_left hj] at hu
      exact h.up j u hu
    · rw [List.getElem?_append_right (by omega)] at hu
      have : j - us.length = 0 := by
        rcases Nat.eq_zero_or_pos (j - us.length) with e | e
        · exact e
        · rw [List.getElem?_eq_none (by simp; omega)] at hu; cases hu
      rw [this] at hu
      simp at hu
      subst hu
      have := h.len
      omega
  · rw [csum_append _ _ _ _ _ (by simp [h.len])]
    simp only [csum]
    rw [csum_same _ _ _ i p ⟨p.l, p.u, p.g + n⟩ hp rfl]
    by_cases hj : j < ps.length
    · rw [List.getElem?_append_left (by simpa using hj)] at hr
      by_cases hji : j = i
      · subst hji
        rw [List.getElem?_set_self hlt] at hr
        cases hr
        have := h.sum j p hp
        rw [if_pos rfl]
        show _ ≤ p.g + n
        omega
      · rw [List.getElem?_set_ne (fun e => hji e.symm)] at hr
        have := h.sum j r hr
        rw [if_neg (by omega)]
        omega
    · rw [List.getElem?_append_right (by simpa using hj)] at hr
      have : j - ps.length = 0 := by
        rcases Nat.eq_zero_or_pos (j - ps.length) with e | e
        · exact e
        · rw [List.getElem?_eq_none (by simp; omega)] at hr; cases hr
      rw [show (ps.set i ⟨p.l, p.u, p.g + n⟩).length = ps.length by simp, this] at hr
      simp at hr
      subst hr
      rw [if_neg (by omega), csum_zero]
      · show (0 : Int) + (0 + 0) ≤ 0; omega
      · intro u hu
        obtain ⟨q, hq⟩ := List.getElem?_of_mem hu
        have h1 := h.up q u hq
        have h2 := (List.getElem?_eq_some_iff.1 hq).1
        have := h.len
        omega

/-- where the switch begins -/
structure Pre (b F k I A : Nat) (w1 w3 : World) (p : Pu) (g cap g2 cap2 : Nat) (ps : List Pu) (us : List Int) : Prop where
  fs : PFS b F g cap g2 cap2 ps us w3
  good : Good ps us
  len : ps.length ≤ k + 1
  bl : Below b w1 w3
  hp : ps[I]? = some p
  ca : At w3 A 0 p.l p.u p.g
  cb : At w3 (A + 1) 0 p.l p.u p.g
  bA : b ≤ A
  FA : F < A
  gA : g < A
  g2A : g2 < A
theorem Pre.szle {b F k I A : Nat} {w1 w3 : World} {p : Pu} {g cap g2 cap2 : Nat} {ps : List Pu} {us : List Int} (h : Pre b F k I A w1 w3 p g cap g2 cap2 ps us) : b ≤ w3.heap.size := by
  have := h.ca.hb; have := h.bA; omega
/-- nothing was done; a cell of 'then' was written -/
theorem Pre.bad {b F k I A : Nat} {w1 w3 w4 : World} {p t : Pu} {g cap g2 cap2 : Nat} {ps : List Pu} {us : List Int} (h : Pre b F k I A w1 w3 p g cap g2 cap2 ps us) (hb : Below w3.heap.size w3 w4) (j : Nat) (v : Value) (want : Int) (hw : want ≠ 0)
    (hB : At (w4.setCell ⟨A + 1, j, none⟩ v) (A + 1) 0 t.l t.u t.g) : Sw b F k I A (A + 1) w1 p want (w4.setCell ⟨A + 1, j, none⟩ v) := by
  have h1 := h.FA
  have h2 := h.gA
  have h3 := h.g2A
  have h4 := h.bA
  have h5 := h.szle
  refine ⟨g, cap, g2, cap2, ps, us, p, t, (h.fs.below hb).set_far _ _ (by show _ ≠ A + 1; omega) (by show _ ≠ A + 1; omega) (by show _ ≠ A + 1; omega), h.good, by have := h.len; omega, (h.bl.trans (hb.mono h5)).setCell (by show b ≤ A + 1; omega) _, h.hp, (h.ca.below hb h.ca.hb).set_other _ (by show A ≠ A + 1; omega) _, hB, ⟨by omega, by omega, by omega, by omega, by omega⟩, .inr ⟨hw, rfl⟩⟩
theorem Pre.bad_u {b F k I A : Nat} {w1 w3 w4 : World} {p : Pu} {g cap g2 cap2 : Nat} {ps : List Pu} {us : List Int} (h : Pre b F k I A w1 w3 p g cap g2 cap2 ps us) (hb : Below w3.heap.size w3 w4) (x want : Int) (hw : want ≠ 0) : Sw b F k I A (A + 1) w1 p want (w4.setCell ⟨A + 1, 1, none⟩ (.int .i64 x)) :=
  h.bad (t := ⟨p.l, x, p.g⟩) hb 1 _ want hw ((h.cb.below hb h.cb.hb).put_u x)
theorem Pre.bad_g {b F k I A : Nat} {w1 w3 w4 : World} {p : Pu} {g cap g2 cap2 : Nat} {ps : List Pu} {us : List Int} (h : Pre b F k I A w1 w3 p g cap g2 cap2 ps us) (hb : Below w3.heap.size w3 w4) (x want : Int) (hw : want ≠ 0) : Sw b F k I A (A + 1) w1 p want (w4.setCell ⟨A + 1, 2, none⟩ (.int .i64 x)) :=
  h.bad (t := ⟨p.l, p.u, x⟩) hb 2 _ want hw ((h.cb.below hb h.cb.hb).put_g x)
/-- what is used was turned -/
theorem Pre.did_u {b F k I A : Nat} {w1 w3 w4 : World} {p : Pu} {g cap g2 cap2 : Nat} {ps : List Pu} {us : List Int} (h : Pre b F k I A w1 w3 p g cap g2 cap2 ps us) (x : Int) (h0 : 0 ≤ x) (hx : x + p.g ≤ p.l) (hb : Below w3.heap.size (w3.setCell ⟨g, I * 3 + 1, none⟩ (.int .i64 x)) w4) :
    Sw b F k I A (A + 1) w1 p 0 (w4.setCell ⟨A + 1, 1, none⟩ (.int .i64 x)) := by
  have h1 := h.FA
  have h2 := h.gA
  have h3 := h.g2A
  have h4 := h.bA
  have h5 := h.szle
  have e : (w3.setCell ⟨g, I * 3 + 1, none⟩ (.int .i64 x)).heap.size = w3.heap.size := by simp
  have hb' : Below (w3.setCell ⟨g, I * 3 + 1, none⟩ (.int .i64 x)).heap.size (w3.setCell ⟨g, I * 3 + 1, none⟩ (.int .i64 x)) w4 := by rw [e]; exact hb
  have hbg := h.fs.lts.1
  refine ⟨g, cap, g2, cap2, ps.set I ⟨p.l, x, p.g⟩, us, ⟨p.l, x, p.g⟩, ⟨p.l, x, p.g⟩, ((h.fs.set_u h.hp x).below hb').set_far _ _ (by show _ ≠ A + 1; omega) (by show _ ≠ A + 1; omega) (by show _ ≠ A + 1; omega), h.good.set_u h.hp x h0 hx, by have := h.len; simp; omega, ((h.bl.setCell (by exact hbg) _).trans (hb.mono h5)).setCell (by show b ≤ A + 1; omega) _, List.getElem?_set_self (List.getElem?_eq_some_iff.1 h.hp).1, ((h.ca.set_other _ (by show A ≠ g; omega) _).below hb h.ca.hb).set_other _ (by show A ≠ A + 1; omega) _, ((h.cb.set_other _ (by show A + 1 ≠ g; omega) _).below hb h.cb.hb).put_u x, ⟨by omega, by omega, by omega, by omega, by omega⟩, .inl ⟨rfl, rfl⟩⟩

/-- before Give -/
structure HG0 (b F k I A : Nat) (w1 w3 : World) (p : Pu) (g cap g2 cap2 : Nat) (ps : List Pu) (us : List Int) (M : Int) (D : Nat) : Prop where
  pre : Pre b F k I A w1 w3 p g cap g2 cap2 ps us
  dM : w3.cell? ⟨D, 2, none⟩ = some (.int .i64 M)
  lD : D < A
  m0 : 0 ≤ M
  m1 : M ≤ p.l - p.u - p.g
  ne : D ≠ g
/-- behind it -/
structure HG1 (b F k I A E : Nat) (w1 w4 : World) (p : Pu) (g cap g2 cap2 : Nat) (ps : List Pu) (us : List Int) (M : Int) (D : Nat) : Prop where
  dM : w4.cell? ⟨D, 2, none⟩ = some (.int .i64 M)
  ca : At w4 A 0 p.l p.u p.g
  cb : At w4 (A + 1) 0 p.l p.u p.g
  ce : At w4 E 0 0 0 0
  fs : PFS b F g cap g2 cap2 (ps.set I ⟨p.l, p.u, p.g + M⟩) us w4
  bl : Below b w1 w4
theorem HG0.step {b F k I A : Nat} {w1 w3 : World} {p : Pu} {g cap g2 cap2 : Nat} {ps : List Pu} {us : List Int} {M : Int} {D : Nat} (h : HG0 b F k I A w1 w3 p g cap g2 cap2 ps us M D) :
    HG1 b F k I A w3.heap.size w1 ((((w3.alloc (puc 0 0 0)).setCell ⟨g, I * 3 + 2, none⟩ (.int .i64 (p.g + M))).alloc (puc M 0 0)).alloc (puc p.l p.u p.g)) p g cap g2 cap2 ps us M D := by
  obtain ⟨hp, dM, lD, m0, m1, ne⟩ := h
  have hgA := hp.gA
  have hA := hp.ca.hb
  have hB := hp.cb.hb
  have hsz := hp.szle
  have hbg := hp.fs.lts.1
  have hgl := hp.fs.lts.2.1
  have e0 : (w3.alloc (puc 0 0 0)).heap.size = w3.heap.size + 1 := by simp
  have hbl : Below w3.heap.size w3 (w3.alloc (puc 0 0 0)) := (Below.refl _ _).alloc (Nat.le_refl _) _
  have s1 : ((w3.alloc (puc 0 0 0)).setCell ⟨g, I * 3 + 2, none⟩ (.int .i64 (p.g + M))).heap.size = w3.heap.size + 1 := by simp
  have hb2 : Below (w3.heap.size + 1) ((w3.alloc (puc 0 0 0)).setCell ⟨g, I * 3 + 2, none⟩ (.int .i64 (p.g + M))) ((((w3.alloc (puc 0 0 0)).setCell ⟨g, I * 3 + 2, none⟩ (.int .i64 (p.g + M))).alloc (puc M 0 0)).alloc (puc p.l p.u p.g)) :=
    ((Below.refl _ _).alloc (by rw [s1]; omega) _).alloc (by simp) _
  refine ⟨?_, ?_, ?_, ?_, ?_, ?_⟩
  · refine (hb2.cell (p := ⟨D, 2, none⟩) (by show D < _; omega)).trans ?_
    rw [World.cell?_of_block (w := w3.alloc (puc 0 0 0)) (Below.heap_setCell _ _ _ _ (by exact ne))]
    exact (hbl.cell (p := ⟨D, 2, none⟩) (by show D < _; omega)).trans dM
  · exact ((hp.ca.below hbl hA).set_other _ (by show A ≠ g; omega) _).below hb2 (by omega)
  · exact ((hp.cb.below hbl hB).set_other _ (by show A + 1 ≠ g; omega) _).below hb2 (by omega)
  · exact ((at_of_block (heap_alloc_new w3 (puc 0 0 0))).set_other _ (by show w3.heap.size ≠ g; omega) _).below hb2 (by omega)
  · exact (((hp.fs.alloc _).set_g hp.hp (p.g + M)).alloc _).alloc _
  · exact ((hp.bl.alloc hsz _).setCell (by exact hbg) _).trans (hb2.mono (by omega))

/-- before the two appends -/
structure HG2 (b F k I A E : Nat) (w1 w5 : World) (p : Pu) (g cap g2 cap2 N : Nat) (ps : List Pu) (us : List Int) (M : Int) : Prop where
  c0 : w5.cell? ⟨F, 0, none⟩ = some (.slice (some ⟨g, 0, none⟩) N cap)
  c1 : w5.cell? ⟨F, 1, none⟩ = some (.slice (some ⟨g2, 0, none⟩) N cap2)
  f0 : w5.frozen? ⟨F, 0, none⟩ = false
  f1 : w5.frozen? ⟨F, 1, none⟩ = false
  ca : At w5 A 0 p.l p.u p.g
  cb : At w5 (A + 1) 0 p.l p.u (p.g + M)
  ce : At w5 E 0 M 0 0
  ol : w5.ownsRow b 24 3 (.slice (some ⟨g, 0, none⟩) N cap) N (flat (ps.set I ⟨p.l, p.u, p.g + M⟩))
  ou : w5.ownsRow b 3 1 (.slice (some ⟨g2, 0, none⟩) N cap2) N (ints us)
  bl : Below b w1 w5
  bF : b ≤ F
  lF : F < w5.heap.size
  lA : A + 1 < w5.heap.size
  FA : F < A
  gA : g < A
  g2A : g2 < A
  bA : b ≤ A
  n1 : F ≠ g
  n2 : F ≠ g2
  n3 : g ≠ g2
  AE : A + 1 < E
  lE : E < w5.heap.size
theorem HG1.stored {b F k I A E N : Nat} {w1 w3 w4 : World} {p : Pu} {g cap g2 cap2 : Nat} {ps : List Pu} {us : List Int} {M : Int} {D : Nat} (h : HG1 b F k I A E w1 w4 p g cap g2 cap2 ps us M D) (hp : Pre b F k I A w1 w3 p g cap g2 cap2 ps us) (hE : E = w3.heap.size) (hN : ps.length = N) :
    HG2 b F k I A E w1 ((((w4.setCell ⟨E, 0, none⟩ (.int .i64 M)).setCell ⟨E, 1, none⟩ (.int .i64 0)).setCell ⟨E, 2, none⟩ (.int .i64 0)).setCell ⟨A + 1, 2, none⟩ (.int .i64 (p.g + M))) p g cap g2 cap2 N ps us M := by
  have h1 := hp.FA
  have h2 := hp.gA
  have h3 := hp.g2A
  have h4 := hp.bA
  have h5 := hp.ca.hb
  have h6 := hp.cb.hb
  have hs := hp.szle
  have hfs := (((h.fs.set_far ⟨E, 0, none⟩ (.int .i64 M) (by show _ ≠ E; omega) (by show _ ≠ E; omega) (by show _ ≠ E; omega)).set_far ⟨E, 1, none⟩ (.int .i64 0) (by show _ ≠ E; omega) (by show _ ≠ E; omega) (by show _ ≠ E; omega)).set_far ⟨E, 2, none⟩ (.int .i64 0) (by show _ ≠ E; omega) (by show _ ≠ E; omega) (by show _ ≠ E; omega)).set_far ⟨A + 1, 2, none⟩ (.int .i64 (p.g + M)) (by show _ ≠ A + 1; omega) (by show _ ≠ A + 1; omega) (by show _ ≠ A + 1; omega)
  have hl : (ps.set I ⟨p.l, p.u, p.g + M⟩).length = N := by simp [hN]
  have k0 := hfs.c0
  have k1 := hfs.c1
  have kl := hfs.fam
  have ku := hfs.ups
  unfold Fam at kl
  rw [hl] at k0 k1 kl ku
  exact ⟨k0, k1, hfs.f0, hfs.f1, (((h.ca.set_other _ (by show A ≠ E; omega) _).set_other _ (by show A ≠ E; omega) _).set_other _ (by show A ≠ E; omega) _).set_other _ (by show A ≠ A + 1; omega) _,
    (((h.cb.set_other _ (by show A + 1 ≠ E; omega) _).set_other _ (by show A + 1 ≠ E; omega) _).set_other _ (by show A + 1 ≠ E; omega) _).put_g _,
    (h.ce.put3 M 0 0).set_other _ (by show E ≠ A + 1; omega) _, kl, ku, (((h.bl.setCell (by show b ≤ E; omega) _).setCell (by show b ≤ E; omega) _).setCell (by show b ≤ E; omega) _).setCell (by show b ≤ A + 1; omega) _,
    hp.fs.le, hfs.lt, (((h.cb.set_other _ (by show A + 1 ≠ E; omega) _).set_other _ (by show A + 1 ≠ E; omega) _).set_other _ (by show A + 1 ≠ E; omega) _).put_g (p.g + M) |>.hb, h1, h2, h3, h4, hp.fs.ne1, hp.fs.ne2, hp.fs.ne3, by omega, ((h.ce.put3 M 0 0).set_other ⟨A + 1, 2, none⟩ (by show E ≠ A + 1; omega) (.int .i64 (p.g + M))).hb⟩

/-- cells that were laid to be appended -/
def News (w : World) (B : Nat) (cs : List Value) : Prop := ∀ j u, cs[j]? = some u → w.cell? ((⟨B, 0, none⟩ : Addr).add j) = some u
theorem News.new3 (w : World) (B : Nat) (h : w.heap.size = B) (x y z : Value) (t : TypeId) : News (w.alloc (.cells #[x, y, z] t)) B [x, y, z] := by
  subst h; exact three_new w x y z t
theorem News.new1 (w : World) (B : Nat) (h : w.heap.size = B) (x : Value) (t : TypeId) : News (w.alloc (.cells #[x] t)) B [x] := by
  subst h; exact cell_one_new w x t
theorem News.alloc {w : World} {B : Nat} {cs : List Value} (h : News w B cs) (o : Obj) : News (w.alloc o) B cs := fun j u hj => keepA o (h j u hj)
theorem News.drew {w : World} {B : Nat} {cs : List Value} (h : News w B cs) : News w.drew B cs := h
theorem News.grown {w w' : World} {B : Nat} {cs : List Value} {row : Option Nat} (h : News w B cs) (hg : w.grownBy w' row) (hne : some B ≠ row) : News w' B cs := fun j u hj => by
  have := h j u hj
  rw [add_at] at this ⊢
  exact hg.cell this hne
theorem own_drew {w : World} {base size n : Nat} {e : TypeId} {v : Value} {xs : List Value} (h : w.ownsRow base e size v n xs) : w.drew.ownsRow base e size v n xs := h
theorem own_set_far {w : World} {base size n : Nat} {e : TypeId} {v : Value} {xs : List Value} (h : w.ownsRow base e size v n xs) (a : Addr) (u : Value) (hne : ∀ k, v.ownBlock = some k → k ≠ a.block) : (w.setCell a u).ownsRow base e size v n xs :=
  ownsRow_same h (fun k hk => Below.heap_setCell _ _ _ _ (hne k hk))
theorem given_fin {b F k I A N gl capl gu capu : Nat} {w1 w3 W : World} {p : Pu} {g cap g2 cap2 : Nat} {ps : List Pu} {us : List Int} {M : Int} {v0 v1 : Value} (hp : Pre b F k I A w1 w3 p g cap g2 cap2 ps us) (m0 : 0 ≤ M) (m1 : M ≤ p.l - p.u - p.g) (hN : ps.length = N)
    (hl : W.ownsRow b 24 3 (.slice (some ⟨gl, 0, none⟩) (N + 1) capl) (N + 1) (flat (ps.set I ⟨p.l, p.u, p.g + M⟩) ++ [.int .i64 M, .int .i64 0, .int .i64 0])) (hu : W.ownsRow b 3 1 (.slice (some ⟨gu, 0, none⟩) (N + 1) capu) (N + 1) (ints us ++ [.int .i64 I]))
    (c0 : W.cell? ⟨F, 0, none⟩ = some v0) (c1 : W.cell? ⟨F, 1, none⟩ = some v1) (f0 : W.frozen? ⟨F, 0, none⟩ = false) (f1 : W.frozen? ⟨F, 1, none⟩ = false) (ca : At W A 0 p.l p.u p.g) (cb : At W (A + 1) 0 p.l p.u (p.g + M)) (bl : Below b w1 W) (lF : F < W.heap.size)
    (n1 : gl ≠ F) (n2 : gu ≠ F) (n3 : gl ≠ gu) (n4 : A + 1 ≠ gl) (n5 : A + 1 ≠ gu) :
    Sw b F k I A (A + 1) w1 p 0 ((W.setCell ⟨F, 0, none⟩ (.slice (some ⟨gl, 0, none⟩) (N + 1) capl)).setCell ⟨F, 1, none⟩ (.slice (some ⟨gu, 0, none⟩) (N + 1) capu)) := by
  have hlen : (ps.set I ⟨p.l, p.u, p.g + M⟩ ++ [(⟨M, 0, 0⟩ : Pu)]).length = N + 1 := by simp [hN]
  have hFA := hp.FA
  have hg := hp.good.given hp.hp m0 m1
  have hlt := (List.getElem?_eq_some_iff.1 hp.hp).1
  have ne01 : (⟨F, 0, none⟩ : Addr) ≠ ⟨F, 1, none⟩ := by intro e; injection e with _ e2 _; omega
  have hfs : PFS b F gl capl gu capu (ps.set I ⟨p.l, p.u, p.g + M⟩ ++ [⟨M, 0, 0⟩]) (us ++ [(I : Int)]) ((W.setCell ⟨F, 0, none⟩ (.slice (some ⟨gl, 0, none⟩) (N + 1) capl)).setCell ⟨F, 1, none⟩ (.slice (some ⟨gu, 0, none⟩) (N + 1) capu)) := by
    refine ⟨by simpa using lF, hp.fs.le, ?_, ?_, ?_, ?_, ?_, ?_, n1.symm, n2.symm, n3⟩
    · rw [hlen, World.cell?_setCell_other _ _ _ _ ne01.symm]
      exact World.cell?_setCell_same' _ _ _ (by rw [c0]; rfl)
    · rw [hlen]
      exact World.cell?_setCell_same' _ _ _ (by rw [World.cell?_setCell_other _ _ _ _ ne01, c1]; rfl)
    · rw [World.frozen?_setCell, World.frozen?_setCell]; exact f0
    · rw [World.frozen?_setCell, World.frozen?_setCell]; exact f1
    · unfold Fam
      rw [hlen, flat_append]
      exact own_set_far (own_set_far hl _ _ (by intro k hk; have e : some gl = some k := hk; cases e; exact n1)) _ _ (by intro k hk; have e : some gl = some k := hk; cases e; exact n1)
    · rw [hlen, ints_append]
      exact own_set_far (own_set_far hu _ _ (by intro k hk; have e : some gu = some k := hk; cases e; exact n2)) _ _ (by intro k hk; have e : some gu = some k := hk; cases e; exact n2)
  refine ⟨gl, capl, gu, capu, _, _, ⟨p.l, p.u, p.g + M⟩, ⟨p.l, p.u, p.g + M⟩, hfs, hg, by rw [hlen]; have := hp.len; omega, (bl.setCell (by exact hp.fs.le) _).setCell (by exact hp.fs.le) _, ?_, (ca.set_other _ (by show A ≠ F; omega) _).set_other _ (by show A ≠ F; omega) _, (cb.set_other _ (by show A + 1 ≠ F; omega) _).set_other _ (by show A + 1 ≠ F; omega) _, ⟨by have := hp.bA; omega, by omega, by omega, n4, n5⟩, .inl ⟨rfl, rfl⟩⟩
  rw [List.getElem?_append_left (by simpa using hlt), List.getElem?_set_self hlt]
theorem At.grown {w w' : World} {b o : Nat} {l u g : Int} {row : Option Nat} (h : At w b o l u g) (hg : w.grownBy w' row) (hne : some b ≠ row) : At w' b o l u g := by
  have e := hg.block b h.hb hne
  have hc : ∀ k, w'.cell? ⟨b, k, none⟩ = w.cell? ⟨b, k, none⟩ := fun k => World.cell?_of_block (a := ⟨b, k, none⟩) e
  have hf : ∀ k, w'.frozen? ⟨b, k, none⟩ = w.frozen? ⟨b, k, none⟩ := fun k => World.frozen?_of_block (a := ⟨b, k, none⟩) e
  exact ⟨Nat.lt_of_lt_of_le h.hb hg.size, (hc _).trans h.hl, (hc _).trans h.hu, (hc _).trans h.hg, (hf _).trans h.fl, (hf _).trans h.fu, (hf _).trans h.fg⟩
end Go.Proofs.Yteflfflmedkdiaa
