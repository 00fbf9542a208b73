/- The contract of 'move'. Conditions: as each names them. -/
import Derived.Test.YteflfflmedkdiaaPurseFam
import Derived.Deep.DeepCutAuto
import Derived.Deep.CutBlock
import Derived.Deep.QuietTactic
import Derived.BigQuiet
set_option linter.unusedVariables false
namespace Go.Proofs.Yteflfflmedkdiaa
open Go.ChangeShapes Go.WideShapes Go.ChangeAt Go.RowKit

theorem flat_set_l : ∀ (ps : List Pu) (i : Nat) (p : Pu) (x : Int), ps[i]? = some p → (flat ps).set (3 * i) (.int .i64 x) = flat (ps.set i ⟨x, p.u, p.g⟩)
  | [], i, p, x, h => by simp at h
  | q :: ps, 0, p, x, h => by simp at h; subst h; simp [flat]
  | q :: ps, i + 1, p, x, h => by
    have := flat_set_l ps i p x (by simpa using h)
    rw [show 3 * (i + 1) = (3 * i) + 1 + 1 + 1 by omega]
    simp only [flat, List.set_cons_succ, this]
theorem Fam.set_l {base g cap i : Nat} {w : World} {ps : List Pu} {p : Pu} (h : Fam base w g cap ps) (hi : ps[i]? = some p) (x : Int) : Fam base (w.setCell ⟨g, 3 * i, none⟩ (.int .i64 x)) g cap (ps.set i ⟨x, p.u, p.g⟩) := by
  have hlt := (List.getElem?_eq_some_iff.1 hi).1
  have := own_set h (k := 3 * i) (by rw [flat_length]; omega) (.int .i64 x)
  rw [flat_set_l ps i p x hi] at this
  unfold Fam
  rw [List.length_set]
  exact this

theorem PFS.store {b F g cap g2 cap2 o : Nat} {ps ps' : List Pu} {us : List Int} {w : World} {v : Value} (h : PFS b F g cap g2 cap2 ps us w) (hl : ps'.length = ps.length) (hf : Fam b (w.setCell ⟨g, o, none⟩ v) g cap ps') : PFS b F g cap g2 cap2 ps' us (w.setCell ⟨g, o, none⟩ v) := by
  have hF := Below.heap_setCell w ⟨g, o, none⟩ v F (by show F ≠ g; exact h.ne1)
  have hg2 := Below.heap_setCell w ⟨g, o, none⟩ v g2 (by show g2 ≠ g; exact fun e => h.ne3 e.symm)
  refine ⟨by have := h.lt; simpa using this, h.le, ?_, ?_, (World.frozen?_of_block (a := ⟨F, 0, none⟩) hF).trans h.f0, (World.frozen?_of_block (a := ⟨F, 1, none⟩) hF).trans h.f1, hf, ?_, h.ne1, h.ne2, h.ne3⟩
  · rw [hl]; exact (World.cell?_of_block (a := ⟨F, 0, none⟩) hF).trans h.c0
  · rw [hl]; exact (World.cell?_of_block (a := ⟨F, 1, none⟩) hF).trans h.c1
  · rw [hl]; exact ownsRow_same h.ups (fun k hk => by have e : some g2 = some k := hk; cases e; exact hg2)
theorem PFS.set_g {b F g cap g2 cap2 i : Nat} {ps : List Pu} {us : List Int} {w : World} {p : Pu} (h : PFS b F g cap g2 cap2 ps us w) (hp : ps[i]? = some p) (x : Int) : PFS b F g cap g2 cap2 (ps.set i ⟨p.l, p.u, x⟩) us (w.setCell ⟨g, i * 3 + 2, none⟩ (.int .i64 x)) := by
  rw [Nat.mul_comm]; exact h.store (by simp) (h.fam.set_g hp x)
theorem PFS.set_u {b F g cap g2 cap2 i : Nat} {ps : List Pu} {us : List Int} {w : World} {p : Pu} (h : PFS b F g cap g2 cap2 ps us w) (hp : ps[i]? = some p) (x : Int) : PFS b F g cap g2 cap2 (ps.set i ⟨p.l, x, p.g⟩) us (w.setCell ⟨g, i * 3 + 1, none⟩ (.int .i64 x)) := by
  rw [Nat.mul_comm]; exact h.store (by simp) (h.fam.set_u hp x)
theorem PFS.set_l {b F g cap g2 cap2 i : Nat} {ps : List Pu} {us : List Int} {w : World} {p : Pu} (h : PFS b F g cap g2 cap2 ps us w) (hp : ps[i]? = some p) (x : Int) : PFS b F g cap g2 cap2 (ps.set i ⟨x, p.u, p.g⟩) us (w.setCell ⟨g, i * 3, none⟩ (.int .i64 x)) := by
  rw [Nat.mul_comm]; exact h.store (by simp) (h.fam.set_l hp x)
theorem PFS.alloc {b F g cap g2 cap2 : Nat} {ps : List Pu} {us : List Int} {w : World} (h : PFS b F g cap g2 cap2 ps us w) (o : Obj) : PFS b F g cap g2 cap2 ps us (w.alloc o) := h.below ((Below.refl _ _).alloc (Nat.le_refl _) _)
theorem PFS.drew {b F g cap g2 cap2 : Nat} {ps : List Pu} {us : List Int} {w : World} (h : PFS b F g cap g2 cap2 ps us w) : PFS b F g cap g2 cap2 ps us w.drew := h.below (Below.refl _ _).drew

theorem Good.moved {ps : List Pu} {us : List Int} {i k : Nat} {u n : Int} {p q : Pu} (h : Good ps us) (hu : us[k]? = some u) (e : u = (i : Int)) (hp : ps[i]? = some p) (hq : ps[k]? = some q)
    (hn : n ≤ p.l - p.u - p.g) (hn2 : -n ≤ q.l - q.u - q.g) : Good ((ps.set i ⟨p.l, p.u, p.g + n⟩).set k ⟨q.l + n, q.u, q.g⟩) us ∧ q.l + n ≤ 9223372036854775807 ∧ i ≠ k := by
  have hik : i ≠ k := by have := h.up k u hu; omega
  obtain ⟨a1, a2, a3, a4⟩ := h.just.at' hp
  obtain ⟨b1, b2, b3, b4⟩ := h.just.at' hq
  have h1 := csum_one h.len h.just hu hq e
  have h2 := h.sum i p hp
  have hq' : (ps.set i ⟨p.l, p.u, p.g + n⟩)[k]? = some q := by rw [List.getElem?_set_ne hik]; exact hq
  have hlt := (List.getElem?_eq_some_iff.1 hp).1
  have hltk := (List.getElem?_eq_some_iff.1 hq).1
  refine ⟨⟨by simp [h.len], by simpa using h.pos, ?_, h.up, ?_⟩, by omega, hik⟩
  · have J1 : Just p.l p.u (p.g + n) := ⟨a1, a2, by omega, by omega⟩
    have J2 : Just (q.l + n) q.u q.g := ⟨by omega, b2, b3, by omega⟩
    exact AllJust.set (q := ⟨q.l + n, q.u, q.g⟩) (AllJust.set (q := ⟨p.l, p.u, p.g + n⟩) h.just J1) J2
  · intro j r hr
    rw [csum_set _ _ _ k u q _ hu hq', csum_same _ _ _ i p ⟨p.l, p.u, p.g + n⟩ hp rfl]
    by_cases hjk : j = k
    · subst hjk
      rw [List.getElem?_set_self (by simpa using hltk)] at hr
      cases hr
      have := h.sum j q hq
      rw [if_neg (by omega)]
      show _ ≤ q.g
      omega
    · rw [List.getElem?_set_ne (fun e => hjk e.symm)] at hr
      by_cases hji : j = i
      · subst hji
        rw [List.getElem?_set_self hlt] at hr
        cases hr
        have := h.sum j p hp
        rw [if_pos e]
        show _ ≤ p.g + n
        show csum j us ps + (q.l + n - q.l) ≤ _
        omega
      · rw [List.getElem?_set_ne (fun e => hji e.symm)] at hr
        have := h.sum j r hr
        rw [if_neg (by omega)]
        omega

theorem At.setg {w : World} {g i k : Nat} {l u x : Int} (v : Value) (hx : w.cell? ⟨g, k * 3, none⟩ = some (.int .i64 x)) : (w.setCell ⟨g, i * 3 + 2, none⟩ v).cell? ⟨g, k * 3, none⟩ = some (.int .i64 x) := by
  rw [World.cell?_setCell_other _ _ _ _ (by intro e; have := congrArg Addr.off e; simp at this; omega)]
  exact hx

theorem keepA {w : World} {p : Addr} {v : Value} (o : Obj) (h : w.cell? p = some v) : (w.alloc o).cell? p = some v := by
  rw [World.cell?_of_block (w := w) (Below.heap_alloc _ _ _ (lt_of_cell h))]; exact h
theorem keepD {w : World} {p : Addr} {v : Value} (h : w.cell? p = some v) : w.drew.cell? p = some v := h

/-- all blocks but g are as they were -/
structure Kept (g : Nat) (W w' : World) : Prop where
  size : W.heap.size ≤ w'.heap.size
  blk : ∀ j, j < W.heap.size → j ≠ g → w'.heap[j]? = W.heap[j]?
theorem Kept.cell {g : Nat} {W w' : World} (h : Kept g W w') {p : Addr} {v : Value} (hp : p.block ≠ g) (hv : W.cell? p = some v) : w'.cell? p = some v :=
  (World.cell?_of_block (h.blk _ (lt_of_cell hv) hp)).trans hv
theorem Kept.frozen {g : Nat} {W w' : World} (h : Kept g W w') {p : Addr} (hp : p.block ≠ g) (hl : p.block < W.heap.size) (hv : W.frozen? p = false) : w'.frozen? p = false :=
  (World.frozen?_of_block (h.blk _ hl hp)).trans hv
theorem Kept.of_below {g : Nat} {W w' : World} (h : Below W.heap.size W w') : Kept g W w' := ⟨h.size, fun j hj _ => h.block j hj⟩

/-- the call of Move between two of them -/
theorem moved_ok (b F g cap g2 cap2 i k : Nat) (ps : List Pu) (us : List Int) (u n : Int) (p q : Pu) (W : World) (h : PFS b F g cap g2 cap2 ps us W) (hG : Good ps us) (hu : us[k]? = some u) (e : u = (i : Int)) (hp : ps[i]? = some p) (hq : ps[k]? = some q)
    (hn : n ≤ p.l - p.u - p.g) (hn2 : -n ≤ q.l - q.u - q.g) :
    Calls Try.prog 12 #[.pointer (some ⟨g, i * 3, none⟩), .pointer (some ⟨g, k * 3, none⟩), .int .i64 n] W fun e w' => e = .returned (.int .i64 0) ∧ Below b W w' ∧ Kept g W w' ∧ PFS b F g cap g2 cap2 ((ps.set i ⟨p.l, p.u, p.g + n⟩).set k ⟨q.l + n, q.u, q.g⟩) us w' := by
  obtain ⟨hg, hmax, hik⟩ := hG.moved hu e hp hq hn hn2
  refine (move_ok g (i * 3) g (k * 3) p.l p.u p.g q.l q.u q.g n W (h.at' hp) (hG.just.at' hp) (h.at' hq) (hG.just.at' hq) (fun x => ?_) hn hn2 hmax).mono ?_
  · rw [World.cell?_setCell_other _ _ _ _ (by intro e; have := congrArg Addr.off e; simp at this; omega)]
    exact (h.at' hq).hl
  · rintro e w' ⟨rfl, rfl⟩
    have hbg := h.lts.1
    have hbs := h.le
    have hFs := h.lt
    refine ⟨rfl, ?_, ⟨by simp; omega, fun j hj hjg => ?_⟩, ?_⟩
    · exact ((((Below.refl _ _).setCell (by exact hbg) _).setCell (by exact hbg) _).alloc (by simp; omega) _).alloc (by simp; omega) _
    · rw [Below.heap_alloc _ _ _ (by simp; omega), Below.heap_alloc _ _ _ (by simp; omega), Below.heap_setCell _ _ _ _ hjg, Below.heap_setCell _ _ _ _ hjg]
    · exact (((h.set_g hp _).set_l (by rw [List.getElem?_set_ne hik]; exact hq) _).alloc _).alloc _


/-- two purses laid anew into blocks of their own -/
structure Duo (w0 : World) (A B : Nat) (p q : Pu) (wc : World) : Prop where
  bl : Below w0.heap.size w0 wc
  ne : A ≠ B
  hA : w0.heap.size ≤ A
  hB : w0.heap.size ≤ B
  lA : A < wc.heap.size
  lB : B < wc.heap.size
  a : At wc A 0 p.l p.u p.g
  b : At wc B 0 q.l q.u q.g
theorem at_of_block {w : World} {A : Nat} {l u g : Int} (h : w.heap[A]? = some (puc l u g)) : At w A 0 l u g := by
  refine ⟨(Array.getElem?_eq_some_iff.1 h).1, ?_, ?_, ?_, ?_, ?_, ?_⟩ <;> simp [World.cell?, World.frozen?, h, puc]
theorem Duo.mk1 (w0 : World) (p q : Pu) (s : Nat) (hs : w0.heap.size = s) : Duo w0 s (s + 1) p q ((w0.alloc (puc p.l p.u p.g)).alloc (puc q.l q.u q.g)).drew := by
  subst hs
  have h1 : (((w0.alloc (puc p.l p.u p.g)).alloc (puc q.l q.u q.g)).drew).heap[w0.heap.size]? = some (puc p.l p.u p.g) := (Below.heap_alloc _ _ _ (by simp)).trans (heap_alloc_new w0 _)
  have h2 : (((w0.alloc (puc p.l p.u p.g)).alloc (puc q.l q.u q.g)).drew).heap[w0.heap.size + 1]? = some (puc q.l q.u q.g) := by
    have := heap_alloc_new (w0.alloc (puc p.l p.u p.g)) (puc q.l q.u q.g)
    have e : (w0.alloc (puc p.l p.u p.g)).heap.size = w0.heap.size + 1 := by simp
    rw [e] at this
    exact this
  have a1 := at_of_block h1
  have a2 := at_of_block h2
  exact ⟨(((Below.refl _ _).alloc (Nat.le_refl _) _).alloc (by simp) _).drew, by omega, by omega, by omega, a1.hb, a2.hb, a1, a2⟩
theorem Duo.mk2 (w0 : World) (p q : Pu) (s : Nat) (hs : w0.heap.size = s) : Duo w0 (s + 1) s p q ((w0.alloc (puc q.l q.u q.g)).alloc (puc p.l p.u p.g)).drew := by
  have h := Duo.mk1 w0 q p s hs
  exact ⟨h.bl, h.ne.symm, h.hB, h.hA, h.lB, h.lA, h.b, h.a⟩

theorem At.heap {w w' : World} {b o : Nat} {l u g : Int} (h : At w b o l u g) (e : w'.heap = w.heap) : At w' b o l u g := by
  have hc : ∀ a, w'.cell? a = w.cell? a := fun a => World.cell?_of_block (by rw [e])
  have hf : ∀ a, w'.frozen? a = w.frozen? a := fun a => World.frozen?_of_block (by rw [e])
  exact ⟨by rw [e]; exact h.hb, (hc _).trans h.hl, (hc _).trans h.hu, (hc _).trans h.hg, (hf _).trans h.fl, (hf _).trans h.fu, (hf _).trans h.fg⟩
theorem At.below {w w' : World} {b o B : Nat} {l u g : Int} (h : At w b o l u g) (hb : Below B w w') (hl : b < B) : At w' b o l u g :=
  ⟨Nat.lt_of_lt_of_le h.hb hb.size, (hb.cell (p := ⟨b, o, none⟩) hl).trans h.hl, (hb.cell (p := ⟨b, o + 1, none⟩) hl).trans h.hu, (hb.cell (p := ⟨b, o + 2, none⟩) hl).trans h.hg,
    (hb.frozen (p := ⟨b, o, none⟩) hl).trans h.fl, (hb.frozen (p := ⟨b, o + 1, none⟩) hl).trans h.fu, (hb.frozen (p := ⟨b, o + 2, none⟩) hl).trans h.fg⟩
theorem At.kept {w w' : World} {b o g' : Nat} {l u g : Int} (h : At w b o l u g) (hk : Kept g' w w') (hl : b ≠ g') : At w' b o l u g :=
  ⟨Nat.lt_of_lt_of_le h.hb hk.size, hk.cell (p := ⟨b, o, none⟩) hl h.hl, hk.cell (p := ⟨b, o + 1, none⟩) hl h.hu, hk.cell (p := ⟨b, o + 2, none⟩) hl h.hg,
    hk.frozen (p := ⟨b, o, none⟩) hl h.hb h.fl, hk.frozen (p := ⟨b, o + 1, none⟩) hl h.hb h.fu, hk.frozen (p := ⟨b, o + 2, none⟩) hl h.hb h.fg⟩
/-- all that the walk of 'move' reads -/
structure Env (F g cap N A B D i k : Nat) (n : Int) (p q r s : Pu) (w : World) : Prop where
  c0 : w.cell? ⟨F, 0, none⟩ = some (.slice (some ⟨g, 0, none⟩) N cap)
  cD : w.cell? ⟨D, 2, none⟩ = some (.int .i64 n)
  p : At w g (i * 3) p.l p.u p.g
  q : At w g (k * 3) q.l q.u q.g
  a : At w A 0 r.l r.u r.g
  b : At w B 0 s.l s.u s.g
theorem Env.below {F g cap N A B D i k : Nat} {n : Int} {p q r s : Pu} {w w' : World} (h : Env F g cap N A B D i k n p q r s w) (hb : Below w.heap.size w w') : Env F g cap N A B D i k n p q r s w' :=
  ⟨(hb.cell (p := ⟨F, 0, none⟩) (lt_of_cell h.c0)).trans h.c0, (hb.cell (p := ⟨D, 2, none⟩) (lt_of_cell h.cD)).trans h.cD, h.p.below hb h.p.hb, h.q.below hb h.q.hb, h.a.below hb h.a.hb, h.b.below hb h.b.hb⟩
theorem Env.heap {F g cap N A B D i k : Nat} {n : Int} {p q r s : Pu} {w w' : World} (h : Env F g cap N A B D i k n p q r s w) (e : w'.heap = w.heap) : Env F g cap N A B D i k n p q r s w' :=
  ⟨(World.cell?_of_block (by rw [e])).trans h.c0, (World.cell?_of_block (by rw [e])).trans h.cD, h.p.heap e, h.q.heap e, h.a.heap e, h.b.heap e⟩
theorem Env.kept {F g cap N A B D i k : Nat} {n : Int} {p q p' q' r s : Pu} {w w' : World} (h : Env F g cap N A B D i k n p q r s w) (hk : Kept g w w') (hF : F ≠ g) (hD : D ≠ g) (hA : A ≠ g) (hB : B ≠ g) (hp : At w' g (i * 3) p'.l p'.u p'.g) (hq : At w' g (k * 3) q'.l q'.u q'.g) : Env F g cap N A B D i k n p' q' r s w' :=
  ⟨hk.cell (p := ⟨F, 0, none⟩) hF h.c0, hk.cell (p := ⟨D, 2, none⟩) hD h.cD, hp, hq, h.a.kept hk hA, h.b.kept hk hB⟩

theorem At.set_other {w : World} {b o : Nat} {l u g : Int} (h : At w b o l u g) (a : Addr) (hne : b ≠ a.block) (v : Value) : At (w.setCell a v) b o l u g := by
  have e := Below.heap_setCell w a v b hne
  have hc : ∀ k, (w.setCell a v).cell? ⟨b, k, none⟩ = w.cell? ⟨b, k, none⟩ := fun k => World.cell?_of_block (a := ⟨b, k, none⟩) e
  have hf : ∀ k, (w.setCell a v).frozen? ⟨b, k, none⟩ = w.frozen? ⟨b, k, none⟩ := fun k => World.frozen?_of_block (a := ⟨b, k, none⟩) e
  exact ⟨by simpa using h.hb, (hc _).trans h.hl, (hc _).trans h.hu, (hc _).trans h.hg, (hf _).trans h.fl, (hf _).trans h.fu, (hf _).trans h.fg⟩
theorem At.put_g {w : World} {b : Nat} {l u g : Int} (h : At w b 0 l u g) (x : Int) : At (w.setCell ⟨b, 2, none⟩ (.int .i64 x)) b 0 l u x := by
  have ne : ∀ k, k ≠ 2 → (⟨b, 2, none⟩ : Addr) ≠ ⟨b, k, none⟩ := fun k hk e => by injection e with _ e2 _; exact hk e2.symm
  refine ⟨by simpa using h.hb, ?_, ?_, ?_, ?_, ?_, ?_⟩
  · rw [World.cell?_setCell_other _ _ _ _ (ne 0 (by decide))]; exact h.hl
  · rw [World.cell?_setCell_other _ _ _ _ (ne (0 + 1) (by decide))]; exact h.hu
  · exact World.cell?_setCell_same' _ _ _ (by have := h.hg; rw [show 0 + 2 = 2 from rfl] at this; rw [this]; rfl)
  · rw [World.frozen?_setCell]; exact h.fl
  · rw [World.frozen?_setCell]; exact h.fu
  · rw [World.frozen?_setCell]; exact h.fg
theorem At.put_l {w : World} {b : Nat} {l u g : Int} (h : At w b 0 l u g) (x : Int) : At (w.setCell ⟨b, 0, none⟩ (.int .i64 x)) b 0 x u g := by
  have ne : ∀ k, k ≠ 0 → (⟨b, 0, none⟩ : Addr) ≠ ⟨b, k, none⟩ := fun k hk e => by injection e with _ e2 _; exact hk e2.symm
  refine ⟨by simpa using h.hb, ?_, ?_, ?_, ?_, ?_, ?_⟩
  · exact World.cell?_setCell_same' _ _ _ (by rw [h.hl]; rfl)
  · rw [World.cell?_setCell_other _ _ _ _ (ne (0 + 1) (by decide))]; exact h.hu
  · rw [World.cell?_setCell_other _ _ _ _ (ne (0 + 2) (by decide))]; exact h.hg
  · rw [World.frozen?_setCell]; exact h.fl
  · rw [World.frozen?_setCell]; exact h.fu
  · rw [World.frozen?_setCell]; exact h.fg
/-- behind the two stores, in whatever order -/
structure Met2 (b F g cap g2 cap2 N A B D i k : Nat) (n : Int) (p q : Pu) (w0 : World) (ps : List Pu) (us : List Int) (w : World) : Prop where
  env : Env F g cap N A B D i k n p q p q w
  fs : PFS b F g cap g2 cap2 ps us w
  bl : Below b w0 w
theorem PFS.set_far {b F g cap g2 cap2 : Nat} {ps : List Pu} {us : List Int} {w : World} (h : PFS b F g cap g2 cap2 ps us w) (a : Addr) (v : Value) (h1 : F ≠ a.block) (h2 : g ≠ a.block) (h3 : g2 ≠ a.block) : PFS b F g cap g2 cap2 ps us (w.setCell a v) :=
  h.kept (Below.heap_setCell _ _ _ _ h1) (Below.heap_setCell _ _ _ _ h2) (Below.heap_setCell _ _ _ _ h3) (by simp)
theorem Met2.mk1 {b F g cap g2 cap2 N A B D i k : Nat} {n x y : Int} {r s : Pu} {w0 w : World} {ps : List Pu} {us : List Int} (h : Env F g cap N A B D i k n ⟨r.l, r.u, x⟩ ⟨y, s.u, s.g⟩ r s w) (hf : PFS b F g cap g2 cap2 ps us w) (hb : Below b w0 w)
    (n1 : A ≠ F) (n2 : B ≠ F) (n3 : A ≠ g) (n4 : B ≠ g) (n5 : A ≠ D) (n6 : B ≠ D) (n7 : A ≠ B) (n8 : A ≠ g2) (n9 : B ≠ g2) (bA : b ≤ A) (bB : b ≤ B) :
    Met2 b F g cap g2 cap2 N A B D i k n ⟨r.l, r.u, x⟩ ⟨y, s.u, s.g⟩ w0 ps us ((w.setCell ⟨A, 2, none⟩ (.int .i64 x)).setCell ⟨B, 0, none⟩ (.int .i64 y)) := by
  refine ⟨⟨?_, ?_, ?_, ?_, ?_, ?_⟩, ?_, (hb.setCell bA _).setCell bB _⟩
  · rw [World.cell?_of_block (w := w.setCell _ _) (Below.heap_setCell _ _ _ _ n2.symm), World.cell?_of_block (w := w) (Below.heap_setCell _ _ _ _ n1.symm)]; exact h.c0
  · rw [World.cell?_of_block (w := w.setCell _ _) (Below.heap_setCell _ _ _ _ n6.symm), World.cell?_of_block (w := w) (Below.heap_setCell _ _ _ _ n5.symm)]; exact h.cD
  · exact (h.p.set_other _ n3.symm _).set_other _ n4.symm _
  · exact (h.q.set_other _ n3.symm _).set_other _ n4.symm _
  · exact (h.a.put_g x).set_other _ n7 _
  · exact (h.b.set_other _ n7.symm _).put_l y
  · exact (hf.set_far _ _ n1.symm n3.symm n8.symm).set_far _ _ n2.symm n4.symm n9.symm
theorem Met2.mk2 {b F g cap g2 cap2 N A B D i k : Nat} {n x y : Int} {r s : Pu} {w0 w : World} {ps : List Pu} {us : List Int} (h : Env F g cap N A B D i k n ⟨r.l, r.u, x⟩ ⟨y, s.u, s.g⟩ r s w) (hf : PFS b F g cap g2 cap2 ps us w) (hb : Below b w0 w)
    (n1 : A ≠ F) (n2 : B ≠ F) (n3 : A ≠ g) (n4 : B ≠ g) (n5 : A ≠ D) (n6 : B ≠ D) (n7 : A ≠ B) (n8 : A ≠ g2) (n9 : B ≠ g2) (bA : b ≤ A) (bB : b ≤ B) :
    Met2 b F g cap g2 cap2 N A B D i k n ⟨r.l, r.u, x⟩ ⟨y, s.u, s.g⟩ w0 ps us ((w.setCell ⟨B, 0, none⟩ (.int .i64 y)).setCell ⟨A, 2, none⟩ (.int .i64 x)) := by
  refine ⟨⟨?_, ?_, ?_, ?_, ?_, ?_⟩, ?_, (hb.setCell bB _).setCell bA _⟩
  · rw [World.cell?_of_block (w := w.setCell _ _) (Below.heap_setCell _ _ _ _ n1.symm), World.cell?_of_block (w := w) (Below.heap_setCell _ _ _ _ n2.symm)]; exact h.c0
  · rw [World.cell?_of_block (w := w.setCell _ _) (Below.heap_setCell _ _ _ _ n5.symm), World.cell?_of_block (w := w) (Below.heap_setCell _ _ _ _ n6.symm)]; exact h.cD
  · exact (h.p.set_other _ n4.symm _).set_other _ n3.symm _
  · exact (h.q.set_other _ n4.symm _).set_other _ n3.symm _
  · exact (h.a.set_other _ n7 _).put_g x
  · exact (h.b.put_l y).set_other _ n7.symm _
  · exact (hf.set_far _ _ n2.symm n4.symm n9.symm).set_far _ _ n1.symm n3.symm n8.symm
theorem Met2.drew {b F g cap g2 cap2 N A B D i k : Nat} {n : Int} {p q : Pu} {w0 w : World} {ps : List Pu} {us : List Int} (h : Met2 b F g cap g2 cap2 N A B D i k n p q w0 ps us w) : Met2 b F g cap g2 cap2 N A B D i k n p q w0 ps us w.drew :=
  ⟨h.env.heap rfl, h.fs.drew, h.bl.drew⟩
end Go.Proofs.Yteflfflmedkdiaa
