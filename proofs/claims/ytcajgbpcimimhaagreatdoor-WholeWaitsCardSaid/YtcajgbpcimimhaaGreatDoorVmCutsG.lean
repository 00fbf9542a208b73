/- A state that is a literal one, but for what is forgotten: what is said of it holds of the literal one. Conditions: as each theorem names them. A call whose run is cut at a loop's head into stretches, each from a literal state. Conditions: as each theorem names them. A function's call out of a run that is cut into stretches. Conditions: as each theorem names them. -/
import Derived.Test.YtcajgbpcimimhaaGreatDoorVmCutG
import Derived.Test.YtcajgbpcimimhaaGreatDoorVmGhG
set_option linter.unusedVariables false
namespace Go.Proofs.YtcajgbpcimimhaaGreatDoor.Vm
open Go Go.RowKit
theorem an_ok {a b : Bool} (h : an a b = true) : a = true ∧ b = true := by
  cases a with
  | true => exact ⟨rfl, h⟩
  | false => cases h
theorem nbq {a b : Nat} (h : Nat.beq a b = true) : a = b := Nat.eq_of_beq_eq_true h
theorem qL_ok {α : Type} {f : α → α → Bool} (hf : ∀ a b, f a b = true → a = b) : ∀ l r : List α, qL f l r = true → l = r
  | [], [], _ => rfl
  | [], _ :: _, h => by cases h
  | _ :: _, [], h => by cases h
  | a :: l, b :: r, h => by
    obtain ⟨h1, h2⟩ := an_ok h
    rw [hf a b h1, qL_ok hf l r h2]
theorem qI_ok : ∀ i j : Int, qI i j = true → i = j
  | .ofNat a, .ofNat b, h => by rw [nbq (a := a) (b := b) h]
  | .ofNat _, .negSucc _, h => by cases h
  | .negSucc _, .ofNat _, h => by cases h
  | .negSucc a, .negSucc b, h => by rw [nbq (a := a) (b := b) h]
theorem qB_ok : ∀ a b : Bool, qB a b = true → a = b := by decide
theorem qX_ok (x y : X) (h : qX x y = true) : x = y := by
  unfold qX at h
  split at h
  · rfl
  · obtain ⟨h1, h⟩ := an_ok h
    obtain ⟨h2, h3⟩ := an_ok h
    rw [nbq h1, nbq h2, nbq h3]
  · obtain ⟨h1, h⟩ := an_ok h
    obtain ⟨h2, h3⟩ := an_ok h
    rw [nbq h1, nbq h2, qL_ok qI_ok _ _ h3]
  · obtain ⟨h1, h3⟩ := an_ok h
    rw [nbq h1, qL_ok qB_ok _ _ h3]
  · cases h
theorem qV_ok : ∀ (n : Nat) (u v : V), qV n u v = true → u = v
  | 0, _, _, h => by cases h
  | n + 1, ⟨t, x, l, d, c, b, a⟩, ⟨t', x', l', d', c', b', a'⟩, h => by
    have h : an (Nat.beq t t') (an (qX x x') (an (qL (qV n) l l') (an (Nat.beq d d') (an (Nat.beq c c') (an (Nat.beq b b') (Nat.beq a a')))))) = true := h
    obtain ⟨h1, h⟩ := an_ok h
    obtain ⟨h2, h⟩ := an_ok h
    obtain ⟨h3, h⟩ := an_ok h
    obtain ⟨h4, h⟩ := an_ok h
    obtain ⟨h5, h⟩ := an_ok h
    obtain ⟨h6, h7⟩ := an_ok h
    rw [nbq h1, qX_ok _ _ h2, qL_ok (qV_ok n) _ _ h3, nbq h4, nbq h5, nbq h6, nbq h7]
theorem qN8_ok {α : Type} {f : α → α → Bool} (hf : ∀ a b, f a b = true → a = b) (x y : N8 α) (h : qN8 f x y = true) : x = y := by
  obtain ⟨a, b, c, d, e, g, i, j⟩ := x
  obtain ⟨a', b', c', d', e', g', i', j'⟩ := y
  have h : an (f a a') (an (f b b') (an (f c c') (an (f d d') (an (f e e') (an (f g g') (an (f i i') (f j j'))))))) = true := h
  obtain ⟨h1, h⟩ := an_ok h
  obtain ⟨h2, h⟩ := an_ok h
  obtain ⟨h3, h⟩ := an_ok h
  obtain ⟨h4, h⟩ := an_ok h
  obtain ⟨h5, h⟩ := an_ok h
  obtain ⟨h6, h⟩ := an_ok h
  obtain ⟨h7, h8⟩ := an_ok h
  rw [hf _ _ h1, hf _ _ h2, hf _ _ h3, hf _ _ h4, hf _ _ h5, hf _ _ h6, hf _ _ h7, hf _ _ h8]
theorem qBx_ok (a b : Bx) (h : qBx a b = true) : a = b := by
  obtain ⟨u⟩ := a
  obtain ⟨v⟩ := b
  rw [qV_ok 3 u v h]
theorem qR3_ok : ∀ x y : R3, qR3 x y = true → x = y := qN8_ok (qN8_ok (qN8_ok qBx_ok))
theorem qR6_ok : ∀ x y : R6, qR6 x y = true → x = y := qN8_ok (qN8_ok (qN8_ok qR3_ok))
theorem qE_ok (x y : Nat × V) (h : qE x y = true) : x = y := by
  obtain ⟨h1, h2⟩ := an_ok h
  exact Prod.ext (nbq h1) (qV_ok 3 _ _ h2)
theorem qO_ok (x y : Oth) (h : qO x y = true) : x = y := by
  unfold qO at h
  split at h
  · rfl
  · rw [qL_ok qE_ok _ _ h]
  · rfl
  · cases h
theorem qOb_ok (x y : Ob) (h : qOb x y = true) : x = y := by
  obtain ⟨k, n, w, p, s, l, o⟩ := x
  obtain ⟨k', n', w', p', s', l', o'⟩ := y
  have h : an (Nat.beq k k') (an (Nat.beq n n') (an (Nat.beq w w') (an (Nat.beq p p') (an (qR3 s s') (an (qR6 l l') (qO o o')))))) = true := h
  obtain ⟨h1, h⟩ := an_ok h
  obtain ⟨h2, h⟩ := an_ok h
  obtain ⟨h3, h⟩ := an_ok h
  obtain ⟨h4, h⟩ := an_ok h
  obtain ⟨h5, h⟩ := an_ok h
  obtain ⟨h6, h7⟩ := an_ok h
  rw [nbq h1, nbq h2, nbq h3, nbq h4, qR3_ok _ _ h5, qR6_ok _ _ h6, qO_ok _ _ h7]

/-! ### The literal state -/
def hOf : List (Nat × Ob) → Hp → Hp
  | [], h => h
  | (i, o) :: l, h => hOf l (h.put i o)
def eOf : List (Nat × V) → Env → Env
  | [], e => e
  | (i, v) :: l, e => eOf l (e.put i v)
theorem litH_eq : ∀ (l : List (Nat × Ob)) (h : Hp) (k : Hp → Bool), litH l h k = k (hOf l h)
  | [], _, _ => rfl
  | (i, o) :: l, h, k => by
    unfold litH
    rw [sH_eq, litH_eq l]
    rfl
theorem litE_eq : ∀ (l : List (Nat × V)) (e : Env) (k : Env → Bool), litE l e k = k (eOf l e)
  | [], _, _ => rfl
  | (i, v) :: l, e, k => by
    unfold litE
    rw [setter_eq, litE_eq l]
    rfl
def Lit.w (L : Lit) : W := ⟨hOf L.obs h0, L.nx, L.ms, [], none⟩
def Lit.e (L : Lit) : Env := eOf L.env u3
theorem Lit.go_eq (L : Lit) (k : Env → W → Bool) : L.go k = k L.e L.w := by
  unfold Lit.go
  rw [litH_eq, litE_eq]
  rfl
theorem hOf_at {id : Nat} (hid : id < 32768) : ∀ (l : List (Nat × Ob)) (h : Hp), (∀ p, p ∈ l → p.1 < 32768) → (hOf l h).at id = h.at id ∨ ∃ o, (id, o) ∈ l ∧ (hOf l h).at id = o
  | [], _, _ => .inl rfl
  | (i, o) :: l, h, hl => by
    rcases hOf_at hid l (h.put i o) (fun p hp => hl p (List.mem_cons_of_mem _ hp)) with h1 | ⟨u, h1, h2⟩
    · have h1 : (hOf ((i, o) :: l) h).at id = (h.put i o).at id := h1
      rw [Hp.at_put (hl _ List.mem_cons_self) hid] at h1
      by_cases e : id = i
      · subst e
        rw [if_pos rfl] at h1
        exact .inr ⟨o, List.mem_cons_self, h1⟩
      · rw [if_neg e] at h1
        exact .inl h1
    · exact .inr ⟨u, List.mem_cons_of_mem _ h1, h2⟩
theorem obsT_cons {nx : Nat} {h : Hp} {j : Nat} {u : Ob} {l : List (Nat × Ob)} (hr : obsT nx h ((j, u) :: l) = true) : (j < nx ∧ u = h.at j) ∧ obsT nx h l = true := by
  have hr : an (Nat.blt j nx) (an (qOb u ((gH j).f h)) (obsT nx h l)) = true := hr
  obtain ⟨h1, hr⟩ := an_ok hr
  obtain ⟨h2, h3⟩ := an_ok hr
  exact ⟨⟨blt_true h1, qOb_ok _ _ h2⟩, h3⟩
theorem obsT_ok {nx : Nat} {h : Hp} (l : List (Nat × Ob)) : obsT nx h l = true → ∀ i o, (i, o) ∈ l → i < nx ∧ o = h.at i := by
  induction l with
  | nil => intro _ i o hm; exact absurd hm List.not_mem_nil
  | cons p l ih =>
    intro hr i o hm
    obtain ⟨j, u⟩ := p
    obtain ⟨h1, h3⟩ := obsT_cons hr
    rcases List.mem_cons.1 hm with e | e
    · obtain ⟨e1, e2⟩ := Prod.mk.inj e
      rw [e1, e2]
      exact h1
    · exact ih h3 i o e
theorem envT_ok {ex : Nat} {e e' : Env} : ∀ {m : Nat}, envT ex e e' m = true → ∀ i, i < m → has ex i = true → e'.at i = e.at i
  | m + 1, h, i, hi, hx => by
    obtain ⟨h1, h2⟩ := an_ok h
    by_cases e1 : i = m
    · subst e1
      rw [hx] at h1
      exact (congrArg Bx.v (qBx_ok _ _ h1)).symm
    · exact envT_ok h2 i (by omega) hx
structure Same (L : Lit) (m ex : Nat) (e : Env) (w : W) : Prop where
  nx : L.nx = w.nx
  ms : L.ms = w.ms
  ds : w.ds = []
  r : w.r = none
  ob : ∀ i o, (i, o) ∈ L.obs → i < w.nx ∧ o = w.h.at i
  env : ∀ i, i < m → has ex i = true → L.e.at i = e.at i
theorem tst_ok {L : Lit} {m ex : Nat} {e : Env} {w : W} (h : tst L m ex e w = true) : Same L m ex e w := by
  obtain ⟨hp, nx, ms, ds, r⟩ := w
  have h : an (Nat.beq L.nx nx) (an (qL (qL qB) L.ms ms) (an (List.casesOn ds true fun _ _ => false) (an (Option.casesOn r true fun _ => false) (an (obsT nx hp L.obs) (litE L.env u3 fun e' => envT ex e' e m))))) = true := h
  obtain ⟨h1, h⟩ := an_ok h
  obtain ⟨h2, h⟩ := an_ok h
  obtain ⟨h3, h⟩ := an_ok h
  obtain ⟨h4, h⟩ := an_ok h
  obtain ⟨h5, h6⟩ := an_ok h
  rw [litE_eq] at h6
  refine ⟨nbq h1, qL_ok (qL_ok qB_ok) _ _ h2, ?_, ?_, obsT_ok _ h5, fun i hi hx => (envT_ok h6 i hi hx).symm⟩
  · cases ds with
    | nil => rfl
    | cons d l => cases h3
  · cases r with
    | none => rfl
    | some d => cases h4
variable {E : En} {w : W} {e : Env} {K : Nat → Prop} {W0 Wd : World} {L : Lit} {m ex : Nat}
theorem Same.at (h : Same L m ex e w) (hn : w.nx ≤ 32768) {id : Nat} (hid : id < 32768) : (L.w.h.at id).k = 0 ∨ (id < w.nx ∧ L.w.h.at id = w.h.at id) := by
  rcases hOf_at hid L.obs h0 (fun p hp => Nat.lt_of_lt_of_le (h.ob p.1 p.2 hp).1 hn) with h1 | ⟨o, h1, h2⟩
  · have h1 : L.w.h.at id = Hp.at h0 id := h1
    rw [h1]
    exact .inl (h0_at id)
  · obtain ⟨h3, h4⟩ := h.ob id o h1
    exact .inr ⟨h3, h2.trans h4⟩
theorem Same.SR (h : Same L m ex e w) (hs : SR E w K W0 Wd) : SR E L.w K W0 Wd := by
  have hn : L.w.nx = w.nx := h.nx
  have h32 := hs.nx
  refine ⟨hn ▸ hs.nx, hn ▸ hs.glob, fun id hid => ?_, fun i j hi hj ki kj he => ?_, fun i hi hk hw => ?_, hs.keep, hs.os, hs.tape, hs.output, hs.size, fun j l hj => hs.ms j l (h.ms ▸ hj), fun id h1 h2 => ?_, fun i h16 hi hk => ?_, hs.big⟩
  · rw [hn] at hid ⊢
    rcases h.at h32 (Nat.lt_of_lt_of_le hid h32) with h1 | ⟨_, h1⟩
    · exact .inl h1
    · rw [h1]; exact hs.ob id hid
  · rw [hn] at hi hj
    rcases h.at h32 (Nat.lt_of_lt_of_le hi h32) with h1 | ⟨_, h1⟩
    · exact absurd h1 ki
    rcases h.at h32 (Nat.lt_of_lt_of_le hj h32) with h2 | ⟨_, h2⟩
    · exact absurd h2 kj
    rw [h1] at ki
    rw [h2] at kj
    exact hs.inj i j hi hj ki kj he
  · rw [hn] at hi
    rcases h.at h32 (Nat.lt_of_lt_of_le hi h32) with h1 | ⟨_, h1⟩
    · exact absurd h1 hk
    rw [h1] at hk hw
    exact hs.wr i hi hk hw
  · rw [hn] at h1
    rcases h.at h32 h2 with h3 | ⟨h3, _⟩
    · exact h3
    · omega
  · rw [hn] at hi
    rcases h.at h32 (Nat.lt_of_lt_of_le hi h32) with h1 | ⟨_, h1⟩
    · exact absurd h1 hk
    rw [h1] at hk ⊢
    exact hs.own i h16 hi hk
theorem Same.TR {tmps : Array Value} (h : Same L m ex e w) (ht : TR E w.nx m ex e tmps) : TR E L.w.nx m ex L.e tmps :=
  ⟨ht.1, ht.2.1, fun i hi hx => by
    rw [h.env i hi hx, show L.w.nx = w.nx from h.nx]
    exact ht.2.2 i hi hx⟩
theorem Same.DR {l : List Deferred} (h : Same L m ex e w) (hd : DR E w.nx w.ds l) : DR E L.w.nx L.w.ds l := by
  have e1 : L.w.ds = w.ds := h.ds.symm
  rw [e1, show L.w.nx = w.nx from h.nx]
  exact hd
theorem Same.ext (h : Same L m ex e w) : Ext E w.nx E L.w.nx := by
  rw [show L.w.nx = w.nx from h.nx]
  exact Ext.refl _ _
end Go.Proofs.YtcajgbpcimimhaaGreatDoor.Vm
namespace Go.Proofs.YtcajgbpcimimhaaGreatDoor.Vm
open Go Go.RowKit
variable {P : Program} {E : En} {w : W} {K : Nat → Prop} {W0 Wd : World} {rec : Rec} {e : Env} {k : Ex → Env → W → Bool} {c : Cx} {a : Act}
def seqs : List Code → Code → Code
  | [], z => z
  | x :: l, z => .seq x (seqs l z)
theorem seqs_eq : ∀ (n : Nat) (d : Code), seqs (seqL n d) (seqR n d) = d
  | 0, d => by cases d <;> rfl
  | n + 1, .seq a b => by
    show Code.seq a (seqs (seqL n b) (seqR n b)) = _
    rw [seqs_eq n b]
  | n + 1, .skip => rfl
  | n + 1, .label _ => rfl
  | n + 1, .exit _ => rfl
  | n + 1, .ret => rfl
  | n + 1, .region _ _ _ => rfl
  | n + 1, .cond _ _ _ => rfl
  | n + 1, .block _ _ => rfl
  | n + 1, .loop _ => rfl
  | n + 1, .rangeFunc _ _ _ _ => rfl
  | n + 1, .goto _ => rfl
  | n + 1, .refuse _ => rfl
  | n + 1, .scope _ => rfl
theorem loopOf_ok {d r b z : Code} {id : Nat} (h : loopOf d = some (r, id, b, z)) : d = .seq (.seq r (.block id (.loop b))) z := by
  unfold loopOf at h
  split at h
  · cases h; rfl
  · cases h
theorem KX.then {Q R : Exit → Act → World → Prop} (h : KX E w K W0 c k Q) (hR : ∀ x a' W', x ≠ Ex.n → Q (exOf x) a' W' → R (exOf x) a' W') : KX E w K W0 c k R :=
  fun x E' e' w' a' W' hx h1 h2 h3 h4 h5 h6 => hR x a' W' hx (h x E' e' w' a' W' hx h1 h2 h3 h4 h5 h6)
/-- down to what stands behind a number of others -/
theorem tower_ok (hS : ∀ (c : Cx) (code : Code) (nxt : Tc), CodeOk P rec c code nxt) {ro : Option Nat} {n : Nat} {Q : Exit → Act → World → Prop} {z : Code} {nxt : Tc} : ∀ (l : List Code) (E : En) (e : Env) (w : W) (a : Act) (Wd : World),
    RO E w ro → TR E w.nx c.m c.ex e a.tmps → SR E w K W0 Wd → DR E w.nx w.ds a.defers → NxQ E w K W0 c nxt rec k (z.wpIn (Fe ro) n P Q) → KX E w K W0 c k Q → (tower P c l nxt).run rec e w k = true → (seqs l z).wpIn (Fe ro) n P Q a Wd
  | [], E, e, w, a, Wd, _, ht, hs, hd, hN, _, h => hN E e w a Wd (Ext.refl _ _) hs ht hd rfl h
  | x :: l, E, e, w, a, Wd, hro, ht, hs, hd, hN, hK, h => by
    have h : (sem P c x (tower P c l nxt)).run rec e w k = true := h
    refine wpIn_seq (hS c x (tower P c l nxt) k K W0 _ E e w a Wd ro n hro ht hs hd (fun E' e' w' a' W' h1 h2 h3 h4 h5 h6 => ?_) (fun x' E' e' w' a' W' hx h1 h2 h3 h4 h5 h6 => ?_) h)
    · exact tower_ok hS l E' e' w' a' W' (hro.ext h1 h5) h3 h2 h4 (hN.ext h1 h5) (hK.ext h1 h5) h6
    · have := hK x' E' e' w' a' W' hx h1 h2 h3 h4 h5 h6
      cases x' with
      | n => exact absurd rfl hx
      | x id => exact this
      | r => exact this
/-- stretches, each out of a literal state, to the next one's or to the loop's end -/
def Good (P : Program) (rec : Rec) (c : Cx) (b : Code) (kx : Ex → Env → W → Bool) : List (Nat × Lit) → Prop
  | [] => True
  | (j, L) :: rest => (1 ≤ j ∧ iterC P rec c b j L.e L.w (nextT rest c) kx = true) ∧ Good P rec c b kx rest
def lenS : List (Nat × Lit) → Nat
  | [] => 0
  | (j, _) :: l => j + lenS l
theorem stretch_ok (hS : ∀ (c : Cx) (code : Code) (nxt : Tc), CodeOk P rec c code nxt) {b : Code} {kx : Ex → Env → W → Bool} {ro : Option Nat} {n : Nat} {Q : Exit → Act → World → Prop} (hro : RO E w ro) (hK : KX E w K W0 c kx Q)
    (ht : TR E w.nx c.m c.ex e a.tmps) (hs : SR E w K W0 Wd) (hd : DR E w.nx w.ds a.defers) {l : List (Nat × Lit)} (hg : Good P rec c b kx l) (h : nextT l c e w = true) : (Code.loop b).wpIn (Fe ro) n P Q a Wd := by
  refine wpIn_loop_ladder (m := lenS l) (fun m a' W' => ∃ i rest E' e' w', m = i + lenS rest ∧ Good P rec c b kx rest ∧ iterC P rec c b i e' w' (nextT rest c) kx = true ∧ Ext E w.nx E' w'.nx ∧ SR E' w' K W0 W' ∧ TR E' w'.nx c.m c.ex e' a'.tmps ∧ DR E' w'.nx w'.ds a'.defers ∧ w'.r = w.r)
    ⟨0, l, E, e, w, (Nat.zero_add _).symm, hg, h, Ext.refl _ _, hs, ht, hd, rfl⟩ fun m a' W' hm => ?_
  have key : ∀ i rest E' e' w', m = i + 1 + lenS rest → Good P rec c b kx rest → iterC P rec c b (i + 1) e' w' (nextT rest c) kx = true → Ext E w.nx E' w'.nx → SR E' w' K W0 W' → TR E' w'.nx c.m c.ex e' a'.tmps → DR E' w'.nx w'.ds a'.defers → w'.r = w.r →
      b.wpIn (Fe ro) n P (Exit.then (fun a'' W'' => ∃ i, i < m ∧ (∃ i' rest E' e' w', i = i' + lenS rest ∧ Good P rec c b kx rest ∧ iterC P rec c b i' e' w' (nextT rest c) kx = true ∧ Ext E w.nx E' w'.nx ∧ SR E' w' K W0 W'' ∧ TR E' w'.nx c.m c.ex e' a''.tmps ∧ DR E' w'.nx w'.ds a''.defers ∧ w'.r = w.r)) Q) a' W' := by
    intro i rest E' e' w' em g' h' x1 s1 t1 d1 r1
    refine hS c b endC _ K W0 _ E' e' w' a' W' ro n (hro.ext x1 r1) t1 s1 d1 (fun E2 e2 w2 a2 W2 x2 s2 t2 d2 r2 h2 => ?_) (fun x E2 e2 w2 a2 W2 hx x2 s2 t2 d2 r2 h2 => ?_) h'
    · exact ⟨i + lenS rest, by omega, i, rest, E2, e2, w2, rfl, g', h2, x1.trans x2, s2, t2, d2, r2.trans r1⟩
    · cases x with
      | n => exact absurd rfl hx
      | x id => exact hK (.x id) E2 e2 w2 a2 W2 hx (x1.trans x2) s2 t2 d2 (r2.trans r1) h2
      | r => exact hK .r E2 e2 w2 a2 W2 hx (x1.trans x2) s2 t2 d2 (r2.trans r1) h2
  obtain ⟨i, rest, E', e', w', em, g', h', x1, s1, t1, d1, r1⟩ := hm
  cases i with
  | succ i => exact key i rest E' e' w' em g' h' x1 s1 t1 d1 r1
  | zero =>
    have h' : nextT rest c e' w' = true := h'
    match rest, g', h', em with
    | (j, L) :: rest, g', h', em =>
      obtain ⟨⟨hj, hrun⟩, g2⟩ := g'
      obtain ⟨j, rfl⟩ : ∃ j', j = j' + 1 := ⟨j - 1, by omega⟩
      have hq := tst_ok h'
      exact key j rest E' L.e L.w (by rw [em]; show 0 + (j + 1 + lenS rest) = _; omega) g2 hrun (x1.trans hq.ext) (hq.SR s1) (hq.TR t1) (hq.DR d1) (hq.r.symm.trans r1)
end Go.Proofs.YtcajgbpcimimhaaGreatDoor.Vm
namespace Go.Proofs.YtcajgbpcimimhaaGreatDoor.Vm
open Go Go.RowKit
variable {P : Program} {E : En} {w : W} {K : Nat → Prop} {W0 Wd : World} {rec : Rec} {e : Env} {k : Ex → Env → W → Bool} {c : Cx} {a : Act}
def GoodR (P : Program) (rec : Rec) (f n : Nat) : List (Nat × Lit) → Prop
  | [] => True
  | (j, L) :: rest => (1 ≤ j ∧ runSeg P rec f n j L (nextT rest) = true) ∧ GoodR P rec f n rest
theorem withF_ok {f n : Nat} {k : Cx → List Code → Code → Nat → Code → Code → List ResultVar → Bool} (h : withF P f n k = true) : ∃ fn d r id b z, P.funcs[f]? = some fn ∧ fn.body = some d ∧ loopOf (seqR n d) = some (r, id, b, z) ∧
    ∀ k' : Cx → List Code → Code → Nat → Code → Code → List ResultVar → Bool, withF P f n k' = k' (cxOf fn) (seqL n d) r id b z fn.results.toList := by
  cases hf : fnF P f with
  | none => unfold withF at h; rw [hf] at h; cases h
  | some fn =>
    cases hd : fn.body with
    | none => unfold withF at h; simp only [hf, hd] at h; cases h
    | some d =>
      cases hz : loopOf (seqR n d) with
      | none => unfold withF at h; simp only [hf, hd, hz] at h; cases h
      | some x =>
        obtain ⟨r, id, b, z⟩ := x
        refine ⟨fn, d, r, id, b, z, fnF_ok hf, hd, hz, fun k' => ?_⟩
        unfold withF
        simp only [hf, hd, hz, fN_eq]
theorem Good.of {f n : Nat} {fn : Func} {d r b z : Code} {id : Nat} (hk : ∀ k' : Cx → List Code → Code → Nat → Code → Code → List ResultVar → Bool, withF P f n k' = k' (cxOf fn) (seqL n d) r id b z fn.results.toList) :
    ∀ {l : List (Nat × Lit)}, GoodR P rec f n l → Good P rec (cxOf fn) b (kxC P rec (cxOf fn) id z (kfC P rec (cxOf fn) fn.results.toList)) l
  | [], _ => trivial
  | (j, L) :: rest, ⟨⟨h1, h2⟩, h3⟩ => ⟨⟨h1, by
    unfold runSeg at h2
    rw [hk, Lit.go_eq] at h2
    exact h2⟩, Good.of hk h3⟩
/-- behind the function's body -/
theorem kfC_ok (hP : PH P) (hS : ∀ (c : Cx) (code : Code) (nxt : Tc), CodeOk P rec c code nxt) {fn : Func} {E' : En} {e' : Env} {w' : W} {a' : Act} {W' : World} {kv : V → W → Bool} (hds : w.ds = []) (hr : w.r = none)
    (x2 : Ext E w.nx E' w'.nx) (s2 : SR E' w' K W0 W') (t2 : TR E' w'.nx c.m c.ex e' a'.tmps) (d2 : DR E' w'.nx w'.ds a'.defers) (h : leaveC P c fn.results.toList rec [] none kv e' w' = true) :
    LeavesInM Fence.wide 0 P fn a'.tmps (CallEnd E w K W0 kv) a'.defers .returning W' := by
  obtain ⟨hp, nx, ms, ds, r⟩ := w'
  have h : undo P rec ds ⟨hp, nx, ms, [], none⟩ (fun w' => (resC P c fn.results.toList).run e' w' fun v => W.casesOn w' fun h nx ms _ _ => kv v ⟨h, nx, ms, [], none⟩) = true := h
  refine undo_ok hP hS ds a'.defers E' ⟨hp, nx, ms, [], none⟩ W' d2 (s2.frame [] none) h fun E3 w3 W3 x3 s3 h3 => ?_
  obtain ⟨hp3, nx3, ms3, ds3, r3⟩ := w3
  obtain ⟨v, h, hv, e1⟩ := resC_ok (t2.ext x3) s3 h3
  exact ⟨_, e1, E3, ⟨hp3, nx3, ms3, [], none⟩, v, rfl, x2.trans x3, s3.frame _ _, hv, hds.symm, hr.symm, h⟩
theorem cut_ok (hP : PH P) (hS : ∀ (c : Cx) (code : Code) (nxt : Tc), CodeOk P rec c code nxt) {f n j : Nat} {L : Lit} {l : List (Nat × Lit)} {args : List V} (hds : w.ds = []) (hr : w.r = none)
    (hH : runHead P rec f n L args w = true) (hg : GoodR P rec f n ((j, L) :: l)) (hs : SR E w K W0 Wd) (ho : okL E w.nx args) : Calls P f (denL E args).toArray Wd (CallEnd E w K W0 endK) := by
  have hH : withF P f n (fun c l r _ _ _ _ => headC P rec c l r L args w) = true := hH
  obtain ⟨fn, d, r, id, b, z, hf, hb, hz, hk⟩ := withF_ok hH
  rw [hk] at hH
  have hg := Good.of hk hg
  have hH : (Bool.casesOn (motive := fun _ => Bool) (Nat.ble fn.ntmps 216) false (argsIn fn.ntmps 0 args u3 fun e => (tower P (cxOf fn) (seqL n d) (sem P (cxOf fn) r (cutT L (cxOf fn)))).run rec e w fun _ _ _ => false)) = true := hH
  cases hbl : Nat.ble fn.ntmps 216 with
  | false => rw [hbl] at hH; cases hH
  | true =>
    rw [hbl] at hH
    obtain ⟨e', h, ht⟩ := args_TR (m := fn.ntmps) (ex := (cxOf fn).ex) (ble_true hbl) ho hH
    have hro : RO E w none := ⟨by rw [hr]; rfl, fun l hl => by rw [hr] at hl; cases hl⟩
    refine (callsIn_wide (n := 0)).1 (callsIn_of_wp_marks hf hb trivial ?_)
    have ed := seqs_eq n d
    rw [loopOf_ok hz] at ed
    rw [← ed]
    refine tower_ok (c := cxOf fn) (k := fun _ _ _ => false) (K := K) (W0 := W0) (ro := none) hS (seqL n d) E e' w _ Wd hro ht hs (by rw [hds]; trivial) (fun E1 e1 w1 a1 W1 x1 s1 t1 d1 r1 hh => ?_) (fun x E1 e1 w1 a1 W1 hx x1 s1 t1 d1 r1 hh => by cases hh) h
    refine wpIn_seq (wpIn_seq (hS (cxOf fn) r (cutT L (cxOf fn)) _ K W0 _ E1 e1 w1 a1 W1 none 0 (hro.ext x1 r1) t1 s1 d1 (fun E2 e2 w2 a2 W2 x2 s2 t2 d2 r2 hh => ?_) (fun x E2 e2 w2 a2 W2 hx x2 s2 t2 d2 r2 hh => by cases hh) hh))
    have hh : tst L (cxOf fn).m (cxOf fn).ex e2 w2 = true := hh
    have hro2 : RO E2 w2 none := (hro.ext x1 r1).ext x2 r2
    refine wpIn_block (stretch_ok hS hro2 (kx := kxC P rec (cxOf fn) id z (kfC P rec (cxOf fn) fn.results.toList)) (fun x E3 e3 w3 a3 W3 hx x3 s3 t3 d3 r3 h3 => ?_) t2 s2 d2 hg hh)
    have x03 : Ext E w.nx E3 w3.nx := x1.trans (x2.trans x3)
    cases x with
    | n => exact absurd rfl hx
    | r =>
      have h3 : leaveC P (cxOf fn) fn.results.toList rec [] none endK e3 w3 = true := h3
      exact kfC_ok hP hS hds hr x03 s3 t3 d3 h3
    | x i =>
      have h3 : (Bool.casesOn (motive := fun _ => Bool) (Nat.beq i id) false ((sem P (cxOf fn) z endC).run rec e3 w3 (kfC P rec (cxOf fn) fn.results.toList))) = true := h3
      cases hi : Nat.beq i id with
      | false => rw [hi] at h3; cases h3
      | true =>
        rw [hi] at h3
        show (if i = id then _ else _)
        rw [if_pos (Nat.eq_of_beq_eq_true hi)]
        refine hS (cxOf fn) z endC _ K W0 _ E3 e3 w3 a3 W3 none 0 (hro2.ext x3 r3) t3 s3 d3 (fun E4 e4 w4 a4 W4 x4 s4 t4 d4 r4 h4 => ?_) (fun x E4 e4 w4 a4 W4 hx x4 s4 t4 d4 r4 h4 => ?_) h3
        · have h4 : leaveC P (cxOf fn) fn.results.toList rec [] none endK e4 w4 = true := h4
          exact kfC_ok hP hS hds hr (x03.trans x4) s4 t4 d4 h4
        · cases x with
          | n => exact absurd rfl hx
          | x i => cases h4
          | r =>
            have h4 : leaveC P (cxOf fn) fn.results.toList rec [] none endK e4 w4 = true := h4
            exact kfC_ok hP hS hds hr (x03.trans x4) s4 t4 d4 h4
/-- what the stretches say together -/
theorem cut_run {sp n f nn j : Nat} (hT : sp ≠ 0 → OwnOk Tryz.prog sp trueC.run) {args : List V} {ms : List (List Bool)} {L : Lit} {l : List (Nat × Lit)} (hr : start ms (fun w => runHead Tryz.prog (ev Tryz.prog sp n) f nn L args w) = true)
    (hg : GoodR Tryz.prog (ev Tryz.prog sp n) f nn ((j, L) :: l)) {W : World} (hl : Laid W) {ix : Nat → Nat} {arg : Nat → Int} (hms : ∀ j l, ms[j]? = some l → l[ix j]? = some true)
    (hargs : ∀ E : En, E.ix = ix → E.arg = arg → okL E 3 args) : ∃ E : En, E.ix = ix ∧ E.arg = arg ∧ Calls Tryz.prog f (denL E args).toArray W fun e W' => e = .returned (.bool true) ∧ Below W.heap.size W W' := by
  rw [start_eq] at hr
  obtain ⟨E, h1, h2, hs⟩ := start_SR hl ix arg ms hms
  refine ⟨E, h1, h2, ?_⟩
  have hev := ev_ok ph (drawn_ok ph) allC_ok countC_ok hT n
  have hS : ∀ (c : Cx) (code : Code) (nxt : Tc), CodeOk Tryz.prog (ev Tryz.prog sp n) c code nxt := fun c code nxt => hev.code ph (drawn_ok ph) c code nxt
  refine (cut_ok ph hS rfl rfl hr hg hs (hargs E h1 h2)).mono fun e W' hq => ?_
  obtain ⟨E', w', u, he, _, hs', _, _, _, hk⟩ := hq
  obtain ⟨k1, k2⟩ := endK_ok hk
  refine ⟨?_, hs'.os, hs'.tape, hs'.output, hs'.size, fun q hq => (hs'.keep q hq).2⟩
  rw [he]
  obtain ⟨t, x, l, d, c, b, a⟩ := u
  cases k1
  cases k2
  simp [den]
end Go.Proofs.YtcajgbpcimimhaaGreatDoor.Vm
