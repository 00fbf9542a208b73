/- A range over a function that hands over memory which it has just made: what the body is told of it (G), in the world in which it is handed over. Conditions: as each theorem names them. -/
import Derived.RangeFuncNested
import Derived.RangeFuncFrom
import Derived.RangeFuncLeaves
import Derived.Test.YtmnhnjljapabdaaOpen
set_option linter.unusedVariables false
namespace Go.Proofs.Ytmnhnjljapabdaa
open Go.RowKit
variable {F : Fence} {n : Nat} {P : Program} {α : Type}

/-- The iterator's contract: each element comes with what is said of it there, G. -/
def SeqTold (F : Fence) (n : Nat) (P : Program) (g : Nat) (lb : Array Value) (encs : α → Array Value) (G : List α → α → World → Prop) (Kp : World → World → Prop) (S : List α → Prop) (w : World) : Prop :=
  ∀ (l : Nat) (J Jx : List α → World → Prop) (W : World), Below w.heap.size w W → AbidesFrom W.heap.size J →
    (∀ pre x W1, J pre W1 → G pre x W1 → YieldAt F (n - 1) P l (encs x) W1 fun e W' =>
      (e = .returned (.bool true) ∧ J (pre ++ [x]) W' ∧ Kp W1 W') ∨ (e = .returned (.bool false) ∧ Jx (pre ++ [x]) W')) →
    J [] W →
    CallsIn F n P g (#[.func (.yield l) #[] #[]] ++ lb) W fun e W' => (∃ v, e = .returned v) ∧ ((∃ xs, S xs ∧ J xs W') ∨ (∃ pre, Jx pre W'))

/-- what is said of a record that the law keeps: the loop's and the deferred calls' -/
structure Kept2 (D : Nat) (lp : Loop) (W : World) : Prop where
  loop : W.heap[D + 1]? = some (.loop lp)
  defs : W.heap[D]? = some (.deferred (some []))

theorem Kept2.put {D : Nat} {lp : Loop} {W : World} (h : Kept2 D lp W) (lp' : Loop) : Kept2 D lp' (W.putObj (D + 1) (.loop lp')) :=
  ⟨World.putObj_heap_same (Array.getElem?_eq_some_iff.1 h.loop).1, (World.putObj_heap_other (by omega)).trans h.defs⟩
theorem Kept2.others {D : Nat} {lp : Loop} {W W' : World} (h : Kept2 D lp W) (k : KeepsOthers W W') : Kept2 D lp W' := ⟨k.same _ _ h.loop rfl, k.same _ _ h.defs rfl⟩
theorem Kept2.abides {D : Nat} {lp : Loop} {A B : World} {row : Option Nat} (h : Kept2 D lp A) (hg : A.grownBy B row) (hr : ∀ r, row = some r → ∃ o : Obj, A.heap[r]? = some o ∧ o.isWalk = true) : Kept2 D lp B :=
  ⟨(grownBy_keeps hg hr h.loop rfl).trans h.loop, (grownBy_keeps hg hr h.defs rfl).trans h.defs⟩

theorem wpIn_rangeFunc_told {g : Operand} {ps : Array Tmp} {assign body : Code} {Q : Exit → Act → World → Prop} {a : Act} {w : World}
    (hro : F.round = none) (h1 : 1 ≤ n) {gf : Nat} {lb : Array Value} (hg : a.eval g = .func (.func gf) #[] lb) (hFg : F.fn gf) (eg : ∀ args w, (callFunc gf args).run P w = .ok (.enter gf args) w)
    {encs : α → Array Value} {G : List α → α → World → Prop} {Kp : World → World → Prop} {S : List α → Prop} {w0 : World} (hseq : SeqTold F (n - 1) P gf lb encs G Kp S w0)
    (hKt : ∀ {A B C : World}, Kp A B → Kp B C → Kp A C) (hKb : ∀ (W : World) (l : Nat) (o o' : Obj), w.heap.size ≤ l → W.heap[l]? = some o → o.isCells = false → Kp W (W.putObj l o'))
    (hG : ∀ (pre : List α) (x : α) (W : World) (l : Nat) (o o' : Obj), w.heap.size ≤ l → W.heap[l]? = some o → o.isCells = false → G pre x W → G pre x (W.putObj l o'))
    (hb0 : Below w0.heap.size w0 w) (hps : ∀ x, (encs x).size = ps.size)
    (I : List α → World → Prop) (Ix : Code → List α → World → Prop) (hI : OwnFrom w.heap.size I) (hIx : ∀ c, OwnFrom w.heap.size (Ix c)) (h0 : I [] w) (a₁ : α → Act)
    (hassign : ∀ (l : Nat) (x : α) (W : World) (K : Act → World → Prop), K (a₁ x) W →
      assign.wpIn (F.inRound l) (n - 1 - 1) P (Exit.then K (fun _ _ _ => False)) { tmps := (ps.zip (encs x)).foldl (fun t (p, v) => t.setIfInBounds p v) a.tmps, defers := [] } W)
    (hbody : ∀ (l : Nat) (pre : List α) (x : α) (W : World), I pre W → G pre x W → body.wpIn (F.inRound l) (n - 1 - 1) P (ownPostK Kp I Ix (pre ++ [x]) W) (a₁ x) W)
    (hdone : ∀ (D : Nat) (xs : List α) (W : World), w.heap.size ≤ D → S xs → I xs W → W.heap[D]? = some (.deferred (some [])) → Q .normal { a with defers := { target := .collected D, args := #[] } :: a.defers } W)
    (hstop : ∀ (D : Nat) (c : Code) (pre : List α) (W : World), w.heap.size ≤ D → Ix c pre W → W.heap[D]? = some (.deferred (some [])) → c.wpIn F n P Q { a with defers := { target := .collected D, args := #[] } :: a.defers } W) :
    (Code.rangeFunc g ps assign body).wpIn F n P Q a w := by
  refine wpIn_rangeFunc fun fn hfn => ?_
  rw [hro]
  generalize hD : w.heap.size = D at *
  let lp (st : LoopState) (pe : Option Code) : Loop := { state := st, pending := pe, fn, tmps := a.tmps, params := ps, assign, body, defers := D }
  generalize hW1 : (w.alloc (.deferred (some []))).alloc (.loop (lp .ready none)) = W1
  have hs1 : W1.heap.size = D + 2 := by rw [← hW1, ← hD]; simp
  have hk1 : Kept2 D (lp .ready none) W1 := by
    rw [← hW1, ← hD]
    refine ⟨?_, (Below.heap_alloc _ _ _ (by simp)).trans (World.alloc_heap_new w _)⟩
    have := World.alloc_heap_new (w.alloc (.deferred (some []))) (.loop (lp .ready none))
    rw [World.size_alloc] at this; exact this
  have hI1 : I [] W1 := by rw [← hW1]; exact hI.alloc _ (hI.alloc _ h0)
  have hb1 : Below w0.heap.size w0 W1 := by
    rw [← hW1]; exact hb0.trans ((((Below.refl _ w).alloc (Nat.le_refl _) _).alloc (by simp) _).mono hb0.size)
  have hwalk : ∀ {A : World} {row : Option Nat}, (∀ r, row = some r → W1.heap.size ≤ r ∧ ∃ o : Obj, A.heap[r]? = some o ∧ o.isWalk = true) → (∀ r, row = some r → D ≤ r ∧ ∃ o : Obj, A.heap[r]? = some o ∧ o.isCells = false) :=
    fun hr r e => by obtain ⟨hB, o, ho, hw⟩ := hr r e; exact ⟨by omega, o, ho, Obj.not_cells_of_walk hw⟩
  refine ⟨D + 1, [{ target := .collected D, args := #[] }], W1, { target := .fn (.func gf) lb, args := #[.func (.yield (D + 1)) #[] #[]] }, W1, gf, #[.func (.yield (D + 1)) #[] #[]] ++ lb, W1, ?_, ?_, ?_, ?_, fun _ => h1, ?_⟩
  · rw [← hW1, ← hD]; have := run_enterLoop_outer (P := P) (w := w) fn a.tmps ps assign body; rw [this]; simp only [lp, hD]
  · simp only [resolve, hg]
    simp [go_sem]
  · intro f' hf'; simp [Target.leads] at hf'; subst hf'; exact hFg
  · simp [invoke, go_sem, eg]
  refine (hseq (D + 1) (fun pre W => I pre W ∧ Kept2 D (lp .ready none) W) (fun pre W => ∃ c, Ix c pre W ∧ Kept2 D (lp .done (some c)) W) W1 hb1
    (fun s A B row hs hg' hr => ⟨hI s A B row hs.1 hg' (hwalk hr), hs.2.abides hg' (fun r e => (hr r e).2)⟩) ?_ ⟨hI1, hk1⟩).mono ?_
  · rintro pre x W ⟨hi, hk⟩ hgx
    have hy := run_yield (P := P) (args := encs x) hk.loop (hps x)
    have hk2 := hk.put (lp .busy none)
    refine ⟨fn, _, assign, body, hy, roundIn_of_wpIn hfn (hassign _ x W _ ⟨_, run_beginRound hk.loop rfl, ?_⟩)⟩
    refine wpIn_mono (hbody _ pre x _ (hI.putObj _ hi (by omega) hk.loop rfl) (hG _ _ _ _ _ _ (by omega) hk.loop rfl hgx)) ?_
    have hKp1 : Kp W (W.putObj (D + 1) (.loop (lp .busy none))) := hKb _ _ _ _ (by omega) hk.loop rfl
    rintro e a3 W3 hp
    cases e with
    | normal =>
      obtain ⟨k3, q3, i3⟩ := hp
      have h3 := hk2.others k3
      exact ⟨_, _, run_endRound none h3.loop, .inl ⟨rfl, ⟨hI.putObj _ i3 (by omega) h3.loop rfl, h3.put _⟩, hKt (hKt hKp1 q3) (hKb _ _ _ _ (by omega) h3.loop rfl)⟩⟩
    | ret =>
      obtain ⟨k3, i3⟩ := hp
      have h3 := hk2.others k3
      exact ⟨_, _, run_endRound (some .ret) h3.loop, .inr ⟨rfl, .ret, (hIx _).putObj _ i3 (by omega) h3.loop rfl, h3.put _⟩⟩
    | exit id =>
      obtain ⟨k3, i3⟩ := hp
      have h3 := hk2.others k3
      exact ⟨_, _, run_endRound (some (.exit id)) h3.loop, .inr ⟨rfl, .exit id, (hIx _).putObj _ i3 (by omega) h3.loop rfl, h3.put _⟩⟩
    | goto t =>
      obtain ⟨k3, i3⟩ := hp
      have h3 := hk2.others k3
      exact ⟨_, _, run_endRound (some (.goto t)) h3.loop, .inr ⟨rfl, .goto t, (hIx _).putObj _ i3 (by omega) h3.loop rfl, h3.put _⟩⟩
    | panic ch => exact hp.elim
    | outgrown => exact hp.elim
  · rintro e W2 ⟨⟨v, rfl⟩, (⟨xs, hS, hi, hk⟩ | ⟨pre, c, hi, hk⟩)⟩
    · exact ⟨none, _, run_endLoop hk.loop (by simp [lp]), hdone D xs _ (Nat.le_refl _) hS (hI.putObj _ hi (by omega) hk.loop rfl) ((World.putObj_heap_other (by omega)).trans hk.defs)⟩
    · exact ⟨some c, _, run_endLoop hk.loop (by simp [lp]), hstop D c pre _ (Nat.le_refl _) ((hIx c).putObj _ hi (by omega) hk.loop rfl) ((World.putObj_heap_other (by omega)).trans hk.defs)⟩

/-- The same for one loop variable, a slot d that is handed over in slot p: the frame behind the assignment is written out by the law. -/
theorem wpIn_rangeFunc_told2 {g : Operand} {p : Tmp} {assign body : Code} {Q : Exit → Act → World → Prop} {tm : Array Value} {df : List Deferred} {w : World} (d : Tmp)
    (hro : F.round = none) (h1 : 1 ≤ n) {gf : Nat} {lb : Array Value} (hg : ({ tmps := tm, defers := df } : Act).eval g = .func (.func gf) #[] lb) (hFg : F.fn gf) (eg : ∀ args w, (callFunc gf args).run P w = .ok (.enter gf args) w)
    {G : List Value → Value → World → Prop} {Kp : World → World → Prop} {S : List Value → Prop} {w0 : World} (hseq : SeqTold F (n - 1) P gf lb (fun x : Value => #[x]) G Kp S w0)
    (hKt : ∀ {A B C : World}, Kp A B → Kp B C → Kp A C) (hKb : ∀ (W : World) (l : Nat) (o o' : Obj), w.heap.size ≤ l → W.heap[l]? = some o → o.isCells = false → Kp W (W.putObj l o'))
    (hG : ∀ (pre : List Value) (x : Value) (W : World) (l : Nat) (o o' : Obj), w.heap.size ≤ l → W.heap[l]? = some o → o.isCells = false → G pre x W → G pre x (W.putObj l o'))
    (hb0 : Below w0.heap.size w0 w)
    (I : List Value → World → Prop) (Ix : Code → List Value → World → Prop) (hI : OwnFrom w.heap.size I) (hIx : ∀ c, OwnFrom w.heap.size (Ix c)) (h0 : I [] w)
    (hassign : ∀ (l : Nat) (x : Value) (W : World) (K : Act → World → Prop), K { tmps := (tm.setIfInBounds p x).setIfInBounds d x, defers := [] } W →
      assign.wpIn (F.inRound l) (n - 1 - 1) P (Exit.then K (fun _ _ _ => False)) { tmps := tm.setIfInBounds p x, defers := [] } W)
    (hbody : ∀ (l : Nat) (pre : List Value) (x : Value) (W : World), I pre W → G pre x W → body.wpIn (F.inRound l) (n - 1 - 1) P (ownPostK Kp I Ix (pre ++ [x]) W) { tmps := (tm.setIfInBounds p x).setIfInBounds d x, defers := [] } W)
    (hdone : ∀ (D : Nat) (xs : List Value) (W : World), w.heap.size ≤ D → S xs → I xs W → W.heap[D]? = some (.deferred (some [])) → Q .normal { tmps := tm, defers := { target := .collected D, args := #[] } :: df } W)
    (hstop : ∀ (D : Nat) (c : Code) (pre : List Value) (W : World), w.heap.size ≤ D → Ix c pre W → W.heap[D]? = some (.deferred (some [])) → c.wpIn F n P Q { tmps := tm, defers := { target := .collected D, args := #[] } :: df } W) :
    (Code.rangeFunc g #[p] assign body).wpIn F n P Q { tmps := tm, defers := df } w :=
  wpIn_rangeFunc_told hro h1 hg hFg eg hseq hKt hKb hG hb0 (fun _ => rfl) I Ix hI hIx h0 (fun x => { tmps := (tm.setIfInBounds p x).setIfInBounds d x, defers := [] }) (fun l x W K hK => by have h := hassign l x W K hK; simpa using h) hbody hdone hstop
end Go.Proofs.Ytmnhnjljapabdaa
