/- A law on a region that draws its order: a load may be taken first though its cell is written by an operation that waits for it. Conditions: as each theorem names them. -/
import Derived.Test.YtelgmffmekfndaaOpenG
import Derived.OrdersHeld
import Derived.Tactics
set_option linter.unusedVariables false
namespace Go.Proofs.Ytelgmffmekfndaa

section
variable {P : Program} {ops : Array Oper} {Q : Exit → Act → World → Prop} {md : Region.Mode} {S : World → Prop} {L : List Nat}

/-- operation j waits for each of L -/
def lateOn (md : Region.Mode) (ops : Array Oper) (L : List Nat) (j : Nat) : Bool :=
  L.all fun i => match ops[j]? with
    | some o => o.after.any fun e => Region.binds md e && e.on == i
    | none => false

theorem lateOn_no {i j : Nat} {oj : Oper} (hj : ops[j]? = some oj) (hi : i ∈ L) (hn : ∀ e ∈ oj.after, Region.binds md e = true → e.on ≠ i) : lateOn md ops L j = false := by
  cases h : lateOn md ops L j with
  | false => rfl
  | true =>
    exfalso
    have h1 := List.all_eq_true.1 h i hi
    rw [hj] at h1
    obtain ⟨e, he, hb⟩ := Array.any_eq_true'.1 h1
    rw [Bool.and_eq_true, beq_iff_eq] at hb
    exact hn e he hb.1 hb.2

/-- in whatever order: behind each operation that changes the world and does not wait for all of L, S holds -/
def wpLate (P : Program) (md : Region.Mode) (ops : Array Oper) (Q : Exit → Act → World → Prop) (S : World → Prop) (L : List Nat) : Nat → Array Bool → Act → World → Prop
  | 0, seen, a, w => Region.ready md ops seen = [] ∧ Q .normal a w
  | n + 1, seen, a, w => (Region.ready md ops seen = [] → Q .normal a w) ∧
    ∀ i ∈ Region.ready md ops seen, wpOp P ops Q i (fun a' w' => (lateOn md ops L i = false → w' = w ∨ S w') ∧ wpLate P md ops Q S L n (seen.setIfInBounds i true) a' w') a w

theorem wpAny_of_late : ∀ (n : Nat) (seen : Array Bool) (a : Act) (w : World), wpLate P md ops Q S L n seen a w → wpAny P md ops Q n seen a w
  | 0, _, _, _, h => h
  | n + 1, seen, a, w, h => ⟨h.1, fun i hi => wpOp_mono (fun a' w' k => wpAny_of_late n _ a' w' k.2) (h.2 i hi)⟩

/-- what the two takes have in common: T is what is asked of the world -/
theorem wpLate_first {T : World → Prop} {i : Nat} {oi : Oper} {v : Value} (hi : ops[i]? = some oi) (hsel : ∀ (j : Nat) (o : Oper) cs b, ops[j]? = some o → o.op ≠ .select cs b)
    (hQ : ∀ c a w, Q (.panic c) (a.put oi.dst v) w → Q (.panic c) a w) (hT : ∀ j oj, ops[j]? = some oj → (∀ e ∈ oj.after, Region.binds md e = true → e.on ≠ i) → ∀ w w', T w → (lateOn md ops L j = false → w' = w ∨ S w') → T w') :
    ∀ (n : Nat) (seen : Array Bool) (a : Act) (w : World),
      (∀ j oj, ops[j]? = some oj → j ≠ i → seen.getD j true = false → (∀ e ∈ oj.after, Region.binds md e = true → e.on ≠ i) → oi.apart ops oj = true) →
      i ∈ Region.ready md ops seen → YieldsIf P ops T oi v a → T w →
      wpLate P md ops Q S L n (seen.setIfInBounds i true) (a.put oi.dst v) w → wpLate P md ops Q S L (n + 1) seen a w := by
  intro n
  induction n with
  | zero =>
    intro seen a w _ hr hy hw H
    constructor
    · intro e; rw [e] at hr; cases hr
    · intro j hj
      by_cases e : j = i
      · subst e; exact hy.wpOp hi hw ⟨fun _ => .inl rfl, H⟩
      · have k := ready_mono hj e
        rw [H.1] at k
        cases k
  | succ n ih =>
    intro seen a w hfree hr hy hw H
    constructor
    · intro e; rw [e] at hr; cases hr
    · intro j hj
      by_cases e : j = i
      · subst e; exact hy.wpOp hi hw ⟨fun _ => .inl rfl, H⟩
      · obtain ⟨hun, oj, hoj, hall⟩ := mem_ready.1 hj
        have hno : ∀ x ∈ oj.after, Region.binds md x = true → x.on ≠ i := by
          intro x hx hb hxi
          have k1 := hall x hx hb
          have k0 := (mem_ready.1 hr).1
          rw [hxi] at k1
          by_cases hlt : i < seen.size
          · simp [hlt] at k0 k1; rw [k0] at k1; cases k1
          · simp [Array.getElem?_eq_none (Nat.le_of_not_lt hlt)] at k1
        have k := wpOp_putIf hoj (hfree j oj hoj e hun hno) (fun cs b => hsel i oi cs b hi) (fun cs b => hsel j oj cs b hoj) hQ hy (H.2 j (ready_mono hj e))
        refine wpOp_mono (fun a' w' q => ⟨q.2.1, ih _ a' w' ?_ (ready_mono hr (Ne.symm e)) q.1 (hT j oj hoj hno w w' hw q.2.1) ?_⟩) k
        · intro m om hm hmi hmu hmn
          refine hfree m om hm hmi ?_ hmn
          by_cases c : j = m
          · subst c; exact hun
          · rw [getD_set_ne true c] at hmu; exact hmu
        · rw [Array.setIfInBounds_comm _ _ e]
          exact q.2.2

/-- an operation that yields in whatever world is taken first -/
theorem wpLate_pure {i : Nat} {oi : Oper} {v : Value} {n : Nat} {seen : Array Bool} {a : Act} {w : World} (hi : ops[i]? = some oi) (hs : Region.noSelect ops = true) (hf : Region.free md ops seen i = true) (hr : (Region.ready md ops seen).contains i = true)
    (hQ : ∀ c a w, Q (.panic c) (a.put oi.dst v) w → Q (.panic c) a w) (hw : Region.wanted oi (yielded ops a.tmps) = true) (hy : ∀ w, (execOp a.eval oi).run P w = .ok (.value v) w)
    (h : wpLate P md ops Q S L n (seen.setIfInBounds i true) (a.put oi.dst v) w) : wpLate P md ops Q S L (n + 1) seen a w :=
  wpLate_first (T := fun _ => True) hi (Region.noSelect_spec hs) hQ (fun _ _ _ _ _ _ _ _ => trivial) n seen a w (Region.free_spec hi hf) (by simpa using hr) (.inl ⟨hw, fun w _ => hy w⟩) trivial h
/-- a load that is one of L is taken first -/
theorem wpLate_load {i : Nat} {oi : Oper} {v : Value} {n : Nat} {seen : Array Bool} {a : Act} {w : World} (hi : ops[i]? = some oi) (hs : Region.noSelect ops = true) (hf : Region.free md ops seen i = true) (hr : (Region.ready md ops seen).contains i = true) (hL : i ∈ L)
    (hQ : ∀ c a w, Q (.panic c) (a.put oi.dst v) w → Q (.panic c) a w) (hw : Region.wanted oi (yielded ops a.tmps) = true) (hy : ∀ w, S w → (execOp a.eval oi).run P w = .ok (.value v) w) (hS : S w)
    (h : wpLate P md ops Q S L n (seen.setIfInBounds i true) (a.put oi.dst v) w) : wpLate P md ops Q S L (n + 1) seen a w :=
  wpLate_first (T := S) hi (Region.noSelect_spec hs) hQ (fun j oj hj hno w w' hSw hq => by
      rcases hq (lateOn_no hj hL hno) with e | e
      · rw [e]; exact hSw
      · exact e) n seen a w (Region.free_spec hi hf) (by simpa using hr) (.inl ⟨hw, hy⟩) hS h
theorem wpLate_all {rs : List Nat} {n : Nat} {seen : Array Bool} {a : Act} {w : World} (hr : Region.ready md ops seen = rs) (hne : rs ≠ [])
    (h : ∀ i ∈ rs, wpOp P ops Q i (fun a' w' => (lateOn md ops L i = false → w' = w ∨ S w') ∧ wpLate P md ops Q S L n (seen.setIfInBounds i true) a' w') a w) : wpLate P md ops Q S L (n + 1) seen a w :=
  ⟨fun e => absurd (hr ▸ e) hne, hr ▸ h⟩
theorem wpLate_one {i : Nat} {n : Nat} {seen : Array Bool} {a : Act} {w : World} (hr : Region.ready md ops seen = [i])
    (h : wpOp P ops Q i (fun a' w' => (lateOn md ops L i = false → w' = w ∨ S w') ∧ wpLate P md ops Q S L n (seen.setIfInBounds i true) a' w') a w) : wpLate P md ops Q S L (n + 1) seen a w :=
  wpLate_all hr (by simp) (fun j hj => by rw [List.mem_singleton.1 hj]; exact h)
theorem wpLate_two {i j : Nat} {n : Nat} {seen : Array Bool} {a : Act} {w : World} (hr : Region.ready md ops seen = [i, j])
    (h1 : wpOp P ops Q i (fun a' w' => (lateOn md ops L i = false → w' = w ∨ S w') ∧ wpLate P md ops Q S L n (seen.setIfInBounds i true) a' w') a w)
    (h2 : wpOp P ops Q j (fun a' w' => (lateOn md ops L j = false → w' = w ∨ S w') ∧ wpLate P md ops Q S L n (seen.setIfInBounds j true) a' w') a w) : wpLate P md ops Q S L (n + 1) seen a w :=
  wpLate_all hr (by simp) (fun k hk => by
    rcases List.mem_cons.1 hk with e | e
    · rw [e]; exact h1
    · rw [List.mem_singleton.1 e]; exact h2)
theorem wpLate_done {seen : Array Bool} {a : Act} {w : World} (hr : Region.ready md ops seen = []) (h : Q .normal a w) : wpLate P md ops Q S L 0 seen a w := ⟨hr, h⟩
theorem wp_region_late {id : Nat} {a : Act} {w : World} (S : World → Prop) (L : List Nat) (N : Nat) (hN : ops.size = N) (hm : P.follows .mixedOrders = true)
    (h : wpLate P .any ops Q S L N (Array.replicate N false) a w.drew) : (Code.region id ops true).wp P Q a w := by
  subst hN
  exact wp_region_any hm (wpAny_of_late _ _ _ _ h)

/-- an operation that is wanted and yields a value -/
theorem wpOp_value {i : Nat} {oi : Oper} {v : Value} {a : Act} {w w' : World} {K : Act → World → Prop} (hi : ops[i]? = some oi) (hw : Region.wanted oi (yielded ops a.tmps) = true) (hr : (execOp a.eval oi).run P w = .ok (.value v) w') (h : K (a.put oi.dst v) w') : wpOp P ops Q i K a w := by
  unfold wpOp
  rw [hi]
  simp only [hw, if_true]
  left
  unfold Oper.wp
  rw [hr]
  exact h
theorem wpOp_skip {i : Nat} {oi : Oper} {a : Act} {w w' : World} {K : Act → World → Prop} (hi : ops[i]? = some oi) (hw : Region.wanted oi (yielded ops a.tmps) = true) (hr : (execOp a.eval oi).run P w = .ok .skip w') (h : K (a.put oi.dst undef) w') : wpOp P ops Q i K a w := by
  unfold wpOp
  rw [hi]
  simp only [hw, if_true]
  left
  unfold Oper.wp
  rw [hr]
  exact h
theorem wpOp_law {i : Nat} {oi : Oper} {a : Act} {w : World} {K : Act → World → Prop} (hi : ops[i]? = some oi) (hw : Region.wanted oi (yielded ops a.tmps) = true) (h : Oper.wp P oi a w K Q) : wpOp P ops Q i K a w := by
  unfold wpOp
  rw [hi]
  simp only [hw, if_true]
  exact .inl h
end
end Go.Proofs.Ytelgmffmekfndaa
