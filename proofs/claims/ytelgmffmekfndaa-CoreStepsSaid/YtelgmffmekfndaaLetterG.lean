/- Steps of a region that draws, taken at a frame that is a letter. Conditions: as each theorem names them. -/
import Derived.Test.YtelgmffmekfndaaHeldLateG
import Derived.Deep.AppendLies
import Derived.Deep.RegionHeld3
set_option linter.unusedVariables false
namespace Go.Proofs.Ytelgmffmekfndaa
open Go.RowKit

section
variable {P : Program} {ops : Array Oper} {Q : Exit → Act → World → Prop} {md : Region.Mode} {S : World → Prop} {L : List Nat}

theorem put_same {a : Act} {d n : Nat} {v : Value} (hs : a.tmps.size = n) (hd : d < n) : (a.put (some d) v).eval (.tmp d) = v := by
  show (a.tmps.setIfInBounds d v).getD d undef = v
  rw [Array.getD_eq_getD_getElem?, Array.getElem?_setIfInBounds_self_of_lt (by omega)]
  rfl
theorem put_else {a : Act} {d k : Nat} {v : Value} (h : k ≠ d) : (a.put (some d) v).eval (.tmp k) = a.eval (.tmp k) := by
  show (a.tmps.setIfInBounds d v).getD k undef = a.tmps.getD k undef
  rw [Array.getD_eq_getD_getElem?, Array.getD_eq_getD_getElem?, Array.getElem?_setIfInBounds_ne (Ne.symm h)]
theorem put_size {a : Act} {d n : Nat} {v : Value} (hs : a.tmps.size = n) : (a.put (some d) v).tmps.size = n := by
  show (a.tmps.setIfInBounds d v).size = n
  rw [Array.size_setIfInBounds, hs]
theorem put_comm (a : Act) (d1 d2 : Nat) (v1 v2 : Value) (h : d1 ≠ d2) : (a.put (some d1) v1).put (some d2) v2 = (a.put (some d2) v2).put (some d1) v1 := by
  show ({ a with tmps := (a.tmps.setIfInBounds d1 v1).setIfInBounds d2 v2 } : Act) = { a with tmps := (a.tmps.setIfInBounds d2 v2).setIfInBounds d1 v1 }
  rw [Array.setIfInBounds_comm _ _ h]

/-- what a step leaves of the frame -/
structure Put (a a' : Act) (ρ ρ' : Operand → Value) (n d : Nat) (v : Value) : Prop where
  eq : a.put (some d) v = a'
  ev : a'.eval = ρ'
  sz : a'.tmps.size = n
  at' : ρ' (.tmp d) = v
  rest : ∀ k, k ≠ d → ρ' (.tmp k) = ρ (.tmp k)
theorem Put.mk' {a : Act} {ρ : Operand → Value} {n d : Nat} {v : Value} (hρ : a.eval = ρ) (hs : a.tmps.size = n) (hd : d < n) : Put a (a.put (some d) v) ρ (a.put (some d) v).eval n d v :=
  ⟨rfl, rfl, put_size hs, put_same hs hd, fun k hk => by rw [put_else hk, hρ]⟩

theorem lt_pure {i m n d : Nat} {oi : Oper} {v : Value} {seen : Array Bool} {a : Act} {ρ : Operand → Value} {w : World} (hρ : a.eval = ρ) (hi : ops[i]? = some oi) (hs : Region.noSelect ops = true) (hf : Region.free md ops seen i = true) (hr : (Region.ready md ops seen).contains i = true)
    (hQ : ∀ c a w, Q (.panic c) (a.put oi.dst v) w → Q (.panic c) a w) (hw : Region.wanted oi (yielded ops a.tmps) = true) (hy : ∀ w, (execOp ρ oi).run P w = .ok (.value v) w) (hd : oi.dst = some d) (hz : a.tmps.size = n) (hdn : d < n)
    (h : ∀ a' ρ', Put a a' ρ ρ' n d v → wpLate P md ops Q S L m (seen.setIfInBounds i true) a' w) : wpLate P md ops Q S L (m + 1) seen a w := by
  subst hρ
  refine wpLate_pure hi hs hf hr hQ hw hy ?_
  rw [hd]
  exact h _ _ (Put.mk' rfl hz hdn)
theorem lt_load {i m n d : Nat} {oi : Oper} {v : Value} {seen : Array Bool} {a : Act} {ρ : Operand → Value} {w : World} (hρ : a.eval = ρ) (hi : ops[i]? = some oi) (hs : Region.noSelect ops = true) (hf : Region.free md ops seen i = true) (hr : (Region.ready md ops seen).contains i = true) (hL : i ∈ L)
    (hQ : ∀ c a w, Q (.panic c) (a.put oi.dst v) w → Q (.panic c) a w) (hw : Region.wanted oi (yielded ops a.tmps) = true) (hy : ∀ w, S w → (execOp ρ oi).run P w = .ok (.value v) w) (hS : S w) (hd : oi.dst = some d) (hz : a.tmps.size = n) (hdn : d < n)
    (h : ∀ a' ρ', Put a a' ρ ρ' n d v → wpLate P md ops Q S L m (seen.setIfInBounds i true) a' w) : wpLate P md ops Q S L (m + 1) seen a w := by
  subst hρ
  refine wpLate_load hi hs hf hr hL hQ hw hy hS ?_
  rw [hd]
  exact h _ _ (Put.mk' rfl hz hdn)
theorem lt_value {i m n d : Nat} {oi : Oper} {v : Value} {seen : Array Bool} {a : Act} {ρ : Operand → Value} {w w' : World} (hρ : a.eval = ρ) (hi : ops[i]? = some oi) (hw : Region.wanted oi (yielded ops a.tmps) = true) (hr : (execOp ρ oi).run P w = .ok (.value v) w') (hd : oi.dst = some d) (hz : a.tmps.size = n) (hdn : d < n)
    (hS : lateOn md ops L i = false → w' = w ∨ S w') (h : ∀ a' ρ', Put a a' ρ ρ' n d v → wpLate P md ops Q S L m (seen.setIfInBounds i true) a' w') :
    wpOp P ops Q i (fun a' w' => (lateOn md ops L i = false → w' = w ∨ S w') ∧ wpLate P md ops Q S L m (seen.setIfInBounds i true) a' w') a w := by
  subst hρ
  refine wpOp_value hi hw hr ⟨hS, ?_⟩
  rw [hd]
  exact h _ _ (Put.mk' rfl hz hdn)
theorem lt_skip {i m : Nat} {oi : Oper} {seen : Array Bool} {a : Act} {ρ : Operand → Value} {w w' : World} (hρ : a.eval = ρ) (hi : ops[i]? = some oi) (hw : Region.wanted oi (yielded ops a.tmps) = true) (hr : (execOp ρ oi).run P w = .ok .skip w') (hd : oi.dst = none)
    (hS : lateOn md ops L i = false → w' = w ∨ S w') (h : wpLate P md ops Q S L m (seen.setIfInBounds i true) a w') :
    wpOp P ops Q i (fun a' w' => (lateOn md ops L i = false → w' = w ∨ S w') ∧ wpLate P md ops Q S L m (seen.setIfInBounds i true) a' w') a w := by
  subst hρ
  refine wpOp_skip hi hw hr ⟨hS, ?_⟩
  rw [hd]
  exact h

theorem rn_move {o : Oper} {ρ : Operand → Value} {x : Operand} {v : Value} (ho : o.op = .move x) (h : ρ x = v) (w : World) : (execOp ρ o).run P w = .ok (.value v) w := by
  subst h; unfold execOp; simp [ho, go_sem]
theorem rn_nil {o : Oper} {ρ : Operand → Value} {x : Operand} {p : Addr} (ho : o.op = .nilCheck x) (h : ρ x = .pointer (some p)) (w : World) : (execOp ρ o).run P w = .ok (.value (.pointer (some p))) w := by
  unfold execOp; simp [ho, h, go_sem]
end
theorem rn_append {P : Program} {o : Oper} {ρ : Operand → Value} {s x : Operand} {t : TypeId} {v0 v y : Value} {w w1 : World} (ho : o.op = .call { callee := .builtin .append, args := #[s, x], argTypes := #[t, t] }) (ht : o.type = t) (hs : ρ s = v0) (hx : ρ x = v)
    (hr : (Builtin.append_ #[t, t] t #[v0, v]).run P w = .ok y w1) : (execOp ρ o).run P w = .ok (.value y) w1 := by
  unfold execOp
  simp only [ho, ht, resolve, invoke, builtin, Sem.run_bind, Sem.run_pure, Result.andThen_ok, List.map_toArray, List.map_cons, List.map_nil, hs, hx, hr]

/-- the first region of that number -/
def regionOf (n : Nat) : Code → Option Code
  | .region id ops d => if id = n then some (.region id ops d) else none
  | .loop c => regionOf n c
  | .seq a b => match regionOf n a with
    | some c => some c
    | none => regionOf n b
  | .block _ c => regionOf n c
  | .scope c => regionOf n c
  | .cond _ a b => match regionOf n a with
    | some c => some c
    | none => regionOf n b
  | _ => none
end Go.Proofs.Ytelgmffmekfndaa
