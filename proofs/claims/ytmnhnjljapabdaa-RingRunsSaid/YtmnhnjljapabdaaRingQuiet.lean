/- A region that draws its order and only reads, within a round of a range over a function; steps at a frame that is a letter. Conditions: as each theorem names them. -/
import Derived.Test.YtmnhnjljapabdaaOpen
import Derived.Sort.BigQuietIn
import Derived.RangeFuncCalls
import Derived.RangeFuncNested
set_option linter.unusedVariables false
namespace Go.Proofs.Ytmnhnjljapabdaa
open Go.RowKit
variable {F : Fence} {n : Nat} {P : Program} {ops : Array Oper} {md : Region.Mode}

def noDefer (ops : Array Oper) : Bool := ops.all fun o => match o.op with
  | .defer _ => false
  | _ => true
theorem noDefer_spec (h : noDefer ops = true) {i : Nat} {o : Oper} (hi : ops[i]? = some o) : ∀ c, o.op ≠ .defer c := by
  intro c e
  unfold noDefer at h
  rw [Array.all_eq_true] at h
  obtain ⟨hlt, ho⟩ := Array.getElem?_eq_some_iff.1 hi
  have := h i hlt
  rw [ho, e] at this
  cases this

theorem wpOpIn_round (hro : F.round = none) (l : Nat) (hnd : noDefer ops = true) {Q : Exit → Act → World → Prop} {i : Nat} {K : Act → World → Prop} {a : Act} {w : World} (h : wpOpIn F n P ops Q i K a w) : wpOpIn (F.inRound l) n P ops Q i K a w := by
  unfold wpOpIn at *
  cases ho : ops[i]? with
  | none => rw [ho] at h; exact h
  | some o =>
    rw [ho] at h
    simp only at h ⊢
    by_cases hw : Region.wanted o (yielded ops a.tmps) = true
    · rw [if_pos hw] at h ⊢
      unfold Oper.wpIn at *
      refine ⟨h.1, ?_⟩
      have e1 : o.semAt (F.inRound l).round a.eval = execOp a.eval o := Oper.semAt_some l _ _ (noDefer_spec hnd ho)
      have e2 : o.semAt F.round a.eval = execOp a.eval o := by rw [hro]; exact Oper.semAt_none _ _
      rw [e1]
      have h2 := h.2
      rw [e2] at h2
      exact h2
    · rw [if_neg hw] at h ⊢
      exact h
theorem wpAnyIn_round (hro : F.round = none) (l : Nat) (hnd : noDefer ops = true) {Q : Exit → Act → World → Prop} : ∀ (fuel : Nat) (seen : Array Bool) (a : Act) (w : World), wpAnyIn F n P md ops Q fuel seen a w → wpAnyIn (F.inRound l) n P md ops Q fuel seen a w
  | 0, _, _, _, h => h
  | fuel + 1, _, _, _, h => ⟨h.1, fun i hi => wpOpIn_mono (fun a' w' k => wpAnyIn_round hro l hnd fuel _ a' w' k) (wpOpIn_round hro l hnd (h.2 i hi))⟩

theorem quiet_round {id r : Nat} {Q : Exit → Act → World → Prop} {a : Act} {w : World} {l : List Oper} (hro : F.round = none) (hm : P.follows .mixedOrders = true) (hB : Region.lexB .any l.toArray = true) (hnd : noDefer l.toArray = true)
    (h : wpQuietIn F n P l.toArray (fun w' => ∃ n, w' = w.drewN n) (fun a' => ∀ w', (∃ n, w' = w.drewN n) → Q .normal a' w') l a) : (Code.region id l.toArray true).wpIn (F.inRound r) n P Q a w := by
  have hB2 := hB
  simp only [Region.lexB, Bool.and_eq_true] at hB
  refine wpIn_region_any hm (wpAnyIn_round hro r hnd _ _ _ _ (wpAnyIn_of_quiet (C := fun w' => ∃ n, w' = w.drewN n) (Q := fun a' => ∀ w', (∃ n, w' = w.drewN n) → Q .normal a' w') hro (fun _ w' hw' h => h w' hw') _ _ _ _ ⟨1, rfl⟩ ?_))
  have := wpAnyQIn_lex (F := F) (n := n) (C := fun w' => ∃ n, w' = w.drewN n) (md := .any) hB.1 l.toArray.toList 0 (Array.replicate l.toArray.size false) a (by simp) (by simpa using hB.2) h
  simpa using this
end Go.Proofs.Ytmnhnjljapabdaa
