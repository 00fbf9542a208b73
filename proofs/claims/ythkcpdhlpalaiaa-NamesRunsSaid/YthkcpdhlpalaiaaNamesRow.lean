/- Ranges, what the document says of them, and the names that were given: all three in memory of the call's own. Conditions: as each names them. -/
import Derived.Test.YthkcpdhlpalaiaaNamesSeen
import Derived.Deep.RegionHeld3
import Derived.Deep.DrawnRows
import Derived.Deep.DeepCutAuto
import Derived.Deep.CutBlock
import Derived.Deep.QuietTactic
import Derived.BigQuiet
set_option linter.unusedVariables false
namespace Go.Proofs.Ythkcpdhlpalaiaa
open Go.ChangeShapes Go.WideShapes Go.ChangeAt Go.RowKit Go.Maps

theorem info38 : (Try.prog.info? 38).map (fun i => (i.zero, i.size, i.bytes)) = some (some (.agg #[.int .u64 0, .int .u64 0, .int .u64 0]), 3, 24) := by kernel_rfl
theorem zero4 (w : World) : (zeroValue 4).run Try.prog w = .ok (.bool false) w := by kernel_rfl

/-- ranges that part the names from lo on, n of them -/
structure RParts (lo n : Int) (ps : List Pu) : Prop where
  pos : 0 < ps.length
  in' : ∀ (i : Nat) p, ps[i]? = some p → lo ≤ p.l ∧ p.l ≤ p.u ∧ p.u ≤ p.g ∧ p.g ≤ lo + n
  once : ∀ x : Int, cnt x ps ≤ 1
theorem RParts.start (lo n : Int) (h : 0 ≤ n) : RParts lo n [⟨lo, lo, lo + n⟩] := by
  refine ⟨by simp, fun i p hp => ?_, fun x => by simp only [cnt]; split <;> omega⟩
  match i, hp with
  | 0, hp => simp at hp; subst hp; exact ⟨Int.le_refl _, Int.le_refl _, by show lo ≤ lo + n; omega, Int.le_refl _⟩
theorem RParts.split {lo n V : Int} {ps : List Pu} {i : Nat} {p : Pu} (h : RParts lo n ps) (hp : ps[i]? = some p) (h0 : 0 ≤ V) (h1 : V ≤ p.g - p.u) : RParts lo n (ps.set i ⟨p.l, p.u, p.g - V⟩ ++ [⟨p.g - V, p.g - V, p.g⟩]) := by
  obtain ⟨a1, a2, a3, a4⟩ := h.in' i p hp
  refine ⟨by simp, fun j s hs => ?_, fun x => ?_⟩
  · rcases at_set_append hp hs with ⟨_, rfl⟩ | ⟨_, h2⟩ | ⟨_, rfl⟩
    · exact ⟨a1, a2, by show p.u ≤ p.g - V; omega, by show p.g - V ≤ _; omega⟩
    · exact h.in' j s h2
    · exact ⟨by show lo ≤ p.g - V; omega, Int.le_refl _, by show p.g - V ≤ p.g; omega, a4⟩
  · have ho := h.once x
    have := cnt_set x ps i p ⟨p.l, p.u, p.g - V⟩ hp
    rw [cnt_append]
    simp only [cnt] at this ⊢
    repeat' (split at this)
    all_goals (repeat' split)
    all_goals omega
theorem RParts.take {lo n : Int} {ps : List Pu} {i : Nat} {p : Pu} (h : RParts lo n ps) (hp : ps[i]? = some p) (h1 : p.u < p.g) : RParts lo n (ps.set i ⟨p.l, p.u + 1, p.g⟩) := by
  obtain ⟨a1, a2, a3, a4⟩ := h.in' i p hp
  have hlt := (List.getElem?_eq_some_iff.1 hp).1
  refine ⟨by simpa using h.pos, fun j s hs => ?_, fun x => ?_⟩
  · by_cases e : j = i
    · subst e
      rw [List.getElem?_set_self hlt] at hs
      cases hs
      exact ⟨a1, by show p.l ≤ p.u + 1; omega, by show p.u + 1 ≤ p.g; omega, a4⟩
    · rw [List.getElem?_set_ne (fun e' => e e'.symm)] at hs
      exact h.in' j s hs
  · have ho := h.once x
    have := cnt_set x ps i p ⟨p.l, p.u + 1, p.g⟩ hp
    dsimp only at this
    omega

/-- no name that was not given is in the map -/
def Unseen (D : DataW Unit) (ps : List Pu) : Prop := ∀ x : Int, (∀ (i : Nat) p, ps[i]? = some p → ¬ (p.l ≤ x ∧ x < p.u)) → D.atKey (.int .u64 x) (.lit (.bool false)) = .lit (.bool false)
theorem unseen_start (ps : List Pu) : Unseen (.map []) ps := fun x _ => rfl
theorem RParts.not_yet {lo n : Int} {ps : List Pu} {i : Nat} {p : Pu} (hq : RParts lo n ps) (hp : ps[i]? = some p) (h1 : p.u < p.g) : ∀ (j : Nat) q, ps[j]? = some q → ¬ (q.l ≤ p.u ∧ p.u < q.u) := by
  intro j q hj hc
  obtain ⟨a1, a2, a3, a4⟩ := hq.in' i p hp
  obtain ⟨b1, b2, b3, b4⟩ := hq.in' j q hj
  by_cases e : i = j
  · subst e
    rw [hp] at hj
    cases hj
    omega
  · have h2 := cnt_two p.u ps i j p q e hp hj a2 h1 hc.1 (by omega)
    have h3 := hq.once p.u
    omega
theorem key_ne {x y : Int} (h : x ≠ y) : (Lit.int .u64 x) ≠ .int .u64 y := fun e => h (by injection e)
theorem Unseen.take {lo n : Int} {D : DataW Unit} {ps : List Pu} {i : Nat} {p : Pu} (h : Unseen D ps) (hp : ps[i]? = some p) (hu : p.l ≤ p.u) : Unseen (D.put (.int .u64 p.u) (.lit (.bool true))) (ps.set i ⟨p.l, p.u + 1, p.g⟩) := by
  have hlt := (List.getElem?_eq_some_iff.1 hp).1
  intro x hx
  have e : x ≠ p.u := by
    intro e
    exact hx i ⟨p.l, p.u + 1, p.g⟩ (List.getElem?_set_self hlt) ⟨by show p.l ≤ x; omega, by show x < p.u + 1; omega⟩
  rw [atKey_put_other (key_ne e)]
  refine h x fun j q hj hc => ?_
  by_cases e2 : j = i
  · subst e2
    rw [hp] at hj
    cases hj
    exact hx j _ (List.getElem?_set_self hlt) ⟨hc.1, by show x < p.u + 1; omega⟩
  · exact hx j q (by rw [List.getElem?_set_ne (fun e' => e2 e'.symm)]; exact hj) hc
theorem Unseen.zero {D : DataW Unit} {ps : List Pu} (h : Unseen D ps) (hD : IsMap D) : Unseen (D.put (.int .u64 0) (.lit (.bool false))) ps := by
  intro x hx
  by_cases e : x = 0
  · subst e; exact atKey_put_same hD (show WideAt.IsKeyLit (.int .u64 0) from trivial) _ _
  · rw [atKey_put_other (key_ne e)]; exact h x hx
theorem Unseen.split {lo n V : Int} {D : DataW Unit} {ps : List Pu} {i : Nat} {p : Pu} (h : Unseen D ps) (hp : ps[i]? = some p) : Unseen D (ps.set i ⟨p.l, p.u, p.g - V⟩ ++ [⟨p.g - V, p.g - V, p.g⟩]) := by
  have hlt := (List.getElem?_eq_some_iff.1 hp).1
  intro x hx
  refine h x fun j q hj hc => ?_
  have hjl := (List.getElem?_eq_some_iff.1 hj).1
  by_cases e2 : j = i
  · subst e2
    rw [hp] at hj
    cases hj
    exact hx j ⟨p.l, p.u, p.g - V⟩ (by rw [List.getElem?_append_left (by simpa using hlt), List.getElem?_set_self hlt]) hc
  · exact hx j q (by rw [List.getElem?_append_left (by simpa using hjl), List.getElem?_set_ne (fun e' => e2 e'.symm)]; exact hj) hc

/-- a look-up in a map of bools -/
theorem lookup_bool {w : World} {M n : Nat} {D : DataW Unit} (h : w.ownsMap Try.prog 22 (plainElem (H := Unit) Try.prog 4) M n D) {x : Int} (hkey : keyOf Try.prog 22 (.int .u64 x) = some (.int .u64 x)) (hf : D.atKey (.int .u64 x) (.lit (.bool false)) = .lit (.bool false)) :
    (Instr.lookup 40 (.map (some M)) (.int .u64 x) false).run Try.prog w = .ok (.bool false) w := by
  obtain ⟨v, ps, hrun, hv⟩ := h.lookup law22 Try.underlying40 (zero4 w) (plainElem_bool Try.underlying4 false) hkey
  rw [hf] at hv
  have e : v = .bool false := by
    unfold plainElem at hv
    rw [Try.underlying4] at hv
    cases v <;> simp at hv
    obtain ⟨rfl, _⟩ := hv
    rfl
  rw [e] at hrun
  exact hrun

/-- behind k calls -/
structure Run (b k : Nat) (lo n : Int) (g cap h caph N M : Nat) (ps : List Pu) (D : DataW Unit) (w1 wr : World) : Prop where
  fam : wr.ownsRow b 25 3 (.slice (some ⟨g, 0, none⟩) N cap) N (flat ps)
  mod : wr.ownsRow b 38 3 (.slice (some ⟨h, 0, none⟩) N caph) N (flat ps)
  len : ps.length = N
  parts : RParts lo n ps
  map : wr.ownsMap Try.prog 22 (plainElem (H := Unit) Try.prog 4) M k D
  seen : Unseen D ps
  le : N ≤ k + 1
  bl : Below b w1 wr
  bM : b ≤ M
  n1 : M ≠ g
  n2 : M ≠ h
  n3 : g ≠ h
theorem own_at {w : World} {b e n g cap i : Nat} {ps : List Pu} {p : Pu} (h : w.ownsRow b e 3 (.slice (some ⟨g, 0, none⟩) n cap) n (flat ps)) (hi : ps[i]? = some p) : At w g (i * 3) p.l p.u p.g := by
  obtain ⟨a1, a2, a3⟩ := flat_at ps i p hi
  have c1 := World.ownsRow.cells h (g := g) rfl _ _ a1
  have c2 := World.ownsRow.cells h (g := g) rfl _ _ a2
  have c3 := World.ownsRow.cells h (g := g) rfl _ _ a3
  rw [add_at, Nat.zero_add] at c1 c2 c3
  rw [Nat.mul_comm]
  exact ⟨(own_lt h).2, c1, c2, c3, own_frozen h _, own_frozen h _, own_frozen h _⟩
theorem own_set_u {w : World} {b e n g cap i : Nat} {ps : List Pu} {p : Pu} (h : w.ownsRow b e 3 (.slice (some ⟨g, 0, none⟩) n cap) n (flat ps)) (hi : ps[i]? = some p) (x : Int) : (w.setCell ⟨g, i * 3 + 1, none⟩ (.int .u64 x)).ownsRow b e 3 (.slice (some ⟨g, 0, none⟩) n cap) n (flat (ps.set i ⟨p.l, x, p.g⟩)) := by
  have hlt := (List.getElem?_eq_some_iff.1 hi).1
  have := own_set h (k := 3 * i + 1) (by rw [flat_length]; omega) (.int .u64 x)
  rw [flat_set_u ps i p x hi, Nat.mul_comm] at this
  exact this
theorem own_set_g {w : World} {b e n g cap i : Nat} {ps : List Pu} {p : Pu} (h : w.ownsRow b e 3 (.slice (some ⟨g, 0, none⟩) n cap) n (flat ps)) (hi : ps[i]? = some p) (x : Int) : (w.setCell ⟨g, i * 3 + 2, none⟩ (.int .u64 x)).ownsRow b e 3 (.slice (some ⟨g, 0, none⟩) n cap) n (flat (ps.set i ⟨p.l, p.u, x⟩)) := by
  have hlt := (List.getElem?_eq_some_iff.1 hi).1
  have := own_set h (k := 3 * i + 2) (by rw [flat_length]; omega) (.int .u64 x)
  rw [flat_set_g ps i p x hi, Nat.mul_comm] at this
  exact this
theorem ownsRow_same {w w' : World} {base size n : Nat} {e : TypeId} {v : Value} {xs : List Value} (h : w.ownsRow base e size v n xs) (hk : ∀ g, v.ownBlock = some g → w'.heap[g]? = w.heap[g]?) : w'.ownsRow base e size v n xs := by
  obtain ⟨hl, hc | ⟨g, cap, cur, h1, h2, h3, h4⟩⟩ := h
  · exact ⟨hl, .inl hc⟩
  · subst h1
    exact ⟨hl, .inr ⟨g, cap, cur, rfl, h2, (hk g rfl).trans h3, h4⟩⟩
theorem own_far {w : World} {b e n g cap : Nat} {xs : List Value} (h : w.ownsRow b e 3 (.slice (some ⟨g, 0, none⟩) n cap) n xs) (a : Addr) (u : Value) (hne : g ≠ a.block) : (w.setCell a u).ownsRow b e 3 (.slice (some ⟨g, 0, none⟩) n cap) n xs :=
  ownsRow_same h (fun k hk => by have e : some g = some k := hk; cases e; exact Below.heap_setCell _ _ _ _ hne)
theorem own_below {w w' : World} {b e n g cap : Nat} {xs : List Value} (h : w.ownsRow b e 3 (.slice (some ⟨g, 0, none⟩) n cap) n xs) (hb : Below w.heap.size w w') : w'.ownsRow b e 3 (.slice (some ⟨g, 0, none⟩) n cap) n xs :=
  ownsRow_same h (fun k hk => by have e : some g = some k := hk; cases e; exact hb.block _ (own_lt h).2)
theorem map_below {w w' : World} {M k : Nat} {D : DataW Unit} (h : w.ownsMap Try.prog 22 (plainElem (H := Unit) Try.prog 4) M k D) (hb : Below w.heap.size w w') : w'.ownsMap Try.prog 22 (plainElem (H := Unit) Try.prog 4) M k D :=
  h.kept (row := none) ⟨hb.os, hb.tape, hb.output, hb.size, fun i hi _ => hb.block i hi⟩ (by simp)
theorem Run.below {b k : Nat} {lo n : Int} {g cap h caph N M : Nat} {ps : List Pu} {D : DataW Unit} {w1 wr w' : World} (r : Run b k lo n g cap h caph N M ps D w1 wr) (hb : Below wr.heap.size wr w') : Run b k lo n g cap h caph N M ps D w1 w' :=
  ⟨own_below r.fam hb, own_below r.mod hb, r.len, r.parts, map_below r.map hb, r.seen, r.le, r.bl.trans (hb.mono (by have := (own_lt r.fam); omega)), r.bM, r.n1, r.n2, r.n3⟩
end Go.Proofs.Ythkcpdhlpalaiaa
