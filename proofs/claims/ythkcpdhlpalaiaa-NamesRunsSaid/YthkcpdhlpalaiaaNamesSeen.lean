/- What a map of names says of the ranges that gave them, and the ranges while they give. Conditions: as each theorem names them. -/
import Derived.Test.YthkcpdhlpalaiaaNamesApart
set_option linter.unusedVariables false
namespace Go.Proofs.Ythkcpdhlpalaiaa
open Go.ChangeShapes Go.WideShapes Go.ChangeAt Go.RowKit Go.Maps

/-- the number that a cell holds -/
def num (w : World) (a : Addr) : Int := match w.cell? a with | some (.int _ z) => z | _ => 0
theorem num_of {w : World} {a : Addr} {k : IntKind} {z : Int} (h : w.cell? a = some (.int k z)) : num w a = z := by unfold num; rw [h]

/-- the map holds each name that was given, once -/
structure Seen (D : DataW Unit) (ps : List Pu) : Prop where
  tidy : Tidy D
  size : (Maps.size D : Int) = tk ps
  yes : ∀ (x : Int) (i : Nat) p, ps[i]? = some p → p.l ≤ x → x < p.u → D.atKey (.int .u64 x) (.lit (.int .i64 0)) = .lit (.int .i64 1)
  no : ∀ x : Int, (∀ (i : Nat) p, ps[i]? = some p → ¬ (p.l ≤ x ∧ x < p.u)) → Maps.has D (.int .u64 x) = false
theorem seen_start {ps : List Pu} (h : ∀ (i : Nat) p, ps[i]? = some p → p.u = p.l) : Seen (.map []) ps := by
  refine ⟨tidy_empty, by rw [tk_none ps h]; rfl, fun x i p hp h1 h2 => ?_, fun x _ => rfl⟩
  have := h i p hp
  omega
theorem not_yet {n : Int} {ps : List Pu} {i : Nat} {p : Pu} (hq : Parts n ps) (hp : ps[i]? = some p) (h1 : p.u < p.g) : ∀ (j : Nat) q, ps[j]? = some q → ¬ (q.l ≤ p.u ∧ p.u < q.u) := by
  intro j q hj hc
  obtain ⟨a1, a2, a3, a4⟩ := hq.in' i p hp
  obtain ⟨b1, b2, b3, b4⟩ := hq.in' j q hj
  by_cases e : i = j
  · subst e
    rw [hp] at hj
    cases hj
    omega
  · have h2 := cnt_two p.u ps i j p q e hp hj a2 h1 hc.1 (by omega)
    have h3 := hq.once p.u
    rw [h3] at h2
    split at h2 <;> omega
theorem Seen.fresh {n : Int} {D : DataW Unit} {ps : List Pu} {i : Nat} {p : Pu} (h : Seen D ps) (hq : Parts n ps) (hp : ps[i]? = some p) (h1 : p.u < p.g) : D.atKey (.int .u64 p.u) (.lit (.int .i64 0)) = .lit (.int .i64 0) :=
  atKey_of_not_has (h.no p.u (not_yet hq hp h1)) _
theorem Seen.take {n : Int} {D : DataW Unit} {ps : List Pu} {i : Nat} {p : Pu} (h : Seen D ps) (hq : Parts n ps) (hp : ps[i]? = some p) (h1 : p.u < p.g) : Seen (D.put (.int .u64 p.u) (.lit (.int .i64 1))) (ps.set i ⟨p.l, p.u + 1, p.g⟩) := by
  obtain ⟨a1, a2, a3, a4⟩ := hq.in' i p hp
  have hlt := (List.getElem?_eq_some_iff.1 hp).1
  have hno := h.no p.u (not_yet hq hp h1)
  have hkl : ∀ x : Int, WideAt.IsKeyLit (.int .u64 x) := fun x => trivial
  have hne : ∀ x : Int, x ≠ p.u → (Lit.int .u64 x) ≠ .int .u64 p.u := fun x hx e => hx (by injection e)
  have hat : ∀ (j : Nat) q, (ps.set i ⟨p.l, p.u + 1, p.g⟩)[j]? = some q → (j = i ∧ q = ⟨p.l, p.u + 1, p.g⟩) ∨ (j ≠ i ∧ ps[j]? = some q) := by
    intro j q hj
    by_cases e : j = i
    · subst e; rw [List.getElem?_set_self hlt] at hj; exact .inl ⟨rfl, by simpa using hj.symm⟩
    · rw [List.getElem?_set_ne (fun e' => e e'.symm)] at hj; exact .inr ⟨e, hj⟩
  refine ⟨h.tidy.put (hkl p.u) _, ?_, fun x j q hj hx1 hx2 => ?_, fun x hx => ?_⟩
  · rw [size_put h.tidy, hno, tk_set ps i p _ hp]
    have := h.size
    simp only [Bool.false_eq_true, if_false]
    omega
  · by_cases e : x = p.u
    · subst e; exact atKey_put_same h.tidy.isMap (hkl p.u) _ _
    · rw [atKey_put_other (hne x e)]
      rcases hat j q hj with ⟨_, rfl⟩ | ⟨_, hj2⟩
      · dsimp only at hx1 hx2
        exact h.yes x i p hp hx1 (by omega)
      · exact h.yes x j q hj2 hx1 hx2
  · have e : x ≠ p.u := by
      intro e
      exact hx i ⟨p.l, p.u + 1, p.g⟩ (List.getElem?_set_self hlt) ⟨by show p.l ≤ x; omega, by show x < p.u + 1; omega⟩
    rw [has_put_other (hne x e)]
    refine h.no x fun j q hj hc => ?_
    by_cases e2 : j = i
    · subst e2
      rw [hp] at hj
      cases hj
      exact hx j _ (List.getElem?_set_self hlt) ⟨hc.1, by show x < p.u + 1; omega⟩
    · exact hx j q (by rw [List.getElem?_set_ne (fun e' => e2 e'.symm)]; exact hj) hc

theorem tk_le : ∀ ps : List Pu, (∀ (i : Nat) p, ps[i]? = some p → p.u ≤ p.g) → tk ps ≤ tot ps
  | [], _ => Int.le_refl _
  | r :: ps, h => by
    have h0 := h 0 r rfl
    have := tk_le ps (fun i p hp => h (i + 1) p (by simpa using hp))
    simp only [tk, tot]
    omega
theorem Parts.tk_le {n : Int} {ps : List Pu} (h : Parts n ps) : tk ps ≤ n := by
  have := Go.Proofs.Ythkcpdhlpalaiaa.tk_le ps (fun i p hp => (h.in' i p hp).2.2.1)
  rw [h.tot] at this
  exact this

/-- while they give: those below i are done, those above i have not begun -/
structure Give (b i : Nat) (n : Int) (g cap N M : Nat) (ps : List Pu) (D : DataW Unit) (w1 wr : World) : Prop where
  fam : wr.ownsRow b 25 3 (.slice (some ⟨g, 0, none⟩) N cap) N (flat ps)
  len : ps.length = N
  parts : Parts n ps
  done : ∀ (j : Nat) p, ps[j]? = some p → j < i → p.u = p.g
  rest : ∀ (j : Nat) p, ps[j]? = some p → i < j → p.u = p.l
  map : wr.ownsMap Try.prog 22 (plainElem (H := Unit) Try.prog 3) M (tk ps).toNat D
  seen : Seen D ps
  bl : Below b w1 wr
  bM : b ≤ M
  ne : M ≠ g
theorem Give.at' {b i : Nat} {n : Int} {g cap N M : Nat} {ps : List Pu} {D : DataW Unit} {w1 wr : World} (h : Give b i n g cap N M ps D w1 wr) {j : Nat} {p : Pu} (hp : ps[j]? = some p) : At wr g (j * 3) p.l p.u p.g := by
  have hf : Fam b wr g cap ps := by unfold Fam; rw [h.len]; exact h.fam
  rw [Nat.mul_comm]; exact hf.at' hp
theorem Cut.give {b k : Nat} {n : Int} {g cap N : Nat} {ps : List Pu} {w1 wr : World} (h : Cut b k n g cap N ps w1 wr) : Give b 0 n g cap N wr.heap.size ps (.map []) w1 (wr.alloc (.map #[] 0)) := by
  have hg := own_lt h.fam
  refine ⟨World.ownsRow.alloc h.fam _, h.len, h.parts, fun j p _ hj => absurd hj (Nat.not_lt_zero _), fun j p hp _ => h.fresh j p hp, ?_, seen_start h.fresh, h.bl.alloc (by omega) _, by omega, by omega⟩
  exact (World.ownsMap_made _ _ _ _).mono (Nat.zero_le _)
theorem Give.next {b i : Nat} {n : Int} {g cap N M : Nat} {ps : List Pu} {D : DataW Unit} {w1 wr : World} (h : Give b i n g cap N M ps D w1 wr) {p : Pu} (hp : ps[i]? = some p) (hd : p.u = p.g) : Give b (i + 1) n g cap N M ps D w1 wr := by
  refine ⟨h.fam, h.len, h.parts, fun j q hq hj => ?_, fun j q hq hj => h.rest j q hq (by omega), h.map, h.seen, h.bl, h.bM, h.ne⟩
  by_cases e : j = i
  · subst e; rw [hp] at hq; cases hq; exact hd
  · exact h.done j q hq (by omega)
theorem Give.alloc {b i : Nat} {n : Int} {g cap N M : Nat} {ps : List Pu} {D : DataW Unit} {w1 wr : World} (h : Give b i n g cap N M ps D w1 wr) (o : Obj) : Give b i n g cap N M ps D w1 (wr.alloc o) :=
  ⟨World.ownsRow.alloc h.fam o, h.len, h.parts, h.done, h.rest, h.map.alloc o, h.seen, h.bl.alloc (by have := own_lt h.fam; omega) o, h.bM, h.ne⟩
/-- a name was taken -/
theorem Give.taken {b i : Nat} {n : Int} {g cap N M : Nat} {ps : List Pu} {D : DataW Unit} {w1 wr w3 : World} {p : Pu} (h : Give b i n g cap N M ps D w1 wr) (hp : ps[i]? = some p) (h1 : p.u < p.g) (o1 o2 : Obj)
    (hm : w3.ownsMap Try.prog 22 (plainElem (H := Unit) Try.prog 3) M ((tk ps).toNat + 1) (D.put (.int .u64 p.u) (.lit (.int .i64 1)))) (hg : (((wr.setCell ⟨g, i * 3 + 1, none⟩ (.int .u64 (p.u + 1))).alloc o1).alloc o2).grownBy w3 (some M)) :
    Give b i n g cap N M (ps.set i ⟨p.l, p.u + 1, p.g⟩) (D.put (.int .u64 p.u) (.lit (.int .i64 1))) w1 w3 := by
  have hf : Fam b wr g cap ps := by unfold Fam; rw [h.len]; exact h.fam
  have hgb := own_lt h.fam
  have h2 := hf.set_u hp (p.u + 1)
  unfold Fam at h2
  rw [List.length_set, h.len] at h2
  rw [Nat.mul_comm] at hg
  have hlt := (List.getElem?_eq_some_iff.1 hp).1
  have ht := tk_set ps i p ⟨p.l, p.u + 1, p.g⟩ hp
  dsimp only at ht
  have hs := h.seen.size
  refine ⟨World.ownsRow.kept (World.ownsRow.alloc (World.ownsRow.alloc h2 o1) o2) hg (.inr (by simp [Value.ownBlock]; exact fun e => h.ne e.symm)), by simp [h.len], h.parts.take hp h1, fun j q hq hj => ?_, fun j q hq hj => ?_, hm.mono (by omega), h.seen.take h.parts hp h1, ?_, h.bM, h.ne⟩
  · rw [List.getElem?_set_ne (by omega)] at hq; exact h.done j q hq hj
  · rw [List.getElem?_set_ne (by omega)] at hq; exact h.rest j q hq hj
  · exact (((h.bl.setCell (by exact hgb.1) _).alloc (by simp; omega) o1).alloc (by simp; omega) o2).grown hg (by simp; omega) (fun k hk => by cases hk; exact h.bM)
/-- all were given -/
theorem Give.all {b : Nat} {n : Int} {g cap N M : Nat} {ps : List Pu} {D : DataW Unit} {w1 wr : World} (h : Give b N n g cap N M ps D w1 wr) : (Maps.size D : Int) = n ∧ ∀ x : Int, 5 ≤ x → x < 5 + n → D.atKey (.int .u64 x) (.lit (.int .i64 0)) = .lit (.int .i64 1) := by
  have hd : ∀ (i : Nat) p, ps[i]? = some p → p.u = p.g := fun i p hp => h.done i p hp (by have := (List.getElem?_eq_some_iff.1 hp).1; have := h.len; omega)
  refine ⟨by rw [h.seen.size, tk_full ps hd, h.parts.tot], fun x h1 h2 => ?_⟩
  have hc := h.parts.once x
  rw [if_pos ⟨h1, h2⟩] at hc
  obtain ⟨i, p, hp, h3, h4⟩ := cnt_ex x ps (by omega)
  exact h.seen.yes x i p hp h3 (by rw [hd i p hp]; exact h4)
theorem Give.after {b i : Nat} {n : Int} {g cap N M : Nat} {ps : List Pu} {D : DataW Unit} {w1 wr : World} {L u G : Int} (h : Give b i n g cap N M ps D w1 wr) (hp : ps[i]? = some ⟨L, u, G⟩) (o : Obj) :
    At ((wr.setCell ⟨g, i * 3 + 1, none⟩ (.int .u64 (u + 1))).alloc o) g (i * 3) L (u + 1) G ∧ ((wr.setCell ⟨g, i * 3 + 1, none⟩ (.int .u64 (u + 1))).alloc o).ownsMap Try.prog 22 (plainElem (H := Unit) Try.prog 3) M (tk ps).toNat D := by
  have hf : Fam b wr g cap ps := by unfold Fam; rw [h.len]; exact h.fam
  have h2 := ((hf.set_u hp (u + 1)).alloc o).at' (List.getElem?_set_self (List.getElem?_eq_some_iff.1 hp).1)
  rw [Nat.mul_comm] at h2
  exact ⟨h2, (h.map.setCell (by exact h.ne) _).alloc o⟩
theorem given_yes (lo nx hi name : Int) (h1 : lo ≤ name) (h2 : name < nx) (w : World) :
    Calls Try.prog 12 #[rg lo nx hi, .int .u64 name] w fun e w' => e = .returned (.bool true) ∧ w.alloc (rgc lo nx hi) = w' :=
  (given_any lo nx hi name w).mono fun e w' h => ⟨by rw [h.1]; exact ret_bool (by simp [h1, h2]), h.2⟩
end Go.Proofs.Ythkcpdhlpalaiaa
