/- A family of purses in the call's own memory, what each gave to those below it, and the contract of 'sound'. Conditions: as each names them. -/
import Derived.Test.YteflfflmedkdiaaPurseTree
set_option linter.unusedVariables false
namespace Go.Proofs.Yteflfflmedkdiaa
open Go.ChangeShapes Go.WideShapes Go.ChangeAt Go.RowKit

def ints (us : List Int) : List Value := us.map fun u => .int .i64 u
theorem ints_length (us : List Int) : (ints us).length = us.length := by simp [ints]
theorem ints_append (us vs : List Int) : ints (us ++ vs) = ints us ++ ints vs := by simp [ints]
theorem ints_at {us : List Int} {k : Nat} {u : Int} (h : us[k]? = some u) : (ints us)[k]? = some (.int .i64 u) := by unfold ints; rw [List.getElem?_map, h]; rfl

/-- what number i gave to others -/
def csum (i : Int) : List Int → List Pu → Int
  | u :: us, p :: ps => (if u = i then p.l else 0) + csum i us ps
  | _, _ => 0
theorem Just.lpos {l u g : Int} (h : Just l u g) : 0 ≤ l := by obtain ⟨_, _, _, _⟩ := h; omega
theorem csum_nonneg (i : Int) : ∀ (us : List Int) (ps : List Pu), AllJust ps → 0 ≤ csum i us ps
  | [], ps, _ => by simp [csum]
  | u :: us, [], _ => by simp [csum]
  | u :: us, p :: ps, h => by
    have h1 := csum_nonneg i us ps (fun q hq => h q (List.mem_cons_of_mem _ hq))
    have h2 := (h p List.mem_cons_self).lpos
    simp only [csum]
    split <;> omega
theorem csum_append (i : Int) : ∀ (us : List Int) (ps : List Pu) (us' : List Int) (ps' : List Pu), us.length = ps.length → csum i (us ++ us') (ps ++ ps') = csum i us ps + csum i us' ps'
  | [], [], us', ps', _ => by simp [csum]
  | [], p :: ps, us', ps', h => by simp at h
  | u :: us, [], us', ps', h => by simp at h
  | u :: us, p :: ps, us', ps', h => by
    have := csum_append i us ps us' ps' (by simpa using h)
    simp only [List.cons_append, csum, this]
    omega
theorem csum_set (i : Int) : ∀ (us : List Int) (ps : List Pu) (k : Nat) (u : Int) (p q : Pu), us[k]? = some u → ps[k]? = some p → csum i us (ps.set k q) = csum i us ps + (if u = i then q.l - p.l else 0)
  | [], ps, k, u, p, q, h, _ => by simp at h
  | v :: us, [], k, u, p, q, _, h => by simp at h
  | v :: us, r :: ps, 0, u, p, q, h, h' => by
    simp at h h'
    subst h h'
    simp only [List.set_cons_zero, csum]
    split <;> omega
  | v :: us, r :: ps, k + 1, u, p, q, h, h' => by
    have := csum_set i us ps k u p q (by simpa using h) (by simpa using h')
    simp only [List.set_cons_succ, csum, this]
    omega
theorem csum_same (i : Int) : ∀ (us : List Int) (ps : List Pu) (k : Nat) (p q : Pu), ps[k]? = some p → q.l = p.l → csum i us (ps.set k q) = csum i us ps
  | [], ps, k, p, q, _, _ => by simp [csum]
  | v :: us, [], k, p, q, h, _ => by simp at h
  | v :: us, r :: ps, 0, p, q, h, e => by
    simp at h
    subst h
    simp only [List.set_cons_zero, csum, e]
  | v :: us, r :: ps, k + 1, p, q, h, e => by
    have := csum_same i us ps k p q (by simpa using h) e
    simp only [List.set_cons_succ, csum, this]
theorem csum_next {i : Int} {us : List Int} {ps : List Pu} {k : Nat} {u : Int} {p : Pu} (hl : us.length = ps.length) (hu : us[k]? = some u) (hp : ps[k]? = some p) :
    csum i (us.take (k + 1)) (ps.take (k + 1)) = csum i (us.take k) (ps.take k) + (if u = i then p.l else 0) := by
  rw [List.take_add_one, List.take_add_one, hu, hp, Option.toList_some, Option.toList_some, csum_append i _ _ _ _ (by simp [hl])]
  simp [csum]
theorem csum_take {i : Int} {us : List Int} {ps : List Pu} (hl : us.length = ps.length) (h : AllJust ps) (k : Nat) : 0 ≤ csum i (us.take k) (ps.take k) ∧ csum i (us.take k) (ps.take k) ≤ csum i us ps := by
  have h1 := csum_nonneg i (us.take k) (ps.take k) (fun q hq => h q (List.mem_of_mem_take hq))
  have h2 := csum_nonneg i (us.drop k) (ps.drop k) (fun q hq => h q (List.mem_of_mem_drop hq))
  have h3 := csum_append i (us.take k) (ps.take k) (us.drop k) (ps.drop k) (by simp [hl])
  rw [List.take_append_drop, List.take_append_drop] at h3
  omega
theorem csum_one {i : Int} {us : List Int} {ps : List Pu} {k : Nat} {u : Int} {p : Pu} (hl : us.length = ps.length) (h : AllJust ps) (hu : us[k]? = some u) (hp : ps[k]? = some p) (e : u = i) : p.l ≤ csum i us ps := by
  have h1 := csum_next (i := i) hl hu hp
  have h2 := csum_take (i := i) hl h (k + 1)
  have h3 := csum_take (i := i) hl h k
  rw [if_pos e] at h1
  omega
theorem csum_zero (i : Int) : ∀ (us : List Int) (ps : List Pu), (∀ u ∈ us, u ≠ i) → csum i us ps = 0
  | [], ps, _ => by simp [csum]
  | u :: us, [], _ => by simp [csum]
  | u :: us, p :: ps, h => by
    have h1 := csum_zero i us ps (fun v hv => h v (List.mem_cons_of_mem _ hv))
    have h2 := h u List.mem_cons_self
    simp only [csum, h1, if_neg h2]
    omega

/-- the purses, and who gave to which, as they may be -/
structure Good (ps : List Pu) (us : List Int) : Prop where
  len : us.length = ps.length
  pos : 0 < ps.length
  just : AllJust ps
  up : ∀ (j : Nat) u, us[j]? = some u → u < j
  sum : ∀ (i : Nat) p, ps[i]? = some p → csum i us ps ≤ p.g

/-- the same in the call's own memory -/
structure PFS (b F g cap g2 cap2 : Nat) (ps : List Pu) (us : List Int) (w : World) : Prop where
  lt : F < w.heap.size
  le : b ≤ F
  c0 : w.cell? ⟨F, 0, none⟩ = some (.slice (some ⟨g, 0, none⟩) ps.length cap)
  c1 : w.cell? ⟨F, 1, none⟩ = some (.slice (some ⟨g2, 0, none⟩) ps.length cap2)
  f0 : w.frozen? ⟨F, 0, none⟩ = false
  f1 : w.frozen? ⟨F, 1, none⟩ = false
  fam : Fam b w g cap ps
  ups : w.ownsRow b 3 1 (.slice (some ⟨g2, 0, none⟩) ps.length cap2) ps.length (ints us)
  ne1 : F ≠ g
  ne2 : F ≠ g2
  ne3 : g ≠ g2

theorem ownsRow_same {w w' : World} {base size n : Nat} {e : TypeId} {v : Value} {xs : List Value} (h : w.ownsRow base e size v n xs) (hk : ∀ g, v.ownBlock = some g → w'.heap[g]? = w.heap[g]?) : w'.ownsRow base e size v n xs := by
  obtain ⟨hl, hc | ⟨g, cap, cur, h1, h2, h3, h4⟩⟩ := h
  · exact ⟨hl, .inl hc⟩
  · subst h1
    exact ⟨hl, .inr ⟨g, cap, cur, rfl, h2, (hk g rfl).trans h3, h4⟩⟩

theorem PFS.kept {b F g cap g2 cap2 : Nat} {ps : List Pu} {us : List Int} {w w' : World} (h : PFS b F g cap g2 cap2 ps us w) (hF : w'.heap[F]? = w.heap[F]?) (hg : w'.heap[g]? = w.heap[g]?) (hg2 : w'.heap[g2]? = w.heap[g2]?) (hz : w.heap.size ≤ w'.heap.size) : PFS b F g cap g2 cap2 ps us w' :=
  ⟨Nat.lt_of_lt_of_le h.lt hz, h.le, (World.cell?_of_block (a := ⟨F, 0, none⟩) hF).trans h.c0, (World.cell?_of_block (a := ⟨F, 1, none⟩) hF).trans h.c1, (World.frozen?_of_block (a := ⟨F, 0, none⟩) hF).trans h.f0, (World.frozen?_of_block (a := ⟨F, 1, none⟩) hF).trans h.f1,
    ownsRow_same h.fam (fun k hk => by have e : some g = some k := hk; cases e; exact hg), ownsRow_same h.ups (fun k hk => by have e : some g2 = some k := hk; cases e; exact hg2), h.ne1, h.ne2, h.ne3⟩

theorem PFS.lts {b F g cap g2 cap2 : Nat} {ps : List Pu} {us : List Int} {w : World} (h : PFS b F g cap g2 cap2 ps us w) : b ≤ g ∧ g < w.heap.size ∧ b ≤ g2 ∧ g2 < w.heap.size := ⟨(own_lt h.fam).1, (own_lt h.fam).2, (own_lt h.ups).1, (own_lt h.ups).2⟩

theorem PFS.below {b F g cap g2 cap2 : Nat} {ps : List Pu} {us : List Int} {w w' : World} (h : PFS b F g cap g2 cap2 ps us w) (hb : Below w.heap.size w w') : PFS b F g cap g2 cap2 ps us w' :=
  h.kept (hb.block F h.lt) (hb.block g h.lts.2.1) (hb.block g2 h.lts.2.2.2) hb.size

theorem PFS.up {b F g cap g2 cap2 k : Nat} {ps : List Pu} {us : List Int} {w : World} {u : Int} (h : PFS b F g cap g2 cap2 ps us w) (hu : us[k]? = some u) : w.cell? ⟨g2, k, none⟩ = some (.int .i64 u) := by
  have := h.ups.cells (g := g2) rfl k _ (ints_at hu)
  rw [add_at, Nat.zero_add] at this
  exact this

theorem PFS.at' {b F g cap g2 cap2 k : Nat} {ps : List Pu} {us : List Int} {w : World} {p : Pu} (h : PFS b F g cap g2 cap2 ps us w) (hp : ps[k]? = some p) : At w g (k * 3) p.l p.u p.g := by
  rw [Nat.mul_comm]; exact h.fam.at' hp

set_option maxRecDepth 100000 in
set_option maxHeartbeats 4000000 in
theorem sound_any (b F g cap g2 cap2 : Nat) (ps : List Pu) (us : List Int) (w : World) (h : PFS b F g cap g2 cap2 ps us w) (hG : Good ps us) (hn : ps.length ≤ 101) :
    Calls Try.prog 16 #[.pointer (some ⟨F, 0, none⟩)] w fun e w' => e = .returned (.bool true) ∧ Below w.heap.size w w' := by
  have H := Lib.hid h
  have HG := Lib.hid hG
  obtain ⟨_, _, c0, c1, _⟩ := h
  clear hG
  generalize hN : ps.length = N at *
  have HN := Lib.hid hN
  clear hN
  go_enter Try.func16, Try.ntmps16
  go_wp2_with fail
  go_loopw [13] (fun s13 wr => ∃ (i : Nat), i ≤ N ∧ s13 = .int .i64 i ∧ Below w.heap.size w wr) (fun s13 _ => N - (intOf s13).toNat)
  case atStart => exact ⟨0, by omega, rfl, Below.refl _ _⟩
  case round =>
    obtain ⟨i, hi, rfl, hb⟩ := hrel
    by_cases hin : i < N
    · obtain ⟨p, hp⟩ : ∃ p, ps[i]? = some p := ⟨_, List.getElem?_eq_getElem (by have := HN.out; omega)⟩
      have h2 := H.out.below hb
      have hj := HG.out.just.at' hp
      have hat := h2.at' hp
      have HP := Lib.hid hp
      have HB := Lib.hid hb
      have H2 := Lib.hid h2
      have hrt := right_yes p.l p.u p.g hj
      have HRT := Lib.hid hrt
      obtain ⟨_, _, d0, d1, _⟩ := h2
      rw [HN.out] at d0 d1
      obtain ⟨ab, al, au, ag, afl, afu, afg⟩ := hat
      obtain ⟨j1, j2, j3, j4⟩ := hj
      have hz := hb.size
      have hiI : (i : Int) < (N : Int) := by omega
      have hFl := H2.out.lt
      have hg2l := H2.out.lts.2.2.2
      clear hb hp hrt
      go_wp2_with fail
      go_loopw [5, 23] (fun s5 s23 wx => ∃ (k : Nat), k ≤ N ∧ s23 = .int .i64 k ∧ s5 = .int .i64 (csum i (us.take k) (ps.take k)) ∧ wx = wr.alloc (puc p.l p.u p.g)) (fun _ s23 _ => N - (intOf s23).toNat)
      case atStart => exact ⟨0, by omega, rfl, rfl, rfl⟩
      case round =>
        obtain ⟨k, hk, rfl, rfl, rfl⟩ := hrel
        by_cases hkn : k < N
        · obtain ⟨q, hq⟩ : ∃ q, ps[k]? = some q := ⟨_, List.getElem?_eq_getElem (by have := HN.out; omega)⟩
          obtain ⟨u, hu⟩ : ∃ u, us[k]? = some u := ⟨_, List.getElem?_eq_getElem (by have := HN.out; have := HG.out.len; omega)⟩
          have cu := H2.out.up hu
          have hnx := csum_next (i := i) HG.out.len hu hq
          have ht1 := csum_take (i := i) HG.out.len HG.out.just k
          have ht2 := csum_take (i := i) HG.out.len HG.out.just (k + 1)
          rw [hnx] at ht2
          have hs := HG.out.sum i p HP.out
          have hjq := (HG.out.just.at' hq).l0
          have hatq := H2.out.at' hq
          obtain ⟨qb, ql, qu, qg, qfl, qfu, qfg⟩ := hatq
          have hkI : (k : Int) < (N : Int) := by omega
          have HNX := Lib.hid hnx
          clear hnx hu hq
          generalize csum i (us.take k) (ps.take k) = S at *
          generalize csum i us ps = T at *
          by_cases hui : u = (i : Int)
          · rw [if_pos hui] at ht2
            go_wp2_with fail
            go_roundw
            case rel => exact ⟨k + 1, by omega, by go_num, by rw [HNX.out, if_pos hui], by first | rfl | trivial⟩
            case measure => simp [intOf]; omega
          · go_wp2_with fail
            go_roundw
            case rel => exact ⟨k + 1, by omega, by go_num, by rw [HNX.out, if_neg hui]; simp, by first | rfl | trivial⟩
            case measure => simp [intOf]; omega
        · obtain rfl : k = N := by omega
          have hs := HG.out.sum i p HP.out
          rw [List.take_of_length_le (by have := HN.out; have := HG.out.len; omega), List.take_of_length_le (by have := HN.out; omega)]
          generalize csum i us ps = T at *
          go_wp2_with (first | (go_at_call 8; refine (HRT.out _).mono ?_; rintro e w4 ⟨rfl, rfl⟩) | fail)
          go_roundw
          case rel => exact ⟨i + 1, by omega, by go_num, by repeat (first | exact HB.out | refine Below.drew ?_ | (refine Below.alloc ?_ (by first | omega | (simp; omega)) _))⟩
          case measure => simp [intOf]; omega
    · obtain rfl : i = N := by omega
      go_wp2_with fail
      go_ret
      exact ⟨rfl, hb⟩
end Go.Proofs.Yteflfflmedkdiaa
