/- What an append to a slice of the call's own leaves of the slice's old cells: all. Conditions: as each names them. -/
import Derived.Test.YthkcpdhlpalaiaaOpen
import Derived.Deep.AppendLies
set_option linter.unusedVariables false
namespace Go.Proofs.Ythkcpdhlpalaiaa

section
variable {P : Program}
theorem append_kept (w : World) (t ty : TypeId) (base : Nat) (e : TypeId) (i : TypeInfo) (z : Value) (size bytes : Nat) (ht : P.underlying t = some (.slice e)) (hi : P.info? e = some i) (hz : i.zero = some z)
    (hsize : i.size = size) (hby : i.bytes = bytes) (hzs : z.cells.size = size) (hsz : 0 < size) (g n cap : Nat) (xs : List Value) (hown : w.ownsRow base e size (.slice (some ⟨g, 0, none⟩) n cap) n xs)
    (ad : Addr) (m c : Nat) (news : List Value) (hl : news.length = m * size) (hnews : ∀ j u, news[j]? = some u → w.cell? (ad.add j) = some u) (h1 : ∀ u ∈ news, u.oneCell' = true)
    (hm : 0 < m) (h63 : n + m ≤ maxLen) (hbytes : (n + m) * bytes ≤ 140737488355328) (hbase : base ≤ w.heap.size) :
    ∃ g' cap' w', (Builtin.append_ #[t, t] ty #[.slice (some ⟨g, 0, none⟩) n cap, .slice (some ad) m c]).run P w = .ok (.slice (some ⟨g', 0, none⟩) (n + m) cap') w' ∧
      w'.ownsRow base e size (.slice (some ⟨g', 0, none⟩) (n + m) cap') (n + m) (xs ++ news) ∧ w.grownBy w' (some g) ∧ (g' = g ∨ g' = w.heap.size) ∧ (∀ k, k < n * size → w'.cell? ⟨g, k, none⟩ = w.cell? ⟨g, k, none⟩) := by
  obtain ⟨g', cap', w', hr, h2, h3, h4, h5⟩ := run_append_lies (P := P) w t ty base e i z size bytes ht hi hz hsize hby hzs hsz (.slice (some ⟨g, 0, none⟩) n cap) n xs hown ad m c news hl hnews h1 hm h63 hbytes hbase _ rfl
  have hgg : g' = g ∨ g' = w.heap.size := by
    rcases h4 with h | h
    · left; have e2 : some g = some g' := h; cases e2; rfl
    · exact .inr h
  refine ⟨g', cap', w', hr, h2, h3, hgg, fun k hk => ?_⟩
  have hadd : ∀ (b j : Nat), ((⟨b, 0, none⟩ : Addr).add j) = ⟨b, j, none⟩ := fun b j => by unfold Addr.add; split <;> simp_all
  have hxl : xs.length = n * size := hown.1
  have hold : w.cell? ⟨g, k, none⟩ = some (xs[k]'(by omega)) := by
    have := hown.cells (g := g) rfl k _ (List.getElem?_eq_getElem (by omega))
    rw [hadd] at this
    exact this
  obtain ⟨_, ⟨hc, _⟩ | ⟨g0, cap0, cur, hv, hb, hg, hnc, hcm, hcs, htake⟩⟩ := hown
  · cases hc
  · cases hv
    by_cases hroom : n + m ≤ cap
    · have hr2 := run_append_room (P := P) w t ty e i ht hi g n cap cur hg ad m c news (by rw [hsize]; exact hl) hnews h1 hroom (by rw [hsize, hl, hcs, ← Nat.add_mul]; exact Nat.mul_le_mul_right _ hroom)
      have hq := hr.symm.trans hr2
      have e1 : g' = g := by injection hq with q1 q2; injection q1 with q3; injection q3 with q4; injection q4
      subst e1
      have := h2.cells (g := g') rfl k (xs[k]'(by omega)) (by rw [List.getElem?_append_left (by omega)]; exact List.getElem?_eq_getElem (by omega))
      rw [hadd] at this
      rw [this, hold]
    · have holds : ∀ j u, xs[j]? = some u → w.cell? ((⟨g, 0, none⟩ : Addr).add j) = some u := fun j u hj => by
        rw [hadd, cell_of_row w g j cur e (0, 0) hg]
        rw [← htake, List.getElem?_take] at hj
        split at hj
        · simpa using hj
        · cases hj
      have hr2 := run_append_grow (P := P) w t ty e i z ht hi hz ⟨g, 0, none⟩ n cap xs (by rw [hsize]; exact hxl) holds ad m c news (by rw [hsize]; exact hl) hnews (by omega) (by unfold maxLen at h63; omega) (growslice_fits (by omega) (by rw [hby]; exact hbytes))
      have hq := hr.symm.trans hr2
      have e1 := Result.ok.inj hq
      rw [e1.2]
      have hlt := (Array.getElem?_eq_some_iff.1 hg).1
      exact World.cell?_of_block (a := ⟨g, k, none⟩) (heap_alloc_old w.drew _ hlt)

theorem step_append_kept {w : World} {ops : Array Oper} {o : Oper} {a : Act} {K : Act → World → Prop} {Q : Exit → Act → World → Prop} {E : Prop} (hgd : o.guard = none) (s x : Operand) (t : TypeId)
    (ho : o.op = .call { callee := .builtin .append, args := #[s, x], argTypes := #[t, t] })
    (base : Nat) (e : TypeId) (i : TypeInfo) (z : Value) (size bytes : Nat) (ht : P.underlying t = some (.slice e)) (hi : P.info? e = some i) (hz : i.zero = some z)
    (hsize : i.size = size) (hby : i.bytes = bytes) (hzs : z.cells.size = size) (hsz : 0 < size) (g n cap : Nat) (xs : List Value) (hs : a.eval s = .slice (some ⟨g, 0, none⟩) n cap) (hown : w.ownsRow base e size (.slice (some ⟨g, 0, none⟩) n cap) n xs)
    (ad : Addr) (m c : Nat) (news : List Value) (hx : a.eval x = .slice (some ad) m c) (hl : news.length = m * size) (hnews : ∀ j u, news[j]? = some u → w.cell? (ad.add j) = some u) (h1 : ∀ u ∈ news, u.oneCell' = true)
    (hm : 0 < m) (h63 : n + m ≤ maxLen) (hbytes : (n + m) * bytes ≤ 140737488355328) (hbase : base ≤ w.heap.size)
    (h : ∀ g' cap' w', w'.ownsRow base e size (.slice (some ⟨g', 0, none⟩) (n + m) cap') (n + m) (xs ++ news) → w.grownBy w' (some g) → (g' = g ∨ g' = w.heap.size) → (∀ k, k < n * size → w'.cell? ⟨g, k, none⟩ = w.cell? ⟨g, k, none⟩) → K (a.put o.dst (.slice (some ⟨g', 0, none⟩) (n + m) cap')) w') :
    if Region.wanted o (yielded ops a.tmps) = true then Oper.wp P o a w K Q else E := by
  have hw : Region.wanted o (yielded ops a.tmps) = true := by simp [Region.wanted, hgd]
  rw [if_pos hw]
  obtain ⟨g', cap', w', hr, r1, r2, r3, r4⟩ := append_kept (P := P) w t o.type base e i z size bytes ht hi hz hsize hby hzs hsz g n cap xs hown ad m c news hl hnews h1 hm h63 hbytes hbase
  unfold Oper.wp execOp
  simp only [ho, resolve, invoke, builtin, Sem.run_bind, Sem.run_pure, Result.andThen_ok, List.map_toArray, List.map_cons, List.map_nil, hs, hx, hr]
  exact h g' cap' w' r1 r2 r3 r4
end
end Go.Proofs.Ythkcpdhlpalaiaa
