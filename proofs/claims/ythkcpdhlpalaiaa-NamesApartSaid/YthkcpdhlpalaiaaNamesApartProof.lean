/- NamesApart: for every number and all cuts the law returns true, and each argument reads behind the call as it read before. No conditions. -/
import Derived.Test.YthkcpdhlpalaiaaNamesApartB
namespace Go.Proofs.Ythkcpdhlpalaiaa
open Go.ChangeShapes Go.WideShapes Go.ChangeAt Go.RowKit Go.Joins

theorem lawApart_long (n : Int) (cao : Option Addr) (cm cc : Nat) (hc30 : 30 < cm) (n0 : -9223372036854775808 ≤ n) (n1 : n ≤ 9223372036854775807) (w : World) :
    Calls Try.prog 4 #[.int .i64 n, .slice cao cm cc] w fun e w' => e = .returned (.bool true) ∧ Below w.heap.size w w' := by
  have hm : -200 < n.tmod 200 ∧ n.tmod 200 < 200 := by
    have h1 : (n.tmod 200).natAbs < 200 := by rw [Int.natAbs_tmod]; exact Nat.mod_lt _ (by decide)
    omega
  have hgI : (30 : Int) < (cm : Int) := by omega
  go_enter Try.func4, Try.ntmps4
  go_wp2_with fail
  refine (fit_any _).mono ?_
  rintro e w1 ⟨rfl, hb1⟩
  go_wp2_with fail
  go_ret
  exact ⟨rfl, hb1⟩

theorem cells3' : Try.prog.cellsOf 3 = 1 := by kernel_rfl

theorem open_nums {H : Type} {enc : TypeId × Value → H} {w : World} {b0 : Nat} {v : Value} {d : DataW H} {p : List MemPlace} {r : Reach} (hv : Value.okWide Try.prog w r b0 30 v) (h : DataW.Trod enc Try.prog w 0 (fun _ => true) true 30 v d p) :
    ∃ (ao : Option Addr) (m c : Nat) (zs : Nat → Int), v = .slice ao m c ∧ (∀ i, -9223372036854775808 ≤ zs i ∧ zs i ≤ 9223372036854775807) ∧ (0 < m → ∃ a, ao = some a ∧ ∀ i, i < m → w.cell? (a.add i) = some (.int .i64 (zs i))) := by
  obtain ⟨ao, len, cap, rfl⟩ := okWide_slice Try.underlying30 hv
  obtain ⟨fuel, hf⟩ := h
  rcases open_ints Try.underlying30 Try.underlying3 cells3' hf with ⟨hcs, hx⟩ | ⟨a, len', cap', zs, hcs, _, hl, hm, hz, hx, hcell, hwz⟩
  · simp [Value.cells] at hcs
    obtain ⟨rfl, rfl, rfl⟩ := hcs
    exact ⟨none, 0, 0, fun _ => 0, rfl, fun i => by simp, fun h => absurd h (Nat.lt_irrefl 0)⟩
  · simp [Value.cells] at hcs
    obtain ⟨rfl, rfl, rfl⟩ := hcs
    refine ⟨some a, len, cap, fun i => zs.getD i 0, rfl, fun i => ?_, fun _ => ⟨a, rfl, fun i hi => hcell i ?_⟩⟩
    · show -9223372036854775808 ≤ zs.getD i 0 ∧ zs.getD i 0 ≤ 9223372036854775807
      by_cases hi : i < zs.length
      · have e : zs.getD i 0 = zs[i] := by simp [hi]
        rw [e]
        exact i64_of (hwz _ (List.getElem_mem hi))
      · have e : zs.getD i 0 = 0 := by simp [hi]
        rw [e]
        omega
    · simp at hz
      omega

set_option maxRecDepth 100000 in
theorem namesApart_lifted (os : Os) (started : os.Started) (H : Type) (enc : TypeId × Value → H) :
    ReturnsInHanded {} Try.checked os 4 .any (Rows.namesApartSpec.pre6 enc Try.prog Try.f4 Rows.namesApartRow.domain false) (Rows.namesApartSpec.post enc Try.prog Try.f4 false true false false) := by
  refine law_lifted (C := Try.checked) own started (by kernel_rfl) Try.func4
    (ChangeSpec.witness6 (enc := enc) (C := Try.checked) false ⟨#[], #[.int .i64 0, .slice none 0 0], []⟩ 8 (by kernel_rfl) (by kernel_rfl) (by kernel_rfl) (by kernel_rfl))
    laidOut (by rw [Try.params4]; intro t ht; simp at ht; rcases ht with rfl | rfl <;> exact ⟨by kernel_rfl, of_decide_eq_true (by kernel_rfl)⟩) (by kernel_rfl) Try.underlying4 rfl
    (by rw [Try.params4]; intro ds h; match ds, h with | [a0, a1], _ => rfl) ?_
  intro W base args ds ps hval hA _
  rw [Try.params4] at hA hval
  obtain ⟨v0, v1, d0, d1, p0, p1, hargs, rfl, rfl, h0, h1⟩ := trodAll_two hA
  obtain rfl : args = #[v0, v1] := by cases args; simp_all
  obtain ⟨l0, rfl, rfl, rfl, w0⟩ := open_int Try.underlying3 (hval 0 3 v0 rfl rfl) h0
  obtain ⟨ao, m, c, cs, rfl, hb, hc⟩ := open_nums (hval 1 30 v1 rfl rfl) h1
  obtain ⟨b0, b1⟩ := i64_of w0
  by_cases hm : m ≤ 30
  · exact lawApart_some l0 ao m c cs hm b0 b1 W hb hc
  · exact lawApart_long l0 ao m c (by omega) b0 b1 W

theorem namesApart_over : Rows.namesApartRow.holds Try.pinned (OpenSpec.ofChange Rows.namesApartSpec) :=
  OpenClaim.holds_of_wide 4 Try.f4 rfl rfl rfl rfl rfl rfl rfl ⟨rfl, rfl, rfl, rfl, rfl⟩ rfl rfl rfl rfl rfl (by kernel_rfl) Try.func4 (by kernel_rfl)
    (of_decide_eq_true (by kernel_rfl)) (by unfold Func.isWrapper; first | (rw [if_pos (by decide +kernel)]; kernel_rfl) | (rw [if_neg (by decide +kernel)]; exact ⟨rfl, rfl⟩))
    (fun os started H enc _ => namesApart_lifted os started H enc)

theorem namesApart_holds : Rows.NamesApartSaid := namesApart_over
end Go.Proofs.Ythkcpdhlpalaiaa
