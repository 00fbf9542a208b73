/- NamesRuns: for every start, every number and all calls the law returns true, and each argument reads behind the call as it read before. No conditions. -/
import Derived.Test.YthkcpdhlpalaiaaNamesRuns
namespace Go.Proofs.Ythkcpdhlpalaiaa
open Go.ChangeShapes Go.WideShapes Go.ChangeAt Go.RowKit Go.Joins

set_option maxRecDepth 100000 in
set_option maxHeartbeats 2000000 in
theorem lawRuns_long (lo n : Int) (cao : Option Addr) (cm cc : Nat) (hc30 : 200 < cm) (n0 : -9223372036854775808 ≤ n) (n1 : n ≤ 9223372036854775807) (w : World) :
    Calls Try.prog 5 #[.int .u64 lo, .int .i64 n, .slice cao cm cc] w fun e w' => e = .returned (.bool true) ∧ Below w.heap.size w w' := by
  have hm : -60 < n.tmod 60 ∧ n.tmod 60 < 60 := by
    have h1 : (n.tmod 60).natAbs < 60 := by rw [Int.natAbs_tmod]; exact Nat.mod_lt _ (by decide)
    omega
  have hgI : (200 : Int) < (cm : Int) := by omega
  obtain ⟨L0, hL', L00, L01'⟩ := and_mask_u lo 1023 (by omega)
  have hL : bits .and .u64 lo 1023 = L0 := hL'
  have L01 : L0 ≤ 1023 := L01'
  clear hL' L01'
  go_enter Try.func5, Try.ntmps5
  go_wp2_with fail
  refine (fit_any _).mono ?_
  rintro e w1 ⟨rfl, hb1⟩
  go_wp2_with fail
  go_ret
  exact ⟨rfl, hb1⟩

theorem cells3' : Try.prog.cellsOf 3 = 1 := by kernel_rfl

theorem open_nums {H : Type} {enc : TypeId × Value → H} {w : World} {b0 : Nat} {v : Value} {d : DataW H} {p : List MemPlace} {r : Reach} (hv : Value.okWide Try.prog w r b0 30 v) (h : DataW.Trod enc Try.prog w 0 (fun _ => true) true 30 v d p) :
    ∃ (ao : Option Addr) (m c : Nat) (zs : Nat → Int), v = .slice ao m c ∧ (∀ i, -9223372036854775808 ≤ zs i ∧ zs i ≤ 9223372036854775807) ∧ (0 < m → ∃ a, ao = some a ∧ ∀ i, i < m → w.cell? (a.add i) = some (.int .i64 (zs i))) := by
  obtain ⟨ao, len, cap, rfl⟩ := okWide_slice Try.underlying30 hv
  obtain ⟨fuel, hf⟩ := h
  rcases open_ints Try.underlying30 Try.underlying3 cells3' hf with ⟨hcs, hx⟩ | ⟨a, len', cap', zs, hcs, _, hl, hm, hz, hx, hcell, hwz⟩
  · simp [Value.cells] at hcs
    obtain ⟨rfl, rfl, rfl⟩ := hcs
    exact ⟨none, 0, 0, fun _ => 0, rfl, fun i => by simp, fun h => absurd h (Nat.lt_irrefl 0)⟩
  · simp [Value.cells] at hcs
    obtain ⟨rfl, rfl, rfl⟩ := hcs
    refine ⟨some a, len, cap, fun i => zs.getD i 0, rfl, fun i => ?_, fun _ => ⟨a, rfl, fun i hi => hcell i ?_⟩⟩
    · show -9223372036854775808 ≤ zs.getD i 0 ∧ zs.getD i 0 ≤ 9223372036854775807
      by_cases hi : i < zs.length
      · have e : zs.getD i 0 = zs[i] := by simp [hi]
        rw [e]
        exact i64_of (hwz _ (List.getElem_mem hi))
      · have e : zs.getD i 0 = 0 := by simp [hi]
        rw [e]
        omega
    · simp at hz
      omega

set_option maxRecDepth 100000 in
theorem namesRuns_lifted (os : Os) (started : os.Started) (H : Type) (enc : TypeId × Value → H) :
    ReturnsInHanded {} Try.checked os 5 .any (Rows.namesRunsSpec.pre6 enc Try.prog Try.f5 Rows.namesRunsRow.domain false) (Rows.namesRunsSpec.post enc Try.prog Try.f5 false true false false) := by
  refine law_lifted (C := Try.checked) own started (by kernel_rfl) Try.func5
    (ChangeSpec.witness6 (enc := enc) (C := Try.checked) false ⟨#[], #[.int .u64 0, .int .i64 0, .slice none 0 0], []⟩ 8 (by kernel_rfl) (by kernel_rfl) (by kernel_rfl) (by kernel_rfl))
    laidOut (by rw [Try.params5]; intro t ht; simp at ht; rcases ht with rfl | rfl | rfl <;> exact ⟨by kernel_rfl, of_decide_eq_true (by kernel_rfl)⟩) (by kernel_rfl) Try.underlying4 rfl
    (by rw [Try.params5]; intro ds h; match ds, h with | [a0, a1, a2], _ => rfl) ?_
  intro W base args ds ps hval hA _
  rw [Try.params5] at hA hval
  obtain ⟨v0, v1, v2, d0, d1, d2, p0, p1, p2, hargs, rfl, rfl, h0, h1, h2⟩ := trodAll_three hA
  obtain rfl : args = #[v0, v1, v2] := by cases args; simp_all
  obtain ⟨lo, rfl, rfl, rfl, w0⟩ := open_int Try.underlying22 (hval 0 22 v0 rfl rfl) h0
  obtain ⟨n, rfl, rfl, rfl, w1⟩ := open_int Try.underlying3 (hval 1 3 v1 rfl rfl) h1
  obtain ⟨ao, m, c, cs, rfl, hb, hc⟩ := open_nums (hval 2 30 v2 rfl rfl) h2
  obtain ⟨b0, b1⟩ := i64_of w1
  by_cases hm : m ≤ 200
  · exact lawRuns_some lo n ao m c cs hm b0 b1 W hb hc
  · exact lawRuns_long lo n ao m c (by omega) b0 b1 W

theorem namesRuns_over : Rows.namesRunsRow.holds Try.pinned (OpenSpec.ofChange Rows.namesRunsSpec) :=
  OpenClaim.holds_of_wide 5 Try.f5 rfl rfl rfl rfl rfl rfl rfl ⟨rfl, rfl, rfl, rfl, rfl⟩ rfl rfl rfl rfl rfl (by kernel_rfl) Try.func5 (by kernel_rfl)
    (of_decide_eq_true (by kernel_rfl)) (by unfold Func.isWrapper; first | (rw [if_pos (by decide +kernel)]; kernel_rfl) | (rw [if_neg (by decide +kernel)]; exact ⟨rfl, rfl⟩))
    (fun os started H enc _ => namesRuns_lifted os started H enc)

theorem namesRuns_holds : Rows.NamesRunsSaid := namesRuns_over
end Go.Proofs.Ythkcpdhlpalaiaa
