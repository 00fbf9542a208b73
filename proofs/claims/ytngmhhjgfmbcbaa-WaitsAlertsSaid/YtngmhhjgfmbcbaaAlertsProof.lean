/- WaitsAlerts: for all calls the law returns true, and each argument reads behind the call as it read before. No conditions. -/
import Derived.Test.YtngmhhjgfmbcbaaAlertsLaw
import Derived.Test.YtngmhhjgfmbcbaaOpen
namespace Go.Proofs.Ytngmhhjgfmbcbaa
open Go.ChangeShapes Go.WideShapes Go.ChangeAt Go.RowKit Go.Joins

theorem cells22 : Try.prog.cellsOf 22 = 1 := by kernel_rfl

theorem open_nums {H : Type} {enc : TypeId × Value → H} {w : World} {b0 : Nat} {v : Value} {d : DataW H} {p : List MemPlace} {r : Reach} (hv : Value.okWide Try.prog w r b0 31 v) (h : DataW.Trod enc Try.prog w 0 (fun _ => true) true 31 v d p) :
    ∃ (ao : Option Addr) (m c : Nat) (zs : Nat → Int), v = .slice ao m c ∧ (0 < m → ∃ a, ao = some a ∧ ∀ i, i < m → w.cell? (a.add i) = some (.int .u64 (zs i))) := by
  obtain ⟨ao, len, cap, rfl⟩ := okWide_slice Try.underlying31 hv
  obtain ⟨fuel, hf⟩ := h
  rcases open_ints Try.underlying31 Try.underlying22 cells22 hf with ⟨hcs, hx⟩ | ⟨a, len', cap', zs, hcs, _, hl, hm, hz, hx, hcell, hwz⟩
  · simp [Value.cells] at hcs
    obtain ⟨rfl, rfl, rfl⟩ := hcs
    exact ⟨none, 0, 0, fun _ => 0, rfl, fun h => absurd h (Nat.lt_irrefl 0)⟩
  · simp [Value.cells] at hcs
    obtain ⟨rfl, rfl, rfl⟩ := hcs
    refine ⟨some a, len, cap, fun i => zs.getD i 0, rfl, fun _ => ⟨a, rfl, fun i hi => hcell i ?_⟩⟩
    simp at hz
    omega

set_option maxRecDepth 100000 in
theorem waitsAlerts_lifted (os : Os) (started : os.Started) (H : Type) (enc : TypeId × Value → H) :
    ReturnsInHanded {} Try.checked os 5 .any (Rows.waitsAlertsSpec.pre6 enc Try.prog Try.f5 Rows.waitsAlertsRow.domain false) (Rows.waitsAlertsSpec.post enc Try.prog Try.f5 false true false false) := by
  refine law_lifted (C := Try.checked) own started (by kernel_rfl) Try.func5
    (ChangeSpec.witness6 (enc := enc) (C := Try.checked) false ⟨#[], #[.slice none 0 0], []⟩ 8 (by kernel_rfl) (by kernel_rfl) (by kernel_rfl) (by kernel_rfl))
    laidOut (by rw [Try.params5]; intro t ht; simp at ht; subst ht; exact ⟨by kernel_rfl, of_decide_eq_true (by kernel_rfl)⟩) (by kernel_rfl) Try.underlying4 rfl
    (by rw [Try.params5]; intro ds h; match ds, h with | [a0], _ => rfl) ?_
  intro W base args ds ps hval hA _
  rw [Try.params5] at hA hval
  obtain ⟨v0, d0, rfl, rfl, h0⟩ := trodAll_one hA
  obtain ⟨cao, cm, cc, cs, rfl, hca⟩ := open_nums (hval 0 31 v0 rfl rfl) h0
  by_cases c : 300 < cm
  · exact lawAlerts_long cao cm cc c W
  · exact lawAlerts_some cao cm cc cs (by omega) W hca

theorem waitsAlerts_over : Rows.waitsAlertsRow.holds Try.pinned (OpenSpec.ofChange Rows.waitsAlertsSpec) :=
  OpenClaim.holds_of_wide 5 Try.f5 rfl rfl rfl rfl rfl rfl rfl ⟨rfl, rfl, rfl, rfl, rfl⟩ rfl rfl rfl rfl rfl (by kernel_rfl) Try.func5 (by kernel_rfl)
    (of_decide_eq_true (by kernel_rfl)) (by unfold Func.isWrapper; first | (rw [if_pos (by decide +kernel)]; kernel_rfl) | (rw [if_neg (by decide +kernel)]; exact ⟨rfl, rfl⟩))
    (fun os started H enc _ => waitsAlerts_lifted os started H enc)

theorem waitsAlerts_holds : Rows.WaitsAlertsSaid := waitsAlerts_over
end Go.Proofs.Ytngmhhjgfmbcbaa
