/- RingCut: for every number and all bytes the law returns true, and each argument reads behind the call as it read before. No conditions. -/
import Derived.Test.YtmnhnjljapabdaaRingCutB
import Derived.Test.YtmnhnjljapabdaaOpen
namespace Go.Proofs.Ytmnhnjljapabdaa
open Go.ChangeShapes Go.WideShapes Go.ChangeAt Go.RowKit Go.Joins
open Go.Lib (Bytes)

theorem cells5 : Try.prog.cellsOf 5 = 1 := by kernel_rfl

theorem lt_of_cell {w : World} {p : Addr} {v : Value} (h : w.cell? p = some v) : p.block < w.heap.size := by
  rcases Nat.lt_or_ge p.block w.heap.size with c | c
  · exact c
  · exfalso
    simp [World.cell?, Array.getElem?_eq_none c] at h

theorem u8_of {a : Int} (h : (Lit.int .u8 a).wf = true) : 0 ≤ a ∧ a ≤ 255 := by
  have hmin : IntKind.u8.min = 0 := rfl
  have hmax : IntKind.u8.max = 255 := rfl
  simp only [Lit.wf, hmin, hmax, Bool.and_eq_true, decide_eq_true_eq] at h
  exact h

theorem lawCut_all (n : Int) (v : Value) (w : World) (h : v = .slice none 0 0 ∨ ∃ (a : Addr) (m c : Nat) (zs : List Int), v = .slice (some a) m c ∧ m ≤ c ∧ c ≤ maxLen ∧ m ≤ zs.length ∧ (∀ i, i < zs.length → w.cell? (a.add i) = some (.int .u8 (zs.getD i 0))) ∧ (∀ z ∈ zs, (Lit.int .u8 z).wf = true)) :
    Calls Try.prog 3 #[.int .i64 n, v] w fun e w' => e = .returned (.bool true) ∧ Below w.heap.size w w' := by
  rcases h with rfl | ⟨a, m, c, zs, rfl, hmc, hcm, hz, hc, hw⟩
  · exact lawCut_nil n w
  · by_cases h0 : m = 0
    · subst h0; exact lawCut_zero n a c w
    · by_cases h3 : 300 < m
      · exact lawCut_long n _ a m c rfl h3 w
      · have c0 := hc 0 (by omega)
        have hs : a.spot = none := by
          have := World.cell?_spot c0
          simpa [Addr.add] using this
        obtain ⟨g, off, sp⟩ := a
        simp only at hs
        subst hs
        have hg : g < w.heap.size := by
          have := lt_of_cell c0
          simpa [Addr.add] using this
        have hB : (⟨((zs.take m).map fun z => UInt8.ofNat z.toNat).toArray⟩ : ByteArray).size = m := by
          show (((zs.take m).map fun z => UInt8.ofNat z.toNat).toArray).size = m
          simp; omega
        refine lawCut_some n g off m (min m 32) c ⟨((zs.take m).map fun z => UInt8.ofNat z.toNat).toArray⟩ rfl (by omega) (by omega) hmc hcm hB w ?_ hg
        intro i hi
        have him : i < m := by omega
        have hcell := hc i (by omega)
        rw [add_at] at hcell
        rw [hcell]
        have hmem : zs.getD i 0 ∈ zs := by
          rw [List.getD_eq_getElem?_getD, List.getElem?_eq_getElem (by omega)]
          exact List.getElem_mem _
        have hwf := hw _ hmem
        have hb := u8_of hwf
        rw [List.getD_eq_getElem?_getD] at hb
        have e : (⟨((zs.take m).map fun z => UInt8.ofNat z.toNat).toArray⟩ : ByteArray)[i] = UInt8.ofNat (zs.getD i 0).toNat := by
          show (((zs.take m).map fun z => UInt8.ofNat z.toNat).toArray)[i]'_ = _
          simp [List.getElem?_eq_getElem (show i < zs.length by omega)]
        rw [e]
        congr 2
        simp
        omega

set_option maxRecDepth 100000 in
theorem ringCut_lifted (os : Os) (started : os.Started) (H : Type) (enc : TypeId × Value → H) :
    ReturnsInHanded {} Try.checked os 3 .any (Rows.ringCutSpec.pre6 enc Try.prog Try.f3 Rows.ringCutRow.domain false) (Rows.ringCutSpec.post enc Try.prog Try.f3 false true false false) := by
  refine law_lifted (C := Try.checked) own started (by kernel_rfl) Try.func3
    (ChangeSpec.witness6 (enc := enc) (C := Try.checked) false ⟨#[], #[.int .i64 0, .slice none 0 0], []⟩ 8 (by kernel_rfl) (by kernel_rfl) (by kernel_rfl) (by kernel_rfl))
    laidOut (by rw [Try.params3]; intro t ht; simp at ht; rcases ht with rfl | rfl <;> exact ⟨by kernel_rfl, of_decide_eq_true (by kernel_rfl)⟩) (by kernel_rfl) Try.underlying4 rfl
    (by rw [Try.params3]; intro ds h; match ds, h with | [a0, a1], _ => rfl) ?_
  intro W base args ds ps hval hA _
  rw [Try.params3] at hA hval
  obtain ⟨v0, v1, d0, d1, p0, p1, hargs, rfl, rfl, h0, h1⟩ := trodAll_two hA
  obtain rfl : args = #[v0, v1] := by cases args; simp_all
  obtain ⟨n, rfl, rfl, rfl, w0⟩ := open_int Try.underlying3 (hval 0 3 v0 rfl rfl) h0
  obtain ⟨ao, len, cap, rfl⟩ := okWide_slice Try.underlying22 (hval 1 22 v1 rfl rfl)
  obtain ⟨fuel, hf⟩ := h1
  refine lawCut_all n _ W ?_
  rcases open_ints Try.underlying22 Try.underlying5 cells5 hf with ⟨hcs, hx⟩ | ⟨a, len', cap', zs, hcs, _, hl, hm, hz, hx, hcell, hwz⟩
  · left
    simpa [Value.cells] using hcs
  · right
    simp [Value.cells] at hcs
    obtain ⟨rfl, rfl, rfl⟩ := hcs
    exact ⟨a, len, cap, zs, rfl, hl, hm, by simp at hz; omega, hcell, hwz⟩

theorem ringCut_over : Rows.ringCutRow.holds Try.pinned (OpenSpec.ofChange Rows.ringCutSpec) :=
  OpenClaim.holds_of_wide 3 Try.f3 rfl rfl rfl rfl rfl rfl rfl ⟨rfl, rfl, rfl, rfl, rfl⟩ rfl rfl rfl rfl rfl (by kernel_rfl) Try.func3 (by kernel_rfl)
    (of_decide_eq_true (by kernel_rfl)) (by unfold Func.isWrapper; first | (rw [if_pos (by decide +kernel)]; kernel_rfl) | (rw [if_neg (by decide +kernel)]; exact ⟨rfl, rfl⟩))
    (fun os started H enc _ => ringCut_lifted os started H enc)

theorem ringCut_holds : Rows.RingCutSaid := ringCut_over
end Go.Proofs.Ytmnhnjljapabdaa
