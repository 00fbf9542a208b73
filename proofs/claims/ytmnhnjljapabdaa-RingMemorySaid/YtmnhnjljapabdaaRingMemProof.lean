/- RingMemory: for all bytes and every number the law returns true, and each argument reads behind the call as it read before. No conditions. -/
import Derived.Test.YtmnhnjljapabdaaRingMem
import Derived.Test.YtmnhnjljapabdaaOpen
set_option linter.unusedVariables false
namespace Go.Proofs.Ytmnhnjljapabdaa
open Go.ChangeShapes Go.WideShapes Go.ChangeAt Go.RowKit Go.Joins
open Go.Lib (Bytes)

theorem cells5 : Try.prog.cellsOf 5 = 1 := by kernel_rfl

theorem lt_of_cell {w : World} {p : Addr} {v : Value} (h : w.cell? p = some v) : p.block < w.heap.size := by
  rcases Nat.lt_or_ge p.block w.heap.size with c | c
  · exact c
  · exfalso
    simp [World.cell?, Array.getElem?_eq_none c] at h

theorem u8_of {a : Int} (h : (Lit.int .u8 a).wf = true) : 0 ≤ a ∧ a ≤ 255 := by
  have hmin : IntKind.u8.min = 0 := rfl
  have hmax : IntKind.u8.max = 255 := rfl
  simp only [Lit.wf, hmin, hmax, Bool.and_eq_true, decide_eq_true_eq] at h
  exact h
theorem i64_of' {a : Int} (h : (Lit.int .i64 a).wf = true) : -9223372036854775808 ≤ a ∧ a ≤ 9223372036854775807 := by
  have hmin : IntKind.i64.min = -9223372036854775808 := rfl
  have hmax : IntKind.i64.max = 9223372036854775807 := rfl
  simp only [Lit.wf, hmin, hmax, Bool.and_eq_true, decide_eq_true_eq] at h
  exact h

theorem lawMem_long (ao : Option Addr) (m c : Nat) (stop : Int) (hm : 100 < m) (w : World) :
    Calls Try.prog 6 #[.slice ao m c, .int .i64 stop] w fun e w' => e = .returned (.bool true) ∧ Below w.heap.size w w' := by
  have hmI : (100 : Int) < (m : Int) := by omega
  go_enter Try.func6, Try.ntmps6
  go_wp2_with fail
  refine (fit_any _).mono ?_
  rintro e w1 ⟨rfl, hb1⟩
  have hw1 : Below w.heap.size w w1 := (((Below.refl _ w).alloc (Nat.le_refl _) _).alloc (by simp) _).trans (hb1.mono (by simp; omega))
  have cR : w1.cell? ⟨w.heap.size + 1, 0, none⟩ = some (.bool false) := (hb1.cell (p := ⟨w.heap.size + 1, 0, none⟩) (by simp)).trans (by simp)
  have fR : w1.frozen? ⟨w.heap.size + 1, 0, none⟩ = false := (hb1.frozen (p := ⟨w.heap.size + 1, 0, none⟩) (by simp)).trans (by simp)
  have cRf : (w1.setCell ⟨w.heap.size + 1, 0, none⟩ (.bool true)).cell? ⟨w.heap.size + 1, 0, none⟩ = some (.bool true) := World.cell?_setCell_same' _ _ _ (by rw [cR]; rfl)
  have HW := Lib.hid hw1
  clear hb1 hw1
  go_wp2_with fail
  refine bodyPost_ret (v := .bool true) (by simp [results, Try.f6, go_sem, cRf]) rfl ⟨rfl, ?_⟩
  exact HW.out.setCell (by show w.heap.size ≤ w.heap.size + 1; omega) _

/-- what came in as bytes -/
theorem reads_ints {v : Value} {w : World} (h : v = .slice none 0 0 ∨ ∃ (a : Addr) (m c : Nat) (zs : List Int), v = .slice (some a) m c ∧ m ≤ c ∧ c ≤ maxLen ∧ m ≤ zs.length ∧ (∀ i, i < zs.length → w.cell? (a.add i) = some (.int .u8 (zs.getD i 0))) ∧ (∀ z ∈ zs, (Lit.int .u8 z).wf = true)) :
    ∃ B : ByteArray, Reads w v B := by
  rcases h with rfl | ⟨a, m, c, zs, rfl, hmc, hcm, hz, hc, hw⟩
  · exact ⟨ByteArray.empty, .inl ⟨rfl, rfl⟩⟩
  · by_cases h0 : m = 0
    · subst h0; exact ⟨ByteArray.empty, .inr (.inl ⟨a, c, rfl, rfl⟩)⟩
    · have c0 := hc 0 (by omega)
      have hs : a.spot = none := by
        have := World.cell?_spot c0
        simpa [Addr.add] using this
      obtain ⟨g, off, sp⟩ := a
      simp only at hs
      subst hs
      have hg : g < w.heap.size := by
        have := lt_of_cell c0
        simpa [Addr.add] using this
      have hB : (⟨((zs.take m).map fun z => UInt8.ofNat z.toNat).toArray⟩ : ByteArray).size = m := by
        show (((zs.take m).map fun z => UInt8.ofNat z.toNat).toArray).size = m
        simp; omega
      refine ⟨⟨((zs.take m).map fun z => UInt8.ofNat z.toNat).toArray⟩, .inr (.inr ⟨g, off, c, by rw [hB], by omega, by omega, hcm, hg, ?_⟩)⟩
      intro i hi
      have him : i < m := by omega
      have hcell := hc i (by omega)
      rw [add_at] at hcell
      rw [hcell]
      have hmem : zs.getD i 0 ∈ zs := by
        rw [List.getD_eq_getElem?_getD, List.getElem?_eq_getElem (by omega)]
        exact List.getElem_mem _
      have hwf := hw _ hmem
      have hb := u8_of hwf
      rw [List.getD_eq_getElem?_getD] at hb
      have e : (⟨((zs.take m).map fun z => UInt8.ofNat z.toNat).toArray⟩ : ByteArray)[i] = UInt8.ofNat (zs.getD i 0).toNat := by
        show (((zs.take m).map fun z => UInt8.ofNat z.toNat).toArray)[i]'_ = _
        simp [List.getElem?_eq_getElem (show i < zs.length by omega)]
      rw [e]
      congr 2
      simp
      omega

set_option maxRecDepth 100000 in
theorem ringMemory_lifted (os : Os) (started : os.Started) (H : Type) (enc : TypeId × Value → H) :
    ReturnsInHanded {} Try.checked os 6 .any (Rows.ringMemorySpec.pre6 enc Try.prog Try.f6 Rows.ringMemoryRow.domain false) (Rows.ringMemorySpec.post enc Try.prog Try.f6 false true false false) := by
  refine law_lifted (C := Try.checked) own started (by kernel_rfl) Try.func6
    (ChangeSpec.witness6 (enc := enc) (C := Try.checked) false ⟨#[], #[.slice none 0 0, .int .i64 0], []⟩ 8 (by kernel_rfl) (by kernel_rfl) (by kernel_rfl) (by kernel_rfl))
    laidOut (by rw [Try.params6]; intro t ht; simp at ht; rcases ht with rfl | rfl <;> exact ⟨by kernel_rfl, of_decide_eq_true (by kernel_rfl)⟩) (by kernel_rfl) Try.underlying4 rfl
    (by rw [Try.params6]; intro ds h; match ds, h with | [a0, a1], _ => rfl) ?_
  intro W base args ds ps hval hA _
  rw [Try.params6] at hA hval
  obtain ⟨v0, v1, d0, d1, p0, p1, hargs, rfl, rfl, h0, h1⟩ := trodAll_two hA
  obtain rfl : args = #[v0, v1] := by cases args; simp_all
  obtain ⟨n, rfl, rfl, rfl, w1⟩ := open_int Try.underlying3 (hval 1 3 v1 rfl rfl) h1
  obtain ⟨s0, s1⟩ := i64_of' w1
  obtain ⟨ao, len, cap, rfl⟩ := okWide_slice Try.underlying22 (hval 0 22 v0 rfl rfl)
  obtain ⟨fuel, hf⟩ := h0
  obtain ⟨B, hB⟩ : ∃ B : ByteArray, Reads W (.slice ao len cap) B := by
    refine reads_ints ?_
    rcases open_ints Try.underlying22 Try.underlying5 cells5 hf with ⟨hcs, hx⟩ | ⟨a, len', cap', zs, hcs, _, hl, hm, hz, hx, hcell, hwz⟩
    · left
      simpa [Value.cells] using hcs
    · right
      simp [Value.cells] at hcs
      obtain ⟨rfl, rfl, rfl⟩ := hcs
      exact ⟨a, len, cap, zs, rfl, hl, hm, by simp at hz; omega, hcell, hwz⟩
  by_cases h : B.size ≤ 100
  · exact lawMem_core _ B n h s0 s1 W hB
  · obtain ⟨ao', c', e⟩ := hB.form
    rw [e]
    exact lawMem_long ao' B.size c' n (by omega) W

theorem ringMemory_over : Rows.ringMemoryRow.holds Try.pinned (OpenSpec.ofChange Rows.ringMemorySpec) :=
  OpenClaim.holds_of_wide 6 Try.f6 rfl rfl rfl rfl rfl rfl rfl ⟨rfl, rfl, rfl, rfl, rfl⟩ rfl rfl rfl rfl rfl (by kernel_rfl) Try.func6 (by kernel_rfl)
    (of_decide_eq_true (by kernel_rfl)) (by unfold Func.isWrapper; first | (rw [if_pos (by decide +kernel)]; kernel_rfl) | (rw [if_neg (by decide +kernel)]; exact ⟨rfl, rfl⟩))
    (fun os started H enc _ => ringMemory_lifted os started H enc)

theorem ringMemory_holds : Rows.RingMemorySaid := ringMemory_over
end Go.Proofs.Ytmnhnjljapabdaa
