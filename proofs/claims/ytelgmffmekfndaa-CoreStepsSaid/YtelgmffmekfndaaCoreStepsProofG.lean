/- CoreSteps: for every list of instructions, all registers and every hole the law returns true, and each argument reads behind the call as it read before. No conditions. -/
import Derived.Test.YtelgmffmekfndaaCoreStepsG
import Derived.Test.YtelgmffmekfndaaCoreOpenG
namespace Go.Proofs.Ytelgmffmekfndaa
open Go.ChangeShapes Go.WideShapes Go.ChangeAt Go.RowKit Go.Joins Go.Deep

theorem cells3 : Try.prog.cellsOf 3 = 1 := by kernel_rfl
theorem cells21 : Try.prog.cellsOf 21 = 1 := by kernel_rfl
set_option maxRecDepth 100000 in
theorem open_insrow {H : Type} {enc : TypeId × Value → H} {w : World} {b0 : Nat} {v : Value} {d : DataW H} {p : List MemPlace} {r : Go.Reach} (hv : Value.okWide Try.prog w r b0 47 v) (h : DataW.Trod enc Try.prog w 0 (fun _ => true) true 47 v d p) :
    ∃ m, InsRow w v m ∧ (m : Int) ≤ 9223372036854775807 := by
  obtain ⟨ao, len, cap, rfl⟩ := okWide_slice Try.underlying47 hv
  obtain ⟨fuel, hf⟩ := h
  rcases open_slice Try.underlying47 hf with ⟨hcs, _⟩ | ⟨a, len', cap', m, n, D, Pl, hcs, _, hl, hm, hmm, _, hi⟩
  · simp [Value.cells] at hcs
    obtain ⟨rfl, rfl, rfl⟩ := hcs
    exact ⟨0, ⟨none, 0, rfl, fun h => absurd h (Nat.lt_irrefl 0)⟩, by omega⟩
  · simp [Value.cells] at hcs
    obtain ⟨rfl, rfl, rfl⟩ := hcs
    have hm' : len ≤ m := by simp at hmm; omega
    rw [cells50] at hi
    have hat : ∀ i, i < len → ∃ x0 x1 x2 x3 x4 : Int, w.cell? (a.add (i * 5)) = some (.int .i64 x0) ∧ w.cell? ((a.add (i * 5)).add 1) = some (.int .i64 x1) ∧ w.cell? ((a.add (i * 5)).add 2) = some (.int .i64 x2) ∧ w.cell? ((a.add (i * 5)).add 3) = some (.int .i64 x3) ∧ w.cell? ((a.add (i * 5)).add 4) = some (.int .i32 x4) := by
      intro i hil
      obtain ⟨cs, hc, ht⟩ := hi i (by omega)
      obtain ⟨xs, n', _, _, hlen, hxs, hg⟩ := DataW.trod_struct Try.underlying50 ht
      obtain ⟨_, hl5, hat⟩ := World.cells?_some hc
      match cs, hl5 with
      | [c0, c1, c2, c3, c4], _ =>
        have g0 := hg 0 ⟨ "Op", 3, 0, false, "", "", 0⟩ rfl
        have g1 := hg 1 ⟨ "A", 3, 1, false, "", "", 8⟩ rfl
        have g2 := hg 2 ⟨ "B", 3, 2, false, "", "", 16⟩ rfl
        have g3 := hg 3 ⟨ "C", 3, 3, false, "", "", 24⟩ rfl
        have g4 := hg 4 ⟨ "Imm", 21, 4, false, "", "", 32⟩ rfl
        simp only [cells3, cells21, List.drop_zero, List.take_succ_cons, List.take_zero, List.drop_succ_cons] at g0 g1 g2 g3 g4
        have hx5 : xs.length = 5 := hxs
        rw [List.getElem?_eq_getElem (by omega)] at g0 g1 g2 g3 g4
        obtain ⟨x0, e0, _, _⟩ := DataW.trod_int Try.underlying3 g0
        obtain ⟨x1, e1, _, _⟩ := DataW.trod_int Try.underlying3 g1
        obtain ⟨x2, e2, _, _⟩ := DataW.trod_int Try.underlying3 g2
        obtain ⟨x3, e3, _, _⟩ := DataW.trod_int Try.underlying3 g3
        obtain ⟨x4, e4, _, _⟩ := DataW.trod_int Try.underlying21 g4
        simp at e0 e1 e2 e3 e4
        subst e0 e1 e2 e3 e4
        have a0 := hat 0 (by omega)
        have a1 := hat 1 (by omega)
        have a2 := hat 2 (by omega)
        have a3 := hat 3 (by omega)
        have a4 := hat 4 (by omega)
        exact ⟨x0, x1, x2, x3, x4, by simpa [Addr.add] using a0, by simpa using a1, by simpa using a2, by simpa using a3, by simpa using a4⟩
    refine ⟨len, ⟨some a, cap, rfl, fun h0 => ⟨a, rfl, ?_, hat⟩⟩, by unfold maxLen at hm; omega⟩
    obtain ⟨x0, _, _, _, _, q0, _⟩ := hat 0 h0
    have := lt_of_cell q0
    rwa [add_block] at this

set_option maxRecDepth 100000 in
theorem coreSteps_lifted (os : Os) (started : os.Started) (H : Type) (enc : TypeId × Value → H) :
    ReturnsInHanded {} Try.checked os 17 .any (Rows.coreStepsSpec.pre6 enc Try.prog Try.f17 Rows.coreStepsRow.domain false) (Rows.coreStepsSpec.post enc Try.prog Try.f17 false true false false) := by
  refine law_lifted (C := Try.checked) own started (by kernel_rfl) Try.func17
    (ChangeSpec.witness6 (enc := enc) (C := Try.checked) false ⟨#[], #[.slice none 0 0, .slice none 0 0, .int .i64 0], []⟩ 8 (by kernel_rfl) (by kernel_rfl) (by kernel_rfl) (by kernel_rfl))
    laidOut (by rw [Try.params17]; intro t ht; simp at ht; rcases ht with rfl | rfl | rfl <;> exact ⟨by kernel_rfl, of_decide_eq_true (by kernel_rfl)⟩) (by kernel_rfl) Try.underlying4 rfl
    (by rw [Try.params17]; intro ds h; match ds, h with | [a0, a1, a2], _ => rfl) ?_
  intro W base args ds ps hval hA _
  rw [Try.params17] at hA hval
  obtain ⟨v0, v1, v2, d0, d1, d2, p0, p1, p2, hargs, rfl, rfl, h0, h1, h2⟩ := trodAll_three hA
  obtain rfl : args = #[v0, v1, v2] := by cases args; simp_all
  obtain ⟨m, hr0, hm⟩ := open_insrow (hval 0 47 v0 rfl rfl) h0
  obtain ⟨n, zs, hr, hn⟩ := open_regs (hval 1 35 v1 rfl rfl) h1
  obtain ⟨hole, rfl, rfl, rfl, _⟩ := open_int Try.underlying3 (hval 2 3 v2 rfl rfl) h2
  exact lawSteps v0 v1 m n zs hole W hr0 hr hn hm

theorem coreSteps_over : Rows.coreStepsRow.holds Try.pinned (OpenSpec.ofChange Rows.coreStepsSpec) :=
  OpenClaim.holds_of_wide 17 Try.f17 rfl rfl rfl rfl rfl rfl rfl ⟨rfl, rfl, rfl, rfl, rfl⟩ rfl rfl rfl rfl rfl (by kernel_rfl) Try.func17 (by kernel_rfl)
    (of_decide_eq_true (by kernel_rfl)) (by unfold Func.isWrapper; first | (rw [if_pos (by decide +kernel)]; kernel_rfl) | (rw [if_neg (by decide +kernel)]; exact ⟨rfl, rfl⟩))
    (fun os started H enc _ => coreSteps_lifted os started H enc)

theorem coreSteps_holds : Rows.CoreStepsSaid := coreSteps_over
end Go.Proofs.Ytelgmffmekfndaa
