/- RingRuns: for all calls the law returns true, and the argument reads behind the call as it read before. No conditions. -/
import Derived.Test.YtmnhnjljapabdaaRingRuns
import Derived.Test.YtmnhnjljapabdaaOpen
import Derived.Deep.Slices
import Derived.Deep.Fields
set_option linter.unusedVariables false
namespace Go.Proofs.Ytmnhnjljapabdaa
open Go.ChangeShapes Go.WideShapes Go.ChangeAt Go.RowKit Go.Joins Go.Deep
open Go.Lib (Bytes)

theorem cells5 : Try.prog.cellsOf 5 = 1 := by kernel_rfl

theorem lt_of_cell {w : World} {p : Addr} {v : Value} (h : w.cell? p = some v) : p.block < w.heap.size := by
  rcases Nat.lt_or_ge p.block w.heap.size with c | c
  · exact c
  · exfalso
    simp [World.cell?, Array.getElem?_eq_none c] at h

theorem u8_of {a : Int} (h : (Lit.int .u8 a).wf = true) : 0 ≤ a ∧ a ≤ 255 := by
  have hmin : IntKind.u8.min = 0 := rfl
  have hmax : IntKind.u8.max = 255 := rfl
  simp only [Lit.wf, hmin, hmax, Bool.and_eq_true, decide_eq_true_eq] at h
  exact h
theorem i64_of' {a : Int} (h : (Lit.int .i64 a).wf = true) : -9223372036854775808 ≤ a ∧ a ≤ 9223372036854775807 := by
  have hmin : IntKind.i64.min = -9223372036854775808 := rfl
  have hmax : IntKind.i64.max = 9223372036854775807 := rfl
  simp only [Lit.wf, hmin, hmax, Bool.and_eq_true, decide_eq_true_eq] at h
  exact h

/-- what came in as bytes -/
theorem reads_ints {v : Value} {w : World} (h : v = .slice none 0 0 ∨ ∃ (a : Addr) (m c : Nat) (zs : List Int), v = .slice (some a) m c ∧ m ≤ c ∧ c ≤ maxLen ∧ m ≤ zs.length ∧ (∀ i, i < zs.length → w.cell? (a.add i) = some (.int .u8 (zs.getD i 0))) ∧ (∀ z ∈ zs, (Lit.int .u8 z).wf = true)) :
    ∃ B : ByteArray, Reads w v B := by
  rcases h with rfl | ⟨a, m, c, zs, rfl, hmc, hcm, hz, hc, hw⟩
  · exact ⟨ByteArray.empty, .inl ⟨rfl, rfl⟩⟩
  · by_cases h0 : m = 0
    · subst h0; exact ⟨ByteArray.empty, .inr (.inl ⟨a, c, rfl, rfl⟩)⟩
    · have c0 := hc 0 (by omega)
      have hs : a.spot = none := by
        have := World.cell?_spot c0
        simpa [Addr.add] using this
      obtain ⟨g, off, sp⟩ := a
      simp only at hs
      subst hs
      have hg : g < w.heap.size := by
        have := lt_of_cell c0
        simpa [Addr.add] using this
      have hB : (⟨((zs.take m).map fun z => UInt8.ofNat z.toNat).toArray⟩ : ByteArray).size = m := by
        show (((zs.take m).map fun z => UInt8.ofNat z.toNat).toArray).size = m
        simp; omega
      refine ⟨⟨((zs.take m).map fun z => UInt8.ofNat z.toNat).toArray⟩, .inr (.inr ⟨g, off, c, by rw [hB], by omega, by omega, hcm, hg, ?_⟩)⟩
      intro i hi
      have him : i < m := by omega
      have hcell := hc i (by omega)
      rw [add_at] at hcell
      rw [hcell]
      have hmem : zs.getD i 0 ∈ zs := by
        rw [List.getD_eq_getElem?_getD, List.getElem?_eq_getElem (by omega)]
        exact List.getElem_mem _
      have hwf := hw _ hmem
      have hb := u8_of hwf
      rw [List.getD_eq_getElem?_getD] at hb
      have e : (⟨((zs.take m).map fun z => UInt8.ofNat z.toNat).toArray⟩ : ByteArray)[i] = UInt8.ofNat (zs.getD i 0).toNat := by
        show (((zs.take m).map fun z => UInt8.ofNat z.toNat).toArray)[i]'_ = _
        simp [List.getElem?_eq_getElem (show i < zs.length by omega)]
      rw [e]
      congr 2
      simp
      omega

theorem cells39 : Try.prog.cellsOf 39 = 3 := by kernel_rfl
theorem cells3' : Try.prog.cellsOf 3 = 1 := by kernel_rfl
theorem cells22' : Try.prog.cellsOf 22 = 1 := by kernel_rfl
theorem cells33' : Try.prog.cellsOf 33 = 1 := by kernel_rfl

/-- the number, the value that a cell holds -/
def num (w : World) (a : Addr) : Int := match w.cell? a with | some (.int _ z) => z | _ => 0
theorem num_of {w : World} {a : Addr} {k : IntKind} {z : Int} (h : w.cell? a = some (.int k z)) : num w a = z := by unfold num; rw [h]
def val (w : World) (a : Addr) : Value := (w.cell? a).getD undef
theorem val_of {w : World} {a : Addr} {v : Value} (h : w.cell? a = some v) : val w a = v := by unfold val; rw [h]; rfl
open Classical in
/-- the bytes that a value reads as, if it reads as bytes -/
noncomputable def bytesOf (w : World) (v : Value) : ByteArray := if h : ∃ B, Reads w v B then h.choose else ByteArray.empty
theorem bytesOf_reads {w : World} {v : Value} (h : ∃ B, Reads w v B) : Reads w v (bytesOf w v) := by
  unfold bytesOf
  rw [dif_pos h]
  exact h.choose_spec

theorem open_rcalls {H : Type} {enc : TypeId × Value → H} {w : World} {b0 : Nat} {v : Value} {d : DataW H} {p : List MemPlace} {r : Reach} (hv : Value.okWide Try.prog w r b0 36 v) (h : DataW.Trod enc Try.prog w 0 (fun _ => true) true 36 v d p) :
    ∃ (ao : Option Addr) (m c : Nat), v = .slice ao m c ∧
      (0 < m → ∃ a, ao = some a ∧ ∀ i, i < m → ∃ (x z : Int) (y : Value), w.cell? (a.add (i * 3)) = some (.int .i64 x) ∧ w.cell? ((a.add (i * 3)).add 1) = some y ∧ w.cell? ((a.add (i * 3)).add 2) = some (.int .u64 z) ∧ -9223372036854775808 ≤ x ∧ x ≤ 9223372036854775807 ∧ ∃ B, Reads w y B) := by
  obtain ⟨ao, len, cap, rfl⟩ := okWide_slice Try.underlying36 hv
  obtain ⟨fuel, hf⟩ := h
  rcases open_slice Try.underlying36 hf with ⟨hcs, _⟩ | ⟨a, len', cap', m, n, D, Pl, hcs, _, hl, hm, hmm, _, hi⟩
  · simp [Value.cells] at hcs
    obtain ⟨rfl, rfl, rfl⟩ := hcs
    exact ⟨none, 0, 0, rfl, fun h => absurd h (Nat.lt_irrefl 0)⟩
  · simp [Value.cells] at hcs
    obtain ⟨rfl, rfl, rfl⟩ := hcs
    have hm' : len ≤ m := by simp at hmm; omega
    rw [cells39] at hi
    refine ⟨some a, len, cap, rfl, fun _ => ⟨a, rfl, fun i hil => ?_⟩⟩
    obtain ⟨cs, hc, ht⟩ := hi i (by omega)
    obtain ⟨xs, n', _, _, hlen, hxs, hg⟩ := DataW.trod_struct Try.underlying39 ht
    obtain ⟨_, hl3, hat⟩ := World.cells?_some hc
    match cs, hl3 with
    | [c0, c1, c2], _ =>
      have g0 := hg 0 ⟨ "Kind", 3, 0, false, "", "", 0⟩ rfl
      have g1 := hg 1 ⟨ "Data", 22, 1, false, "", "", 8⟩ rfl
      have g2 := hg 2 ⟨ "X", 33, 2, false, "", "", 32⟩ rfl
      simp only [cells3', cells22', cells33', List.drop_zero, List.take_succ_cons, List.take_zero, List.drop_succ_cons] at g0 g1 g2
      have hx3 : xs.length = 3 := hxs
      rw [List.getElem?_eq_getElem (by omega)] at g0 g1 g2
      obtain ⟨x, ex, _, wx⟩ := DataW.trod_int Try.underlying3 g0
      obtain ⟨z, ez, _, wz⟩ := DataW.trod_int Try.underlying33 g2
      simp at ex ez
      subst ex ez
      have a0 := hat 0 (by omega)
      have a1 := hat 1 (by omega)
      have a2 := hat 2 (by omega)
      obtain ⟨b1, b2⟩ := i64_of' wx
      refine ⟨x, z, c1, by simpa [Addr.add] using a0, by simpa using a1, by simpa using a2, b1, b2, reads_ints ?_⟩
      rcases open_ints Try.underlying22 Try.underlying5 cells5 g1 with ⟨hcs, hx⟩ | ⟨a', len', cap', zs, hcs, _, hl, hm, hz, hx, hcell, hwz⟩
      · left
        simpa [Value.cells] using hcs
      · right
        simp [Value.cells] at hcs
        exact ⟨a', len', cap', zs, hcs, hl, hm, by simp at hz; omega, hcell, hwz⟩

theorem lawRR_long (ao : Option Addr) (m c : Nat) (hm : 300 < m) (w : World) :
    Calls Try.prog 5 #[.slice ao m c] w fun e w' => e = .returned (.bool true) ∧ Below w.heap.size w w' := by
  have hmI : (300 : Int) < (m : Int) := by omega
  go_enter Try.func5, Try.ntmps5
  go_wp2_with fail
  refine (fit_any _).mono ?_
  rintro e w1 ⟨rfl, hb1⟩
  have hw1 : Below w.heap.size w w1 := ((Below.refl _ w).alloc (Nat.le_refl _) _).trans (hb1.mono (by simp))
  have cR : w1.cell? ⟨w.heap.size, 0, none⟩ = some (.bool false) := (hb1.cell (p := ⟨w.heap.size, 0, none⟩) (by simp)).trans (by simp)
  have fR : w1.frozen? ⟨w.heap.size, 0, none⟩ = false := (hb1.frozen (p := ⟨w.heap.size, 0, none⟩) (by simp)).trans (by simp)
  have cRf : (w1.setCell ⟨w.heap.size, 0, none⟩ (.bool true)).cell? ⟨w.heap.size, 0, none⟩ = some (.bool true) := World.cell?_setCell_same' _ _ _ (by rw [cR]; rfl)
  have HW := Lib.hid hw1
  clear hb1 hw1
  go_wp2_with fail
  refine bodyPost_ret (v := .bool true) (by simp [results, Try.f5, go_sem, cRf]) rfl ⟨rfl, ?_⟩
  exact HW.out.setCell (Nat.le_refl _) _

set_option maxRecDepth 100000 in
theorem ringRuns_lifted (os : Os) (started : os.Started) (H : Type) (enc : TypeId × Value → H) :
    ReturnsInHanded {} Try.checked os 5 .any (Rows.ringRunsSpec.pre6 enc Try.prog Try.f5 Rows.ringRunsRow.domain false) (Rows.ringRunsSpec.post enc Try.prog Try.f5 false true false false) := by
  refine law_lifted (C := Try.checked) own started (by kernel_rfl) Try.func5
    (ChangeSpec.witness6 (enc := enc) (C := Try.checked) false ⟨#[], #[.slice none 0 0], []⟩ 8 (by kernel_rfl) (by kernel_rfl) (by kernel_rfl) (by kernel_rfl))
    laidOut (by rw [Try.params5]; intro t ht; simp at ht; subst ht; exact ⟨by kernel_rfl, of_decide_eq_true (by kernel_rfl)⟩) (by kernel_rfl) Try.underlying4 rfl
    (by rw [Try.params5]; intro ds h; match ds, h with | [a0], _ => rfl) ?_
  intro W base args ds ps hval hA _
  rw [Try.params5] at hA hval
  obtain ⟨v0, d0, rfl, rfl, h0⟩ := trodAll_one hA
  obtain ⟨ao, m, c, rfl, ha⟩ := open_rcalls (hval 0 36 v0 rfl rfl) h0
  by_cases hm : m ≤ 300
  · by_cases h0 : 0 < m
    · obtain ⟨a, rfl, hi⟩ := ha h0
      refine lawRR_some (some a) m c (fun i => num W (a.add (i * 3))) (fun i => val W ((a.add (i * 3)).add 1)) (fun i => bytesOf W (val W ((a.add (i * 3)).add 1))) (fun i => num W ((a.add (i * 3)).add 2)) hm W (fun i hi2 => ?_) (fun _ => ⟨a, rfl, fun i hi2 => ?_⟩) (fun i hi2 => ?_)
      · obtain ⟨x, z, y, h1, h2, h3, h4, h5, h6⟩ := hi i hi2
        rw [num_of h1]; exact ⟨h4, h5⟩
      · obtain ⟨x, z, y, h1, h2, h3, h4, h5, h6⟩ := hi i hi2
        rw [num_of h1, val_of h2, num_of h3]; exact ⟨h1, h2, h3⟩
      · obtain ⟨x, z, y, h1, h2, h3, h4, h5, h6⟩ := hi i hi2
        rw [val_of h2]; exact bytesOf_reads h6
    · exact lawRR_some ao m c (fun _ => 0) (fun _ => .slice none 0 0) (fun _ => ByteArray.empty) (fun _ => 0) hm W (fun i hi2 => absurd hi2 (by omega)) (fun h => absurd h h0) (fun i hi2 => absurd hi2 (by omega))
  · exact lawRR_long ao m c (by omega) W

theorem ringRuns_over : Rows.ringRunsRow.holds Try.pinned (OpenSpec.ofChange Rows.ringRunsSpec) :=
  OpenClaim.holds_of_wide 5 Try.f5 rfl rfl rfl rfl rfl rfl rfl ⟨rfl, rfl, rfl, rfl, rfl⟩ rfl rfl rfl rfl rfl (by kernel_rfl) Try.func5 (by kernel_rfl)
    (of_decide_eq_true (by kernel_rfl)) (by unfold Func.isWrapper; first | (rw [if_pos (by decide +kernel)]; kernel_rfl) | (rw [if_neg (by decide +kernel)]; exact ⟨rfl, rfl⟩))
    (fun os started H enc _ => ringRuns_lifted os started H enc)

theorem ringRuns_holds : Rows.RingRunsSaid := ringRuns_over
end Go.Proofs.Ytmnhnjljapabdaa
