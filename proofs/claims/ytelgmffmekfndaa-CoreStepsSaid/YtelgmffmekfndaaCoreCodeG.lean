/- Encode, and bytes laid into a memory; the step of an instruction whose bytes lie there. Conditions: as each theorem names them. -/
import Derived.Test.YtelgmffmekfndaaCoreSameG
import Derived.Laws.IdiomCopy
import Derived.Laws.BytesArg
set_option linter.unusedVariables false
namespace Go.Proofs.Ytelgmffmekfndaa
open Go.ChangeShapes Go.WideShapes Go.ChangeAt Go.RowKit

/-- an instruction's bytes -/
def encB (op A B C imm : Int) : Nat → Int
  | 0 => op % 256
  | 1 => A % 256
  | 2 => B % 256
  | 3 => C % 256
  | 4 => imm % 4294967296 / 16777216 % 256
  | 5 => imm % 4294967296 / 65536 % 256
  | 6 => imm % 4294967296 / 256 % 256
  | _ => imm % 4294967296 % 256
theorem encB_bd (op A B C imm : Int) (i : Nat) : 0 ≤ encB op A B C imm i ∧ encB op A B C imm i ≤ 255 := by
  rcases (by omega : i = 0 ∨ i = 1 ∨ i = 2 ∨ i = 3 ∨ i = 4 ∨ i = 5 ∨ i = 6 ∨ 7 ≤ i) with rfl | rfl | rfl | rfl | rfl | rfl | rfl | h <;> try (simp only [encB]; omega)
  obtain ⟨j, rfl⟩ : ∃ j, i = j + 7 := ⟨i - 7, by omega⟩
  simp only [encB]; omega
def encL (op A B C imm : Int) : List Int := [encB op A B C imm 0, encB op A B C imm 1, encB op A B C imm 2, encB op A B C imm 3, encB op A B C imm 4, encB op A B C imm 5, encB op A B C imm 6, encB op A B C imm 7]

/-- what Encode leaves -/
structure Enc (op A B C imm : Int) (b : Nat) (w w' : World) : Prop where
  c : ∀ i, i < 8 → w'.cell? ⟨b, i, none⟩ = some (.int .u8 (encB op A B C imm i))
  env : w.grownBy w' none
  lo : w.heap.size ≤ b
  hi : b < w'.heap.size

set_option maxRecDepth 100000 in
set_option maxHeartbeats 2000000 in
theorem enc_any (op A B C imm : Int) (w : World) :
    Calls Try.prog 63 #[.agg #[.int .i64 op, .int .i64 A, .int .i64 B, .int .i64 C, .int .i32 imm]] w fun e w' => e = .returned (.slice (some ⟨w.heap.size + 1, 0, none⟩) 8 8) ∧ Enc op A B C imm (w.heap.size + 1) w w' := by
  have k0 : IntKind.u8.wrap op = encB op A B C imm 0 := by simp [IntKind.wrap, IntKind.bits, IntKind.signed, encB]
  have k1 : IntKind.u8.wrap A = encB op A B C imm 1 := by simp [IntKind.wrap, IntKind.bits, IntKind.signed, encB]
  have k2 : IntKind.u8.wrap B = encB op A B C imm 2 := by simp [IntKind.wrap, IntKind.bits, IntKind.signed, encB]
  have k3 : IntKind.u8.wrap C = encB op A B C imm 3 := by simp [IntKind.wrap, IntKind.bits, IntKind.signed, encB]
  obtain ⟨u, hu⟩ : ∃ u, IntKind.u32.wrap imm = u := ⟨_, rfl⟩
  have hu2 : imm % 4294967296 = u := by rw [← hu, IntKind.wrap_u32]
  have k4 : IntKind.u8.wrap (u / 16777216) = encB op A B C imm 4 := by simp [IntKind.wrap, IntKind.bits, IntKind.signed, encB, hu2]
  have k5 : IntKind.u8.wrap (u / 65536) = encB op A B C imm 5 := by simp [IntKind.wrap, IntKind.bits, IntKind.signed, encB, hu2]
  have k6 : IntKind.u8.wrap (u / 256) = encB op A B C imm 6 := by simp [IntKind.wrap, IntKind.bits, IntKind.signed, encB, hu2]
  have k7 : IntKind.u8.wrap u = encB op A B C imm 7 := by simp [IntKind.wrap, IntKind.bits, IntKind.signed, encB, hu2]
  obtain ⟨e0, he0⟩ : ∃ e, encB op A B C imm 0 = e := ⟨_, rfl⟩
  rw [he0] at k0
  have HE0 := Lib.hid he0
  obtain ⟨e1, he1⟩ : ∃ e, encB op A B C imm 1 = e := ⟨_, rfl⟩
  rw [he1] at k1
  have HE1 := Lib.hid he1
  obtain ⟨e2, he2⟩ : ∃ e, encB op A B C imm 2 = e := ⟨_, rfl⟩
  rw [he2] at k2
  have HE2 := Lib.hid he2
  obtain ⟨e3, he3⟩ : ∃ e, encB op A B C imm 3 = e := ⟨_, rfl⟩
  rw [he3] at k3
  have HE3 := Lib.hid he3
  obtain ⟨e4, he4⟩ : ∃ e, encB op A B C imm 4 = e := ⟨_, rfl⟩
  rw [he4] at k4
  have HE4 := Lib.hid he4
  obtain ⟨e5, he5⟩ : ∃ e, encB op A B C imm 5 = e := ⟨_, rfl⟩
  rw [he5] at k5
  have HE5 := Lib.hid he5
  obtain ⟨e6, he6⟩ : ∃ e, encB op A B C imm 6 = e := ⟨_, rfl⟩
  rw [he6] at k6
  have HE6 := Lib.hid he6
  obtain ⟨e7, he7⟩ : ∃ e, encB op A B C imm 7 = e := ⟨_, rfl⟩
  rw [he7] at k7
  have HE7 := Lib.hid he7
  clear hu2 he0 he1 he2 he3 he4 he5 he6 he7
  go_enter Try.func63, Try.ntmps63
  go_wp2_with fail
  go_ret
  refine ⟨rfl, fun i hi => ?_, ⟨rfl, rfl, rfl, by simp; omega, fun k hk _ => (Below.heap_alloc _ _ _ (by simp; omega)).trans (Below.heap_alloc _ _ _ hk)⟩, by omega, by simp⟩
  rcases (by omega : i = 0 ∨ i = 1 ∨ i = 2 ∨ i = 3 ∨ i = 4 ∨ i = 5 ∨ i = 6 ∨ i = 7) with rfl | rfl | rfl | rfl | rfl | rfl | rfl | rfl
  · rw [HE0.out]; simp
  · rw [HE1.out]; simp
  · rw [HE2.out]; simp
  · rw [HE3.out]; simp
  · rw [HE4.out]; simp
  · rw [HE5.out]; simp
  · rw [HE6.out]; simp
  · rw [HE7.out]; simp

/-- bytes laid over others -/
def layL (f : Nat → Int) (o : Nat) : List Int → Nat → Int
  | [] => f
  | e :: r => layL (fun j => if j = o then e else f j) (o + 1) r
theorem layL_out : ∀ (es : List Int) (f : Nat → Int) (o j : Nat), (j < o ∨ o + es.length ≤ j) → layL f o es j = f j
  | [], _, _, _, _ => rfl
  | e :: r, f, o, j, h => by
    have h1 := layL_out r (fun j => if j = o then e else f j) (o + 1) j (by simp at h; omega)
    show layL _ (o + 1) r j = _
    rw [h1, if_neg (by simp at h; omega)]
theorem layL_in : ∀ (es : List Int) (f : Nat → Int) (o i : Nat) (hi : i < es.length), layL f o es (o + i) = es[i]
  | e :: r, f, o, 0, _ => by
    show layL _ (o + 1) r (o + 0) = e
    rw [layL_out r _ (o + 1) (o + 0) (by omega), if_pos (by omega)]
  | e :: r, f, o, i + 1, hi => by
    have h1 := layL_in r (fun j => if j = o then e else f j) (o + 1) i (by simpa using hi)
    show layL _ (o + 1) r (o + (i + 1)) = _
    rw [show o + (i + 1) = o + 1 + i by omega, h1]
    rfl
theorem MemAt.setCells {M g n cap : Nat} {hole : Int} (hMg : M ≠ g) : ∀ (es : List Int) (o : Nat) (W : World) (f : Nat → Int), MemAt W M g n cap hole f → (∀ e ∈ es, 0 ≤ e ∧ e ≤ 255) → o + es.length ≤ n → MemAt (W.setCells g o (es.map (Value.int .u8))) M g n cap hole (layL f o es)
  | [], _, _, _, h, _, _ => h
  | e :: r, o, W, f, h, he, hn => by
    have h1 := h.set hMg o (by simp at hn; omega) e (he e (by simp)).1 (he e (by simp)).2
    exact MemAt.setCells hMg r (o + 1) _ _ h1 (fun x hx => he x (by simp [hx])) (by simp at hn; omega)
theorem grownBy_setCells (g : Nat) : ∀ (vs : List Value) (o : Nat) (W : World), W.grownBy (W.setCells g o vs) (some g)
  | [], _, W => World.grownBy.refl _ _
  | v :: r, o, W => (Go.Lib.grownBy_setCell W g o v).trans (grownBy_setCells g r (o + 1) _)

theorem encL_bd (op A B C imm : Int) : ∀ e ∈ encL op A B C imm, 0 ≤ e ∧ e ≤ 255 := by
  intro e he
  unfold encL at he
  simp only [List.mem_cons, List.not_mem_nil, or_false] at he
  rcases he with rfl | rfl | rfl | rfl | rfl | rfl | rfl | rfl <;> exact encB_bd _ _ _ _ _ _
theorem encL_at (op A B C imm : Int) (i : Nat) (hi : i < 8) : (encL op A B C imm)[i]'(by simpa [encL] using hi) = encB op A B C imm i := by
  rcases (by omega : i = 0 ∨ i = 1 ∨ i = 2 ∨ i = 3 ∨ i = 4 ∨ i = 5 ∨ i = 6 ∨ i = 7) with rfl | rfl | rfl | rfl | rfl | rfl | rfl | rfl <;> rfl

theorem size5 : (Try.prog.info? 5).map (·.size) = some 1 := by kernel_rfl
/-- copy of an instruction's bytes into a memory -/
theorem copy_run {w : World} {M g n cap cap' b : Nat} {hole : Int} {f : Nat → Int} (h : MemAt w M g n cap hole f) (hMg : M ≠ g) (op A B C imm : Int) (hc : ∀ i, i < 8 → w.cell? ⟨b, i, none⟩ = some (.int .u8 (encB op A B C imm i))) (o : Nat) (ho : o + 8 ≤ n) (ty : TypeId) :
    (Builtin.copy_ #[48, 48] ty #[.slice (some ⟨g, o, none⟩) (n - o) cap', .slice (some ⟨b, 0, none⟩) 8 8]).run Try.prog w = .ok (.int .i64 8) (w.setCells g o ((encL op A B C imm).map (Value.int .u8))) ∧
      MemAt (w.setCells g o ((encL op A B C imm).map (Value.int .u8))) M g n cap hole (layL f o (encL op A B C imm)) ∧ w.grownBy (w.setCells g o ((encL op A B C imm).map (Value.int .u8))) (some g) := by
  refine ⟨?_, h.setCells hMg _ _ _ _ (encL_bd _ _ _ _ _) (by simpa [encL] using ho), grownBy_setCells _ _ _ _⟩
  have hl : ((encL op A B C imm).map (Value.int .u8)).length = 8 := by simp [encL]
  have hr := run_copy_cells (P := Try.prog) w 48 48 ty 5 g o (n - o) cap' ⟨b, 0, none⟩ 8 8 ((encL op A B C imm).map (Value.int .u8)) Try.underlying48 size5 (by rw [hl]; show 8 = min 8 (n - o); omega) (fun j v hj => ?_) (fun j hj => ?_) (fun j hj => h.fz _) (fun v hv => ?_)
  · rw [hl] at hr
    exact hr
  · have hj8 : j < 8 := by
      rcases Nat.lt_or_ge j 8 with c | c
      · exact c
      · rw [List.getElem?_eq_none (by rw [hl]; exact c)] at hj; cases hj
    have hadd : (⟨b, 0, none⟩ : Addr).add j = ⟨b, j, none⟩ := by unfold Addr.add; split <;> simp_all
    rw [hadd, hc j hj8]
    rw [List.getElem?_map, List.getElem?_eq_getElem (by simpa [encL] using hj8)] at hj
    rw [encL_at _ _ _ _ _ j hj8] at hj
    exact hj
  · rw [hl] at hj
    rw [h.by' _ (by omega)]; rfl
  · obtain ⟨e, _, rfl⟩ := List.mem_map.1 hv
    rfl
end Go.Proofs.Ytelgmffmekfndaa
