/- The memory of chapter 9's statements: what may be reached, a load, a store. Conditions: as each theorem names them. -/
import Derived.Test.YtelgmffmekfndaaOpenG
import Derived.IntWalk
import Derived.WalkKit
import Derived.Lib.Hide
import Derived.OwnWalk
import Derived.Below
set_option linter.unusedVariables false
namespace Go.Proofs.Ytelgmffmekfndaa
open Go.ChangeShapes Go.WideShapes Go.ChangeAt Go.RowKit

/-- the memory at block M: n bytes at block g, the hole -/
structure MemAt (W : World) (M g n cap : Nat) (hole : Int) (f : Nat → Int) : Prop where
  cb : W.cell? ⟨M, 0, none⟩ = some (.slice (some ⟨g, 0, none⟩) n cap)
  ch : W.cell? ⟨M, 1, none⟩ = some (.int .i64 hole)
  by' : ∀ i, i < n → W.cell? ⟨g, i, none⟩ = some (.int .u8 (f i))
  rg : ∀ i, 0 ≤ f i ∧ f i ≤ 255
  fz : ∀ i, W.frozen? ⟨g, i, none⟩ = false
  nc : n ≤ cap
  nb : n ≤ 1000000
  hb : -9223372036854775808 ≤ hole ∧ hole ≤ 9223372036854775807

/-- may so many bytes be reached there? -/
def Reach (n : Nat) (hole : Int) (va width : Nat) : Prop := va + width ≤ n ∧ (hole = 0 ∨ (va : Int) < hole)

theorem ok_yes {W : World} {M g n cap : Nat} {hole : Int} {f : Nat → Int} (h : MemAt W M g n cap hole f) (va width : Nat) (hv : va ≤ 1000000) (hw : width ≤ 8) (hr : Reach n hole va width) :
    Calls Try.prog 95 #[.pointer (some ⟨M, 0, none⟩), .int .i64 va, .int .i64 width] W fun e w' => e = .returned (.bool true) ∧ W = w' := by
  have cb := h.cb
  have ch := h.ch
  obtain ⟨h1, h2⟩ := hr
  obtain ⟨b1, b2⟩ := h.hb
  have h1I : (va : Int) + (width : Int) ≤ (n : Int) := by omega
  have hn := h.nb
  have hc := h.nc
  by_cases h0 : hole = 0
  · have h0b : (hole == 0) = true := by rw [beq_iff_eq]; exact h0
    clear h2 h0 h
    go_enter Try.func95, Try.ntmps95
    go_wp2_with fail
    go_ret
    exact ⟨rfl, rfl⟩
  · have h0b : (hole == 0) = false := by rw [beq_eq_false_iff_ne]; exact h0
    have h3 : (va : Int) < hole := by omega
    clear h2 h0 h
    go_enter Try.func95, Try.ntmps95
    go_wp2_with fail
    go_ret
    exact ⟨rfl, rfl⟩
theorem ok_no {W : World} {M g n cap : Nat} {hole : Int} {f : Nat → Int} (h : MemAt W M g n cap hole f) (va width : Nat) (hv : va ≤ 1000000) (hw : width ≤ 8) (hr : ¬ Reach n hole va width) :
    Calls Try.prog 95 #[.pointer (some ⟨M, 0, none⟩), .int .i64 va, .int .i64 width] W fun e w' => e = .returned (.bool false) ∧ W = w' := by
  have cb := h.cb
  have ch := h.ch
  obtain ⟨b1, b2⟩ := h.hb
  have hn := h.nb
  have hc := h.nc
  unfold Reach at hr
  by_cases h1 : va + width ≤ n
  · have h1I : (va : Int) + (width : Int) ≤ (n : Int) := by omega
    have h0 : ¬ hole = 0 := fun e => hr ⟨h1, .inl e⟩
    have h3 : ¬ (va : Int) < hole := fun e => hr ⟨h1, .inr e⟩
    have h0b : (hole == 0) = false := by rw [beq_eq_false_iff_ne]; exact h0
    clear hr h0 h
    go_enter Try.func95, Try.ntmps95
    go_wp2_with fail
    go_ret
    exact ⟨rfl, rfl⟩
  · have h1I : ¬ (va : Int) + (width : Int) ≤ (n : Int) := by omega
    clear hr h
    go_enter Try.func95, Try.ntmps95
    go_wp2_with fail
    go_ret
    exact ⟨rfl, rfl⟩

/-- the number of bytes, the highest first -/
def ldv (f : Nat → Int) : Nat → Int
  | 0 => 0
  | k + 1 => bits .or .u64 (IntKind.u64.wrap (ldv f k * 256)) (f k)

set_option maxRecDepth 100000 in
set_option maxHeartbeats 2000000 in
theorem load_yes {W : World} {M g n cap : Nat} {hole : Int} {f : Nat → Int} (h : MemAt W M g n cap hole f) (va width : Nat) (hv : va ≤ 1000000) (hw0 : 0 < width) (hw : width ≤ 8) (hr : Reach n hole va width) :
    Calls Try.prog 84 #[.pointer (some ⟨M, 0, none⟩), .int .i64 va, .int .i64 width] W fun e w' => e = .returned (.tuple #[.int .u64 (ldv (fun i => f (va + i)) width), .bool true]) ∧ W = w' := by
  have hok := ok_yes h va width hv hw hr
  have cb := h.cb
  have HBY := Lib.hid h.by'
  have HRG := Lib.hid h.rg
  have hn := h.nb
  have hc := h.nc
  obtain ⟨h1, _⟩ := hr
  have HOK := Lib.hid hok
  have hI1 : (va : Int) + (width : Int) ≤ (cap : Int) := by omega
  have hI0 : (va : Int) ≤ (va : Int) + (width : Int) := by omega
  have hw2 : IntKind.i64.wrap ((va : Int) + (width : Int)) = (va : Int) + (width : Int) := by rw [IntKind.wrap_i64]; omega
  have hcv : ¬ cap = va := by omega
  clear hok h
  go_enter Try.func84, Try.ntmps84
  go_wp2_with fail
  refine HOK.out.mono ?_
  rintro e w' ⟨rfl, rfl⟩
  go_wp2_with fail
  go_loop [8, 26] (fun s8 s26 => ∃ k : Nat, k ≤ width ∧ s26 = .int .i64 k ∧ s8 = .int .u64 (ldv (fun i => f (va + i)) k)) (fun _ s26 => width - (intOf s26).toNat)
  case atStart => exact ⟨0, by omega, rfl, rfl⟩
  case round =>
    obtain ⟨k, hk, rfl, rfl⟩ := hrel
    by_cases hlt : k < width
    · have hc1 := HBY.out (va + k) (by omega)
      obtain ⟨r0, r1⟩ := HRG.out (va + k)
      have hkI : (k : Int) < (width : Int) := by omega
      have hs : ldv (fun i => f (va + i)) (k + 1) = bits .or .u64 (IntKind.u64.wrap (ldv (fun i => f (va + i)) k * 256)) (f (va + k)) := rfl
      have HS := Lib.hid hs
      clear hs
      generalize f (va + k) = y at *
      generalize ldv (fun i => f (va + i)) k = x at *
      go_wp2_with fail
      go_round
      case rel => exact ⟨k + 1, by omega, by go_num, by rw [HS.out]⟩
      case measure => simp [intOf]; omega
    · obtain rfl : k = width := by omega
      go_wp2_with fail
      exact bodyPost_ret (v := .tuple #[.int .u64 (ldv (fun i => f (va + i)) k), .bool true]) (by simp [results, Try.results84, go_sem]) rfl ⟨rfl, rfl⟩
theorem load_no {W : World} {M g n cap : Nat} {hole : Int} {f : Nat → Int} (h : MemAt W M g n cap hole f) (va width : Nat) (hv : va ≤ 1000000) (hw : width ≤ 8) (hr : ¬ Reach n hole va width) :
    Calls Try.prog 84 #[.pointer (some ⟨M, 0, none⟩), .int .i64 va, .int .i64 width] W fun e w' => e = .returned (.tuple #[.int .u64 0, .bool false]) ∧ W = w' := by
  have HOK := Lib.hid (ok_no h va width hv hw hr)
  clear h
  go_enter Try.func84, Try.ntmps84
  go_wp2_with fail
  refine HOK.out.mono ?_
  rintro e w' ⟨rfl, rfl⟩
  go_wp2_with fail
  exact bodyPost_ret (v := .tuple #[.int .u64 0, .bool false]) (by simp [results, Try.results84, go_sem]) rfl ⟨rfl, rfl⟩

/-- a byte of a number: the i-th of so many, the highest first -/
def stb (x : Int) (width i : Nat) : Int := x / 2 ^ (8 * (width - 1 - i)) % 256
/-- bytes with a number stored among them -/
def stf (f : Nat → Int) (va width : Nat) (x : Int) (j : Nat) : Int := if va ≤ j ∧ j < va + width then stb x width (j - va) else f j
/-- part of it: the first k bytes are stored -/
def stk (f : Nat → Int) (va width k : Nat) (x : Int) (j : Nat) : Int := if va ≤ j ∧ j < va + k then stb x width (j - va) else f j
theorem stb_bd (x : Int) (width i : Nat) : 0 ≤ stb x width i ∧ stb x width i ≤ 255 := by
  unfold stb; omega
theorem stk_zero (f : Nat → Int) (va width : Nat) (x : Int) : stk f va width 0 x = f := by
  funext j; unfold stk; rw [if_neg (by omega)]
theorem stk_succ (f : Nat → Int) (va width k : Nat) (x : Int) : stk f va width (k + 1) x = fun j => if j = va + k then stb x width k else stk f va width k x j := by
  funext j
  unfold stk
  by_cases h : j = va + k
  · subst h
    rw [if_pos (by omega), if_pos rfl]
    congr 1; omega
  · rw [if_neg h]
    by_cases h2 : va ≤ j ∧ j < va + k
    · rw [if_pos h2, if_pos (by omega)]
    · rw [if_neg h2, if_neg (by omega)]
/-- what a store leaves: the bytes' block alone is written -/
structure Stored (g : Nat) (W W' : World) : Prop where
  env : W.grownBy W' (some g)
  size : W'.heap.size = W.heap.size
theorem Stored.refl (g : Nat) (W : World) : Stored g W W := ⟨World.grownBy.refl _ _, rfl⟩
theorem Stored.set {g : Nat} {W W' : World} (h : Stored g W W') (i : Nat) (v : Value) : Stored g W (W'.setCell ⟨g, i, none⟩ v) :=
  ⟨⟨h.env.os, h.env.tape, h.env.output, by simp [World.setCell, h.size], fun k hk hne => (Below.heap_setCell _ _ _ _ (fun e => hne (by simp [e]))).trans (h.env.block k hk hne)⟩, by simp [World.setCell, h.size]⟩
theorem MemAt.set {W : World} {M g n cap : Nat} {hole : Int} {f : Nat → Int} (h : MemAt W M g n cap hole f) (hMg : M ≠ g) (i : Nat) (hi : i < n) (y : Int) (y0 : 0 ≤ y) (y1 : y ≤ 255) : MemAt (W.setCell ⟨g, i, none⟩ (.int .u8 y)) M g n cap hole (fun j => if j = i then y else f j) := by
  have o : ∀ b k, b ≠ g → (W.setCell ⟨g, i, none⟩ (.int .u8 y)).cell? ⟨b, k, none⟩ = W.cell? ⟨b, k, none⟩ := fun b k hb => World.cell?_setCell_other _ _ _ _ (by intro e; injection e with e _ _; exact hb e.symm)
  refine ⟨(o M 0 hMg).trans h.cb, (o M 1 hMg).trans h.ch, fun j hj => ?_, fun j => ?_, fun j => (World.frozen?_setCell _ _ _ _).trans (h.fz j), h.nc, h.nb, h.hb⟩
  · by_cases e : j = i
    · subst e
      simp only [if_pos]
      exact World.cell?_setCell_same' _ _ _ (by rw [h.by' j hj]; rfl)
    · simp only [if_neg e]
      exact (World.cell?_setCell_other _ _ _ _ (by intro e2; injection e2 with _ e3 _; exact e e3.symm)).trans (h.by' j hj)
  · by_cases e : j = i
    · simp only [if_pos e]; exact ⟨y0, y1⟩
    · simp only [if_neg e]; exact h.rg j

set_option maxRecDepth 100000 in
set_option maxHeartbeats 2000000 in
theorem store_yes {W : World} {M g n cap : Nat} {hole : Int} {f : Nat → Int} (h : MemAt W M g n cap hole f) (hMg : M ≠ g) (va width : Nat) (x : Int) (x0 : 0 ≤ x) (x1 : x < 18446744073709551616) (hv : va ≤ 1000000) (hw0 : 0 < width) (hw : width ≤ 8) (hr : Reach n hole va width) :
    Calls Try.prog 87 #[.pointer (some ⟨M, 0, none⟩), .int .i64 va, .int .i64 width, .int .u64 x] W fun e w' => e = .returned (.bool true) ∧ MemAt w' M g n cap hole (stf f va width x) ∧ Stored g W w' := by
  have HOK := Lib.hid (ok_yes h va width hv hw hr)
  obtain ⟨h1, _⟩ := hr
  have hn := h.nb
  have hc := h.nc
  have HM := Lib.hid h
  clear h
  go_enter Try.func87, Try.ntmps87
  go_wp2_with fail
  refine HOK.out.mono ?_
  rintro e w' ⟨rfl, rfl⟩
  go_wp2_with fail
  go_loopw [16] (fun s16 wr => ∃ k : Nat, k ≤ width ∧ s16 = .int .i64 k ∧ MemAt wr M g n cap hole (stk f va width k x) ∧ Stored g W wr) (fun s16 _ => width - (intOf s16).toNat)
  case atStart => exact ⟨0, by omega, rfl, by rw [stk_zero]; exact HM.out, Stored.refl _ _⟩
  case round =>
    obtain ⟨k, hk, rfl, hm, hs⟩ := hrel
    by_cases hlt : k < width
    · have cb := hm.cb
      have hc1 := hm.by' (va + k) (by omega)
      have hf1 := hm.fz (va + k)
      have hm2 := fun y y0 y1 => hm.set hMg (va + k) (by omega) y y0 y1
      have HM2 := Lib.hid hm2
      have HS := Lib.hid hs
      have hkI : (k : Int) < (width : Int) := by omega
      have hnI : (va : Int) + (k : Int) < (n : Int) := by omega
      clear hm hm2 hs
      go_wp2_with fail
      go_roundw
      case rel =>
        refine ⟨k + 1, by omega, by go_num, ?_, HS.out.set _ _⟩
        rw [stk_succ]
        exact HM2.out (stb x width k) (stb_bd x width k).1 (stb_bd x width k).2
      case measure => simp [intOf]; omega
    · obtain rfl : k = width := by omega
      have HMS := Lib.hid (And.intro hm hs)
      clear hm hs
      go_wp2_with fail
      go_ret
      exact ⟨rfl, HMS.out.1, HMS.out.2⟩
theorem store_no {W : World} {M g n cap : Nat} {hole : Int} {f : Nat → Int} (h : MemAt W M g n cap hole f) (va width : Nat) (x : Int) (hv : va ≤ 1000000) (hw : width ≤ 8) (hr : ¬ Reach n hole va width) :
    Calls Try.prog 87 #[.pointer (some ⟨M, 0, none⟩), .int .i64 va, .int .i64 width, .int .u64 x] W fun e w' => e = .returned (.bool false) ∧ W = w' := by
  have HOK := Lib.hid (ok_no h va width hv hw hr)
  clear h
  go_enter Try.func87, Try.ntmps87
  go_wp2_with fail
  refine HOK.out.mono ?_
  rintro e w' ⟨rfl, rfl⟩
  go_wp2_with fail
  go_ret
  exact ⟨rfl, rfl⟩
end Go.Proofs.Ytelgmffmekfndaa
