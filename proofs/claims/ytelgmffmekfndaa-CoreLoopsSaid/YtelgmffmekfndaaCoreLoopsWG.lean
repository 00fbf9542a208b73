/- CoreLoops: the law's own walk. Conditions: as each theorem names them. -/
import Derived.Test.YtelgmffmekfndaaCoreLoopsG
set_option linter.unusedVariables false
namespace Go.Proofs.Ytelgmffmekfndaa
open Go.ChangeShapes Go.WideShapes Go.ChangeAt Go.RowKit

theorem and_63 (n : Int) : 0 ≤ bits .and .i64 n 63 ∧ bits .and .i64 n 63 ≤ 63 := by
  have h : bits .and .i64 n 63 = IntKind.i64.wrap ((BitVec.ofInt 64 n &&& BitVec.ofInt 64 63).toNat : Int) := rfl
  have h2 : (BitVec.ofInt 64 n &&& BitVec.ofInt 64 63).toNat ≤ 63 := by
    rw [BitVec.toNat_and]
    exact Nat.le_trans Nat.and_le_right (by decide)
  rw [h, IntKind.wrap_i64]
  omega

namespace Lp
/-- the five instructions as they lie in a slice -/
abbrev lit (N : Nat) (add : Int) : Obj := .cells #[.int .i64 2, .int .i64 1, .int .i64 0, .int .i64 0, .int .i32 N, .int .i64 18, .int .i64 2, .int .i64 2, .int .i64 0, .int .i32 add, .int .i64 18, .int .i64 1, .int .i64 1, .int .i64 0, .int .i32 (-1), .int .i64 26, .int .i64 1, .int .i64 0, .int .i64 0, .int .i32 (-2), .int .i64 1, .int .i64 0, .int .i64 0, .int .i64 0, .int .i32 0] 50
structure LI (N : Nat) (add : Int) (w1 : World) (k : Nat) (wr : World) : Prop where
  mem : MemAt wr (w1.heap.size + 1) w1.heap.size 128 128 0 (mem N add k)
  l0 : ∀ q, q < 5 → wr.cell? ⟨w1.heap.size + 2, q * 5, none⟩ = some (.int .i64 (op q))
  l1 : ∀ q, q < 5 → wr.cell? ⟨w1.heap.size + 2, q * 5 + 1, none⟩ = some (.int .i64 (A q))
  l2 : ∀ q, q < 5 → wr.cell? ⟨w1.heap.size + 2, q * 5 + 2, none⟩ = some (.int .i64 (B q))
  l3 : ∀ q, q < 5 → wr.cell? ⟨w1.heap.size + 2, q * 5 + 3, none⟩ = some (.int .i64 0)
  l4 : ∀ q, q < 5 → wr.cell? ⟨w1.heap.size + 2, q * 5 + 4, none⟩ = some (.int .i32 (imm N add q))
  env : Below w1.heap.size w1 wr
  sz : w1.heap.size + 3 ≤ wr.heap.size
theorem LI.start (N : Nat) (add : Int) (w1 : World) : LI N add w1 0 (((w1.alloc (.cells (madeCells #[.int .u8 0] 128) 5)).alloc (.cells #[.slice (some ⟨w1.heap.size, 0, none⟩) 128 128, .int .i64 0] 54)).alloc (lit N add)) := by
  have hm := (mem_new w1 128 0 (by omega) (by omega)).grown (World.grownBy_alloc _ (lit N add) none) (by simp) (by simp) (by simp; omega)
  have e : ((w1.alloc (.cells (madeCells #[.int .u8 0] 128) 5)).alloc (.cells #[.slice (some ⟨w1.heap.size, 0, none⟩) 128 128, .int .i64 0] 54)).heap.size = w1.heap.size + 2 := by simp
  have hc : ∀ i, (((w1.alloc (.cells (madeCells #[.int .u8 0] 128) 5)).alloc (.cells #[.slice (some ⟨w1.heap.size, 0, none⟩) 128 128, .int .i64 0] 54)).alloc (lit N add)).cell? ⟨w1.heap.size + 2, i, none⟩ = _ := fun i => World.cell?_alloc_at _ _ _ i e.symm
  refine ⟨hm, fun q hq => ?_, fun q hq => ?_, fun q hq => ?_, fun q hq => ?_, fun q hq => ?_, (((Below.refl _ w1).alloc (Nat.le_refl _) _).alloc (by simp) _).alloc (by simp; omega) _, by simp⟩ <;>
    (rw [hc]; rcases (by omega : q = 0 ∨ q = 1 ∨ q = 2 ∨ q = 3 ∨ q = 4) with rfl | rfl | rfl | rfl | rfl <;> rfl)
theorem LI.next {N : Nat} {add : Int} {w1 wr w2 : World} {k : Nat} (h : LI N add w1 k wr) (o : Obj) (hc : Copied (w1.heap.size + 1) w1.heap.size 128 128 0 (Lp.mem N add k) (8 * k) (op k) (A k) (B k) 0 (imm N add k) (wr.alloc o).drew w2) : LI N add w1 (k + 1) w2 := by
  have hg : wr.grownBy w2 (some w1.heap.size) := ((World.grownBy_alloc wr o none).but _).trans ((show (wr.alloc o).grownBy (wr.alloc o).drew (some w1.heap.size) from ⟨rfl, rfl, rfl, Nat.le_refl _, fun _ _ _ => rfl⟩).trans hc.env)
  have hn : some (w1.heap.size + 2) ≠ some w1.heap.size := by simp
  exact ⟨hc.mem, fun q hq => hg.cell (h.l0 q hq) hn, fun q hq => hg.cell (h.l1 q hq) hn, fun q hq => hg.cell (h.l2 q hq) hn, fun q hq => hg.cell (h.l3 q hq) hn, fun q hq => hg.cell (h.l4 q hq) hn, below_grown h.env hg (Nat.le_refl _), Nat.le_trans h.sz hg.size⟩
end Lp

set_option maxRecDepth 100000 in
set_option maxHeartbeats 4000000 in
theorem lawLoops (n add : Int) (a0 : -2147483648 ≤ add) (a1 : add ≤ 2147483647) (w : World) : Calls Try.prog 19 #[.int .i64 n, .int .i32 add] w fun e w' => e = .returned (.bool true) ∧ Below w.heap.size w w' := by
  obtain ⟨q, hq⟩ : ∃ q, bits .and .i64 n 63 = q := ⟨_, rfl⟩
  have hqb : 0 ≤ q ∧ q ≤ 63 := by rw [← hq]; exact and_63 n
  obtain ⟨N, hN⟩ : ∃ N : Nat, q + 1 = N := ⟨(q + 1).toNat, by omega⟩
  have hN1 : 1 ≤ N ∧ N ≤ 64 := by omega
  have hw1 : IntKind.i64.wrap (q + 1) = N := by rw [IntKind.wrap_i64]; omega
  have hw2 : IntKind.i32.wrap (N : Int) = N := by simp [IntKind.wrap, IntKind.bits, IntKind.signed]; omega
  have hmk : ∀ w, (Instr.makeSlice 48 (.int .i64 128) (.int .i64 128)).run Try.prog w = .ok (.slice (some ⟨w.heap.size, 0, none⟩) 128 128) (w.alloc (.cells (madeCells #[.int .u8 0] 128) 5)) := make_bytes 128 (by omega)
  clear hN hqb
  go_enter Try.func19, Try.ntmps19
  go_wp2_with fail
  refine (fit09_any _).mono ?_
  rintro e w1 ⟨rfl, hb1⟩
  go_wp2_with fail
  go_loopw [28] (fun s28 wr => ∃ k : Nat, k ≤ 5 ∧ s28 = .int .i64 k ∧ Lp.LI N add w1 k wr) (fun s28 _ => 5 - (intOf s28).toNat)
  case atStart => exact ⟨0, by omega, rfl, Lp.LI.start N add w1⟩
  case round =>
    obtain ⟨k, hk, rfl, hL⟩ := hrel
    by_cases hlt5 : k < 5
    · have hc0 := hL.l0 k hlt5
      have hc1 := hL.l1 k hlt5
      have hc2 := hL.l2 k hlt5
      have hc3 := hL.l3 k hlt5
      have hc4 := hL.l4 k hlt5
      have HL := Lib.hid hL
      have hkI : (k : Int) < 5 := by omega
      clear hL
      go_wp2_with fail
      refine copy19 (w1.heap.size + 1) w1.heap.size 128 128 0 (Lp.mem N add k) wr.heap.size k (Lp.op k) (Lp.A k) (Lp.B k) 0 (Lp.imm N add k) _ (HL.out.mem.grown (World.grownBy_alloc _ _ none) (by simp) (by simp) (by have := HL.out.sz; omega)) (by omega) (by have := HL.out.sz; simp; omega) (by omega) (by omega) (by omega) ((World.grownBy_alloc _ _ none).cell HL.out.mem.cb (by simp)) (by simp) (by simp) (by simp) (by simp) (by simp) (by omega) (by have := HL.out.sz; omega) (by have := HL.out.sz; omega) (by have := HL.out.sz; omega) (by have := HL.out.sz; omega) (by have := HL.out.sz; omega) _ rfl rfl rfl rfl _ ?_
      intro b9 w2 hcp
      have HN := Lib.hid (HL.out.next _ hcp)
      clear hcp hc0 hc1 hc2 hc3 hc4
      simp only [Act.put, List.setIfInBounds_toArray, List.set_cons_succ, List.set_cons_zero]
      go_wp2_with fail
      go_roundw
      case rel => exact ⟨k + 1, by omega, by go_num, HN.out⟩
      case measure => simp [intOf]; omega
    · obtain rfl : k = 5 := by omega
      obtain ⟨wx, hwx⟩ : ∃ wx : World, wx = wr := ⟨_, rfl⟩
      subst hwx
      have hz := hL.sz
      have hst : St (wx.alloc (.cells #[.int .u64 0, .int .u64 0, .int .u64 0, .int .u64 0, .int .u64 0, .int .u64 0, .int .u64 0, .int .u64 0, .int .u64 0, .int .u64 0, .int .u64 0, .int .u64 0, .int .u64 0, .int .u64 0, .int .u64 0, .int .u64 0, .int .u64 0] 57)) wx.heap.size (w1.heap.size + 1) w1.heap.size 128 128 0 (Lp.R N add 0) (Lp.pc N 0) (Lp.mem N add 5) := by
        have e1 : Lp.R N add 0 = fun _ => 0 := by funext i; unfold Lp.R Lp.r1 Lp.r2; simp
        have e2 : Lp.pc N 0 = 0 := by unfold Lp.pc; simp
        rw [e1, e2]
        exact ⟨core_new wx 0 57 (by omega), hL.mem.grown (World.grownBy_alloc _ _ none) (by simp) (by simp) (by omega), by omega, by omega, by omega, by simp; omega⟩
      have HST := Lib.hid hst
      have HBX := Lib.hid ((hL.env).alloc (by omega) (.cells #[.int .u64 0, .int .u64 0, .int .u64 0, .int .u64 0, .int .u64 0, .int .u64 0, .int .u64 0, .int .u64 0, .int .u64 0, .int .u64 0, .int .u64 0, .int .u64 0, .int .u64 0, .int .u64 0, .int .u64 0, .int .u64 0, .int .u64 0] 57))
      clear hL hst
      go_wp2_with fail
      go_loopw [9] (fun s9 wr => ∃ s : Nat, s ≤ 1 + 3 * N ∧ s9 = .int .i64 s ∧ St wr wx.heap.size (w1.heap.size + 1) w1.heap.size 128 128 0 (Lp.R N add s) (Lp.pc N s) (Lp.mem N add 5) ∧ Below w1.heap.size w1 wr) (fun s9 _ => 2 + 3 * N - (intOf s9).toNat)
      case atStart => exact ⟨0, by omega, rfl, HST.out, HBX.out⟩
      case round =>
        obtain ⟨s, hs, rfl, hS, hB⟩ := hrel
        have HB3 := Lib.hid hB
        by_cases hlt : s < 1 + 3 * N
        · have HSN := Lib.hid (Lp.step_next hN1.1 hN1.2 a0 a1 s hlt hS)
          have hs1000 : (s : Int) + 1 ≤ 1000 := by omega
          have hw5 : IntKind.i64.wrap ((s : Int) + 1) = (s : Int) + 1 := by rw [IntKind.wrap_i64]; omega
          clear hS hB
          go_wp2_with fail
          refine HSN.out.mono ?_
          rintro e w4 ⟨rfl, hS4, hk4⟩
          have HS4 := Lib.hid hS4
          have HB4 := Lib.hid (below_kept2 HB3.out hk4 (by omega) (by omega))
          clear hS4 hk4
          go_wp2_with fail
          go_roundw
          case rel => exact ⟨_, .int .i64 ((s : Int) + 1), _, _, _, _, _, _, _, _, ⟨s + 1, by omega, by go_num, HS4.out, HB4.out⟩, rfl⟩
          case measure => simp [intOf]; omega
        · obtain ⟨S, hSe⟩ : ∃ S, 1 + 3 * N = S := ⟨_, rfl⟩
          obtain rfl : s = S := by omega
          have hSN := Lp.step_halt hN1.1 hN1.2 a0 a1 (by rw [hSe]; exact hS)
          rw [hSe] at hSN
          have HSN := Lib.hid hSN
          obtain ⟨T3, hT3⟩ : ∃ T3, IntKind.i64.wrap (3 * (N : Int)) = T3 := ⟨_, rfl⟩
          have hT5 : T3 = 3 * (N : Int) := by rw [← hT3, IntKind.wrap_i64]; omega
          have hT4 : IntKind.i64.wrap (1 + T3) = (s : Int) := by rw [hT5, IntKind.wrap_i64]; omega
          clear hT5
          have hJ : Lp.J s = N := by unfold Lp.J; omega
          have hQ : Lp.Q s = 0 := by unfold Lp.Q; omega
          have hi1 : IntKind.i64.wrap add = add := by rw [IntKind.wrap_i64]; omega
          obtain ⟨P, hP⟩ : ∃ P, IntKind.i64.wrap ((N : Int) * add) = P := ⟨_, rfl⟩
          obtain ⟨v2, hv2⟩ : ∃ v2, IntKind.u64.wrap P = v2 := ⟨_, rfl⟩
          have hr2 : Lp.R N add s 2 = v2 := by
            show Lp.r2 add s = v2
            unfold Lp.r2
            rw [if_neg (by omega), hJ, hQ, if_pos rfl, Int.add_zero, ← hv2, ← hP]
            simp only [IntKind.wrap_u64, IntKind.wrap_i64]
            generalize (N : Int) * add = p
            omega
          have hr1 : Lp.R N add s 1 = 0 := by
            show Lp.r1 N s = 0
            unfold Lp.r1
            rw [if_neg (by omega), hJ, hQ, if_neg (by omega)]
            omega
          have hp3 : Lp.pc N s = 32 := by unfold Lp.pc; rw [if_neg (by omega), if_pos hSe.symm]
          clear hS hB hSN hSe hJ hQ
          go_wp2_with fail
          refine HSN.out.mono ?_
          rintro e w4 ⟨rfl, hS4, hk4⟩
          have HB4 := Lib.hid (below_kept2 HB3.out hk4 (by omega) (by omega))
          have c1 := hS4.core.r 1 (by omega)
          have c2 := hS4.core.r 2 (by omega)
          have c16 := hS4.core.p
          rw [hr1] at c1
          rw [hr2] at c2
          rw [hp3] at c16
          clear hS4 hk4 hr1 hr2 hp3
          go_wp2_with fail
          go_ret
          exact ⟨rfl, (hb1.trans (HB4.out.mono hb1.size))⟩
end Go.Proofs.Ytelgmffmekfndaa
