/- The walk of the law AluTakes: the law returns true at every operation, two words and number and changes nothing that existed. Condition: the numbers fit their kinds. -/
import Derived.Test.YtelgmffmekfndaaAluTakesC
set_option linter.unusedVariables false
namespace Go.Proofs.Ytelgmffmekfndaa
open Go.ChangeShapes Go.WideShapes Go.ChangeAt Go.RowKit

/-- both find the same place -/
def Places (b imm wd : Int) : Prop := ∃ (x : Int) (ok : Bool), (∀ w, Calls Try.prog 60 #[.int .u64 b, .int .i32 imm, .int .i64 wd] w fun e w' => e = .returned (.tuple #[.int .i64 x, .bool ok]) ∧ w = w') ∧
  ∀ w, Calls Try.prog 61 #[.int .u64 b, .int .i32 imm, .int .i64 wd] w fun e w' => e = .returned (.tuple #[.int .i64 x, .bool ok]) ∧ w = w'
theorem places0 (b imm : Int) (i0 : -2147483648 ≤ imm) (i1 : imm ≤ 2147483647) : Places b imm 0 := ⟨_, _, place0 b imm i0 i1, rplace0 b imm i0 i1⟩
theorem places1 (b imm : Int) (i0 : -2147483648 ≤ imm) (i1 : imm ≤ 2147483647) : Places b imm 1 := by
  by_cases h : xOf b imm ≤ 262144 - 1 ∧ xOf b imm % 1 = 0
  · exact ⟨_, _, place1_yes b imm i0 i1 h, rplace1_yes b imm i0 i1 h⟩
  · exact ⟨_, _, place1_no b imm i0 i1 h, rplace1_no b imm i0 i1 h⟩
theorem places2 (b imm : Int) (i0 : -2147483648 ≤ imm) (i1 : imm ≤ 2147483647) : Places b imm 2 := by
  by_cases h : xOf b imm ≤ 262144 - 2 ∧ xOf b imm % 2 = 0
  · exact ⟨_, _, place2_yes b imm i0 i1 h, rplace2_yes b imm i0 i1 h⟩
  · exact ⟨_, _, place2_no b imm i0 i1 h, rplace2_no b imm i0 i1 h⟩
theorem places4 (b imm : Int) (i0 : -2147483648 ≤ imm) (i1 : imm ≤ 2147483647) : Places b imm 4 := by
  by_cases h : xOf b imm ≤ 262144 - 4 ∧ xOf b imm % 4 = 0
  · exact ⟨_, _, place4_yes b imm i0 i1 h, rplace4_yes b imm i0 i1 h⟩
  · exact ⟨_, _, place4_no b imm i0 i1 h, rplace4_no b imm i0 i1 h⟩
theorem places8 (b imm : Int) (i0 : -2147483648 ≤ imm) (i1 : imm ≤ 2147483647) : Places b imm 8 := by
  by_cases h : xOf b imm ≤ 262144 - 8 ∧ xOf b imm % 8 = 0
  · exact ⟨_, _, place8_yes b imm i0 i1 h, rplace8_yes b imm i0 i1 h⟩
  · exact ⟨_, _, place8_no b imm i0 i1 h, rplace8_no b imm i0 i1 h⟩
/-- how many widths were tried -/
def FiveRel (s : Value) : Prop := s = .int .i64 0 ∨ s = .int .i64 1 ∨ s = .int .i64 2 ∨ s = .int .i64 3 ∨ s = .int .i64 4 ∨ s = .int .i64 5

set_option maxRecDepth 100000 in
set_option maxHeartbeats 4000000 in
theorem lawTakes (op a b imm : Int) (o0 : -9223372036854775808 ≤ op) (o1 : op ≤ 9223372036854775807) (a0 : 0 ≤ a) (a1 : a < 18446744073709551616) (b0 : 0 ≤ b) (b1 : b < 18446744073709551616) (i0 : -2147483648 ≤ imm) (i1 : imm ≤ 2147483647) (w : World) :
    Calls Try.prog 16 #[.int .i64 op, .agg #[.int .u64 a, .int .u64 b], .int .i32 imm] w fun e w' => e = .returned (.bool true) ∧ Below w.heap.size w w' := by
  obtain ⟨t, ht, hrt⟩ := takes_alike op a b a0 a1 b0 b1
  obtain ⟨n, s, hw, hrw⟩ := width_alike op
  obtain ⟨x0, k0, p0, q0⟩ := places0 a imm i0 i1
  obtain ⟨x1, k1, p1, q1⟩ := places1 a imm i0 i1
  obtain ⟨x2, k2, p2, q2⟩ := places2 a imm i0 i1
  obtain ⟨x4, k4, p4, q4⟩ := places4 a imm i0 i1
  obtain ⟨x8, k8, p8, q8⟩ := places8 a imm i0 i1
  have P0 := Lib.hid p0
  have Q0 := Lib.hid q0
  have P1 := Lib.hid p1
  have Q1 := Lib.hid q1
  have P2 := Lib.hid p2
  have Q2 := Lib.hid q2
  have P4 := Lib.hid p4
  have Q4 := Lib.hid q4
  have P8 := Lib.hid p8
  have Q8 := Lib.hid q8
  clear p0 q0 p1 q1 p2 q2 p4 q4 p8 q8
  have HT := Lib.hid ht
  have HRT := Lib.hid hrt
  have HW := Lib.hid hw
  have HRW := Lib.hid hrw
  clear ht hrt hw hrw
  go_enter Try.func16, Try.ntmps16
  go_wp2_with fail
  refine (afit_any _).mono ?_
  rintro e w1 ⟨rfl, hb1⟩
  obtain ⟨hc1, hf1⟩ := bcell hb1
  have hz1b : w.heap.size ≤ w1.heap.size := Nat.le_trans (by simp) hb1.size
  go_wp2_with fail
  go_region
  go_wp2_with fail
  refine (HW.out _).mono ?_
  rintro e w2 ⟨rfl, rfl⟩
  go_wp2_with fail
  refine (HRW.out _).mono ?_
  rintro e w2 ⟨rfl, rfl⟩
  go_wp2_with fail
  refine (HT.out _).mono ?_
  rintro e w2 ⟨rfl, rfl⟩
  go_wp2_with fail
  refine (HRT.out _).mono ?_
  rintro e w2 ⟨rfl, rfl⟩
  go_wp2_with fail
  go_loop [56] (fun s56 => FiveRel s56) (fun s56 => 5 - (intOf s56).toNat)
  case atStart => exact .inl rfl
  case round =>
    rcases hrel with rfl | rfl | rfl | rfl | rfl | rfl
    · go_wp2_with fail
      refine (P0.out _).mono ?_
      rintro e w2 ⟨rfl, rfl⟩
      go_wp2_with fail
      refine (Q0.out _).mono ?_
      rintro e w2 ⟨rfl, rfl⟩
      go_wp2_with fail
      go_round
      case rel => exact .inr (.inl rfl)
      case measure => simp [intOf]
    · go_wp2_with fail
      refine (P1.out _).mono ?_
      rintro e w2 ⟨rfl, rfl⟩
      go_wp2_with fail
      refine (Q1.out _).mono ?_
      rintro e w2 ⟨rfl, rfl⟩
      go_wp2_with fail
      go_round
      case rel => exact .inr (.inr (.inl rfl))
      case measure => simp [intOf]
    · go_wp2_with fail
      refine (P2.out _).mono ?_
      rintro e w2 ⟨rfl, rfl⟩
      go_wp2_with fail
      refine (Q2.out _).mono ?_
      rintro e w2 ⟨rfl, rfl⟩
      go_wp2_with fail
      go_round
      case rel => exact .inr (.inr (.inr (.inl rfl)))
      case measure => simp [intOf]
    · go_wp2_with fail
      refine (P4.out _).mono ?_
      rintro e w2 ⟨rfl, rfl⟩
      go_wp2_with fail
      refine (Q4.out _).mono ?_
      rintro e w2 ⟨rfl, rfl⟩
      go_wp2_with fail
      go_round
      case rel => exact .inr (.inr (.inr (.inr (.inl rfl))))
      case measure => simp [intOf]
    · go_wp2_with fail
      refine (P8.out _).mono ?_
      rintro e w2 ⟨rfl, rfl⟩
      go_wp2_with fail
      refine (Q8.out _).mono ?_
      rintro e w2 ⟨rfl, rfl⟩
      go_wp2_with fail
      go_round
      case rel => exact .inr (.inr (.inr (.inr (.inr rfl))))
      case measure => simp [intOf]
    · go_wp2_with fail
      go_ret
      refine ⟨rfl, ?_⟩
      go_light
      (repeat (first | exact Below.refl _ _ | refine below_drewN ?_ _ | (refine Below.alloc ?_ (by first | omega | (simp; done) | (simp; omega)) _) | refine Below.drew ?_ | (refine Below.setCell ?_ (by first | omega | (simp; done) | (simp; omega)) _) | (refine Below.trans ?_ (hb1.mono (by first | omega | (simp; done) | (simp; omega))))))
end Go.Proofs.Ytelgmffmekfndaa
