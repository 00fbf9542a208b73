/- The walk of the law FltInts: the law returns true at every whole number and every word and changes nothing that existed. Conditions: the number fits int64, the word 64 bits. -/
import Derived.Test.YtelgmffmekfndaaFltInt
import Derived.Test.YtelgmffmekfndaaFltIntR
set_option linter.unusedVariables false
namespace Go.Proofs.Ytelgmffmekfndaa
open Go.ChangeShapes Go.WideShapes Go.ChangeAt Go.RowKit
open Fl (whole word rung)

theorem small_back (n : Int) (n0 : -9007199254740992 < n) (n1 : n < 9007199254740992) : whole (word (decide (n < 0)) (rung n.natAbs 0)) = n := by
  rw [Fl.whole_small _ _ (by omega)]
  by_cases h : n < 0
  · simp [h]; omega
  · simp [h]; omega

theorem word_bd (s : Bool) (m : Nat) (e : Int) : (word s (rung m e) : Int) < 18446744073709551616 := by
  have h := Fl.word_lt s (rung m e) (by have := Fl.rung_le m e; omega)
  omega

set_option maxHeartbeats 1000000 in
theorem lawInts (n a : Int) (n0 : -9223372036854775808 ≤ n) (n1 : n ≤ 9223372036854775807) (a0 : 0 ≤ a) (a1 : a < 18446744073709551616) (w : World) :
    Calls Try.prog 6 #[.int .i64 n, .int .u64 a] w fun e w' => e = .returned (.bool true) ∧ Below w.heap.size w w' := by
  have hx := fromint_any n
  have hy := reffrom_any n n0 n1
  have xb := word_bd (decide (n < 0)) n.natAbs 0
  have hs := small_back n
  have ht := toint_any (word (decide (n < 0)) (rung n.natAbs 0)) (by omega) xb
  rw [Int.toNat_natCast] at ht
  generalize hX : ((word (decide (n < 0)) (rung n.natAbs 0) : Nat) : Int) = X at *
  generalize hY : whole (word (decide (n < 0)) (rung n.natAbs 0)) = Y at *
  have ka := toint_any a a0 a1
  have kr := reftoint_any a a0 a1
  generalize hZ : whole a.toNat = Z at *
  clear hX hY hZ
  have HX := Lib.hid hx
  have HY := Lib.hid hy
  have HT := Lib.hid ht
  have HS := Lib.hid hs
  have KA := Lib.hid ka
  have KR := Lib.hid kr
  clear hx hy hs ht ka kr
  go_enter Try.func6, Try.ntmps6
  go_wp2_with fail
  refine (fit_any _).mono ?_
  rintro e w1 ⟨rfl, hb1⟩
  go_wp2_with fail
  refine (HX.out _).mono ?_
  rintro e w2 ⟨rfl, rfl⟩
  go_wp2_with fail
  refine (HY.out _).mono ?_
  rintro e w2 ⟨rfl, rfl⟩
  go_wp2_with fail
  refine (KA.out _).mono ?_
  rintro e w2 ⟨rfl, rfl⟩
  go_wp2_with fail
  refine (KR.out _).mono ?_
  rintro e w2 ⟨rfl, hb2⟩
  by_cases s1 : -9007199254740992 < n
  · by_cases s2 : n < 9007199254740992
    · go_wp2_with fail
      refine (HT.out _).mono ?_
      rw [HS.out s1 s2]
      rintro e w3 ⟨rfl, rfl⟩
      go_wp2_with fail
      go_ret
      exact ⟨rfl, hb1.trans (hb2.mono (by have := hb1.size; omega))⟩
    · go_wp2_with fail
      go_ret
      exact ⟨rfl, hb1.trans (hb2.mono (by have := hb1.size; omega))⟩
  · go_wp2_with fail
    go_ret
    exact ⟨rfl, hb1.trans (hb2.mono (by have := hb1.size; omega))⟩
end Go.Proofs.Ytelgmffmekfndaa
