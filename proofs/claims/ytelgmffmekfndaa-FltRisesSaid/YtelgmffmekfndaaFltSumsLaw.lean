/- The walk of the law FltSums: the law returns true at every two words and changes nothing that existed. Condition: the words fit 64 bits. -/
import Derived.Test.YtelgmffmekfndaaFltProgB
set_option linter.unusedVariables false
namespace Go.Proofs.Ytelgmffmekfndaa
open Go.ChangeShapes Go.WideShapes Go.ChangeAt Go.RowKit
open Fl (numOf nanW exf fr)

theorem xor_top (b : Int) (b0 : 0 ≤ b) (b1 : b < 18446744073709551616) : ∃ c : Int, bits .xor .u64 b 9223372036854775808 = c ∧ 0 ≤ c ∧ c < 18446744073709551616 ∧ c.toNat = b.toNat ^^^ 2 ^ 63 := by
  have := u64_xor b 9223372036854775808 b0 b1 (by omega) (by omega)
  have hl : b.toNat ^^^ 2 ^ 63 < 2 ^ 64 := Nat.xor_lt_two_pow (by omega) (by decide)
  refine ⟨_, this, by omega, ?_, ?_⟩
  · rw [show (9223372036854775808 : Int).toNat = 2 ^ 63 by rfl]; omega
  · rw [show (9223372036854775808 : Int).toNat = 2 ^ 63 by rfl, Int.toNat_natCast]

set_option maxHeartbeats 1000000 in
theorem lawSums (a b : Int) (a0 : 0 ≤ a) (a1 : a < 18446744073709551616) (b0 : 0 ≤ b) (b1 : b < 18446744073709551616) (w : World) :
    Calls Try.prog 3 #[.int .u64 a, .int .u64 b] w fun e w' => e = .returned (.bool true) ∧ Below w.heap.size w w' := by
  obtain ⟨c, hc, c0, c1, hcn⟩ := xor_top b b0 b1
  have hsub : Ieee.double.sub a.toNat b.toNat = Ieee.double.add a.toNat c.toNat := by rw [hcn]; exact Fl.sub_add _ _ (by omega)
  have hcom := Fl.add_comm b.toNat a.toNat
  have H1 := Lib.hid hsub
  have H2 := Lib.hid hcom
  clear hsub hcom hcn
  generalize hr1 : numOf (Ieee.double.add a.toNat b.toNat) = R1
  generalize hr2 : numOf (Ieee.double.add a.toNat c.toNat) = R2
  have K1 := Lib.hid hr1
  have K2 := Lib.hid hr2
  clear hr1 hr2
  go_enter Try.func3, Try.ntmps3
  go_wp2_with fail
  refine (fit_any _).mono ?_
  rintro e w1 ⟨rfl, hb1⟩
  go_wp2_with fail
  refine (add_any a b a0 a1 b0 b1 _).mono ?_
  rw [K1.out]
  rintro e w2 ⟨rfl, hb2⟩
  go_wp2_with fail
  refine (refadd_any a b a0 a1 b0 b1 _).mono ?_
  rw [K1.out]
  rintro e w3 ⟨rfl, hb3⟩
  go_wp2_with fail
  refine (sub_any a b a0 a1 b0 b1 _).mono ?_
  rw [H1.out, K2.out]
  rintro e w4 ⟨rfl, hb4⟩
  go_wp2_with fail
  refine (refadd_any a c a0 a1 c0 c1 _).mono ?_
  rw [K2.out]
  rintro e w5 ⟨rfl, hb5⟩
  go_wp2_with fail
  refine (add_any b a b0 b1 a0 a1 _).mono ?_
  rw [H2.out, K1.out]
  rintro e w6 ⟨rfl, hb6⟩
  go_wp2_with fail
  refine (add_any a b a0 a1 b0 b1 _).mono ?_
  rw [K1.out]
  rintro e w7 ⟨rfl, hb7⟩
  go_wp2_with fail
  go_ret
  refine ⟨rfl, ?_⟩
  have s1 := hb1.size
  have s2 := hb2.size
  have s3 := hb3.size
  have s4 := hb4.size
  have s5 := hb5.size
  have s6 := hb6.size
  have s7 := hb7.size
  exact ((((((hb1.trans (hb2.mono (by omega))).trans (hb3.mono (by omega))).trans (hb4.mono (by omega))).trans (hb5.mono (by omega))).trans (hb6.mono (by omega))).trans (hb7.mono (by omega)))
end Go.Proofs.Ytelgmffmekfndaa
