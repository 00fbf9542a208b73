/- The contract of the reference's Sqrt: it answers the root that the standard gives, of whatever word. Condition: the word fits 64 bits. The contract of the reference's Sqrt: it answers the root that the standard gives, of whatever word. Condition: the word fits 64 bits. -/
import Derived.Test.YtelgmffmekfndaaFltAddsG
import Derived.Test.YtelgmffmekfndaaFltLawsG
set_option linter.unusedVariables false
namespace Go.Proofs.Ytelgmffmekfndaa
open Go.ChangeShapes Go.WideShapes Go.ChangeAt Go.RowKit
open Fl (sg exf fr kindOf mant expo ups word rung numOf RootInv two twor IsRoot)

/-- after j digits: the whole root so far, and what is left -/
def RootRel (M : Nat) (s4 s5 s6 : Value) : Prop := ∃ (root rest i : Int) (j : Nat), s4 = .int .u64 root ∧ s5 = .int .u64 rest ∧ s6 = .int .i64 i ∧ i = 26 - j ∧ j ≤ 58 ∧ 0 ≤ root ∧ root < 288230376151711744 ∧ 0 ≤ rest ∧ rest ≤ 2 * root ∧ RootInv M j root.toNat rest.toNat

theorem or_low (q t : Int) (h0 : 0 ≤ q) (h1 : q < 4611686018427387904) (t0 : 0 ≤ t) (t1 : t < 4) : bits .or .u64 (q * 4) t = q * 4 + t := by
  have e := u64_or (q * 4) t (by omega) (by omega) (by omega) (by omega)
  rw [e, nat_join 2 _ _ (by omega) (by omega)]
  omega
theorem or_two (q : Int) (h0 : 0 ≤ q) (h1 : q < 9223372036854775808) : bits .or .u64 (q * 2) 1 = q * 2 + 1 := by
  have e := u64_or (q * 2) 1 (by omega) (by omega) (by omega) (by omega)
  rw [e, nat_join 1 _ _ (by omega) (by decide)]
  first | done | omega
theorem pair_form (m i : Int) (j : Nat) (m0 : 0 ≤ m) (m1 : m < 18446744073709551616) (hj : j ≤ 26) (hi : i = 26 - j) : bits .and .u64 (m / 2 ^ (2 * i).toNat) 3 = (two m.toNat j : Int) := by
  have e1 : (2 * i).toNat = 2 * (26 - j) := by omega
  have e2 : m / 2 ^ (2 * i).toNat = ((m.toNat / 4 ^ (26 - j) : Nat) : Int) := by
    rw [e1, pow_cast, Int.natCast_ediv, Int.toNat_of_nonneg m0, Nat.pow_mul]
  have hle : m.toNat / 4 ^ (26 - j) ≤ m.toNat := Nat.div_le_self _ _
  unfold two
  rw [e2, if_pos hj]
  generalize m.toNat / 4 ^ (26 - j) = X at *
  have := mask_u64 (X : Int) (by omega) (by omega) 2 (by omega)
  rw [show ((2 ^ 2 - 1 : Nat) : Int) = 3 by rfl, Int.toNat_natCast] at this
  exact this

set_option maxRecDepth 100000 in
set_option maxHeartbeats 8000000 in
theorem sqrt_even (x : Int) (ma ea H : Int) (V : Nat) (hx : OfIs x 102 false ma ea) (a0 : (ma == 0) = false) (a1 : 4503599627370496 ≤ ma) (a2 : ma < 9007199254740992) (u0 : -1126 ≤ ea) (u1 : ea ≤ 971) (he : (ea.tmod 2 != 0) = false)
    (hH : ea.tdiv 2 = H) (h0 : -600 ≤ H) (h1 : H ≤ 600) (hpost : ∀ R : Nat, IsRoot (ma.toNat * 2 ^ 62) R → V = word false (rung (twor (ma.toNat * 2 ^ 62) R) (H - 32))) (w : World) :
    Calls Try.prog 30 #[.int .u64 x] w fun e w' => e = .returned (.int .u64 V) ∧ Below w.heap.size w w' := by
  have HP := Lib.hid hpost
  clear hpost
  go_enter Try.func30, Try.ntmps30
  go_wp2_with fail
  refine (hx _).mono ?_
  rintro e w1 ⟨rfl, hb1⟩
  obtain ⟨hc1, hf1⟩ := bcell hb1
  have hz1 := hb1.size
  go_wp2_with fail
  go_loop [4, 5, 6] (fun s4 s5 s6 => RootRel ma.toNat s4 s5 s6) (fun _ _ s6 => (intOf s6 + 32).toNat)
  case atStart => exact ⟨0, 0, 26, 0, rfl, rfl, rfl, by omega, by omega, by omega, by omega, by omega, by omega, by unfold RootInv; rw [Fl.pj_zero _ (by omega)]; decide⟩
  case round =>
    obtain ⟨root, rest, i, j, rfl, rfl, rfl, hi, j0, r0, r1, s0, s1, HI'⟩ := hrel
    have HI := Lib.hid (And.intro hi HI')
    have l1 : -32 ≤ i := by omega
    have l2 : i ≤ 26 := by omega
    have hbit := or_two root r0 (by omega)
    have htry := or_low root 1 r0 (by omega) (by omega) (by omega)
    by_cases hj : j < 58
    · have t3 := Fl.two_le ma.toNat j
      have nlt := HI'.lt (by omega)
      have g1 : -31 ≤ i := by omega
      by_cases h26 : j ≤ 26
      · have hT := pair_form ma i j (by omega) (by omega) h26 hi
        obtain ⟨T, hTT⟩ : ∃ T : Int, T = two ma.toNat j := ⟨_, rfl⟩
        rw [← hTT] at hT
        have hor := or_low rest T s0 (by omega) (by omega) (by omega)
        have g2 : 0 ≤ i := by omega
        have tb0 : 0 ≤ T := by omega
        have tb1 : T ≤ 3 := by omega
        by_cases c : root * 4 + 1 ≤ rest * 4 + T
        · have st := HI'.yes (by omega)
          have nl := st.lt (by omega)
          have HS := Lib.hid (And.intro hTT st)
          have nl2 : (root * 2 + 1).toNat < 288230376151711744 := by
            have : 2 ^ (j + 1) ≤ 2 ^ 58 := Nat.pow_le_pow_right (by omega) (by omega)
            omega
          clear hTT hi HI' t3 st nl nlt hj h26
          go_wp2_with fail
          go_round
          case rel =>
            obtain ⟨e1, e2⟩ := HS.out
            have e4 := HI.out.1
            have a1 : (root * 2 + 1).toNat = root.toNat * 2 + 1 := by omega
            have a2 : (rest * 4 + T - (root * 4 + 1)).toNat = rest.toNat * 4 + two ma.toNat j - (root.toNat * 4 + 1) := by omega
            exact ⟨root * 2 + 1, rest * 4 + T - (root * 4 + 1), i - 1, j + 1, rfl, rfl, rfl, by omega, by omega, by omega, by omega, by omega, by omega, by rw [a1, a2]; exact e2⟩
          case measure => simp [intOf]; omega
        · have st := HI'.no (by omega)
          have nl := st.lt (by omega)
          have HS := Lib.hid (And.intro hTT st)
          have nl2 : (root * 2).toNat < 288230376151711744 := by
            have : 2 ^ (j + 1) ≤ 2 ^ 58 := Nat.pow_le_pow_right (by omega) (by omega)
            omega
          clear hTT hi HI' t3 st nl nlt hj h26
          go_wp2_with fail
          go_round
          case rel =>
            obtain ⟨e1, e2⟩ := HS.out
            have e4 := HI.out.1
            have a1 : (root * 2).toNat = root.toNat * 2 := by omega
            have a2 : (rest * 4 + T).toNat = rest.toNat * 4 + two ma.toNat j := by omega
            exact ⟨root * 2, rest * 4 + T, i - 1, j + 1, rfl, rfl, rfl, by omega, by omega, by omega, by omega, by omega, by omega, by rw [a1, a2]; exact e2⟩
          case measure => simp [intOf]; omega
      · have hT : two ma.toNat j = 0 := by unfold two; rw [if_neg h26]
        have hor : bits .or .u64 (rest * 4) 0 = rest * 4 := by have := or_low rest 0 s0 (by omega) (by omega) (by omega); rw [this]; omega
        have g2 : i < 0 := by omega
        by_cases c : root * 4 + 1 ≤ rest * 4
        · have st := HI'.yes (by omega)
          have nl := st.lt (by omega)
          have HS := Lib.hid (And.intro hT st)
          have nl2 : (root * 2 + 1).toNat < 288230376151711744 := by
            have : 2 ^ (j + 1) ≤ 2 ^ 58 := Nat.pow_le_pow_right (by omega) (by omega)
            omega
          clear hT hi HI' t3 st nl nlt hj h26
          go_wp2_with fail
          go_round
          case rel =>
            obtain ⟨e1, e2⟩ := HS.out
            have e4 := HI.out.1
            have a1 : (root * 2 + 1).toNat = root.toNat * 2 + 1 := by omega
            have a2 : (rest * 4 - (root * 4 + 1)).toNat = rest.toNat * 4 + two ma.toNat j - (root.toNat * 4 + 1) := by omega
            exact ⟨root * 2 + 1, rest * 4 - (root * 4 + 1), i - 1, j + 1, rfl, rfl, rfl, by omega, by omega, by omega, by omega, by omega, by omega, by rw [a1, a2]; exact e2⟩
          case measure => simp [intOf]; omega
        · have st := HI'.no (by omega)
          have nl := st.lt (by omega)
          have HS := Lib.hid (And.intro hT st)
          have nl2 : (root * 2).toNat < 288230376151711744 := by
            have : 2 ^ (j + 1) ≤ 2 ^ 58 := Nat.pow_le_pow_right (by omega) (by omega)
            omega
          clear hT hi HI' t3 st nl nlt hj h26
          go_wp2_with fail
          go_round
          case rel =>
            obtain ⟨e1, e2⟩ := HS.out
            have e4 := HI.out.1
            have a1 : (root * 2).toNat = root.toNat * 2 := by omega
            have a2 : (rest * 4).toNat = rest.toNat * 4 + two ma.toNat j := by omega
            exact ⟨root * 2, rest * 4, i - 1, j + 1, rfl, rfl, rfl, by omega, by omega, by omega, by omega, by omega, by omega, by rw [a1, a2]; exact e2⟩
          case measure => simp [intOf]; omega
    · obtain rfl : j = 58 := by omega
      obtain rfl : i = -32 := by omega
      obtain ⟨d1, d2⟩ := HI'.done
      have HD := Lib.hid (And.intro d1 d2)
      clear hi HI' d1 d2 hj
      by_cases hr : rest = 0
      · subst hr
        go_wp2_with fail
        refine (round_any _ _ _ (by omega) (by omega) (by omega) (by omega) _).mono ?_
        rintro e w3 ⟨rfl, rfl⟩
        go_wp2_with fail
        go_ret
        refine ⟨ret_int ?_, ?_⟩
        · rw [HP.out _ HD.out.1, HD.out.2, if_pos (by rfl), show (root * 2).toNat = root.toNat * 2 by omega]
        · go_light
          (repeat (first | exact Below.refl _ _ | exact hb1 | refine below_drewN ?_ _ | (refine Below.alloc ?_ (by first | omega | (simp; done) | (simp; omega)) _) | refine Below.drew ?_ | (refine Below.setCell ?_ (by first | omega | (simp; done) | (simp; omega)) _) | (refine Below.trans ?_ (hb1.mono (by first | omega | (simp; done) | (simp; omega))))))
      · have hr1 : (rest != 0) = true := by simp; omega
        go_wp2_with fail
        refine (round_any _ _ _ (by omega) (by omega) (by omega) (by omega) _).mono ?_
        rintro e w3 ⟨rfl, rfl⟩
        go_wp2_with fail
        go_ret
        refine ⟨ret_int ?_, ?_⟩
        · rw [HP.out _ HD.out.1, HD.out.2, if_neg (by omega), show (root * 2 + 1).toNat = root.toNat * 2 + 1 by omega]
        · go_light
          (repeat (first | exact Below.refl _ _ | exact hb1 | refine below_drewN ?_ _ | (refine Below.alloc ?_ (by first | omega | (simp; done) | (simp; omega)) _) | refine Below.drew ?_ | (refine Below.setCell ?_ (by first | omega | (simp; done) | (simp; omega)) _) | (refine Below.trans ?_ (hb1.mono (by first | omega | (simp; done) | (simp; omega))))))

set_option maxRecDepth 100000 in
set_option maxHeartbeats 8000000 in
theorem sqrt_odd (x : Int) (ma ea H : Int) (V : Nat) (hx : OfIs x 102 false ma ea) (a0 : (ma == 0) = false) (a1 : 4503599627370496 ≤ ma) (a2 : ma < 9007199254740992) (u0 : -1126 ≤ ea) (u1 : ea ≤ 971) (he : (ea.tmod 2 != 0) = true)
    (hH : (ea - 1).tdiv 2 = H) (h0 : -600 ≤ H) (h1 : H ≤ 600) (hpost : ∀ R : Nat, IsRoot ((ma * 2).toNat * 2 ^ 62) R → V = word false (rung (twor ((ma * 2).toNat * 2 ^ 62) R) (H - 32))) (w : World) :
    Calls Try.prog 30 #[.int .u64 x] w fun e w' => e = .returned (.int .u64 V) ∧ Below w.heap.size w w' := by
  have HP := Lib.hid hpost
  clear hpost
  go_enter Try.func30, Try.ntmps30
  go_wp2_with fail
  refine (hx _).mono ?_
  rintro e w1 ⟨rfl, hb1⟩
  obtain ⟨hc1, hf1⟩ := bcell hb1
  have hz1 := hb1.size
  go_wp2_with fail
  go_loop [4, 5, 6] (fun s4 s5 s6 => RootRel (ma * 2).toNat s4 s5 s6) (fun _ _ s6 => (intOf s6 + 32).toNat)
  case atStart => exact ⟨0, 0, 26, 0, rfl, rfl, rfl, by omega, by omega, by omega, by omega, by omega, by omega, by unfold RootInv; rw [Fl.pj_zero _ (by omega)]; decide⟩
  case round =>
    obtain ⟨root, rest, i, j, rfl, rfl, rfl, hi, j0, r0, r1, s0, s1, HI'⟩ := hrel
    have HI := Lib.hid (And.intro hi HI')
    have l1 : -32 ≤ i := by omega
    have l2 : i ≤ 26 := by omega
    have hbit := or_two root r0 (by omega)
    have htry := or_low root 1 r0 (by omega) (by omega) (by omega)
    by_cases hj : j < 58
    · have t3 := Fl.two_le (ma * 2).toNat j
      have nlt := HI'.lt (by omega)
      have g1 : -31 ≤ i := by omega
      by_cases h26 : j ≤ 26
      · have hT := pair_form (ma * 2) i j (by omega) (by omega) h26 hi
        obtain ⟨T, hTT⟩ : ∃ T : Int, T = two (ma * 2).toNat j := ⟨_, rfl⟩
        rw [← hTT] at hT
        have hor := or_low rest T s0 (by omega) (by omega) (by omega)
        have g2 : 0 ≤ i := by omega
        have tb0 : 0 ≤ T := by omega
        have tb1 : T ≤ 3 := by omega
        by_cases c : root * 4 + 1 ≤ rest * 4 + T
        · have st := HI'.yes (by omega)
          have nl := st.lt (by omega)
          have HS := Lib.hid (And.intro hTT st)
          have nl2 : (root * 2 + 1).toNat < 288230376151711744 := by
            have : 2 ^ (j + 1) ≤ 2 ^ 58 := Nat.pow_le_pow_right (by omega) (by omega)
            omega
          clear hTT hi HI' t3 st nl nlt hj h26
          go_wp2_with fail
          go_round
          case rel =>
            obtain ⟨e1, e2⟩ := HS.out
            have e4 := HI.out.1
            have a1 : (root * 2 + 1).toNat = root.toNat * 2 + 1 := by omega
            have a2 : (rest * 4 + T - (root * 4 + 1)).toNat = rest.toNat * 4 + two (ma * 2).toNat j - (root.toNat * 4 + 1) := by omega
            exact ⟨root * 2 + 1, rest * 4 + T - (root * 4 + 1), i - 1, j + 1, rfl, rfl, rfl, by omega, by omega, by omega, by omega, by omega, by omega, by rw [a1, a2]; exact e2⟩
          case measure => simp [intOf]; omega
        · have st := HI'.no (by omega)
          have nl := st.lt (by omega)
          have HS := Lib.hid (And.intro hTT st)
          have nl2 : (root * 2).toNat < 288230376151711744 := by
            have : 2 ^ (j + 1) ≤ 2 ^ 58 := Nat.pow_le_pow_right (by omega) (by omega)
            omega
          clear hTT hi HI' t3 st nl nlt hj h26
          go_wp2_with fail
          go_round
          case rel =>
            obtain ⟨e1, e2⟩ := HS.out
            have e4 := HI.out.1
            have a1 : (root * 2).toNat = root.toNat * 2 := by omega
            have a2 : (rest * 4 + T).toNat = rest.toNat * 4 + two (ma * 2).toNat j := by omega
            exact ⟨root * 2, rest * 4 + T, i - 1, j + 1, rfl, rfl, rfl, by omega, by omega, by omega, by omega, by omega, by omega, by rw [a1, a2]; exact e2⟩
          case measure => simp [intOf]; omega
      · have hT : two (ma * 2).toNat j = 0 := by unfold two; rw [if_neg h26]
        have hor : bits .or .u64 (rest * 4) 0 = rest * 4 := by have := or_low rest 0 s0 (by omega) (by omega) (by omega); rw [this]; omega
        have g2 : i < 0 := by omega
        by_cases c : root * 4 + 1 ≤ rest * 4
        · have st := HI'.yes (by omega)
          have nl := st.lt (by omega)
          have HS := Lib.hid (And.intro hT st)
          have nl2 : (root * 2 + 1).toNat < 288230376151711744 := by
            have : 2 ^ (j + 1) ≤ 2 ^ 58 := Nat.pow_le_pow_right (by omega) (by omega)
            omega
          clear hT hi HI' t3 st nl nlt hj h26
          go_wp2_with fail
          go_round
          case rel =>
            obtain ⟨e1, e2⟩ := HS.out
            have e4 := HI.out.1
            have a1 : (root * 2 + 1).toNat = root.toNat * 2 + 1 := by omega
            have a2 : (rest * 4 - (root * 4 + 1)).toNat = rest.toNat * 4 + two (ma * 2).toNat j - (root.toNat * 4 + 1) := by omega
            exact ⟨root * 2 + 1, rest * 4 - (root * 4 + 1), i - 1, j + 1, rfl, rfl, rfl, by omega, by omega, by omega, by omega, by omega, by omega, by rw [a1, a2]; exact e2⟩
          case measure => simp [intOf]; omega
        · have st := HI'.no (by omega)
          have nl := st.lt (by omega)
          have HS := Lib.hid (And.intro hT st)
          have nl2 : (root * 2).toNat < 288230376151711744 := by
            have : 2 ^ (j + 1) ≤ 2 ^ 58 := Nat.pow_le_pow_right (by omega) (by omega)
            omega
          clear hT hi HI' t3 st nl nlt hj h26
          go_wp2_with fail
          go_round
          case rel =>
            obtain ⟨e1, e2⟩ := HS.out
            have e4 := HI.out.1
            have a1 : (root * 2).toNat = root.toNat * 2 := by omega
            have a2 : (rest * 4).toNat = rest.toNat * 4 + two (ma * 2).toNat j := by omega
            exact ⟨root * 2, rest * 4, i - 1, j + 1, rfl, rfl, rfl, by omega, by omega, by omega, by omega, by omega, by omega, by rw [a1, a2]; exact e2⟩
          case measure => simp [intOf]; omega
    · obtain rfl : j = 58 := by omega
      obtain rfl : i = -32 := by omega
      obtain ⟨d1, d2⟩ := HI'.done
      have HD := Lib.hid (And.intro d1 d2)
      clear hi HI' d1 d2 hj
      by_cases hr : rest = 0
      · subst hr
        go_wp2_with fail
        refine (round_any _ _ _ (by omega) (by omega) (by omega) (by omega) _).mono ?_
        rintro e w3 ⟨rfl, rfl⟩
        go_wp2_with fail
        go_ret
        refine ⟨ret_int ?_, ?_⟩
        · rw [HP.out _ HD.out.1, HD.out.2, if_pos (by rfl), show (root * 2).toNat = root.toNat * 2 by omega]
        · go_light
          (repeat (first | exact Below.refl _ _ | exact hb1 | refine below_drewN ?_ _ | (refine Below.alloc ?_ (by first | omega | (simp; done) | (simp; omega)) _) | refine Below.drew ?_ | (refine Below.setCell ?_ (by first | omega | (simp; done) | (simp; omega)) _) | (refine Below.trans ?_ (hb1.mono (by first | omega | (simp; done) | (simp; omega))))))
      · have hr1 : (rest != 0) = true := by simp; omega
        go_wp2_with fail
        refine (round_any _ _ _ (by omega) (by omega) (by omega) (by omega) _).mono ?_
        rintro e w3 ⟨rfl, rfl⟩
        go_wp2_with fail
        go_ret
        refine ⟨ret_int ?_, ?_⟩
        · rw [HP.out _ HD.out.1, HD.out.2, if_neg (by omega), show (root * 2 + 1).toNat = root.toNat * 2 + 1 by omega]
        · go_light
          (repeat (first | exact Below.refl _ _ | exact hb1 | refine below_drewN ?_ _ | (refine Below.alloc ?_ (by first | omega | (simp; done) | (simp; omega)) _) | refine Below.drew ?_ | (refine Below.setCell ?_ (by first | omega | (simp; done) | (simp; omega)) _) | (refine Below.trans ?_ (hb1.mono (by first | omega | (simp; done) | (simp; omega))))))

end Go.Proofs.Ytelgmffmekfndaa
set_option linter.unusedVariables false
namespace Go.Proofs.Ytelgmffmekfndaa
open Go.ChangeShapes Go.WideShapes Go.ChangeAt Go.RowKit
open Fl (sg exf fr kindOf mant expo ups word rung numOf RootInv two twor IsRoot)

theorem half_even (e : Int) (h : e % 2 = 0) : e.tmod 2 = 0 ∧ e.tdiv 2 = e / 2 := by
  obtain ⟨k, rfl⟩ : ∃ k, e = 2 * k := ⟨e / 2, by omega⟩
  refine ⟨Int.mul_tmod_right 2 k, ?_⟩
  rw [Int.mul_tdiv_cancel_left k (by decide)]
  omega

theorem half_odd (e : Int) (h : ¬ e % 2 = 0) : e.tmod 2 ≠ 0 ∧ (e - 1).tdiv 2 = (e - 1) / 2 := by
  refine ⟨fun t => ?_, (half_even _ (by omega)).2⟩
  have q := Int.mul_tdiv_add_tmod e 2
  rw [t] at q
  omega

set_option maxRecDepth 100000 in
theorem sqrt_z (x : Int) (sa : Bool) (ma ea : Int) (hx : OfIs x 102 sa ma ea) (z : (ma == 0) = true) (w : World) :
    Calls Try.prog 30 #[.int .u64 x] w fun e w' => e = .returned (.int .u64 x) ∧ Below w.heap.size w w' := by
  go_enter Try.func30, Try.ntmps30
  go_wp2_with fail
  refine (hx _).mono ?_
  rintro e w1 ⟨rfl, hb1⟩
  obtain ⟨hc1, hf1⟩ := bcell hb1
  have hz1 := hb1.size
  go_wp2_with fail
  go_ret
  refine ⟨rfl, ?_⟩
  go_light
  (repeat (first | exact Below.refl _ _ | exact hb1 | refine below_drewN ?_ _ | (refine Below.alloc ?_ (by first | omega | (simp; done) | (simp; omega)) _) | refine Below.drew ?_ | (refine Below.setCell ?_ (by first | omega | (simp; done) | (simp; omega)) _) | (refine Below.trans ?_ (hb1.mono (by first | omega | (simp; done) | (simp; omega))))))

set_option maxRecDepth 100000 in
theorem sqrt_n (x : Int) (sa : Bool) (ma ea : Int) (hx : OfIs x 110 sa ma ea) (w : World) :
    Calls Try.prog 30 #[.int .u64 x] w fun e w' => e = .returned (.int .u64 9221120237041090560) ∧ Below w.heap.size w w' := by
  go_enter Try.func30, Try.ntmps30
  go_wp2_with fail
  refine (hx _).mono ?_
  rintro e w1 ⟨rfl, hb1⟩
  obtain ⟨hc1, hf1⟩ := bcell hb1
  have hz1 := hb1.size
  go_wp2_with fail
  go_ret
  refine ⟨rfl, ?_⟩
  go_light
  (repeat (first | exact Below.refl _ _ | exact hb1 | refine below_drewN ?_ _ | (refine Below.alloc ?_ (by first | omega | (simp; done) | (simp; omega)) _) | refine Below.drew ?_ | (refine Below.setCell ?_ (by first | omega | (simp; done) | (simp; omega)) _) | (refine Below.trans ?_ (hb1.mono (by first | omega | (simp; done) | (simp; omega))))))

set_option maxRecDepth 100000 in
theorem sqrt_i (x : Int) (sa : Bool) (ma ea : Int) (hx : OfIs x 105 false ma ea) (w : World) :
    Calls Try.prog 30 #[.int .u64 x] w fun e w' => e = .returned (.int .u64 x) ∧ Below w.heap.size w w' := by
  go_enter Try.func30, Try.ntmps30
  go_wp2_with fail
  refine (hx _).mono ?_
  rintro e w1 ⟨rfl, hb1⟩
  obtain ⟨hc1, hf1⟩ := bcell hb1
  have hz1 := hb1.size
  go_wp2_with fail
  go_ret
  refine ⟨rfl, ?_⟩
  go_light
  (repeat (first | exact Below.refl _ _ | exact hb1 | refine below_drewN ?_ _ | (refine Below.alloc ?_ (by first | omega | (simp; done) | (simp; omega)) _) | refine Below.drew ?_ | (refine Below.setCell ?_ (by first | omega | (simp; done) | (simp; omega)) _) | (refine Below.trans ?_ (hb1.mono (by first | omega | (simp; done) | (simp; omega))))))

set_option maxRecDepth 100000 in
theorem sqrt_in (x : Int) (sa : Bool) (ma ea : Int) (hx : OfIs x 105 true ma ea) (w : World) :
    Calls Try.prog 30 #[.int .u64 x] w fun e w' => e = .returned (.int .u64 9221120237041090560) ∧ Below w.heap.size w w' := by
  go_enter Try.func30, Try.ntmps30
  go_wp2_with fail
  refine (hx _).mono ?_
  rintro e w1 ⟨rfl, hb1⟩
  obtain ⟨hc1, hf1⟩ := bcell hb1
  have hz1 := hb1.size
  go_wp2_with fail
  go_ret
  refine ⟨rfl, ?_⟩
  go_light
  (repeat (first | exact Below.refl _ _ | exact hb1 | refine below_drewN ?_ _ | (refine Below.alloc ?_ (by first | omega | (simp; done) | (simp; omega)) _) | refine Below.drew ?_ | (refine Below.setCell ?_ (by first | omega | (simp; done) | (simp; omega)) _) | (refine Below.trans ?_ (hb1.mono (by first | omega | (simp; done) | (simp; omega))))))

set_option maxRecDepth 100000 in
theorem sqrt_neg (x : Int) (sa : Bool) (ma ea : Int) (hx : OfIs x 102 true ma ea) (z : (ma == 0) = false) (w : World) :
    Calls Try.prog 30 #[.int .u64 x] w fun e w' => e = .returned (.int .u64 9221120237041090560) ∧ Below w.heap.size w w' := by
  go_enter Try.func30, Try.ntmps30
  go_wp2_with fail
  refine (hx _).mono ?_
  rintro e w1 ⟨rfl, hb1⟩
  obtain ⟨hc1, hf1⟩ := bcell hb1
  have hz1 := hb1.size
  go_wp2_with fail
  go_ret
  refine ⟨rfl, ?_⟩
  go_light
  (repeat (first | exact Below.refl _ _ | exact hb1 | refine below_drewN ?_ _ | (refine Below.alloc ?_ (by first | omega | (simp; done) | (simp; omega)) _) | refine Below.drew ?_ | (refine Below.setCell ?_ (by first | omega | (simp; done) | (simp; omega)) _) | (refine Below.trans ?_ (hb1.mono (by first | omega | (simp; done) | (simp; omega))))))

theorem refsqrt_any (x : Int) (x0 : 0 ≤ x) (x1 : x < 18446744073709551616) (w : World) :
    Calls Try.prog 30 #[.int .u64 x] w fun e w' => e = .returned (.int .u64 (numOf (Ieee.double.sqrt x.toNat))) ∧ Below w.heap.size w w' := by
  have hx : x.toNat < 2 ^ 64 := by omega
  have vx : ((x.toNat : Nat) : Int) = x := Int.toNat_of_nonneg x0
  by_cases kx : exf x.toNat = 2047
  · by_cases fx : fr x.toNat = 0
    · have ix := is_inf x x0 x1 kx fx
      rw [Fl.sqrt_inf _ hx kx fx]
      cases hs : sg x.toNat <;> rw [hs] at ix
      · rw [if_neg (by simp), vx]; exact sqrt_i x false _ _ ix w
      · rw [if_pos rfl]; exact sqrt_in x true _ _ ix w
    · rw [Fl.sqrt_nan _ hx kx fx]
      exact sqrt_n x _ _ _ (is_nan x x0 x1 kx fx) w
  have ix := is_fin x x0 x1 kx
  by_cases z : mant x.toNat = 0
  · rw [Fl.sqrt_zero _ hx kx z, vx]
    exact sqrt_z x _ _ _ ix (by simp; omega) w
  have zf : ((mant x.toNat : Int) == 0) = false := by simp; omega
  cases hs : sg x.toNat <;> rw [hs] at ix
  · have mx0 := Fl.mant_ge _ kx z
    have mx1 := Fl.mant_lt x.toNat
    have e0 := (Fl.expo_bd x.toNat).1
    have e1 := Fl.expo_fin _ kx
    by_cases he : expo x.toNat % 2 = 0
    · have t2 := (half_even _ he).1
      have hH := (half_even _ he).2
      refine sqrt_even x _ _ (expo x.toNat / 2) _ ix zf (by omega) (by omega) e0 e1 (by rw [t2]; rfl) hH (by omega) (by omega) ?_ w
      intro R hR
      rw [Int.toNat_natCast] at hR ⊢
      have L := Fl.sqrt_law x.toNat hx kx z hs 0 (by omega) (by omega) R (by simpa using hR)
      rw [L]
      simp
    · have t2 : ((expo x.toNat).tmod 2 != 0) = true := by rw [bne_iff_ne]; exact (half_odd _ he).1
      have hH := (half_odd _ he).2
      refine sqrt_odd x _ _ ((expo x.toNat - 1) / 2) _ ix zf (by omega) (by omega) e0 e1 t2 hH (by omega) (by omega) ?_ w
      intro R hR
      have e2 : ((mant x.toNat : Int) * 2).toNat = mant x.toNat * 2 ^ 1 := by omega
      rw [e2] at hR ⊢
      have L := Fl.sqrt_law x.toNat hx kx z hs 1 (by omega) (by omega) R hR
      exact L
  · rw [Fl.sqrt_neg _ hx kx z hs]
    exact sqrt_neg x true _ _ ix zf w
end Go.Proofs.Ytelgmffmekfndaa
