/- The walk of the law RingCut at bytes that are some: the law returns true and changes nothing that existed. Conditions: as each theorem names them. -/
import Derived.Test.YtmnhnjljapabdaaRingCut
set_option linter.unusedVariables false
namespace Go.Proofs.Ytmnhnjljapabdaa
open Go.ChangeShapes Go.WideShapes Go.ChangeAt Go.RowKit
open Go.Lib (Bytes)

theorem step_run_w {P : Program} {ops : Array Oper} {o : Oper} {a : Act} {w : World} {K : Act → World → Prop} {Q : Exit → Act → World → Prop} {E : Prop} (hw : Region.wanted o (yielded ops a.tmps) = true) (v : Value) (hr : (execOp a.eval o).run P w = .ok (.value v) w) (h : K (a.put o.dst v) w) :
    if Region.wanted o (yielded ops a.tmps) = true then Oper.wp P o a w K Q else E := by
  rw [if_pos hw]
  unfold Oper.wp
  rw [hr]
  exact h
theorem own_form' {w : World} {base k m : Nat} {v : Value} {xs : List Value} (hk : k = min m 32) (hm : 0 < m) (h : w.ownsRow base 5 1 v k xs) : ∃ g cap, v = .slice (some ⟨g, 0, none⟩) k cap ∧ base ≤ g ∧ g < w.heap.size ∧ k ≤ cap ∧ cap ≤ maxLen := by
  obtain ⟨j, rfl⟩ : ∃ j, k = j + 1 := ⟨k - 1, by omega⟩
  exact own_form h
theorem RS.push_bytes {b k g off m k0 c : Nat} {B : ByteArray} {w0 wr : World} (h : RS b 0 k (fun _ => .slice none 0 0) w0 wr) (hk : k < 8) (hk0 : k0 = min m 32) (hm0 : 0 < m) (hkc : k0 ≤ c) (hB : B.size = m) (hby : Bytes wr g off B) :
    Calls Try.prog 8 #[.pointer (some ⟨b, 0, none⟩), .slice (some ⟨g, off, none⟩) m c] wr fun e w' => e = .returned (.bool true) ∧ ∃ v, RS b 0 (k + 1) (fun i => if i = k then v else .slice none 0 0) w0 w' ∧ w'.ownsRow (b + 1) 5 1 v k0 (cellsOf B k0) := by
  refine (push_gen b g off 0 k k m k0 c (cellsOf B k0) _ wr h.c8 h.c9 (h.cq k hk) (by omega) h.fr (by omega) hk h.hb hk0 (by omega) hkc (by rw [cellsOf_length]; omega) (bytes_cells hby (by omega)) (cellsOf_one B k0)).mono ?_
  rintro e w' ⟨rfl, hp⟩
  obtain ⟨v, hv, ho⟩ := hp.val
  refine ⟨rfl, v, h.pushed hk hp hv, ?_⟩
  obtain ⟨hl, hc | ⟨g', cap, cur, h1, h2, h3⟩⟩ := ho
  · exact ⟨hl, .inl hc⟩
  · exact ⟨hl, .inr ⟨g', cap, cur, h1, by have := h.hb; omega, h3⟩⟩
theorem RS.pop_any {b j n : Nat} {f : Nat → Value} {w0 wr : World} {base k0 g2 cap2 : Nat} {xs : List Value} (h : RS b j n f w0 wr) (hj : j < 8) (hn : 0 < n) (hn8 : n ≤ 8)
    (ho : wr.ownsRow (b + 1) 5 1 (.slice (some ⟨g2, 0, none⟩) k0 cap2) k0 xs) (hg : b + 1 ≤ g2) :
    Calls Try.prog 9 #[.pointer (some ⟨b, 0, none⟩)] wr fun e w' => e = .returned (.tuple #[f j, .bool true]) ∧ RS b ((j + 1) % 8) (n - 1) (fun i => if i = j then .slice none 0 0 else f i) w0 w' ∧ w'.ownsRow (b + 1) 5 1 (.slice (some ⟨g2, 0, none⟩) k0 cap2) k0 xs := by
  refine (pop_some b j n _ wr h.c8 h.c9 (h.cq j hj) h.fr hj hn hn8 h.hb).mono ?_
  rintro e w' ⟨rfl, hp⟩
  exact ⟨rfl, h.popped hj hp, ho.kept hp.env (.inr (by simp [Value.ownBlock]; omega))⟩
theorem RS.pop_at {b j n N : Nat} {w0 wr : World} {k0 g2 cap2 : Nat} {xs : List Value} {u : Value} (h : RS b j n (fun i => if i = N then u else .slice none 0 0) w0 wr) (hj : j < 8) (hn : 0 < n) (hn8 : n ≤ 8) (hjN : j ≠ N)
    (ho : wr.ownsRow (b + 1) 5 1 (.slice (some ⟨g2, 0, none⟩) k0 cap2) k0 xs) (hg : b + 1 ≤ g2) :
    Calls Try.prog 9 #[.pointer (some ⟨b, 0, none⟩)] wr fun e w' => e = .returned (.tuple #[.slice none 0 0, .bool true]) ∧ RS b ((j + 1) % 8) (n - 1) (fun i => if i = N then u else .slice none 0 0) w0 w' ∧ w'.ownsRow (b + 1) 5 1 (.slice (some ⟨g2, 0, none⟩) k0 cap2) k0 xs := by
  refine (RS.pop_any (base := 0) h hj hn hn8 ho hg).mono ?_
  rintro e w' ⟨rfl, hr, ho2⟩
  refine ⟨by simp [hjN], ?_, ho2⟩
  have e : (fun i => if i = j then .slice none 0 0 else if i = N then u else .slice none 0 0) = (fun i => if i = N then u else Value.slice none 0 0) := by
    funext i
    by_cases hi : i = j
    · subst hi; simp [hjN]
    · simp [hi]
  rw [e] at hr
  exact hr
theorem RS.pop_last {b j n : Nat} {w0 wr : World} {k0 g2 cap2 : Nat} {xs : List Value} {u : Value} (h : RS b j n (fun i => if i = j then u else .slice none 0 0) w0 wr) (hj : j < 8) (hn : 0 < n) (hn8 : n ≤ 8)
    (ho : wr.ownsRow (b + 1) 5 1 (.slice (some ⟨g2, 0, none⟩) k0 cap2) k0 xs) (hg : b + 1 ≤ g2) :
    Calls Try.prog 9 #[.pointer (some ⟨b, 0, none⟩)] wr fun e w' => e = .returned (.tuple #[u, .bool true]) ∧ RS b ((j + 1) % 8) (n - 1) (fun _ => .slice none 0 0) w0 w' ∧ w'.ownsRow (b + 1) 5 1 (.slice (some ⟨g2, 0, none⟩) k0 cap2) k0 xs := by
  refine (RS.pop_any (base := 0) h hj hn hn8 ho hg).mono ?_
  rintro e w' ⟨rfl, hr, ho2⟩
  refine ⟨by simp, ?_, ho2⟩
  have e : (fun i => if i = j then .slice none 0 0 else if i = j then u else .slice none 0 0) = (fun _ => Value.slice none 0 0) := by
    funext i
    by_cases hi : i = j <;> simp [hi]
  rw [e] at hr
  exact hr

set_option maxRecDepth 100000 in
set_option maxHeartbeats 4000000 in
theorem lawCut_some (n : Int) (g off m k0 c : Nat) (B : ByteArray) (hk0 : k0 = min m 32) (hm0 : 0 < m) (hm3 : m ≤ 300) (hmc : m ≤ c) (hcm : c ≤ maxLen) (hB : B.size = m) (w : World) (hby : Bytes w g off B) (hg : g < w.heap.size) :
    Calls Try.prog 3 #[.int .i64 n, .slice (some ⟨g, off, none⟩) m c] w fun e w' => e = .returned (.bool true) ∧ Below w.heap.size w w' := by
  have hm : -8 < n.tmod 8 ∧ n.tmod 8 < 8 := by
    have h1 : (n.tmod 8).natAbs < 8 := by rw [Int.natAbs_tmod]; exact Nat.mod_lt _ (by decide)
    omega
  obtain ⟨N, hN, hN8⟩ : ∃ N : Nat, (n.tmod 8 + 8) % 8 = (N : Int) ∧ N < 8 := ⟨((n.tmod 8 + 8) % 8).toNat, by omega, by omega⟩
  have HN := Lib.hid hN
  clear hN
  have hk1 : (0 : Int) ≤ (k0 : Int) := by omega
  have hk2 : (k0 : Int) ≤ (c : Int) := by omega
  have hk3 : k0 ≤ c := by omega
  have hmI : ¬ (300 : Int) < (m : Int) := by omega
  have HK := Lib.hid hk0
  have HM0 := Lib.hid hm0
  have HBY := Lib.hid hby
  have HB0 := Lib.hid hB
  have HG0 := Lib.hid hg
  clear hk0 hm0 hby hB hg
  go_enter Try.func3, Try.ntmps3
  go_wp2_with fail
  refine (fit_any _).mono ?_
  rintro e w1 ⟨rfl, hb1⟩
  have hs := ring_start w1
  have HS := Lib.hid hs
  clear hs
  go_wp2_with fail
  rw [HN.out]
  go_loopw [20] (fun s20 wr => ∃ k : Nat, k ≤ N ∧ s20 = .int .i64 k ∧ RS w1.heap.size 0 k (fun _ => .slice none 0 0) w1 wr) (fun s20 _ => 8 - (intOf s20).toNat)
  case atStart => exact ⟨0, by omega, rfl, HS.out⟩
  case round =>
    obtain ⟨k, hk, rfl, hr⟩ := hrel
    by_cases h8 : k < N
    · have hp := RS.push_nil' hr (by omega)
      have HP := Lib.hid hp
      clear hp hr
      go_wp2_with fail
      refine HP.out.mono ?_
      rintro e w2 ⟨rfl, hr2⟩
      have HR2 := Lib.hid hr2
      clear hr2
      go_wp2_with fail
      go_roundw
      case rel => first | exact ⟨k + 1, by omega, by go_num, HR2.out⟩ | exact ⟨_, ⟨k + 1, by omega, by go_num, HR2.out⟩, rfl⟩ | exact ⟨_, _, ⟨k + 1, by omega, by go_num, HR2.out⟩, rfl⟩
      case measure => simp [intOf]; omega
    · obtain rfl : k = N := by omega
      have hp := RS.push_bytes (g := g) (off := off) (c := c) hr (by omega) HK.out HM0.out hk3 HB0.out (bytes_below (bytes_below HBY.out hb1 HG0.out) hr.bl (Nat.lt_of_lt_of_le HG0.out hb1.size))
      have HP := Lib.hid hp
      clear hp hr
      go_wp2_with fail
      refine HP.out.mono ?_
      rintro e w2 ⟨rfl, v', hr2, ho2⟩
      obtain ⟨g2, cap2, rfl, hg2, _, _, _⟩ := own_form' HK.out HM0.out ho2
      have HR2 := Lib.hid hr2
      have HO2 := Lib.hid ho2
      clear hr2 ho2
      go_wp2_with fail
      go_loopw [32] (fun s32 wr => ∃ j : Nat, j ≤ k ∧ s32 = .int .i64 j ∧ RS w1.heap.size j (k + 1 - j) (fun i => if i = k then .slice (some ⟨g2, 0, none⟩) k0 cap2 else .slice none 0 0) w1 wr ∧ wr.ownsRow (w1.heap.size + 1) 5 1 (.slice (some ⟨g2, 0, none⟩) k0 cap2) k0 (cellsOf B k0)) (fun s32 _ => 8 - (intOf s32).toNat)
      case atStart => exact ⟨0, by omega, rfl, HR2.out, HO2.out⟩
      case round =>
        obtain ⟨j, hj, rfl, hr, ho⟩ := hrel
        by_cases h9 : j < k
        · have hp := RS.pop_at hr (by omega) (by omega) (by omega) (by simp; omega) ho hg2
          rw [show (j + 1) % 8 = j + 1 by omega] at hp
          have HP := Lib.hid hp
          clear hp hr ho
          go_wp2_with fail
          refine HP.out.mono ?_
          rintro e w3 ⟨rfl, hr2, ho3⟩
          rw [show k + 1 - j - 1 = k + 1 - (j + 1) by omega] at hr2
          have HR3 := Lib.hid (And.intro hr2 ho3)
          clear hr2 ho3
          go_wp2_with fail
          go_roundw
          case rel => first | exact ⟨j + 1, by omega, by go_num, HR3.out⟩ | exact ⟨_, ⟨j + 1, by omega, by go_num, HR3.out⟩, rfl⟩ | exact ⟨_, _, ⟨j + 1, by omega, by go_num, HR3.out⟩, rfl⟩
          case measure => simp [intOf]; omega
        · obtain rfl : j = k := by omega
          have hp := RS.pop_last hr (by omega) (by omega) (by omega) ho hg2
          have HP := Lib.hid hp
          clear hp hr ho
          go_wp2_with fail
          refine HP.out.mono ?_
          rintro e w3 ⟨rfl, hr2, ho3⟩
          have h9c := hr2.c9
          rw [show ((j + 1 - j - 1 : Nat) : Int) = 0 by omega] at h9c
          have hbl := hr2.bl
          have hkB : k0 ≤ B.size := by have := HK.out; have := HB0.out; omega
          have hsz := bytes_cut B k0 hkB
          have b1 : Bytes w3.drew g2 0 (B.extract 0 k0) := row_bytes hkB ho3
          have b2 : Bytes w3.drew g off (B.extract 0 k0) := bytes_pre (bytes_below (bytes_below HBY.out hb1 HG0.out) hbl.drew (Nat.lt_of_lt_of_le HG0.out hb1.size)) hkB
          have cv1 : (convert 22 9 (.slice (some ⟨g2, 0, none⟩) k0 cap2)).run Try.prog w3.drew = .ok (.string (B.extract 0 k0)) w3.drew := by
            have := Go.Lib.run_convert_whole (P := Try.prog) w3.drew 22 5 9 Try.underlying22 Try.underlying5 Try.underlying9 g2 0 _ b1 cap2
            rw [hsz] at this; exact this
          have cv2 : (convert 22 9 (.slice (some ⟨g, off, none⟩) k0 c)).run Try.prog w3.drew = .ok (.string (B.extract 0 k0)) w3.drew := by
            have := Go.Lib.run_convert_whole (P := Try.prog) w3.drew 22 5 9 Try.underlying22 Try.underlying5 Try.underlying9 g off _ b2 c
            rw [hsz] at this; exact this
          generalize B.extract 0 k0 = S0 at *
          have HB := Lib.hid hbl
          clear hr2 hbl ho3 b1 b2 hsz hkB
          go_wp2_with fail
          go_region_held3 (fun w' => w' = w3.drew) (first | rfl | assumption) (first | (rw [if_pos (by rfl)]; go_at_call 10; refine (len_any w1.heap.size 0 _ (by first | assumption | exact h9c | simpa using h9c)).mono ?_; rintro e w4 ⟨rfl, rfl⟩) | (go_at_call 10; refine (len_any w1.heap.size 0 _ (by first | assumption | exact h9c | simpa using h9c)).mono ?_; rintro e w4 ⟨rfl, rfl⟩) | (refine step_run_w (by rfl) (.int .i64 k0) (by have hk := HK.out; go_simp; first | done | omega | (split <;> omega) | (intros; omega)) ?_) | fail)
          go_wp2_with fail
          go_ret
          exact ⟨rfl, (hb1.trans (HB.out.mono hb1.size)).drew⟩

theorem lawCut_long (n : Int) (v : Value) (p : Addr) (m c : Nat) (hv : v = .slice (some p) m c) (hm : 300 < m) (w : World) :
    Calls Try.prog 3 #[.int .i64 n, v] w fun e w' => e = .returned (.bool true) ∧ Below w.heap.size w w' := by
  subst hv
  have hmI : (300 : Int) < (m : Int) := by omega
  go_enter Try.func3, Try.ntmps3
  go_wp2_with fail
  refine (fit_any _).mono ?_
  rintro e w1 ⟨rfl, hb1⟩
  go_wp2_with fail
  go_ret
  exact ⟨rfl, hb1⟩
end Go.Proofs.Ytmnhnjljapabdaa
