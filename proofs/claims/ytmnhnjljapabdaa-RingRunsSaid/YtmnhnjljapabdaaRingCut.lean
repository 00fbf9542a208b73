/- The walk of the law RingCut: the law returns true at every number and bytes and changes nothing that existed. Conditions: as each theorem names them. -/
import Derived.Test.YtmnhnjljapabdaaRingState
import Derived.Lib.BufferRead
set_option linter.unusedVariables false
namespace Go.Proofs.Ytmnhnjljapabdaa
open Go.ChangeShapes Go.WideShapes Go.ChangeAt Go.RowKit
open Go.Lib (Bytes)

theorem RS.push_nil' {b k : Nat} {w0 wr : World} (h : RS b 0 k (fun _ => .slice none 0 0) w0 wr) (hk : k < 8) :
    Calls Try.prog 8 #[.pointer (some ⟨b, 0, none⟩), .slice none 0 0] wr fun e w' => e = .returned (.bool true) ∧ RS b 0 (k + 1) (fun _ => .slice none 0 0) w0 w' := by
  refine (push_nil b 0 k k _ wr h.c8 h.c9 (h.cq k hk) (by omega) h.fr (by omega) hk h.hb).mono ?_
  rintro e w' ⟨rfl, hp, hv⟩
  have := h.pushed hk hp hv
  refine ⟨rfl, ?_⟩
  simpa using this
theorem RS.pop_nil {b j n : Nat} {f : Nat → Value} {w0 wr : World} (h : RS b j n f w0 wr) (hj : j < 8) (hn : 0 < n) (hn8 : n ≤ 8) (hf : f j = .slice none 0 0) :
    Calls Try.prog 9 #[.pointer (some ⟨b, 0, none⟩)] wr fun e w' => e = .returned (.tuple #[.slice none 0 0, .bool true]) ∧ RS b ((j + 1) % 8) (n - 1) f w0 w' := by
  refine (pop_some b j n _ wr h.c8 h.c9 (h.cq j hj) h.fr hj hn hn8 h.hb).mono ?_
  rintro e w' ⟨rfl, hp⟩
  rw [hf]
  have h2 := h.popped hj hp
  have e : (fun i => if i = j then .slice none 0 0 else f i) = f := by
    funext i
    by_cases hi : i = j
    · subst hi; simp [hf]
    · simp [hi]
  rw [e] at h2
  exact ⟨rfl, h2⟩

theorem RS.push_zero' {b k c : Nat} {p : Addr} {w0 wr : World} (h : RS b 0 k (fun _ => .slice none 0 0) w0 wr) (hk : k < 8) :
    Calls Try.prog 8 #[.pointer (some ⟨b, 0, none⟩), .slice (some p) 0 c] wr fun e w' => e = .returned (.bool true) ∧ RS b 0 (k + 1) (fun _ => .slice none 0 0) w0 w' := by
  refine (push_zero b c 0 k k p _ wr h.c8 h.c9 (h.cq k hk) (by omega) h.fr (by omega) hk h.hb).mono ?_
  rintro e w' ⟨rfl, hp, hv⟩
  have := h.pushed hk hp hv
  refine ⟨rfl, ?_⟩
  simpa using this

set_option maxRecDepth 100000 in
set_option maxHeartbeats 4000000 in
theorem lawCut_nil (n : Int) (w : World) :
    Calls Try.prog 3 #[.int .i64 n, .slice none 0 0] w fun e w' => e = .returned (.bool true) ∧ Below w.heap.size w w' := by
  have hm : -8 < n.tmod 8 ∧ n.tmod 8 < 8 := by
    have h1 : (n.tmod 8).natAbs < 8 := by rw [Int.natAbs_tmod]; exact Nat.mod_lt _ (by decide)
    omega
  obtain ⟨N, hN, hN8⟩ : ∃ N : Nat, (n.tmod 8 + 8) % 8 = (N : Int) ∧ N < 8 := ⟨((n.tmod 8 + 8) % 8).toNat, by omega, by omega⟩
  have HN := Lib.hid hN
  clear hN
  have hcv : ∀ w : World, (convert 22 9 (.slice none 0 0)).run Try.prog w = .ok (.string ⟨#[]⟩) w := fun w => Go.Lib.run_convert_nil_bytes w 22 9 5 0 Try.underlying22 Try.underlying5 Try.underlying9
  go_enter Try.func3, Try.ntmps3
  go_wp2_with fail
  refine (fit_any _).mono ?_
  rintro e w1 ⟨rfl, hb1⟩
  have hs := ring_start w1
  have HS := Lib.hid hs
  clear hs
  go_wp2_with fail
  rw [HN.out]
  go_loopw [20] (fun s20 wr => ∃ k : Nat, k ≤ N ∧ s20 = .int .i64 k ∧ RS w1.heap.size 0 k (fun _ => .slice none 0 0) w1 wr) (fun s20 _ => 8 - (intOf s20).toNat)
  case atStart => exact ⟨0, by omega, rfl, HS.out⟩
  case round =>
    obtain ⟨k, hk, rfl, hr⟩ := hrel
    by_cases h8 : k < N
    · have hp := RS.push_nil' hr (by omega)
      have HP := Lib.hid hp
      clear hp hr
      go_wp2_with fail
      refine HP.out.mono ?_
      rintro e w2 ⟨rfl, hr2⟩
      have HR2 := Lib.hid hr2
      clear hr2
      go_wp2_with fail
      go_roundw
      case rel => first | exact ⟨k + 1, by omega, by go_num, HR2.out⟩ | exact ⟨_, ⟨k + 1, by omega, by go_num, HR2.out⟩, rfl⟩ | exact ⟨_, _, ⟨k + 1, by omega, by go_num, HR2.out⟩, rfl⟩
      case measure => simp [intOf]; omega
    · obtain rfl : k = N := by omega
      have hp := RS.push_nil' hr (by omega)
      have HP := Lib.hid hp
      clear hp hr
      go_wp2_with fail
      refine HP.out.mono ?_
      rintro e w2 ⟨rfl, hr2⟩
      have HR2 := Lib.hid hr2
      clear hr2
      go_wp2_with fail
      go_loopw [32] (fun s32 wr => ∃ j : Nat, j ≤ k ∧ s32 = .int .i64 j ∧ RS w1.heap.size j (k + 1 - j) (fun _ => .slice none 0 0) w1 wr) (fun s32 _ => 8 - (intOf s32).toNat)
      case atStart => exact ⟨0, by omega, rfl, HR2.out⟩
      case round =>
        obtain ⟨j, hj, rfl, hr⟩ := hrel
        have hp := RS.pop_nil hr (by omega) (by omega) (by omega) rfl
        by_cases h9 : j < k
        · rw [show (j + 1) % 8 = j + 1 by omega] at hp
          have HP := Lib.hid hp
          clear hp hr
          go_wp2_with fail
          refine HP.out.mono ?_
          rintro e w3 ⟨rfl, hr2⟩
          rw [show k + 1 - j - 1 = k + 1 - (j + 1) by omega] at hr2
          have HR3 := Lib.hid hr2
          clear hr2
          go_wp2_with fail
          go_roundw
          case rel => first | exact ⟨j + 1, by omega, by go_num, HR3.out⟩ | exact ⟨_, ⟨j + 1, by omega, by go_num, HR3.out⟩, rfl⟩ | exact ⟨_, _, ⟨j + 1, by omega, by go_num, HR3.out⟩, rfl⟩
          case measure => simp [intOf]; omega
        · obtain rfl : j = k := by omega
          have HP := Lib.hid hp
          clear hp hr
          go_wp2_with fail
          refine HP.out.mono ?_
          rintro e w3 ⟨rfl, hr2⟩
          have h9c := hr2.c9
          rw [show ((j + 1 - j - 1 : Nat) : Int) = 0 by omega] at h9c
          have hbl := hr2.bl
          have HB := Lib.hid hbl
          clear hr2 hbl
          go_wp2_with fail
          go_region_held3 (fun w' => w'.cell? ⟨w1.heap.size, 9, none⟩ = some (.int .i64 0)) (first | assumption | go_keep) (first | (rw [if_pos (by rfl)]; go_at_call 10; refine (len_any w1.heap.size 0 _ (by first | assumption | exact h9c | simpa using h9c)).mono ?_; rintro e w4 ⟨rfl, rfl⟩) | fail)
          go_wp2_with fail
          go_ret
          exact ⟨ret_bool (by decide), (hb1.trans (HB.out.mono hb1.size)).drew⟩

set_option maxRecDepth 100000 in
set_option maxHeartbeats 4000000 in
theorem lawCut_zero (n : Int) (p : Addr) (c : Nat) (w : World) :
    Calls Try.prog 3 #[.int .i64 n, .slice (some p) 0 c] w fun e w' => e = .returned (.bool true) ∧ Below w.heap.size w w' := by
  have hm : -8 < n.tmod 8 ∧ n.tmod 8 < 8 := by
    have h1 : (n.tmod 8).natAbs < 8 := by rw [Int.natAbs_tmod]; exact Nat.mod_lt _ (by decide)
    omega
  obtain ⟨N, hN, hN8⟩ : ∃ N : Nat, (n.tmod 8 + 8) % 8 = (N : Int) ∧ N < 8 := ⟨((n.tmod 8 + 8) % 8).toNat, by omega, by omega⟩
  have HN := Lib.hid hN
  clear hN
  have hcv : ∀ w : World, (convert 22 9 (.slice none 0 0)).run Try.prog w = .ok (.string ⟨#[]⟩) w := fun w => Go.Lib.run_convert_nil_bytes w 22 9 5 0 Try.underlying22 Try.underlying5 Try.underlying9
  have hcw : ∀ w : World, (convert 22 9 (.slice (some p) 0 c)).run Try.prog w = .ok (.string ⟨#[]⟩) w := fun w => by
    rw [run_convert_bytes_string w 22 9 5 (some p) 0 c Try.underlying22 Try.underlying5 Try.underlying9]
    simp [Conv.bytesToString]
    rfl
  go_enter Try.func3, Try.ntmps3
  go_wp2_with fail
  refine (fit_any _).mono ?_
  rintro e w1 ⟨rfl, hb1⟩
  have hs := ring_start w1
  have HS := Lib.hid hs
  clear hs
  go_wp2_with fail
  rw [HN.out]
  go_loopw [20] (fun s20 wr => ∃ k : Nat, k ≤ N ∧ s20 = .int .i64 k ∧ RS w1.heap.size 0 k (fun _ => .slice none 0 0) w1 wr) (fun s20 _ => 8 - (intOf s20).toNat)
  case atStart => exact ⟨0, by omega, rfl, HS.out⟩
  case round =>
    obtain ⟨k, hk, rfl, hr⟩ := hrel
    by_cases h8 : k < N
    · have hp := RS.push_nil' hr (by omega)
      have HP := Lib.hid hp
      clear hp hr
      go_wp2_with fail
      refine HP.out.mono ?_
      rintro e w2 ⟨rfl, hr2⟩
      have HR2 := Lib.hid hr2
      clear hr2
      go_wp2_with fail
      go_roundw
      case rel => first | exact ⟨k + 1, by omega, by go_num, HR2.out⟩ | exact ⟨_, ⟨k + 1, by omega, by go_num, HR2.out⟩, rfl⟩ | exact ⟨_, _, ⟨k + 1, by omega, by go_num, HR2.out⟩, rfl⟩
      case measure => simp [intOf]; omega
    · obtain rfl : k = N := by omega
      have hp := RS.push_zero' (p := p) (c := c) hr (by omega)
      have HP := Lib.hid hp
      clear hp hr
      go_wp2_with fail
      refine HP.out.mono ?_
      rintro e w2 ⟨rfl, hr2⟩
      have HR2 := Lib.hid hr2
      clear hr2
      go_wp2_with fail
      go_loopw [32] (fun s32 wr => ∃ j : Nat, j ≤ k ∧ s32 = .int .i64 j ∧ RS w1.heap.size j (k + 1 - j) (fun _ => .slice none 0 0) w1 wr) (fun s32 _ => 8 - (intOf s32).toNat)
      case atStart => exact ⟨0, by omega, rfl, HR2.out⟩
      case round =>
        obtain ⟨j, hj, rfl, hr⟩ := hrel
        have hp := RS.pop_nil hr (by omega) (by omega) (by omega) rfl
        by_cases h9 : j < k
        · rw [show (j + 1) % 8 = j + 1 by omega] at hp
          have HP := Lib.hid hp
          clear hp hr
          go_wp2_with fail
          refine HP.out.mono ?_
          rintro e w3 ⟨rfl, hr2⟩
          rw [show k + 1 - j - 1 = k + 1 - (j + 1) by omega] at hr2
          have HR3 := Lib.hid hr2
          clear hr2
          go_wp2_with fail
          go_roundw
          case rel => first | exact ⟨j + 1, by omega, by go_num, HR3.out⟩ | exact ⟨_, ⟨j + 1, by omega, by go_num, HR3.out⟩, rfl⟩ | exact ⟨_, _, ⟨j + 1, by omega, by go_num, HR3.out⟩, rfl⟩
          case measure => simp [intOf]; omega
        · obtain rfl : j = k := by omega
          have HP := Lib.hid hp
          clear hp hr
          go_wp2_with fail
          refine HP.out.mono ?_
          rintro e w3 ⟨rfl, hr2⟩
          have h9c := hr2.c9
          rw [show ((j + 1 - j - 1 : Nat) : Int) = 0 by omega] at h9c
          have hbl := hr2.bl
          have HB := Lib.hid hbl
          clear hr2 hbl
          go_wp2_with fail
          go_region_held3 (fun w' => w'.cell? ⟨w1.heap.size, 9, none⟩ = some (.int .i64 0)) (first | assumption | go_keep) (first | (rw [if_pos (by rfl)]; go_at_call 10; refine (len_any w1.heap.size 0 _ (by first | assumption | exact h9c | simpa using h9c)).mono ?_; rintro e w4 ⟨rfl, rfl⟩) | fail)
          go_wp2_with fail
          go_ret
          exact ⟨ret_bool (by decide), (hb1.trans (HB.out.mono hb1.size)).drew⟩
end Go.Proofs.Ytmnhnjljapabdaa
