/- The document's step: the walks. Conditions: as each theorem names them. -/
import Derived.Test.YtelgmffmekfndaaCoreRefG
set_option linter.unusedVariables false
namespace Go.Proofs.Ytelgmffmekfndaa
open Go.ChangeShapes Go.WideShapes Go.ChangeAt Go.RowKit

set_option maxRecDepth 100000 in
theorem rstep_bad {W : World} {c : Nat} {R : Nat → Int} {pc : Int} (h : CoreAt W c R pc) (m : Value) (hb : ¬ (pc < 262144 ∧ pc % 8 = 0)) :
    Calls Try.prog 65 #[.pointer (some ⟨c, 0, none⟩), m] W fun e w' => e = .returned (.int .i64 6) ∧ W = w' := by
  have cp := h.p
  obtain ⟨p0, p1⟩ := h.pb
  by_cases h1 : pc < 262144
  · have h2 : ¬ pc % 8 = 0 := fun e => hb ⟨h1, e⟩
    have g1 : decide (262144 ≤ pc) = false := by simp; omega
    have g2 : pc.tmod 8 = pc % 8 := Int.tmod_eq_emod_of_nonneg p0
    have g3 : (pc % 8 != 0) = true := by simpa using h2
    obtain ⟨q, hq⟩ : ∃ q, pc % 8 = q := ⟨_, rfl⟩
    rw [hq] at g2 g3
    clear hb h2 hq h
    go_enter Try.func65, Try.ntmps65
    go_wp2_with fail
    go_ret
    exact ⟨rfl, rfl⟩
  · have g1 : decide (262144 ≤ pc) = true := by simp; omega
    clear hb h1 h
    go_enter Try.func65, Try.ntmps65
    go_wp2_with fail
    go_ret
    exact ⟨rfl, rfl⟩

set_option maxRecDepth 100000 in
theorem rstep_nofetch {W : World} {c M g n cap : Nat} {R : Nat → Int} {pc hole : Int} {f : Nat → Int} (h : CoreAt W c R pc) (hm : MemAt W M g n cap hole f) (pcn : Nat) (hpc : pc = pcn) (hlt : pcn < 262144) (h8 : pcn % 8 = 0) (hr : ¬ Reach n hole pcn 8) :
    Calls Try.prog 65 #[.pointer (some ⟨c, 0, none⟩), .pointer (some ⟨M, 0, none⟩)] W fun e w' => e = .returned (.int .i64 3) ∧ W = w' := by
  have HF := Lib.hid (load_no hm pcn 8 (by omega) (by omega) hr)
  have cp := h.p
  rw [hpc] at cp
  have g1 : decide (262144 ≤ (pcn : Int)) = false := by simp; omega
  have g2 : (pcn : Int).tmod 8 = 0 := by rw [Int.tmod_eq_emod_of_nonneg (by omega)]; omega
  have g4 : IntKind.i64.wrap (pcn : Int) = pcn := by rw [IntKind.wrap_i64]; omega
  clear h hm hr hpc h8
  go_enter Try.func65, Try.ntmps65
  go_wp2_with fail
  refine HF.out.mono ?_
  rintro e w' ⟨rfl, rfl⟩
  go_wp2_with fail
  go_ret
  exact ⟨rfl, rfl⟩

set_option maxRecDepth 100000 in
set_option maxHeartbeats 4000000 in
theorem rstep_none {W : World} {c M g n cap : Nat} {R : Nat → Int} {pc hole : Int} {f : Nat → Int} (h : CoreAt W c R pc) (hm : MemAt W M g n cap hole f) (pcn : Nat) (hpc : pc = pcn) (hlt : pcn < 262144) (h8 : pcn % 8 = 0) (hr : Reach n hole pcn 8) (x : Int) (hx : ldv (fun i => f (pcn + i)) 8 = x) (op imm : Int) (A B C : Nat)
    (hdec : ∀ w, Calls Try.prog 85 #[.int .u64 x] w fun e w' => e = .returned (.tuple #[ins op A B C imm, .bool false]) ∧ Below w.heap.size w w') :
    Calls Try.prog 65 #[.pointer (some ⟨c, 0, none⟩), .pointer (some ⟨M, 0, none⟩)] W fun e w' => e = .returned (.int .i64 4) ∧ W.grownBy w' none := by
  have hF := load_yes hm pcn 8 (by omega) (by omega) (by omega) hr
  rw [hx] at hF
  have HF := Lib.hid hF
  have HD := Lib.hid hdec
  have HC := Lib.hid h
  have cp := h.p
  have hlc := h.lt
  rw [hpc] at cp
  have g1 : decide (262144 ≤ (pcn : Int)) = false := by simp; omega
  have g2 : (pcn : Int).tmod 8 = 0 := by rw [Int.tmod_eq_emod_of_nonneg (by omega)]; omega
  have g4 : IntKind.i64.wrap (pcn : Int) = pcn := by rw [IntKind.wrap_i64]; omega
  clear h hm hr hpc h8 hF hx hdec
  go_enter Try.func65, Try.ntmps65
  go_wp2_with fail
  refine HF.out.mono ?_
  rintro e w' ⟨rfl, rfl⟩
  go_wp2_with fail
  refine (HD.out _).mono ?_
  rintro e w2 ⟨rfl, hb⟩
  have hg : W.grownBy (w2.alloc (insO op A B C imm)) none := grown_of_below (hb.alloc hb.size _) none
  have hz := hb.size
  have x1 : (w2.alloc (insO op A B C imm)).cell? ⟨w2.heap.size, 1, none⟩ = some (.int .i64 A) := by simp
  have xs : w2.heap.size < (w2.alloc (insO op A B C imm)).heap.size := by simp
  have HG := Lib.hid hg
  have HX1 := Lib.hid x1
  have HXS := Lib.hid xs
  have hcX : c ≠ w2.heap.size := by omega
  clear hb hg x1 xs
  unfold ins
  go_wp2_with fail
  go_ret
  exact ⟨rfl, HG.out⟩
set_option maxRecDepth 100000 in
set_option maxHeartbeats 4000000 in
theorem rstep_crook {W : World} {c M g n cap : Nat} {R : Nat → Int} {pc hole : Int} {f : Nat → Int} (h : CoreAt W c R pc) (hm : MemAt W M g n cap hole f) (pcn : Nat) (hpc : pc = pcn) (hlt : pcn < 262144) (h8 : pcn % 8 = 0) (hr : Reach n hole pcn 8) (x : Int) (hx : ldv (fun i => f (pcn + i)) 8 = x) (op imm : Int) (A B C : Nat)
    (hdec : ∀ w, Calls Try.prog 85 #[.int .u64 x] w fun e w' => e = .returned (.tuple #[ins op A B C imm, .bool true]) ∧ Below w.heap.size w w') (wd pl : Int) (st : Bool) (hneed : ∀ w', CoreAt w' c R pc → Calls Try.prog 86 #[.pointer (some ⟨c, 0, none⟩), .agg #[.int .i64 op, .int .i64 A, .int .i64 B, .int .i64 C, .int .i32 imm]] w' fun e w2 => e = .returned (.tuple #[.int .i64 pl, .int .i64 wd, .bool st, .bool false]) ∧ w'.grownBy w2 none) :
    Calls Try.prog 65 #[.pointer (some ⟨c, 0, none⟩), .pointer (some ⟨M, 0, none⟩)] W fun e w' => e = .returned (.int .i64 6) ∧ W.grownBy w' none := by
  have hF := load_yes hm pcn 8 (by omega) (by omega) (by omega) hr
  rw [hx] at hF
  have HF := Lib.hid hF
  have HD := Lib.hid hdec
  have HC := Lib.hid h
  have cp := h.p
  have hlc := h.lt
  rw [hpc] at cp
  have g1 : decide (262144 ≤ (pcn : Int)) = false := by simp; omega
  have g2 : (pcn : Int).tmod 8 = 0 := by rw [Int.tmod_eq_emod_of_nonneg (by omega)]; omega
  have g4 : IntKind.i64.wrap (pcn : Int) = pcn := by rw [IntKind.wrap_i64]; omega
  have HN := Lib.hid hneed
  clear hneed
  clear h hm hr hpc h8 hF hx hdec
  go_enter Try.func65, Try.ntmps65
  go_wp2_with fail
  refine HF.out.mono ?_
  rintro e w' ⟨rfl, rfl⟩
  go_wp2_with fail
  refine (HD.out _).mono ?_
  rintro e w2 ⟨rfl, hb⟩
  have hg : W.grownBy (w2.alloc (insO op A B C imm)) none := grown_of_below (hb.alloc hb.size _) none
  have hz := hb.size
  have x1 : (w2.alloc (insO op A B C imm)).cell? ⟨w2.heap.size, 1, none⟩ = some (.int .i64 A) := by simp
  have xs : w2.heap.size < (w2.alloc (insO op A B C imm)).heap.size := by simp
  have HG := Lib.hid hg
  have HX1 := Lib.hid x1
  have HXS := Lib.hid xs
  have hcX : c ≠ w2.heap.size := by omega
  clear hb hg x1 xs
  unfold ins
  go_wp2_with fail
  refine (HN.out _ (HC.out.grown HG.out (by simp))).mono ?_
  rintro e w3 ⟨rfl, hg3⟩
  have HG3 := Lib.hid (HG.out.trans hg3)
  have x03 := hg3.cell (show (w2.alloc (insO op A B C imm)).cell? ⟨w2.heap.size, 0, none⟩ = some (.int .i64 op) by simp) (by simp)
  have x13 := hg3.cell HX1.out (by simp)
  have x23 := hg3.cell (show (w2.alloc (insO op A B C imm)).cell? ⟨w2.heap.size, 2, none⟩ = some (.int .i64 B) by simp) (by simp)
  have x33 := hg3.cell (show (w2.alloc (insO op A B C imm)).cell? ⟨w2.heap.size, 3, none⟩ = some (.int .i64 C) by simp) (by simp)
  have x43 := hg3.cell (show (w2.alloc (insO op A B C imm)).cell? ⟨w2.heap.size, 4, none⟩ = some (.int .i32 imm) by simp) (by simp)
  have hXs3 : w2.heap.size < w3.heap.size := Nat.lt_of_lt_of_le HXS.out hg3.size
  clear hg3
  generalize w2.heap.size = X at *
  go_wp2_with fail
  go_ret
  exact ⟨rfl, HG3.out⟩
set_option maxRecDepth 100000 in
set_option maxHeartbeats 4000000 in
theorem rstep_plain {W : World} {c M g n cap : Nat} {R : Nat → Int} {pc hole : Int} {f : Nat → Int} (h : CoreAt W c R pc) (hm : MemAt W M g n cap hole f) (pcn : Nat) (hpc : pc = pcn) (hlt : pcn < 262144) (h8 : pcn % 8 = 0) (hr : Reach n hole pcn 8) (x : Int) (hx : ldv (fun i => f (pcn + i)) 8 = x) (op imm : Int) (A B C : Nat)
    (hdec : ∀ w, Calls Try.prog 85 #[.int .u64 x] w fun e w' => e = .returned (.tuple #[ins op A B C imm, .bool true]) ∧ Below w.heap.size w w') (hneed : ∀ w', CoreAt w' c R pc → Calls Try.prog 86 #[.pointer (some ⟨c, 0, none⟩), .agg #[.int .i64 op, .int .i64 A, .int .i64 B, .int .i64 C, .int .i32 imm]] w' fun e w2 => e = .returned (.tuple #[.int .i64 0, .int .i64 0, .bool false, .bool true]) ∧ w'.grownBy w2 none) (en : Int) (V : World → Prop) (hdo : ∀ w', W.grownBy w' none → Calls Try.prog 89 #[.pointer (some ⟨c, 0, none⟩), .agg #[.int .i64 op, .int .i64 A, .int .i64 B, .int .i64 C, .int .i32 imm], .int .u64 0] w' fun e w2 => e = .returned (.int .i64 en) ∧ V w2) :
    Calls Try.prog 65 #[.pointer (some ⟨c, 0, none⟩), .pointer (some ⟨M, 0, none⟩)] W fun e w' => e = .returned (.int .i64 en) ∧ V w' := by
  have hF := load_yes hm pcn 8 (by omega) (by omega) (by omega) hr
  rw [hx] at hF
  have HF := Lib.hid hF
  have HD := Lib.hid hdec
  have HC := Lib.hid h
  have cp := h.p
  have hlc := h.lt
  rw [hpc] at cp
  have g1 : decide (262144 ≤ (pcn : Int)) = false := by simp; omega
  have g2 : (pcn : Int).tmod 8 = 0 := by rw [Int.tmod_eq_emod_of_nonneg (by omega)]; omega
  have g4 : IntKind.i64.wrap (pcn : Int) = pcn := by rw [IntKind.wrap_i64]; omega
  have HN := Lib.hid hneed
  clear hneed
  have HDO := Lib.hid hdo
  clear hdo
  clear h hm hr hpc h8 hF hx hdec
  go_enter Try.func65, Try.ntmps65
  go_wp2_with fail
  refine HF.out.mono ?_
  rintro e w' ⟨rfl, rfl⟩
  go_wp2_with fail
  refine (HD.out _).mono ?_
  rintro e w2 ⟨rfl, hb⟩
  have hg : W.grownBy (w2.alloc (insO op A B C imm)) none := grown_of_below (hb.alloc hb.size _) none
  have hz := hb.size
  have x1 : (w2.alloc (insO op A B C imm)).cell? ⟨w2.heap.size, 1, none⟩ = some (.int .i64 A) := by simp
  have xs : w2.heap.size < (w2.alloc (insO op A B C imm)).heap.size := by simp
  have HG := Lib.hid hg
  have HX1 := Lib.hid x1
  have HXS := Lib.hid xs
  have hcX : c ≠ w2.heap.size := by omega
  clear hb hg x1 xs
  unfold ins
  go_wp2_with fail
  refine (HN.out _ (HC.out.grown HG.out (by simp))).mono ?_
  rintro e w3 ⟨rfl, hg3⟩
  have HG3 := Lib.hid (HG.out.trans hg3)
  have x03 := hg3.cell (show (w2.alloc (insO op A B C imm)).cell? ⟨w2.heap.size, 0, none⟩ = some (.int .i64 op) by simp) (by simp)
  have x13 := hg3.cell HX1.out (by simp)
  have x23 := hg3.cell (show (w2.alloc (insO op A B C imm)).cell? ⟨w2.heap.size, 2, none⟩ = some (.int .i64 B) by simp) (by simp)
  have x33 := hg3.cell (show (w2.alloc (insO op A B C imm)).cell? ⟨w2.heap.size, 3, none⟩ = some (.int .i64 C) by simp) (by simp)
  have x43 := hg3.cell (show (w2.alloc (insO op A B C imm)).cell? ⟨w2.heap.size, 4, none⟩ = some (.int .i32 imm) by simp) (by simp)
  have hXs3 : w2.heap.size < w3.heap.size := Nat.lt_of_lt_of_le HXS.out hg3.size
  clear hg3
  generalize w2.heap.size = X at *
  go_wp2_with fail
  refine (HDO.out _ HG3.out).mono ?_
  rintro e w5 ⟨rfl, hV⟩
  have HV := Lib.hid hV
  clear hV
  go_wp2_with fail
  go_ret
  exact ⟨rfl, HV.out⟩
set_option maxRecDepth 100000 in
set_option maxHeartbeats 4000000 in
theorem rstep_load {W : World} {c M g n cap : Nat} {R : Nat → Int} {pc hole : Int} {f : Nat → Int} (h : CoreAt W c R pc) (hm : MemAt W M g n cap hole f) (pcn : Nat) (hpc : pc = pcn) (hlt : pcn < 262144) (h8 : pcn % 8 = 0) (hr : Reach n hole pcn 8) (x : Int) (hx : ldv (fun i => f (pcn + i)) 8 = x) (op imm : Int) (A B C : Nat)
    (hdec : ∀ w, Calls Try.prog 85 #[.int .u64 x] w fun e w' => e = .returned (.tuple #[ins op A B C imm, .bool true]) ∧ Below w.heap.size w w') (wd pl : Int) (hwd : 0 < wd) (hneed : ∀ w', CoreAt w' c R pc → Calls Try.prog 86 #[.pointer (some ⟨c, 0, none⟩), .agg #[.int .i64 op, .int .i64 A, .int .i64 B, .int .i64 C, .int .i32 imm]] w' fun e w2 => e = .returned (.tuple #[.int .i64 pl, .int .i64 wd, .bool false, .bool true]) ∧ w'.grownBy w2 none) (v : Int) (hl : ∀ w', W.grownBy w' none → Calls Try.prog 84 #[.pointer (some ⟨M, 0, none⟩), .int .i64 pl, .int .i64 wd] w' fun e w2 => e = .returned (.tuple #[.int .u64 v, .bool true]) ∧ w' = w2) (en : Int) (V : World → Prop) (hdo : ∀ w', W.grownBy w' none → Calls Try.prog 89 #[.pointer (some ⟨c, 0, none⟩), .agg #[.int .i64 op, .int .i64 A, .int .i64 B, .int .i64 C, .int .i32 imm], .int .u64 v] w' fun e w2 => e = .returned (.int .i64 en) ∧ V w2) :
    Calls Try.prog 65 #[.pointer (some ⟨c, 0, none⟩), .pointer (some ⟨M, 0, none⟩)] W fun e w' => e = .returned (.int .i64 en) ∧ V w' := by
  have hF := load_yes hm pcn 8 (by omega) (by omega) (by omega) hr
  rw [hx] at hF
  have HF := Lib.hid hF
  have HD := Lib.hid hdec
  have HC := Lib.hid h
  have cp := h.p
  have hlc := h.lt
  rw [hpc] at cp
  have g1 : decide (262144 ≤ (pcn : Int)) = false := by simp; omega
  have g2 : (pcn : Int).tmod 8 = 0 := by rw [Int.tmod_eq_emod_of_nonneg (by omega)]; omega
  have g4 : IntKind.i64.wrap (pcn : Int) = pcn := by rw [IntKind.wrap_i64]; omega
  have HN := Lib.hid hneed
  clear hneed
  have HDO := Lib.hid hdo
  clear hdo
  have HL := Lib.hid hl
  have hwg : decide (0 < wd) = true := by simpa using hwd
  clear hl
  clear h hm hr hpc h8 hF hx hdec
  go_enter Try.func65, Try.ntmps65
  go_wp2_with fail
  refine HF.out.mono ?_
  rintro e w' ⟨rfl, rfl⟩
  go_wp2_with fail
  refine (HD.out _).mono ?_
  rintro e w2 ⟨rfl, hb⟩
  have hg : W.grownBy (w2.alloc (insO op A B C imm)) none := grown_of_below (hb.alloc hb.size _) none
  have hz := hb.size
  have x1 : (w2.alloc (insO op A B C imm)).cell? ⟨w2.heap.size, 1, none⟩ = some (.int .i64 A) := by simp
  have xs : w2.heap.size < (w2.alloc (insO op A B C imm)).heap.size := by simp
  have HG := Lib.hid hg
  have HX1 := Lib.hid x1
  have HXS := Lib.hid xs
  have hcX : c ≠ w2.heap.size := by omega
  clear hb hg x1 xs
  unfold ins
  go_wp2_with fail
  refine (HN.out _ (HC.out.grown HG.out (by simp))).mono ?_
  rintro e w3 ⟨rfl, hg3⟩
  have HG3 := Lib.hid (HG.out.trans hg3)
  have x03 := hg3.cell (show (w2.alloc (insO op A B C imm)).cell? ⟨w2.heap.size, 0, none⟩ = some (.int .i64 op) by simp) (by simp)
  have x13 := hg3.cell HX1.out (by simp)
  have x23 := hg3.cell (show (w2.alloc (insO op A B C imm)).cell? ⟨w2.heap.size, 2, none⟩ = some (.int .i64 B) by simp) (by simp)
  have x33 := hg3.cell (show (w2.alloc (insO op A B C imm)).cell? ⟨w2.heap.size, 3, none⟩ = some (.int .i64 C) by simp) (by simp)
  have x43 := hg3.cell (show (w2.alloc (insO op A B C imm)).cell? ⟨w2.heap.size, 4, none⟩ = some (.int .i32 imm) by simp) (by simp)
  have hXs3 : w2.heap.size < w3.heap.size := Nat.lt_of_lt_of_le HXS.out hg3.size
  clear hg3
  generalize w2.heap.size = X at *
  go_wp2_with fail
  refine (HL.out _ HG3.out).mono ?_
  rintro e w4 ⟨rfl, rfl⟩
  go_wp2_with fail
  refine (HDO.out _ HG3.out).mono ?_
  rintro e w5 ⟨rfl, hV⟩
  have HV := Lib.hid hV
  clear hV
  go_wp2_with fail
  go_ret
  exact ⟨rfl, HV.out⟩
set_option maxRecDepth 100000 in
set_option maxHeartbeats 4000000 in
theorem rstep_load_no {W : World} {c M g n cap : Nat} {R : Nat → Int} {pc hole : Int} {f : Nat → Int} (h : CoreAt W c R pc) (hm : MemAt W M g n cap hole f) (pcn : Nat) (hpc : pc = pcn) (hlt : pcn < 262144) (h8 : pcn % 8 = 0) (hr : Reach n hole pcn 8) (x : Int) (hx : ldv (fun i => f (pcn + i)) 8 = x) (op imm : Int) (A B C : Nat)
    (hdec : ∀ w, Calls Try.prog 85 #[.int .u64 x] w fun e w' => e = .returned (.tuple #[ins op A B C imm, .bool true]) ∧ Below w.heap.size w w') (wd pl : Int) (hwd : 0 < wd) (hneed : ∀ w', CoreAt w' c R pc → Calls Try.prog 86 #[.pointer (some ⟨c, 0, none⟩), .agg #[.int .i64 op, .int .i64 A, .int .i64 B, .int .i64 C, .int .i32 imm]] w' fun e w2 => e = .returned (.tuple #[.int .i64 pl, .int .i64 wd, .bool false, .bool true]) ∧ w'.grownBy w2 none) (v : Int) (hl : ∀ w', W.grownBy w' none → Calls Try.prog 84 #[.pointer (some ⟨M, 0, none⟩), .int .i64 pl, .int .i64 wd] w' fun e w2 => e = .returned (.tuple #[.int .u64 v, .bool false]) ∧ w' = w2) :
    Calls Try.prog 65 #[.pointer (some ⟨c, 0, none⟩), .pointer (some ⟨M, 0, none⟩)] W fun e w' => e = .returned (.int .i64 3) ∧ W.grownBy w' none := by
  have hF := load_yes hm pcn 8 (by omega) (by omega) (by omega) hr
  rw [hx] at hF
  have HF := Lib.hid hF
  have HD := Lib.hid hdec
  have HC := Lib.hid h
  have cp := h.p
  have hlc := h.lt
  rw [hpc] at cp
  have g1 : decide (262144 ≤ (pcn : Int)) = false := by simp; omega
  have g2 : (pcn : Int).tmod 8 = 0 := by rw [Int.tmod_eq_emod_of_nonneg (by omega)]; omega
  have g4 : IntKind.i64.wrap (pcn : Int) = pcn := by rw [IntKind.wrap_i64]; omega
  have HN := Lib.hid hneed
  clear hneed
  have HL := Lib.hid hl
  have hwg : decide (0 < wd) = true := by simpa using hwd
  clear hl
  clear h hm hr hpc h8 hF hx hdec
  go_enter Try.func65, Try.ntmps65
  go_wp2_with fail
  refine HF.out.mono ?_
  rintro e w' ⟨rfl, rfl⟩
  go_wp2_with fail
  refine (HD.out _).mono ?_
  rintro e w2 ⟨rfl, hb⟩
  have hg : W.grownBy (w2.alloc (insO op A B C imm)) none := grown_of_below (hb.alloc hb.size _) none
  have hz := hb.size
  have x1 : (w2.alloc (insO op A B C imm)).cell? ⟨w2.heap.size, 1, none⟩ = some (.int .i64 A) := by simp
  have xs : w2.heap.size < (w2.alloc (insO op A B C imm)).heap.size := by simp
  have HG := Lib.hid hg
  have HX1 := Lib.hid x1
  have HXS := Lib.hid xs
  have hcX : c ≠ w2.heap.size := by omega
  clear hb hg x1 xs
  unfold ins
  go_wp2_with fail
  refine (HN.out _ (HC.out.grown HG.out (by simp))).mono ?_
  rintro e w3 ⟨rfl, hg3⟩
  have HG3 := Lib.hid (HG.out.trans hg3)
  have x03 := hg3.cell (show (w2.alloc (insO op A B C imm)).cell? ⟨w2.heap.size, 0, none⟩ = some (.int .i64 op) by simp) (by simp)
  have x13 := hg3.cell HX1.out (by simp)
  have x23 := hg3.cell (show (w2.alloc (insO op A B C imm)).cell? ⟨w2.heap.size, 2, none⟩ = some (.int .i64 B) by simp) (by simp)
  have x33 := hg3.cell (show (w2.alloc (insO op A B C imm)).cell? ⟨w2.heap.size, 3, none⟩ = some (.int .i64 C) by simp) (by simp)
  have x43 := hg3.cell (show (w2.alloc (insO op A B C imm)).cell? ⟨w2.heap.size, 4, none⟩ = some (.int .i32 imm) by simp) (by simp)
  have hXs3 : w2.heap.size < w3.heap.size := Nat.lt_of_lt_of_le HXS.out hg3.size
  clear hg3
  generalize w2.heap.size = X at *
  go_wp2_with fail
  refine (HL.out _ HG3.out).mono ?_
  rintro e w4 ⟨rfl, rfl⟩
  go_wp2_with fail
  go_ret
  exact ⟨rfl, HG3.out⟩
set_option maxRecDepth 100000 in
set_option maxHeartbeats 4000000 in
theorem rstep_store {W : World} {c M g n cap : Nat} {R : Nat → Int} {pc hole : Int} {f : Nat → Int} (h : CoreAt W c R pc) (hm : MemAt W M g n cap hole f) (pcn : Nat) (hpc : pc = pcn) (hlt : pcn < 262144) (h8 : pcn % 8 = 0) (hr : Reach n hole pcn 8) (x : Int) (hx : ldv (fun i => f (pcn + i)) 8 = x) (op imm : Int) (A B C : Nat)
    (hdec : ∀ w, Calls Try.prog 85 #[.int .u64 x] w fun e w' => e = .returned (.tuple #[ins op A B C imm, .bool true]) ∧ Below w.heap.size w w') (hA : A < 16) (wd pl v : Int) (hwd : 0 < wd) (hcg : c ≠ g) (hgz : g < W.heap.size) (hneed : ∀ w', CoreAt w' c R pc → Calls Try.prog 86 #[.pointer (some ⟨c, 0, none⟩), .agg #[.int .i64 op, .int .i64 A, .int .i64 B, .int .i64 C, .int .i32 imm]] w' fun e w2 => e = .returned (.tuple #[.int .i64 pl, .int .i64 wd, .bool true, .bool true]) ∧ w'.grownBy w2 none) (hlow : ∀ w, Calls Try.prog 88 #[.int .u64 (R A), .int .i64 wd] w fun e w' => e = .returned (.int .u64 v) ∧ w = w') (U : World → Prop) (hl : ∀ w', W.grownBy w' none → Calls Try.prog 87 #[.pointer (some ⟨M, 0, none⟩), .int .i64 pl, .int .i64 wd, .int .u64 v] w' fun e w2 => e = .returned (.bool true) ∧ U w2 ∧ w'.grownBy w2 (some g)) (en : Int) (V : World → Prop) (hdo : ∀ w', U w' → W.grownBy w' (some g) → Calls Try.prog 89 #[.pointer (some ⟨c, 0, none⟩), .agg #[.int .i64 op, .int .i64 A, .int .i64 B, .int .i64 C, .int .i32 imm], .int .u64 0] w' fun e w2 => e = .returned (.int .i64 en) ∧ V w2) :
    Calls Try.prog 65 #[.pointer (some ⟨c, 0, none⟩), .pointer (some ⟨M, 0, none⟩)] W fun e w' => e = .returned (.int .i64 en) ∧ V w' := by
  have hF := load_yes hm pcn 8 (by omega) (by omega) (by omega) hr
  rw [hx] at hF
  have HF := Lib.hid hF
  have HD := Lib.hid hdec
  have HC := Lib.hid h
  have cp := h.p
  have hlc := h.lt
  rw [hpc] at cp
  have g1 : decide (262144 ≤ (pcn : Int)) = false := by simp; omega
  have g2 : (pcn : Int).tmod 8 = 0 := by rw [Int.tmod_eq_emod_of_nonneg (by omega)]; omega
  have g4 : IntKind.i64.wrap (pcn : Int) = pcn := by rw [IntKind.wrap_i64]; omega
  have HN := Lib.hid hneed
  clear hneed
  have HDO := Lib.hid hdo
  clear hdo
  have HL := Lib.hid hl
  have HLOW := Lib.hid hlow
  have hwg : decide (0 < wd) = true := by simpa using hwd
  have hA0 : (0 : Int) ≤ (A : Int) := by omega
  have hA1 : (A : Int) < 16 := by omega
  clear hl hlow
  clear h hm hr hpc h8 hF hx hdec
  go_enter Try.func65, Try.ntmps65
  go_wp2_with fail
  refine HF.out.mono ?_
  rintro e w' ⟨rfl, rfl⟩
  go_wp2_with fail
  refine (HD.out _).mono ?_
  rintro e w2 ⟨rfl, hb⟩
  have hg : W.grownBy (w2.alloc (insO op A B C imm)) none := grown_of_below (hb.alloc hb.size _) none
  have hz := hb.size
  have x1 : (w2.alloc (insO op A B C imm)).cell? ⟨w2.heap.size, 1, none⟩ = some (.int .i64 A) := by simp
  have xs : w2.heap.size < (w2.alloc (insO op A B C imm)).heap.size := by simp
  have HG := Lib.hid hg
  have HX1 := Lib.hid x1
  have HXS := Lib.hid xs
  have hcX : c ≠ w2.heap.size := by omega
  clear hb hg x1 xs
  unfold ins
  go_wp2_with fail
  refine (HN.out _ (HC.out.grown HG.out (by simp))).mono ?_
  rintro e w3 ⟨rfl, hg3⟩
  have HG3 := Lib.hid (HG.out.trans hg3)
  have x03 := hg3.cell (show (w2.alloc (insO op A B C imm)).cell? ⟨w2.heap.size, 0, none⟩ = some (.int .i64 op) by simp) (by simp)
  have x13 := hg3.cell HX1.out (by simp)
  have x23 := hg3.cell (show (w2.alloc (insO op A B C imm)).cell? ⟨w2.heap.size, 2, none⟩ = some (.int .i64 B) by simp) (by simp)
  have x33 := hg3.cell (show (w2.alloc (insO op A B C imm)).cell? ⟨w2.heap.size, 3, none⟩ = some (.int .i64 C) by simp) (by simp)
  have x43 := hg3.cell (show (w2.alloc (insO op A B C imm)).cell? ⟨w2.heap.size, 4, none⟩ = some (.int .i32 imm) by simp) (by simp)
  have hXs3 : w2.heap.size < w3.heap.size := Nat.lt_of_lt_of_le HXS.out hg3.size
  clear hg3
  generalize w2.heap.size = X at *
  have hc3 := HC.out.grown HG3.out (by simp)
  have cA3 := hc3.r A hA
  have hXg : X ≠ g := by omega
  clear hc3
  go_wp2_with fail
  go_region_held3 (fun w' => w'.cell? ⟨X, 1, none⟩ = some (.int .i64 A) ∧ w'.cell? ⟨c, A, none⟩ = some (.int .u64 (R A))) (first | exact ⟨y1, yA⟩ | (go_keep; done) | assumption) (first | (go_at_call 88; refine (HLOW.out _).mono ?_; rintro e w6 ⟨rfl, rfl⟩) | (go_at_call 87; refine (HL.out w3.drew ⟨HG3.out.os, HG3.out.tape, HG3.out.output, HG3.out.size, HG3.out.block⟩).mono ?_; rintro e w7 ⟨rfl, hU, hg7⟩; have hgd : w3.grownBy w7 (some g) := (show w3.grownBy w3.drew none from ⟨rfl, rfl, rfl, Nat.le_refl _, fun _ _ _ => rfl⟩).but _ |>.trans hg7; have y1 := hgd.cell x13 (by simpa using hXg); have yA := hgd.cell cA3 (by simpa using hcg); have y0 := hgd.cell x03 (by simpa using hXg); have y2 := hgd.cell x23 (by simpa using hXg); have y3 := hgd.cell x33 (by simpa using hXg); have y4 := hgd.cell x43 (by simpa using hXg); have HG7 := Lib.hid ((HG3.out.but (some g)).trans hgd); have HU := Lib.hid hU; clear hU hg7 hgd) | fail)
  go_wp2_with fail
  refine (HDO.out _ HU.out HG7.out).mono ?_
  rintro e w5 ⟨rfl, hV⟩
  have HV := Lib.hid hV
  clear hV
  go_wp2_with fail
  go_ret
  exact ⟨rfl, HV.out⟩
set_option maxRecDepth 100000 in
set_option maxHeartbeats 4000000 in
theorem rstep_store_no {W : World} {c M g n cap : Nat} {R : Nat → Int} {pc hole : Int} {f : Nat → Int} (h : CoreAt W c R pc) (hm : MemAt W M g n cap hole f) (pcn : Nat) (hpc : pc = pcn) (hlt : pcn < 262144) (h8 : pcn % 8 = 0) (hr : Reach n hole pcn 8) (x : Int) (hx : ldv (fun i => f (pcn + i)) 8 = x) (op imm : Int) (A B C : Nat)
    (hdec : ∀ w, Calls Try.prog 85 #[.int .u64 x] w fun e w' => e = .returned (.tuple #[ins op A B C imm, .bool true]) ∧ Below w.heap.size w w') (hA : A < 16) (wd pl v : Int) (hwd : 0 < wd) (hcg : c ≠ g) (hgz : g < W.heap.size) (hneed : ∀ w', CoreAt w' c R pc → Calls Try.prog 86 #[.pointer (some ⟨c, 0, none⟩), .agg #[.int .i64 op, .int .i64 A, .int .i64 B, .int .i64 C, .int .i32 imm]] w' fun e w2 => e = .returned (.tuple #[.int .i64 pl, .int .i64 wd, .bool true, .bool true]) ∧ w'.grownBy w2 none) (hlow : ∀ w, Calls Try.prog 88 #[.int .u64 (R A), .int .i64 wd] w fun e w' => e = .returned (.int .u64 v) ∧ w = w') (U : World → Prop) (hl : ∀ w', W.grownBy w' none → Calls Try.prog 87 #[.pointer (some ⟨M, 0, none⟩), .int .i64 pl, .int .i64 wd, .int .u64 v] w' fun e w2 => e = .returned (.bool false) ∧ U w2 ∧ w'.grownBy w2 (some g)) :
    Calls Try.prog 65 #[.pointer (some ⟨c, 0, none⟩), .pointer (some ⟨M, 0, none⟩)] W fun e w' => e = .returned (.int .i64 3) ∧ U w' ∧ W.grownBy w' (some g) := by
  have hF := load_yes hm pcn 8 (by omega) (by omega) (by omega) hr
  rw [hx] at hF
  have HF := Lib.hid hF
  have HD := Lib.hid hdec
  have HC := Lib.hid h
  have cp := h.p
  have hlc := h.lt
  rw [hpc] at cp
  have g1 : decide (262144 ≤ (pcn : Int)) = false := by simp; omega
  have g2 : (pcn : Int).tmod 8 = 0 := by rw [Int.tmod_eq_emod_of_nonneg (by omega)]; omega
  have g4 : IntKind.i64.wrap (pcn : Int) = pcn := by rw [IntKind.wrap_i64]; omega
  have HN := Lib.hid hneed
  clear hneed
  have HL := Lib.hid hl
  have HLOW := Lib.hid hlow
  have hwg : decide (0 < wd) = true := by simpa using hwd
  have hA0 : (0 : Int) ≤ (A : Int) := by omega
  have hA1 : (A : Int) < 16 := by omega
  clear hl hlow
  clear h hm hr hpc h8 hF hx hdec
  go_enter Try.func65, Try.ntmps65
  go_wp2_with fail
  refine HF.out.mono ?_
  rintro e w' ⟨rfl, rfl⟩
  go_wp2_with fail
  refine (HD.out _).mono ?_
  rintro e w2 ⟨rfl, hb⟩
  have hg : W.grownBy (w2.alloc (insO op A B C imm)) none := grown_of_below (hb.alloc hb.size _) none
  have hz := hb.size
  have x1 : (w2.alloc (insO op A B C imm)).cell? ⟨w2.heap.size, 1, none⟩ = some (.int .i64 A) := by simp
  have xs : w2.heap.size < (w2.alloc (insO op A B C imm)).heap.size := by simp
  have HG := Lib.hid hg
  have HX1 := Lib.hid x1
  have HXS := Lib.hid xs
  have hcX : c ≠ w2.heap.size := by omega
  clear hb hg x1 xs
  unfold ins
  go_wp2_with fail
  refine (HN.out _ (HC.out.grown HG.out (by simp))).mono ?_
  rintro e w3 ⟨rfl, hg3⟩
  have HG3 := Lib.hid (HG.out.trans hg3)
  have x03 := hg3.cell (show (w2.alloc (insO op A B C imm)).cell? ⟨w2.heap.size, 0, none⟩ = some (.int .i64 op) by simp) (by simp)
  have x13 := hg3.cell HX1.out (by simp)
  have x23 := hg3.cell (show (w2.alloc (insO op A B C imm)).cell? ⟨w2.heap.size, 2, none⟩ = some (.int .i64 B) by simp) (by simp)
  have x33 := hg3.cell (show (w2.alloc (insO op A B C imm)).cell? ⟨w2.heap.size, 3, none⟩ = some (.int .i64 C) by simp) (by simp)
  have x43 := hg3.cell (show (w2.alloc (insO op A B C imm)).cell? ⟨w2.heap.size, 4, none⟩ = some (.int .i32 imm) by simp) (by simp)
  have hXs3 : w2.heap.size < w3.heap.size := Nat.lt_of_lt_of_le HXS.out hg3.size
  clear hg3
  generalize w2.heap.size = X at *
  have hc3 := HC.out.grown HG3.out (by simp)
  have cA3 := hc3.r A hA
  have hXg : X ≠ g := by omega
  clear hc3
  go_wp2_with fail
  go_region_held3 (fun w' => w'.cell? ⟨X, 1, none⟩ = some (.int .i64 A) ∧ w'.cell? ⟨c, A, none⟩ = some (.int .u64 (R A))) (first | exact ⟨y1, yA⟩ | (go_keep; done) | assumption) (first | (go_at_call 88; refine (HLOW.out _).mono ?_; rintro e w6 ⟨rfl, rfl⟩) | (go_at_call 87; refine (HL.out w3.drew ⟨HG3.out.os, HG3.out.tape, HG3.out.output, HG3.out.size, HG3.out.block⟩).mono ?_; rintro e w7 ⟨rfl, hU, hg7⟩; have hgd : w3.grownBy w7 (some g) := (show w3.grownBy w3.drew none from ⟨rfl, rfl, rfl, Nat.le_refl _, fun _ _ _ => rfl⟩).but _ |>.trans hg7; have y1 := hgd.cell x13 (by simpa using hXg); have yA := hgd.cell cA3 (by simpa using hcg); have y0 := hgd.cell x03 (by simpa using hXg); have y2 := hgd.cell x23 (by simpa using hXg); have y3 := hgd.cell x33 (by simpa using hXg); have y4 := hgd.cell x43 (by simpa using hXg); have HG7 := Lib.hid ((HG3.out.but (some g)).trans hgd); have HU := Lib.hid hU; clear hU hg7 hgd) | fail)
  go_wp2_with fail
  go_ret
  exact ⟨rfl, HU.out, HG7.out⟩
end Go.Proofs.Ytelgmffmekfndaa
