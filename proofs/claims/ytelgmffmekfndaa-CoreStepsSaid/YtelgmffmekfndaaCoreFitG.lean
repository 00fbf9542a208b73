/- A step of an instruction whose bytes lie in the memory; the fit of chapter 9. Conditions: as each theorem names them. -/
import Derived.Test.YtelgmffmekfndaaCoreCopyG
import Derived.Deep.OwnRows
set_option linter.unusedVariables false
namespace Go.Proofs.Ytelgmffmekfndaa
open Go.ChangeShapes Go.WideShapes Go.ChangeAt Go.RowKit

/-- an instruction as it is written -/
structure Code1 (op : Int) (A B C : Nat) (imm : Int) : Prop where
  o1 : 1 ≤ op
  o2 : op < 44
  hA : A < 16
  hB : B < 16
  hC : C < 16
  j0 : -2147483648 ≤ imm
  j1 : imm ≤ 2147483647

theorem step_coded {n : Nat} {hole : Int} {R R' : Nat → Int} {pc : Int} {f f' : Nat → Int} {pcn : Nat} {op : Int} {A B C : Nat} {imm : Int} (K : Code1 op A B C imm) (hf : ∀ i, 0 ≤ f i ∧ f i ≤ 255) (hpc : pc = pcn) (hlt : pcn < 262144) (h8 : pcn % 8 = 0) (hr : Reach n hole pcn 8)
    (hc : ∀ i, i < 8 → f (pcn + i) = encB op A B C imm i) (en nxt : Int) (h0 : 0 ≤ en) (hb : 0 ≤ nxt ∧ nxt < 18446744073709551616)
    (ho : ∀ W c M g cap, St W c M g n cap hole R pc f → Calls Try.prog 83 #[.pointer (some ⟨c, 0, none⟩), insV op A B C imm, .iface 52 (.pointer (some ⟨M, 0, none⟩))] W fun e w' => e = .returned (.tuple #[.int .u64 nxt, .int .i64 en]) ∧ St w' c M g n cap hole R' pc f' ∧ Kept2 c g W w')
    {W : World} {c M g cap : Nat} (h : St W c M g n cap hole R pc f) :
    Calls Try.prog 64 #[.pointer (some ⟨c, 0, none⟩), .iface 52 (.pointer (some ⟨M, 0, none⟩))] W fun e w' => e = .returned (.int .i64 en) ∧ St w' c M g n cap hole R' (pcOf en nxt pc) f' ∧ Kept2 c g W w' := by
  obtain ⟨o1, o2, hA, hB, hC, j0, j1⟩ := K
  have hb8 := ldv_bd (fun i => f (pcn + i)) (fun i => hf _) 8 (by omega)
  have hs : ∀ i, i < 8 → stb (ldv (fun i => f (pcn + i)) 8) 8 i = encB op A B C imm i := fun i hi => by
    rw [ldv_lds _ (fun i => hf _) 8 (by omega), stb_lds _ (fun i => hf _) 8 i hi, hc i hi]
  have s0 : stb (ldv (fun i => f (pcn + i)) 8) 8 0 = op := by rw [hs 0 (by omega)]; simp only [encB]; omega
  have s1 : stb (ldv (fun i => f (pcn + i)) 8) 8 1 = A := by rw [hs 1 (by omega)]; simp only [encB]; omega
  have s2 : stb (ldv (fun i => f (pcn + i)) 8) 8 2 = B := by rw [hs 2 (by omega)]; simp only [encB]; omega
  have s3 : stb (ldv (fun i => f (pcn + i)) 8) 8 3 = C := by rw [hs 3 (by omega)]; simp only [encB]; omega
  have s4 : immOf (stb (ldv (fun i => f (pcn + i)) 8) 8 4) (stb (ldv (fun i => f (pcn + i)) 8) 8 5) (stb (ldv (fun i => f (pcn + i)) 8) 8 6) (stb (ldv (fun i => f (pcn + i)) 8) 8 7) = imm := by
    rw [hs 4 (by omega), hs 5 (by omega), hs 6 (by omega), hs 7 (by omega), immOf_sum _ _ _ _ (encB_bd _ _ _ _ _ _) (encB_bd _ _ _ _ _ _) (encB_bd _ _ _ _ _ _) (encB_bd _ _ _ _ _ _)]
    simp only [encB]
    unfold wrap32
    omega
  refine step_of_one hpc hlt h8 hr rfl hb8.1 hb8.2 ?_ en nxt h0 hb ?_ h
  · rw [s0, s1, s2, s3]
    exact ⟨by omega, by omega, by omega, o1, o2⟩
  · intro W c M g cap h
    rw [s0, s1, s2, s3, s4]
    exact ho W c M g cap h

theorem ran_ho {n : Nat} {hole : Int} {R R' : Nat → Int} {pc : Int} {f : Nat → Int} {op : Int} {A B C : Nat} {imm en nxt : Int}
    (hone : ∀ W c m, CoreAt W c R pc → Calls Try.prog 83 #[.pointer (some ⟨c, 0, none⟩), insV op A B C imm, m] W fun e w' => e = .returned (.tuple #[.int .u64 nxt, .int .i64 en]) ∧ Ran c R' pc W w') :
    ∀ W c M g cap, St W c M g n cap hole R pc f → Calls Try.prog 83 #[.pointer (some ⟨c, 0, none⟩), insV op A B C imm, .iface 52 (.pointer (some ⟨M, 0, none⟩))] W fun e w' => e = .returned (.tuple #[.int .u64 nxt, .int .i64 en]) ∧ St w' c M g n cap hole R' pc f ∧ Kept2 c g W w' :=
  fun W c M g cap h => (hone W c _ h.core).mono fun e w' ⟨he, hr⟩ => ⟨he, h.ran hr, kept2_c hr.env⟩

theorem info5 : (Try.prog.info? 5).map (fun i => (i.zero, i.size, i.bytes)) = some (some (.int .u8 0), 1, 1) := by kernel_rfl
theorem make_bytes (n : Nat) (hn : n ≤ 1000000) (w : World) : (Instr.makeSlice 48 (.int .i64 (n : Int)) (.int .i64 (n : Int))).run Try.prog w = .ok (.slice (some ⟨w.heap.size, 0, none⟩) n n) (w.alloc (.cells (madeCells #[.int .u8 0] n) 5)) :=
  run_make_row' 48 5 (.int .u8 0) 1 Try.underlying48 info5 rfl .i64 .i64 n (by omega) (by omega) w
theorem made_at (n i : Nat) (h : i < n) : (madeCells #[.int .u8 0] n)[i]? = some (.int .u8 0) := by
  unfold madeCells
  rw [Array.getElem?_map, Array.getElem?_range]
  simp [h, Nat.mod_one]
/-- the memory that was made -/
theorem mem_new (W : World) (n : Nat) (hole : Int) (hn : n ≤ 1000000) (hb : -9223372036854775808 ≤ hole ∧ hole ≤ 9223372036854775807) :
    MemAt ((W.alloc (.cells (madeCells #[.int .u8 0] n) 5)).alloc (.cells #[.slice (some ⟨W.heap.size, 0, none⟩) n n, .int .i64 hole] 54)) (W.heap.size + 1) W.heap.size n n hole (fun _ => 0) := by
  refine ⟨by simp, by simp, fun i hi => ?_, fun i => by omega, fun i => by simp, Nat.le_refl _, hn, hb⟩
  rw [World.cell?_of_block (a := ⟨W.heap.size, i, none⟩) (Below.heap_alloc _ _ _ (by simp)), World.cell?_alloc_new]
  exact made_at n i hi
/-- a core that was made -/
theorem core_new (W : World) (pc : Int) (t : TypeId) (hp : 0 ≤ pc ∧ pc < 18446744073709551616) :
    CoreAt (W.alloc (.cells #[.int .u64 0, .int .u64 0, .int .u64 0, .int .u64 0, .int .u64 0, .int .u64 0, .int .u64 0, .int .u64 0, .int .u64 0, .int .u64 0, .int .u64 0, .int .u64 0, .int .u64 0, .int .u64 0, .int .u64 0, .int .u64 0, .int .u64 pc] t)) W.heap.size (fun _ => 0) pc := by
  refine ⟨fun i hi => ?_, by simp, fun i => by omega, hp, fun i => by simp, by simp⟩
  rcases (by omega : i = 0 ∨ i = 1 ∨ i = 2 ∨ i = 3 ∨ i = 4 ∨ i = 5 ∨ i = 6 ∨ i = 7 ∨ i = 8 ∨ i = 9 ∨ i = 10 ∨ i = 11 ∨ i = 12 ∨ i = 13 ∨ i = 14 ∨ i = 15) with rfl | rfl | rfl | rfl | rfl | rfl | rfl | rfl | rfl | rfl | rfl | rfl | rfl | rfl | rfl | rfl <;> simp
theorem below_kept2 {W w1 w2 : World} {c g : Nat} (h : Below W.heap.size W w1) (k : Kept2 c g w1 w2) (hc : W.heap.size ≤ c) (hg : W.heap.size ≤ g) : Below W.heap.size W w2 :=
  ⟨k.os.trans h.os, k.tape.trans h.tape, k.output.trans h.output, Nat.le_trans h.size k.size, fun i hi => (k.block i (Nat.lt_of_lt_of_le hi h.size) (by omega) (by omega)).trans (h.block i hi)⟩
theorem below_grown {W w1 w2 : World} {g : Nat} (h : Below W.heap.size W w1) (k : w1.grownBy w2 (some g)) (hg : W.heap.size ≤ g) : Below W.heap.size W w2 :=
  ⟨k.os.trans h.os, k.tape.trans h.tape, k.output.trans h.output, Nat.le_trans h.size k.size, fun i hi => (k.block i (Nat.lt_of_lt_of_le hi h.size) (by simp; omega)).trans (h.block i hi)⟩

set_option maxRecDepth 100000 in
set_option maxHeartbeats 2000000 in
theorem fit09_any (w : World) : Calls Try.prog 62 #[] w fun e w' => e = .returned (.bool true) ∧ Below w.heap.size w w' := by
  have hmk : ∀ w, (Instr.makeSlice 48 (.int .i64 64) (.int .i64 64)).run Try.prog w = .ok (.slice (some ⟨w.heap.size, 0, none⟩) 64 64) (w.alloc (.cells (madeCells #[.int .u8 0] 64) 5)) := make_bytes 64 (by omega)
  have hm := mem_new w 64 0 (by omega) (by omega)
  have hbl : Below w.heap.size w ((w.alloc (.cells (madeCells #[.int .u8 0] 64) 5)).alloc (.cells #[.slice (some ⟨w.heap.size, 0, none⟩) 64 64, .int .i64 0] 54)) := ((Below.refl _ w).alloc (Nat.le_refl _) _).alloc (by simp) _
  have hsz : ((w.alloc (.cells (madeCells #[.int .u8 0] 64) 5)).alloc (.cells #[.slice (some ⟨w.heap.size, 0, none⟩) 64 64, .int .i64 0] 54)).heap.size = w.heap.size + 2 := by simp
  have HM := Lib.hid hm
  have HB := Lib.hid hbl
  have HS := Lib.hid hsz
  clear hm hbl hsz
  go_enter Try.func62, Try.ntmps62
  go_wp2_with fail
  refine copy62 (w.heap.size + 1) w.heap.size 64 64 0 (fun _ => 0) _ HM.out (by omega) (by rw [HS.out]; omega) (by omega) (by omega) HM.out.cb (by omega) _ rfl rfl _ ?_
  intro b9 w2 hcp
  have hb2 := below_grown HB.out.drew hcp.env (by omega)
  have hz2 : w.heap.size + 2 ≤ w2.heap.size := by have h1 := hcp.env.size; have h2 := HS.out; simp at h1 h2; omega
  have hst : St (w2.alloc (.cells #[.int .u64 0, .int .u64 0, .int .u64 0, .int .u64 0, .int .u64 0, .int .u64 0, .int .u64 0, .int .u64 0, .int .u64 0, .int .u64 0, .int .u64 0, .int .u64 0, .int .u64 0, .int .u64 0, .int .u64 0, .int .u64 0, .int .u64 8] 57)) w2.heap.size (w.heap.size + 1) w.heap.size 64 64 0 (fun _ => 0) 8 (layL (fun _ => 0) 8 (encL 29 15 0 0 2)) :=
    ⟨core_new w2 8 57 (by omega), hcp.mem.grown (World.grownBy_alloc _ _ none) (by simp) (by simp) (by omega), by omega, by omega, by omega, by simp; omega⟩
  have hcode : Code1 29 15 0 0 2 := ⟨by omega, by omega, by omega, by omega, by omega, by omega, by omega⟩
  have hrun := step_coded hcode hst.mem.rg (pc := 8) (pcn := 8) rfl (by omega) (by omega) ⟨by omega, .inl rfl⟩ (fun i hi => by rw [layL_in _ _ 8 i (by simpa [encL] using hi)]; exact encL_at 29 15 0 0 2 i hi) 0 (fr 8 2) (by omega) (fr_bd 8 2) (ran_ho (fun W c m h => one_jal h 15 0 0 (by omega) (by omega) (by omega) 2 (by omega) (by omega) m)) hst
  have HRUN := Lib.hid hrun
  have HB2 := Lib.hid (hb2.alloc (by omega) (.cells #[.int .u64 0, .int .u64 0, .int .u64 0, .int .u64 0, .int .u64 0, .int .u64 0, .int .u64 0, .int .u64 0, .int .u64 0, .int .u64 0, .int .u64 0, .int .u64 0, .int .u64 0, .int .u64 0, .int .u64 0, .int .u64 0, .int .u64 8] 57))
  clear hrun hst hb2 hcp hmk
  simp only [Act.put, List.setIfInBounds_toArray, List.set_cons_succ, List.set_cons_zero]
  go_wp2_with fail
  refine HRUN.out.mono ?_
  rintro e w4 ⟨rfl, hS, hk⟩
  have e15 : (if 15 = 15 then nx 8 else 0) = 16 := by rw [if_pos rfl]; unfold nx; rw [IntKind.wrap_u64]; rfl
  have e24 : pcOf 0 (fr 8 2) 8 = 24 := by rw [pcOf_go]; unfold fr; rw [IntKind.wrap_u64, IntKind.wrap_u64, IntKind.wrap_u64]; rfl
  have c15 := hS.core.r 15 (by omega)
  have c16 := hS.core.p
  rw [e24] at c16
  replace c15 : w4.cell? ⟨w2.heap.size, 15, none⟩ = some (.int .u64 16) := c15.trans (by rw [← e15])
  have HK := Lib.hid (below_kept2 HB2.out hk (by omega) (by omega))
  clear hS hk e15 e24
  go_wp2_with fail
  go_ret
  exact ⟨rfl, HK.out⟩
end Go.Proofs.Ytelgmffmekfndaa
