/- An instruction: core.one and the document's step do the same. Conditions: as each theorem names them. Loads and stores: core.one and the document's step do the same; a step as a whole. Conditions: as each theorem names them. -/
import Derived.Test.YtelgmffmekfndaaCoreRStepG
import Derived.Test.YtelgmffmekfndaaCoreStepG
import Derived.Test.YtelgmffmekfndaaCoreDosG
import Derived.Test.YtelgmffmekfndaaCoreOneMG
import Derived.Test.YtelgmffmekfndaaCoreStoreG
import Derived.Test.YtelgmffmekfndaaAluBoundG
set_option linter.unusedVariables false
namespace Go.Proofs.Ytelgmffmekfndaa
open Go.ChangeShapes Go.WideShapes Go.ChangeAt Go.RowKit

theorem MemAt.grown {W W' : World} {M g n cap : Nat} {hole : Int} {f : Nat → Int} {row : Option Nat} (h : MemAt W M g n cap hole f) (hg : W.grownBy W' row) (hM : some M ≠ row) (hr : some g ≠ row) (gz : g < W.heap.size) : MemAt W' M g n cap hole f :=
  ⟨hg.cell h.cb hM, hg.cell h.ch hM, fun i hi => hg.cell (h.by' i hi) hr, h.rg, fun i => (hg.frozen_far ⟨g, i, none⟩ gz hr).trans (h.fz i), h.nc, h.nb, h.hb⟩

/-- a core and a memory -/
structure St (W : World) (c M g n cap : Nat) (hole : Int) (R : Nat → Int) (pc : Int) (f : Nat → Int) : Prop where
  core : CoreAt W c R pc
  mem : MemAt W M g n cap hole f
  cM : c ≠ M
  cg : c ≠ g
  Mg : M ≠ g
  gz : g < W.heap.size
/-- all but two blocks are as they were -/
structure Kept2 (c g : Nat) (W W' : World) : Prop where
  os : W'.os = W.os
  tape : W'.tape = W.tape
  output : W'.output = W.output
  size : W.heap.size ≤ W'.heap.size
  block : ∀ k, k < W.heap.size → k ≠ c → k ≠ g → W'.heap[k]? = W.heap[k]?
theorem Kept2.refl (c g : Nat) (W : World) : Kept2 c g W W := ⟨rfl, rfl, rfl, Nat.le_refl _, fun _ _ _ _ => rfl⟩
theorem Kept2.trans {c g : Nat} {W W1 W2 : World} (h : Kept2 c g W W1) (k : Kept2 c g W1 W2) : Kept2 c g W W2 :=
  ⟨k.os.trans h.os, k.tape.trans h.tape, k.output.trans h.output, Nat.le_trans h.size k.size, fun i hi hc hg => (k.block i (Nat.lt_of_lt_of_le hi h.size) hc hg).trans (h.block i hi hc hg)⟩
theorem kept2_c {c g : Nat} {W W' : World} (h : W.grownBy W' (some c)) : Kept2 c g W W' := ⟨h.os, h.tape, h.output, h.size, fun k hk hc _ => h.block k hk (by simpa using hc)⟩
theorem kept2_g {c g : Nat} {W W' : World} (h : W.grownBy W' (some g)) : Kept2 c g W W' := ⟨h.os, h.tape, h.output, h.size, fun k hk _ hg => h.block k hk (by simpa using hg)⟩
theorem kept2_n {c g : Nat} {W W' : World} (h : W.grownBy W' none) : Kept2 c g W W' := ⟨h.os, h.tape, h.output, h.size, fun k hk _ _ => h.block k hk (by simp)⟩

variable {W W' : World} {c M g n cap : Nat} {hole : Int} {R R' : Nat → Int} {pc pc' : Int} {f f' : Nat → Int}
theorem St.none (h : St W c M g n cap hole R pc f) (hg : W.grownBy W' none) : St W' c M g n cap hole R pc f :=
  ⟨h.core.grown hg (by simp), h.mem.grown hg (by simp) (by simp) h.gz, h.cM, h.cg, h.Mg, Nat.lt_of_lt_of_le h.gz hg.size⟩
theorem St.ran (h : St W c M g n cap hole R pc f) (hr : Ran c R' pc' W W') : St W' c M g n cap hole R' pc' f :=
  ⟨hr.at', h.mem.grown hr.env (by simpa using fun e : M = c => h.cM e.symm) (by simpa using fun e : g = c => h.cg e.symm) h.gz, h.cM, h.cg, h.Mg, Nat.lt_of_lt_of_le h.gz hr.env.size⟩
theorem St.stored (h : St W c M g n cap hole R pc f) (hm : MemAt W' M g n cap hole f') (hg : W.grownBy W' (some g)) : St W' c M g n cap hole R pc f' :=
  ⟨h.core.grown hg (by simpa using h.cg), hm, h.cM, h.cg, h.Mg, Nat.lt_of_lt_of_le h.gz hg.size⟩

/-- the place behind an instruction -/
def pcOf (en nxt pc : Int) : Int := if en ≤ 1 then nxt else pc
/-- an instruction's arguments -/
def insV (op : Int) (A B C : Nat) (imm : Int) : Value := .agg #[.int .i64 op, .int .i64 A, .int .i64 B, .int .i64 C, .int .i32 imm]

/-- what one does, and what the document's step does -/
def InsAlike (n : Nat) (hole : Int) (R : Nat → Int) (pc : Int) (f : Nat → Int) (op : Int) (A B C : Nat) (imm : Int) : Prop :=
  ∃ (en nxt : Int) (R' f' : Nat → Int), (2 ≤ en → R' = R ∧ f' = f) ∧ 0 ≤ en ∧ (0 ≤ nxt ∧ nxt < 18446744073709551616) ∧
    (∀ W c M g cap, St W c M g n cap hole R pc f → Calls Try.prog 83 #[.pointer (some ⟨c, 0, none⟩), insV op A B C imm, .iface 52 (.pointer (some ⟨M, 0, none⟩))] W fun e w' => e = .returned (.tuple #[.int .u64 nxt, .int .i64 en]) ∧ St w' c M g n cap hole R' pc f' ∧ Kept2 c g W w') ∧
    ∀ W c M g cap, St W c M g n cap hole R pc f → Calls Try.prog 65 #[.pointer (some ⟨c, 0, none⟩), .pointer (some ⟨M, 0, none⟩)] W fun e w' => e = .returned (.int .i64 en) ∧ St w' c M g n cap hole R' (pcOf en nxt pc) f' ∧ Kept2 c g W w'

/-- the instruction that is fetched -/
structure Fetched (n : Nat) (hole : Int) (pc : Int) (f : Nat → Int) (op : Int) (A B C : Nat) (imm : Int) (pcn : Nat) (x : Int) : Prop where
  hpc : pc = pcn
  lt : pcn < 262144
  h8 : pcn % 8 = 0
  hr : Reach n hole pcn 8
  hx : ldv (fun i => f (pcn + i)) 8 = x
  hdec : ∀ w, Calls Try.prog 85 #[.int .u64 x] w fun e w' => e = .returned (.tuple #[ins op A B C imm, .bool true]) ∧ Below w.heap.size w w'
  hA : A < 16
  hB : B < 16
  hC : C < 16
  j0 : -2147483648 ≤ imm
  j1 : imm ≤ 2147483647

section
variable {op imm : Int} {A B C pcn : Nat} {x : Int}
theorem plain_alike (F : Fetched n hole pc f op A B C imm pcn x) (en nxt : Int) (h2 : 2 ≤ en → R' = R) (h0 : 0 ≤ en) (hb : 0 ≤ nxt ∧ nxt < 18446744073709551616) (hop : op < 19 ∨ 24 < op)
    (hone : ∀ W c m, CoreAt W c R pc → Calls Try.prog 83 #[.pointer (some ⟨c, 0, none⟩), insV op A B C imm, m] W fun e w' => e = .returned (.tuple #[.int .u64 nxt, .int .i64 en]) ∧ Ran c R' pc W w')
    (hdo : ∀ W c, CoreAt W c R pc → Calls Try.prog 89 #[.pointer (some ⟨c, 0, none⟩), insV op A B C imm, .int .u64 0] W fun e w' => e = .returned (.int .i64 en) ∧ Ran c R' (pcOf en nxt pc) W w') :
    InsAlike n hole R pc f op A B C imm := by
  refine ⟨en, nxt, R', f, fun h => ⟨h2 h, rfl⟩, h0, hb, fun W c M g cap h => (hone W c _ h.core).mono fun e w' ⟨he, hr⟩ => ⟨he, h.ran hr, kept2_c hr.env⟩, fun W c M g cap h => ?_⟩
  have bf : ∀ k : Int, 19 ≤ k → k ≤ 24 → (op == k) = false := fun k k1 k2 => by rw [beq_eq_false_iff_ne]; omega
  refine (rstep_plain h.core h.mem pcn F.hpc F.lt F.h8 F.hr x F.hx op imm A B C F.hdec (fun w' hc => need_none hc op A B C imm (rwidth_none op (bf 19 (by omega) (by omega)) (bf 20 (by omega) (by omega)) (bf 21 (by omega) (by omega)) (bf 22 (by omega) (by omega)) (bf 23 (by omega) (by omega)) (bf 24 (by omega) (by omega)))) en (fun w' => St w' c M g n cap hole R' (pcOf en nxt pc) f ∧ Kept2 c g W w') (fun w' hg => ?_)).mono fun e w' h => h
  have h' := h.none hg
  exact (hdo w' c h'.core).mono fun e w2 ⟨he, hr⟩ => ⟨he, h'.ran hr, (kept2_n hg).trans (kept2_c hr.env)⟩

theorem pcOf_go (nxt pc : Int) : pcOf 0 nxt pc = nxt := by unfold pcOf; rw [if_pos (by omega)]
theorem pcOf_trap (nxt pc : Int) : pcOf 1 nxt pc = nxt := by unfold pcOf; rw [if_pos (by omega)]
theorem pcOf_end (en nxt pc : Int) (h : 2 ≤ en) : pcOf en nxt pc = pc := by unfold pcOf; rw [if_neg (by omega)]
theorem fr_bd (pc imm : Int) : 0 ≤ fr pc imm ∧ fr pc imm < 18446744073709551616 := by unfold fr; rw [IntKind.wrap_u64]; omega

theorem alike_halt (F : Fetched n hole pc f 1 A B C imm pcn x) : InsAlike n hole R pc f 1 A B C imm :=
  plain_alike F 2 (nx pc) (fun _ => rfl) (by omega) (nx_bd pc) (by omega) (fun W c m h => one_halt h A B C F.hA F.hB F.hC imm F.j0 F.j1 m) (fun W c h => by rw [pcOf_end _ _ _ (by omega)]; exact do_halt h A B C F.hA F.hB F.hC imm F.j0 F.j1 0)
theorem alike_trap (F : Fetched n hole pc f 43 A B C imm pcn x) : InsAlike n hole R pc f 43 A B C imm :=
  plain_alike F 1 (nx pc) (fun _ => rfl) (by omega) (nx_bd pc) (by omega) (fun W c m h => one_trap h A B C F.hA F.hB F.hC imm F.j0 F.j1 m) (fun W c h => by rw [pcOf_trap]; exact do_trap h A B C F.hA F.hB F.hC imm F.j0 F.j1 0)
theorem alike_li (F : Fetched n hole pc f 2 A B C imm pcn x) : InsAlike n hole R pc f 2 A B C imm :=
  plain_alike F 0 (nx pc) (fun h => by omega) (by omega) (nx_bd pc) (by omega) (fun W c m h => one_li h A B C F.hA F.hB F.hC imm F.j0 F.j1 m) (fun W c h => by rw [pcOf_go]; exact do_li h A B C F.hA F.hB F.hC imm F.j0 F.j1 0)
theorem alike_addi (F : Fetched n hole pc f 18 A B C imm pcn x) : InsAlike n hole R pc f 18 A B C imm :=
  plain_alike F 0 (nx pc) (fun h => by omega) (by omega) (nx_bd pc) (by omega) (fun W c m h => one_addi h A B C F.hA F.hB F.hC imm F.j0 F.j1 m) (fun W c h => by rw [pcOf_go]; exact do_addi h A B C F.hA F.hB F.hC imm F.j0 F.j1 0)
theorem alike_jal (F : Fetched n hole pc f 29 A B C imm pcn x) : InsAlike n hole R pc f 29 A B C imm :=
  plain_alike F 0 (fr pc imm) (fun h => by omega) (by omega) (fr_bd pc imm) (by omega) (fun W c m h => one_jal h A B C F.hA F.hB F.hC imm F.j0 F.j1 m) (fun W c h => by rw [pcOf_go]; exact do_jal h A B C F.hA F.hB F.hC imm F.j0 F.j1 0)
theorem alike_jr (hR : ∀ i, 0 ≤ R i ∧ R i < 18446744073709551616) (F : Fetched n hole pc f 30 A B C imm pcn x) : InsAlike n hole R pc f 30 A B C imm :=
  plain_alike F 0 (R A) (fun h => by omega) (by omega) (hR A) (by omega) (fun W c m h => one_jr h A B C F.hA F.hB F.hC imm F.j0 F.j1 m) (fun W c h => by rw [pcOf_go]; exact do_jr h A B C F.hA F.hB F.hC imm F.j0 F.j1 0)
theorem alike_hi (hR : ∀ i, 0 ≤ R i ∧ R i < 18446744073709551616) (F : Fetched n hole pc f 3 A B C imm pcn x) : InsAlike n hole R pc f 3 A B C imm := by
  have e : hiOf (R A) imm = hiR (R A) imm := hi_same (R A) imm (hR A).1 (hR A).2
  have hb : 0 ≤ hiOf (R A) imm ∧ hiOf (R A) imm < 18446744073709551616 := by rw [e]; unfold hiR; rw [IntKind.wrap_u64]; omega
  exact plain_alike F 0 (nx pc) (fun h => by omega) (by omega) (nx_bd pc) (by omega) (fun W c m h => one_hi h A B C F.hA F.hB F.hC imm F.j0 F.j1 m hb) (fun W c h => by rw [pcOf_go, e]; exact do_hi h A B C F.hA F.hB F.hC imm F.j0 F.j1 0)
theorem br_bd (t : Bool) (pc imm : Int) : 0 ≤ (if t then fr pc imm else nx pc) ∧ (if t then fr pc imm else nx pc) < 18446744073709551616 := by
  cases t
  · exact nx_bd pc
  · exact fr_bd pc imm
theorem alike_br (hR : ∀ i, 0 ≤ R i ∧ R i < 18446744073709551616) (o25 : 25 ≤ op) (o28 : op ≤ 28) (F : Fetched n hole pc f op A B C imm pcn x) : InsAlike n hole R pc f op A B C imm := by
  obtain ⟨t, h1, h2⟩ := takes_alike op (R A) (R B) (hR A).1 (hR A).2 (hR B).1 (hR B).2
  refine plain_alike F 0 (if t then fr pc imm else nx pc) (fun h => by omega) (by omega) (br_bd t pc imm) (by omega) (fun W c m h => ?_) (fun W c h => by rw [pcOf_go]; exact do_br h A B C F.hA F.hB F.hC imm F.j0 F.j1 0 op h2 o25 o28)
  rcases (by omega : op = 25 ∨ op = 26 ∨ op = 27 ∨ op = 28) with rfl | rfl | rfl | rfl
  · exact one_b25 h A B C F.hA F.hB F.hC imm F.j0 F.j1 m h1
  · exact one_b26 h A B C F.hA F.hB F.hC imm F.j0 F.j1 m h1
  · exact one_b27 h A B C F.hA F.hB F.hC imm F.j0 F.j1 m h1
  · exact one_b28 h A B C F.hA F.hB F.hC imm F.j0 F.j1 m h1
theorem alike_low (hR : ∀ i, 0 ≤ R i ∧ R i < 18446744073709551616) (o4 : 4 ≤ op) (o17 : op ≤ 17) (F : Fetched n hole pc f op A B C imm pcn x) : InsAlike n hole R pc f op A B C imm := by
  obtain ⟨v, ok, hv, h1, h2⟩ := alikeB op (R B) (R C) (hR B).1 (hR B).2 (hR C).1 (hR C).2
  cases ok
  · exact plain_alike F 5 (nx pc) (fun _ => rfl) (by omega) (nx_bd pc) (by omega) (fun W c m h => one_low_no h A B C F.hA F.hB F.hC imm F.j0 F.j1 m op v hv.1 hv.2 h1 o4 o17) (fun W c h => by rw [pcOf_end _ _ _ (by omega)]; exact do_low_no h A B C F.hA F.hB F.hC imm F.j0 F.j1 0 op v hv h2 o4 o17)
  · exact plain_alike F 0 (nx pc) (fun h => by omega) (by omega) (nx_bd pc) (by omega) (fun W c m h => one_low h A B C F.hA F.hB F.hC imm F.j0 F.j1 m op v hv.1 hv.2 h1 o4 o17) (fun W c h => by rw [pcOf_go]; exact do_low h A B C F.hA F.hB F.hC imm F.j0 F.j1 0 op v hv h2 o4 o17)
theorem alike_high (hR : ∀ i, 0 ≤ R i ∧ R i < 18446744073709551616) (o4 : 31 ≤ op) (o17 : op ≤ 42) (F : Fetched n hole pc f op A B C imm pcn x) : InsAlike n hole R pc f op A B C imm := by
  obtain ⟨v, ok, hv, h1, h2⟩ := alikeB op (R B) (R C) (hR B).1 (hR B).2 (hR C).1 (hR C).2
  cases ok
  · exact plain_alike F 5 (nx pc) (fun _ => rfl) (by omega) (nx_bd pc) (by omega) (fun W c m h => one_high_no h A B C F.hA F.hB F.hC imm F.j0 F.j1 m op v hv.1 hv.2 h1 o4 o17) (fun W c h => by rw [pcOf_end _ _ _ (by omega)]; exact do_high_no h A B C F.hA F.hB F.hC imm F.j0 F.j1 0 op v hv h2 o4 o17)
  · exact plain_alike F 0 (nx pc) (fun h => by omega) (by omega) (nx_bd pc) (by omega) (fun W c m h => one_high h A B C F.hA F.hB F.hC imm F.j0 F.j1 m op v hv.1 hv.2 h1 o4 o17) (fun W c h => by rw [pcOf_go]; exact do_high h A B C F.hA F.hB F.hC imm F.j0 F.j1 0 op v hv h2 o4 o17)
end
end Go.Proofs.Ytelgmffmekfndaa
set_option linter.unusedVariables false
namespace Go.Proofs.Ytelgmffmekfndaa
open Go.ChangeShapes Go.WideShapes Go.ChangeAt Go.RowKit

theorem place_alike8 (b imm : Int) (i0 : -2147483648 ≤ imm) (i1 : imm ≤ 2147483647) : ∃ (pl : Nat) (ok : Bool), (ok = true → pl + 8 ≤ 262144) ∧ (∀ w, Calls Try.prog 60 #[.int .u64 b, .int .i32 imm, .int .i64 8] w fun e w' => e = .returned (.tuple #[.int .i64 pl, .bool ok]) ∧ w = w') ∧
    ∀ w, Calls Try.prog 61 #[.int .u64 b, .int .i32 imm, .int .i64 8] w fun e w' => e = .returned (.tuple #[.int .i64 pl, .bool ok]) ∧ w = w' := by
  by_cases h : xOf b imm ≤ 262144 - 8 ∧ xOf b imm % 8 = 0
  · have h1 := place8_yes b imm i0 i1 h
    have h2 := rplace8_yes b imm i0 i1 h
    obtain ⟨q, hq⟩ := Int.eq_ofNat_of_zero_le (xOf_bd b imm).1
    rw [hq] at h1 h2 h
    exact ⟨q, true, fun _ => by omega, h1, h2⟩
  · exact ⟨0, false, by simp, place8_no b imm i0 i1 h, rplace8_no b imm i0 i1 h⟩
theorem place_alike4 (b imm : Int) (i0 : -2147483648 ≤ imm) (i1 : imm ≤ 2147483647) : ∃ (pl : Nat) (ok : Bool), (ok = true → pl + 4 ≤ 262144) ∧ (∀ w, Calls Try.prog 60 #[.int .u64 b, .int .i32 imm, .int .i64 4] w fun e w' => e = .returned (.tuple #[.int .i64 pl, .bool ok]) ∧ w = w') ∧
    ∀ w, Calls Try.prog 61 #[.int .u64 b, .int .i32 imm, .int .i64 4] w fun e w' => e = .returned (.tuple #[.int .i64 pl, .bool ok]) ∧ w = w' := by
  by_cases h : xOf b imm ≤ 262144 - 4 ∧ xOf b imm % 4 = 0
  · have h1 := place4_yes b imm i0 i1 h
    have h2 := rplace4_yes b imm i0 i1 h
    obtain ⟨q, hq⟩ := Int.eq_ofNat_of_zero_le (xOf_bd b imm).1
    rw [hq] at h1 h2 h
    exact ⟨q, true, fun _ => by omega, h1, h2⟩
  · exact ⟨0, false, by simp, place4_no b imm i0 i1 h, rplace4_no b imm i0 i1 h⟩
theorem place_alike1 (b imm : Int) (i0 : -2147483648 ≤ imm) (i1 : imm ≤ 2147483647) : ∃ (pl : Nat) (ok : Bool), (ok = true → pl + 1 ≤ 262144) ∧ (∀ w, Calls Try.prog 60 #[.int .u64 b, .int .i32 imm, .int .i64 1] w fun e w' => e = .returned (.tuple #[.int .i64 pl, .bool ok]) ∧ w = w') ∧
    ∀ w, Calls Try.prog 61 #[.int .u64 b, .int .i32 imm, .int .i64 1] w fun e w' => e = .returned (.tuple #[.int .i64 pl, .bool ok]) ∧ w = w' := by
  by_cases h : xOf b imm ≤ 262144 - 1 ∧ xOf b imm % 1 = 0
  · have h1 := place1_yes b imm i0 i1 h
    have h2 := rplace1_yes b imm i0 i1 h
    obtain ⟨q, hq⟩ := Int.eq_ofNat_of_zero_le (xOf_bd b imm).1
    rw [hq] at h1 h2 h
    exact ⟨q, true, fun _ => by omega, h1, h2⟩
  · exact ⟨0, false, by simp, place1_no b imm i0 i1 h, rplace1_no b imm i0 i1 h⟩

section
variable {n : Nat} {hole : Int} {R : Nat → Int} {pc : Int} {f : Nat → Int} {op imm : Int} {A B C pcn : Nat} {x : Int}

theorem load_alike (hf : ∀ i, 0 ≤ f i ∧ f i ≤ 255) (o19 : 19 ≤ op) (o21 : op ≤ 21) (F : Fetched n hole pc f op A B C imm pcn x) (k pl : Nat) (ok : Bool) (hk0 : 0 < k) (hk8 : k ≤ 8) (hpl : ok = true → pl + k ≤ 262144)
    (hw1 : ∀ w, Calls Try.prog 57 #[.int .i64 op] w fun e w' => e = .returned (.tuple #[.int .i64 k, .bool false]) ∧ w = w') (hw2 : ∀ w, Calls Try.prog 58 #[.int .i64 op] w fun e w' => e = .returned (.tuple #[.int .i64 k, .bool false]) ∧ w = w')
    (hp1 : ∀ w, Calls Try.prog 60 #[.int .u64 (R B), .int .i32 imm, .int .i64 k] w fun e w' => e = .returned (.tuple #[.int .i64 pl, .bool ok]) ∧ w = w') (hp2 : ∀ w, Calls Try.prog 61 #[.int .u64 (R B), .int .i32 imm, .int .i64 k] w fun e w' => e = .returned (.tuple #[.int .i64 pl, .bool ok]) ∧ w = w') :
    InsAlike n hole R pc f op A B C imm := by
  have hkz : ((k : Int) == 0) = false := by rw [beq_eq_false_iff_ne]; omega
  cases ok with
  | false =>
    refine ⟨6, nx pc, R, f, fun _ => ⟨rfl, rfl⟩, by omega, nx_bd pc, fun W c M g cap h => ?_, fun W c M g cap h => ?_⟩
    · refine one_mem h.core A B C F.hA F.hB F.hC imm F.j0 F.j1 _ op 6 _ o19 (by omega) (fun w1 hg => ?_)
      have h' := h.none hg
      exact (move_bad h'.core A B C F.hA F.hB F.hC imm F.j0 F.j1 _ op k pl false hw1 hp1).mono fun e w2 ⟨he, hr⟩ => ⟨he, h'.ran hr, (kept2_n hg).trans (kept2_c hr.env)⟩
    · rw [pcOf_end _ _ _ (by omega)]
      exact (rstep_crook h.core h.mem pcn F.hpc F.lt F.h8 F.hr x F.hx op imm A B C F.hdec k pl false (fun w1 hc => need_place hc op A C imm B F.hB k pl false false hkz hw2 hp2)).mono fun e w2 ⟨he, hg⟩ => ⟨he, h.none hg, kept2_n hg⟩
  | true =>
    have hpl := hpl rfl
    by_cases hr : Reach n hole pl k
    · have hv := ldv_bd (fun i => f (pl + i)) (fun i => hf _) k hk8
      refine ⟨0, nx pc, fun i => if i = A then ldv (fun i => f (pl + i)) k else R i, f, fun h => by omega, by omega, nx_bd pc, fun W c M g cap h => ?_, fun W c M g cap h => ?_⟩
      · refine one_mem h.core A B C F.hA F.hB F.hC imm F.j0 F.j1 _ op 0 _ o19 (by omega) (fun w1 hg => ?_)
        have h' := h.none hg
        exact (move_load h'.core A B C F.hA F.hB F.hC imm F.j0 F.j1 M op k pl _ hv.1 hv.2 hw1 hp1 (fun w2 hg2 => load_yes (h'.mem.grown hg2 (by simpa using fun e : M = c => h.cM e.symm) (by simpa using fun e : g = c => h.cg e.symm) h'.gz) pl k (by omega) hk0 hk8 hr)).mono fun e w2 ⟨he, hr⟩ => ⟨he, h'.ran hr, (kept2_n hg).trans (kept2_c hr.env)⟩
      · rw [pcOf_go]
        refine rstep_load h.core h.mem pcn F.hpc F.lt F.h8 F.hr x F.hx op imm A B C F.hdec k pl (by omega) (fun w1 hc => need_place hc op A C imm B F.hB k pl false true hkz hw2 hp2) _ (fun w1 hg => load_yes (h.none hg).mem pl k (by omega) hk0 hk8 hr) 0 _ (fun w1 hg => ?_)
        have h' := h.none hg
        exact (do_load h'.core A B C F.hA F.hB F.hC imm F.j0 F.j1 _ op hv o19 o21).mono fun e w2 ⟨he, hr⟩ => ⟨he, h'.ran hr, (kept2_n hg).trans (kept2_c hr.env)⟩
    · refine ⟨3, nx pc, R, f, fun _ => ⟨rfl, rfl⟩, by omega, nx_bd pc, fun W c M g cap h => ?_, fun W c M g cap h => ?_⟩
      · refine one_mem h.core A B C F.hA F.hB F.hC imm F.j0 F.j1 _ op 3 _ o19 (by omega) (fun w1 hg => ?_)
        have h' := h.none hg
        exact (move_load_no h'.core A B C F.hA F.hB F.hC imm F.j0 F.j1 M op k pl 0 (by omega) (by omega) hw1 hp1 (fun w2 hg2 => load_no (h'.mem.grown hg2 (by simpa using fun e : M = c => h.cM e.symm) (by simpa using fun e : g = c => h.cg e.symm) h'.gz) pl k (by omega) hk8 hr)).mono fun e w2 ⟨he, hr⟩ => ⟨he, h'.ran hr, (kept2_n hg).trans (kept2_c hr.env)⟩
      · rw [pcOf_end _ _ _ (by omega)]
        exact (rstep_load_no h.core h.mem pcn F.hpc F.lt F.h8 F.hr x F.hx op imm A B C F.hdec k pl (by omega) (fun w1 hc => need_place hc op A C imm B F.hB k pl false true hkz hw2 hp2) 0 (fun w1 hg => load_no (h.none hg).mem pl k (by omega) hk8 hr)).mono fun e w2 ⟨he, hg⟩ => ⟨he, h.none hg, kept2_n hg⟩

/-- the contract of core.move at a store of that width -/
def MoveStores (k : Nat) (mask : Int) : Prop := ∀ {W : World} {c : Nat} {R : Nat → Int} {pc : Int} (h : CoreAt W c R pc) (A B C : Nat) (hA : A < 16) (hB : B < 16) (hC : C < 16) (imm : Int) (j0 : -2147483648 ≤ imm) (j1 : imm ≤ 2147483647) (M g : Nat) (op pl x : Int) (r : Bool) (U : World → Prop) (hcg : c ≠ g) (hgz : g < W.heap.size)
    (hw : ∀ w, Calls Try.prog 57 #[.int .i64 op] w fun e w' => e = .returned (.tuple #[.int .i64 k, .bool true]) ∧ w = w') (hp : ∀ w, Calls Try.prog 60 #[.int .u64 (R B), .int .i32 imm, .int .i64 k] w fun e w' => e = .returned (.tuple #[.int .i64 pl, .bool true]) ∧ w = w')
    (hx : bits .and .u64 (R A) mask = x) (hl : ∀ w', W.grownBy w' none → Calls Try.prog 87 #[.pointer (some ⟨M, 0, none⟩), .int .i64 pl, .int .i64 k, .int .u64 x] w' fun e w2 => e = .returned (.bool r) ∧ U w2 ∧ w'.grownBy w2 (some g)),
    Calls Try.prog 94 #[.pointer (some ⟨c, 0, none⟩), .agg #[.int .i64 op, .int .i64 A, .int .i64 B, .int .i64 C, .int .i32 imm], .iface 52 (.pointer (some ⟨M, 0, none⟩))] W fun e w' => e = .returned (.int .i64 (if r then 0 else 3)) ∧ U w' ∧ CoreAt w' c R pc ∧ W.grownBy w' (some g)

theorem store_alike (hf : ∀ i, 0 ≤ f i ∧ f i ≤ 255) (o22 : 22 ≤ op) (o24 : op ≤ 24) (F : Fetched n hole pc f op A B C imm pcn x) (k pl : Nat) (ok : Bool) (hk0 : 0 < k) (hk8 : k ≤ 8) (hpl : ok = true → pl + k ≤ 262144) (mask v : Int) (hms : MoveStores k mask) (hmask : bits .and .u64 (R A) mask = v) (hv : 0 ≤ v ∧ v < 18446744073709551616)
    (hlow : ∀ w, Calls Try.prog 88 #[.int .u64 (R A), .int .i64 k] w fun e w' => e = .returned (.int .u64 v) ∧ w = w')
    (hw1 : ∀ w, Calls Try.prog 57 #[.int .i64 op] w fun e w' => e = .returned (.tuple #[.int .i64 k, .bool true]) ∧ w = w') (hw2 : ∀ w, Calls Try.prog 58 #[.int .i64 op] w fun e w' => e = .returned (.tuple #[.int .i64 k, .bool true]) ∧ w = w')
    (hp1 : ∀ w, Calls Try.prog 60 #[.int .u64 (R B), .int .i32 imm, .int .i64 k] w fun e w' => e = .returned (.tuple #[.int .i64 pl, .bool ok]) ∧ w = w') (hp2 : ∀ w, Calls Try.prog 61 #[.int .u64 (R B), .int .i32 imm, .int .i64 k] w fun e w' => e = .returned (.tuple #[.int .i64 pl, .bool ok]) ∧ w = w') :
    InsAlike n hole R pc f op A B C imm := by
  have hkz : ((k : Int) == 0) = false := by rw [beq_eq_false_iff_ne]; omega
  cases ok with
  | false =>
    refine ⟨6, nx pc, R, f, fun _ => ⟨rfl, rfl⟩, by omega, nx_bd pc, fun W c M g cap h => ?_, fun W c M g cap h => ?_⟩
    · refine one_mem h.core A B C F.hA F.hB F.hC imm F.j0 F.j1 _ op 6 _ (by omega) o24 (fun w1 hg => ?_)
      have h' := h.none hg
      exact (move_bad h'.core A B C F.hA F.hB F.hC imm F.j0 F.j1 _ op k pl true hw1 hp1).mono fun e w2 ⟨he, hr⟩ => ⟨he, h'.ran hr, (kept2_n hg).trans (kept2_c hr.env)⟩
    · rw [pcOf_end _ _ _ (by omega)]
      exact (rstep_crook h.core h.mem pcn F.hpc F.lt F.h8 F.hr x F.hx op imm A B C F.hdec k pl true (fun w1 hc => need_place hc op A C imm B F.hB k pl true false hkz hw2 hp2)).mono fun e w2 ⟨he, hg⟩ => ⟨he, h.none hg, kept2_n hg⟩
  | true =>
    have hpl := hpl rfl
    by_cases hr : Reach n hole pl k
    · have hst : ∀ (W : World) (M g cap : Nat), MemAt W M g n cap hole f → M ≠ g → Calls Try.prog 87 #[.pointer (some ⟨M, 0, none⟩), .int .i64 pl, .int .i64 k, .int .u64 v] W fun e w2 => e = .returned (.bool true) ∧ MemAt w2 M g n cap hole (stf f pl k v) ∧ W.grownBy w2 (some g) :=
        fun W M g cap h hMg => (store_yes h hMg pl k v hv.1 hv.2 (by omega) hk0 hk8 hr).mono fun e w2 ⟨he, hm, hs⟩ => ⟨he, hm, hs.env⟩
      refine ⟨0, nx pc, R, stf f pl k v, fun h => by omega, by omega, nx_bd pc, fun W c M g cap h => ?_, fun W c M g cap h => ?_⟩
      · refine one_mem h.core A B C F.hA F.hB F.hC imm F.j0 F.j1 _ op 0 _ (by omega) o24 (fun w1 hg => ?_)
        have h' := h.none hg
        exact (hms h'.core A B C F.hA F.hB F.hC imm F.j0 F.j1 M g op pl v true (fun w2 => MemAt w2 M g n cap hole (stf f pl k v)) h.cg h'.gz hw1 hp1 hmask (fun w2 hg2 => hst w2 M g cap (h'.none hg2).mem h.Mg)).mono fun e w2 ⟨he, hm, hc, hg2⟩ => ⟨he, h'.stored hm hg2, (kept2_n hg).trans (kept2_g hg2)⟩
      · rw [pcOf_go]
        refine rstep_store h.core h.mem pcn F.hpc F.lt F.h8 F.hr x F.hx op imm A B C F.hdec F.hA k pl v (by omega) h.cg h.gz (fun w1 hc => need_place hc op A C imm B F.hB k pl true true hkz hw2 hp2) hlow (fun w2 => MemAt w2 M g n cap hole (stf f pl k v)) (fun w1 hg => hst w1 M g cap (h.none hg).mem h.Mg) 0 _ (fun w1 hm hg => ?_)
        have h' := h.stored hm hg
        exact (do_store h'.core A B C F.hA F.hB F.hC imm F.j0 F.j1 0 op o22 o24).mono fun e w2 ⟨he, hr⟩ => ⟨he, h'.ran hr, (kept2_g hg).trans (kept2_c hr.env)⟩
    · have hst : ∀ (W : World) (M g cap : Nat), MemAt W M g n cap hole f → Calls Try.prog 87 #[.pointer (some ⟨M, 0, none⟩), .int .i64 pl, .int .i64 k, .int .u64 v] W fun e w2 => e = .returned (.bool false) ∧ MemAt w2 M g n cap hole f ∧ W.grownBy w2 (some g) :=
        fun W M g cap h => (store_no h pl k v (by omega) hk8 hr).mono fun e w2 ⟨he, hw⟩ => ⟨he, hw ▸ h, hw ▸ World.grownBy.refl _ _⟩
      refine ⟨3, nx pc, R, f, fun _ => ⟨rfl, rfl⟩, by omega, nx_bd pc, fun W c M g cap h => ?_, fun W c M g cap h => ?_⟩
      · refine one_mem h.core A B C F.hA F.hB F.hC imm F.j0 F.j1 _ op 3 _ (by omega) o24 (fun w1 hg => ?_)
        have h' := h.none hg
        exact (hms h'.core A B C F.hA F.hB F.hC imm F.j0 F.j1 M g op pl v false (fun w2 => MemAt w2 M g n cap hole f) h.cg h'.gz hw1 hp1 hmask (fun w2 hg2 => hst w2 M g cap (h'.none hg2).mem)).mono fun e w2 ⟨he, hm, hc, hg2⟩ => ⟨he, h'.stored hm hg2, (kept2_n hg).trans (kept2_g hg2)⟩
      · rw [pcOf_end _ _ _ (by omega)]
        exact (rstep_store_no h.core h.mem pcn F.hpc F.lt F.h8 F.hr x F.hx op imm A B C F.hdec F.hA k pl v (by omega) h.cg h.gz (fun w1 hc => need_place hc op A C imm B F.hB k pl true true hkz hw2 hp2) hlow (fun w2 => MemAt w2 M g n cap hole f) (fun w1 hg => hst w1 M g cap (h.none hg).mem)).mono fun e w2 ⟨he, hm, hg⟩ => ⟨he, h.stored hm hg, kept2_g hg⟩

theorem alike_load (hR : ∀ i, 0 ≤ R i ∧ R i < 18446744073709551616) (hf : ∀ i, 0 ≤ f i ∧ f i ≤ 255) (o19 : 19 ≤ op) (o21 : op ≤ 21) (F : Fetched n hole pc f op A B C imm pcn x) : InsAlike n hole R pc f op A B C imm := by
  rcases (by omega : op = 19 ∨ op = 20 ∨ op = 21) with rfl | rfl | rfl
  · obtain ⟨pl, ok, h1, h2, h3⟩ := place_alike8 (R B) imm F.j0 F.j1
    exact load_alike hf o19 o21 F 8 pl ok (by omega) (by omega) h1 width19 rwidth19 h2 h3
  · obtain ⟨pl, ok, h1, h2, h3⟩ := place_alike4 (R B) imm F.j0 F.j1
    exact load_alike hf o19 o21 F 4 pl ok (by omega) (by omega) h1 width20 rwidth20 h2 h3
  · obtain ⟨pl, ok, h1, h2, h3⟩ := place_alike1 (R B) imm F.j0 F.j1
    exact load_alike hf o19 o21 F 1 pl ok (by omega) (by omega) h1 width21 rwidth21 h2 h3
theorem alike_store (hR : ∀ i, 0 ≤ R i ∧ R i < 18446744073709551616) (hf : ∀ i, 0 ≤ f i ∧ f i ≤ 255) (o22 : 22 ≤ op) (o24 : op ≤ 24) (F : Fetched n hole pc f op A B C imm pcn x) : InsAlike n hole R pc f op A B C imm := by
  have hA := hR A
  rcases (by omega : op = 22 ∨ op = 23 ∨ op = 24) with rfl | rfl | rfl
  · obtain ⟨pl, ok, h1, h2, h3⟩ := place_alike8 (R B) imm F.j0 F.j1
    exact store_alike hf o22 o24 F 8 pl ok (by omega) (by omega) h1 18446744073709551615 (R A) move_store8 (low8 _ hA.1 hA.2) hA (low_eight _) width22 rwidth22 h2 h3
  · obtain ⟨pl, ok, h1, h2, h3⟩ := place_alike4 (R B) imm F.j0 F.j1
    exact store_alike hf o22 o24 F 4 pl ok (by omega) (by omega) h1 4294967295 (R A % 4294967296) move_store4 (low4 _ hA.1 hA.2) (by omega) (low_four _ hA.1) width23 rwidth23 h2 h3
  · obtain ⟨pl, ok, h1, h2, h3⟩ := place_alike1 (R B) imm F.j0 F.j1
    exact store_alike hf o22 o24 F 1 pl ok (by omega) (by omega) h1 255 (R A % 256) move_store1 (low1 _ hA.1 hA.2) (by omega) (low_one _ hA.1) width24 rwidth24 h2 h3

theorem ins_alike (hR : ∀ i, 0 ≤ R i ∧ R i < 18446744073709551616) (hf : ∀ i, 0 ≤ f i ∧ f i ≤ 255) (o1 : 1 ≤ op) (o43 : op < 44) (F : Fetched n hole pc f op A B C imm pcn x) : InsAlike n hole R pc f op A B C imm := by
  rcases (by omega : op = 1 ∨ op = 2 ∨ op = 3 ∨ (4 ≤ op ∧ op ≤ 17) ∨ op = 18 ∨ (19 ≤ op ∧ op ≤ 21) ∨ (22 ≤ op ∧ op ≤ 24) ∨ (25 ≤ op ∧ op ≤ 28) ∨ op = 29 ∨ op = 30 ∨ (31 ≤ op ∧ op ≤ 42) ∨ op = 43) with rfl | rfl | rfl | h | rfl | h | h | h | rfl | rfl | h | rfl
  · exact alike_halt F
  · exact alike_li F
  · exact alike_hi hR F
  · exact alike_low hR h.1 h.2 F
  · exact alike_addi F
  · exact alike_load hR hf h.1 h.2 F
  · exact alike_store hR hf h.1 h.2 F
  · exact alike_br hR h.1 h.2 F
  · exact alike_jal F
  · exact alike_jr hR F
  · exact alike_high hR h.1 h.2 F
  · exact alike_trap F
end

/-- a step: the program's and the document's -/
def StepAlike (n : Nat) (hole : Int) (R : Nat → Int) (pc : Int) (f : Nat → Int) (en : Int) (R' : Nat → Int) (pc' : Int) (f' : Nat → Int) : Prop :=
  (∀ W c M g cap, St W c M g n cap hole R pc f → Calls Try.prog 64 #[.pointer (some ⟨c, 0, none⟩), .iface 52 (.pointer (some ⟨M, 0, none⟩))] W fun e w' => e = .returned (.int .i64 en) ∧ St w' c M g n cap hole R' pc' f' ∧ Kept2 c g W w') ∧
    ∀ W c M g cap, St W c M g n cap hole R pc f → Calls Try.prog 65 #[.pointer (some ⟨c, 0, none⟩), .pointer (some ⟨M, 0, none⟩)] W fun e w' => e = .returned (.int .i64 en) ∧ St w' c M g n cap hole R' pc' f' ∧ Kept2 c g W w'

/-- the program's step of an instruction that is known: what one does, and the place -/
theorem step_of_one {n : Nat} {hole : Int} {R R' : Nat → Int} {pc : Int} {f f' : Nat → Int} {pcn : Nat} {x : Int} (hpc : pc = pcn) (hlt : pcn < 262144) (h8 : pcn % 8 = 0) (hr : Reach n hole pcn 8) (hx : ldv (fun i => f (pcn + i)) 8 = x) (x0 : 0 ≤ x) (x1 : x < 18446744073709551616)
    (hd : Rightly (stb x 8 0) (stb x 8 1) (stb x 8 2) (stb x 8 3)) (en nxt : Int) (h0 : 0 ≤ en) (hb : 0 ≤ nxt ∧ nxt < 18446744073709551616)
    (ho : ∀ W c M g cap, St W c M g n cap hole R pc f → Calls Try.prog 83 #[.pointer (some ⟨c, 0, none⟩), ins (stb x 8 0) (stb x 8 1) (stb x 8 2) (stb x 8 3) (immOf (stb x 8 4) (stb x 8 5) (stb x 8 6) (stb x 8 7)), .iface 52 (.pointer (some ⟨M, 0, none⟩))] W fun e w' => e = .returned (.tuple #[.int .u64 nxt, .int .i64 en]) ∧ St w' c M g n cap hole R' pc f' ∧ Kept2 c g W w')
    {W : World} {c M g cap : Nat} (h : St W c M g n cap hole R pc f) :
    Calls Try.prog 64 #[.pointer (some ⟨c, 0, none⟩), .iface 52 (.pointer (some ⟨M, 0, none⟩))] W fun e w' => e = .returned (.int .i64 en) ∧ St w' c M g n cap hole R' (pcOf en nxt pc) f' ∧ Kept2 c g W w' := by
  by_cases he : 2 ≤ en
  · rw [pcOf_end _ _ _ he]
    refine step_stop h.core h.mem pcn hpc hlt h8 hr x hx x0 x1 hd nxt en (fun w' => St w' c M g n cap hole R' pc f' ∧ Kept2 c g W w') he (fun w1 hg => ?_)
    exact (ho w1 c M g cap (h.none hg)).mono fun e w2 ⟨he, hs, hk⟩ => ⟨he, hs, (kept2_n hg).trans hk⟩
  · refine (step_run h.core h.mem pcn hpc hlt h8 hr x hx x0 x1 hd nxt en (fun w' => St w' c M g n cap hole R' pc f' ∧ Kept2 c g W w') (by omega) (fun _ => .int .u64 pc) (fun w2 hV => ⟨hV.1.core.p, hV.1.core.fz 16⟩) (fun w1 hg => ?_)).mono fun e w' h => ?_
    · exact (ho w1 c M g cap (h.none hg)).mono fun e w2 ⟨he, hs, hk⟩ => ⟨he, hs, (kept2_n hg).trans hk⟩
    · obtain ⟨hE, w2, ⟨hs, hk⟩, rfl⟩ := h
      have hg := Go.Lib.grownBy_setCell w2 c 16 (.int .u64 nxt)
      refine ⟨hE, ?_, hk.trans (kept2_c hg)⟩
      have : pcOf en nxt pc = nxt := by unfold pcOf; rw [if_pos (by omega)]
      rw [this]
      exact ⟨hs.core.setPc hb.1 hb.2, hs.mem.grown hg (by simpa using fun e : M = c => hs.cM e.symm) (by simpa using fun e : g = c => hs.cg e.symm) hs.gz, hs.cM, hs.cg, hs.Mg, Nat.lt_of_lt_of_le hs.gz hg.size⟩

theorem step_alike (n : Nat) (hole : Int) (R : Nat → Int) (pc : Int) (f : Nat → Int) (hR : ∀ i, 0 ≤ R i ∧ R i < 18446744073709551616) (hp : 0 ≤ pc ∧ pc < 18446744073709551616) (hf : ∀ i, 0 ≤ f i ∧ f i ≤ 255) :
    ∃ (en : Int) (R' : Nat → Int) (pc' : Int) (f' : Nat → Int), 0 ≤ en ∧ (2 ≤ en → R' = R ∧ pc' = pc ∧ f' = f) ∧ StepAlike n hole R pc f en R' pc' f' := by
  by_cases hb : pc < 262144 ∧ pc % 8 = 0
  · obtain ⟨pcn, hpc⟩ := Int.eq_ofNat_of_zero_le hp.1
    have hlt : pcn < 262144 := by omega
    have h8 : pcn % 8 = 0 := by omega
    by_cases hr : Reach n hole pcn 8
    · have hx := ldv_bd (fun i => f (pcn + i)) (fun i => hf _) 8 (by omega)
      obtain ⟨x, ex⟩ : ∃ x, ldv (fun i => f (pcn + i)) 8 = x := ⟨_, rfl⟩
      rw [ex] at hx
      have himm := immOf_low x hx.1 hx.2
      by_cases hd : Rightly (stb x 8 0) (stb x 8 1) (stb x 8 2) (stb x 8 3)
      · obtain ⟨d1, d2, d3, d4, d5⟩ := hd
        obtain ⟨A, eA⟩ := Int.eq_ofNat_of_zero_le (stb_bd x 8 1).1
        obtain ⟨B, eB⟩ := Int.eq_ofNat_of_zero_le (stb_bd x 8 2).1
        obtain ⟨C, eC⟩ := Int.eq_ofNat_of_zero_le (stb_bd x 8 3).1
        have hib := immOf_bd (stb x 8 4) (stb x 8 5) (stb x 8 6) (stb x 8 7)
        have F : Fetched n hole pc f (stb x 8 0) A B C (immOf (stb x 8 4) (stb x 8 5) (stb x 8 6) (stb x 8 7)) pcn x :=
          ⟨hpc, hlt, h8, hr, ex, fun w => rdecode_yes x hx.1 hx.2 _ A B C _ rfl eA eB eC himm.symm ⟨by omega, by omega, by omega, d4, d5⟩ w, by omega, by omega, by omega, hib.1, hib.2⟩
        obtain ⟨en, nxt, R', f', h2, h0, hnb, k1, k2⟩ := ins_alike hR hf d4 d5 F
        refine ⟨en, R', pcOf en nxt pc, f', h0, fun h => ⟨(h2 h).1, pcOf_end _ _ _ h, (h2 h).2⟩, fun W c M g cap h => ?_, k2⟩
        refine step_of_one hpc hlt h8 hr ex hx.1 hx.2 ⟨d1, d2, d3, d4, d5⟩ en nxt h0 hnb (fun W c M g cap h => ?_) h
        rw [eA, eB, eC]
        exact k1 W c M g cap h
      · refine ⟨4, R, pc, f, by omega, fun _ => ⟨rfl, rfl, rfl⟩, fun W c M g cap h => ?_, fun W c M g cap h => ?_⟩
        · exact (step_none h.core h.mem pcn hpc hlt h8 hr x ex hx.1 hx.2 hd).mono fun e w2 ⟨he, hb⟩ => ⟨he, h.none (grown_of_below hb none), kept2_n (grown_of_below hb none)⟩
        · obtain ⟨A, eA⟩ := Int.eq_ofNat_of_zero_le (stb_bd x 8 1).1
          obtain ⟨B, eB⟩ := Int.eq_ofNat_of_zero_le (stb_bd x 8 2).1
          obtain ⟨C, eC⟩ := Int.eq_ofNat_of_zero_le (stb_bd x 8 3).1
          rw [eA, eB, eC] at hd
          exact (rstep_none h.core h.mem pcn hpc hlt h8 hr x ex (stb x 8 0) (immOf (stb x 8 4) (stb x 8 5) (stb x 8 6) (stb x 8 7)) A B C (fun w => rdecode_no x hx.1 hx.2 _ A B C _ rfl eA eB eC himm.symm hd w)).mono fun e w2 ⟨he, hg⟩ => ⟨he, h.none hg, kept2_n hg⟩
    · refine ⟨3, R, pc, f, by omega, fun _ => ⟨rfl, rfl, rfl⟩, fun W c M g cap h => ?_, fun W c M g cap h => ?_⟩
      · exact (step_nofetch h.core h.mem pcn hpc hlt h8 hr).mono fun e w2 ⟨he, hw⟩ => ⟨he, hw ▸ h, hw ▸ Kept2.refl _ _ _⟩
      · exact (rstep_nofetch h.core h.mem pcn hpc hlt h8 hr).mono fun e w2 ⟨he, hw⟩ => ⟨he, hw ▸ h, hw ▸ Kept2.refl _ _ _⟩
  · refine ⟨6, R, pc, f, by omega, fun _ => ⟨rfl, rfl, rfl⟩, fun W c M g cap h => ?_, fun W c M g cap h => ?_⟩
    · exact (step_bad h.core _ hb).mono fun e w2 ⟨he, hw⟩ => ⟨he, hw ▸ h, hw ▸ Kept2.refl _ _ _⟩
    · exact (rstep_bad h.core _ hb).mono fun e w2 ⟨he, hw⟩ => ⟨he, hw ▸ h, hw ▸ Kept2.refl _ _ _⟩
end Go.Proofs.Ytelgmffmekfndaa
