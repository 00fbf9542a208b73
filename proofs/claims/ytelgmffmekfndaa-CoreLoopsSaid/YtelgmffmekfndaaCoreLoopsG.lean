/- CoreLoops: the walk of the law. Conditions: as each theorem names them. -/
import Derived.Test.YtelgmffmekfndaaCoreFitG
set_option linter.unusedVariables false
namespace Go.Proofs.Ytelgmffmekfndaa
open Go.ChangeShapes Go.WideShapes Go.ChangeAt Go.RowKit

namespace Lp
/-- the program that counts down -/
def op : Nat → Int | 0 => 2 | 1 => 18 | 2 => 18 | 3 => 26 | _ => 1
def A : Nat → Nat | 0 => 1 | 1 => 2 | 2 => 1 | 3 => 1 | _ => 0
def B : Nat → Nat | 0 => 0 | 1 => 2 | 2 => 1 | _ => 0
def imm (n add : Int) : Nat → Int | 0 => n | 1 => add | 2 => -1 | 3 => -2 | _ => 0
/-- its bytes, of which k instructions are laid -/
def mem (n add : Int) : Nat → Nat → Int
  | 0 => fun _ => 0
  | k + 1 => layL (mem n add k) (8 * k) (encL (op k) (A k) (B k) 0 (imm n add k))
theorem encL_len (op A B C imm : Int) : (encL op A B C imm).length = 8 := rfl
theorem mem_bd (n add : Int) : ∀ k i, 0 ≤ mem n add k i ∧ mem n add k i ≤ 255
  | 0, _ => by show (0 : Int) ≤ 0 ∧ (0 : Int) ≤ 255; omega
  | k + 1, j => by
    show 0 ≤ layL (mem n add k) (8 * k) (encL (op k) (A k) (B k) 0 (imm n add k)) j ∧ layL (mem n add k) (8 * k) (encL (op k) (A k) (B k) 0 (imm n add k)) j ≤ 255
    by_cases h : 8 * k ≤ j ∧ j < 8 * k + 8
    · obtain ⟨i, rfl⟩ : ∃ i, j = 8 * k + i := ⟨j - 8 * k, by omega⟩
      rw [layL_in _ _ _ i (by rw [encL_len]; omega), encL_at _ _ _ _ _ i (by omega)]
      exact encB_bd _ _ _ _ _ _
    · rw [layL_out _ _ _ _ (by rw [encL_len]; omega)]
      exact mem_bd n add k j
theorem mem_at (n add : Int) : ∀ k q i, q < k → i < 8 → mem n add k (8 * q + i) = encB (op q) (A q) (B q) 0 (imm n add q) i
  | k + 1, q, i, hq, hi => by
    show layL (mem n add k) (8 * k) (encL (op k) (A k) (B k) 0 (imm n add k)) (8 * q + i) = _
    by_cases h : q = k
    · subst h
      rw [layL_in _ _ _ i (by rw [encL_len]; omega), encL_at _ _ _ _ _ i (by omega)]
    · rw [layL_out _ _ _ _ (by rw [encL_len]; omega)]
      exact mem_at n add k q i (by omega) hi

/-- the state behind s steps -/
def J (s : Nat) : Nat := (s - 1) / 3
def Q (s : Nat) : Nat := (s - 1) % 3
def pc (n s : Nat) : Int := if s = 0 then 0 else if s = 1 + 3 * n then 32 else 8 + 8 * (Q s : Nat)
def r1 (n s : Nat) : Int := if s = 0 then 0 else (n : Int) - (J s : Nat) - (if Q s = 2 then 1 else 0)
def r2 (add : Int) (s : Nat) : Int := if s = 0 then 0 else IntKind.u64.wrap (((J s : Nat) + (if Q s = 0 then 0 else 1)) * add)
def R (n : Nat) (add : Int) (s : Nat) : Nat → Int := fun i => if i = 1 then r1 n s else if i = 2 then r2 add s else 0

theorem code1 (n add : Int) (n0 : 0 ≤ n) (n1 : n ≤ 64) (a0 : -2147483648 ≤ add) (a1 : add ≤ 2147483647) (q : Nat) : Code1 (op q) (A q) (B q) 0 (imm n add q) := by
  rcases (by omega : q = 0 ∨ q = 1 ∨ q = 2 ∨ q = 3 ∨ 4 ≤ q) with rfl | rfl | rfl | rfl | h
  · exact ⟨by decide, by decide, by decide, by decide, by decide, by show _ ≤ n; omega, by show n ≤ _; omega⟩
  · exact ⟨by decide, by decide, by decide, by decide, by decide, a0, a1⟩
  · exact ⟨by decide, by decide, by decide, by decide, by decide, by show (-2147483648 : Int) ≤ -1; decide, by show (-1 : Int) ≤ 2147483647; decide⟩
  · exact ⟨by decide, by decide, by decide, by decide, by decide, by show (-2147483648 : Int) ≤ -2; decide, by show (-2 : Int) ≤ 2147483647; decide⟩
  · obtain ⟨j, rfl⟩ : ∃ j, q = j + 4 := ⟨q - 4, by omega⟩
    exact ⟨by simp [op], by simp [op], by simp [A], by simp [B], by decide, by simp [imm], by simp [imm]⟩

theorem wrap_id {x : Int} (h0 : 0 ≤ x) (h1 : x < 18446744073709551616) : IntKind.u64.wrap x = x := by rw [IntKind.wrap_u64]; omega
theorem r2_next (add : Int) (j : Int) : IntKind.u64.wrap (IntKind.u64.wrap (j * add) + IntKind.u64.wrap add) = IntKind.u64.wrap ((j + 1) * add) := by
  have e : (j + 1) * add = j * add + add := by rw [Int.add_mul, Int.one_mul]
  rw [e]
  generalize j * add = p
  simp only [IntKind.wrap_u64]
  omega

section
variable {W : World} {c M g cap n : Nat} {add : Int}
/-- at a place the instruction is known -/
theorem at_q (n0 : 1 ≤ n) (n1 : n ≤ 64) (a0 : -2147483648 ≤ add) (a1 : add ≤ 2147483647) (q : Nat) (hq : q < 5) (R R' : Nat → Int) (pc : Int) (hpc : pc = (8 * q : Nat)) (en nxt : Int) (h0 : 0 ≤ en) (hb : 0 ≤ nxt ∧ nxt < 18446744073709551616)
    (hone : ∀ W c m, CoreAt W c R pc → Calls Try.prog 83 #[.pointer (some ⟨c, 0, none⟩), insV (op q) (A q) (B q) 0 (imm n add q), m] W fun e w' => e = .returned (.tuple #[.int .u64 nxt, .int .i64 en]) ∧ Ran c R' pc W w')
    (h : St W c M g 128 cap 0 R pc (mem n add 5)) :
    Calls Try.prog 64 #[.pointer (some ⟨c, 0, none⟩), .iface 52 (.pointer (some ⟨M, 0, none⟩))] W fun e w' => e = .returned (.int .i64 en) ∧ St w' c M g 128 cap 0 R' (pcOf en nxt pc) (mem n add 5) ∧ Kept2 c g W w' :=
  step_coded (code1 n add (by omega) (by omega) a0 a1 q) (mem_bd n add 5) hpc (by omega) (by omega) ⟨by omega, .inl rfl⟩ (fun i hi => mem_at n add 5 q i (by omega) hi) en nxt h0 hb (ran_ho hone) h

theorem step_next (n0 : 1 ≤ n) (n1 : n ≤ 64) (a0 : -2147483648 ≤ add) (a1 : add ≤ 2147483647) (s : Nat) (hs : s < 1 + 3 * n) (h : St W c M g 128 cap 0 (R n add s) (pc n s) (mem n add 5)) :
    Calls Try.prog 64 #[.pointer (some ⟨c, 0, none⟩), .iface 52 (.pointer (some ⟨M, 0, none⟩))] W fun e w' => e = .returned (.int .i64 0) ∧ St w' c M g 128 cap 0 (R n add (s + 1)) (pc n (s + 1)) (mem n add 5) ∧ Kept2 c g W w' := by
  have key : ∀ (q : Nat) (nxt : Int) (R' : Nat → Int), q < 5 → pc n s = (8 * q : Nat) → (0 ≤ nxt ∧ nxt < 18446744073709551616) → nxt = pc n (s + 1) → R' = R n add (s + 1) →
      (∀ W c m, CoreAt W c (R n add s) (pc n s) → Calls Try.prog 83 #[.pointer (some ⟨c, 0, none⟩), insV (op q) (A q) (B q) 0 (imm n add q), m] W fun e w' => e = .returned (.tuple #[.int .u64 nxt, .int .i64 0]) ∧ Ran c R' (pc n s) W w') →
      Calls Try.prog 64 #[.pointer (some ⟨c, 0, none⟩), .iface 52 (.pointer (some ⟨M, 0, none⟩))] W fun e w' => e = .returned (.int .i64 0) ∧ St w' c M g 128 cap 0 (R n add (s + 1)) (pc n (s + 1)) (mem n add 5) ∧ Kept2 c g W w' := by
    intro q nxt R' hq hpc hb hnx hR hone
    have := at_q n0 n1 a0 a1 q hq (R n add s) R' (pc n s) hpc 0 nxt (by omega) hb hone h
    rw [pcOf_go, hnx, hR] at this
    exact this
  have hnx : ∀ x : Int, 0 ≤ x → x ≤ 40 → nx x = x + 8 := fun x h0 h1 => wrap_id (by omega) (by omega)
  by_cases z : s = 0
  · subst z
    refine key 0 (nx (pc n 0)) _ (by omega) (by simp [pc]) (nx_bd _) (by simp [pc, nx, Q, wrap_id]; omega) ?_ (fun W c m h => one_li h 1 0 0 (by omega) (by omega) (by omega) n (by omega) (by omega) m)
    funext i
    show (if i = 1 then IntKind.u64.wrap (n : Int) else R n add 0 i) = R n add 1 i
    unfold R r1 r2
    by_cases h1 : i = 1
    · simp only [h1, if_true]
      rw [wrap_id (by omega) (by omega)]
      simp [J, Q]
    · simp [h1, J, Q, IntKind.wrap_u64]
  · have hJ : s = 1 + 3 * J s + Q s := by unfold J Q; omega
    have hQ : Q s < 3 := by unfold Q; omega
    have hne : s ≠ 1 + 3 * n := by omega
    have hpc : pc n s = 8 + 8 * (Q s : Nat) := by unfold pc; rw [if_neg z, if_neg hne]
    have z1 : ¬ s + 1 = 0 := by omega
    rcases (by omega : Q s = 0 ∨ Q s = 1 ∨ Q s = 2) with e | e | e
    · have eJ : J (s + 1) = J s := by unfold J Q at *; omega
      have eQ : Q (s + 1) = 1 := by unfold J Q at *; omega
      refine key 1 (nx (pc n s)) _ (by omega) (by rw [hpc, e]; rfl) (nx_bd _) ?_ ?_ (fun W c m h => one_addi h 2 2 0 (by omega) (by omega) (by omega) add a0 a1 m)
      · rw [hpc, e, hnx _ (by omega) (by omega)]
        unfold pc
        rw [if_neg z1, if_neg (by omega), eQ]; rfl
      · funext i
        show (if i = 2 then IntKind.u64.wrap (R n add s 2 + IntKind.u64.wrap add) else R n add s i) = R n add (s + 1) i
        have h2 : IntKind.u64.wrap (R n add s 2 + IntKind.u64.wrap add) = r2 add (s + 1) := by
          show IntKind.u64.wrap (r2 add s + IntKind.u64.wrap add) = _
          unfold r2
          rw [if_neg z, if_neg z1, eJ, eQ, e, if_pos rfl, if_neg (by omega), Int.add_zero]
          exact r2_next add _
        rw [h2]
        unfold R r1
        rw [if_neg z, if_neg z1, eJ, eQ, e]
        by_cases h1 : i = 1
        · subst h1; simp
        · by_cases h2 : i = 2
          · subst h2; simp
          · simp [h1, h2]
    · have eJ : J (s + 1) = J s := by unfold J Q at *; omega
      have eQ : Q (s + 1) = 2 := by unfold J Q at *; omega
      refine key 2 (nx (pc n s)) _ (by omega) (by rw [hpc, e]; rfl) (nx_bd _) ?_ ?_ (fun W c m h => one_addi h 1 1 0 (by omega) (by omega) (by omega) (-1) (by omega) (by omega) m)
      · rw [hpc, e, hnx _ (by omega) (by omega)]
        unfold pc
        rw [if_neg z1, if_neg (by omega), eQ]; rfl
      · funext i
        show (if i = 1 then IntKind.u64.wrap (R n add s 1 + IntKind.u64.wrap (-1)) else R n add s i) = R n add (s + 1) i
        have h2 : IntKind.u64.wrap (R n add s 1 + IntKind.u64.wrap (-1)) = r1 n (s + 1) := by
          show IntKind.u64.wrap (r1 n s + IntKind.u64.wrap (-1)) = _
          unfold r1
          rw [if_neg z, if_neg z1, eJ, eQ, e, if_neg (by omega), if_pos rfl]
          simp only [IntKind.wrap_u64]
          omega
        rw [h2]
        unfold R r2
        rw [if_neg z, if_neg z1, eJ, eQ, e]
        by_cases h1 : i = 1
        · subst h1; simp
        · by_cases h2 : i = 2
          · subst h2; simp
          · simp [h1, h2]
    · have eJ : J (s + 1) = J s + 1 := by unfold J Q at *; omega
      have eQ : Q (s + 1) = 0 := by unfold J Q at *; omega
      have er1 : R n add s 1 = (n : Int) - J s - 1 := by
        show r1 n s = _
        unfold r1
        rw [if_neg z, e, if_pos rfl]
      have hb1 := takes26_at (R n add s 1) (R n add s 0) (by rw [er1]; omega) (by rw [er1]; omega) (by show (0 : Int) ≤ 0; omega) (by show (0 : Int) < _; omega)
      refine key 3 (if (R n add s 1 != R n add s 0) then fr (pc n s) (-2) else nx (pc n s)) (R n add s) (by omega) (by rw [hpc, e]; rfl) (br_bd _ _ _) ?_ ?_ (fun W c m h => one_b26 h 1 0 0 (by omega) (by omega) (by omega) (-2) (by omega) (by omega) m hb1)
      · have e0 : R n add s 0 = 0 := rfl
        rw [er1, e0, hpc, e]
        by_cases hl : s + 1 = 1 + 3 * n
        · have : ((n : Int) - J s - 1 != 0) = false := by simp; omega
          rw [this, hnx _ (by omega) (by omega)]
          unfold pc
          rw [if_neg z1, if_pos hl]; rfl
        · have : ((n : Int) - J s - 1 != 0) = true := by simp; omega
          rw [this]
          unfold pc fr
          rw [if_neg z1, if_neg hl, eQ]
          simp only [IntKind.wrap_u64]
          rfl
      · unfold R r1 r2
        rw [if_neg z, if_neg z1, if_neg z, if_neg z1, eJ, eQ, e]
        funext i
        by_cases h1 : i = 1
        · subst h1; simp; omega
        · by_cases h2 : i = 2
          · subst h2; simp
          · simp [h1, h2]

theorem step_halt (n0 : 1 ≤ n) (n1 : n ≤ 64) (a0 : -2147483648 ≤ add) (a1 : add ≤ 2147483647) (h : St W c M g 128 cap 0 (R n add (1 + 3 * n)) (pc n (1 + 3 * n)) (mem n add 5)) :
    Calls Try.prog 64 #[.pointer (some ⟨c, 0, none⟩), .iface 52 (.pointer (some ⟨M, 0, none⟩))] W fun e w' => e = .returned (.int .i64 2) ∧ St w' c M g 128 cap 0 (R n add (1 + 3 * n)) (pc n (1 + 3 * n)) (mem n add 5) ∧ Kept2 c g W w' := by
  have hpc : pc n (1 + 3 * n) = 32 := by unfold pc; rw [if_neg (by omega), if_pos rfl]
  have := at_q n0 n1 a0 a1 4 (by omega) (R n add (1 + 3 * n)) (R n add (1 + 3 * n)) (pc n (1 + 3 * n)) (by rw [hpc]; rfl) 2 (nx (pc n (1 + 3 * n))) (by omega) (nx_bd _) (fun W c m h => one_halt h 0 0 0 (by omega) (by omega) (by omega) 0 (by omega) (by omega) m) h
  rw [pcOf_end _ _ _ (by omega)] at this
  exact this
end
end Lp
end Go.Proofs.Ytelgmffmekfndaa
