/- The two functions without a body that the evaluator knows. Conditions: none. Lemmas for every law of this seat: a call that returns true and changes nothing that existed fulfils the law's row. Conditions: none beyond what each lemma names. Pool.Len and Pool.Count. Conditions: as each theorem names them. Pool.Count: what the evaluator counts. Conditions: as each theorem names them. A function that is known to return true. Conditions: as each theorem names them. The library's sort of at most twelve numbers without a sign. Conditions: as each theorem names them. The library's sort of at most twelve numbers without a sign: the functions above the insertion. Conditions: as each theorem names them. Numbers sorted, by the library's text and by the evaluator's. Conditions: as each theorem names them. Table.All: names collected out of a map, and sorted. Conditions: as each theorem names them. Table.All: what the evaluator does at its call. Conditions: as each theorem names them. -/
import Derived.Lib.Bytealg
import Derived.Laws.Externs
import Derived.Test.YtcajgbpcimimhaaGreatDoorVmGfG
import Derived.Test.YtcajgbpcimimhaaGreatDoorRows
import Derived.WalkKit
import Derived.ProofKit
import Derived.OpenShut
import Derived.ChangeSame
import Derived.Deep.Light
import Derived.Deep.Draws
import Derived.Test.YtcajgbpcimimhaaGreatDoorChecked
import Derived.IntWalk
import Derived.Lib.Hide
import Derived.OwnWalk
import Derived.Below
import Derived.Test.YtcajgbpcimimhaaGreatDoorVmGeG
import Derived.Sort.Walk0
import Derived.Sort.LotA
import Derived.BigGuard
import Derived.BigCall
import Derived.CellFam
import Derived.Deep.QuietTactic
import Derived.BigQuiet
import Derived.Test.YtcajgbpcimimhaaGreatDoorVmEvalG
import Derived.Maps.RangeWalk
import Derived.Maps.RangeRun
import Derived.Maps.AppendAt
import Derived.Deep.Cut
set_option linter.unusedVariables false
namespace Go.Proofs.YtcajgbpcimimhaaGreatDoor.Vm
open Go Go.RowKit Go.Lib
theorem byte_beq {c : Nat} (hc : c < 256) (b : UInt8) : Nat.beq b.toNat c = (b == (Int.ofNat c).toNat.toUInt8) := by
  have h1 : ((Int.ofNat c).toNat.toUInt8).toNat = c := by show (UInt8.ofNat c).toNat = c; rw [UInt8.toNat_ofNat']; omega
  cases hq : (b == (Int.ofNat c).toNat.toUInt8) with
  | true =>
    rw [eq_of_beq hq, h1]; exact Nat.beq_refl c
  | false =>
    cases hn : Nat.beq b.toNat c with
    | false => rfl
    | true =>
      have := Nat.eq_of_beq_eq_true hn
      have h2 : b = (Int.ofNat c).toNat.toUInt8 := UInt8.toNat_inj.1 (this.trans h1.symm)
      rw [h2] at hq; simp at hq
theorem countB_eq {c : Nat} (hc : c < 256) : ∀ (l : List UInt8) (n : Nat), countB c l n = n + countByte l (Int.ofNat c).toNat.toUInt8
  | [], n => rfl
  | b :: l, n => by
    unfold countB
    rw [byte_beq hc, countB_eq hc l]
    unfold countByte
    rw [List.count_cons]
    cases b == (Int.ofNat c).toNat.toUInt8 <;> simp <;> omega
theorem findB_eq {c : Nat} (hc : c < 256) : ∀ (l : List UInt8) (i : Nat), (match findB c l i with | some j => Int.ofNat j | none => -1) = if indexByte l (Int.ofNat c).toNat.toUInt8 == -1 then -1 else (i : Int) + indexByte l (Int.ofNat c).toNat.toUInt8
  | [], i => rfl
  | b :: l, i => by
    have ih := findB_eq hc l (i + 1)
    have hg := indexByte_ge l (Int.ofNat c).toNat.toUInt8
    unfold findB indexByte
    rw [byte_beq hc]
    cases b == (Int.ofNat c).toNat.toUInt8 with
    | true => simp
    | false =>
      simp only [Bool.false_eq_true, if_false]
      rw [ih]
      generalize indexByte l (Int.ofNat c).toNat.toUInt8 = x at hg ⊢
      by_cases hx : x = -1
      · simp [hx]
      · have h2 : x + 1 ≠ -1 := by omega
        simp [hx, h2]; omega
theorem call_count (s : ByteArray) (c : Int) (W : World) : (callFunc 253 #[.string s, .int .u8 c]).run Tryz.prog W = .ok (.value (.int .i64 (countByte s.data.toList c.toNat.toUInt8))) W := by
  rw [run_callFunc_extern Tryz.func253 (by kernel_rfl) (by kernel_rfl) (by kernel_rfl) (e := Extern.BytealgCount.count) (by kernel_rfl), run_countString]
  rfl
theorem call_index (s : ByteArray) (c : Int) (W : World) : (callFunc 294 #[.string s, .int .u8 c]).run Tryz.prog W = .ok (.value (.int .i64 (indexByte s.data.toList c.toNat.toUInt8))) W := by
  rw [run_callFunc_extern Tryz.func294 (by kernel_rfl) (by kernel_rfl) (by kernel_rfl) (e := Extern.BytealgIndexByte.indexByte) (by kernel_rfl), run_indexByteString]
  rfl
theorem extOf_some {f n : Nat} (h : extOf f = n + 1) : (f = 253 ∧ n = 0) ∨ (f = 294 ∧ n = 1) := by
  unfold extOf at h
  split at h
  · exact .inl ⟨rfl, by omega⟩
  · exact .inr ⟨rfl, by omega⟩
  · omega
theorem ph : PH Tryz.prog where
  mixed := ph_mixed
  stood := ph_stood
  names := ph_names
  ext := fun f args v ⟨n, hf, s, c, hc, ea, ev⟩ W => by
    subst ea
    rcases extOf_some hf with ⟨rfl, rfl⟩ | ⟨rfl, rfl⟩
    · rw [call_count, ev]
      simp only []
      rw [countB_eq hc, Nat.zero_add]
      rfl
    · rw [call_index, ev]
      have h := findB_eq hc s.data.toList 0
      have e1 : (if indexByte s.data.toList (Int.ofNat c).toNat.toUInt8 == -1 then (-1 : Int) else ((0 : Nat) : Int) + indexByte s.data.toList (Int.ofNat c).toNat.toUInt8) = indexByte s.data.toList (Int.ofNat c).toNat.toUInt8 := by
        by_cases hx : indexByte s.data.toList (Int.ofNat c).toNat.toUInt8 = -1
        · rw [hx]; rfl
        · rw [if_neg (by simpa using hx)]; omega
      rw [e1] at h
      rw [← h]
      cases findB c s.data.toList 0 <;> rfl
end Go.Proofs.YtcajgbpcimimhaaGreatDoor.Vm
namespace Go.Proofs.YtcajgbpcimimhaaGreatDoor
open Go.ChangeShapes Go.WideShapes Go.ChangeAt Go.RowKit

theorem ret_int {k : IntKind} {a b : Int} (h : a = b) : Ending.returned (.int k a) = .returned (.int k b) := by rw [h]
theorem ret_true {b : Bool} (h : b = true) : Ending.returned (.bool b) = .returned (.bool true) := by rw [h]
theorem ret_bool {a b : Bool} (h : a = b) : Ending.returned (.bool a) = .returned (.bool b) := by rw [h]
theorem bcell {W w1 : World} (hb : Below W.heap.size W w1) : (∀ b o, b < W.heap.size → w1.cell? ⟨b, o, none⟩ = W.cell? ⟨b, o, none⟩) ∧ (∀ b o, b < W.heap.size → w1.frozen? ⟨b, o, none⟩ = W.frozen? ⟨b, o, none⟩) :=
  ⟨fun b o h => hb.cell (p := ⟨b, o, none⟩) h, fun b o h => hb.frozen (p := ⟨b, o, none⟩) h⟩
theorem lt_far {a b : Nat} (h : a + 1 ≤ b) : a < b ∧ a < b + 1 ∧ a < b + 1 + 1 ∧ a < b + 1 + 1 + 1 ∧ a < b + 1 + 1 + 1 + 1 := by omega
theorem below_drewN {B : Nat} {a w : World} (h : Below B a w) (n : Nat) : Below B a (w.drewN n) := ⟨h.os, h.tape, h.output, h.size, h.block⟩

section
variable {H : Type} {enc : TypeId × Value → H} {P : Program}
theorem trodAll_stays (hl : laidOutB P = true) {W W' : World} {sp' : Nat → Bool} : ∀ {ts : List TypeId} {vs : List Value} {ds : List (DataW H)} {ps : List MemPlace}, (∀ t ∈ ts, P.readableRec t = true ∧ t < P.types.size) →
    DataW.TrodAll enc P W 0 (fun _ => true) true ts vs ds ps → (∀ p ∈ ps, W.sameAt W' p) → (∀ p ∈ ps, sp' p.block = true) → DataW.TrodAll enc P W' 0 sp' true ts vs ds ps
  | [], [], [], _, _, h, _, _ => h
  | t :: _, _ :: _, _ :: _, _, hT, ⟨p, q, h1, h2, e⟩, hsame, hs =>
    ⟨p, q, WideElems.Trod_stays hl (hT t (List.mem_cons.2 (Or.inl rfl))).1 (hT t (List.mem_cons.2 (Or.inl rfl))).2 h1 (fun x hx => hsame x (by rw [e]; exact List.mem_append_left _ hx)) (fun x hx => hs x (by rw [e]; exact List.mem_append_left _ hx)),
      trodAll_stays hl (fun u hu => hT u (List.mem_cons.2 (Or.inr hu))) h2 (fun x hx => hsame x (by rw [e]; exact List.mem_append_right _ hx)) (fun x hx => hs x (by rw [e]; exact List.mem_append_right _ hx)), e⟩

theorem trodAll_length {w : World} {base : Nat} {sp : Nat → Bool} {held : Bool} : ∀ {ts : List TypeId} {vs : List Value} {ds : List (DataW H)} {ps : List MemPlace}, DataW.TrodAll enc P w base sp held ts vs ds ps → ds.length = ts.length
  | [], [], [], _, _ => rfl
  | _ :: _, _ :: _, _ :: _, _, ⟨_, _, _, h2, _⟩ => by simp [trodAll_length h2]

/-- the row's post of a law: it returned true, and below the heap's old size nothing has turned -/
theorem law_post {f : Func} {s : ChangeSpec} {tb : TypeId} {apart fresh handsOn again : Bool} {W W' : World} {args : Array Value} {ds gs : List (DataW H)} {before : List MemPlace}
    (hl : laidOutB P = true) (hr : ∀ t ∈ f.params.toList, P.readableRec t = true ∧ t < P.types.size) (hrt : f.resultTypes = #[tb]) (htb : P.underlying tb = some .bool) (hv : s.vars = [])
    (hfn : ∀ ds : List (DataW H), ds.length = f.params.toList.length → s.fn H ds = { results := [.lit (.bool true)], args := ds })
    (hW : DataW.Whole enc P f.params.toList s.vars apart W args.toList ds gs before) (hb : Below W.heap.size W W') :
    s.post enc P f apart fresh handsOn again W args (.bool true) W' := by
  have hlt : ∀ p ∈ before, p.block < W.heap.size := fun p hp => hW.lt p hp
  have hold : ∀ p ∈ before, (fun b => decide (b < W.heap.size)) p.block = true := fun p hp => by simpa using hlt p hp
  obtain ⟨p, q, hA, hV, hpq, hz, hn⟩ := hW
  have hgs : gs = [] ∧ q = [] := by rw [hv] at hV; exact trodVars_none hV
  obtain ⟨rfl, rfl⟩ := hgs
  have hlen := trodAll_length hA
  have hf : s.fn H (ds ++ []) = { results := [.lit (.bool true)], args := ds } := by rw [List.append_nil]; exact hfn ds hlen
  have hbp : before = p := by rw [hpq, List.append_nil]
  subst hbp
  have hres : ∀ (b : Nat) (sp : Nat → Bool) (hd : Bool), DataW.TrodAll enc P W' b sp hd f.resultTypes.toList ((Value.bool true).resultList f.resultTypes.size) (s.fn H (ds ++ [])).results [] := fun b sp hd => by
    rw [hf, hrt]
    exact trodAll_mk1 (shut_bool htb true)
  have hargs : ∀ sp : Nat → Bool, (∀ x ∈ before, sp x.block = true) → DataW.TrodAll enc P W' 0 sp true f.params.toList args.toList (s.fn H (ds ++ [])).args before := fun sp hs => by
    rw [hf]
    exact trodAll_stays hl hr hA (fun x hx => hb.same (hlt x hx)) hs
  have hvars : ∀ sp : Nat → Bool, DataW.TrodVars enc P W' sp s.vars (s.fn H (ds ++ [])).vars [] := fun sp => by
    rw [hf, hv]
    rfl
  have hWn : DataW.Whole enc P f.params.toList s.vars apart W args.toList ds [] before := ⟨before, [], hA, hV, by simp, hz, hn⟩
  refine ⟨ds, [], before, [], before, [], hWn, hres _ _ _, hargs _ hold, hvars _, World.keptBut_mono (fun x hx => ⟨hx, Or.inr (Or.inl hx)⟩) (hb.frame (· ∈ before)), fun _ => ?_⟩
  refine ⟨ok_one hrt rfl (okWide_bool_mk htb true), _, _, ([] ++ before) ++ [], ⟨[] ++ before, [], trodAll_append (hargs _ (fun _ _ => rfl)) (hres _ _ _), hvars _, rfl, ?_, ?_⟩, ?_⟩
  · intro b off hp
    have hin : MemPlace.cell b off ∈ before := by simpa using hp
    rw [hb.frozen (hlt _ hin)]
    exact hz b off hin
  · intro ha
    simpa using hn ha
  · intro x hx _
    simpa using hx
end

/-- the row's step of a law, out of its walk -/
theorem law_lifted {C : Checked} {os : Os} {F : FuncId} {f : Func} {s : ChangeSpec} {conds : List PathCond} {tb : TypeId} {H : Type} {enc : TypeId × Value → H}
    (own : ownKnob C.prog.godebug = none) (started : os.Started) (noInit : C.prog.inits.idxOf? F = none) (hfn : C.prog.funcs[F]? = some f)
    (witness : ∃ (w : World) (tape : Tape) (i : Input), w.os = os ∧ (w.forCall tape i).Shaped C.prog ∧ i.vars = [] ∧ Input.okWide C.prog (w.forCall tape i) .any w.heap.size F i ∧
      s.pre6 enc C.prog f conds false (w.forCall tape i).memory i.args ∧ ({} : Assume).holds C.prog (lone (Frame.enter C.prog F i.args .normal) [] (w.forCall tape i)))
    (hl : laidOutB C.prog = true) (hr : ∀ t ∈ f.params.toList, C.prog.readableRec t = true ∧ t < C.prog.types.size) (hrt : f.resultTypes = #[tb]) (htb : C.prog.underlying tb = some .bool) (hv : s.vars = [])
    (hsp : ∀ ds : List (DataW H), ds.length = f.params.toList.length → s.fn H ds = { results := [.lit (.bool true)], args := ds })
    (walk : ∀ (W : World) (base : Nat) (args : Array Value) (ds : List (DataW H)) (ps : List MemPlace),
      (∀ (j : Nat) t v, f.params[j]? = some t → args[j]? = some v → Value.okWide C.prog W .any base t v) →
      DataW.TrodAll enc C.prog W 0 (fun _ => true) true f.params.toList args.toList ds ps → (∀ p ∈ ps, p.block < W.heap.size) →
      Calls C.prog F args W fun e W' => e = .returned (.bool true) ∧ Below W.heap.size W W') :
    ReturnsInHanded {} C os F .any (s.pre6 enc C.prog f conds false) (s.post enc C.prog f false true false false) := by
  refine returnsInHanded_of_change (C := C) own started noInit hfn witness ?_
  intro W base args ds gs before hval hW _ _
  have hW0 := hW
  have hlt : ∀ p ∈ before, p.block < W.heap.size := fun p hp => hW.lt p hp
  obtain ⟨p, q, hA, hV, hpq, _, _⟩ := hW
  refine (walk W base args ds p hval hA (fun x hx => hlt x (by rw [hpq]; exact List.mem_append_left _ hx))).mono fun e W' ⟨he, hb⟩ => ⟨_, he, law_post hl hr hrt htb hv hsp hW0 hb⟩
end Go.Proofs.YtcajgbpcimimhaaGreatDoor
set_option linter.unusedVariables false
namespace Go.Proofs.YtcajgbpcimimhaaGreatDoor
open Go.ChangeShapes Go.WideShapes Go.ChangeAt Go.RowKit

theorem len_is {W : World} {M o g n cap : Nat} (h : W.cell? ⟨M, o + 1, none⟩ = some (.slice (some ⟨g, 0, none⟩) n cap)) :
    Calls Tryz.prog 37 #[.pointer (some ⟨M, o, none⟩)] W fun e w' => e = .returned (.int .i64 n) ∧ W = w' := by
  go_enter Tryz.func37, Tryz.ntmps37
  go_wp2_with fail
  exact bodyPost_ret (v := .int .i64 n) (by simp [results, Tryz.results37, go_sem]) rfl ⟨rfl, rfl⟩
def cnt (f : Nat → Int) (key : Int) : Nat → Nat
  | 0 => 0
  | k + 1 => if f k = key then cnt f key k + 1 else cnt f key k
theorem cnt_le (f : Nat → Int) (key : Int) : ∀ k, cnt f key k ≤ k
  | 0 => Nat.le_refl _
  | k + 1 => by
    have := cnt_le f key k
    unfold cnt
    split <;> omega
set_option maxHeartbeats 2000000 in
theorem count_is {W : World} {M o g n cap : Nat} {f : Nat → Int} {key : Int} (h : W.cell? ⟨M, o + 1, none⟩ = some (.slice (some ⟨g, 0, none⟩) n cap)) (hb : ∀ i, i < n → W.cell? ⟨g, i, none⟩ = some (.int .u64 (f i))) (hn : n ≤ 1000000) (hk : key ≠ 0) :
    Calls Tryz.prog 30 #[.pointer (some ⟨M, o, none⟩), .int .u64 key] W fun e w' => e = .returned (.int .i64 (cnt f key n)) ∧ W = w' := by
  have HL := Lib.hid (len_is h)
  have HBY := Lib.hid hb
  have HLE := Lib.hid (cnt_le f key)
  clear hb
  go_enter Tryz.func30, Tryz.ntmps30
  go_wp2_with fail
  refine HL.out.mono ?_
  rintro e w' ⟨rfl, rfl⟩
  go_wp2_with fail
  go_loop [5, 9] (fun s5 s9 => ∃ k : Nat, k ≤ n ∧ s9 = .int .i64 k ∧ s5 = .int .i64 (cnt f key k)) (fun _ s9 => n - (intOf s9).toNat)
  case atStart => exact ⟨0, by omega, rfl, rfl⟩
  case round =>
    obtain ⟨k, hk1, rfl, rfl⟩ := hrel
    by_cases hlt : k < n
    · have hc1 := HBY.out k hlt
      have hkI : (k : Int) < (n : Int) := by omega
      have hle := HLE.out k
      by_cases hq : f k = key
      · have HS := Lib.hid (show cnt f key (k + 1) = cnt f key k + 1 from if_pos hq)
        rw [hq] at hc1
        generalize cnt f key k = x at *
        go_wp2_with fail
        go_round
        case rel => exact ⟨k + 1, by omega, by go_num, by rw [HS.out]; go_num⟩
        case measure => simp [intOf]; omega
      · have HS := Lib.hid (show cnt f key (k + 1) = cnt f key k from if_neg hq)
        have hqb : (f k == key) = false := by simpa using hq
        generalize cnt f key k = x at *
        go_wp2_with fail
        go_round
        case rel => exact ⟨k + 1, by omega, by go_num, by rw [HS.out]⟩
        case measure => simp [intOf]; omega
    · obtain rfl : k = n := by omega
      go_wp2_with fail
      exact bodyPost_ret (v := .int .i64 (cnt f key k)) (by simp [results, Tryz.results30, go_sem]) rfl ⟨rfl, rfl⟩
set_option maxHeartbeats 2000000 in
theorem count_zero {W : World} {M o g n cap : Nat} (h : W.cell? ⟨M, o + 1, none⟩ = some (.slice (some ⟨g, 0, none⟩) n cap)) (hn : n ≤ 1000000) :
    Calls Tryz.prog 30 #[.pointer (some ⟨M, o, none⟩), .int .u64 0] W fun e w' => e = .returned (.int .i64 0) ∧ W = w' := by
  have HL := Lib.hid (len_is h)
  go_enter Tryz.func30, Tryz.ntmps30
  go_wp2_with fail
  refine HL.out.mono ?_
  rintro e w' ⟨rfl, rfl⟩
  go_wp2_with fail
  go_loop [5, 9] (fun s5 s9 => ∃ k : Nat, k ≤ n ∧ s9 = .int .i64 k ∧ s5 = .int .i64 0) (fun _ s9 => n - (intOf s9).toNat)
  case atStart => exact ⟨0, by omega, rfl, rfl⟩
  case round =>
    obtain ⟨k, hk1, rfl, rfl⟩ := hrel
    by_cases hlt : k < n
    · have hkI : (k : Int) < (n : Int) := by omega
      go_wp2_with fail
      go_round
      case rel => exact ⟨k + 1, by omega, by go_num, rfl⟩
      case measure => simp [intOf]; omega
    · obtain rfl : k = n := by omega
      go_wp2_with fail
      exact bodyPost_ret (v := .int .i64 0) (by simp [results, Tryz.results30, go_sem]) rfl ⟨rfl, rfl⟩
end Go.Proofs.YtcajgbpcimimhaaGreatDoor
namespace Go.Proofs.YtcajgbpcimimhaaGreatDoor.Vm
open Go Go.RowKit
variable {E : En} {w : W} {K : Nat → Prop} {W0 Wd : World}

def is1 (a key : Nat) : Nat := if a = key then 1 else 0
theorem one_eq (a key : Nat) : Nat.sub 1 (Nat.add (Nat.sub a key) (Nat.sub key a)) = is1 a key := by
  show 1 - ((a - key) + (key - a)) = if a = key then 1 else 0
  split <;> omega
theorem land_sub {a x : Nat} {S : Nat → Prop} (h : ∀ i, S i → has (Nat.land a x) i = true) : (∀ i, S i → has a i = true) ∧ ∀ i, S i → has x i = true :=
  ⟨fun i hi => by have := h i hi; rw [has_land, Bool.and_eq_true] at this; exact this.1, fun i hi => by have := h i hi; rw [has_land, Bool.and_eq_true] at this; exact this.2⟩
theorem lor_sub {a x : Nat} {S : Nat → Prop} (h : ∀ i, has (Nat.lor a x) i = true → S i) : (∀ i, has a i = true → S i) ∧ ∀ i, has x i = true → S i :=
  ⟨fun i hi => h i (by rw [has_lor, hi]; rfl), fun i hi => h i (by rw [has_lor, hi]; simp)⟩
theorem seven {a : Nat} (h1 : ∀ i, has 7 i = true → has a i = true) (h2 : ∀ i, has a i = true → has 7 i = true) : a = 7 := has_ext fun i => by
  cases h7 : has 7 i with
  | true => exact h1 i h7
  | false =>
    cases ha : has a i with
    | false => rfl
    | true => rw [h2 i ha] at h7; cases h7
theorem cntR1_ok {key : Nat} {r : R1} {c : Nat} {k : Nat → Bool} (h : cntR1 key r c k = true) : (∀ j, j < 8 → ((p8 j).f r).v.t = 7) ∧
    k (c + (is1 ((p8 0).f r).v.a key + (is1 ((p8 1).f r).v.a key + (is1 ((p8 2).f r).v.a key + (is1 ((p8 3).f r).v.a key + (is1 ((p8 4).f r).v.a key + (is1 ((p8 5).f r).v.a key + (is1 ((p8 6).f r).v.a key + (is1 ((p8 7).f r).v.a key))))))))) = true := by
  obtain ⟨⟨a⟩, ⟨b⟩, ⟨x⟩, ⟨d⟩, ⟨e⟩, ⟨f⟩, ⟨g⟩, ⟨hh⟩⟩ := r
  unfold cntR1 at h
  simp only [] at h
  cases h1 : Nat.beq (Nat.land a.t (Nat.land b.t (Nat.land x.t (Nat.land d.t (Nat.land e.t (Nat.land f.t (Nat.land g.t hh.t))))))) 7 with
  | false => rw [h1] at h; exact absurd h (bad_false (n := 199))
  | true =>
    rw [h1] at h
    simp only [] at h
    cases h2 : Nat.beq (Nat.lor a.t (Nat.lor b.t (Nat.lor x.t (Nat.lor d.t (Nat.lor e.t (Nat.lor f.t (Nat.lor g.t hh.t))))))) 7 with
    | false => rw [h2] at h; exact absurd h (bad_false (n := 199))
    | true =>
      rw [h2] at h
      simp only [fN_eq, one_eq] at h
      have l0 : ∀ i, has 7 i = true → has (Nat.land a.t (Nat.land b.t (Nat.land x.t (Nat.land d.t (Nat.land e.t (Nat.land f.t (Nat.land g.t hh.t))))))) i = true := fun i hi => by rw [Nat.eq_of_beq_eq_true h1]; exact hi
      have o0 : ∀ i, has (Nat.lor a.t (Nat.lor b.t (Nat.lor x.t (Nat.lor d.t (Nat.lor e.t (Nat.lor f.t (Nat.lor g.t hh.t))))))) i = true → has 7 i = true := fun i hi => by rw [Nat.eq_of_beq_eq_true h2] at hi; exact hi
      obtain ⟨la, l1⟩ := land_sub l0
      obtain ⟨lb, l2⟩ := land_sub l1
      obtain ⟨lx, l3⟩ := land_sub l2
      obtain ⟨ld, l4⟩ := land_sub l3
      obtain ⟨le, l5⟩ := land_sub l4
      obtain ⟨lf, l6⟩ := land_sub l5
      obtain ⟨lg, lh⟩ := land_sub l6
      obtain ⟨oa, o1⟩ := lor_sub o0
      obtain ⟨ob, o2⟩ := lor_sub o1
      obtain ⟨ox, o3⟩ := lor_sub o2
      obtain ⟨od, o4⟩ := lor_sub o3
      obtain ⟨oe, o5⟩ := lor_sub o4
      obtain ⟨of, o6⟩ := lor_sub o5
      obtain ⟨og, oh⟩ := lor_sub o6
      refine ⟨fun j hj => ?_, h⟩
      rcases j with _ | _ | _ | _ | _ | _ | _ | _ | j
      · exact seven la oa
      · exact seven lb ob
      · exact seven lx ox
      · exact seven ld od
      · exact seven le oe
      · exact seven lf of
      · exact seven lg og
      · exact seven lh oh
      · omega
theorem g61_at (s : R6) (i : Nat) {j : Nat} (hj : j < 8) : ((p8 j).f ((g61 i).f s)).v = s.at (8 * i + j) := by
  have e : (g61 i).f s = (p8 (dgN i 0)).f ((p8 (dgN i 3)).f ((p8 (dgN i 6)).f ((p8 (dgN i 9)).f ((p8 (dgN i 12)).f s)))) := by unfold g61; simp only [dg_eq]
  unfold R6.at
  rw [g6_f, g3_f, e]
  unfold R6.low
  have h0 : dgN (8 * i + j) 0 = j := by unfold dgN; omega
  have h3 : dgN (8 * i + j) 3 = dgN i 0 := by unfold dgN; omega
  have h6 : dgN (8 * i + j) 6 = dgN i 3 := by unfold dgN; omega
  have h9 : dgN (8 * i + j) 9 = dgN i 6 := by unfold dgN; omega
  have h12 : dgN (8 * i + j) 12 = dgN i 9 := by unfold dgN; omega
  have h15 : dgN (8 * i + j) 15 = dgN i 12 := by unfold dgN; omega
  rw [h0, h3, h6, h9, h12, h15]
def ownN (s : R6) (x : Nat) : Int := Int.ofNat (s.at x).a
theorem cnt_step (s : R6) (key x : Nat) : cnt (ownN s) (Int.ofNat key) (x + 1) = cnt (ownN s) (Int.ofNat key) x + is1 (s.at x).a key := by
  unfold is1
  show (if ownN s x = Int.ofNat key then _ else _) = _
  by_cases h : (s.at x).a = key
  · rw [if_pos h, if_pos (by unfold ownN; rw [h])]
  · rw [if_neg h, if_neg (by unfold ownN; intro e; exact h (Int.ofNat.inj e))]; rfl
theorem count8_ok (s : R6) (key : Nat) (k : Nat → Bool) : ∀ (n i c : Nat), c = cnt (ownN s) (Int.ofNat key) (8 * i) → count8 s key n i c k = true →
    (∀ x, 8 * i ≤ x → x < 8 * (i + n) → (s.at x).t = 7) ∧ k (cnt (ownN s) (Int.ofNat key) (8 * (i + n))) = true
  | 0, i, c, hc, h => ⟨fun x h1 h2 => by omega, by rw [Nat.add_zero, ← hc]; exact h⟩
  | n + 1, i, c, hc, h => by
    unfold count8 at h
    obtain ⟨h1, h⟩ := cntR1_ok h
    rw [fN_eq] at h
    simp only [g61_at s i (show (0 : Nat) < 8 by decide), g61_at s i (show (1 : Nat) < 8 by decide), g61_at s i (show (2 : Nat) < 8 by decide), g61_at s i (show (3 : Nat) < 8 by decide), g61_at s i (show (4 : Nat) < 8 by decide), g61_at s i (show (5 : Nat) < 8 by decide), g61_at s i (show (6 : Nat) < 8 by decide), g61_at s i (show (7 : Nat) < 8 by decide)] at h
    obtain ⟨h2, h3⟩ := count8_ok s key k n (i + 1) _ (by
      rw [show 8 * (i + 1) = 8 * i + 0 + 1 + 1 + 1 + 1 + 1 + 1 + 1 + 1 by omega]
      simp only [cnt_step, hc, Nat.add_zero, Nat.add_assoc, Nat.reduceAdd]) h
    refine ⟨fun x hx1 hx2 => ?_, by rw [show i + (n + 1) = i + 1 + n by omega]; exact h3⟩
    by_cases hx : x < 8 * (i + 1)
    · have := h1 (x - 8 * i) (by omega)
      rw [g61_at s i (by omega), show 8 * i + (x - 8 * i) = x by omega] at this
      exact this
    · exact h2 x (by omega) (by omega)
theorem fn30 : ∃ fn, Tryz.prog.funcs[30]? = some fn ∧ fn.body.isSome = true := ⟨_, Tryz.func30, by kernel_rfl⟩
theorem den7 {v : V} (h : v.t = 7) : den E v = .int .u64 (Int.ofNat v.a) := by
  obtain ⟨t, x, l, d, c, b, a⟩ := v
  cases h
  simp [den]
theorem countC_ok : OwnOk Tryz.prog 30 countC.run := fun rec _ args w k E K W0 Wd h hs ho => by
  refine ⟨fn30, ?_⟩
  match args, h, ho with
  | [], h, _ => exact absurd h (bad_false (n := 205))
  | [_], h, _ => exact absurd h (bad_false (n := 205))
  | _ :: _ :: _ :: _, h, _ => exact absurd h (bad_false (n := 205))
  | [p, key], h, ho =>
    have h : isN key.t 7 (ptrK p fun pb pa => fN (Nat.add pa 1) fun pa => cellAt w.h pb pa fun sv => isN sv.t 23 (isN sv.a 0 (
        vBA sv fun b _ => Ob.casesOn (motive := fun _ => Bool) ((gH b).f w.h) fun kk n _ _ _ l _ => Bool.casesOn (motive := fun _ => Bool) (Nat.ble sv.c n) (bad 201)
          (isN kk 2 (Nat.casesOn (motive := fun _ => Bool) key.a (k (.nat 3 0) w) fun key' => isN (Nat.land sv.c 7) 0 (count8 l (Nat.succ key') (Nat.shiftRight sv.c 3) 0 0 fun c => k (.nat 3 c) w) (bad 200)) (bad 200))) (bad 202)) (bad 202)) (bad 204) = true := h
    obtain ⟨h7, h⟩ := isN_true (by rfl) h
    obtain ⟨hp, h⟩ := ptrK_ok h
    rw [fN_eq] at h
    obtain ⟨hb, e1⟩ := ok_ptr ho.1 hp
    obtain ⟨sv, h, osv, _, hcell⟩ := hs.cellAt hb h
    have hcell := hcell hs
    obtain ⟨h23, h⟩ := isN_true (by rfl) h
    obtain ⟨h0, h⟩ := isN_true (by rfl) h
    have esv : den E sv = .slice (some ⟨E.φ sv.b, 0, none⟩) sv.c sv.d ∧ sv.b < w.nx := by
      obtain ⟨t, x, l, d, c, b, a⟩ := sv
      cases h23
      cases h0
      exact ⟨by simp [den], osv.1⟩
    rw [esv.1] at hcell
    have hargs : (denL E [p, key]).toArray = #[.pointer (some ⟨E.φ p.b, p.a, none⟩), .int .u64 (Int.ofNat key.a)] := by simp [denL, e1, den7 h7]
    rw [hargs]
    have fin : ∀ c : Nat, k (.nat 3 c) w = true → Calls Tryz.prog 30 #[.pointer (some ⟨E.φ p.b, p.a, none⟩), .int .u64 (Int.ofNat key.a)] Wd (fun e w' => e = .returned (.int .i64 (Int.ofNat c)) ∧ Wd = w') → Calls Tryz.prog 30 #[.pointer (some ⟨E.φ p.b, p.a, none⟩), .int .u64 (Int.ofNat key.a)] Wd (CallEnd E w K W0 k) := fun c hk hc =>
      hc.mono fun e w' hq => by
        obtain ⟨he, hw⟩ := hq
        subst hw
        exact ⟨E, w, .nat 3 c, by rw [he]; simp [den], Ext.refl _ _, hs, okN c, rfl, rfl, hk⟩
    rw [vBA_eq] at h
    have hob : ((gH sv.b).f w.h) = w.h.at sv.b := rfl
    rw [hob] at h
    cases hq : w.h.at sv.b with
    | mk kk n ww pp s l oth =>
      rw [hq] at h
      have h : (Bool.casesOn (motive := fun _ => Bool) (Nat.ble sv.c n) (bad 201)
          (isN kk 2 (Nat.casesOn (motive := fun _ => Bool) key.a (k (.nat 3 0) w) fun key' => isN (Nat.land sv.c 7) 0 (count8 l (Nat.succ key') (Nat.shiftRight sv.c 3) 0 0 fun c => k (.nat 3 c) w) (bad 200)) (bad 200))) = true := h
      cases hle : Nat.ble sv.c n with
      | false => rw [hle] at h; exact absurd h (bad_false (n := 201))
      | true =>
        rw [hle] at h
        obtain ⟨hk2, h⟩ := isN_true (by rfl) h
        subst hk2
        have hrow := (hs.ob sv.b esv.2).row (by rw [hq]; exact .inr rfl)
        rw [hq] at hrow
        have hcap : n ≤ 262144 := hrow.cap
        have hn : sv.c ≤ 1000000 := by have := ble_true hle; omega
        cases hk : key.a with
        | zero =>
          rw [hk] at h fin
          have h : k (.nat 3 0) w = true := h
          exact fin 0 h (count_zero hcell hn)
        | succ key' =>
          rw [hk] at h fin
          have h : isN (Nat.land sv.c 7) 0 (count8 l (Nat.succ key') (Nat.shiftRight sv.c 3) 0 0 fun c => k (.nat 3 c) w) (bad 200) = true := h
          obtain ⟨h8, h⟩ := isN_true (by rfl) h
          have e8 : 8 * (0 + Nat.shiftRight sv.c 3) = sv.c := by
            have h1 : sv.c &&& 7 = sv.c % 8 := Nat.and_two_pow_sub_one_eq_mod sv.c 3
            have h2 : sv.c &&& 7 = 0 := h8
            have h3 : Nat.shiftRight sv.c 3 = sv.c / 8 := Nat.shiftRight_eq_div_pow sv.c 3
            omega
          obtain ⟨ht, h⟩ := count8_ok l (key' + 1) _ _ 0 0 rfl h
          rw [e8] at h ht
          refine fin _ h (count_is (f := ownN l) hcell (fun i hi => ?_) hn (by intro e; cases e))
          obtain ⟨⟨_, _⟩, hc2⟩ := hs.cell (i := i) esv.2 (by rw [hq]; exact .inr rfl) (by rw [hq]; exact Nat.lt_of_lt_of_le hi (ble_true hle))
          rw [hc2, hq]
          have e2 : (Ob.mk 2 n ww pp s l oth).cell i = l.at i := if_neg (show ¬ 2 = 1 by decide)
          rw [e2, den7 (ht i (by omega) hi)]
          rfl
end Go.Proofs.YtcajgbpcimimhaaGreatDoor.Vm
namespace Go.Proofs.YtcajgbpcimimhaaGreatDoor.Vm
open Go Go.RowKit
variable {P : Program} {E : En} {w : W} {K : Nat → Prop} {W0 Wd : World}
theorem SR.below {W' : World} (h : SR E w K W0 Wd) (b : Below Wd.heap.size Wd W') : SR E w K W0 W' :=
  ⟨h.nx, h.glob, fun id hid => by
    by_cases k0 : (w.h.at id).k = 0
    · exact .inl k0
    · rw [b.block _ (h.lt hid k0)]; exact h.ob id hid, h.inj, h.wr, fun k kk => by
    obtain ⟨h1, h2⟩ := h.keep k kk
    exact ⟨h1, (b.block k (Nat.lt_of_lt_of_le h1 h.size)).trans h2⟩, b.os.trans h.os, b.tape.trans h.tape, b.output.trans h.output, Nat.le_trans h.size b.size, h.ms, h.un, h.own, h.big⟩
theorem rowIs_ok {o : Ob} : ∀ (l : List V) (i : Nat) (k : Bool), rowIs o l i k = true → (l = [] ∨ o.k = 1 ∨ o.k = 2) ∧ k = true ∧ ∀ j v, l[j]? = some v → i + j < o.n ∧ (o.cell (i + j)).t = v.t ∧ (o.cell (i + j)).a = v.a
  | [], i, k, h => ⟨.inl rfl, h, fun j v hj => by simp at hj⟩
  | v :: l, i, k, h => by
    unfold rowIs at h
    obtain ⟨hk, hi, h⟩ := cellOf_ok h
    obtain ⟨h1, h⟩ := isN_true (by rfl) h
    obtain ⟨h2, h⟩ := isN_true (by rfl) h
    rw [fN_eq] at h
    obtain ⟨_, h3, h4⟩ := rowIs_ok l (i + 1) k h
    refine ⟨.inr hk, h3, fun j u hj => ?_⟩
    cases j with
    | zero =>
      rw [List.getElem?_cons_zero] at hj
      cases hj
      exact ⟨hi, h1, h2⟩
    | succ j =>
      rw [List.getElem?_cons_succ] at hj
      have := h4 j u hj
      rwa [show i + 1 + j = i + (j + 1) by omega] at this
/-- the laid rows, as they lie in a world -/
structure Laid (Wd : World) : Prop where
  sp : ∀ (i : Nat) (v : V), spL[i]? = some v → Wd.cell? ⟨0, i, none⟩ = some (.int .u8 (Int.ofNat v.a))
  mks : ∀ (i : Nat) (v : V), mkL[i]? = some v → Wd.cell? ⟨2, i, none⟩ = some (.int .i64 (Int.ofNat v.a))
theorem den_num {v : V} {k : IntKind} (h : v.t = cd k) : den E v = .int k (Int.ofNat v.a) := by
  obtain ⟨t, x, l, d, c, b, a⟩ := v
  cases k <;> (cases h; simp [den])
theorem spL_t (i : Nat) (v : V) (h : spL[i]? = some v) : v.t = 4 := by
  unfold spL at h
  rw [List.getElem?_map] at h
  cases hr : (List.range 256)[i]? with
  | none => rw [hr] at h; cases h
  | some j => rw [hr] at h; cases h; rfl
theorem mkL_t (i : Nat) (v : V) (h : mkL[i]? = some v) : v.t = 3 := by
  unfold mkL at h
  rw [List.getElem?_map] at h
  cases hr : ([1, 1, 2, 1, 4, 1, 3, 2, 5, 2] : List Nat)[i]? with
  | none => rw [hr] at h; cases h
  | some j => rw [hr] at h; cases h; rfl
theorem SR.rowIs (h : SR E w K W0 Wd) {g : Nat} (hg : g < 3) {l : List V} {k : Bool} (hr : Vm.rowIs ((gH g).f w.h) l 0 k = true) {kk : IntKind} (ht : ∀ (i : Nat) (v : V), l[i]? = some v → v.t = cd kk) : k = true ∧ ∀ (i : Nat) (v : V), l[i]? = some v → Wd.cell? ⟨g, i, none⟩ = some (.int kk (Int.ofNat v.a)) := by
  obtain ⟨h1, h2, h3⟩ := rowIs_ok l 0 k hr
  refine ⟨h2, fun i v hi => ?_⟩
  have hgn : g < w.nx := Nat.lt_of_lt_of_le hg h.glob.1
  have hk : (w.h.at g).k = 1 ∨ (w.h.at g).k = 2 := by
    rcases h1 with h1 | h1
    · subst h1; simp at hi
    · exact h1
  obtain ⟨e1, e2, e3⟩ := h3 i v hi
  rw [Nat.zero_add] at e1 e2 e3
  have hc := (h.cell hgn hk e1).2
  rw [h.glob.2 g hg] at hc
  have e2 : ((w.h.at g).cell i).t = v.t := e2
  have e3 : ((w.h.at g).cell i).a = v.a := e3
  rw [hc, den_num (e2.trans (ht i v hi)), e3]
theorem trueC_ok {sp : Nat} (hf : ∃ fn, P.funcs[sp]? = some fn ∧ fn.body.isSome = true) (h : ∀ W, Laid W → Calls P sp #[] W fun e W' => e = .returned (.bool true) ∧ Below W.heap.size W W') : OwnOk P sp trueC.run := fun rec _ args w k E K W0 Wd hr hs ho => by
  cases args with
  | cons v l => exact absurd hr (bad_false (n := 219))
  | nil =>
    have hr : Vm.rowIs ((gH 0).f w.h) spL 0 (Vm.rowIs ((gH 2).f w.h) mkL 0 (k (.bool 1) w)) = true := hr
    obtain ⟨hr, h0⟩ := hs.rowIs (g := 0) (kk := .u8) (by decide) hr spL_t
    obtain ⟨hr, h2⟩ := hs.rowIs (g := 2) (kk := .i64) (by decide) hr mkL_t
    exact ⟨hf, (h Wd ⟨h0, h2⟩).mono fun e W' hq => ⟨E, w, .bool 1, hq.1, Ext.refl _ _, hs.below hq.2, ⟨trivial, trivial⟩, rfl, rfl, hr⟩⟩
end Go.Proofs.YtcajgbpcimimhaaGreatDoor.Vm
set_option linter.unusedVariables false
namespace Go.Proofs.YtcajgbpcimimhaaGreatDoor
open Go.RowKit Go.Sort

set_option maxHeartbeats 1000000 in
theorem isnan_u64 (x : Int) (w : World) : Calls Tryz.prog 150 #[.int .u64 x] w fun e w' => e = .returned (.bool false) ∧ w' = w := by
  go_enter Tryz.func150, Tryz.ntmps150
  go_wp2
  go_ret
  exact ⟨by simp, rfl⟩
set_option maxHeartbeats 1000000 in
theorem less_u64 (x y : Int) (w : World) : Calls Tryz.prog 105 #[.int .u64 x, .int .u64 y] w fun e w' => e = .returned (.bool (Sort.ltInt x y)) ∧ w' = w := by
  go_enter Tryz.func105, Tryz.ntmps105
  go_wp2_with (go_at_call 150; refine (isnan_u64 _ _).mono ?_; rintro e w' ⟨rfl, rfl⟩)
  go_ret
  exact ⟨rfl, rfl⟩

section
variable {α : Type} [Inhabited α] (lt : α → α → Bool)
theorem ins_go (a j : Nat) (d : Array α) (hj : a < j) (hl : lt d[j]! d[j - 1]! = true) : insInner lt a j d = insInner lt a (j - 1) (swp d j (j - 1)) := by
  obtain ⟨k, rfl⟩ : ∃ k, j = k + 1 := ⟨j - 1, by omega⟩
  rw [insInner]
  simp only [Nat.add_sub_cancel] at hl ⊢
  simp [hj, hl]
theorem ins_stop (a j : Nat) (d : Array α) (h : j ≤ a ∨ lt d[j]! d[j - 1]! = false) : insInner lt a j d = d := by
  cases j with
  | zero => rw [insInner]
  | succ k =>
    rw [insInner]
    simp only [Nat.add_sub_cancel] at h
    rcases h with h | h
    · simp [show ¬ k + 1 > a by omega]
    · simp [h]
theorem out_go (a b i : Nat) (d : Array α) (h : i < b) : insOuter lt a b i d = insOuter lt a b (i + 1) (insInner lt a i d) := by rw [insOuter, if_pos h]
theorem out_stop (a b i : Nat) (d : Array α) (h : ¬ i < b) : insOuter lt a b i d = d := by rw [insOuter, if_neg h]
end
section
variable {α : Type} [Inhabited α] (enc : α → Value)
theorem row_drewN (w : World) (m q blk off : Nat) (d : Array α) : (putRow enc (Sort.ahead w m) blk off d).drewN q = putRow enc (Sort.ahead w (m + q)) blk off d := by
  show Sort.ahead (putRow enc (Sort.ahead w m) blk off d) q = _
  rw [putRow_ahead enc w m, ahead_ahead, ← putRow_ahead]
theorem swap_row (w : World) (m q blk off : Nat) (d : Array α) (j k : Nat) (hj : j < d.size) (hk : k < d.size) :
    (((putRow enc (Sort.ahead w m) blk off d).drewN q).setCell ⟨blk, off + j, none⟩ (enc d[k]!)).setCell ⟨blk, off + k, none⟩ (enc d[j]!) = putRow enc (Sort.ahead w (m + q)) blk off (swp d j k) := by
  rw [row_drewN]
  exact putRow_swp enc _ blk off d j k hj hk
end

set_option maxHeartbeats 2000000 in
theorem insertion_u64 (blk off cap a b : Nat) (d : Array Int) (w : World) (hH : Holds (Value.int .u64) w blk off d) (hab : a ≤ b) (hb : b ≤ d.size) (hsz : d.size < 4611686018427387904) :
    Calls Tryz.prog 99 #[.slice (some ⟨blk, off, none⟩) d.size cap, .int .i64 a, .int .i64 b] w fun e w' =>
      e = .returned (.tuple #[]) ∧ ∃ n, w' = putRow (Value.int .u64) (Sort.ahead w n) blk off (Sort.insertionSort ltInt d a b) := by
  go_enter Tryz.func99, Tryz.ntmps99
  go_wp2
  go_loopw [6] (fun vi wr => ∃ (i n : Nat) (dk : Array Int), vi = .int .i64 i ∧ a < i ∧ i ≤ b + 1 ∧ dk.size = d.size ∧ wr = putRow (Value.int .u64) (Sort.ahead w n) blk off dk ∧
      insOuter ltInt a b i dk = insOuter ltInt a b (a + 1) d) (fun vi _ => b + 1 - (intOf vi).toNat)
  case atStart => exact ⟨a + 1, 0, d, by go_num, by omega, by omega, rfl, (putRow_self _ _ _ _ _ hH).symm, rfl⟩
  case round =>
    obtain ⟨i, n, dk, rfl, hai, hib, hsk, hwr, hO⟩ := hrel
    have HO : Hid (insOuter ltInt a b i dk = insOuter ltInt a b (a + 1) d) := hO
    clear hO
    go_wp2
    · go_loopw [7] (fun vj wr2 => ∃ (j m : Nat) (dj : Array Int), vj = .int .i64 j ∧ a ≤ j ∧ j ≤ i ∧ dj.size = d.size ∧ wr2 = putRow (Value.int .u64) (Sort.ahead w m) blk off dj ∧
          insInner ltInt a j dj = insInner ltInt a i dk) (fun vj _ => (intOf vj).toNat)
      case atStart => exact ⟨i, n, dk, rfl, by omega, Nat.le_refl _, hsk, rfl, rfl⟩
      case round =>
        obtain ⟨j, m, dj, rfl, haj, hji, hsj, hw2, hI⟩ := hrel
        have hlt : i < b := by assumption
        obtain ⟨G, hG⟩ : ∃ G : Nat → Int, ∀ t, G t = dj[t]! := ⟨fun t => dj[t]!, fun _ => rfl⟩
        have hcw : ∀ t, t < d.size → wr.cell? ⟨blk, off + t, none⟩ = some (.int .u64 (G t)) := fun t ht => by
          rw [hw2, hG]; exact cell?_putRow _ _ _ _ d dj (holds_ahead _ _ _ _ _ _ hH) hsj t (by omega)
        have hfw : ∀ t, t < d.size → wr.frozen? ⟨blk, off + t, none⟩ = false := fun t ht => by
          rw [hw2, frozen?_putRow]; exact ((holds_ahead _ _ m _ _ _ hH) t ht).2
        have HW : Hid (wr = putRow (Value.int .u64) (Sort.ahead w m) blk off dj) := hw2
        have HG : Hid (∀ t, G t = dj[t]!) := hG
        have HI : Hid (insInner ltInt a j dj = insInner ltInt a i dk) := hI
        clear hw2 hG hI hH
        have out : (j ≤ a ∨ ltInt dj[j]! dj[j - 1]! = false) → ∀ q, ∃ i' n' dk', Value.int .i64 ((i : Int) + 1) = .int .i64 (i' : Nat) ∧ a < i' ∧ i' ≤ b + 1 ∧ dk'.size = d.size ∧
            wr.drewN q = putRow (Value.int .u64) (Sort.ahead w n') blk off dk' ∧ insOuter ltInt a b i' dk' = insOuter ltInt a b (a + 1) d := fun hs q =>
          ⟨i + 1, m + q, dj, by go_num, by omega, by omega, hsj, by rw [HW.out]; exact row_drewN _ _ _ _ _ _ _,
            by rw [← HO.out, out_go _ _ _ _ _ hlt, ← HI.out, ins_stop _ _ _ _ hs]⟩
        have OUT : Hid _ := out
        clear out
        go_wp2
        by_cases hja : a < j
        · go_quiet (first | (go_at_call 105; refine Calls.quiet_of_same (less_u64 _ _ _)))
          go_wp2
          · have hl : ltInt (G j) (G (j - 1)) = true := by assumption
            go_region
            all_goals go_wp2
            go_roundw
            case rel =>
              refine ⟨j - 1, m + (nq + 1), swp dj j (j - 1), by congr 1; omega, by omega, by omega, by rw [size_swp]; exact hsj, ?_, ?_⟩
              · rw [HW.out, HG.out, HG.out]
                exact swap_row _ w m (nq + 1) blk off dj j (j - 1) (by omega) (by omega)
              · rw [← HI.out, ins_go ltInt a j dj hja (by rw [← HG.out, ← HG.out]; exact hl)]
            case measure => simp [intOf]; omega
          · have hl : ltInt (G j) (G (j - 1)) = false := by assumption
            go_roundw
            case rel => exact OUT.out (Or.inr (by rw [← HG.out, ← HG.out]; exact hl)) nq
            case measure => simp [intOf]; omega
        · go_quiet (first | (go_at_call 105; refine Calls.quiet_of_same (less_u64 _ _ _)))
          go_wp2
          go_roundw
          case rel => exact OUT.out (Or.inl (by omega)) nq
          case measure => simp [intOf]; omega
    · have hge : ¬ i < b := by assumption
      go_end0
      exact ⟨rfl, n, by unfold Sort.insertionSort; rw [← HO.out, out_stop _ _ _ _ _ hge]⟩
end Go.Proofs.YtcajgbpcimimhaaGreatDoor
set_option linter.unusedVariables false
namespace Go.Proofs.YtcajgbpcimimhaaGreatDoor
open Go.RowKit Go.Sort

set_option maxRecDepth 100000 in
set_option maxHeartbeats 4000000 in
theorem len64_small (n : Nat) (hn : n ≤ 12) (w : World) : Calls Tryz.prog 109 #[.int .u64 n] w fun e w' => (∃ l : Int, e = .returned (.int .i64 l)) ∧ w' = w := by
  have h13 : n = 0 ∨ n = 1 ∨ n = 2 ∨ n = 3 ∨ n = 4 ∨ n = 5 ∨ n = 6 ∨ n = 7 ∨ n = 8 ∨ n = 9 ∨ n = 10 ∨ n = 11 ∨ n = 12 := by omega
  rcases h13 with rfl | rfl | rfl | rfl | rfl | rfl | rfl | rfl | rfl | rfl | rfl | rfl | rfl
  all_goals
    go_enter Tryz.func109, Tryz.ntmps109
    go_wp2
    go_ret
    exact ⟨⟨_, rfl⟩, rfl⟩
set_option maxHeartbeats 1000000 in
theorem len_small (n : Nat) (hn : n ≤ 12) (w : World) : Calls Tryz.prog 66 #[.int .u64 n] w fun e w' => (∃ l : Int, e = .returned (.int .i64 l)) ∧ w' = w := by
  go_enter Tryz.func66, Tryz.ntmps66
  go_wp2_with (go_at_call 109; refine (len64_small n hn _).mono ?_; rintro e w' ⟨⟨l, rfl⟩, rfl⟩)
  go_ret
  exact ⟨⟨_, rfl⟩, rfl⟩
set_option maxHeartbeats 2000000 in
theorem pdq_small (blk off cap : Nat) (d : Array Int) (l : Int) (w : World) (hH : Holds (Value.int .u64) w blk off d) (hsz : d.size ≤ 12) :
    Calls Tryz.prog 65 #[.slice (some ⟨blk, off, none⟩) d.size cap, .int .i64 0, .int .i64 d.size, .int .i64 l] w fun e w' =>
      e = .returned (.tuple #[]) ∧ ∃ n, w' = putRow (Value.int .u64) (Sort.ahead w n) blk off (Sort.insertionSort ltInt d 0 d.size) := by
  have hc := insertion_u64 blk off cap 0 d.size d w hH (Nat.zero_le _) (Nat.le_refl _) (by omega)
  go_enter Tryz.func65, Tryz.ntmps65
  go_wp2
  refine wp_loop_rounds 1 ?_
  rw [rounds_succ]
  go_wp2_with (go_at_call 99; refine hc.mono ?_; rintro e w' ⟨rfl, nn, rfl⟩)
  exact bodyPost_ret (v := .tuple #[]) (by simp [results, Tryz.results65, go_sem]) rfl ⟨rfl, nn, rfl⟩
set_option maxHeartbeats 2000000 in
theorem sort_small (blk off cap : Nat) (d : Array Int) (w : World) (hH : Holds (Value.int .u64) w blk off d) (hsz : d.size ≤ 12) :
    Calls Tryz.prog 38 #[.slice (some ⟨blk, off, none⟩) d.size cap] w fun e w' =>
      e = .returned (.tuple #[]) ∧ ∃ n, w' = putRow (Value.int .u64) (Sort.ahead w n) blk off (Sort.insertionSort ltInt d 0 d.size) := by
  go_enter Tryz.func38, Tryz.ntmps38
  go_wp2_with (first
    | (go_at_call 66; refine (len_small d.size hsz _).mono ?_; rintro e w' ⟨⟨l, rfl⟩, rfl⟩)
    | (go_at_call 65; refine (pdq_small blk off cap d l _ hH hsz).mono ?_; rintro e w' ⟨rfl, nn, rfl⟩))
  go_end0
  exact ⟨rfl, nn, rfl⟩
set_option maxHeartbeats 2000000 in
theorem insertion_nil (w : World) : Calls Tryz.prog 99 #[.slice none 0 0, .int .i64 0, .int .i64 0] w fun e w' => e = .returned (.tuple #[]) ∧ w' = w := by
  go_enter Tryz.func99, Tryz.ntmps99
  go_wp2
  refine wp_loop_rounds 1 ?_
  rw [rounds_succ]
  go_wp2
  go_end0
  exact ⟨rfl, rfl⟩
set_option maxHeartbeats 2000000 in
theorem pdq_nil (l : Int) (w : World) : Calls Tryz.prog 65 #[.slice none 0 0, .int .i64 0, .int .i64 0, .int .i64 l] w fun e w' => e = .returned (.tuple #[]) ∧ w' = w := by
  go_enter Tryz.func65, Tryz.ntmps65
  go_wp2
  refine wp_loop_rounds 1 ?_
  rw [rounds_succ]
  go_wp2_with (go_at_call 99; refine (insertion_nil _).mono ?_; rintro e w' ⟨rfl, rfl⟩)
  exact bodyPost_ret (v := .tuple #[]) (by simp [results, Tryz.results65, go_sem]) rfl ⟨rfl, rfl⟩
set_option maxHeartbeats 2000000 in
theorem sort_nil (w : World) : Calls Tryz.prog 38 #[.slice none 0 0] w fun e w' => e = .returned (.tuple #[]) ∧ w' = w := by
  have hl := len_small 0 (Nat.zero_le _)
  go_enter Tryz.func38, Tryz.ntmps38
  go_wp2_with (first
    | (go_at_call 66; refine (hl _).mono ?_; rintro e w' ⟨⟨l, rfl⟩, rfl⟩)
    | (go_at_call 65; refine (pdq_nil l _).mono ?_; rintro e w' ⟨rfl, rfl⟩))
  go_end0
  exact ⟨rfl, rfl⟩
end Go.Proofs.YtcajgbpcimimhaaGreatDoor
namespace Go.Proofs.YtcajgbpcimimhaaGreatDoor
open Go.RowKit Go.Sort Vm

theorem insN_perm (n : Nat) : ∀ l : List Nat, (insN n l).Perm (n :: l)
  | [] => List.Perm.refl _
  | a :: l => by
    unfold insN
    cases Nat.blt a n with
    | false => exact List.Perm.refl _
    | true => exact (List.Perm.cons a (insN_perm n l)).trans (List.Perm.swap n a l)
theorem sortN_perm : ∀ l : List Nat, (sortN l).Perm l
  | [] => List.Perm.refl _
  | a :: l => (insN_perm a (sortN l)).trans (List.Perm.cons a (sortN_perm l))
theorem insN_sorted (n : Nat) : ∀ l : List Nat, l.Pairwise (· ≤ ·) → (insN n l).Pairwise (· ≤ ·)
  | [], _ => by simp [insN]
  | a :: l, h => by
    unfold insN
    cases hb : Nat.blt a n with
    | false =>
      have hna : n ≤ a := Nat.le_of_not_lt fun hlt => by
        have : Nat.blt a n = true := Nat.ble_eq_true_of_le hlt
        rw [hb] at this; cases this
      refine List.pairwise_cons.2 ⟨fun x hx => ?_, h⟩
      rcases List.mem_cons.1 hx with rfl | hx
      · exact hna
      · exact Nat.le_trans hna ((List.pairwise_cons.1 h).1 x hx)
    | true =>
      have han : a < n := Nat.le_of_ble_eq_true hb
      obtain ⟨h1, h2⟩ := List.pairwise_cons.1 h
      refine List.pairwise_cons.2 ⟨fun x hx => ?_, insN_sorted n l h2⟩
      rcases List.mem_cons.1 ((insN_perm n l).mem_iff.1 hx) with rfl | hx
      · omega
      · exact h1 x hx
theorem sortN_sorted : ∀ l : List Nat, (sortN l).Pairwise (· ≤ ·)
  | [] => List.Pairwise.nil
  | a :: l => insN_sorted a _ (sortN_sorted l)
def intsA (l : List Nat) : Array Int := (l.map Int.ofNat).toArray
theorem intsA_size (l : List Nat) : (intsA l).size = l.length := by simp [intsA]
theorem intsA_get (l : List Nat) {i : Nat} (hi : i < l.length) : (intsA l)[i]! = Int.ofNat l[i] := by
  rw [getElem!_pos _ i (by rw [intsA_size]; exact hi)]
  simp [intsA]
theorem extract_all (d : Array Int) : d.extract 0 d.size = d := by simp
theorem sorted_eq {ks keys : List Nat} (h : ks.Perm keys) : (insertionSort ltInt (intsA ks) 0 (intsA ks).size).toList = (sortN keys).map Int.ofNat := by
  have tot : ∀ x y : Int, ltInt x y = false → ltInt y x = false → x = y := fun x y h1 h2 => by
    unfold ltInt at h1 h2
    rw [decide_eq_false_iff_not] at h1 h2
    omega
  obtain ⟨p1, s1⟩ := insertionSort_holds (lt := ltInt) swo_ltInt (intsA ks) 0 (intsA ks).size (Nat.zero_le _) (Nat.le_refl _)
  have e1 := sorted_unique_holds (lt := ltInt) swo_ltInt tot _ _ p1 s1
  have hp : (sortN keys).Perm ks := (sortN_perm keys).trans h.symm
  have hlen : (intsA (sortN keys)).size = (intsA ks).size := by rw [intsA_size, intsA_size]; exact hp.length_eq
  have p2 : PermIn 0 (intsA ks).size (intsA ks) (intsA (sortN keys)) := by
    refine ⟨hlen, fun i hi => ?_, ?_⟩
    · have hi : (intsA ks).size ≤ i := by omega
      rw [getElem!_neg _ i (by omega), getElem!_neg _ i (by omega)]
    · have h1 : (intsA (sortN keys)).extract 0 (intsA ks).size = intsA (sortN keys) := by rw [← hlen]; exact extract_all _
      rw [h1, extract_all]
      exact hp.map Int.ofNat
  have s2 : SortedIn ltInt 0 (intsA ks).size (intsA (sortN keys)) := fun i j _ hij hj => by
    have hj' : j < (sortN keys).length := by rw [← hlen, intsA_size] at hj; exact hj
    rw [intsA_get _ hj', intsA_get _ (Nat.lt_trans hij hj')]
    unfold ltInt
    rw [decide_eq_false_iff_not]
    have := List.pairwise_iff_getElem.1 (sortN_sorted keys) i j (Nat.lt_trans hij hj') hj' hij
    intro hlt
    have := Int.ofNat_lt.1 hlt
    omega
  have e2 := sorted_unique_holds (lt := ltInt) swo_ltInt tot _ _ p2 s2
  rw [e1, ← e2]
  rfl
end Go.Proofs.YtcajgbpcimimhaaGreatDoor
set_option linter.unusedVariables false
namespace Go.Proofs.YtcajgbpcimimhaaGreatDoor
open Go.RowKit Go.Sort

/-- a range over a map under way, nothing being laid into it -/
structure Rng (w : World) (m r : Nat) (es : Array MapEntry) (cl : Nat) (seen : Array Nat) : Prop where
  hm : w.heap[m]? = some (.map es cl)
  hr : w.heap[r]? = some (.mapIter (some m) cl seen cl)
theorem Rng.kept {w w' : World} {m r : Nat} {es : Array MapEntry} {cl : Nat} {seen : Array Nat} {row : Option Nat} (h : Rng w m r es cl seen) (hg : w.grownBy w' row) (h1 : some m ≠ row) (h2 : some r ≠ row) : Rng w' m r es cl seen :=
  ⟨(hg.block m (Array.getElem?_eq_some_iff.1 h.hm).1 h1).trans h.hm, (hg.block r (Array.getElem?_eq_some_iff.1 h.hr).1 h2).trans h.hr⟩
theorem Rng.left {w : World} {m r : Nat} {es : Array MapEntry} {cl : Nat} {seen : Array Nat} (h : Rng w m r es cl seen) : w.rangeLeft m r = (leftOf es seen).size := by
  simp only [World.rangeLeft, h.hm, h.hr]
section
variable {P : Program} (w : World) {ops : Array Oper} {rest : List Oper} {o : Oper} {a : Act} {Q : Exit → Act → World → Prop}
theorem wpList_range_m (hg : o.guard = none) (x : Operand) (t : TypeId) (hop : o.op = Op.range t x) (k e : TypeId) (ht : P.underlying t = some (.map k e)) (m : Nat) (es : Array MapEntry) (cl : Nat) (hx : a.eval x = .map (some m)) (hm : w.heap[m]? = some (.map es cl))
    (h : Rng (w.alloc (.mapIter (some m) cl #[] cl)) m w.heap.size es cl #[] → wpList P ops Q rest (a.put o.dst (.pointer (some ⟨w.heap.size, 0, none⟩))) (w.alloc (.mapIter (some m) cl #[] cl))) :
    wpList P ops Q (o :: rest) a w := by
  refine wpList_plain hg fun K' hK' => ?_
  have hrun : (Instr.range t (.map (some m))).run P w = .ok (.pointer (some ⟨w.heap.size, 0, none⟩)) (w.alloc (.mapIter (some m) cl #[] cl)) := by
    exact run_range_map w t k e m es cl ht hm
  unfold Oper.wp
  simp [execOp, hop, hx, hrun, Result.andThen]
  exact hK' _ _ (h ⟨by rw [Below.heap_alloc _ _ _ (Array.getElem?_eq_some_iff.1 hm).1]; exact hm, heap_alloc_new w _⟩)
theorem wpList_next_m (hg : o.guard = none) (it : Operand) (hop : o.op = Op.next it false) (m r : Nat) (es : Array MapEntry) (cl : Nat) (seen : Array Nat) (hk : ∀ x ∈ es.toList, ∃ k : Nat, x.key = .int .u64 k) (hb : ∀ x ∈ es.toList, x.born < cl) (hn : (es.toList.map (·.born)).Nodup)
    (hit : a.eval it = .pointer (some ⟨r, 0, none⟩)) (h : Rng w m r es cl seen)
    (hDone : (leftOf es seen).size = 0 → wpList P ops Q rest (a.put o.dst (.tuple #[.bool false])) w)
    (hMore : ∀ (k : Nat) (v : Value) (e : MapEntry) (w' : World), e ∈ (leftOf es seen).toList → e.key = .int .u64 k → Rng w' m r es cl (seen.push e.born) → w.grownBy w' (some r) → w'.heap.size = w.heap.size →
      (Instr.entry (.pointer (some ⟨r, 0, none⟩))).run P w' = .ok (.tuple #[.int .u64 k, v]) w' → wpList P ops Q rest (a.put o.dst (.tuple #[.bool true, .int .u64 k, v])) w') :
    wpList P ops Q (o :: rest) a w := by
  refine wpList_plain hg fun K' hK' => ?_
  unfold Oper.wp
  rcases run_next_at (P := P) w o.type r m cl cl seen es cl h.hr h.hm hb (Nat.le_refl _) with ⟨h0, hrun⟩ | ⟨e, he, w1, hw1, hrun⟩
  · simp [execOp, hop, hit, hrun, Result.andThen]
    exact hK' _ _ (hDone h0)
  · simp [execOp, hop, hit, hrun, Result.andThen]
    have hme : e ∈ es.toList := by unfold leftOf at he; simp at he ⊢; exact he.1
    obtain ⟨k, hke⟩ := hk e hme
    have hrm : r ≠ m := fun e => by have h1 := h.hr; rw [e, h.hm] at h1; cases h1
    have hh : w1.heap = w.heap := by rcases hw1 with rfl | rfl <;> rfl
    have hlt := (Array.getElem?_eq_some_iff.1 h.hr).1
    have hR : Rng (ChangeMaps.setBlock w1 r (.mapIter (some m) cl (seen.push e.born) cl)) m r es cl (seen.push e.born) := by
      constructor
      · show (w1.heap.setIfInBounds r _)[m]? = _
        rw [Array.getElem?_setIfInBounds_ne hrm, hh]; exact h.hm
      · show (w1.heap.setIfInBounds r _)[r]? = _
        rw [Array.getElem?_setIfInBounds_self_of_lt (by rw [hh]; exact hlt)]
    rw [hke]
    refine hK' _ _ (hMore k e.val e _ he hke hR ?_ ?_ ?_)
    · refine ⟨?_, ?_, ?_, ?_, fun j hj hne => ?_⟩
      · rcases hw1 with rfl | rfl <;> rfl
      · rcases hw1 with rfl | rfl <;> rfl
      · rcases hw1 with rfl | rfl <;> rfl
      · show _ ≤ (w1.heap.setIfInBounds r _).size
        rw [Array.size_setIfInBounds, hh]; exact Nat.le_refl _
      · show (w1.heap.setIfInBounds r _)[j]? = _
        rw [Array.getElem?_setIfInBounds_ne (fun e => hne (by rw [e])), hh]
    · show (w1.heap.setIfInBounds r _).size = _
      rw [Array.size_setIfInBounds, hh]
    · have := run_entry_at (P := P) _ r m cl seen es cl e hR.hr hR.hm hme hn
      rw [hke] at this
      exact this
end

/-! ### What was collected so far -/
/-- a key's number -/
def keyN (x : MapEntry) : Nat := match x.key with
  | .int _ n => n.toNat
  | _ => 0
theorem perm_take {α : Type} : ∀ {l : List α} {f : α → Nat} {x : α}, (l.map f).Nodup → x ∈ l → (x :: l.filter (fun y => !(f y == f x))).Perm l
  | [], _, _, _, h => by cases h
  | a :: l, f, x, hn, h => by
    rw [List.map_cons, List.nodup_cons] at hn
    by_cases e : a = x
    · subst e
      have : l.filter (fun y => !(f y == f a)) = l := List.filter_eq_self.2 fun y hy => by
        have : f y ≠ f a := fun he => hn.1 (by rw [← he]; exact List.mem_map_of_mem hy)
        simp [this]
      rw [List.filter_cons]
      simp [this]
    · have hm : x ∈ l := (List.mem_cons.1 h).resolve_left (fun h => e h.symm)
      have hne : f a ≠ f x := fun he => hn.1 (by rw [he]; exact List.mem_map_of_mem hm)
      rw [List.filter_cons]
      simp only [hne, Bool.not_eq_true', if_true, beq_eq_false_iff_ne, ne_eq, not_false_eq_true]
      exact (List.Perm.swap a x _).trans (List.Perm.cons a (perm_take hn.2 hm))
theorem left_push {es : Array MapEntry} {seen : Array Nat} {e : MapEntry} (hn : (es.toList.map (·.born)).Nodup) (he : e ∈ (leftOf es seen).toList) : (e :: (leftOf es (seen.push e.born)).toList).Perm (leftOf es seen).toList := by
  have h1 : (leftOf es (seen.push e.born)).toList = (leftOf es seen).toList.filter (fun y => !(y.born == e.born)) := by
    unfold leftOf
    simp only [Array.toList_filter, List.filter_filter]
    apply List.filter_congr
    intro y _
    simp only [Array.contains_push]
    cases seen.contains y.born <;> simp [Bool.beq_comm]
  rw [h1]
  refine perm_take ?_ he
  unfold leftOf
  rw [Array.toList_filter]
  exact hn.sublist (List.Sublist.map _ List.filter_sublist)
theorem left_start (es : Array MapEntry) : (leftOf es #[]).toList = es.toList := by
  unfold leftOf; simp
theorem info47 : (Tryz.prog.info? 47).map (fun i => (i.zero, i.size, i.bytes)) = some (some (.int .u64 0), 1, 8) := by kernel_rfl
def u64s (ks : List Nat) : List Value := ks.map fun k => .int .u64 (Int.ofNat k)
theorem u64s_get (ks : List Nat) {j : Nat} (hj : j < ks.length) : (u64s ks)[j]? = some (.int .u64 (Int.ofNat ks[j])) := by simp [u64s, hj]
theorem holds_u64 {w : World} {g : Nat} {cur : Array Value} {e : TypeId} {ks : List Nat} (hb : w.heap[g]? = some (.cells cur e (0, 0))) (ht : cur.toList.take (ks.length * 1) = u64s ks) : Holds (Value.int .u64) w g 0 (intsA ks) := by
  intro j hj
  have hj' : j < ks.length := by rw [intsA_size] at hj; exact hj
  refine ⟨?_, by simp [World.frozen?, hb]⟩
  have h1 : (cur.toList.take (ks.length * 1))[j]? = (u64s ks)[j]? := by rw [ht]
  rw [List.getElem?_take_of_lt (by omega), u64s_get ks hj', Array.getElem?_toList] at h1
  simp only [World.cell?, hb, Nat.zero_add, Option.isSome_none, Bool.false_eq_true, if_false]
  rw [h1, intsA_get ks hj']
/-- the row behind the sort: the numbers, and nothing else has turned -/
structure Rowd (W W' : World) (v : Value) (keys : List Nat) : Prop where
  below : RowKit.Below W.heap.size W W'
  is : (v = .slice none 0 0 ∧ keys = []) ∨ ∃ g cap cur e, v = .slice (some ⟨g, 0, none⟩) keys.length cap ∧ W.heap.size ≤ g ∧ W'.heap[g]? = some (.cells cur e (0, 0)) ∧ cur.size = cap ∧ keys.length ≤ cap ∧ ∀ i, i < keys.length → cur[i]? = some (.int .u64 (Int.ofNat ((Vm.sortN keys).getD i 0)))
theorem sortN_len (l : List Nat) : (Vm.sortN l).length = l.length := (sortN_perm l).length_eq
theorem sorted_row {W w : World} {g cap nn : Nat} {e : TypeId} {cur : Array Value} {ks keys : List Nat} (hp : ks.Perm keys) (hB : RowKit.Below W.heap.size W w) (hg : W.heap.size ≤ g) (hb : w.heap[g]? = some (.cells cur e (0, 0))) (h1 : ks.length ≤ cap) (h3 : cur.size = cap * 1) :
    Rowd W (putRow (Value.int .u64) (Sort.ahead w nn) g 0 (insertionSort ltInt (intsA ks) 0 (intsA ks).size)) (.slice (some ⟨g, 0, none⟩) ks.length cap) keys := by
  have hl := hp.length_eq
  have hs := sorted_eq hp
  have hheap : ∀ k, (putRow (Value.int .u64) (Sort.ahead w nn) g 0 (insertionSort ltInt (intsA ks) 0 (intsA ks).size)).heap[k]? = if g = k then some (.cells (putCells (Value.int .u64) 0 (insertionSort ltInt (intsA ks) 0 (intsA ks).size) cur) e (0, 0)) else w.heap[k]? := fun k => by
    by_cases hk : g = k
    · subst hk; simp [putRow, mapBlock, Sort.ahead, Array.getElem?_modify, hb, onCells]
    · simp [putRow, mapBlock, Sort.ahead, Array.getElem?_modify, hk]
  have hsz : (putRow (Value.int .u64) (Sort.ahead w nn) g 0 (insertionSort ltInt (intsA ks) 0 (intsA ks).size)).heap.size = w.heap.size := by simp [putRow, mapBlock, Sort.ahead]
  refine ⟨hB.trans ⟨rfl, rfl, rfl, by rw [hsz]; exact Nat.le_refl _, fun k hk => by rw [hheap k, if_neg (by omega)]⟩, .inr ⟨g, cap, _, e, by rw [hl], hg, by rw [hheap g, if_pos rfl], by simp [putCells, h3], by omega, fun i hi => ?_⟩⟩
  generalize insertionSort ltInt (intsA ks) 0 (intsA ks).size = d at hs
  have hd : d.size = keys.length := by
    have := congrArg List.length hs
    simpa [sortN_len] using this
  have hdi : d[i]! = Int.ofNat ((Vm.sortN keys).getD i 0) := by
    rw [getElem!_pos d i (by omega), ← Array.getElem_toList]
    simp only [hs]
    rw [List.getElem_map, List.getD_eq_getElem?_getD, List.getElem?_eq_getElem (by rw [sortN_len]; exact hi)]
    rfl
  have hic : i < cur.size := by omega
  simp only [putCells, Array.getElem?_mapIdx, Array.getElem?_eq_getElem hic, Option.map_some, Nat.zero_le, Nat.zero_add, true_and, Nat.sub_zero]
  rw [if_pos (by omega), hdi]
theorem row_ne_it {w : World} {m r base : Nat} {es : Array MapEntry} {cl : Nat} {seen : Array Nat} {e : TypeId} {size n : Nat} {v : Value} {xs : List Value} (h : w.ownsRow base e size v n xs) (hr : Rng w m r es cl seen) : some r ≠ v.ownBlock := by
  rcases h.2 with ⟨rfl, _⟩ | ⟨g, cap, cur, rfl, _, hb, _⟩
  · simp [Value.ownBlock]
  · intro e1
    have : r = g := by simpa [Value.ownBlock] using e1
    subst this
    rw [hr.hr] at hb
    cases hb
theorem row_ne_m {w : World} {base : Nat} {e : TypeId} {size : Nat} {v : Value} {n : Nat} {xs : List Value} (h : w.ownsRow base e size v n xs) {b : Nat} (hb : b < base) : some b ≠ v.ownBlock := fun e1 => by
  have := (h.lt b e1.symm).1
  omega
theorem u64s_one (ks : List Nat) : ∀ u ∈ u64s ks, u.oneCell' = true := by
  intro u hu
  obtain ⟨i, _, rfl⟩ := List.mem_map.1 hu
  rfl
set_option maxHeartbeats 2000000 in
theorem all_walk {W : World} {M o m cl : Nat} {y : Value} {es : Array MapEntry} {R : Ending → World → Prop} (hc : W.cell? ⟨M, o, none⟩ = some (.map (some m))) (hm : W.heap[m]? = some (.map es cl)) (hk : ∀ x ∈ es.toList, ∃ k : Nat, x.key = .int .u64 k) (hb : ∀ x ∈ es.toList, x.born < cl)
    (hn : (es.toList.map (·.born)).Nodup) (h12 : es.size ≤ 12) {c : Code} (hcode : (match Tryz.f18.body with | some b => Vm.restOf b | none => none) = some c)
    (hrest : ∀ (v : Value) (a : Act) (W' : World), a.tmps.size = 45 → a.tmps[0]? = some (.pointer (some ⟨M, o, none⟩)) → a.tmps[1]? = some y → a.tmps[4]? = some v → (∀ i, i = 7 ∨ i = 8 ∨ 24 ≤ i → i < 45 → a.tmps[i]? = some undef) → a.defers = [] →
      Rowd W W' v (es.toList.map keyN) → c.wp Tryz.prog (bodyPost Tryz.prog Tryz.f18 R) a W') : Calls Tryz.prog 18 #[.pointer (some ⟨M, o, none⟩), y] W R := by
  obtain ⟨i0, hi, hz0, hz1, hz2⟩ := info_parts info47
  have HM := Lib.hid hm
  have HK := Lib.hid hk
  have HBo := Lib.hid hb
  have HN := Lib.hid hn
  have H12 := Lib.hid h12
  have HREST := Lib.hid hrest
  have HC := Lib.hid hcode
  clear hm hk hb hn h12 hrest hcode
  go_enter Tryz.func18, Tryz.ntmps18
  go_wp2_with (first
    | (at_range; refine wpList_range_m _ rfl _ 106 rfl 47 38 Tryz.underlying106 m es cl rfl HM.out ?_; intro hR0)
    | fail)
  go_frame
  rename_i KK hKK
  have HKK := Lib.hid hKK
  clear hKK
  go_loopw [4] (fun v wr => ∃ (seen : Array Nat) (ks : List Nat), Rng wr m W.heap.size es cl seen ∧ (ks ++ (leftOf es seen).toList.map keyN).Perm (es.toList.map keyN) ∧ wr.ownsRow W.heap.size 47 1 v ks.length (u64s ks) ∧ RowKit.Below W.heap.size W wr)
    (fun _ wr => wr.rangeLeft m W.heap.size)
  case atStart => exact ⟨#[], [], hR0, by rw [left_start]; exact List.Perm.refl _, World.ownsRow_nil _ _ _ _, (Below.refl _ _).alloc (Nat.le_refl _) _⟩
  case round =>
    obtain ⟨seen, ks, hR, hP, hO, hB⟩ := hrel
    have HR := Lib.hid hR
    have HP := Lib.hid hP
    have HO := Lib.hid hO
    have HB := Lib.hid hB
    have hks : ks.length ≤ 12 := by
      have h1 := hP.length_eq
      simp at h1
      have := H12.out
      omega
    clear hR hP hO hB
    go_wp2_with (first
      | (at_next; refine wpList_next_m _ rfl _ rfl m W.heap.size es cl seen HK.out HBo.out HN.out rfl HR.out ?_ ?_)
      | fail)
    · intro h0
      have hp : ks.Perm (es.toList.map keyN) := by
        have := HP.out
        have e0 : leftOf es seen = #[] := by first | exact h0 | exact Array.eq_empty_of_size_eq_zero h0
        rw [e0] at this
        simpa using this
      have HPP := Lib.hid hp
      clear h0 hp
      have hO := HO.out
      rcases hO.2 with ⟨hnil, hl0⟩ | ⟨g, cap, cur, hv, hbase, hbl, h1, h2, h3, h4⟩
      · subst hnil
        have hk0 : ks = [] := List.eq_nil_of_length_eq_zero hl0
        subst hk0
        clear hO hl0
        go_wp2
        refine HKK.out _ _ ?_
        refine wp_seq_k fun K2 hK2 => ?_
        have HK2 := Lib.hid hK2
        clear hK2
        go_wp2_with (first | (go_at_call 38; refine (sort_nil _).mono ?_; rintro e w' ⟨rfl, rfl⟩) | fail)
        refine HK2.out _ _ ?_
        cases HC.out
        have hk0 : es.toList.map keyN = [] := HPP.out.symm.eq_nil
        refine HREST.out (.slice none 0 0) _ _ rfl rfl rfl rfl (fun i h1 h2 => ?_) rfl ⟨HB.out, .inl ⟨rfl, hk0⟩⟩
        rcases h1 with rfl | rfl | h1
        · rfl
        · rfl
        · obtain ⟨j, rfl⟩ : ∃ j, i = 24 + j := ⟨i - 24, by omega⟩
          have hj : j < 21 := by omega
          clear h1 h2
          match j, hj with
          | 0, _ => rfl
          | 1, _ => rfl
          | 2, _ => rfl
          | 3, _ => rfl
          | 4, _ => rfl
          | 5, _ => rfl
          | 6, _ => rfl
          | 7, _ => rfl
          | 8, _ => rfl
          | 9, _ => rfl
          | 10, _ => rfl
          | 11, _ => rfl
          | 12, _ => rfl
          | 13, _ => rfl
          | 14, _ => rfl
          | 15, _ => rfl
          | 16, _ => rfl
          | 17, _ => rfl
          | 18, _ => rfl
          | 19, _ => rfl
          | 20, _ => rfl
          | n + 21, h => exact absurd h (by omega)
      · subst hv
        have hc := sort_small g 0 cap (intsA ks) wr (holds_u64 hbl h4) (by rw [intsA_size]; exact hks)
        have HH := Lib.hid (And.intro hbase (And.intro hbl (And.intro h1 h3)))
        rw [intsA_size] at hc
        clear hO hbase hbl h1 h2 h3 h4
        go_wp2
        refine HKK.out _ _ ?_
        refine wp_seq_k fun K2 hK2 => ?_
        have HK2 := Lib.hid hK2
        clear hK2
        go_wp2_with (first | (go_at_call 38; refine hc.mono ?_; rintro e w' ⟨rfl, nn, rfl⟩) | fail)
        refine HK2.out _ _ ?_
        cases HC.out
        refine HREST.out (.slice (some ⟨g, 0, none⟩) ks.length cap) _ _ rfl rfl rfl rfl (fun i h1 h2 => ?_) rfl (by have := sorted_row (nn := nn) HPP.out HB.out HH.out.1 HH.out.2.1 HH.out.2.2.1 HH.out.2.2.2; rw [intsA_size] at this; exact this)
        rcases h1 with rfl | rfl | h1
        · rfl
        · rfl
        · obtain ⟨j, rfl⟩ : ∃ j, i = 24 + j := ⟨i - 24, by omega⟩
          have hj : j < 21 := by omega
          clear h1 h2
          match j, hj with
          | 0, _ => rfl
          | 1, _ => rfl
          | 2, _ => rfl
          | 3, _ => rfl
          | 4, _ => rfl
          | 5, _ => rfl
          | 6, _ => rfl
          | 7, _ => rfl
          | 8, _ => rfl
          | 9, _ => rfl
          | 10, _ => rfl
          | 11, _ => rfl
          | 12, _ => rfl
          | 13, _ => rfl
          | 14, _ => rfl
          | 15, _ => rfl
          | 16, _ => rfl
          | 17, _ => rfl
          | 18, _ => rfl
          | 19, _ => rfl
          | 20, _ => rfl
          | n + 21, h => exact absurd h (by omega)
    · intro k v e w2 he hke hR2 hg2 hs2 hen
      have HE := Lib.hid he
      have HKE := Lib.hid hke
      have HR2 := Lib.hid hR2
      have HG2 := Lib.hid hg2
      clear he hke hR2 hg2 hs2
      have HO2 := Lib.hid (HO.out.kept HG2.out (Or.inr (row_ne_it HO.out HR.out).symm))
      have hW2 : W.heap.size ≤ w2.heap.size := Nat.le_trans HB.out.size HG2.out.size
      have ha1 : ∀ j u, [Value.int .u64 (k : Int)][j]? = some u → (w2.alloc (.cells #[.int .u64 (k : Int)] 47)).cell? ((⟨w2.heap.size, 0, none⟩ : Addr).add j) = some u := cell_one_new w2 _ _
      have ha2 : ∀ u, u ∈ [Value.int .u64 (k : Int)] → u.oneCell' = true := by simp [Value.oneCell']
      have ha3 : ks.length + 1 ≤ maxLen := by unfold maxLen; omega
      have ha4 : (ks.length + 1) * 8 ≤ 140737488355328 := by omega
      have ha5 : W.heap.size ≤ (w2.alloc (.cells #[.int .u64 (k : Int)] 47)).heap.size := by simp; omega
      have HA := Lib.hid (And.intro ha1 (And.intro ha2 (And.intro ha3 (And.intro ha4 ha5))))
      clear ha1 ha2 ha3 ha4 ha5
      go_wp2_with (first
        | (at_builtin; refine wpList_append_own _ rfl _ _ 44 rfl W.heap.size 47 i0 (.int .u64 0) 1 8 Tryz.underlying44 hi hz0 hz1 hz2 rfl (by decide) u4 ks.length (u64s ks) rfl (HO2.out.alloc _) ⟨w2.heap.size, 0, none⟩ 1 1 [.int .u64 (k : Int)] rfl rfl HA.out.1 HA.out.2.1 HA.out.2.2.1 HA.out.2.2.2.1 HA.out.2.2.2.2 ?_; intro v' w3 hown' hg3 hnil3; have HO3 := Lib.hid hown'; have HG3 := Lib.hid hg3; clear hown' hg3 hnil3; go_frame)
        | fail)
      go_roundw
      case rel =>
        have hgr : w2.grownBy (w2.alloc (.cells #[.int .u64 (k : Int)] 47)) none := World.grownBy_alloc w2 _ none
        have hR3 : Rng w3 m W.heap.size es cl (seen.push e.born) := (HR2.out.kept hgr (by simp) (by simp)).kept HG3.out (row_ne_m HO2.out (Array.getElem?_eq_some_iff.1 HM.out).1) (row_ne_it HO2.out HR2.out)
        refine ⟨seen.push e.born, ks ++ [k], hR3, ?_, ?_, ?_⟩
        · have hkk : keyN e = k := by unfold keyN; rw [HKE.out]; rfl
          have h1 := (left_push HN.out (by simpa using HE.out : e ∈ (leftOf es seen).toList)).map keyN
          rw [List.map_cons, hkk] at h1
          rw [List.append_assoc]
          exact (List.Perm.append_left ks h1).trans HP.out
        · have := HO3.out
          rw [show (ks ++ [k]).length = ks.length + 1 by simp]
          have e1 : u64s (ks ++ [k]) = u64s ks ++ [.int .u64 (k : Int)] := by simp [u64s]
          rw [e1]; exact this
        · have hlt : W.heap.size < wr.heap.size := by
            have := (Array.getElem?_eq_some_iff.1 HR.out.hr).1
            omega
          exact ((HB.out.grown HG2.out (by omega) (fun j hj => by cases hj; exact Nat.le_refl _)).alloc (by omega) _).grown HG3.out (by simp; omega) (fun j hj => (HO2.out.lt j hj).1)
      case measure =>
        have hgr : w2.grownBy (w2.alloc (.cells #[.int .u64 (k : Int)] 47)) none := World.grownBy_alloc w2 _ none
        have hR3 : Rng w3 m W.heap.size es cl (seen.push e.born) := (HR2.out.kept hgr (by simp) (by simp)).kept HG3.out (row_ne_m HO2.out (Array.getElem?_eq_some_iff.1 HM.out).1) (row_ne_it HO2.out HR2.out)
        rw [hR3.left, HR.out.left]
        have := (left_push HN.out (by simpa using HE.out : e ∈ (leftOf es seen).toList)).length_eq
        simp at this
        omega
end Go.Proofs.YtcajgbpcimimhaaGreatDoor
namespace Go.Proofs.YtcajgbpcimimhaaGreatDoor.Vm
open Go Go.RowKit
variable {E : En} {w : W} {K : Nat → Prop} {W0 Wd : World}

theorem ent_keys {nx : Nat} : ∀ {es : List (Nat × V)} {ms : List MapEntry}, EntR E nx es ms → ms.map keyN = es.map (·.1) ∧ ∀ x, x ∈ ms → ∃ k : Nat, x.key = .int .u64 k
  | [], [], _ => ⟨rfl, fun x h => by cases h⟩
  | [], _ :: _, h => h.elim
  | _ :: _, [], h => h.elim
  | (k, v) :: es, m :: ms, h => by
    obtain ⟨h1, h2⟩ := ent_keys h.2
    refine ⟨?_, fun x hx => ?_⟩
    · rw [List.map_cons, List.map_cons, h1]
      congr 1
      unfold keyN
      rw [h.1.2.1]; rfl
    · rcases List.mem_cons.1 hx with rfl | hx
      · exact ⟨k, h.1.2.1⟩
      · exact h2 x hx
theorem forceN_eq : ∀ (l : List Nat) (f : List V → Bool), forceN l f = f (l.map fun a => V.nat 7 a)
  | [], f => rfl
  | a :: l, f => by
    unfold forceN
    rw [fN_eq, forceN_eq l]
    rfl
def exAll (f : Func) : Bool := match f.body with
  | some b => match restOf b with
    | some c => (List.range 45).all fun i => !(has (exCode c 0) i) || (Nat.beq i 0 || Nat.beq i 1 || Nat.beq i 4 || Nat.beq i 7 || Nat.beq i 8 || Nat.ble 24 i)
    | none => false
  | none => false
theorem exAll_ok : exAll Tryz.f18 = true := by kernel_rfl
theorem ntmps18 : Tryz.f18.ntmps = 45 := by kernel_rfl
theorem fn18 : ∃ fn, Tryz.prog.funcs[18]? = some fn ∧ fn.body.isSome = true := ⟨_, Tryz.func18, by kernel_rfl⟩
theorem allC_ok : OwnOk Tryz.prog 18 (allC Tryz.prog 18).run := fun rec hS args w k E K W0 Wd h hs ho => by
  refine ⟨fn18, ?_⟩
  unfold allC at h
  split at h
  · exact absurd h (bad_false (n := 192))
  · rename_i fn hfn
    have hfn := fnF_ok hfn
    rw [Tryz.func18] at hfn
    cases hfn
    split at h
    · exact absurd h (bad_false (n := 193))
    · rename_i c hc
      have hcode : (match Tryz.f18.body with | some b => restOf b | none => none) = some c := by
        rw [← hc]
        cases Tryz.f18.body <;> rfl
      match args, h, ho with
      | [], h, _ => exact absurd h (bad_false (n := 198))
      | [_], h, _ => exact absurd h (bad_false (n := 198))
      | _ :: _ :: _ :: _, h, _ => exact absurd h (bad_false (n := 198))
      | [t, y], h, ho =>
        obtain ⟨ht, h⟩ := isN_true (by rfl) h
        obtain ⟨_, h⟩ := ptrK_ok h
        obtain ⟨hb, e1⟩ := ok_ptr ho.1 ht
        obtain ⟨mv, h, omv, _, hcell⟩ := hs.cellAt hb h
        have hcell := hcell hs
        obtain ⟨h26, h⟩ := isN_true (by rfl) h
        rw [vA_eq] at h
        obtain ⟨es, hk3, hoth, h⟩ := mapAt_ok h
        have emv : den E mv = .map (some (E.φ mv.a)) ∧ mv.a < w.nx := by
          obtain ⟨t, x, l, d, c, b, a⟩ := mv
          cases h26
          exact ⟨by simp [den], omv.1⟩
        rw [emv.1] at hcell
        obtain ⟨es', cl, hmap, hmr⟩ := hs.map emv.2 hk3 hoth
        obtain ⟨hkeys, hkk⟩ := ent_keys hmr.ent
        rw [forceN_eq, fN_eq] at h
        generalize hl : (sortN (es.map (·.1))).map (fun a => V.nat 7 a) = l at h
        have hlen : l.length = es.length := by rw [← hl, List.length_map, sortN_len, List.length_map]
        cases h12 : Nat.ble l.length 12 with
        | false => rw [h12] at h; exact absurd h (bad_false (n := 430))
        | true =>
          rw [h12] at h
          cases hl0 : l.length with
          | zero => rw [hl0] at h; exact absurd h (bad_false (n := 431))
          | succ n =>
            rw [hl0] at h
            have h : appended w 1 [] l (Nat.succ n) (fun v w' => W.casesOn (motive := fun _ => Bool) w' fun h nx ms ds r => argsIn 216 0 [t, y] u3 fun e => (setter 4).f e v fun e =>
              (sem Tryz.prog ⟨Tryz.f18.ntmps, exCode c 0⟩ c endC).run rec e ⟨h, nx, ms, [], none⟩ fun x _ w =>
                Ex.casesOn (motive := fun _ => Bool) x (W.casesOn (motive := fun _ => Bool) w fun h nx ms ds' _ => match ds' with
                  | [] => k .undef ⟨h, nx, ms, ds, r⟩
                  | _ => bad 194) (fun _ => bad 195) (W.casesOn (motive := fun _ => Bool) w fun h nx ms ds' _ => match ds' with
                  | [] => k .undef ⟨h, nx, ms, ds, r⟩
                  | _ => bad 194)) = true := h
            have h12 := ble_true h12
            have hes : es'.size = es.length := hmr.size
            have hargs : (denL E [t, y]).toArray = #[.pointer (some ⟨E.φ t.b, t.a, none⟩), den E y] := by simp [denL, e1]
            rw [hargs]
            refine all_walk hcell hmap hkk hmr.clock hmr.born (by omega) hcode fun v a W' hsz t0 t1 t4 tu hdf hrow => ?_
            rw [hkeys] at hrow
            have hs' := hs.below hrow.below
            rcases hrow.is with ⟨_, h0⟩ | ⟨g, cap, cur, ty, rfl, hg, hbl, hcs, hcap, hcur⟩
            · rw [List.map_eq_nil_iff] at h0
              rw [h0] at hlen
              rw [hlen] at hl0; cases hl0
            · rw [List.length_map] at hcap hcur
              have hln : Nat.succ n = es.length := by rw [← hlen]; exact hl0.symm
              have hgl : ∀ q, q < Wd.heap.size → q ≠ g := fun q hq e => by omega
              have hll : ([] ++ l : List V) = l := List.nil_append l
              obtain ⟨E', w', v', hf, x', s', ov, q1, q2, dv⟩ := appended_ok (s := g) (cap := cap) (c := cur) (t := ty) hs' h (by omega) (by
                  rw [hll, ← hl]
                  exact (okL_iff E w.nx _).2 fun u hu => by
                    obtain ⟨i, _, rfl⟩ := List.mem_map.1 hu
                    exact ok_nat E w.nx .u64 i) (fun u hu => by
                  rw [hll, ← hl] at hu
                  obtain ⟨i, _, rfl⟩ := List.mem_map.1 hu
                  exact ⟨show 7 ≠ 31 by decide, show 7 ≠ 32 by decide⟩) (by rw [hll]; omega) (by omega) hbl (by omega) (fun j hj => by
                  rw [hll] at hj ⊢
                  have hj' : j < es.length := by omega
                  rw [hcur j hj', ← hl, denL_eq, List.getElem?_map, List.getElem?_map, List.getD_eq_getElem?_getD, List.getElem?_eq_getElem (by rw [sortN_len, List.length_map]; exact hj')]
                  simp only [Option.map_some, Option.getD_some]
                  exact congrArg some (den_nat E .u64 _).symm) (fun id hid hk0 => hgl _ (hs.lt hid hk0)) (fun hq => hgl g (by have := (hs.keep g hq).1; have := hs.size; omega) rfl) (fun _ _ _ => rfl) (Nat.le_refl _) rfl rfl rfl
              obtain ⟨hp, nx, ms, ds, r⟩ := w'
              have hf : argsIn 216 0 [t, y] u3 (fun e => (setter 4).f e v' fun e =>
                (sem Tryz.prog ⟨Tryz.f18.ntmps, exCode c 0⟩ c endC).run rec e ⟨hp, nx, ms, [], none⟩ fun x _ w =>
                Ex.casesOn (motive := fun _ => Bool) x (W.casesOn (motive := fun _ => Bool) w fun h nx ms ds' _ => match ds' with
                  | [] => k .undef ⟨h, nx, ms, ds, r⟩
                  | _ => bad 194) (fun _ => bad 195) (W.casesOn (motive := fun _ => Bool) w fun h nx ms ds' _ => match ds' with
                  | [] => k .undef ⟨h, nx, ms, ds, r⟩
                  | _ => bad 194)) = true := hf
              obtain ⟨_, e', hf, hat⟩ := argsIn_ok (Nat.le_refl 216) [t, y] 0 u3 (Nat.zero_le _) hf
              rw [setter_eq] at hf
              have o2 := extL_ok x' [t, y] ho
              have hx : ∀ i, i < 45 → has (exCode c 0) i = true → i = 0 ∨ i = 1 ∨ i = 4 ∨ i = 7 ∨ i = 8 ∨ 24 ≤ i := fun i hi hxi => by
                have h1 := exAll_ok
                unfold exAll at h1
                split at h1
                · rename_i b hb2
                  rw [hb2] at hcode
                  simp only [] at hcode
                  rw [hcode] at h1
                  have h2 := List.all_eq_true.1 h1 i (List.mem_range.2 hi)
                  rw [hxi] at h2
                  simp only [Bool.not_true, Bool.false_or, Bool.or_eq_true] at h2
                  rcases h2 with ((((h2 | h2) | h2) | h2) | h2) | h2
                  · exact .inl (Nat.eq_of_beq_eq_true h2)
                  · exact .inr (.inl (Nat.eq_of_beq_eq_true h2))
                  · exact .inr (.inr (.inl (Nat.eq_of_beq_eq_true h2)))
                  · exact .inr (.inr (.inr (.inl (Nat.eq_of_beq_eq_true h2))))
                  · exact .inr (.inr (.inr (.inr (.inl (Nat.eq_of_beq_eq_true h2)))))
                  · exact .inr (.inr (.inr (.inr (.inr (ble_true h2)))))
                · cases h1
              have hTR : TR E' nx Tryz.f18.ntmps (exCode c 0) (e'.put 4 v') a.tmps := by
                refine ⟨by rw [ntmps18]; exact hsz, by rw [ntmps18]; decide, fun i hi hxi => ?_⟩
                rw [ntmps18] at hi
                have hi216 : i < 216 := by omega
                rw [Env.at_put (by decide) hi216]
                have hund : i = 7 ∨ i = 8 ∨ 24 ≤ i → i ≠ 4 → ok E' nx (e'.at i) ∧ a.tmps[i]? = some (den E' (e'.at i)) := fun hu h4 => by
                  have e2 : e'.at i = .undef := by
                    rw [hat i hi216, if_neg (by omega), u3_at, List.getElem?_eq_none (by simp; omega)]; rfl
                  rw [e2, denUndef]
                  exact ⟨okUndef E' nx, tu i hu hi⟩
                rcases hx i hi hxi with rfl | rfl | rfl | h7
                · rw [if_neg (by decide), hat 0 (by decide)]
                  refine ⟨o2.1.1, ?_⟩
                  show a.tmps[0]? = some (den E' t)
                  rw [t0, ← e1, (ext_ok x' t ho.1).2]
                · rw [if_neg (by decide), hat 1 (by decide)]
                  refine ⟨o2.1.2.1, ?_⟩
                  show a.tmps[1]? = some (den E' y)
                  rw [t1, (ext_ok x' y ho.2.1).2]
                · rw [if_pos rfl]
                  exact ⟨ov, by rw [t4, dv, hln, List.length_map]⟩
                · rw [if_neg (by omega)]
                  exact hund (by omega) (by omega)
              have fin : ∀ (x : Exit) (E3 : En) (w3 : W) (a3 : Act) (W3 : World), x = .normal ∨ x = .ret → Ext E' nx E3 w3.nx → SR E3 w3 K W0 W3 → DR E3 w3.nx w3.ds a3.defers →
                  (W.casesOn (motive := fun _ => Bool) w3 fun h nx ms ds' _ => match ds' with | [] => k .undef ⟨h, nx, ms, ds, r⟩ | _ => bad 194) = true → bodyPost Tryz.prog Tryz.f18 (CallEnd E w K W0 k) x a3 W3 := fun x E3 w3 a3 W3 hxx x3 s3 d3 h3 => by
                obtain ⟨hp3, nx3, ms3, ds3, r3⟩ := w3
                cases ds3 with
                | cons d l => exact absurd h3 (bad_false (n := 194))
                | nil =>
                  have hd3 : a3.defers = [] := by
                    revert d3
                    cases a3.defers with
                    | nil => exact fun _ => rfl
                    | cons d l => exact fun h => h.elim
                  have h3 : k .undef ⟨hp3, nx3, ms3, ds, r⟩ = true := h3
                  have hR : CallEnd E w K W0 k (.returned (.tuple #[])) W3 := ⟨E3, ⟨hp3, nx3, ms3, ds, r⟩, .undef, by rw [denUndef]; rfl, x'.trans x3, s3.frame _ _, okUndef _ _, q1, q2, h3⟩
                  have hres : (results Tryz.f18 a3.tmps).run Tryz.prog W3 = .ok (.tuple #[]) W3 := by simp [results, Tryz.results18, go_sem]
                  rcases hxx with rfl | rfl
                  · exact ⟨hd3, _, hres, hR⟩
                  · exact ⟨hd3, _, hres, hR⟩
              refine (wpIn_wide (n := 0)).1 ?_
              refine hS ⟨Tryz.f18.ntmps, exCode c 0⟩ c endC _ K W0 _ E' (e'.put 4 v') ⟨hp, nx, ms, [], none⟩ a W' none 0 ⟨rfl, fun l hl => by cases hl⟩ hTR (s'.frame _ _) (by rw [hdf]; trivial) (fun E3 e3 w3 a3 W3 x3 s3 t3 d3 r3 h3 => ?_) (fun x E3 e3 w3 a3 W3 hxn x3 s3 t3 d3 r3 h3 => ?_) hf
              · exact fin .normal E3 w3 a3 W3 (.inl rfl) x3 s3 d3 h3
              · cases x with
                | n => exact absurd rfl hxn
                | x id => exact absurd h3 (bad_false (n := 195))
                | r => exact fin .ret E3 w3 a3 W3 (.inr rfl) x3 s3 d3 h3
end Go.Proofs.YtcajgbpcimimhaaGreatDoor.Vm
