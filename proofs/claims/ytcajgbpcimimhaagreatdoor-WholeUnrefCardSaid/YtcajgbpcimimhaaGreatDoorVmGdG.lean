/- Maps by numbers: looked up, written, struck. Conditions: as each theorem names them. Maps: struck; iterators of strings. Conditions: as each theorem names them. Structs, arrays and slices out of parts. Conditions: as each theorem names them. Comparisons of what is no number. Conditions: as each theorem names them. Comparisons, signs, truths that hang on inputs. Conditions: as each theorem names them. Operators of two and of one; choices; truths that hang on inputs; functions of Go's library. Conditions: as each theorem names them. Operations: by what they do. Conditions: as each theorem names them. Operations that look at the world, make objects, act. Conditions: as each theorem names them. -/
import Derived.Test.YtcajgbpcimimhaaGreatDoorVmGcG
import Derived.Laws.Tables
import Derived.Great.BuildSlice
import Derived.Laws.StructEq
set_option linter.unusedVariables false
namespace Go.Proofs.YtcajgbpcimimhaaGreatDoor.Vm
open Go Go.RowKit
variable {P : Program} {E : En} {w : W} {K : Nat → Prop} {W0 Wd : World} {rec : Rec} {e : Env} {k : Ex → Env → W → Bool} {fin : Fv} {nx : Nat}

abbrev keyV (n : Nat) : Value := .int .u64 (Int.ofNat n)
theorem u64Key_ok {kt : Nat} (h : u64Key P kt = true) : P.underlying kt = some (.int .u64) := by
  unfold u64Key at h
  split at h
  · rename_i h1; exact undF_ok h1
  · cases h
theorem findNow_cons {key a j : Nat} {m : MapEntry} {ms : List MapEntry} (hm : m.key = keyV a) : Instr.findNow (.int .u64) (keyV key) (m :: ms) j = if key = a then some (some (j, m.val)) else Instr.findNow (.int .u64) (keyV key) ms (j + 1) := by
  simp only [Instr.findNow, hm, Instr.sameNow, if_true]
  by_cases h : key = a
  · subst h; simp
  · have : ((key : Int) == (a : Int)) = false := beq_false_of_ne (by omega)
    rw [if_neg h]
    show (match some ((key : Int) == (a : Int)) with | some true => _ | some false => _ | none => _) = _
    rw [this]
/-- looked up -/
def findX (key : Nat) : List (Nat × V) → Option (Nat × V)
  | [] => none
  | (a, v) :: l => if key = a then some (0, v) else (findX key l).map fun p => (p.1 + 1, p.2)
theorem findE_eq (key : Nat) (f : V → Bool) (g : Unit → Bool) : ∀ (es : List (Nat × V)), findE key es f g = match findX key es with | some p => f p.2 | none => g ()
  | [] => rfl
  | (a, v) :: l => by
    unfold findE findX
    cases hb : Nat.beq key a with
    | true =>
      have e1 := Nat.eq_of_beq_eq_true hb
      rw [if_pos e1]
    | false =>
      have hne : key ≠ a := fun e => by rw [e, Nat.beq_refl] at hb; cases hb
      rw [if_neg hne]
      show findE key l f g = _
      rw [findE_eq key f g l]
      cases findX key l <;> rfl
theorem findNow_eq (key : Nat) : ∀ {es : List (Nat × V)} {ms : List MapEntry} (j : Nat), EntR E nx es ms → Instr.findNow (.int .u64) (keyV key) ms j = some ((findX key es).map fun p => (j + p.1, den E p.2))
  | [], [], j, _ => rfl
  | [], _ :: _, _, h => h.elim
  | _ :: _, [], _, h => h.elim
  | (a, v) :: es, m :: ms, j, hE => by
    obtain ⟨⟨h1, h2, h3⟩, h4⟩ := hE
    rw [findNow_cons h2, findX]
    by_cases h : key = a
    · rw [if_pos h, if_pos h, h3]; rfl
    · rw [if_neg h, if_neg h, findNow_eq key (j + 1) h4, Option.map_map]
      congr 2
      funext p
      show (j + 1 + p.1, den E p.2) = (j + (p.1 + 1), den E p.2)
      congr 1; omega
theorem findX_ok {key : Nat} : ∀ {es : List (Nat × V)} {ms : List MapEntry} {p : Nat × V}, EntR E nx es ms → findX key es = some p → es[p.1]? = some (key, p.2) ∧ ok E nx p.2
  | [], [], _, _, h => by cases h
  | [], _ :: _, _, h, _ => h.elim
  | _ :: _, [], _, h, _ => h.elim
  | (a, v) :: es, m :: ms, p, hE, h => by
    unfold findX at h
    by_cases hk : key = a
    · rw [if_pos hk] at h
      cases h
      exact ⟨by rw [hk]; rfl, hE.1.1⟩
    · rw [if_neg hk] at h
      cases hf : findX key es with
      | none => rw [hf] at h; cases h
      | some q =>
        rw [hf] at h
        cases h
        obtain ⟨a1, a2⟩ := findX_ok hE.2 hf
        exact ⟨by simpa using a1, a2⟩
theorem run_checkKey {kt : TypeId} {b : Bool} {n : Nat} (h : P.underlying kt = some (.int .u64)) (W : World) : (Instr.checkKey b 10000 kt (keyV n)).run P W = .ok () W := by
  unfold Instr.checkKey
  simp only [bind]
  rw [run_then (run_underlying h W)]
  rfl
theorem run_findKey {kt : TypeId} {n : Nat} {ms : List MapEntry} {r : Option (Nat × Value)} (h : P.underlying kt = some (.int .u64)) (hr : Instr.findNow (.int .u64) (keyV n) ms 0 = some r) (W : World) : (Instr.findKey kt (keyV n) ms).run P W = .ok r W := by
  unfold Instr.findKey
  simp only [bind]
  rw [run_then (run_underlying h W), hr]
  rfl
theorem zeroV_ok {t : Nat} {v : V} (h : zeroV P t = some v) (E : En) (nx : Nat) : ∃ i z, P.info? t = some i ∧ i.zero = some z ∧ ok E nx v ∧ den E v = z := by
  unfold zeroV at h
  split at h
  · rename_i i hi
    split at h
    · rename_i cs hz
      split at h
      · rename_i l hl
        cases h
        obtain ⟨a, b, _⟩ := ofVs_ok E nx hl
        exact ⟨i, _, infoF_ok hi, hz, okAgg a (ofVs_one hl), by rw [denAgg, b]⟩
      · cases h
    · rename_i z hz hne
      obtain ⟨a, b⟩ := ofV_ok E nx h
      exact ⟨i, z, infoF_ok hi, hne, a, b⟩
    · cases h
  · cases h
theorem ok_key {v : V} (ht : v.t = 7) : den E v = keyV v.a := by
  obtain ⟨t, x, l, d, c, b, a⟩ := v
  cases ht
  simp [den]
theorem lookupC_ok {t : Nat} {x i : Gk} {ok' : Bool} {val va2 : Value} (hx : Is E w.nx e x val) (hi : Is E w.nx e i va2) (h : SR E w K W0 Wd) (hr : (lookupC P t x i ok' fin).run rec e w k = true) : Red P E w (Instr.lookup t val va2 ok') (fin.at rec e k w) := by
  unfold lookupC at hr
  split at hr
  · rename_i kt el hd
    split at hr
    · exact absurd hr (bad_false (n := 131))
    · rename_i zv hz
      cases hu : u64Key P kt with
      | false => rw [hu] at hr; exact absurd hr (bad_false (n := 132))
      | true =>
        rw [hu] at hr
        have hk := u64Key_ok hu
        obtain ⟨iz, z, hi1, hi2, ozv, dzv⟩ := zeroV_ok hz E w.nx
        obtain ⟨v, hr, hv, rfl⟩ := hx _ hr
        obtain ⟨iv, hr, hiv, rfl⟩ := hi _ hr
        obtain ⟨hit, hr⟩ := isN_true (by rfl) hr
        rw [ok_key hit]
        have fin1 : ∀ {u : V} {b : Nat}, ok E w.nx u → (Bool.casesOn (motive := fun _ => Bool) ok' (fin.run rec e w k u) (fin.run rec e w k (.tup [u, .bool b]))) = true →
            ∃ q, fin.at rec e k w q = true ∧ ok E w.nx q ∧ den E q = (if ok' = true then .tuple #[den E u, .bool (b != 0)] else den E u) := fun {u b} hu h => by
          cases ok' with
          | false => exact ⟨u, h, hu, by simp⟩
          | true => exact ⟨_, h, okTup (show okL E w.nx [u, .bool b] from ⟨hu, okBool b, trivial⟩), by rw [denTup]; simp [denL, den]⟩
        split at hr
        · rename_i ht
          rw [vA_eq] at hr
          obtain ⟨es, hkk, ho, hr⟩ := mapAt_ok hr
          obtain ⟨ha, e1⟩ := ok_map hv ht
          obtain ⟨es0, cl0, hm0, hR0⟩ := h.map ha hkk ho
          rw [findE_eq] at hr
          cases hf : findX iv.a es with
          | some p =>
            rw [hf] at hr
            obtain ⟨q, f1, f2, f3⟩ := fin1 (b := 1) (findX_ok hR0.ent hf).2 hr
            refine ⟨q, f1, f2, fun {_ _ Wd} hs => ?_⟩
            obtain ⟨es', cl, hm, hR⟩ := hs.map ha hkk ho
            have hfind := findNow_eq iv.a 0 hR.ent
            rw [hf] at hfind
            rw [e1]
            simp only [Instr.lookup, bind]
            rw [run_then (run_underlying (undF_ok hd) Wd)]
            simp only []
            refine (run_then (run_getObj hm (by intro c e f h; cases h))).trans ?_
            simp only [pure, Sem.bind]
            rw [run_then (run_checkKey hk Wd), run_then (run_findKey hk hfind Wd)]
            rw [f3]
            cases ok' <;> rfl
          | none =>
            rw [hf] at hr
            obtain ⟨q, f1, f2, f3⟩ := fin1 (b := 0) ozv hr
            refine ⟨q, f1, f2, fun {_ _ Wd} hs => ?_⟩
            obtain ⟨es', cl, hm, hR⟩ := hs.map ha hkk ho
            have hfind := findNow_eq iv.a 0 hR.ent
            rw [hf] at hfind
            rw [e1]
            simp only [Instr.lookup, bind]
            rw [run_then (run_underlying (undF_ok hd) Wd)]
            simp only []
            refine (run_then (run_getObj hm (by intro c e f h; cases h))).trans ?_
            simp only [pure, Sem.bind]
            rw [run_then (run_checkKey hk Wd), run_then (run_findKey hk hfind Wd)]
            simp only [Option.map_none]
            refine (run_then (run_zeroValue hi1 hi2 Wd)).trans ?_
            rw [f3, dzv]
            cases ok' <;> rfl
        · rename_i ht
          obtain ⟨q, f1, f2, f3⟩ := fin1 (b := 0) ozv hr
          refine ⟨q, f1, f2, fun {_ _ Wd} hs => ?_⟩
          rw [den_20 ht]
          simp only [Instr.lookup, bind]
          rw [run_then (run_underlying (undF_ok hd) Wd)]
          simp only [pure, Sem.bind]
          rw [run_then (run_checkKey hk Wd)]
          rw [run_then (run_findKey (r := none) hk rfl Wd)]
          simp only []
          refine (run_then (run_zeroValue hi1 hi2 Wd)).trans ?_
          rw [f3, dzv]
          cases ok' <;> rfl
        · exact absurd hr (bad_false (n := 133))
  · exact absurd hr (bad_false (n := 136))

/-! ### Written, struck -/
theorem heap_setObj {W : World} {b : Nat} {o : Obj} (o' : Obj) (h : W.heap[b]? = some o) : (W.heap.setIfInBounds b o')[b]? = some o' := by
  have := (Array.getElem?_eq_some_iff.1 h).1
  rw [Array.getElem?_setIfInBounds_self_of_lt this]
theorem run_setObj {r : Nat} {o o' : Obj} (h : Wd.heap[r]? = some o) (hn : ∀ c e f, o ≠ .cells c e f) : (setObj r o').run P Wd = .ok () { Wd with heap := Wd.heap.setIfInBounds r o' } := by
  unfold setObj
  simp only [Sem.run, h]
/-- another object of its kind, of one's own -/
theorem SR.setOth (h : SR E w K W0 Wd) {r : Nat} (hr : r < w.nx) (hk : (w.h.at r).k = 3) {o o' : Obj} {x : Oth} (ho : Wd.heap[E.φ r]? = some o) (hx : OthR E w.nx x (some o')) :
    SR E ⟨w.h.put r (.oth x), w.nx, w.ms, w.ds, w.r⟩ K W0 { Wd with heap := Wd.heap.setIfInBounds (E.φ r) o' } :=
  h.turn (o := .oth x) (W' := { Wd with heap := Wd.heap.setIfInBounds (E.φ r) o' }) hr (by omega) (.inr hk) (.inr rfl) (.inr (.inr ⟨rfl, by show OthR E w.nx x ((Wd.heap.setIfInBounds (E.φ r) o')[E.φ r]?); rw [heap_setObj o' ho]; exact hx⟩))
    (fun k hk => Array.getElem?_setIfInBounds_ne (Ne.symm hk)) (by simp) rfl rfl rfl w.ds w.r
theorem setOb_eq (w : W) (b : Nat) (o : Ob) (f : W → Bool) : setOb w b o f = f ⟨w.h.put b o, w.nx, w.ms, w.ds, w.r⟩ := by
  cases w
  unfold setOb
  simp only [sH_eq]
/-- written -/
def putX (key : Nat) (v : V) : List (Nat × V) → List (Nat × V)
  | [] => [(key, v)]
  | (a, u) :: l => if key = a then (a, v) :: l else (a, u) :: putX key v l
theorem putE_eq (key : Nat) (v : V) : ∀ (es : List (Nat × V)) (f : List (Nat × V) → Bool), putE key v es f = f (putX key v es)
  | [], f => rfl
  | (a, u) :: l, f => by
    unfold putE putX
    cases hb : Nat.beq key a with
    | true => rw [if_pos (Nat.eq_of_beq_eq_true hb)]
    | false =>
      have hne : key ≠ a := fun e => by rw [e, Nat.beq_refl] at hb; cases hb
      rw [if_neg hne]
      show putE key v l _ = _
      rw [putE_eq key v l]
theorem putX_keys (key : Nat) (v : V) : ∀ (es : List (Nat × V)), (putX key v es).map (·.1) = match findX key es with | some _ => es.map (·.1) | none => es.map (·.1) ++ [key]
  | [] => rfl
  | (a, u) :: l => by
    unfold putX findX
    by_cases h : key = a
    · rw [if_pos h, if_pos h]; rfl
    · rw [if_neg h, if_neg h, List.map_cons, putX_keys key v l]
      cases findX key l <;> rfl
theorem EntR.put {key : Nat} {v : V} {cl : Nat} (hv : ok E nx v) : ∀ {es : List (Nat × V)} {ms : List MapEntry}, EntR E nx es ms →
    EntR E nx (putX key v es) (match findX key es with | some p => ms.modify p.1 fun e => { e with key := keyV key, val := den E v } | none => ms ++ [⟨keyV key, den E v, cl⟩])
  | [], [], _ => ⟨⟨hv, rfl, rfl⟩, trivial⟩
  | [], _ :: _, h => h.elim
  | _ :: _, [], h => h.elim
  | (a, u) :: es, m :: ms, h => by
    unfold putX findX
    by_cases hk : key = a
    · rw [if_pos hk, if_pos hk]
      subst hk
      exact ⟨⟨hv, rfl, rfl⟩, h.2⟩
    · rw [if_neg hk, if_neg hk]
      have := EntR.put (key := key) (v := v) (cl := cl) hv h.2
      cases hf : findX key es with
      | none => rw [hf] at this; exact ⟨h.1, this⟩
      | some p => rw [hf] at this; exact ⟨h.1, this⟩
theorem notin_find {key : Nat} : ∀ {es : List (Nat × V)}, findX key es = none → key ∉ es.map (·.1)
  | [], _ => by simp
  | (a, u) :: l, h => by
    unfold findX at h
    by_cases hk : key = a
    · rw [if_pos hk] at h; cases h
    · rw [if_neg hk] at h
      cases hf : findX key l with
      | some p => rw [hf] at h; cases h
      | none =>
        simp only [List.map_cons, List.mem_cons, not_or]
        exact ⟨hk, notin_find hf⟩
theorem sameBits_key (n : Nat) : Instr.sameBits 10000 (keyV n) (keyV n) = true := by simp [Instr.sameBits]
theorem mapUpdateC_ok {t : Nat} {m i x : Gk} {val va2 va3 : Value} (hm : Is E w.nx e m val) (hi : Is E w.nx e i va2) (hx : Is E w.nx e x va3) (h : SR E w K W0 Wd) (hr : (mapUpdateC P t m i x fin).run rec e w k = true) :
    Act0 P E w K W0 Wd (Instr.mapUpdate t val va2 va3) (fin.of rec e k .undef) := by
  unfold mapUpdateC at hr
  split at hr
  · rename_i kt el hd
    cases hu : u64Key P kt with
    | false => rw [hu] at hr; exact absurd hr (bad_false (n := 137))
    | true =>
      rw [hu] at hr
      have hk := u64Key_ok hu
      obtain ⟨v, hr, hv, rfl⟩ := hm _ hr
      obtain ⟨iv, hr, hiv, rfl⟩ := hi _ hr
      obtain ⟨u, hr, huu, rfl⟩ := hx _ hr
      obtain ⟨hit, hr⟩ := isN_true (by rfl) hr
      obtain ⟨ht, hr⟩ := isN_true (by rfl) hr
      rw [vA_eq, vA_eq] at hr
      obtain ⟨es, hkk, ho, hr⟩ := mapAt_ok hr
      rw [putE_eq, setOb_eq] at hr
      obtain ⟨ha, e1⟩ := ok_map hv ht
      obtain ⟨es', cl, hmm, hR⟩ := h.map ha hkk ho
      have hent := EntR.put (key := iv.a) (cl := cl) huu hR.ent
      have hkeys := putX_keys iv.a u es
      have hfind := findNow_eq iv.a 0 hR.ent
      rw [ok_key hit, e1]
      have hgo := run_getObj (P := P) hmm (by intro c e f h; cases h)
      cases hf : findX iv.a es with
      | some p =>
        rw [hf] at hent hkeys hfind
        have hob : OthR E w.nx (.map (putX iv.a u es)) (some (.map (es'.modify p.1 fun e => { e with key := keyV iv.a, val := den E u }) cl)) := by
          refine ⟨_, _, rfl, ?_, ?_, ?_, ?_⟩
          · rw [Array.toList_modify]; exact hent
          · rw [Array.toList_modify]
            have : (es'.toList.modify p.1 fun e => { e with key := keyV iv.a, val := den E u }).map (·.born) = es'.toList.map (·.born) := by
              apply List.ext_getElem?
              intro j
              rw [List.getElem?_map, List.getElem?_map, List.getElem?_modify]
              cases es'.toList[j]? with
              | none => rfl
              | some y => simp; split <;> rfl
            rw [this]; exact hR.born
          · intro y hy
            rw [Array.toList_modify] at hy
            obtain ⟨j, hj⟩ := List.getElem?_of_mem hy
            rw [List.getElem?_modify] at hj
            cases hq : es'.toList[j]? with
            | none => rw [hq] at hj; cases hj
            | some z =>
              rw [hq] at hj
              have hz := hR.clock z (List.mem_of_getElem? hq)
              simp at hj
              rw [← hj]
              split <;> exact hz
          · rw [hkeys]; exact hR.keys
        refine ⟨⟨w.h.put v.a (.oth (.map (putX iv.a u es))), w.nx, w.ms, w.ds, w.r⟩, _, rfl, h.setOth ha hkk hmm hob, rfl, rfl, hr, ?_⟩
        simp only [Instr.mapUpdate, bind]
        rw [run_then (run_underlying (undF_ok hd) Wd)]
        simp only []
        refine (run_then hgo).trans ?_
        simp only []
        rw [run_then (run_checkKey hk Wd), run_then (run_findKey hk hfind Wd)]
        simp only [Option.map_some, Nat.zero_add]
        have hlen : p.1 < es'.toList.length := by
          have := (findX_ok hR.ent hf).1
          have := (List.getElem?_eq_some_iff.1 this).1
          rw [hR.ent.length]; exact this
        have hold : ((es'[p.1]?).map (·.key)).getD (keyV iv.a) = keyV iv.a := by
          have hkey : ∀ {es : List (Nat × V)} {ms : List MapEntry} {p : Nat × V}, EntR E w.nx es ms → findX iv.a es = some p → (ms[p.1]?).map (·.key) = some (keyV iv.a) := by
            intro es
            induction es with
            | nil => intro ms p _ h; cases h
            | cons q es ih =>
              obtain ⟨a, b⟩ := q
              intro ms p hE h
              cases ms with
              | nil => exact hE.elim
              | cons m0 ms =>
                unfold findX at h
                by_cases hq : iv.a = a
                · rw [if_pos hq] at h
                  cases h
                  show some m0.key = _
                  rw [hE.1.2.1, hq]
                · rw [if_neg hq] at h
                  cases hf2 : findX iv.a es with
                  | none => rw [hf2] at h; cases h
                  | some q =>
                    rw [hf2] at h
                    cases h
                    simpa using ih hE.2 hf2
          have := hkey hR.ent hf
          rw [Array.getElem?_toList] at this
          rw [this]; rfl
        rw [hold]
        unfold Instr.keyThatStays
        rw [if_pos (sameBits_key iv.a)]
        exact run_setObj hmm (by intro c e f h; cases h)
      | none =>
        rw [hf] at hent hkeys hfind
        have hob : OthR E w.nx (.map (putX iv.a u es)) (some (.map (es'.push ⟨keyV iv.a, den E u, cl⟩) (cl + 1))) := by
          refine ⟨_, _, rfl, ?_, ?_, ?_, ?_⟩
          · rw [Array.toList_push]; exact hent
          · rw [Array.toList_push, List.map_append]
            refine List.nodup_append.2 ⟨hR.born, by simp, fun a ha b hb e => ?_⟩
            simp at hb
            subst hb
            subst e
            obtain ⟨z, hz, e2⟩ := List.mem_map.1 ha
            have := hR.clock z hz
            omega
          · intro y hy
            rw [Array.toList_push] at hy
            rcases List.mem_append.1 hy with hy | hy
            · exact Nat.lt_succ_of_lt (hR.clock y hy)
            · simp at hy; subst hy; exact Nat.lt_succ_self _
          · rw [hkeys]
            refine List.nodup_append.2 ⟨hR.keys, by simp, fun a ha b hb e => ?_⟩
            simp at hb
            subst hb
            subst e
            exact notin_find hf ha
        refine ⟨⟨w.h.put v.a (.oth (.map (putX iv.a u es))), w.nx, w.ms, w.ds, w.r⟩, _, rfl, h.setOth ha hkk hmm hob, rfl, rfl, hr, ?_⟩
        simp only [Instr.mapUpdate, bind]
        rw [run_then (run_underlying (undF_ok hd) Wd)]
        simp only []
        refine (run_then hgo).trans ?_
        simp only []
        rw [run_then (run_checkKey hk Wd), run_then (run_findKey hk hfind Wd)]
        exact run_setObj hmm (by intro c e f h; cases h)
  · exact absurd hr (bad_false (n := 140))
end Go.Proofs.YtcajgbpcimimhaaGreatDoor.Vm
namespace Go.Proofs.YtcajgbpcimimhaaGreatDoor.Vm
open Go Go.RowKit
variable {P : Program} {E : En} {w : W} {K : Nat → Prop} {W0 Wd : World} {rec : Rec} {e : Env} {k : Ex → Env → W → Bool} {fin : Fv} {nx : Nat}

def delX (key : Nat) : List (Nat × V) → List (Nat × V)
  | [] => []
  | (a, u) :: l => if key = a then l else (a, u) :: delX key l
theorem delE_eq (key : Nat) : ∀ (es : List (Nat × V)) (f : List (Nat × V) → Bool), delE key es f = f (delX key es)
  | [], f => rfl
  | (a, u) :: l, f => by
    unfold delE delX
    cases hb : Nat.beq key a with
    | true => rw [if_pos (Nat.eq_of_beq_eq_true hb)]
    | false =>
      have hne : key ≠ a := fun e => by rw [e, Nat.beq_refl] at hb; cases hb
      rw [if_neg hne]
      show delE key l _ = _
      rw [delE_eq key l]
theorem delX_sub (key : Nat) : ∀ (es : List (Nat × V)), List.Sublist (delX key es) es
  | [] => List.Sublist.refl _
  | (a, u) :: l => by
    unfold delX
    by_cases h : key = a
    · rw [if_pos h]; exact List.sublist_cons_self _ _
    · rw [if_neg h]; exact (delX_sub key l).cons_cons _
theorem EntR.del {key : Nat} : ∀ {es : List (Nat × V)} {ms : List MapEntry}, EntR E nx es ms → EntR E nx (delX key es) (match findX key es with | some p => ms.eraseIdx p.1 | none => ms)
  | [], [], _ => trivial
  | [], _ :: _, h => h.elim
  | _ :: _, [], h => h.elim
  | (a, u) :: es, m :: ms, h => by
    unfold delX findX
    by_cases hk : key = a
    · rw [if_pos hk, if_pos hk]; exact h.2
    · rw [if_neg hk, if_neg hk]
      have := EntR.del (key := key) h.2
      cases hf : findX key es with
      | none => rw [hf] at this; exact ⟨h.1, this⟩
      | some p => rw [hf] at this; exact ⟨h.1, this⟩
theorem deleteC_ok {t ty : Nat} {ts : List Nat} {m i : Gk} {val va2 : Value} (hm : Is E w.nx e m val) (hi : Is E w.nx e i va2) (h : SR E w K W0 Wd) (hr : (deleteC P t m i fin).run rec e w k = true) :
    Eff P E w K W0 Wd (Builtin.delete_ (t :: ts).toArray ty #[val, va2]) (fin.of rec e k) := by
  unfold deleteC at hr
  split at hr
  · rename_i kt el hd
    cases hu : u64Key P kt with
    | false => rw [hu] at hr; exact absurd hr (bad_false (n := 141))
    | true =>
      rw [hu] at hr
      have hk := u64Key_ok hu
      obtain ⟨v, hr, hv, rfl⟩ := hm _ hr
      obtain ⟨iv, hr, hiv, rfl⟩ := hi _ hr
      obtain ⟨hit, hr⟩ := isN_true (by rfl) hr
      obtain ⟨ht, hr⟩ := isN_true (by rfl) hr
      rw [vA_eq] at hr
      obtain ⟨es, hkk, ho, hr⟩ := mapAt_ok hr
      rw [delE_eq, setOb_eq] at hr
      obtain ⟨ha, e1⟩ := ok_map hv ht
      obtain ⟨es', cl, hmm, hR⟩ := h.map ha hkk ho
      have hent := EntR.del (key := iv.a) hR.ent
      have hkeys : ((delX iv.a es).map (·.1)).Nodup := hR.keys.sublist ((delX_sub iv.a es).map _)
      have hfind := findNow_eq iv.a 0 hR.ent
      rw [ok_key hit, e1]
      have hgo := run_getObj (P := P) hmm (by intro c e f h; cases h)
      have gen : ∀ es2 : Array MapEntry, EntR E w.nx (delX iv.a es) es2.toList → List.Sublist es2.toList es'.toList → OthR E w.nx (.map (delX iv.a es)) (some (.map es2 cl)) := fun es2 h1 h2 =>
        ⟨_, _, rfl, h1, hR.born.sublist (h2.map _), fun y hy => hR.clock y (h2.subset hy), hkeys⟩
      cases hf : findX iv.a es with
      | some p =>
        rw [hf] at hent hfind
        have hob := gen (es'.eraseIdxIfInBounds p.1) (by rw [Array.toList_eraseIdxIfInBounds]; exact hent) (by rw [Array.toList_eraseIdxIfInBounds]; exact List.eraseIdx_sublist _ _)
        refine ⟨E, ⟨w.h.put v.a (.oth (.map (delX iv.a es))), w.nx, w.ms, w.ds, w.r⟩, .undef, _, Ext.refl _ _, h.setOth ha hkk hmm hob, okUndef E _, rfl, rfl, hr, ?_⟩
        rw [denUndef]
        simp only [Builtin.delete_, List.getElem?_toArray, List.getElem?_cons_zero, List.getElem?_cons_succ, bind]
        rw [run_then (run_underlying (undF_ok hd) Wd)]
        simp only []
        refine (run_then hgo).trans ?_
        simp only []
        refine (run_then (run_checkKey hk Wd)).trans ?_
        refine (run_then (run_findKey hk hfind Wd)).trans ?_
        simp only [Option.map_some, Nat.zero_add]
        refine (run_then (run_setObj hmm (by intro c e f h; cases h))).trans ?_
        rfl
      | none =>
        rw [hf] at hent hfind
        have hob := gen es' hent (List.Sublist.refl _)
        refine ⟨E, ⟨w.h.put v.a (.oth (.map (delX iv.a es))), w.nx, w.ms, w.ds, w.r⟩, .undef, _, Ext.refl _ _, h.setOth ha hkk hmm hob, okUndef E _, rfl, rfl, hr, ?_⟩
        rw [denUndef]
        simp only [Builtin.delete_, List.getElem?_toArray, List.getElem?_cons_zero, List.getElem?_cons_succ, bind]
        rw [run_then (run_underlying (undF_ok hd) Wd)]
        simp only []
        refine (run_then hgo).trans ?_
        simp only []
        refine (run_then (run_checkKey hk Wd)).trans ?_
        refine (run_then (run_findKey hk hfind Wd)).trans ?_
        simp only [Option.map_none]
        refine (run_then (run_setObj hmm (by intro c e f h; cases h))).trans ?_
        rfl
  · exact absurd hr (bad_false (n := 144))

/-! ### Iterators of strings -/
theorem decode_ascii {s : ByteArray} {i : Nat} {b : UInt8} (h : s[i]? = some b) (hb : b.toNat < 128) : Utf8.decode s i = (b.toNat, 1) := by
  have e1 : s.get! (i + 0) = b := by
    obtain ⟨h1, h2⟩ := getElem?_eq_some_iff.1 h
    rw [← h2]
    show s.data[i]! = s.data[i]
    exact getElem!_pos s.data i h1
  unfold Utf8.decode
  simp only [e1]
  rw [if_pos hb]
theorem nextC_ok {x : Gk} {b : Bool} {ty : TypeId} {val : Value} (hx : Is E w.nx e x val) (h : SR E w K W0 Wd) (hr : (nextC x b fin).run rec e w k = true) : Eff P E w K W0 Wd (Instr.next val b ty) (fin.of rec e k) := by
  unfold nextC at hr
  cases b with
  | false => exact absurd hr (bad_false (n := 156))
  | true =>
    obtain ⟨v, hr, hv, rfl⟩ := hx _ hr
    obtain ⟨ht, hr⟩ := ptrK_ok hr
    obtain ⟨ha, hr⟩ := isN_true (by rfl) hr
    obtain ⟨hb, e1⟩ := ok_ptr hv ht
    obtain ⟨hk, hr⟩ := othAt_ok hr
    split at hr
    · rename_i s pos ho
      have hob := h.oth hb hk
      rw [ho] at hob
      have hob : Wd.heap[E.φ v.b]? = some (.stringIter s pos) := hob
      have hgo := run_getObj (P := P) hob (by intro c e f h; cases h)
      rw [e1, ha]
      split at hr
      · rename_i hnone
        obtain ⟨hsz, hr⟩ := cond_true hr
        have hsz : s.size ≤ pos := ble_true hsz
        refine ⟨E, w, _, Wd, Ext.refl _ _, h, okTup (show okL E w.nx [.bool 0] from ⟨okBool 0, trivial⟩), rfl, rfl, hr, ?_⟩
        rw [denTup]
        simp only [Instr.next, bind]
        refine (run_then hgo).trans ?_
        simp only []
        rw [if_neg (by omega)]
        simp [denL, den]
      · rename_i b hsome
        rw [fN_eq] at hr
        obtain ⟨hc, hr⟩ := cond_true hr
        rw [fN_eq, setOb_eq] at hr
        have hc := blt_true hc
        have h512 : pos < 512 := by
          by_cases hx : pos < 512
          · exact hx
          · rw [tb_ge _ _ hx] at hsome; cases hsome
        rw [tb_at _ _ h512] at hsome
        have hb' : s.data[pos]? = some b := by simpa using hsome
        obtain ⟨hl, e3⟩ := Array.getElem?_eq_some_iff.1 hb'
        have hsb : s[pos]? = some b := by rw [getElem?_pos s pos hl]; exact congrArg some e3
        have hdec := decode_ascii hsb hc
        refine ⟨E, ⟨w.h.put v.b (.oth (.sit s (pos + 1))), w.nx, w.ms, w.ds, w.r⟩, .tup [.bool 1, .nat 3 pos, .nat 2 b.toNat], _, Ext.refl _ _, h.setOth hb hk hob (x := .sit s (pos + 1)) rfl, okTup (show okL E w.nx [.bool 1, .nat 3 pos, .nat 2 b.toNat] from ⟨okBool 1, okN pos, ⟨trivial, trivial⟩, trivial⟩), rfl, rfl, hr, ?_⟩
        rw [denTup]
        simp only [Instr.next, bind]
        refine (run_then hgo).trans ?_
        simp only []
        rw [if_pos (show pos < s.size from hl), hdec]
        simp only []
        refine (run_then (run_setObj hob (by intro c e f h; cases h))).trans ?_
        simp [denL, den, goInt]
    · exact absurd hr (bad_false (n := 158))
end Go.Proofs.YtcajgbpcimimhaaGreatDoor.Vm
namespace Go.Proofs.YtcajgbpcimimhaaGreatDoor.Vm
open Go Go.RowKit
variable {P : Program} {E : En} {w : W} {K : Nat → Prop} {W0 Wd : World} {rec : Rec} {e : Env} {k : Ex → Env → W → Bool} {fin : Fv} {nx : Nat}

theorem putL_nil (n : Nat) (cs : List V) (f : List V → Bool) : putL n [] cs f = f cs := by cases n <;> cases cs <;> rfl
theorem putL_ok : ∀ {n : Nat} {l cs : List V} {f : List V → Bool}, putL n l cs f = true → l ≠ [] → ∃ r, f r = true ∧ n + l.length ≤ cs.length ∧ r.length = cs.length ∧ (∀ j, r[j]? = if n ≤ j ∧ j < n + l.length then l[j - n]? else cs[j]?) ∧ ∀ u, u ∈ r → u ∈ l ∨ u ∈ cs
  | _, [], cs, f, h, hl => absurd rfl hl
  | 0, v :: [], c :: cs, f, h, _ => by
    have h : putL 0 [] cs (fun r => f (v :: r)) = true := h
    rw [putL_nil] at h
    refine ⟨v :: cs, h, by simp, rfl, fun j => ?_, fun u hu => ?_⟩
    · cases j with
      | zero => rfl
      | succ j => rw [if_neg (by simp)]; rfl
    · rcases List.mem_cons.1 hu with e | e
      · exact .inl (by simp [e])
      · exact .inr (List.mem_cons_of_mem _ e)
  | 0, v :: u :: l, c :: cs, f, h, _ => by
    obtain ⟨r, h1, h2, h3, h4, h5⟩ := putL_ok (n := 0) (l := u :: l) (cs := cs) h (by simp)
    refine ⟨v :: r, h1, by simp only [List.length_cons] at h2 ⊢; omega, by simp [h3], fun j => ?_, fun x hx => ?_⟩
    · cases j with
      | zero => rw [if_pos (by simp)]; rfl
      | succ j =>
        rw [List.getElem?_cons_succ, h4 j]
        simp only [List.length_cons]
        by_cases hj : j < l.length + 1
        · rw [if_pos (by omega), if_pos (by omega)]; rfl
        · rw [if_neg (by omega), if_neg (by omega)]; rfl
    · rcases List.mem_cons.1 hx with e | e
      · exact .inl (by simp [e])
      · rcases h5 x e with e | e
        · exact .inl (List.mem_cons_of_mem _ e)
        · exact .inr (List.mem_cons_of_mem _ e)
  | n + 1, v :: l, c :: cs, f, h, hl => by
    obtain ⟨r, h1, h2, h3, h4, h5⟩ := putL_ok (n := n) (l := v :: l) (cs := cs) h hl
    refine ⟨c :: r, h1, by simp only [List.length_cons] at h2 ⊢; omega, by simp [h3], fun j => ?_, fun x hx => ?_⟩
    · cases j with
      | zero => rw [if_neg (by omega)]; rfl
      | succ j =>
        rw [List.getElem?_cons_succ, h4 j]
        by_cases hj : n ≤ j ∧ j < n + (v :: l).length
        · rw [if_pos hj, if_pos (by omega), show j + 1 - (n + 1) = j - n by omega]
        · rw [if_neg hj, if_neg (by omega)]; rfl
    · rcases List.mem_cons.1 hx with e | e
      · exact .inr (by simp [e])
      · rcases h5 x e with e | e
        · exact .inl e
        · exact .inr (List.mem_cons_of_mem _ e)
  | 0, _ :: _, [], f, h, _ => absurd h (bad_false (n := 87))
  | _ + 1, _ :: _, [], f, h, _ => absurd h (bad_false (n := 87))
theorem foldl_lay (off : Nat) : ∀ (l : List Value) (k : Nat) (cs : Array Value), (l.zipIdx k).foldl (fun cs (c, j) => cs.setIfInBounds (off + j) c) cs = layA cs (off + k) l
  | [], _, _ => rfl
  | v :: l, k, cs => by
    rw [List.zipIdx_cons, List.foldl_cons, foldl_lay off l (k + 1)]
    rfl
/-- parts, and what they stand for -/
def IsP (E : En) (nx : Nat) (e : Env) : List (Nat × Gk) → List (Nat × Value) → Prop
  | [], [] => True
  | (i, x) :: l, (j, v) :: r => (i = j ∧ Is E nx e x v) ∧ IsP E nx e l r
  | _, _ => False
theorem fill_cons {place : Nat → Option (Nat × Nat)} {i off sz : Nat} {v : Value} {rest : List (Nat × Value)} {cs vs r : List V} (hp : place i = some (off, sz)) (hv : v.cells = (denL E vs).toArray) (hl : vs.length = sz) (hfit : off + vs.length ≤ cs.length)
    (hlen : r.length = cs.length) (hr : ∀ j, r[j]? = if off ≤ j ∧ j < off + vs.length then vs[j - off]? else cs[j]?) :
    Instr.fill place (denL E cs).toArray ((i, v) :: rest) = Instr.fill place (denL E r).toArray rest := by
  have hsz : (denL E vs).toArray.size = vs.length := by rw [denL_eq]; simp
  have hcz : (denL E cs).toArray.size = cs.length := by rw [denL_eq]; simp
  simp only [Instr.fill, hp, hv]
  rw [if_neg (by rw [hsz, hcz, hl]; simp; omega)]
  congr 1
  rw [← Array.foldl_toList, Array.toList_zipIdx]
  have := foldl_lay off (denL E vs).toArray.toList 0 (denL E cs).toArray
  rw [Nat.add_zero] at this
  refine this.trans ?_
  apply Array.ext'
  apply List.ext_getElem?
  intro j
  have hdl : (denL E vs).length = vs.length := by rw [denL_eq, List.length_map]
  rw [Array.getElem?_toList, layA_at _ _ _ _ (by rw [hcz]; show off + (denL E vs).length ≤ _; omega)]
  show (if off ≤ j ∧ j < off + (denL E vs).length then (denL E vs)[j - off]? else (denL E cs).toArray[j]?) = (denL E r)[j]?
  rw [hdl, denL_eq E r, List.getElem?_map, hr j]
  by_cases hc : off ≤ j ∧ j < off + vs.length
  · rw [if_pos hc, if_pos hc, denL_eq, List.getElem?_map]
  · rw [if_neg hc, if_neg hc, List.getElem?_toArray, denL_eq, List.getElem?_map]
theorem fillC_ok {place : Nat → Option (Nat × Nat × Bool)} {place' : Nat → Option (Nat × Nat)} (hpl : ∀ i off sz agg, place i = some (off, sz, agg) → place' i = some (off, sz)) :
    ∀ {ps : List (Nat × Gk)} {vs : List (Nat × Value)} {cs : List V} {f : List V → Bool}, IsP E nx e ps vs → (fillC place ps).run e cs f = true → okL E nx cs → (∀ u, u ∈ cs → one u) →
    ∃ r, f r = true ∧ okL E nx r ∧ (∀ u, u ∈ r → one u) ∧ r.length = cs.length ∧ Instr.fill place' (denL E cs).toArray vs = some (denL E r).toArray
  | [], [], cs, f, _, h, o, o1 => ⟨cs, h, o, o1, rfl, rfl⟩
  | [], _ :: _, _, _, h, _, _, _ => h.elim
  | _ :: _, [], _, _, h, _, _, _ => h.elim
  | (i, x) :: ps, (j, v) :: vs, cs, f, hP, h, o, o1 => by
    obtain ⟨⟨hij, hx⟩, hP⟩ := hP
    subst hij
    unfold fillC at h
    split at h
    · exact absurd h (bad_false (n := 88))
    · rename_i off sz agg hp
      have hp' := hpl _ _ _ _ hp
      have go : ∀ (l : List V), l ≠ [] → okL E nx l → (∀ u, u ∈ l → one u) → l.length = sz → v.cells = (denL E l).toArray → putL off l cs (fun cs => (fillC place ps).run e cs f) = true →
          ∃ r, f r = true ∧ okL E nx r ∧ (∀ u, u ∈ r → one u) ∧ r.length = cs.length ∧ Instr.fill place' (denL E cs).toArray ((i, v) :: vs) = some (denL E r).toArray := fun l hne ol o1l hl hv h => by
        obtain ⟨r, h1, h2, h3, h4, h5⟩ := putL_ok h hne
        have orr : okL E nx r := (okL_iff E nx r).2 fun u hu => by
          rcases h5 u hu with e | e
          · exact (okL_iff E nx l).1 ol u e
          · exact (okL_iff E nx cs).1 o u e
        have or1 : ∀ u, u ∈ r → one u := fun u hu => by
          rcases h5 u hu with e | e
          · exact o1l u e
          · exact o1 u e
        obtain ⟨q, q1, q2, q3, q4, q5⟩ := fillC_ok hpl hP h1 orr or1
        exact ⟨q, q1, q2, q3, q4.trans h3, by rw [fill_cons hp' hv hl h2 h3 h4]; exact q5⟩
      cases agg with
      | false =>
        simp only [] at h
        cases hb : Nat.beq sz 1 with
        | false => rw [hb] at h; exact absurd h (bad_false (n := 89))
        | true =>
          rw [hb] at h
          obtain ⟨u, h, hu, rfl⟩ := hx _ h
          obtain ⟨ho, h⟩ := isOne_ok h
          exact go [u] (by simp) ⟨hu, trivial⟩ (fun q hq => by rw [List.mem_singleton.1 hq]; exact ho) (Nat.eq_of_beq_eq_true hb).symm (by rw [cells_one (den_one hu ho)]; simp [denL]) h
      | true =>
        cases sz with
        | zero => exact absurd h (bad_false (n := 423))
        | succ sz =>
          obtain ⟨u, h, hu, rfl⟩ := hx _ h
          obtain ⟨ht, hl, h⟩ := asCells_ok h
          obtain ⟨ol, o1l, e1⟩ := ok_agg hu ht
          exact go u.l (by intro e; rw [e] at hl; cases hl) ol o1l hl (by rw [e1]; rfl) h
theorem places_some {fs : List Field} (h : allInfo P fs = true) : ∃ pl, fs.mapM (fun f => (P.info? f.type).map fun i => (f.offset, i.size)) = some pl ∧ ∀ (i : Nat) (f : Field), fs[i]? = some f → pl[i]? = some (f.offset, sizeT P f.type) := by
  induction fs with
  | nil => exact ⟨[], rfl, fun i f h => by simp at h⟩
  | cons f fs ih =>
    unfold allInfo at h
    split at h
    · rename_i i hi
      obtain ⟨pl, h1, h2⟩ := ih h
      refine ⟨(f.offset, i.size) :: pl, by simp [infoF_ok hi, h1], fun j g hg => ?_⟩
      cases j with
      | zero => simp at hg; subst hg; simp [sizeT, hi]
      | succ j => simpa using h2 j g (by simpa using hg)
    · cases h
theorem buildC_ok {t : Nat} {ps : List (Nat × Gk)} {vs : Array (Nat × Value)} (hp : IsP E nx e ps vs.toList) (hr : (buildC P t ps fin).run rec e w k = true) : Pur P E nx (Instr.build t vs) (fin.at rec e k w) := by
  unfold buildC at hr
  split at hr
  · rename_i fs z hd hz
    cases hi : allInfo P fs.toList with
    | false => rw [hi] at hr; exact absurd hr (bad_false (n := 424))
    | true =>
      rw [hi] at hr
      obtain ⟨i, zv, hi1, hi2, oz, o1, ec, _⟩ := zeroL_ok hz E nx
      obtain ⟨pl, hp1, hp2⟩ := places_some hi
      obtain ⟨r, h1, h2, h3, _, h5⟩ := fillC_ok (place' := (pl.toArray[·]?)) (fun i off sz agg h => by
        unfold fieldOf at h
        rw [hd] at h
        simp only [] at h
        split at h
        · rename_i fd hf
          split at h
          · cases h
            have := hp2 i fd hf
            simpa using this
          · cases h
        · cases h) hp hr oz o1
      refine ⟨_, h1, okAgg h2 h3, fun W => ?_⟩
      rw [denAgg]
      refine run_build W t vs _ ?_
      unfold Program.built
      simp only [hi1, undF_ok hd, hi2, hp1]
      rw [ec]; exact h5
  · rename_i n el z hd hz
    obtain ⟨i, zv, hi1, hi2, oz, o1, ec, _⟩ := zeroL_ok hz E nx
    split at hr
    · exact absurd hr (bad_false (n := 427))
    · rename_i d hel
      obtain ⟨ie, hie, hsz⟩ := undF_info hel
      obtain ⟨r, h1, h2, h3, _, h5⟩ := fillC_ok (place' := fun i => some (i * ie.size, ie.size)) (fun i off sz agg h => by
        unfold elemAt at h
        rw [hel] at h
        cases h
        rw [hsz]) hp hr oz o1
      refine ⟨_, h1, okAgg h2 h3, fun W => ?_⟩
      rw [denAgg]
      refine run_build W t vs _ ?_
      unfold Program.built
      simp only [hi1, undF_ok hd, hi2, hie]
      rw [ec]; exact h5
  · exact absurd hr (bad_false (n := 90))
theorem buildSliceC_ok {t len : Nat} {ps : List (Nat × Gk)} {vs : Array (Nat × Value)} (hp : IsP E w.nx e ps vs.toList) (hr : (buildSliceC P t len ps fin).run rec e w k = true) : Mak P E w (Instr.buildSlice t len vs) (fin.of rec e k) := by
  unfold buildSliceC at hr
  split at hr
  · rename_i el hd
    split at hr
    · rename_i z hz
      obtain ⟨i, hi, hsz, hr⟩ := withSize_ok hr
      cases hc : (Nat.beq z.length i.size && Nat.ble (Nat.mul len i.size) 16777216) with
      | false => rw [hc] at hr; exact absurd hr (bad_false (n := 425))
      | true =>
        rw [hc] at hr
        rw [Bool.and_eq_true] at hc
        have c1 := Nat.eq_of_beq_eq_true hc.1
        have c2 : len * i.size ≤ 16777216 := ble_true hc.2
        obtain ⟨i2, zv, hi1, hi2, oz, o1, ec, el2⟩ := zeroL_ok hz E w.nx
        rw [hi] at hi1
        cases hi1
        have hcells := timesL_cells ec len
        rw [c1] at hcells
        have hr : (fillC (elemAt P el) ps).run e (timesL len z) (fun l => newRow w l 0 fun b w => fin.run rec e w k (.sl b 0 len len)) = true := hr
        obtain ⟨r, h1, h2, h3, h4, h5⟩ := fillC_ok (E := E) (nx := w.nx) (place' := fun j => some (j * i.size, i.size)) (fun j off sz agg h => by
          unfold elemAt at h
          split at h
          · cases h; rw [hsz]
          · cases h) hp hr ((okL_iff E w.nx _).2 fun q hq => (okL_iff E w.nx _).1 oz q (timesL_mem hq)) (fun q hq => o1 q (timesL_mem hq))
        obtain ⟨o, hm, hn, h1⟩ := newRow_ok h1
        have hsize : (denL E r).toArray.size = r.length := by rw [denL_eq]; simp
        refine ⟨_, _, _, _, hm.makes (g := fun b => Value.slice (some ⟨b, 0, none⟩) len len) hn h2 h3 (c := (denL E r).toArray) (t := el) (Nat.le_of_eq hsize.symm) hsize (fun j hj => by simp) (fun W => ?_) (new_slice E w.nx len len), h1⟩
        rw [hcells] at h5
        by_cases h0 : len * i.size = 0
        · have e1 : (madeCells zv.cells (len * i.size)) = #[] := by rw [h0]; simp [madeCells]
          rw [e1] at h5
          have e2 : ∀ f : Nat → Value, Array.map f (Array.range 0) = #[] := fun f => by simp
          simp [Instr.buildSlice, run_underlying (undF_ok hd), sizeOf, typeInfo, hi, h0, e2, h5, Go.newRow]
        · exact run_buildSlice W t el len vs _ i zv (undF_ok hd) hi hi2 (by omega) h0 h5
    · exact absurd hr (bad_false (n := 91))
  · exact absurd hr (bad_false (n := 92))
end Go.Proofs.YtcajgbpcimimhaaGreatDoor.Vm
namespace Go.Proofs.YtcajgbpcimimhaaGreatDoor.Vm
open Go Go.RowKit
variable {P : Program} {E : En} {w : W} {K : Nat → Prop} {W0 Wd : World} {rec : Rec} {e : Env} {k : Ex → Env → W → Bool} {fin : Fv} {nx : Nat}

theorem ownRow_ok {b : Nat} {c : Bool} (h : ownRow w b c = true) : ((w.h.at b).k = 1 ∨ (w.h.at b).k = 2) ∧ (w.h.at b).w = 1 ∧ c = true := by
  unfold ownRow at h
  show (((gH b).f w.h).k = 1 ∨ ((gH b).f w.h).k = 2) ∧ ((gH b).f w.h).w = 1 ∧ c = true
  revert h
  generalize (gH b).f w.h = o
  obtain ⟨kk, n, ww, pp, s, l, o⟩ := o
  intro h
  obtain ⟨h1, h⟩ := isN_true (by rfl) h
  cases hb : Nat.beq kk 1 with
  | true => rw [hb] at h; exact ⟨.inl (Nat.eq_of_beq_eq_true hb), h1, h⟩
  | false =>
    rw [hb] at h
    obtain ⟨h3, h⟩ := isN_true (by rfl) h
    exact ⟨.inr h3, h1, h⟩
/-- two values that are compared: what it comes to, in each world -/
def Cmp (P : Program) (E : En) (w : W) (t : TypeId) (x y : Value) (c : Bool → Bool) : Prop := ∃ b, c b = true ∧ ∀ {K W0 Wd}, SR E w K W0 Wd → (Op.equal t x y).run P Wd = .ok b Wd
theorem ok_ptr18 {v : V} (ht : v.t = 18) : den E v = .pointer none := by
  obtain ⟨t, x, l, d, c, b, a⟩ := v
  cases ht
  simp [den]
theorem run_eq_unfold {t : TypeId} {d : TypeDesc} {x y : Value} (h : P.underlying t = some d) (W : World) {r : Bool} (hr : ∀ n : Nat, (Op.equalIn (n + 1) t x y).run P W = .ok r W) : (Op.equal t x y).run P W = .ok r W := hr 9999
theorem isN_cases {n m : Nat} {a b : Bool} (h : isN n m a b = true) : (n = m ∧ a = true) ∨ (n ≠ m ∧ b = true) := by
  rw [isN_eq] at h
  split at h
  · exact .inl ⟨by assumption, h⟩
  · exact .inr ⟨by assumption, h⟩
theorem ptrEq_ok {t el : TypeId} {i : TypeInfo} {v1 v2 : V} {c : Bool → Bool} (hd : P.underlying t = some (.pointer el)) (hi : P.info? el = some i) (hz : i.size ≠ 0) (h1 : ok E w.nx v1) (h2 : ok E w.nx v2) (hs : SR E w K W0 Wd) (h : ptrEq v1 v2 w c = true) :
    Cmp P E w t (den E v1) (den E v2) c := by
  unfold ptrEq at h
  rcases isN_cases h with ⟨t1, h⟩ | ⟨_, h⟩
  · obtain ⟨b1, e1⟩ := ok_ptr h1 t1
    rcases isN_cases h with ⟨t2, h⟩ | ⟨_, h⟩
    · obtain ⟨b2, e2⟩ := ok_ptr h2 t2
      rw [e1, e2]
      have hrun : ∀ {W : World} {r : Bool}, (sameAddr ⟨E.φ v1.b, v1.a, none⟩ ⟨E.φ v2.b, v2.a, none⟩).run P W = .ok r W → (Op.equal t (.pointer (some ⟨E.φ v1.b, v1.a, none⟩)) (.pointer (some ⟨E.φ v2.b, v2.a, none⟩))).run P W = .ok r W := fun {W r} hr => by
        refine run_eq_unfold hd W fun n => ?_
        simp only [Op.equalIn, bind]
        rw [run_then (run_underlying hd W)]
        simp only []
        rw [run_then (run_sizeOf hi W), if_pos hz]
        exact hr
      cases hb : Nat.beq v1.b v2.b with
      | true =>
        rw [hb] at h
        have hb := Nat.eq_of_beq_eq_true hb
        cases ha : Nat.beq v1.a v2.a with
        | true =>
          rw [ha] at h
          have ha := Nat.eq_of_beq_eq_true ha
          refine ⟨true, h, fun {_ _ Wd} _ => hrun ?_⟩
          rw [run_sameAddr_same (by rw [hb]), hb, ha]
          congr 1
          simp
        | false =>
          rw [ha] at h
          have ha : v1.a ≠ v2.a := fun e => by rw [e, Nat.beq_refl] at ha; cases ha
          refine ⟨false, h, fun {_ _ Wd} _ => hrun ?_⟩
          rw [run_sameAddr_same (by rw [hb])]
          congr 1
          exact beq_false_of_ne (fun e => ha (Addr.mk.inj e).2.1)
      | false =>
        rw [hb] at h
        have hb : v1.b ≠ v2.b := fun e => by rw [e, Nat.beq_refl] at hb; cases hb
        obtain ⟨k1, w1, h⟩ := ownRow_ok h
        obtain ⟨k2, w2, h⟩ := ownRow_ok h
        refine ⟨false, h, fun {_ _ Wd} hs => hrun ?_⟩
        obtain ⟨c1, t1, f1, x1, _, _, x4, _⟩ := ((hs.ob _ b1).row k1).is
        obtain ⟨c2, t2, f2, y1, _, _, y4, _⟩ := ((hs.ob _ b2).row k2).is
        have x4 := x4 w1
        have y4 := y4 w2
        subst x4; subst y4
        exact run_sameAddr_ne (a := ⟨E.φ v1.b, v1.a, none⟩) (b := ⟨E.φ v2.b, v2.a, none⟩) x1 y1 (fun e => hb (hs.inj _ _ b1 b2 (by omega) (by omega) e))
    · obtain ⟨t2, h⟩ := isN_true (by rfl) h
      rw [e1, ok_ptr18 t2]
      refine ⟨false, h, fun {_ _ Wd} _ => run_eq_unfold hd Wd fun n => ?_⟩
      simp only [Op.equalIn, bind]
      rw [run_then (run_underlying hd Wd)]
      rfl
  · obtain ⟨t1, h⟩ := isN_true (by rfl) h
    rw [ok_ptr18 t1]
    rcases isN_cases h with ⟨t2, h⟩ | ⟨_, h⟩
    · obtain ⟨b2, e2⟩ := ok_ptr h2 t2
      rw [e2]
      refine ⟨false, h, fun {_ _ Wd} _ => run_eq_unfold hd Wd fun n => ?_⟩
      simp only [Op.equalIn, bind]
      rw [run_then (run_underlying hd Wd)]
      rfl
    · obtain ⟨t2, h⟩ := isN_true (by rfl) h
      rw [ok_ptr18 t2]
      refine ⟨true, h, fun {_ _ Wd} _ => run_eq_unfold hd Wd fun n => ?_⟩
      simp only [Op.equalIn, bind]
      rw [run_then (run_underlying hd Wd)]
      rfl
/-- is it nil? -/
def nilOf (n : Nat) (b : Bool) (x : Value) : Prop := match n with
  | 19 => ∃ a m c, x = .slice a m c ∧ a.isNone = b
  | 20 => ∃ a, x = .map a ∧ a.isNone = b
  | _ => if b = true then x = .nilFunc else ∃ f a c, x = .func f a c
theorem kNil_ok {n : Nat} {v : V} {c : Bool → Bool} (hn : n = 19 ∨ n = 20 ∨ n = 21) (hv : ok E nx v) (h : kNil n v c = true) : ∃ b, c b = true ∧ nilOf n b (den E v) := by
  obtain ⟨t, x, l, d, cc, b, a⟩ := v
  unfold kNil at h
  rcases isN_cases h with ⟨t1, h⟩ | ⟨_, h⟩
  · simp only [] at t1
    subst t1
    rcases hn with e | e | e <;> subst e
    · exact ⟨true, h, _, _, _, by simp only [den]; rfl, rfl⟩
    · exact ⟨true, h, _, by simp only [den]; rfl, rfl⟩
    · exact ⟨true, h, by simp [nilOf, den]⟩
  · obtain ⟨ho, h⟩ := cond_true h
    rcases hn with e | e | e <;> subst e
    · unfold others at ho
      simp only [Bool.or_eq_true] at ho
      rcases ho with (ho | ho) | ho
      · have := Nat.eq_of_beq_eq_true ho; subst this
        exact ⟨false, h, _, _, _, by simp only [den]; rfl, rfl⟩
      · have := Nat.eq_of_beq_eq_true ho; subst this
        obtain ⟨hv, _⟩ := hv
        cases x with
        | slu m j e => exact ⟨false, h, _, _, _, by simp only [den]; rfl, rfl⟩
        | _ => exact hv.2.elim
      · have := Nat.eq_of_beq_eq_true ho; subst this
        exact ⟨false, h, _, _, _, by simp only [den]; rfl, rfl⟩
    · have := Nat.eq_of_beq_eq_true ho; simp only [] at this; subst this
      exact ⟨false, h, _, by simp only [den]; rfl, rfl⟩
    · unfold others at ho
      simp only [Bool.or_eq_true] at ho
      rcases ho with ho | ho
      · have := Nat.eq_of_beq_eq_true ho; subst this
        exact ⟨false, h, by simp [nilOf, den]⟩
      · have := Nat.eq_of_beq_eq_true ho; subst this
        exact ⟨false, h, by simp [nilOf, den]⟩
theorem nilEq_ok {n : Nat} {v1 v2 : V} {c : Bool → Bool} (hn : n = 19 ∨ n = 20 ∨ n = 21) (h1 : ok E nx v1) (h2 : ok E nx v2) (h : nilEq n v1 v2 c = true) : ∃ a b, nilOf n a (den E v1) ∧ nilOf n b (den E v2) ∧ (a = true ∨ b = true) ∧ c (a && b) = true := by
  unfold nilEq at h
  obtain ⟨a, h, ha⟩ := kNil_ok hn h1 h
  obtain ⟨b, h, hb⟩ := kNil_ok hn h2 h
  refine ⟨a, b, ha, hb, ?_⟩
  cases a <;> cases b
  · exact absurd h (bad_false (n := 38))
  · exact ⟨.inr rfl, h⟩
  · exact ⟨.inl rfl, h⟩
  · exact ⟨.inl rfl, h⟩
theorem slEq_ok {t el : TypeId} {v1 v2 : V} {c : Bool → Bool} (hd : P.underlying t = some (.slice el)) (h1 : ok E w.nx v1) (h2 : ok E w.nx v2) (h : nilEq 19 v1 v2 c = true) : Cmp P E w t (den E v1) (den E v2) c := by
  obtain ⟨a, b, ⟨a1, m1, c1, e1, f1⟩, ⟨a2, m2, c2, e2, f2⟩, hab, h⟩ := nilEq_ok (.inl rfl) h1 h2 h
  refine ⟨_, h, fun {_ _ Wd} _ => run_eq_unfold hd Wd fun n => ?_⟩
  rw [e1, e2, ← f1, ← f2]
  rw [← f1, ← f2] at hab
  simp only [Op.equalIn, bind]
  rw [run_then (run_underlying hd Wd)]
  cases a1 <;> cases a2 <;> first | rfl | (simp at hab)
theorem mapEq_ok {t kt el : TypeId} {v1 v2 : V} {c : Bool → Bool} (hd : P.underlying t = some (.map kt el)) (h1 : ok E w.nx v1) (h2 : ok E w.nx v2) (h : nilEq 20 v1 v2 c = true) : Cmp P E w t (den E v1) (den E v2) c := by
  obtain ⟨a, b, ⟨a1, e1, f1⟩, ⟨a2, e2, f2⟩, hab, h⟩ := nilEq_ok (.inr (.inl rfl)) h1 h2 h
  refine ⟨_, h, fun {_ _ Wd} _ => run_eq_unfold hd Wd fun n => ?_⟩
  rw [e1, e2, ← f1, ← f2]
  rw [← f1, ← f2] at hab
  simp only [Op.equalIn, bind]
  rw [run_then (run_underlying hd Wd)]
  cases a1 <;> cases a2 <;> first | rfl | (simp at hab)
theorem fnEq_ok {t : TypeId} {p r : Array TypeId} {z : Bool} {v1 v2 : V} {c : Bool → Bool} (hd : P.underlying t = some (.func p r z)) (h1 : ok E w.nx v1) (h2 : ok E w.nx v2) (h : nilEq 21 v1 v2 c = true) : Cmp P E w t (den E v1) (den E v2) c := by
  obtain ⟨a, b, n1, n2, hab, h⟩ := nilEq_ok (.inr (.inr rfl)) h1 h2 h
  refine ⟨_, h, fun {_ _ Wd} _ => run_eq_unfold hd Wd fun n => ?_⟩
  cases a <;> cases b
  · simp at hab
  · obtain ⟨f, x, y, e1⟩ := n1
    have e2 : den E v2 = .nilFunc := n2
    rw [e1, e2]
    simp only [Op.equalIn, bind]
    rw [run_then (run_underlying hd Wd)]
    rfl
  · have e1 : den E v1 = .nilFunc := n1
    obtain ⟨f, x, y, e2⟩ := n2
    rw [e1, e2]
    simp only [Op.equalIn, bind]
    rw [run_then (run_underlying hd Wd)]
    rfl
  · have e1 : den E v1 = .nilFunc := n1
    have e2 : den E v2 = .nilFunc := n2
    rw [e1, e2]
    simp only [Op.equalIn, bind]
    rw [run_then (run_underlying hd Wd)]
    rfl
end Go.Proofs.YtcajgbpcimimhaaGreatDoor.Vm
namespace Go.Proofs.YtcajgbpcimimhaaGreatDoor.Vm
open Go Go.RowKit
variable {P : Program} {E : En} {w : W} {K : Nat → Prop} {W0 Wd : World} {rec : Rec} {e : Env} {k : Ex → Env → W → Bool} {fin : Fv} {nx : Nat}

theorem vbK_ok {v : V} {f : Nat → List Bool → Bool} (hv : ok E nx v) (h : vbK v f = true) : ∃ j l, E.ix j < l.length ∧ f j l = true ∧ den E v = .bool (l.getD (E.ix j) false) := by
  obtain ⟨t, x, l, d, c, b, a⟩ := v
  unfold vbK at h
  cases x with
  | vb j r =>
    obtain ⟨ht, h⟩ := isN_true (by rfl) h
    cases ht
    exact ⟨j, r, hv.1, h, by simp [den]⟩
  | _ => exact absurd h (bad_false (n := 73))
theorem slowInt_int {op : BinOp} {v1 v2 : V} {c : V → Bool} (h1 : ok E nx v1) (h2 : ok E nx v2) (h : slowInt op v1 v2 c = true) : ∃ k a k' b, den E v1 = .int k a ∧ den E v2 = .int k' b := by
  unfold slowInt at h
  rcases vInt_ok (E := E) h with ⟨k1, a, hk1, h, e1⟩ | ⟨ht1, h⟩
  · rcases vInt_ok (E := E) h with ⟨k2, b, hk2, h, e2⟩ | ⟨ht2, h⟩
    · exact ⟨_, _, _, _, e1, e2⟩
    · rcases vecK_ok h2 h with ⟨k2, j, r, hk2, hj, h, e2⟩ | h
      · exact ⟨_, _, _, _, e1, e2⟩
      · exact absurd h (bad_false (n := 9))
  · rcases vecK_ok h1 h with ⟨k1, j, l, hk1, hj, h, e1⟩ | h
    · rcases vInt_ok (E := E) h with ⟨k2, b, hk2, h, e2⟩ | ⟨ht2, h⟩
      · exact ⟨_, _, _, _, e1, e2⟩
      · rcases vecK_ok h2 h with ⟨k2, j', r, hk2, hj', h, e2⟩ | h
        · exact ⟨_, _, _, _, e1, e2⟩
        · exact absurd h (bad_false (n := 12))
    · obtain ⟨hs, h⟩ := cond_true h
      rw [Bool.and_eq_true, Bool.and_eq_true] at hs
      have t1 := Nat.eq_of_beq_eq_true hs.1.1
      have t2 := Nat.eq_of_beq_eq_true hs.1.2
      exact ⟨_, _, _, _, (ok_arg h1 t1).2.2.2, ok_int (by omega)⟩
/-- two numbers that are compared -/
theorem slowEq_ok {v1 v2 : V} {c : Bool → Bool} {g : List Bool → Bool} (h1 : ok E nx v1) (h2 : ok E nx v2)
    (h : slowInt .eql v1 v2 (fun v => isN v.t 16 (Nat.casesOn v.a (c false) fun _ => c true) (vbK v fun _ bs => Bool.casesOn (bs.all id) (bad 39) (c true))) = true) :
    ∃ k a b, den E v1 = .int k a ∧ den E v2 = .int k b ∧ c (a == b) = true := by
  obtain ⟨k1, a, k2, b, e1, e2⟩ := slowInt_int h1 h2 h
  obtain ⟨u, hu, ou, hrun⟩ := slowInt_ok (P := default) (t := 0) h1 h2 h
  have hr := hrun default
  rw [e1, e2] at hr
  by_cases hk : k1 = k2
  · subst hk
    have hd : den E u = .bool (a == b) := by
      have : (binOp .eql 0 (.int k1 a) (.int k1 b)).run default default = .ok (.bool (a == b)) default := by simp [binOp, Op.intCmp, pure]
      rw [this] at hr
      exact (Result.ok.inj hr).1.symm
    refine ⟨k1, a, b, e1, e2, ?_⟩
    rcases isN_cases hu with ⟨ht, hu⟩ | ⟨_, hu⟩
    · rw [ok_bool ht] at hd
      injection hd with hd
      rw [← hd]
      cases hq : u.a with
      | zero => rw [hq] at hu; exact hu
      | succ n => rw [hq] at hu; exact hu
    · obtain ⟨j, l, hj, hu, e3⟩ := vbK_ok ou hu
      obtain ⟨ha, hu⟩ := cond_true hu
      rw [e3] at hd
      injection hd with hd
      rw [← hd]
      rw [List.getD_eq_getElem?_getD, List.getElem?_eq_getElem hj]
      have := List.all_eq_true.1 ha _ (List.getElem_mem hj)
      show c (l[E.ix j]) = true
      rw [show l[E.ix j] = true from this]; exact hu
  · simp [binOp, hk, stuck] at hr

/-! ### Structs of numbers -/
theorem drop_cons {l : List V} {i : Nat} {v : V} (h : l[i]? = some v) : l.drop i = v :: l.drop (i + 1) := by
  obtain ⟨h1, h2⟩ := List.getElem?_eq_some_iff.1 h
  rw [List.drop_eq_getElem_cons h1, h2]
theorem sameL_ok {L R : List V} (hL : okL E nx L) (hR : okL E nx R) (d : Nat) : ∀ (fs : List Field) (i : Nat) {c : Bool → Bool}, intFields P fs i = true → i + fs.length = L.length → sameL (L.drop i) (R.drop i) c = true →
    ∃ b, c b = true ∧ ∀ W, (Op.eqFields (d + 1) (denL E L).toArray (denL E R).toArray fs).run P W = .ok b W
  | [], i, c, _, hl, h => by
    have e1 : L.drop i = [] := List.drop_eq_nil_of_le (by simp at hl; omega)
    rw [e1] at h
    cases hR' : R.drop i with
    | nil => rw [hR'] at h; exact ⟨true, h, fun W => rfl⟩
    | cons a l => rw [hR'] at h; exact absurd h (bad_false (n := 41))
  | f :: fs, i, c, hf, hl, h => by
    simp only [List.length_cons] at hl
    unfold intFields at hf
    obtain ⟨hn, hf⟩ := cond_true hf
    obtain ⟨ho, hf⟩ := cond_true hf
    have ho := Nat.eq_of_beq_eq_true ho
    split at hf
    · rename_i kk hu
      have hu := undF_ok hu
      have hlt : i < L.length := by omega
      obtain ⟨a, ha⟩ : ∃ a, L[i]? = some a := ⟨_, List.getElem?_eq_getElem hlt⟩
      rw [drop_cons ha] at h
      cases hb : R[i]? with
      | none =>
        have : R.drop i = [] := List.drop_eq_nil_of_le (by simpa using hb)
        rw [this] at h
        exact absurd h (bad_false (n := 41))
      | some b =>
        rw [drop_cons hb] at h
        unfold sameL at h
        have oa := (okL_iff E nx L).1 hL a (List.mem_of_getElem? ha)
        have ob := (okL_iff E nx R).1 hR b (List.mem_of_getElem? hb)
        obtain ⟨k1, x, y, e1, e2, h⟩ := slowEq_ok (c := fun q => Bool.casesOn (motive := fun _ => Bool) q (c false) (sameL (L.drop (i + 1)) (R.drop (i + 1)) c)) (g := fun _ => true) oa ob h
        have pa : ∀ W, (part f.type (denL E L).toArray f.offset).run P W = .ok (.int k1 x) W := fun W => run_part_one hu rfl (by rw [ho, denL_eq]; simp [ha, e1]) W
        have pb : ∀ W, (part f.type (denL E R).toArray f.offset).run P W = .ok (.int k1 y) W := fun W => run_part_one hu rfl (by rw [ho, denL_eq]; simp [hb, e2]) W
        have hne : f.name ≠ "_" := by simpa using hn
        have step : ∀ W, (Op.eqFields (d + 1) (denL E L).toArray (denL E R).toArray (f :: fs)).run P W = (if (!(x == y)) = true then (pure false : Sem Bool) else Op.eqFields (d + 1) (denL E L).toArray (denL E R).toArray fs).run P W := fun W => by
          rw [Op.eqFields, if_pos hne]
          refine (run_then (pa W)).trans ?_
          refine (run_then (pb W)).trans ?_
          exact run_then (run_equalIn_int W d f.type k1 kk x y hu)
        cases hxy : x == y with
        | false =>
          rw [hxy] at h
          exact ⟨false, h, fun W => by rw [step W, hxy]; rfl⟩
        | true =>
          rw [hxy] at h
          obtain ⟨q, q1, q2⟩ := sameL_ok hL hR d fs (i + 1) hf (by omega) h
          exact ⟨q, q1, fun W => by rw [step W, hxy]; exact q2 W⟩
    · cases hf
theorem intFields_guard (n : Nat) : ∀ {fs : List Field} {i : Nat}, intFields P fs i = true → fs.any (fun f => f.name != "_" && P.eqGuardType (n + 1) f.type) = false
  | [], _, _ => rfl
  | f :: fs, i, h => by
    unfold intFields at h
    obtain ⟨_, h⟩ := cond_true h
    obtain ⟨_, h⟩ := cond_true h
    split at h
    · rename_i kk hu
      have hu := undF_ok hu
      rw [List.any_cons, intFields_guard n h]
      simp [Program.eqGuardType, hu]
    · cases h
theorem structEq_ok {t : TypeId} {fs : Array Field} {v1 v2 : V} {c : Bool → Bool} (hd : P.underlying t = some (.struct fs)) (hst : P.stoodInHeld t = false) (hf : intFields P fs.toList 0 = true) (t1 : v1.t = 31) (t2 : v2.t = 31) (hl : v1.l.length = fs.toList.length) (h1 : ok E w.nx v1) (h2 : ok E w.nx v2)
    (h : sameL v1.l v2.l c = true) : Cmp P E w t (den E v1) (den E v2) c ∧ (∃ a, den E v1 = .agg a) ∧ (∃ a, den E v2 = .agg a) := by
  obtain ⟨o1, _, e1⟩ := ok_agg h1 t1
  obtain ⟨o2, _, e2⟩ := ok_agg h2 t2
  obtain ⟨b, hb, hrun⟩ := sameL_ok (P := P) o1 o2 9998 fs.toList 0 hf (by omega) (by simpa using h)
  refine ⟨⟨b, hb, fun {_ _ Wd} _ => ?_⟩, ⟨_, e1⟩, ⟨_, e2⟩⟩
  have hfo : P.fieldsOf t = fs := by unfold Program.fieldsOf; rw [hd]
  rw [e1, e2]
  show (Op.equalIn (9999 + 1) t _ _).run P Wd = _
  rw [run_equalIn_struct Wd 9999 t _ _ (by rw [hfo]; exact hd) hst, hfo]
  exact hrun Wd

/-! ### The guard ahead of a comparison -/
theorem guard_simple {op : BinOp} {t : TypeId} {d : TypeDesc} {x y : Operand} {a b : Value} (h : P.underlying t = some d) (h1 : ∀ ms, d ≠ .interface ms) (h2 : ∀ fs, d ≠ .struct fs) (h3 : ∀ n e, d ≠ .array n e) (W : World) : (eqGuard op t x y a b).run P W = .ok () W := by
  have hg : P.eqGuardType P.depth t = false := by
    unfold Program.depth
    rw [Program.eqGuardType, h]
    cases d <;> first | rfl | exact absurd rfl (h1 _) | exact absurd rfl (h2 _) | exact absurd rfl (h3 _ _)
  have hi : ∀ p q, (Op.eqGuardIn Op.maxDepth t p q).run P W = .ok false W := fun p q => by
    unfold Op.maxDepth
    rw [Op.eqGuardIn]
    simp only [bind]
    rw [run_then (run_underlying h W)]
    cases d <;> first | rfl | exact absurd rfl (h1 _) | exact absurd rfl (h2 _) | exact absurd rfl (h3 _ _)
  cases op <;> first
    | rfl
    | (cases a <;> cases b <;> first
        | rfl
        | (simp [eqGuard, run_program, hg]; done)
        | (simp [eqGuard, hi]))
end Go.Proofs.YtcajgbpcimimhaaGreatDoor.Vm
namespace Go.Proofs.YtcajgbpcimimhaaGreatDoor.Vm
open Go Go.RowKit
variable {P : Program} {E : En} {w : W} {K : Nat → Prop} {W0 Wd : World} {rec : Rec} {e : Env} {k : Ex → Env → W → Bool} {fin : Fv} {nx : Nat}

def refV : Value → Bool
  | .pointer _ | .slice .. | .map _ | .func .. | .nilFunc | .agg _ | .bool _ => true
  | _ => false
theorem binOp_eql {t : TypeId} {x y : Value} (h : refV x = true) {r : Bool} {W : World} (hr : (Op.equal t x y).run P W = .ok r W) : (binOp .eql t x y).run P W = .ok (.bool r) W := by
  cases x <;> first
    | (cases y <;> exact run_then hr)
    | cases h
theorem binOp_neq {t : TypeId} {x y : Value} (h : refV x = true) {r : Bool} {W : World} (hr : (Op.equal t x y).run P W = .ok r W) : (binOp .neq t x y).run P W = .ok (.bool (!r)) W := by
  cases x <;> first
    | (cases y <;> exact run_then hr)
    | cases h
theorem ptrEq_ref {v1 v2 : V} {c : Bool → Bool} (h1 : ok E nx v1) (h : ptrEq v1 v2 w c = true) : refV (den E v1) = true := by
  unfold ptrEq at h
  rcases isN_cases h with ⟨t1, h⟩ | ⟨_, h⟩
  · rw [(ok_ptr h1 t1).2]; rfl
  · obtain ⟨t1, h⟩ := isN_true (by rfl) h
    rw [ok_ptr18 t1]; rfl
theorem nilOf_ref {n : Nat} {b : Bool} {x : Value} (hn : n = 19 ∨ n = 20 ∨ n = 21) (h : nilOf n b x) : refV x = true := by
  rcases hn with e | e | e <;> subst e
  · obtain ⟨a, m, c, e, _⟩ := h; rw [e]; rfl
  · obtain ⟨a, e, _⟩ := h; rw [e]; rfl
  · cases b
    · obtain ⟨f, a, c, e⟩ := h; rw [e]; rfl
    · have e : x = .nilFunc := h
      rw [e]; rfl
/-- what a comparison comes to, its guard ahead -/
theorem Cmp.red {op : BinOp} {neg : Bool} {t : TypeId} {x y : Operand} {v1 v2 : V} (hop : op = if neg = true then .neq else .eql) (hg : ∀ W, (eqGuard op t x y (den E v1) (den E v2)).run P W = .ok () W) (href : refV (den E v1) = true)
    (h : Cmp P E w t (den E v1) (den E v2) (fun b => Bool.casesOn (motive := fun _ => Bool) (xor neg b) (fin.run rec e w k (.bool 0)) (fin.run rec e w k (.bool 1)))) :
    Red P E w (do eqGuard op t x y (den E v1) (den E v2); binOp op t (den E v1) (den E v2)) (fin.at rec e k w) := by
  obtain ⟨b, hb, hr⟩ := h
  have key : ∀ r : Bool, (if neg = true then !b else b) = r → (Bool.casesOn (motive := fun _ => Bool) r (fin.run rec e w k (.bool 0)) (fin.run rec e w k (.bool 1))) = true → Red P E w (do eqGuard op t x y (den E v1) (den E v2); binOp op t (den E v1) (den E v2)) (fin.at rec e k w) := fun r e1 h => by
    have hrun : ∀ {K W0 Wd}, SR E w K W0 Wd → Sem.run P (do eqGuard op t x y (den E v1) (den E v2); binOp op t (den E v1) (den E v2)) Wd = .ok (.bool r) Wd := fun {K W0 Wd} hs => by
      refine (run_then (hg Wd)).trans ?_
      subst e1
      cases neg with
      | false => subst hop; exact binOp_eql href (hr hs)
      | true => subst hop; exact binOp_neq href (hr hs)
    cases r with
    | false => exact ⟨_, h, okBool 0, fun hs => by rw [hrun hs]; simp [den]⟩
    | true => exact ⟨_, h, okBool 1, fun hs => by rw [hrun hs]; simp [den]⟩
  refine key (xor neg b) ?_ hb
  cases neg <;> cases b <;> rfl
theorem eqC_ok (hst : P.stoodInHeld 65 = false) {op : BinOp} {neg : Bool} {t : TypeId} {xo yo : Operand} {x y : Gk} {val va2 : Value} (hop : op = if neg = true then .neq else .eql) (hx : Is E w.nx e x val) (hy : Is E w.nx e y va2) (hs : SR E w K W0 Wd) (hr : (eqC P neg t x y fin).run rec e w k = true) :
    Red P E w (do eqGuard op t xo yo val va2; binOp op t val va2) (fin.at rec e k w) := by
  unfold eqC at hr
  split at hr
  · rename_i el hd
    obtain ⟨i, hi, _, hr⟩ := withSize_ok hr
    cases hz : i.size with
    | zero => rw [hz] at hr; exact absurd hr (bad_false (n := 42))
    | succ n =>
      rw [hz] at hr
      obtain ⟨v1, hr, h1, rfl⟩ := hx _ hr
      obtain ⟨v2, hr, h2, rfl⟩ := hy _ hr
      exact (ptrEq_ok (undF_ok hd) hi (by omega) h1 h2 hs hr).red hop (guard_simple (undF_ok hd) (fun _ h => by cases h) (fun _ h => by cases h) (fun _ _ h => by cases h)) (ptrEq_ref h1 hr)
  · rename_i el hd
    obtain ⟨v1, hr, h1, rfl⟩ := hx _ hr
    obtain ⟨v2, hr, h2, rfl⟩ := hy _ hr
    obtain ⟨a, b, n1, _⟩ := nilEq_ok (.inl rfl) h1 h2 hr
    exact (slEq_ok (undF_ok hd) h1 h2 hr).red hop (guard_simple (undF_ok hd) (fun _ h => by cases h) (fun _ h => by cases h) (fun _ _ h => by cases h)) (nilOf_ref (.inl rfl) n1)
  · rename_i kt el hd
    obtain ⟨v1, hr, h1, rfl⟩ := hx _ hr
    obtain ⟨v2, hr, h2, rfl⟩ := hy _ hr
    obtain ⟨a, b, n1, _⟩ := nilEq_ok (.inr (.inl rfl)) h1 h2 hr
    exact (mapEq_ok (undF_ok hd) h1 h2 hr).red hop (guard_simple (undF_ok hd) (fun _ h => by cases h) (fun _ h => by cases h) (fun _ _ h => by cases h)) (nilOf_ref (.inr (.inl rfl)) n1)
  · rename_i p r z hd
    obtain ⟨v1, hr, h1, rfl⟩ := hx _ hr
    obtain ⟨v2, hr, h2, rfl⟩ := hy _ hr
    obtain ⟨a, b, n1, _⟩ := nilEq_ok (.inr (.inr rfl)) h1 h2 hr
    exact (fnEq_ok (undF_ok hd) h1 h2 hr).red hop (guard_simple (undF_ok hd) (fun _ h => by cases h) (fun _ h => by cases h) (fun _ _ h => by cases h)) (nilOf_ref (.inr (.inr rfl)) n1)
  · rename_i fs hd
    obtain ⟨ht, hr⟩ : Nat.beq t 65 = true ∧ (Bool.casesOn (motive := fun _ => Tc) (intFields P fs.toList 0) (.bad 45) ⟨fun rec e w k => x.run e fun v1 => y.run e fun v2 => isN v1.t 31 (isN v2.t 31 (isN v1.l.length fs.toList.length (sameL v1.l v2.l (fun b => Bool.casesOn (motive := fun _ => Bool) (xor neg b) (fin.run rec e w k (.bool 0)) (fin.run rec e w k (.bool 1)))) (bad 43)) (bad 43)) (bad 44)⟩).run rec e w k = true := by
      cases hb : Nat.beq t 65 with
      | false => rw [hb] at hr; exact absurd hr (bad_false (n := 45))
      | true => rw [hb] at hr; exact ⟨rfl, hr⟩
    have ht := Nat.eq_of_beq_eq_true ht
    subst ht
    cases hf : intFields P fs.toList 0 with
    | false => rw [hf] at hr; exact absurd hr (bad_false (n := 45))
    | true =>
      rw [hf] at hr
      obtain ⟨v1, hr, h1, rfl⟩ := hx _ hr
      obtain ⟨v2, hr, h2, rfl⟩ := hy _ hr
      obtain ⟨t1, hr⟩ := isN_true (by rfl) hr
      obtain ⟨t2, hr⟩ := isN_true (by rfl) hr
      obtain ⟨hl, hr⟩ := isN_true (by rfl) hr
      obtain ⟨hcmp, ⟨a1, e1⟩, ⟨a2, e2⟩⟩ := structEq_ok (undF_ok hd) hst hf t1 t2 hl h1 h2 hr
      refine hcmp.red hop (fun W => ?_) (by rw [e1]; rfl)
      rw [e1, e2]
      refine run_eqGuard_agg W op 65 xo yo a1 a2 ?_
      unfold Program.depth
      rw [Program.eqGuardType, undF_ok hd]
      show fs.any _ = false
      rw [← Array.any_toList]
      exact intFields_guard _ hf
  · exact absurd hr (bad_false (n := 46))
theorem boolB_ok {op : BinOp} {t : TypeId} {v1 v2 : V} {c : V → Bool} (hu : P.underlying t = some .bool) (h : boolB op v1 v2 c = true) : Comes P E nx op t (den E v1) (den E v2) c := by
  unfold boolB at h
  obtain ⟨t1, h⟩ := isN_true (by rfl) h
  obtain ⟨t2, h⟩ := isN_true (by rfl) h
  rw [ok_bool t1, ok_bool t2]
  have heq : ∀ W, (Op.equal t (.bool (v1.a != 0)) (.bool (v2.a != 0))).run P W = .ok ((v1.a != 0) == (v2.a != 0)) W := fun W => run_equalIn_bool' W 9999 t _ _ hu
  have hb : ∀ a : Nat, (a != 0) = !(Nat.sub 1 a != 0) := fun a => by
    cases a with
    | zero => rfl
    | succ n =>
      have : Nat.sub 1 (n + 1) = 0 := by show 1 - (n + 1) = 0; omega
      rw [this]; rfl
  have h01 : ∀ a : Nat, Nat.sub 1 a = 0 ∨ Nat.sub 1 a = 1 := fun a => by show 1 - a = 0 ∨ 1 - a = 1; omega
  split at h
  · rw [fN_eq] at h
    refine ⟨_, h, okBool _, fun W => ?_⟩
    rw [binOp_eql rfl (heq W), hb v1.a, hb v2.a]
    simp only [den]
    rcases h01 v1.a with e1 | e1 <;> rcases h01 v2.a with e2 | e2 <;> rw [e1, e2] <;> rfl
  · rw [fN_eq] at h
    refine ⟨_, h, okBool _, fun W => ?_⟩
    rw [binOp_neq rfl (heq W), hb v1.a, hb v2.a]
    simp only [den]
    rcases h01 v1.a with e1 | e1 <;> rcases h01 v2.a with e2 | e2 <;> rw [e1, e2] <;> rfl
  · exact absurd h (bad_false (n := 17))
theorem binC_ok (hst : P.stoodInHeld 65 = false) {op : BinOp} {t : TypeId} {xo yo : Operand} {x y : Gk} {val va2 : Value} (hx : Is E w.nx e x val) (hy : Is E w.nx e y va2) (hs : SR E w K W0 Wd) (hr : (binC P op t x y fin).run rec e w k = true) :
    Red P E w (do eqGuard op t xo yo val va2; binOp op t val va2) (fin.at rec e k w) := by
  have pre : ∀ {d : TypeDesc}, P.underlying t = some d → (∀ ms, d ≠ .interface ms) → (∀ fs, d ≠ .struct fs) → (∀ n e, d ≠ .array n e) → Pur P E w.nx (binOp op t val va2) (fin.at rec e k w) → Red P E w (do eqGuard op t xo yo val va2; binOp op t val va2) (fin.at rec e k w) := fun {d} h1 h2 h3 h4 h => by
    obtain ⟨v, q1, q2, q3⟩ := h
    exact ⟨v, q1, q2, fun {_ _ Wd} _ => (run_then (guard_simple h1 h2 h3 h4 Wd)).trans (q3 Wd)⟩
  unfold binC at hr
  split at hr
  · rename_i kk hd
    refine pre (undF_ok hd) (fun _ h => by cases h) (fun _ h => by cases h) (fun _ _ h => by cases h) ?_
    exact binI_ok (cd_lt kk) hx hy hr
  · rename_i hd
    refine pre (undF_ok hd) (fun _ h => by cases h) (fun _ h => by cases h) (fun _ _ h => by cases h) ?_
    obtain ⟨v1, hr, h1, rfl⟩ := hx _ hr
    obtain ⟨v2, hr, h2, rfl⟩ := hy _ hr
    exact strB_ok hr
  · rename_i hd
    refine pre (undF_ok hd) (fun _ h => by cases h) (fun _ h => by cases h) (fun _ _ h => by cases h) ?_
    obtain ⟨v1, hr, h1, rfl⟩ := hx _ hr
    obtain ⟨v2, hr, h2, rfl⟩ := hy _ hr
    exact boolB_ok (undF_ok hd) hr
  · split at hr
    · exact eqC_ok hst (neg := false) rfl hx hy hs hr
    · exact eqC_ok hst (neg := true) rfl hx hy hs hr
    · exact absurd hr (bad_false (n := 47))
theorem unC_ok {op : UnOp} {x : Gk} {val : Value} (hx : Is E nx e x val) (hr : (unC op x fin).run rec e w k = true) : Pur P E nx (Op.unary op val) (fin.at rec e k w) := by
  unfold unC at hr
  split at hr
  · obtain ⟨v, hr, hv, rfl⟩ := hx _ hr
    rcases isN_cases hr with ⟨ht, hr⟩ | ⟨_, hr⟩
    · rw [fN_eq] at hr
      refine ⟨_, hr, okBool _, fun W => ?_⟩
      rw [ok_bool ht]
      simp only [den]
      cases v.a with
      | zero => rfl
      | succ n =>
        have : Nat.sub 1 (n + 1) = 0 := by show 1 - (n + 1) = 0; omega
        rw [this]; rfl
    · obtain ⟨j, l, hj, hr, e1⟩ := vbK_ok hv hr
      refine ⟨_, hr, ⟨by show E.ix j < (l.map not).length; simpa using hj, trivial⟩, fun W => ?_⟩
      rw [e1]
      simp only [vbV, den]
      rw [List.getD_eq_getElem?_getD, List.getD_eq_getElem?_getD, List.getElem?_map, List.getElem?_eq_getElem hj]
      rfl
  · obtain ⟨v, hr, hv, rfl⟩ := hx _ hr
    rcases vInt_ok (E := E) hr with ⟨k1, a, hk1, hr, e1⟩ | ⟨_, hr⟩
    · obtain ⟨u, h1, h2, h3⟩ := ofI_ok (E := E) (nx := nx) hk1 hr
      exact ⟨u, h1, h2, fun W => by rw [e1, h3]; rfl⟩
    · exact absurd hr (bad_false (n := 49))
  · obtain ⟨v, hr, hv, rfl⟩ := hx _ hr
    rcases vInt_ok (E := E) hr with ⟨k1, a, hk1, hr, e1⟩ | ⟨_, hr⟩
    · obtain ⟨u, h1, h2, h3⟩ := ofI_ok (E := E) (nx := nx) hk1 hr
      exact ⟨u, h1, h2, fun W => by rw [e1, h3]; rfl⟩
    · exact absurd hr (bad_false (n := 50))
  · exact absurd hr (bad_false (n := 51))

/-! ### Truths that hang on inputs -/
theorem forceB_eq : ∀ (l : List Bool) (f : List Bool → Bool), forceB l f = f l
  | [], f => rfl
  | b :: l, f => by cases b <;> (unfold forceB; exact forceB_eq l _)
theorem andB_at : ∀ {l r : List Bool} {i : Nat} {a b : Bool}, l[i]? = some a → r[i]? = some b → (andB l r)[i]? = some (a && b)
  | [], _, _, _, _, h, _ => by simp at h
  | _ :: _, [], _, _, _, _, h => by simp at h
  | x :: l, y :: r, i, a, b, h1, h2 => by
    unfold andB
    cases i with
    | zero => simp at h1 h2; subst h1; subst h2; rfl
    | succ i => simpa using andB_at (l := l) (r := r) (i := i) (by simpa using h1) (by simpa using h2)
theorem setM_ok : ∀ {ms : List (List Bool)} {j : Nat} {l : List Bool} {f : List (List Bool) → Bool}, setM ms j l f = true → f (ms.set j l) = true ∧ j < ms.length
  | [], _, _, _, h => absurd h (bad_false (n := 178))
  | _ :: r, 0, l, f, h => ⟨h, by simp⟩
  | a :: r, j + 1, l, f, h => by
    obtain ⟨h1, h2⟩ := setM_ok (ms := r) (j := j) h
    exact ⟨h1, by simp; omega⟩
theorem Ms.set (h : Ms E w) {j : Nat} {l : List Bool} (hl : l[E.ix j]? = some true) (hs : Hp) (nx : Nat) (ds : List Dd) (r : Option Nat) : Ms E ⟨hs, nx, w.ms.set j l, ds, r⟩ := fun i m hm => by
  have hm : (w.ms.set j l)[i]? = some m := hm
  rw [List.getElem?_set] at hm
  split at hm
  · rename_i e
    split at hm
    · cases hm; rw [← e]; exact hl
    · cases hm
  · exact h i m hm
theorem fork_ok {j : Nat} {bs : List Bool} {f : Bool → W → Bool} (hj : E.ix j < bs.length) (hm : Ms E w) (h : fork j bs w f = true) : ∃ w', Qt E E w w' ∧ f (bs.getD (E.ix j) false) w' = true := by
  obtain ⟨hh, nx, ms, ds, r⟩ := w
  have h : (Bool.casesOn (motive := fun _ => Bool) (Nat.beq (mask j ms).length bs.length) (bad 179) (forceB (andB (mask j ms) bs) fun t => forceB (andB (mask j ms) (bs.map not)) fun fl =>
      Bool.casesOn (motive := fun _ => Bool) (t.any id) (f false ⟨hh, nx, ms, ds, r⟩) (Bool.casesOn (motive := fun _ => Bool) (fl.any id) (f true ⟨hh, nx, ms, ds, r⟩) (Bool.casesOn (motive := fun _ => Bool) (setM ms j t fun ms => f true ⟨hh, nx, ms, ds, r⟩) false (setM ms j fl fun ms => f false ⟨hh, nx, ms, ds, r⟩))))) = true := h
  obtain ⟨hl, h⟩ := cond_true h
  have hl := Nat.eq_of_beq_eq_true hl
  rw [forceB_eq, forceB_eq] at h
  obtain ⟨m, hmj⟩ : ∃ m, ms[j]? = some m := by
    cases hq : ms[j]? with
    | some m => exact ⟨m, rfl⟩
    | none =>
      unfold mask at hl
      rw [hq] at hl
      simp at hl
      omega
  have hmm : mask j ms = m := by unfold mask; rw [hmj]; rfl
  have hmi := hm j m hmj
  rw [hmm] at h
  have hb : bs[E.ix j]? = some (bs.getD (E.ix j) false) := by rw [List.getD_eq_getElem?_getD, List.getElem?_eq_getElem hj]; rfl
  generalize bs.getD (E.ix j) false = b at hb ⊢
  have ht := andB_at hmi hb
  have hf : (andB m (bs.map not))[E.ix j]? = some (true && !b) := andB_at hmi (by rw [List.getElem?_map, hb]; rfl)
  have same : f b ⟨hh, nx, ms, ds, r⟩ = true → ∃ w', Qt E E ⟨hh, nx, ms, ds, r⟩ w' ∧ f b w' = true := fun h => ⟨_, Qt.refl hm, h⟩
  cases hta : (andB m bs).any id with
  | false =>
    rw [hta] at h
    have : b = false := by
      have := List.any_eq_false.1 hta _ (List.mem_of_getElem? ht)
      simpa using this
    subst this
    exact same h
  | true =>
    rw [hta] at h
    simp only [] at h
    cases hfa : (andB m (bs.map not)).any id with
    | false =>
      rw [hfa] at h
      have : b = true := by
        have := List.any_eq_false.1 hfa _ (List.mem_of_getElem? hf)
        simpa using this
      subst this
      exact same h
    | true =>
      rw [hfa] at h
      obtain ⟨h1, h2⟩ := cond_true h
      cases b with
      | true =>
        obtain ⟨h1, _⟩ := setM_ok h1
        exact ⟨⟨hh, nx, ms.set j (andB m bs), ds, r⟩, ⟨Ext.refl _ _, .inl rfl, rfl, rfl, rfl, hm.set ht hh nx ds r⟩, h1⟩
      | false =>
        obtain ⟨h2, _⟩ := setM_ok h2
        exact ⟨⟨hh, nx, ms.set j (andB m (bs.map not)), ds, r⟩, ⟨Ext.refl _ _, .inl rfl, rfl, rfl, rfl, hm.set hf hh nx ds r⟩, h2⟩
theorem test_ok {v : V} {f : Bool → W → Bool} (hv : ok E w.nx v) (hm : Ms E w) (h : test v w f = true) : ∃ b w', Qt E E w w' ∧ f b w' = true ∧ den E v = .bool b := by
  unfold test at h
  rcases isN_cases h with ⟨ht, h⟩ | ⟨_, h⟩
  · rw [ok_bool ht]
    cases ha : v.a with
    | zero => rw [ha] at h; exact ⟨false, w, Qt.refl hm, h, rfl⟩
    | succ n => rw [ha] at h; exact ⟨true, w, Qt.refl hm, h, rfl⟩
  · obtain ⟨j, l, hj, h, e1⟩ := vbK_ok hv h
    obtain ⟨w', q, h⟩ := fork_ok hj hm h
    exact ⟨_, w', q, h, e1⟩
theorem pickC_ok {c a b : Gk} {vc va vb : Value} (hc : Is E w.nx e c vc) (ha : Is E w.nx e a va) (hb : Is E w.nx e b vb) (hr : (pickC c a b fin).run rec e w k = true) : Qui P E w (do pure (if ← asBool vc then va else vb)) (fin.of rec e k) := fun hm => by
  obtain ⟨v, hr, hv, rfl⟩ := hc _ hr
  obtain ⟨t, w', q, hr, e1⟩ := test_ok hv hm hr
  rw [e1]
  cases t with
  | true =>
    obtain ⟨u, hr, hu, rfl⟩ := ha _ hr
    exact ⟨E, w', u, q, hr, (ext_ok q.ext u hu).1, fun W => rfl⟩
  | false =>
    obtain ⟨u, hr, hu, rfl⟩ := hb _ hr
    exact ⟨E, w', u, q, hr, (ext_ok q.ext u hu).1, fun W => rfl⟩
end Go.Proofs.YtcajgbpcimimhaaGreatDoor.Vm
namespace Go.Proofs.YtcajgbpcimimhaaGreatDoor.Vm
open Go Go.RowKit
variable {P : Program} {E : En} {w : W} {K : Nat → Prop} {W0 Wd : World} {rec : Rec} {e : Env} {k : Ex → Env → W → Bool} {fin : Fv} {nx : Nat} {c : Cx} {g : Sg} {a : Act}

/-! ### Operands -/
def Glob (E : En) (nx : Nat) : Prop := 3 ≤ nx ∧ ∀ k, k < 3 → E.φ k = k
theorem SR.gl (h : SR E w K W0 Wd) : Glob E w.nx := h.glob
theorem Glob.ext {E' : En} {nx' : Nat} (h : Glob E nx) (x : Ext E nx E' nx') : Glob E' nx' := ⟨Nat.le_trans h.1 x.le, fun k hk => (x.φ k (Nat.lt_of_lt_of_le hk h.1)).trans (h.2 k hk)⟩
theorem is_x (h : GR E nx c g e a.tmps) (hg : Glob E nx) (x : Operand) : Is E nx e (gkX c g x) (a.eval x) := fun k hk => by
  unfold gkX at hk
  cases hs : srcOf c g x with
  | none => rw [hs] at hk; exact absurd hk (bad_false (n := 3))
  | some s =>
    rw [hs] at hk
    obtain ⟨_, u, hu, o, d⟩ := srcOf_ok h hg hs
    obtain ⟨v, h1, h2⟩ := srcK_ok (s := s) hk
    rw [hu] at h1
    cases h1
    exact ⟨u, h2, o, d⟩
theorem is_l (h : GR E nx c g e a.tmps) (hg : Glob E nx) : ∀ (l : List Operand), IsL E nx e (srcL (gkL c g l)) (l.map a.eval)
  | [], k, hk => ⟨[], hk, trivial, by simp [denL]⟩
  | x :: l, k, hk => by
    have hk : (srcO (srcOf c g x)).run e (fun v => (srcL (gkL c g l)).run e fun r => k (v :: r)) = true := hk
    obtain ⟨v, hk, hv, e1⟩ := is_x h hg x _ hk
    obtain ⟨r, hk, hr, e2⟩ := is_l h hg l _ hk
    exact ⟨v :: r, hk, ⟨hv, hr⟩, by simp [denL, e1, e2]⟩
theorem is_p (h : GR E nx c g e a.tmps) (hg : Glob E nx) : ∀ (l : List (Nat × Operand)), IsP E nx e (gkP c g l) (l.map fun p => (p.1, a.eval p.2))
  | [] => trivial
  | (i, x) :: l => ⟨⟨rfl, is_x h hg x⟩, is_p h hg l⟩
theorem is_o (h : GR E nx c g e a.tmps) (hg : Glob E nx) (x : Option Operand) : IsO E nx e (gkO c g x) (x.map a.eval) := by
  cases x with
  | none => exact gko_none
  | some x => exact gko_some (is_x h hg x)

/-! ### What an operation comes to -/
def QuiN (P : Program) (E : En) (w : W) (s : Sem Next) (c : V → W → Bool) : Prop := Ms E w → ∃ E' w' v, Qt E E' w w' ∧ c v w' = true ∧ ok E' w'.nx v ∧ ∀ W, s.run P W = .ok (.value (den E' v)) W
def RedN (P : Program) (E : En) (w : W) (s : Sem Next) (c : V → Bool) : Prop := ∃ v, c v = true ∧ ok E w.nx v ∧ ∀ {K W0 Wd}, SR E w K W0 Wd → s.run P Wd = .ok (.value (den E v)) Wd
structure MakesN (P : Program) (E : En) (w : W) (s : Sem Next) (o : Ob) (v : V) (x : Obj) (g : Nat → Value) : Prop where
  lt : w.nx < 32768
  wr : o.wr
  run : ∀ W, s.run P W = .ok (.value (g W.heap.size)) (W.alloc x)
  is : ∀ E', Ext E w.nx E' (w.nx + 1) → ok E' (w.nx + 1) v ∧ den E' v = g (E'.φ w.nx) ∧ ObR E' (w.nx + 1) o (some x)
def MakN (P : Program) (E : En) (w : W) (s : Sem Next) (c : V → W → Bool) : Prop := ∃ o v x g, MakesN P E w s o v x g ∧ c v ⟨w.h.put w.nx o, w.nx + 1, w.ms, w.ds, w.r⟩ = true
def EffN (P : Program) (E : En) (w : W) (K : Nat → Prop) (W0 Wd : World) (s : Sem Next) (c : V → W → Bool) : Prop :=
  ∃ E' w' v W', Ext E w.nx E' w'.nx ∧ SR E' w' K W0 W' ∧ ok E' w'.nx v ∧ w'.ds = w.ds ∧ w'.r = w.r ∧ c v w' = true ∧ (s.run P Wd = .ok (.value (den E' v)) W' ∨ (den E' v = undef ∧ s.run P Wd = .ok .skip W'))
theorem run_val {s : Sem Value} {v : Value} {W W' : World} (h : s.run P W = .ok v W') : (do pure (Next.value (← s)) : Sem Next).run P W = .ok (.value v) W' := run_then h
theorem run_unit {s : Sem Unit} {W W' : World} (h : s.run P W = .ok () W') : (do s; pure Next.skip : Sem Next).run P W = .ok .skip W' := run_then h
theorem Qui.n {s : Sem Value} {c : V → W → Bool} (h : Qui P E w s c) : QuiN P E w (do pure (Next.value (← s))) c := fun hm => by
  obtain ⟨E', w', v, q, h1, h2, h3⟩ := h hm
  exact ⟨E', w', v, q, h1, h2, fun W => run_val (h3 W)⟩
theorem Pur.n {s : Sem Value} {c : V → W → Bool} (h : Pur P E w.nx s fun v => c v w) : QuiN P E w (do pure (Next.value (← s))) c := h.qui.n
theorem Red.n {s : Sem Value} {c : V → Bool} (h : Red P E w s c) : RedN P E w (do pure (Next.value (← s))) c := by
  obtain ⟨v, h1, h2, h3⟩ := h
  exact ⟨v, h1, h2, fun hs => run_val (h3 hs)⟩
theorem Mak.n {s : Sem Value} {c : V → W → Bool} (h : Mak P E w s c) : MakN P E w (do pure (Next.value (← s))) c := by
  obtain ⟨o, v, x, g, h1, h2⟩ := h
  exact ⟨o, v, x, g, ⟨h1.lt, h1.wr, fun W => run_val (h1.run W), h1.is⟩, h2⟩
theorem Eff.n {s : Sem Value} {c : V → W → Bool} (h : Eff P E w K W0 Wd s c) : EffN P E w K W0 Wd (do pure (Next.value (← s))) c := by
  obtain ⟨E', w', v, W', h1, h2, h3, h4, h5, h6, h7⟩ := h
  exact ⟨E', w', v, W', h1, h2, h3, h4, h5, h6, .inl (run_val h7)⟩
theorem Act0.n {s : Sem Unit} {c : V → W → Bool} (h : Act0 P E w K W0 Wd s (c .undef)) : EffN P E w K W0 Wd (do s; pure Next.skip) c := by
  obtain ⟨w', W', h1, h2, h3, h4, h5, h6⟩ := h
  exact ⟨E, w', .undef, W', h1 ▸ Ext.refl _ _, h2, okUndef E _, h3, h4, h5, .inr ⟨denUndef E, run_unit h6⟩⟩
theorem QuiN.eff {s : Sem Next} {c : V → W → Bool} (h : QuiN P E w s c) (hs : SR E w K W0 Wd) : EffN P E w K W0 Wd s c := by
  obtain ⟨E', w', v, q, h1, h2, h3⟩ := h hs.ms
  exact ⟨E', w', v, Wd, q.ext, hs.quiet q, h2, q.ds, q.r, h1, .inl (h3 Wd)⟩
theorem RedN.eff {s : Sem Next} {c : V → W → Bool} (h : RedN P E w s fun v => c v w) (hs : SR E w K W0 Wd) : EffN P E w K W0 Wd s c := by
  obtain ⟨v, h1, h2, h3⟩ := h
  exact ⟨E, w, v, Wd, Ext.refl _ _, hs, h2, rfl, rfl, h1, .inl (h3 hs)⟩
theorem MakN.eff {s : Sem Next} {c : V → W → Bool} (h : MakN P E w s c) (hs : SR E w K W0 Wd) : EffN P E w K W0 Wd s c := by
  obtain ⟨o, v, x, g, hm, h1⟩ := h
  have hx := E.at_ext w.nx Wd.heap.size
  obtain ⟨h2, h3, h4⟩ := hm.is _ hx
  refine ⟨_, _, v, _, hx, hs.alloc hm.lt h4 hm.wr _ _, h2, rfl, rfl, h1, .inl ?_⟩
  rw [h3, En.at_self]; exact hm.run Wd
theorem run_nilCheck {ρ : Operand → Value} {o : Oper} {x : Operand} (ho : o.op = .nilCheck x) (h : thereV (ρ x) = true) (W : World) : (execOp ρ o).run P W = .ok (.value (ρ x)) W := by
  simp only [execOp, ho]
  revert h
  generalize ρ x = y
  cases y with
  | pointer a => cases a <;> first | (intro h; cases h; done) | (intro _; rfl)
  | func f p q => cases f <;> first | (intro h; cases h; done) | (intro _; rfl)
  | _ => first | (intro h; cases h; done) | (intro _; rfl)
/-- a conversion that reads no memory -/
theorem convC_pur {src dst : Nat} {xo : Operand} {x : Gk} {val : Value} (hk : kConv src dst xo P = 0) (hx : Is E w.nx e x val) (hr : (convC P src dst x fin).run rec e w k = true) : Pur P E w.nx (convert src dst val) (fin.at rec e k w) := by
  unfold convC at hr
  split at hr
  · rename_i k0 kk hs hd
    obtain ⟨v, hr, hv, rfl⟩ := hx _ hr
    have hc := cd_lt kk
    have hrun := fun (j : IntKind) (n : Int) W => run_convert_int (P := P) (j := j) (n := n) (undF_ok hs) (undF_ok hd) W
    have slow : (vInt v (fun _ i => ofI (cd kk) ((kd (cd kk)).wrap i) (fun u => fin.run rec e w k u)) (fun _ => vecK v (fun _ j l => wrapL (cd kk) l fun l => vecN (cd kk) j l (fun u => fin.run rec e w k u)) fun _ => bad 54)) = true → Pur P E w.nx (convert src dst (den E v)) (fin.at rec e k w) := fun hr => by
      rcases vInt_ok (E := E) hr with ⟨k1, a, hk1, hr, e1⟩ | ⟨_, hr⟩
      · obtain ⟨u, h1, h2, h3⟩ := ofI_ok (E := E) (nx := w.nx) hc hr
        refine ⟨u, h1, h2, fun Wd => ?_⟩
        rw [e1, hrun, h3, kd_cd]
      · rcases vecK_ok hv hr with ⟨k1, j, l, hk1, hj, hr, e1⟩ | hr
        · have hr := wrapL_ok hr
          obtain ⟨u, h1, h2, h3⟩ := vecN_ok (E := E) (nx := w.nx) hc (by simpa using hj) hr
          refine ⟨u, h1, h2, fun Wd => ?_⟩
          rw [e1, hrun, h3, kd_cd]
          congr 2
          rw [List.getD_eq_getElem?_getD, List.getD_eq_getElem?_getD, List.getElem?_map, List.getElem?_eq_getElem hj]
          rfl
        · exact absurd hr (bad_false (n := 54))
    have hr : (Bool.casesOn (motive := fun _ => Bool) (Bool.casesOn (motive := fun _ => Bool) (Nat.blt v.t 8) false (Nat.blt v.a (bnd (cd kk))))
      (vInt v (fun _ i => ofI (cd kk) ((kd (cd kk)).wrap i) (fun u => fin.run rec e w k u)) (fun _ => vecK v (fun _ j l => wrapL (cd kk) l fun l => vecN (cd kk) j l (fun u => fin.run rec e w k u)) fun _ => bad 54))
      (fN v.a fun n => fin.run rec e w k (.nat (cd kk) n))) = true := hr
    cases h1 : Nat.blt v.t 8 with
    | false => rw [h1] at hr; exact slow hr
    | true =>
      rw [h1] at hr
      cases h2 : Nat.blt v.a (bnd (cd kk)) with
      | false => rw [h2] at hr; exact slow hr
      | true =>
        rw [h2] at hr
        simp only [fN_eq] at hr
        refine ⟨_, hr, ok_nat E w.nx kk v.a, fun Wd => ?_⟩
        rw [ok_int (blt_true h1), hrun, den_nat]
        congr 2
        have := wrap_nat hc (blt_true h2)
        rw [kd_cd] at this
        exact this
  · rename_i hs hd
    obtain ⟨v, hr, hv, rfl⟩ := hx _ hr
    obtain ⟨s, hr, e1, _⟩ := strK_ok (E := E) (nx := w.nx) hr
    refine ⟨v, hr, hv, fun Wd => ?_⟩
    rw [e1]
    simp only [convert, bind]
    rw [run_then (run_underlying (undF_ok hs) Wd), run_then (run_underlying (undF_ok hd) Wd)]
    rfl
  · rename_i e1 hs hd
    unfold kConv at hk
    rw [hs] at hk
    cases hk
  · exact absurd hr (bad_false (n := 58))
/-- a length that reads no memory -/
theorem lenC_pur {t ty : Nat} {ts : List Nat} {x : Gk} {val : Value} (hk : ∀ kt el, undF P t ≠ some (.map kt el)) (hx : Is E w.nx e x val) (hr : (lenC P t x fin).run rec e w k = true) : Pur P E w.nx (Builtin.len_ (t :: ts).toArray ty #[val]) (fin.at rec e k w) := by
  unfold lenC at hr
  split at hr
  · rename_i hd
    obtain ⟨v, hr, hv, rfl⟩ := hx _ hr
    obtain ⟨ht, hr⟩ := isN_true (by rfl) hr
    obtain ⟨h1, h2, _⟩ := lenK_ok hv hr
    refine ⟨_, h1, okN _, fun Wd => ?_⟩
    have e1 : ∃ s, den E v = .string s := by
      obtain ⟨t, x, l, d, c, b, a⟩ := v
      cases ht
      cases x with
      | str s => exact ⟨s, by simp [den]⟩
      | _ => exact hv.1.elim
    obtain ⟨s, e1⟩ := e1
    rcases h2.is with ⟨a, c, e2⟩ | ⟨s', e2, e3⟩
    · rw [e1] at e2; cases e2
    · rw [e2, ← e3, denN]
      simp [Builtin.len_, run_underlying (undF_ok hd)]
  · rename_i el hd
    obtain ⟨v, hr, hv, rfl⟩ := hx _ hr
    obtain ⟨hb, hr⟩ := condF hr
    obtain ⟨h1, _, h3⟩ := lenK_ok hv hr
    refine ⟨_, h1, okN _, fun Wd => ?_⟩
    obtain ⟨a, c, e2⟩ := h3 (fun ht => by rw [ht] at hb; cases hb)
    rw [e2, denN]
    simp [Builtin.len_, run_underlying (undF_ok hd)]
  · rename_i n el hd
    refine ⟨.nat 3 n, hr, okN _, fun Wd => ?_⟩
    rw [denN]
    simp [Builtin.len_, run_underlying (undF_ok hd)]
  · rename_i kt el hd
    exact absurd hd (hk kt el)
  · rename_i a hd
    split at hr
    · rename_i n el hd2
      refine ⟨.nat 3 n, hr, okN _, fun Wd => ?_⟩
      rw [denN]
      simp [Builtin.len_, run_underlying (undF_ok hd), run_underlying (undF_ok hd2)]
    · exact absurd hr (bad_false (n := 117))
  · exact absurd hr (bad_false (n := 118))
/-- a call of a builtin -/
theorem exec_builtin {ρ : Operand → Value} {o : Oper} {cl : Call} {b : Builtin} (ho : o.op = .call cl) (hb : cl.callee = .builtin b) (W : World) :
    (execOp ρ o).run P W = (builtin b cl.argTypes o.type (cl.args.map fun | .const _ => true | _ => false) (cl.args.map ρ)).run P W := by
  simp only [execOp, ho, resolve, hb, bind, pure, Sem.bind, invoke]
  rfl
theorem map_one (f : Operand → Value) (x : Operand) : Array.map f #[x] = #[f x] := by simp
theorem map_two (f : Operand → Value) (x y : Operand) : Array.map f #[x, y] = #[f x, f y] := by simp
theorem oneG_ok {l : List Operand} {f : Gk → Tc} (h : (oneG (gkM c g l) f).run rec e w k = true) : ∃ x, l = [x] ∧ (f (gkX c g x)).run rec e w k = true := by
  match l, h with
  | [x], h => exact ⟨x, rfl, h⟩
  | [], h => exact absurd h (bad_false (n := 166))
  | _ :: _ :: _, h => exact absurd h (bad_false (n := 166))
theorem twoG_ok {l : List Operand} {f : Gk → Gk → Tc} (h : (twoG (gkM c g l) f).run rec e w k = true) : ∃ x y, l = [x, y] ∧ (f (gkX c g x) (gkX c g y)).run rec e w k = true := by
  match l, h with
  | [x, y], h => exact ⟨x, y, rfl, h⟩
  | [], h => exact absurd h (bad_false (n := 166))
  | [_], h => exact absurd h (bad_false (n := 166))
  | _ :: _ :: _ :: _, h => exact absurd h (bad_false (n := 166))
theorem hdT_ok {l : List Nat} {f : Nat → Tc} (h : (hdT l f).run rec e w k = true) : ∃ t ts, l = t :: ts ∧ (f t).run rec e w k = true := by
  match l, h with
  | t :: ts, h => exact ⟨t, ts, rfl, h⟩
  | [], h => exact absurd h (bad_false (n := 166))
theorem twoT_ok {l : List Nat} {f : Nat → Nat → Tc} (h : (twoT l f).run rec e w k = true) : ∃ t u, l = [t, u] ∧ (f t u).run rec e w k = true := by
  match l, h with
  | [t, u], h => exact ⟨t, u, rfl, h⟩
  | [], h => exact absurd h (bad_false (n := 166))
  | [_], h => exact absurd h (bad_false (n := 166))
  | _ :: _ :: _ :: _, h => exact absurd h (bad_false (n := 166))
theorem toList_one {α : Type} {x : Array α} {a : α} (h : x.toList = [a]) : x = #[a] := by
  apply Array.ext'; simpa using h
theorem toList_two {α : Type} {x : Array α} {a b : α} (h : x.toList = [a, b]) : x = #[a, b] := by
  apply Array.ext'; simpa using h
theorem toList_any {α : Type} {x : Array α} {l : List α} (h : x.toList = l) : x = l.toArray := by
  apply Array.ext'; simpa using h

/-! ### What reckons -/
theorem op_pur {o : Oper} (hG : GR E w.nx c g e a.tmps) (hg : Glob E w.nx) (hk : kindOf o.op P = 0) (hr : (opC o.op P c g fin).run rec e w k = true) : QuiN P E w (execOp a.eval o) (fin.of rec e k) := by
  obtain ⟨dst, op, type, pos, after, guard⟩ := o
  have X := is_x hG hg
  cases op
  case move x =>
    obtain ⟨v, hr, hv, e1⟩ := X x _ hr
    exact fun hm => ⟨E, w, v, Qt.refl hm, hr, hv, fun W => by simp only [execOp]; rw [e1]; rfl⟩
  case assign x =>
    obtain ⟨v, hr, hv, e1⟩ := X x _ hr
    exact fun hm => ⟨E, w, v, Qt.refl hm, hr, hv, fun W => by simp only [execOp]; rw [e1]; rfl⟩
  case pick x y z =>
    have h := pickC_ok (P := P) (X x) (X y) (X z) hr
    intro hm
    obtain ⟨E', w', v, q, h1, h2, h3⟩ := h hm
    refine ⟨E', w', v, q, h1, h2, fun W => ?_⟩
    have := h3 W
    simp only [execOp, bind] at this ⊢
    cases hq : a.eval x <;> rw [hq] at this <;> first
      | (simp only [asBool, Sem.bind, pure] at this ⊢
         simp only [Sem.run] at this ⊢
         injection this with q1 q2
         rw [q1])
      | (simp [asBool, stuck, Sem.bind] at this)
  case build t ps => exact (buildC_ok (P := P) (vs := ps.map fun p => (p.1, a.eval p.2)) (by rw [Array.toList_map]; exact is_p hG hg ps.toList) hr).n
  case nilCheck x =>
    obtain ⟨v, hr, hv, e1⟩ := X x _ hr
    obtain ⟨hr, ht⟩ := nilCheckV_ok hv hr
    exact fun hm => ⟨E, w, v, Qt.refl hm, hr, hv, fun W => by rw [← e1]; exact run_nilCheck (o := ⟨dst, .nilCheck x, type, pos, after, guard⟩) rfl (by rw [e1]; exact ht) W⟩
  case binOp op t x y ty =>
    have hk : kBin op t x y ty P = 0 := hk
    have hq : Pur P E w.nx (do eqGuard op t x y (a.eval x) (a.eval y); binOp op t (a.eval x) (a.eval y)) (fin.at rec e k w) := by
      unfold kBin at hk
      have pre : ∀ {d : TypeDesc}, P.underlying t = some d → (∀ ms, d ≠ .interface ms) → (∀ fs, d ≠ .struct fs) → (∀ n e, d ≠ .array n e) → Pur P E w.nx (binOp op t (a.eval x) (a.eval y)) (fin.at rec e k w) →
          Pur P E w.nx (do eqGuard op t x y (a.eval x) (a.eval y); binOp op t (a.eval x) (a.eval y)) (fin.at rec e k w) := fun {d} h1 h2 h3 h4 h => by
        obtain ⟨v, q1, q2, q3⟩ := h
        exact ⟨v, q1, q2, fun W => (run_then (guard_simple h1 h2 h3 h4 W)).trans (q3 W)⟩
      have hr : (binC P op t (gkX c g x) (gkX c g y) fin).run rec e w k = true := hr
      unfold binC at hr
      split at hk
      · rename_i kk hd
        rw [hd] at hr
        exact pre (undF_ok hd) (fun _ h => by cases h) (fun _ h => by cases h) (fun _ _ h => by cases h) (binI_ok (cd_lt kk) (X x) (X y) hr)
      · rename_i hd
        rw [hd] at hr
        refine pre (undF_ok hd) (fun _ h => by cases h) (fun _ h => by cases h) (fun _ _ h => by cases h) ?_
        obtain ⟨v1, hr, h1, e1⟩ := X x _ hr
        obtain ⟨v2, hr, h2, e2⟩ := X y _ hr
        rw [e1, e2]
        exact strB_ok hr
      · rename_i hd
        rw [hd] at hr
        refine pre (undF_ok hd) (fun _ h => by cases h) (fun _ h => by cases h) (fun _ _ h => by cases h) ?_
        obtain ⟨v1, hr, h1, e1⟩ := X x _ hr
        obtain ⟨v2, hr, h2, e2⟩ := X y _ hr
        rw [e1, e2]
        exact boolB_ok (undF_ok hd) hr
      · cases hk
    exact hq.n
  case unOp op t x => exact (unC_ok (P := P) (X x) hr).n
  case convert s d x =>
    exact (convC_pur (P := P) (xo := x) hk (X x) hr).n
  case makeInterface t x => exact (mkI_ok (P := P) (X x) hr).n
  case makeFunc fn fs cs =>
    have hl := is_l hG hg (fs.toList ++ cs.toList)
    exact (mkF_ok (P := P) (fs := fs.map a.eval) (cs := cs.map a.eval) (x := glX c g (fs.toList ++ cs.toList)) (by rw [Array.toList_map, Array.toList_map, ← List.map_append]; exact hl) (by rw [Array.toList_map, List.length_map]; exact hr)).n
  case slice t x l h m =>
    have hr : (oSlice t x l h m P c g fin).run rec e w k = true := hr
    unfold oSlice at hr
    split at hr
    · exact absurd hr (bad_false (n := 422))
    · rename_i hne
      exact (sliceC_ok (P := P) (X x) (is_o hG hg l) (is_o hG hg h) (is_o hG hg m) (fun hh => by
        cases h with
        | some h => cases hh
        | none => cases m with
          | none => rfl
          | some m => exact absurd rfl (hne m rfl)) hr).n
  case fieldAddr s x f =>
    have hr : (oFieldAddr s x f P c g fin).run rec e w k = true := hr
    unfold oFieldAddr at hr
    split at hr
    · rename_i off sz agg hf
      cases sz with
      | zero => exact absurd hr (bad_false (n := 170))
      | succ sz => exact (fieldAddr_ok (P := P) hf (X x) hr).n
    · exact absurd hr (bad_false (n := 172))
  case field s x f => exact (fieldC_ok (P := P) (X x) hr).n
  case indexAddr t x i => exact (indexAddrC_ok (P := P) (X x) (X i) hr).n
  case index t x i => exact (indexC_ok (P := P) (X x) (X i) hr).n
  case typeAssert x xt t ok' => exact (assert_ok (P := P) (X x) hr).n
  case extract x i => exact (extract_ok (P := P) (X x) hr).n
  case call cl =>
    have hk : kCall cl P = 0 := hk
    have hr : (callC P cl (calleeK c g cl.callee) (gkM c g cl.args.toList) (glX c g cl.args.toList) fin).run rec e w k = true := hr
    cases hb : cl.callee with
    | value f => unfold kCall at hk; rw [hb] at hk; cases hk
    | invoke r m => unfold kCall at hk; rw [hb] at hk; cases hk
    | builtin b =>
      have hk : kBi P b cl.argTypes.toList = 0 := by unfold kCall at hk; rw [hb] at hk; exact hk
      have hr : (biC P b (gkM c g cl.args.toList) cl.argTypes.toList fin).run rec e w k = true := by unfold callC at hr; rw [hb] at hr; exact hr
      have fin1 : ∀ {s : Sem Value}, (∀ cs W, (builtin b cl.argTypes type cs (cl.args.map a.eval)).run P W = (do pure (Next.value (← s)) : Sem Next).run P W) → Pur P E w.nx s (fun v => fin.of rec e k v w) → QuiN P E w (execOp a.eval ⟨dst, .call cl, type, pos, after, guard⟩) (fin.of rec e k) := fun {s} hs h hm => by
        obtain ⟨E', w', v, q, h1, h2, h3⟩ := h.n hm
        refine ⟨E', w', v, q, h1, h2, fun W => ?_⟩
        rw [exec_builtin (P := P) (ρ := a.eval) (o := ⟨dst, .call cl, type, pos, after, guard⟩) rfl hb W, hs _ W]
        exact h3 W
      cases b
      case len =>
        obtain ⟨x, hx, hr⟩ := oneG_ok hr
        obtain ⟨t, ts, ht, hr⟩ := hdT_ok hr
        rw [ht] at hk
        have hm : ∀ kt el, undF P t ≠ some (.map kt el) := fun kt el h => by
          have hk : (match undF P t with | some (.map _ _) => 1 | _ => 0) = 0 := hk
          rw [h] at hk; cases hk
        refine fin1 (fun cs W => ?_) (lenC_pur (ty := type) (ts := ts) hm (X x) hr)
        rw [toList_any ht, toList_one hx, map_one]
        rfl
      case min =>
        obtain ⟨x, y, hx, hr⟩ := twoG_ok hr
        have := minC_ok (P := P) (ty := type) (ats := cl.argTypes) (X x) (X y) hr
        refine fin1 (fun cs W => ?_) this
        rw [toList_two hx, map_two]
        rfl
      case max =>
        obtain ⟨x, y, hx, hr⟩ := twoG_ok hr
        have := minC_ok (P := P) (ty := type) (ats := cl.argTypes) (X x) (X y) hr
        refine fin1 (fun cs W => ?_) this
        rw [toList_two hx, map_two]
        rfl
      case cap =>
        obtain ⟨x, hx, hr⟩ := oneG_ok hr
        obtain ⟨t, ts, ht, hr⟩ := hdT_ok hr
        unfold capC at hr
        split at hr
        · rename_i el hd
          refine fin1 (fun cs W => ?_) (capC_ok (ty := type) (ts := ts) hd (X x) hr)
          rw [toList_any ht, toList_one hx, map_one]
          rfl
        · exact absurd hr (bad_false (n := 165))
      all_goals first
        | exact absurd hr bad_false
        | cases hk
  all_goals first
    | cases hk
    | exact absurd hr bad_false
end Go.Proofs.YtcajgbpcimimhaaGreatDoor.Vm
namespace Go.Proofs.YtcajgbpcimimhaaGreatDoor.Vm
open Go Go.RowKit
variable {P : Program} {E : En} {w : W} {K : Nat → Prop} {W0 Wd : World} {rec : Rec} {e : Env} {k : Ex → Env → W → Bool} {fin : Fv} {nx : Nat} {c : Cx} {g : Sg} {a : Act}

theorem op_red (hst : P.stoodInHeld 65 = false) {o : Oper} (hG : GR E w.nx c g e a.tmps) (hg : Glob E w.nx) (hs : SR E w K W0 Wd) (hk : kindOf o.op P = 1) (hr : (opC o.op P c g fin).run rec e w k = true) : RedN P E w (execOp a.eval o) (fin.at rec e k w) := by
  obtain ⟨dst, op, type, pos, after, guard⟩ := o
  have X := is_x hG hg
  cases op
  case load t x => exact (loadC_ok (P := P) (X x) hs hr).n
  case lookup t x i b => exact (lookupC_ok (P := P) (X x) (X i) hs hr).n
  case binOp op t x y ty => exact (binC_ok hst (xo := x) (yo := y) (X x) (X y) hs hr).n
  case convert s d x => exact (convC_ok (P := P) (X x) hs hr).n
  case call cl =>
    have hk : kCall cl P = 1 := hk
    have hr : (callC P cl (calleeK c g cl.callee) (gkM c g cl.args.toList) (glX c g cl.args.toList) fin).run rec e w k = true := hr
    cases hb : cl.callee with
    | value f => unfold kCall at hk; rw [hb] at hk; cases hk
    | invoke r m => unfold kCall at hk; rw [hb] at hk; cases hk
    | builtin b =>
      have hk : kBi P b cl.argTypes.toList = 1 := by unfold kCall at hk; rw [hb] at hk; exact hk
      have hr : (biC P b (gkM c g cl.args.toList) cl.argTypes.toList fin).run rec e w k = true := by unfold callC at hr; rw [hb] at hr; exact hr
      cases b
      case len =>
        obtain ⟨x, hx, hr⟩ := oneG_ok hr
        obtain ⟨t, ts, ht, hr⟩ := hdT_ok hr
        obtain ⟨v, h1, h2, h3⟩ := (lenC_ok (P := P) (ty := type) (ts := ts) (X x) hs hr).n
        refine ⟨v, h1, h2, fun hs => ?_⟩
        rw [exec_builtin (P := P) (ρ := a.eval) (o := ⟨dst, .call cl, type, pos, after, guard⟩) rfl hb]
        rw [toList_any ht, toList_one hx, map_one]
        exact h3 hs
      all_goals cases hk
  all_goals cases hk
theorem op_mak {o : Oper} (hG : GR E w.nx c g e a.tmps) (hg : Glob E w.nx) (hk : kindOf o.op P = 3) (hr : (opC o.op P c g fin).run rec e w k = true) : MakN P E w (execOp a.eval o) (fin.of rec e k) := by
  obtain ⟨dst, op, type, pos, after, guard⟩ := o
  have X := is_x hG hg
  cases op
  case alloc t => exact (allocC_ok (P := P) hr).n
  case box t x => exact (boxC_ok (P := P) (X x) hr).n
  case buildSlice t n ps =>
    have hr : (buildSliceC P t n (gkP c g ps.toList) fin).run rec e w k = true := hr
    have h := (buildSliceC_ok (P := P) (vs := ps.map fun p => (p.1, a.eval p.2)) (by rw [Array.toList_map]; exact is_p hG hg ps.toList) hr).n
    exact h
  case makeMap t r =>
    obtain ⟨e1, h⟩ := mkM_ok (P := P) (cx := c) (g := g) hr
    subst e1
    exact h.n
  case makeSlice t l cp => exact (makeSliceC_ok (P := P) (X l) (X cp) hr).n
  case range t x => exact (range_ok (P := P) (X x) hr).n
  case binOp op t x y ty =>
    have hk : kBin op t x y ty P = 3 := hk
    unfold kBin at hk
    split at hk <;> cases hk
  case convert s d x =>
    have hk : kConv s d x P = 3 := hk
    unfold kConv at hk
    split at hk <;> cases hk
  case call cl =>
    have hk : kCall cl P = 3 := hk
    unfold kCall at hk
    split at hk
    · unfold kBi at hk
      split at hk
      · split at hk
        · split at hk <;> cases hk
        · cases hk
      all_goals cases hk
    · cases hk
  all_goals cases hk
/-- is it a call of a function, or a deferred one? -/
def isCall (o : Op) : Bool := match o with
  | .call cl => match cl.callee with
    | .builtin _ => false
    | _ => true
  | .defer _ => true
  | _ => false
theorem op_act {o : Oper} (hG : GR E w.nx c g e a.tmps) (hg : Glob E w.nx) (hs : SR E w K W0 Wd) (hk : kindOf o.op P = 2) (hc : isCall o.op = false) (hr : (opC o.op P c g fin).run rec e w k = true) : EffN P E w K W0 Wd (execOp a.eval o) (fin.of rec e k) := by
  obtain ⟨dst, op, type, pos, after, guard⟩ := o
  have X := is_x hG hg
  cases op
  case store t x y => exact (storeC_ok (P := P) (X x) (X y) hs hr).n
  case mapUpdate t m i x => exact (mapUpdateC_ok (P := P) (X m) (X i) (X x) hs hr).n
  case next x b => exact (nextC_ok (P := P) (ty := type) (X x) hs hr).n
  case binOp op t x y ty =>
    have hk : kBin op t x y ty P = 2 := hk
    unfold kBin at hk
    split at hk <;> cases hk
  case convert s d x =>
    have hk : kConv s d x P = 2 := hk
    have hr : (convC P s d (gkX c g x) fin).run rec e w k = true := hr
    unfold kConv at hk
    unfold convC at hr
    split at hk
    · cases hk
    · rename_i h1 h2
      rw [h1, h2] at hr
      exact absurd hr (bad_false (n := 58))
    · cases hk
  case call cl =>
    have hr : (callC P cl (calleeK c g cl.callee) (gkM c g cl.args.toList) (glX c g cl.args.toList) fin).run rec e w k = true := hr
    cases hb : cl.callee with
    | value f => unfold isCall at hc; simp only [] at hc; rw [hb] at hc; cases hc
    | invoke r m => unfold isCall at hc; simp only [] at hc; rw [hb] at hc; cases hc
    | builtin b =>
      have hr : (biC P b (gkM c g cl.args.toList) cl.argTypes.toList fin).run rec e w k = true := by unfold callC at hr; rw [hb] at hr; exact hr
      have fin1 : ∀ {s : Sem Value}, (∀ cs W, (builtin b cl.argTypes type cs (cl.args.map a.eval)).run P W = (do pure (Next.value (← s)) : Sem Next).run P W) → Eff P E w K W0 Wd s (fin.of rec e k) → EffN P E w K W0 Wd (execOp a.eval ⟨dst, .call cl, type, pos, after, guard⟩) (fin.of rec e k) := fun {s} hs h => by
        obtain ⟨E', w', v, W', h1, h2, h3, h4, h5, h6, h7⟩ := h.n
        refine ⟨E', w', v, W', h1, h2, h3, h4, h5, h6, ?_⟩
        rw [exec_builtin (P := P) (ρ := a.eval) (o := ⟨dst, .call cl, type, pos, after, guard⟩) rfl hb Wd, hs _ Wd]
        exact h7
      cases b
      case append =>
        obtain ⟨x, y, hx, hr⟩ := twoG_ok hr
        obtain ⟨t, t2, ht, hr⟩ := twoT_ok hr
        refine fin1 (fun cs W => ?_) (appendC_ok (P := P) (ty := type) (X x) (X y) hs hr)
        rw [toList_any ht, toList_two hx, map_two]
        rfl
      case copy =>
        obtain ⟨x, y, hx, hr⟩ := twoG_ok hr
        obtain ⟨t, ts, ht, hr⟩ := hdT_ok hr
        refine fin1 (fun cs W => ?_) (copyC_ok (P := P) (ty := type) (ts := ts) (X x) (X y) hs hr)
        rw [toList_any ht, toList_two hx, map_two]
        rfl
      case clear =>
        obtain ⟨x, hx, hr⟩ := oneG_ok hr
        obtain ⟨t, ts, ht, hr⟩ := hdT_ok hr
        refine fin1 (fun cs W => ?_) (clearC_ok (P := P) (ty := type) (ts := ts) (X x) hs hr)
        rw [toList_any ht, toList_one hx, map_one]
        rfl
      case delete =>
        obtain ⟨x, y, hx, hr⟩ := twoG_ok hr
        obtain ⟨t, ts, ht, hr⟩ := hdT_ok hr
        refine fin1 (fun cs W => ?_) (deleteC_ok (P := P) (ty := type) (ts := ts) (X x) (X y) hs hr)
        rw [toList_any ht, toList_two hx, map_two]
        rfl
      case len =>
        obtain ⟨x, hx, hr⟩ := oneG_ok hr
        obtain ⟨t, ts, ht, hr⟩ := hdT_ok hr
        have hk : kCall cl P = 2 := hk
        unfold kCall kBi at hk
        rw [hb, ht] at hk
        simp only [] at hk
        split at hk <;> cases hk
      case min => unfold kindOf at hk; have hk : kCall cl P = 2 := hk; unfold kCall kBi at hk; rw [hb] at hk; cases hk
      case max => unfold kindOf at hk; have hk : kCall cl P = 2 := hk; unfold kCall kBi at hk; rw [hb] at hk; cases hk
      case cap => unfold kindOf at hk; have hk : kCall cl P = 2 := hk; unfold kCall kBi at hk; rw [hb] at hk; cases hk
      all_goals exact absurd hr (bad_false (n := 0))
  case defer cl => cases hc
  all_goals first
    | exact absurd hr (bad_false (n := 0))
    | cases hk
theorem kind_lt (o : Op) : kindOf o P < 4 := by
  cases o
  case binOp op t x y ty =>
    show kBin op t x y ty P < 4
    unfold kBin; split <;> decide
  case convert s d x =>
    show kConv s d x P < 4
    unfold kConv; split <;> decide
  case call cl =>
    show kCall cl P < 4
    unfold kCall
    split
    · unfold kBi
      split
      · split
        · split <;> decide
        · decide
      all_goals decide
    · decide
  all_goals first
    | exact (show 0 < 4 by decide)
    | exact (show 1 < 4 by decide)
    | exact (show 2 < 4 by decide)
    | exact (show 3 < 4 by decide)
/-- whatever it is, if it calls no function -/
theorem op_eff (hst : P.stoodInHeld 65 = false) {o : Oper} (hG : GR E w.nx c g e a.tmps) (hs : SR E w K W0 Wd) (hc : isCall o.op = false) (hr : (opC o.op P c g fin).run rec e w k = true) : EffN P E w K W0 Wd (execOp a.eval o) (fin.of rec e k) := by
  have h4 := kind_lt (P := P) o.op
  rcases hk : kindOf o.op P with _ | _ | _ | _ | n
  · exact (op_pur hG hs.gl hk hr).eff hs
  · exact (op_red hst hG hs.gl hs hk hr).eff hs
  · exact op_act hG hs.gl hs hk hc hr
  · exact (op_mak hG hs.gl hk hr).eff hs
  · omega
end Go.Proofs.YtcajgbpcimimhaaGreatDoor.Vm
