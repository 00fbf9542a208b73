/- Frames: deferred calls, what calls come to; one operation in its frame. Conditions: as each theorem names them. Operations of a region: places spoken of, guards, what is passed over. Conditions: as each theorem names them. Code's shapes, against the machine's walk of them. Conditions: as each theorem names them. Ranges over a function: the statement, and a round of it. Conditions: as each theorem names them. Functions: what they hand back, their deferred calls, a call's contract out of its body. Conditions: as each theorem names them. The evaluator as a whole, by its fuel. Conditions: as each theorem names them. -/
import Derived.RangeFuncLeaves
import Derived.Test.YtcajgbpcimimhaaGreatDoorVmGdG
import Derived.OrdersIn
import Derived.RangeFuncRecord
set_option linter.unusedVariables false
namespace Go.Proofs.YtcajgbpcimimhaaGreatDoor.Vm
open Go Go.RowKit
variable {P : Program} {E : En} {w : W} {K : Nat → Prop} {W0 Wd : World} {rec : Rec} {e : Env} {k : Ex → Env → W → Bool} {fin : Fv} {nx : Nat} {c : Cx} {g : Sg} {a : Act}

/-- deferred calls and marks -/
def DR (E : En) (nx : Nat) : List Dd → List Deferred → Prop
  | [], [] => True
  | .mark r :: l, d :: ds => (r < nx ∧ d = ⟨.collected (E.φ r), #[]⟩) ∧ DR E nx l ds
  | .call f args :: l, d :: ds => (okL E nx args ∧ d = ⟨.fn (.func f) #[], (denL E args).toArray⟩) ∧ DR E nx l ds
  | _, _ => False
theorem DR.ext {E' : En} {nx' : Nat} (x : Ext E nx E' nx') : ∀ {l : List Dd} {ds : List Deferred}, DR E nx l ds → DR E' nx' l ds
  | [], [], _ => trivial
  | [], _ :: _, h => h.elim
  | .mark r :: l, [], h => h.elim
  | .call f args :: l, [], h => h.elim
  | .mark r :: l, d :: ds, h => ⟨⟨Nat.lt_of_lt_of_le h.1.1 x.le, by rw [x.φ r h.1.1]; exact h.1.2⟩, DR.ext x h.2⟩
  | .call f args :: l, d :: ds, h => by
    obtain ⟨a, b⟩ := extL_ok x args h.1.1
    exact ⟨⟨a, by rw [b]; exact h.1.2⟩, DR.ext x h.2⟩

/-- the fence: of a function's frame, or of a round's -/
def Fe : Option Nat → Fence
  | none => Fence.wide
  | some l => Fence.wide.inRound l
theorem fc_round (ro : Option Nat) : (Fe ro).round = ro := by cases ro <;> rfl
theorem fc_fn (ro : Option Nat) (f : FuncId) : (Fe ro).fn f := by cases ro <;> exact trivial
theorem fc_depth (ro : Option Nat) : (Fe ro).depth = none := by cases ro <;> rfl
theorem fc_room (ro : Option Nat) (n : Nat) : (Fe ro).room n := by
  cases ro with
  | none => exact room_wide n
  | some l => exact room_wide n
theorem fc_fenced (ro : Option Nat) (m : Machine) : m.fenced P (Fe ro) = m.fenced P Fence.wide := by cases ro <;> rfl
theorem fc_calls {ro : Option Nat} {n : Nat} {f : FuncId} {args : Array Value} {R : Ending → World → Prop} (h : Calls P f args Wd R) : CallsIn (Fe ro) n P f args Wd R := by
  cases ro with
  | none => exact callsIn_wide.2 h
  | some l => exact (callsIn_wide (n := n)).2 h
theorem fc_hn (ro : Option Nat) {n : Nat} : (Fe ro).depth.isSome = true → 1 ≤ n := by rw [fc_depth]; intro h; cases h

/-- what is known of the program -/
structure PH (P : Program) : Prop where
  mixed : P.follows .mixedOrders = true
  stood : P.stoodInHeld 65 = false
  names : ∀ (f : Nat) (fn : Func), P.funcs[f]? = some fn → (fn.name == "runtime.NumGoroutine") = false
  ext : ∀ f args v, (∃ n, extOf f = n + 1 ∧ ∃ (s : ByteArray) (c : Nat), c < 256 ∧ args = #[.string s, .int .u8 (Int.ofNat c)] ∧ v = (match n with
    | 0 => .int .i64 (Int.ofNat (countB c s.data.toList 0))
    | _ => match findB c s.data.toList 0 with
      | some i => .int .i64 (Int.ofNat i)
      | none => .int .i64 (-1))) → ∀ W, (callFunc f args).run P W = .ok (.value v) W

/-- a function's calls: what holds behind -/
def CallEnd (E : En) (w : W) (K : Nat → Prop) (W0 : World) (k : V → W → Bool) : Ending → World → Prop := fun e W' => ∃ E' w' u, e = .returned (den E' u) ∧ Ext E w.nx E' w'.nx ∧ SR E' w' K W0 W' ∧ ok E' w'.nx u ∧ w'.ds = w.ds ∧ w'.r = w.r ∧ k u w' = true
def CallOk (P : Program) (call : Nat → List V → W → (V → W → Bool) → Bool) : Prop := ∀ f args w k E K W0 Wd, call f args w k = true → SR E w K W0 Wd → okL E w.nx args →
  (∃ fn, P.funcs[f]? = some fn ∧ fn.body.isSome = true) ∧ Calls P f (denL E args).toArray Wd (CallEnd E w K W0 k)
def RoundOk (P : Program) (round : Nat → List V → W → (V → W → Bool) → Bool) : Prop := ∀ l args w k E K W0 Wd, round l args w k = true → SR E w K W0 Wd → okL E w.nx args → l < w.nx →
  ∃ f tmps assign body, (Instr.yield (E.φ l) (denL E args).toArray).run P Wd = .ok (.round (E.φ l) f tmps assign body) Wd ∧ ∀ ro n, RoundIn (Fe ro) n P (E.φ l) f tmps assign body Wd (CallEnd E w K W0 k)

/-- what goes on behind an operation -/
def Cont (E : En) (w : W) (K : Nat → Prop) (W0 : World) (a : Act) (dst : Option Tmp) (c : V → W → Bool) (next : Act → World → Prop) : Prop :=
  ∀ E' w' v W' ds', Ext E w.nx E' w'.nx → SR E' w' K W0 W' → ok E' w'.nx v → DR E' w'.nx w'.ds ds' → w'.r = w.r → c v w' = true → next ({ a with defers := ds' }.put dst (den E' v)) W'

theorem wpIn_of_eff {ro : Option Nat} {n : Nat} {o : Oper} {next : Act → World → Prop} {Q : Exit → Act → World → Prop} {f : V → W → Bool} (hnd : ∀ cl, o.op ≠ .defer cl) (hd : DR E w.nx w.ds a.defers) (h : EffN P E w K W0 Wd (execOp a.eval o) f) (hn : Cont E w K W0 a o.dst f next) :
    o.wpIn (Fe ro) n P a Wd next Q := by
  refine ⟨fun f _ => fc_fn ro f, ?_⟩
  rw [fc_round, Oper.semAt_eq ro a.eval o hnd]
  obtain ⟨E', w', v, W', h1, h2, h3, h4, h5, h6, h7⟩ := h
  have hdf : DR E' w'.nx w'.ds a.defers := by rw [h4]; exact hd.ext h1
  rcases h7 with h7 | ⟨h8, h7⟩
  · rw [h7]
    exact hn E' w' v W' a.defers h1 h2 h3 hdf h5 h6
  · rw [h7]
    have := hn E' w' v W' a.defers h1 h2 h3 hdf h5 h6
    rw [h8] at this
    exact this
theorem put_defers (a : Act) : ({ a with defers := a.defers } : Act) = a := rfl
/-- a call of a function, entered -/
theorem wpIn_of_enter {ro : Option Nat} {n : Nat} {o : Oper} {next : Act → World → Prop} {Q : Exit → Act → World → Prop} {fc : V → W → Bool} {f : FuncId} {args : Array Value} (hnd : ∀ cl, o.op ≠ .defer cl) (hd : DR E w.nx w.ds a.defers) (he : (execOp a.eval o).run P Wd = .ok (.enter f args) Wd)
    (h : Calls P f args Wd (CallEnd E w K W0 fc)) (hn : Cont E w K W0 a o.dst fc next) : o.wpIn (Fe ro) n P a Wd next Q := by
  refine ⟨fun f _ => fc_fn ro f, ?_⟩
  rw [fc_round, Oper.semAt_eq ro a.eval o hnd, he, Oper.uponIn_enter]
  refine ⟨fc_hn ro, CallsIn.mono (fc_calls h) fun e W' hq => ?_⟩
  obtain ⟨E', w', u, e1, h1, h2, h3, h4, h5, h6⟩ := hq
  subst e1
  exact hn E' w' u W' a.defers h1 h2 h3 (by rw [h4]; exact hd.ext h1) h5 h6
theorem wpIn_of_round {ro : Option Nat} {n : Nat} {o : Oper} {next : Act → World → Prop} {Q : Exit → Act → World → Prop} {fc : V → W → Bool} {l : Nat} {f : FuncId} {tmps : Array Value} {assign body : Code} (hnd : ∀ cl, o.op ≠ .defer cl) (hd : DR E w.nx w.ds a.defers)
    (he : (execOp a.eval o).run P Wd = .ok (.round l f tmps assign body) Wd) (h : ∀ ro n, RoundIn (Fe ro) n P l f tmps assign body Wd (CallEnd E w K W0 fc)) (hn : Cont E w K W0 a o.dst fc next) : o.wpIn (Fe ro) n P a Wd next Q := by
  refine ⟨fun f _ => fc_fn ro f, ?_⟩
  rw [fc_round, Oper.semAt_eq ro a.eval o hnd, he, Oper.uponIn_round]
  refine ⟨fc_hn ro, RoundIn.mono (h ro _) fun e W' hq => ?_⟩
  obtain ⟨E', w', u, e1, h1, h2, h3, h4, h5, h6⟩ := hq
  subst e1
  exact hn E' w' u W' a.defers h1 h2 h3 (by rw [h4]; exact hd.ext h1) h5 h6

/-! ### Calls -/
theorem run_callFunc (hP : PH P) {f : FuncId} {args : Array Value} (h : ∃ fn, P.funcs[f]? = some fn ∧ fn.body.isSome = true) (W : World) : (callFunc f args).run P W = .ok (.enter f args) W := by
  obtain ⟨fn, h1, h2⟩ := h
  have h3 := hP.names f fn h1
  have h4 : fn.body.isNone = false := by cases hb : fn.body with | none => rw [hb] at h2; cases h2 | some c => rfl
  simp only [callFunc, program, bind, Sem.bind, Sem.run, h1, h3, h4, Bool.false_eq_true, if_false, pure]
theorem denL_append (E : En) (l r : List V) : denL E (l ++ r) = denL E l ++ denL E r := by rw [denL_eq, denL_eq, denL_eq, List.map_append]
theorem okL_append {l r : List V} (h : okL E nx l) (h2 : okL E nx r) : okL E nx (l ++ r) := (okL_iff E nx _).2 fun v hv => by
  rcases List.mem_append.1 hv with hv | hv
  · exact (okL_iff E nx l).1 h v hv
  · exact (okL_iff E nx r).1 h2 v hv
/-- a call of a value -/
theorem callV_ok (hP : PH P) (hc : CallOk P rec.call) (hrd : RoundOk P rec.round) {v : V} {l : List V} {fc : V → W → Bool} (hs : SR E w K W0 Wd) (hv : ok E w.nx v) (hl : okL E w.nx l) (h : callV rec v l w fc = true) :
    ∃ d, (Deferred.ofValue (den E v) (denL E l).toArray).run P Wd = .ok d Wd ∧
      ((∃ f args, (invoke d.target d.args).run P Wd = .ok (.enter f args) Wd ∧ Calls P f args Wd (CallEnd E w K W0 fc)) ∨
       (v.t = 34 ∧ ∃ lp f tmps assign body, (invoke d.target d.args).run P Wd = .ok (.round lp f tmps assign body) Wd ∧ ∀ ro n, RoundIn (Fe ro) n P lp f tmps assign body Wd (CallEnd E w K W0 fc))) := by
  obtain ⟨t, x, vl, dd, cc, b, va⟩ := v
  unfold callV at h
  simp only [] at h
  split at h
  · have e1 : den E ⟨33, x, vl, dd, cc, b, va⟩ = .func (.func va) ((denL E vl).take b).toArray ((denL E vl).drop b).toArray := by simp [den]
    have ovl : okL E w.nx vl := hv.2
    have key : ∀ (args : List V), args = vl.take b ++ l ++ vl.drop b → rec.call va args w fc = true → ∃ d, (Deferred.ofValue (den E ⟨33, x, vl, dd, cc, b, va⟩) (denL E l).toArray).run P Wd = .ok d Wd ∧
        ((∃ f args, (invoke d.target d.args).run P Wd = .ok (.enter f args) Wd ∧ Calls P f args Wd (CallEnd E w K W0 fc)) ∨
         ((⟨33, x, vl, dd, cc, b, va⟩ : V).t = 34 ∧ ∃ lp f tmps assign body, (invoke d.target d.args).run P Wd = .ok (.round lp f tmps assign body) Wd ∧ ∀ ro n, RoundIn (Fe ro) n P lp f tmps assign body Wd (CallEnd E w K W0 fc))) := fun args ea hcall => by
      have oargs : okL E w.nx args := by
        rw [ea]
        exact okL_append (okL_append ((okL_iff E w.nx _).2 fun q hq => (okL_iff E w.nx vl).1 ovl q (List.mem_of_mem_take hq)) hl) ((okL_iff E w.nx _).2 fun q hq => (okL_iff E w.nx vl).1 ovl q (List.mem_of_mem_drop hq))
      obtain ⟨hf, hcalls⟩ := hc va args w fc E K W0 Wd hcall hs oargs
      refine ⟨_, by rw [e1]; rfl, .inl ⟨va, (denL E args).toArray, ?_, hcalls⟩⟩
      show (callFunc va _).run P Wd = _
      rw [run_callFunc hP hf]
      congr 2
      rw [ea, denL_append, denL_append, denL_eq E (vl.take b), denL_eq E (vl.drop b), denL_eq E vl]
      simp [List.map_take, List.map_drop]
    split at h
    · rw [vA_eq] at h
      exact key l (by simp) h
    · rw [appL_eq] at h
      simp only [vA_eq] at h
      exact key _ (by simp) h
    · rename_i n q hne hn0
      obtain ⟨_, h⟩ := takeL_ok h
      obtain ⟨_, h⟩ := dropL_ok h
      rw [appL_eq] at h
      simp only [appL_eq, vA_eq] at h
      exact key _ (by rw [List.append_assoc]) h
  · rw [vA_eq] at h
    obtain ⟨f, tmps, assign, body, h1, h2⟩ := hrd va l w fc E K W0 Wd h hs hl hv.1
    refine ⟨⟨.fn (.yield (E.φ va)) #[], #[] ++ (denL E l).toArray⟩, by simp [den, Deferred.ofValue, pure], .inr ⟨rfl, E.φ va, f, tmps, assign, body, ?_, h2⟩⟩
    show (Instr.yield (E.φ va) (#[] ++ (denL E l).toArray)).run P Wd = _
    rw [Array.empty_append]
    exact h1
  · exact absurd h (bad_false (n := 150))

/-- methods of a value of a pointer's type -/
theorem run_method {t : Nat} {name : String} {f : Nat} {v : Value} (h : methOf P t name = some f) (n : Nat) (W : World) : (method (n + 1) t v name).run P W = .ok (f, v) W := by
  unfold methOf at h
  split at h
  · rename_i i hi
    split at h
    · rename_i m hm
      split at h
      · rename_i f' e' h1 h2 h3
        cases h
        unfold method
        simp only [bind]
        rw [run_then (run_typeInfo (infoF_ok hi) W)]
        simp only [hm, h2, follow, pure, Sem.bind, h1]
        simp only [receiverAt, bind]
        show Sem.run P (((underlying t).bind _).bind _) W = _
        rw [Sem.run_bind', Sem.run_bind', run_underlying (undF_ok h3) W]
        rfl
      · cases h
    · cases h
  · cases h
/-- any call, in its frame -/
theorem op_call (hP : PH P) (hc : CallOk P rec.call) (hrd : RoundOk P rec.round) {ro : Option Nat} {n : Nat} {o : Oper} {cl : Call} {next : Act → World → Prop} {Q : Exit → Act → World → Prop} (ho : o.op = .call cl) (hnb : ∀ b, cl.callee ≠ .builtin b) (hG : GR E w.nx c g e a.tmps) (hs : SR E w K W0 Wd) (hd : DR E w.nx w.ds a.defers)
    (hr : (opC o.op P c g fin).run rec e w k = true) (hn : Cont E w K W0 a o.dst (fin.of rec e k) next) : o.wpIn (Fe ro) n P a Wd next Q := by
  have X := is_x hG hs.gl
  have hnd : ∀ cl, o.op ≠ .defer cl := fun cl' h => by rw [ho] at h; cases h
  rw [ho] at hr
  have hr : (callC P cl (calleeK c g cl.callee) (gkM c g cl.args.toList) (glX c g cl.args.toList) fin).run rec e w k = true := hr
  have L := is_l hG hs.gl cl.args.toList
  have hargs : cl.args.map a.eval = (cl.args.toList.map a.eval).toArray := by apply Array.ext'; simp
  cases hb : cl.callee with
  | builtin b => exact absurd hb (hnb b)
  | value x =>
    unfold callC at hr
    rw [hb] at hr
    have gen : (∀ f, x ≠ .func f) → o.wpIn (Fe ro) n P a Wd next Q := fun hx => by
      have hr : (gkX c g x).run e (fun v => (glX c g cl.args.toList).run e fun l => callV rec v l w fun v w => fin.run rec e w k v) = true := by
        cases x with
        | func f => exact absurd rfl (hx f)
        | _ => exact hr
      obtain ⟨v, hr, hv, e1⟩ := X x _ hr
      obtain ⟨l, hr, hl, e2⟩ := L _ hr
      obtain ⟨d, h1, h2⟩ := callV_ok hP hc hrd hs hv hl hr
      have he : ∀ r, (invoke d.target d.args).run P Wd = .ok r Wd → (execOp a.eval o).run P Wd = .ok r Wd := fun r hrr => by
        simp only [execOp, ho, resolve, hb, bind]
        rw [hargs, e2, e1]
        exact (run_then h1).trans hrr
      rcases h2 with ⟨f, args, h3, h4⟩ | ⟨_, lp, f, tmps, assign, body, h3, h4⟩
      · exact wpIn_of_enter hnd hd (he _ h3) h4 hn
      · exact wpIn_of_round hnd hd (he _ h3) h4 hn
    cases x with
    | tmp i => exact gen (fun f h => by cases h)
    | const v => exact gen (fun f h => by cases h)
    | global i => exact gen (fun f h => by cases h)
    | func f =>
      simp only [] at hr
      split at hr
      · obtain ⟨l, hr, hl, e2⟩ := L _ hr
        obtain ⟨hf, hcalls⟩ := hc f l w _ E K W0 Wd hr hs hl
        refine wpIn_of_enter hnd hd ?_ hcalls hn
        simp only [execOp, ho, resolve, hb, bind]
        rw [hargs, e2]
        show Sem.run P (callFunc f (#[] ++ (denL E l).toArray ++ #[])) Wd = _
        rw [Array.empty_append, Array.append_empty]
        exact run_callFunc hP hf Wd
      · rename_i m hm
        obtain ⟨l, hr, hl, e2⟩ := L _ hr
        obtain ⟨v, hv, hval, hfin⟩ : ∃ v, fin.run rec e w k v = true ∧ ok E w.nx v ∧ ∀ W, (callFunc f (denL E l).toArray).run P W = .ok (.value (den E v)) W := by
          unfold extC at hr
          split at hr
          · rename_i s ch
            obtain ⟨b, hr, es, _⟩ := strK_ok (E := E) (nx := w.nx) hr
            obtain ⟨ht, hr⟩ := isN_true (by rfl) hr
            have ech : den E ch = .int .u8 (Int.ofNat ch.a) := by
              obtain ⟨t, x, vl, dd, cc, b', va⟩ := ch
              cases ht
              simp [den]
            have hl2 : (denL E [s, ch]).toArray = #[.string b, .int .u8 (Int.ofNat ch.a)] := by simp [denL, es, ech]
            rw [hl2]
            cases hb8 : Nat.blt ch.a 256 with
            | false => rw [hb8] at hr; exact absurd hr (bad_false (n := 218))
            | true =>
            rw [hb8] at hr
            have h8 := blt_true hb8
            simp only [] at hr
            split at hr
            · rw [fN_eq] at hr
              exact ⟨_, hr, okN _, hP.ext f _ _ ⟨0, hm, b, ch.a, h8, rfl, by simp [den]⟩⟩
            · rename_i q hq
              split at hr
              · rename_i i hi
                rw [fN_eq] at hr
                refine ⟨_, hr, okN _, hP.ext f _ _ ⟨m, hm, b, ch.a, h8, rfl, ?_⟩⟩
                cases m with
                | zero => exact absurd rfl hq
                | succ m => simp only [hi]; simp [den]
              · rename_i hi
                refine ⟨_, hr, ⟨trivial, trivial⟩, hP.ext f _ _ ⟨m, hm, b, ch.a, h8, rfl, ?_⟩⟩
                cases m with
                | zero => exact absurd rfl hq
                | succ m => simp only [hi]; simp [den]
          · exact absurd hr (bad_false (n := 153))
        refine wpIn_of_eff hnd hd ⟨E, w, v, Wd, Ext.refl _ _, hs, hval, rfl, rfl, hv, .inl ?_⟩ hn
        simp only [execOp, ho, resolve, hb, bind]
        rw [hargs, e2]
        show Sem.run P (callFunc f (#[] ++ (denL E l).toArray ++ #[])) Wd = _
        rw [Array.empty_append, Array.append_empty]
        exact hfin Wd
  | invoke x name =>
    unfold callC at hr
    rw [hb] at hr
    obtain ⟨v, hr, hv, e1⟩ := X x _ hr
    obtain ⟨l, hr, hl, e2⟩ := L _ hr
    obtain ⟨ht, hr⟩ := isN_true (by rfl) hr
    split at hr
    · rename_i r hvl
      rw [vA_eq] at hr
      split at hr
      · rename_i f hm
        rw [fN_eq] at hr
        have e3 : den E v = .iface v.a (den E r) ∧ ok E w.nx r := by
          obtain ⟨t, x, vl, dd, cc, b', va⟩ := v
          cases ht
          cases hvl
          exact ⟨by simp [den, denL], hv.2.1⟩
        obtain ⟨hf, hcalls⟩ := hc f (r :: l) w _ E K W0 Wd hr hs ⟨e3.2, hl⟩
        refine wpIn_of_enter hnd hd ?_ hcalls hn
        simp only [execOp, ho, resolve, hb, bind, pure, Sem.bind, invoke]
        rw [hargs, e2, e1, e3.1]
        have h0 : (#[Value.iface v.a (den E r)] ++ (denL E l).toArray)[0]? = some (.iface v.a (den E r)) := by simp
        have h1 : (#[Value.iface v.a (den E r)] ++ (denL E l).toArray).extract 1 (#[Value.iface v.a (den E r)] ++ (denL E l).toArray).size = (denL E l).toArray := by simp
        rw [h0, h1]
        simp only [callMethod, program, bind, Sem.bind, Sem.run]
        refine (run_then (run_method hm (P.types.size + 99) Wd)).trans ?_
        have h2 : #[den E r] ++ (denL E l).toArray = (denL E (r :: l)).toArray := by simp [denL]
        show Sem.run P (callFunc f (#[den E r] ++ (denL E l).toArray)) Wd = _
        rw [h2]
        exact run_callFunc hP hf Wd
      · exact absurd hr (bad_false (n := 161))
    · exact absurd hr (bad_false (n := 162))
end Go.Proofs.YtcajgbpcimimhaaGreatDoor.Vm
namespace Go.Proofs.YtcajgbpcimimhaaGreatDoor.Vm
open Go Go.RowKit
variable {P : Program} {E : En} {w : W} {K : Nat → Prop} {W0 Wd : World} {rec : Rec} {e : Env} {k : Ex → Env → W → Bool} {fin : Fv} {nx : Nat} {c : Cx} {g : Sg} {a : Act}

/-! ### Places spoken of -/
theorem aOff_ok {s s' : Src} {off : Nat} {chk : Bool} {u : V} (h : aOff s off = (s', chk)) (hl : s.lo) (hu : s.val e = some u) (ou : ok E nx u) (hc : chk = true → u.t = 17) :
    s'.lo ∧ ∃ b o, den E u = .pointer (some ⟨E.φ b, o, none⟩) ∧ s'.val e = some (.ptr b (o + off)) ∧ b < nx := by
  unfold aOff at h
  split at h
  · rename_i s0 n
    cases h
    refine ⟨hl, ?_⟩
    simp only [Src.val] at hu ⊢
    cases hs : s0.val e with
    | none => rw [hs] at hu; cases hu
    | some v0 =>
      rw [hs] at hu
      simp only [ptrAdd] at hu ⊢
      by_cases ht : v0.t = 17
      · rw [if_pos ht] at hu
        cases hu
        refine ⟨v0.b, v0.a + n, den_mkptr _ _, ?_, ou.1⟩
        rw [if_pos ht]
        show some (V.ptr v0.b (v0.a + (n + off))) = some (V.ptr v0.b (v0.a + n + off))
        rw [Nat.add_assoc]
      · rw [if_neg ht] at hu; cases hu
  · cases h
    have ht := hc rfl
    obtain ⟨hb, e1⟩ := ok_ptr ou ht
    refine ⟨hl, u.b, u.a, e1, ?_, hb⟩
    simp only [Src.val, hu, ptrAdd]
    rw [if_pos ht]
/-- an operation that only speaks of a place -/
theorem alias_ok {o : Oper} {s : Src} {chk : Bool} (hG : GR E nx c g e a.tmps) (hg : Glob E nx) (h : aliasOf o.op o.type P c g = some (s, chk)) (hc : chk = true → ∃ s0 n v, s = .off s0 n ∧ s0.val e = some v ∧ v.t = 17) :
    kindOf o.op P = 0 ∧ s.lo ∧ ∃ v, s.val e = some v ∧ ok E nx v ∧ ∀ W, (execOp a.eval o).run P W = .ok (.value (den E v)) W := by
  obtain ⟨dst, op, type, pos, after, guard⟩ := o
  have mv : ∀ {x : Operand}, aMove x type P c g = some (s, chk) → s.lo ∧ ∃ v, s.val e = some v ∧ ok E nx v ∧ a.eval x = den E v := fun {x} h => by
    unfold aMove at h
    split at h
    · rename_i s1 hs1
      cases h
      exact srcOf_ok hG hg hs1
    · cases h
  have offs : ∀ {x : Operand} {off : Nat} {s1 : Src}, srcOf c g x = some s1 → aOff s1 off = (s, chk) → s.lo ∧ ∃ b o, a.eval x = .pointer (some ⟨E.φ b, o, none⟩) ∧ s.val e = some (.ptr b (o + off)) ∧ b < nx := fun {x off s1} hs1 ha => by
    obtain ⟨l1, u, hu, ou, du⟩ := srcOf_ok hG hg hs1
    obtain ⟨q1, b, o, q2, q3, q4⟩ := aOff_ok ha l1 hu ou (fun hchk => by
      obtain ⟨s0, n, v, e1, e2, e3⟩ := hc hchk
      unfold aOff at ha
      split at ha
      · cases ha; cases hchk
      · cases ha
        cases e1
        rw [hu] at e2
        cases e2
        exact e3)
    exact ⟨q1, b, o, by rw [du]; exact q2, q3, q4⟩
  cases op
  case move x =>
    obtain ⟨l1, v, hv, ov, dv⟩ := mv h
    exact ⟨rfl, l1, v, hv, ov, fun W => by simp only [execOp]; rw [dv]; rfl⟩
  case assign x =>
    obtain ⟨l1, v, hv, ov, dv⟩ := mv h
    exact ⟨rfl, l1, v, hv, ov, fun W => by simp only [execOp]; rw [dv]; rfl⟩
  case nilCheck x =>
    have h : aCheck x type P c g = some (s, chk) := h
    unfold aCheck at h
    split at h
    · split at h
      · rename_i s1 hs1
        injection h with h
        obtain ⟨l1, b, o, q2, q3, q4⟩ := offs hs1 h
        refine ⟨rfl, l1, _, q3, ok_mkptr q4, fun W => ?_⟩
        rw [den_mkptr, Nat.add_zero, ← q2]
        exact run_nilCheck (o := ⟨dst, .nilCheck x, type, pos, after, guard⟩) rfl (by rw [q2]; rfl) W
      · cases h
    · cases h
  case fieldAddr t x f =>
    have h : aField t x f type P c g = some (s, chk) := h
    unfold aField at h
    split at h
    · rename_i off sz agg hf
      split at h
      · rename_i s1 hs1
        injection h with h
        obtain ⟨l1, b, o, q2, q3, q4⟩ := offs hs1 h
        obtain ⟨fs, fd, d, i, hF⟩ := fieldOf_ok hf
        refine ⟨rfl, l1, _, q3, ok_mkptr q4, fun W => ?_⟩
        simp only [execOp]
        refine run_val ?_
        rw [q2, den_mkptr]
        have := run_fieldAt (P := P) (b := E.φ b) (o := o) hF.st hF.get hF.info (by rw [← hF.sz]; omega) W
        rw [← hF.off] at this
        exact this
      · cases h
    · cases h
  all_goals (have h : (none : Al) = some (s, chk) := h; cases h)
theorem ptrC_ok {s : Src} {nxt : Tc} (h : (ptrC s nxt).run rec e w k = true) : (∃ s0 n v, s = .off s0 n ∧ s0.val e = some v ∧ v.t = 17) ∧ nxt.run rec e w k = true := by
  unfold ptrC at h
  split at h
  · rename_i s0 n
    obtain ⟨v, hv, h⟩ := srcK_ok h
    obtain ⟨ht, h⟩ := ptrK_ok h
    exact ⟨⟨s0, n, v, rfl, hv, ht⟩, h⟩
  · exact absurd h (bad_false (n := 428))
def putT (tmps : Array Value) (d : Option Tmp) (v : Value) : Array Value := match d with
  | none => tmps
  | some d => tmps.setIfInBounds d v
theorem finC_put {tmps : Array Value} {v : V} {rd : Nat} {d : Option Nat} {next : Sg → Tc} (h : (finC c g rd d next).run rec e w k v = true) (hg : GR E nx c g e tmps) (hv : ok E nx v) :
    ∃ g' e', (next g').run rec e' w k = true ∧ GR E nx c g' e' (putT tmps d (den E v)) := by
  cases d with
  | none => exact finC_ok h hg hv
  | some d => exact finC_ok h hg hv
theorem put_tmps (a : Act) (d : Option Tmp) (v : Value) : (a.put d v).tmps = putT a.tmps d v := by cases d <;> rfl
/-- one that is done: it speaks of a place, or is done -/
theorem doC_ok {rd : Nat} {o : Oper} {next : Sg → Tc} (hG : GR E nx c g e a.tmps) (hg : Glob E nx) (h : (doC P c g rd o next).run rec e w k = true) :
    (kindOf o.op P = 0 ∧ ∃ v g', ok E nx v ∧ (∀ W, (execOp a.eval o).run P W = .ok (.value (den E v)) W) ∧ (next g').run rec e w k = true ∧ GR E nx c g' e (putT a.tmps o.dst (den E v))) ∨
    (opC o.op P c g (finC c g rd o.dst next)).run rec e w k = true := by
  unfold doC at h
  split at h
  · rename_i hd; rw [hd]; exact .inr h
  · rename_i d hd
    rw [hd]
    split at h
    · rename_i s chk hal
      obtain ⟨hex, hal⟩ := cond_none hal
      split at h
      · cases hb : Nat.blt d c.m with
        | false => rw [hb] at h; exact absurd h (bad_false (n := 429))
        | true =>
          rw [hb] at h
          have hdm := blt_true hb
          have key : (chk = true → ∃ s0 n v, s = .off s0 n ∧ s0.val e = some v ∧ v.t = 17) → (g.add d s next).run rec e w k = true → (kindOf o.op P = 0 ∧ ∃ v g', ok E nx v ∧ (∀ W, (execOp a.eval o).run P W = .ok (.value (den E v)) W) ∧ (next g').run rec e w k = true ∧ GR E nx c g' e (putT a.tmps (some d) (den E v))) := fun hc h => by
            obtain ⟨h0, h1, v, hv, ov, hrun⟩ := alias_ok hG hg hal hc
            rw [add_eq] at h
            refine ⟨h0, v, _, ov, hrun, h, ?_⟩
            refine ((hG.kill d).lose hex (fun i t hm => (hG.mem_kill hm).2.1) (den E v)).add' hdm hex h1 ⟨v, hv, ov, ?_⟩
            exact Array.getElem?_setIfInBounds_self_of_lt (by rw [hG.tr.1]; exact hdm)
          cases chk with
          | false => exact .inl (key (fun h => by cases h) h)
          | true =>
            obtain ⟨hc, h⟩ := ptrC_ok h
            exact .inl (key (fun _ => hc) h)
      · exact .inr h
    · exact .inr h
theorem skipC_ok {rd : Nat} {d : Option Tmp} {next : Sg → Tc} (hG : GR E nx c g e a.tmps) (h : (skipC c g rd d next).run rec e w k = true) : ∃ g' e', (next g').run rec e' w k = true ∧ GR E nx c g' e' (putT a.tmps d undef) := by
  unfold skipC at h
  split at h
  · exact ⟨g, e, h, hG⟩
  · rename_i d
    cases hex : isEx c d with
    | false =>
      rw [hex] at h
      simp only [] at h
      cases hb : Nat.blt d c.m with
      | false => rw [hb] at h; exact absurd h (bad_false (n := 175))
      | true =>
        rw [hb] at h
        simp only [] at h
        split at h
        · rw [add_eq] at h
          refine ⟨_, e, h, ?_⟩
          refine ((hG.kill d).lose hex (fun i t hm => (hG.mem_kill hm).2.1) undef).add' (blt_true hb) hex trivial ⟨.undef, rfl, okUndef E nx, ?_⟩
          rw [denUndef]
          exact Array.getElem?_setIfInBounds_self_of_lt (by rw [hG.tr.1]; exact blt_true hb)
        · exact absurd h (bad_false (n := 175))
    | true =>
      rw [hex] at h
      obtain ⟨g', e', h1, h2⟩ := finC_ok (v := .undef) h hG (okUndef E nx)
      rw [denUndef] at h2
      exact ⟨g', e', h1, h2⟩

/-! ### Guards -/
/-- what is known of guards -/
def GK (ops : Array Oper) (gs : List (Nat × Nat)) (tmps : Array Value) : Prop := ∀ j b, findG gs j = some b → b ≤ 2 ∧ (b = 1 → yielded ops tmps j = some true) ∧ (b = 0 → yielded ops tmps j = some false) ∧ (b = 2 → yielded ops tmps j = none)
theorem GK.nil (ops : Array Oper) (tmps : Array Value) : GK ops [] tmps := fun j b h => by cases h
theorem findG_cons (i b : Nat) (gs : List (Nat × Nat)) (j : Nat) : findG ((i, b) :: gs) j = if i = j then some b else findG gs j := by
  show (Bool.casesOn (motive := fun _ => Option Nat) (Nat.beq i j) (findG gs j) (some b)) = _
  by_cases h : i = j
  · subst h; simp
  · have : Nat.beq i j = false := by cases hb : Nat.beq i j with | false => rfl | true => exact absurd (Nat.eq_of_beq_eq_true hb) h
    rw [this, if_neg h]
theorem GK.cons {ops : Array Oper} {gs : List (Nat × Nat)} {tmps : Array Value} (h : GK ops gs tmps) {i b : Nat} (hb : b ≤ 2 ∧ (b = 1 → yielded ops tmps i = some true) ∧ (b = 0 → yielded ops tmps i = some false) ∧ (b = 2 → yielded ops tmps i = none)) : GK ops ((i, b) :: gs) tmps := fun j c hc => by
  rw [findG_cons] at hc
  split at hc
  · rename_i e; subst e; cases hc; exact hb
  · exact h j c hc
theorem findG_kill (ops : List Oper) (d : Nat) : ∀ {gs : List (Nat × Nat)} {j b : Nat}, findG (killG ops d gs) j = some b → findG gs j = some b ∧ (ops[j]?).bind (·.dst) ≠ some d
  | [], j, b, h => by cases h
  | (i, q) :: gs, j, b, h => by
    unfold killG at h
    rw [findG_cons]
    split at h
    · rename_i hn
      rw [findG_cons] at h
      split at h
      · rename_i e
        rw [if_pos e]
        subst e
        exact ⟨h, by rw [hn]; intro h; cases h⟩
      · rename_i e
        rw [if_neg e]
        exact findG_kill ops d h
    · rename_i gd hgd
      cases hb : Nat.beq gd d with
      | false =>
        rw [hb] at h
        simp only [] at h
        rw [findG_cons] at h
        split at h
        · rename_i e
          rw [if_pos e]
          subst e
          refine ⟨h, ?_⟩
          rw [hgd]
          intro e
          cases e
          rw [Nat.beq_refl] at hb
          cases hb
        · rename_i e
          rw [if_neg e]
          exact findG_kill ops d h
      | true =>
        rw [hb] at h
        obtain ⟨h1, h2⟩ := findG_kill ops d (gs := gs) h
        by_cases e : i = j
        · subst e
          rw [hgd] at h2
          exact absurd (congrArg some (Nat.eq_of_beq_eq_true hb)) h2
        · rw [if_neg e]; exact ⟨h1, h2⟩
theorem yielded_put {ops : Array Oper} {tmps : Array Value} {d j : Nat} {v : Value} (h : (ops[j]?).bind (·.dst) ≠ some d) : yielded ops (tmps.setIfInBounds d v) j = yielded ops tmps j := by
  unfold yielded
  cases hd : (ops[j]?).bind (·.dst) with
  | none => rfl
  | some q =>
    have hne : d ≠ q := fun e => h (by rw [hd, e])
    show (match (tmps.setIfInBounds d v)[q]? with | some (.bool b) => some b | _ => none) = (match tmps[q]? with | some (.bool b) => some b | _ => none)
    rw [Array.getElem?_setIfInBounds_ne hne]
theorem GK.put {ops : Array Oper} {gs : List (Nat × Nat)} {tmps : Array Value} (h : GK ops gs tmps) (d : Option Tmp) (v : Value) : GK ops (killO ops.toList d gs) (putT tmps d v) := by
  cases d with
  | none => exact h
  | some d =>
    intro j b hj
    obtain ⟨h1, h2⟩ := findG_kill ops.toList d hj
    have h2 : (ops[j]?).bind (·.dst) ≠ some d := by simpa using h2
    show b ≤ 2 ∧ (b = 1 → yielded ops (tmps.setIfInBounds d v) j = some true) ∧ (b = 0 → yielded ops (tmps.setIfInBounds d v) j = some false) ∧ (b = 2 → yielded ops (tmps.setIfInBounds d v) j = none)
    rw [yielded_put h2]
    exact h j b h1
/-- what a slot's value says of a guard -/
def truthOf : Value → Option Bool
  | .bool b => some b
  | _ => none
theorem yielded_eq {ops : Array Oper} {j gd : Nat} (h : (ops[j]?).bind (·.dst) = some gd) : yielded ops a.tmps j = truthOf (a.eval (.tmp gd)) := by
  unfold yielded
  rw [h]
  show (match a.tmps[gd]? with | some (.bool b) => some b | _ => none) = truthOf (a.tmps.getD gd undef)
  rw [Array.getD_eq_getD_getElem?]
  cases a.tmps[gd]? with
  | none => rfl
  | some v => cases v <;> rfl
theorem goC_ok {ops : Array Oper} {rd i : Nat} {o : Oper} {gs : List (Nat × Nat)} {sk : Nat} {next : Sg → List (Nat × Nat) → Nat → Tc} (hG : GR E w.nx c g e a.tmps) (hg : Glob E w.nx) (hm : Ms E w) (hk : GK ops gs a.tmps) (hi : ops[i]? = some o)
    (h : (goC P c ops.toList rd i o g gs sk next).run rec e w k = true) :
    ∃ w1 gs1, Qt E E w w1 ∧ GK ops gs1 a.tmps ∧
      ((Region.wanted o (yielded ops a.tmps) = true ∧ (doC P c g rd o fun g => next g (killO ops.toList o.dst gs1) sk).run rec e w1 k = true) ∨
       (Region.wanted o (yielded ops a.tmps) = false ∧ (skipC c g rd o.dst fun g => next g ((i, 2) :: killO ops.toList o.dst gs1) (Nat.lor sk (Nat.shiftLeft 1 i))).run rec e w1 k = true)) := by
  unfold goC at h
  simp only [] at h
  split at h
  · rename_i hgd
    exact ⟨w, gs, Qt.refl hm, hk, .inl ⟨by unfold Region.wanted; rw [hgd], h⟩⟩
  · rename_i j want hgd
    have hw : ∀ _ : Nat, Region.wanted o (yielded ops a.tmps) = (yielded ops a.tmps j == some want) := fun _ => by unfold Region.wanted; rw [hgd]
    split at h
    · rename_i b hb
      refine ⟨w, gs, Qt.refl hm, hk, ?_⟩
      obtain ⟨kl, k1, k0, k2⟩ := hk j b hb
      cases hq : Nat.beq b (wantN want) with
      | true =>
        rw [hq] at h
        refine .inl ⟨?_, h⟩
        rw [hw b]
        have hbn := Nat.eq_of_beq_eq_true hq
        cases want with
        | true => rw [k1 hbn]; rfl
        | false => rw [k0 hbn]; rfl
      | false =>
        rw [hq] at h
        refine .inr ⟨?_, h⟩
        rw [hw b]
        have hne : b ≠ wantN want := fun e => by rw [e, Nat.beq_refl] at hq; cases hq
        have h3 : b = 0 ∨ b = 1 ∨ b = 2 := by omega
        rcases h3 with e | e | e
        · rw [k0 e]
          cases want with
          | true => rfl
          | false => exact absurd e hne
        · rw [k1 e]
          cases want with
          | true => exact absurd e hne
          | false => rfl
        · rw [k2 e]; rfl
    · split at h
      · exact absurd h (bad_false (n := 176))
      · rename_i gd hgdst
        have hgdst : (ops[j]?).bind (·.dst) = some gd := by simpa using hgdst
        obtain ⟨v, h, hv, e1⟩ := is_x hG hg (.tmp gd) _ h
        have hy := yielded_eq (a := a) hgdst
        rw [e1] at hy
        rcases isN_cases h with ⟨ht, h⟩ | ⟨_, h⟩
        · have hn : yielded ops a.tmps j = none := by
            rw [hy, (ok_tup hv ht).2]; rfl
          refine ⟨w, (j, 2) :: gs, Qt.refl hm, hk.cons ⟨Nat.le_refl _, fun h => (by cases h), fun h => (by cases h), fun _ => hn⟩, .inr ⟨?_, h⟩⟩
          rw [hw 0, hn]; rfl
        · obtain ⟨t, w1, q, h, e2⟩ := test_ok hv hm h
          rw [e2] at hy
          have hy : yielded ops a.tmps j = some t := hy
          cases t with
          | true =>
            refine ⟨w1, (j, 1) :: gs, q, hk.cons ⟨by decide, fun _ => hy, fun h => (by cases h), fun h => (by cases h)⟩, ?_⟩
            cases want with
            | true => exact .inl ⟨by rw [hw 0, hy]; rfl, h⟩
            | false => exact .inr ⟨by rw [hw 0, hy]; rfl, h⟩
          | false =>
            refine ⟨w1, (j, 0) :: gs, q, hk.cons ⟨by decide, fun h => (by cases h), fun _ => hy, fun h => (by cases h)⟩, ?_⟩
            cases want with
            | true => exact .inr ⟨by rw [hw 0, hy]; rfl, h⟩
            | false => exact .inl ⟨by rw [hw 0, hy]; rfl, h⟩

/-! ### A deferred call; any operation -/
theorem op_defer {ro : Option Nat} {n : Nat} {o : Oper} {cl : Call} {next : Act → World → Prop} {Q : Exit → Act → World → Prop} (hro : w.r = none → ro = none) (ho : o.op = .defer cl) (hG : GR E w.nx c g e a.tmps) (hs : SR E w K W0 Wd) (hd : DR E w.nx w.ds a.defers)
    (hr : (opC o.op P c g fin).run rec e w k = true) (hn : Cont E w K W0 a o.dst (fin.of rec e k) next) : o.wpIn (Fe ro) n P a Wd next Q := by
  rw [ho] at hr
  have hr : (deferC cl (glX c g cl.args.toList) fin).run rec e w k = true := hr
  have L := is_l hG hs.gl cl.args.toList
  have hargs : cl.args.map a.eval = (cl.args.toList.map a.eval).toArray := by apply Array.ext'; simp
  unfold deferC at hr
  split at hr
  · rename_i f hb
    obtain ⟨l, hr, hl, e2⟩ := L _ hr
    obtain ⟨h, nx, ms, ds, r⟩ := w
    cases r with
    | some l => exact absurd hr (bad_false (n := 167))
    | none =>
      have er := hro rfl
      subst er
      refine ⟨fun f _ => fc_fn none f, ?_⟩
      have he : (execOp a.eval o).run P Wd = .ok (.defer ⟨.fn (.func f) #[], (denL E l).toArray⟩) Wd := by
        simp only [execOp, ho, resolve, hb, bind]
        rw [hargs, e2]
        show Sem.run P (Sem.pure (Next.defer ⟨.fn (.func f) #[], #[] ++ (denL E l).toArray⟩)) Wd = _
        rw [Array.empty_append]; rfl
      rw [fc_round, Oper.semAt_none, he, Oper.uponIn_defer]
      have := hn E ⟨h, nx, ms, .call f l :: ds, none⟩ .undef Wd (⟨.fn (.func f) #[], (denL E l).toArray⟩ :: a.defers) (Ext.refl _ _) (hs.frame _ _) (okUndef E _) ⟨⟨hl, rfl⟩, hd⟩ rfl hr
      rw [denUndef] at this
      exact this
  · exact absurd hr (bad_false (n := 168))
theorem op_wp (hP : PH P) (hc : CallOk P rec.call) (hrd : RoundOk P rec.round) {ro : Option Nat} {n : Nat} {o : Oper} {next : Act → World → Prop} {Q : Exit → Act → World → Prop} (hro : w.r = none → ro = none) (hG : GR E w.nx c g e a.tmps) (hs : SR E w K W0 Wd) (hd : DR E w.nx w.ds a.defers)
    (hr : (opC o.op P c g fin).run rec e w k = true) (hn : Cont E w K W0 a o.dst (fin.of rec e k) next) : o.wpIn (Fe ro) n P a Wd next Q := by
  cases hic : isCall o.op with
  | false =>
    have hnd : ∀ cl, o.op ≠ .defer cl := fun cl h => by rw [h] at hic; cases hic
    exact wpIn_of_eff hnd hd (op_eff hP.stood hG hs hic hr) hn
  | true =>
    cases ho : o.op with
    | call cl => exact op_call hP hc hrd ho (fun b hb => by rw [ho] at hic; unfold isCall at hic; simp only [hb] at hic; cases hic) hG hs hd hr hn
    | defer cl => exact op_defer hro ho hG hs hd hr hn
    | _ => rw [ho] at hic; cases hic

theorem yielded_undef {ops : Array Oper} {i : Nat} {o : Oper} (ho : ops[i]? = some o) (tmps : Array Value) : yielded ops (putT tmps o.dst undef) i = none := by
  unfold yielded
  rw [ho]
  cases hq : o.dst with
  | none =>
    show (match ((some o).bind fun x => x.dst).bind fun x => (putT tmps none undef)[x]? with | some (Value.bool b) => some b | _ => none) = none
    have e1 : ((some o).bind fun x => x.dst) = none := hq
    rw [e1]; rfl
  | some d =>
    show (match ((some o).bind fun x => x.dst).bind fun x => (tmps.setIfInBounds d undef)[x]? with | some (Value.bool b) => some b | _ => none) = none
    have e1 : ((some o).bind fun x => x.dst) = some d := hq
    rw [e1]
    show (match (tmps.setIfInBounds d undef)[d]? with | some (Value.bool b) => some b | _ => none) = none
    by_cases hlt : d < tmps.size
    · rw [Array.getElem?_setIfInBounds_self_of_lt hlt]; rfl
    · have e2 : (tmps.setIfInBounds d undef)[d]? = none := Array.getElem?_eq_none (by rw [Array.size_setIfInBounds]; exact Nat.le_of_not_lt hlt)
      rw [e2]
/-! ### A region in its own order -/
/-- what is asked of the code behind -/
def NxQ (E : En) (w : W) (K : Nat → Prop) (W0 : World) (c : Cx) (t : Tc) (rec : Rec) (k : Ex → Env → W → Bool) (Q : Act → World → Prop) : Prop :=
  ∀ E' e' w' a' W', Ext E w.nx E' w'.nx → SR E' w' K W0 W' → TR E' w'.nx c.m c.ex e' a'.tmps → DR E' w'.nx w'.ds a'.defers → w'.r = w.r → t.run rec e' w' k = true → Q a' W'
theorem NxQ.ext {E' : En} {w' : W} {t : Tc} {Q : Act → World → Prop} (h : NxQ E w K W0 c t rec k Q) (x : Ext E w.nx E' w'.nx) (hr : w'.r = w.r) : NxQ E' w' K W0 c t rec k Q :=
  fun E2 e2 w2 a2 W2 h1 h2 h3 h4 h5 h6 => h E2 e2 w2 a2 W2 (x.trans h1) h2 h3 h4 (h5.trans hr) h6
theorem straight_ok (hP : PH P) (hc : CallOk P rec.call) (hrd : RoundOk P rec.round) {ro : Option Nat} {n : Nat} {ops : Array Oper} {Q : Exit → Act → World → Prop} {nxt : Tc} : ∀ (l : List Oper) (i : Nat) (g : Sg) (gs : List (Nat × Nat)) (sk : Nat) (E : En) (e : Env) (w : W) (a : Act) (Wd : World),
    (∀ j, l[j]? = ops[i + j]?) → (w.r = none → ro = none) → GR E w.nx c g e a.tmps → SR E w K W0 Wd → DR E w.nx w.ds a.defers → GK ops gs a.tmps → NxQ E w K W0 c nxt rec k (Q .normal) →
    (regC P c ops.toList (straight l i) g gs sk nxt).run rec e w k = true → wpOpsIn (Fe ro) n P ops Q (List.range' i l.length) a Wd
  | [], i, g, gs, sk, E, e, w, a, Wd, _, _, hG, hs, hd, _, hQ, hr => hQ E e w a Wd (Ext.refl _ _) hs hG.tr hd rfl hr
  | o :: l, i, g, gs, sk, E, e, w, a, Wd, hl, hro, hG, hs, hd, hk, hQ, hr => by
    have ho : ops[i]? = some o := by have := hl 0; simpa using this.symm
    have hl' : ∀ j, l[j]? = ops[i + 1 + j]? := fun j => by have := hl (j + 1); rw [List.getElem?_cons_succ] at this; rw [this]; congr 1; omega
    have hr : (sx (readM ops.toList (straight l (i + 1))) fun rd => goC P c ops.toList rd i o g gs sk fun g gs sk => regC P c ops.toList (straight l (i + 1)) g gs sk nxt).run rec e w k = true := hr
    rw [sx_eq] at hr
    obtain ⟨w1, gs1, q, hk1, hcase⟩ := goC_ok hG hs.gl hs.ms hk ho hr
    have hs1 := hs.quiet q
    have hG1 := hG.ext q.ext
    have hd1 : DR E w1.nx w1.ds a.defers := by rw [q.ds]; exact hd.ext q.ext
    have hro1 : w1.r = none → ro = none := fun h => hro (q.r ▸ h)
    have hQ1 : NxQ E w1 K W0 c nxt rec k (Q .normal) := hQ.ext q.ext q.r
    rw [List.length_cons, List.range'_succ, wpOpsIn_cons]
    unfold wpOpIn
    simp only [ho]
    rcases hcase with ⟨hw, hr⟩ | ⟨hw, hr⟩
    · rw [if_pos hw]
      rcases doC_ok hG1 hs1.gl hr with ⟨h0, v, g', ov, hrun, hr, hG'⟩ | hr
      · have hnd : ∀ cl, o.op ≠ .defer cl := fun cl h => by rw [h] at h0; cases h0
        refine ⟨fun f _ => fc_fn ro f, ?_⟩
        rw [fc_round, Oper.semAt_eq ro a.eval o hnd, hrun Wd, Oper.uponIn_value]
        refine straight_ok hP hc hrd l (i + 1) g' _ sk E e w1 (a.put o.dst (den E v)) Wd hl' hro1 (by rw [put_tmps]; exact hG') hs1 (by cases o.dst <;> exact hd1) (by rw [put_tmps]; exact hk1.put o.dst (den E v)) hQ1 hr
      · refine op_wp hP hc hrd hro1 hG1 hs1 hd1 hr fun E' w' v W' ds' x1 x2 x3 x4 x5 x6 => ?_
        obtain ⟨g', e', h1, h2⟩ := finC_put x6 (hG1.ext x1) x3
        refine straight_ok hP hc hrd l (i + 1) g' _ sk E' e' w' ({ a with defers := ds' }.put o.dst (den E' v)) W' hl' (fun h => hro1 (x5 ▸ h)) (by rw [put_tmps]; exact h2) x2 (by cases o.dst <;> exact x4) (by rw [put_tmps]; exact hk1.put o.dst (den E' v)) (hQ1.ext x1 x5) h1
    · rw [if_neg (by rw [hw]; decide)]
      refine ⟨fun f _ => fc_fn ro f, ?_⟩
      obtain ⟨g', e', h1, h2⟩ := skipC_ok hG1 hr
      refine straight_ok hP hc hrd l (i + 1) g' _ _ E e' w1 (a.put o.dst undef) Wd hl' hro1 (by rw [put_tmps]; exact h2) hs1 (by cases o.dst <;> exact hd1) (by
        rw [put_tmps]
        refine (hk1.put o.dst undef).cons ⟨Nat.le_refl _, fun h => (by cases h), fun h => (by cases h), fun _ => ?_⟩
        exact yielded_undef ho a.tmps) hQ1 h1
end Go.Proofs.YtcajgbpcimimhaaGreatDoor.Vm
namespace Go.Proofs.YtcajgbpcimimhaaGreatDoor.Vm
open Go Go.RowKit
variable {P : Program} {E : En} {w : W} {K : Nat → Prop} {W0 Wd : World} {rec : Rec} {e : Env} {k : Ex → Env → W → Bool} {fin : Fv} {nx : Nat} {c : Cx} {g : Sg} {a : Act}

theorem wpIn_loop_ladder {F : Fence} {n : Nat} {Q : Exit → Act → World → Prop} {w : World} {c : Code} (S : Nat → Act → World → Prop) {m : Nat} (h₀ : S m a w)
    (round : ∀ j a w, S j a w → c.wpIn F n P (Exit.then (fun a' w' => ∃ i, i < j ∧ S i a' w') Q) a w) : (Code.loop c).wpIn F n P Q a w := by
  intro b k cs hro hb hr
  have key : ∀ j a w, S j a w →
      ∃ e a' w', Q e a' w' ∧ ArrivesIn (Machine.fenced P F) P (lone (b.atR a (.code c :: .inLoop c :: k)) cs w) b k cs e a' w' := by
    intro j
    induction j using Nat.strongRecOn with
    | _ j ih =>
      intro a w hI
      obtain ⟨e, a₁, w₁, hq, harr⟩ := round j a w hI b (.inLoop c :: k) cs hro hb hr
      cases e with
      | normal =>
        obtain ⟨i, hi, hI₁⟩ := hq
        obtain ⟨e₂, a₂, w₂, hq₂, harr₂⟩ := ih i hi a₁ w₁ hI₁
        exact ⟨e₂, a₂, w₂, hq₂, .of_steps (StepsIn.trans harr (.one (fenced_calm hb hr rfl) stepR_inLoop)) harr₂⟩
      | exit id => exact ⟨_, a₁, w₁, hq, .pass (x := .inLoop c) rfl (fun _ _ => .inl (by simp)) harr⟩
      | goto l => exact ⟨_, a₁, w₁, hq, .pass (x := .inLoop c) rfl (fun _ _ => .inl (by simp)) harr⟩
      | ret => exact ⟨_, a₁, w₁, hq, .pass (x := .inLoop c) rfl (fun _ _ => .inl (by simp)) harr⟩
      | panic ch => exact ⟨_, a₁, w₁, hq, .pass (x := .inLoop c) rfl (fun _ _ => .inl (by simp)) harr⟩
      | outgrown => exact ⟨_, a₁, w₁, hq, .pass (x := .inLoop c) rfl (fun _ _ => .inl (by simp)) harr⟩
  obtain ⟨e, a', w', hq, harr⟩ := key m a w h₀
  exact ⟨e, a', w', hq, .of_steps (.one (fenced_calm hb hr rfl) stepR_loop) harr⟩

/-- how code is left -/
def exOf : Ex → Exit
  | .n => .normal
  | .x id => .exit id
  | .r => .ret
/-- the round that the frame is of -/
structure RO (E : En) (w : W) (ro : Option Nat) : Prop where
  eq : ro = w.r.map E.φ
  lt : ∀ l, w.r = some l → l < w.nx
theorem RO.none {ro : Option Nat} (h : RO E w ro) : w.r = none → ro = none := fun hn => by rw [h.eq, hn]; rfl
theorem RO.ext {E' : En} {w' : W} {ro : Option Nat} (h : RO E w ro) (x : Ext E w.nx E' w'.nx) (hr : w'.r = w.r) : RO E' w' ro :=
  ⟨by
    rw [h.eq, hr]
    cases hq : w.r with
    | none => rfl
    | some l => show some _ = some _; rw [x.φ l (h.lt l hq)], fun l hl => Nat.lt_of_lt_of_le (h.lt l (hr ▸ hl)) x.le⟩
/-- what is asked of what catches an exit -/
def KX (E : En) (w : W) (K : Nat → Prop) (W0 : World) (c : Cx) (k : Ex → Env → W → Bool) (Q : Exit → Act → World → Prop) : Prop :=
  ∀ x E' e' w' a' W', x ≠ Ex.n → Ext E w.nx E' w'.nx → SR E' w' K W0 W' → TR E' w'.nx c.m c.ex e' a'.tmps → DR E' w'.nx w'.ds a'.defers → w'.r = w.r → k x e' w' = true → Q (exOf x) a' W'
theorem KX.ext {E' : En} {w' : W} {Q : Exit → Act → World → Prop} (h : KX E w K W0 c k Q) (x : Ext E w.nx E' w'.nx) (hr : w'.r = w.r) : KX E' w' K W0 c k Q :=
  fun y E2 e2 w2 a2 W2 hy h1 h2 h3 h4 h5 h6 => h y E2 e2 w2 a2 W2 hy (x.trans h1) h2 h3 h4 (h5.trans hr) h6
/-- what holds of code at a state from which the rest comes out true -/
def CodeOk (P : Program) (rec : Rec) (c : Cx) (code : Code) (nxt : Tc) : Prop :=
  ∀ (k : Ex → Env → W → Bool) (K : Nat → Prop) (W0 : World) (Q : Exit → Act → World → Prop) (E : En) (e : Env) (w : W) (a : Act) (Wd : World) (ro : Option Nat) (n : Nat),
    RO E w ro → TR E w.nx c.m c.ex e a.tmps → SR E w K W0 Wd → DR E w.nx w.ds a.defers → NxQ E w K W0 c nxt rec k (Q .normal) → KX E w K W0 c k Q → (sem P c code nxt).run rec e w k = true → code.wpIn (Fe ro) n P Q a Wd
/-- loops -/
def LoopOk (P : Program) (loop : Nat → Nat → Code → Env → W → (Ex → Env → W → Bool) → Bool) : Prop :=
  ∀ (m ex : Nat) (b : Code) (k : Ex → Env → W → Bool) (K : Nat → Prop) (W0 : World) (Q : Exit → Act → World → Prop) (E : En) (e : Env) (w : W) (a : Act) (Wd : World) (ro : Option Nat) (n : Nat),
    RO E w ro → TR E w.nx m ex e a.tmps → SR E w K W0 Wd → DR E w.nx w.ds a.defers → KX E w K W0 ⟨m, ex⟩ k Q → loop m ex b e w k = true → (Code.loop b).wpIn (Fe ro) n P Q a Wd
/-- a region that draws -/
def DrawnOk (P : Program) : Prop := ∀ (rec : Rec) (c : Cx) (id : Nat) (ops : Array Oper) (nxt : Tc), CallOk P rec.call → RoundOk P rec.round → CodeOk P rec c (.region id ops true) nxt
/-- a range over a function -/
def RangeOk (P : Program) : Prop := ∀ (rec : Rec) (c : Cx) (f : Operand) (ps : Array Tmp) (assign body : Code) (nxt : Tc), CallOk P rec.call → RoundOk P rec.round → CodeOk P rec c (.rangeFunc f ps assign body) nxt

theorem endC_run {e' : Env} {w' : W} : endC.run rec e' w' k = k .n e' w' := rfl

theorem sem_ok (hP : PH P) (hD : DrawnOk P) (hR : RangeOk P) (hc : CallOk P rec.call) (hrd : RoundOk P rec.round) (hl : LoopOk P rec.loop) : ∀ (code : Code) (nxt : Tc), CodeOk P rec c code nxt
  | .skip, nxt => fun k K W0 Q E e w a Wd ro n hro ht hs hd hN hK h => wpIn_skip (hN E e w a Wd (Ext.refl _ _) hs ht hd rfl h)
  | .label l, nxt => fun k K W0 Q E e w a Wd ro n hro ht hs hd hN hK h => wpIn_label (hN E e w a Wd (Ext.refl _ _) hs ht hd rfl h)
  | .exit id, nxt => fun k K W0 Q E e w a Wd ro n hro ht hs hd hN hK h => wpIn_exit (hK (.x id) E e w a Wd (fun h => by cases h) (Ext.refl _ _) hs ht hd rfl h)
  | .ret, nxt => fun k K W0 Q E e w a Wd ro n hro ht hs hd hN hK h => wpIn_ret (hK .r E e w a Wd (fun h => by cases h) (Ext.refl _ _) hs ht hd rfl h)
  | .region id ops true, nxt => hD rec c id ops nxt hc hrd
  | .region id ops false, nxt => fun k K W0 Q E e w a Wd ro n hro ht hs hd hN hK h => by
    refine wpIn_region ?_
    have h : (regC P c ops.toList (straight ops.toList 0) sg0 [] 0 nxt).run rec e w k = true := h
    have := straight_ok hP hc hrd (ro := ro) (n := n) (Q := Q) ops.toList 0 sg0 [] 0 E e w a Wd (fun j => by rw [Nat.zero_add, Array.getElem?_toList]) hro.none (GR.start ht) hs hd (GK.nil ops a.tmps) hN h
    rw [Array.length_toList] at this
    rw [List.range_eq_range']
    exact this
  | .seq x y, nxt => fun k K W0 Q E e w a Wd ro n hro ht hs hd hN hK h => by
    have h : (sem P c x (sem P c y nxt)).run rec e w k = true := h
    refine wpIn_seq (sem_ok hP hD hR hc hrd hl x (sem P c y nxt) k K W0 _ E e w a Wd ro n hro ht hs hd (fun E' e' w' a' W' h1 h2 h3 h4 h5 h6 => ?_) (fun x' E' e' w' a' W' hx h1 h2 h3 h4 h5 h6 => ?_) h)
    · exact sem_ok hP hD hR hc hrd hl y nxt k K W0 Q E' e' w' a' W' ro n (hro.ext h1 h5) h3 h2 h4 (hN.ext h1 h5) (hK.ext h1 h5) h6
    · have := hK x' E' e' w' a' W' hx h1 h2 h3 h4 h5 h6
      cases x' with
      | n => exact absurd rfl hx
      | x id => exact this
      | r => exact this
  | .cond x ct cf, nxt => fun k K W0 Q E e w a Wd ro n hro ht hs hd hN hK h => by
    have h : (gkX c sg0 x).run e (fun v => test v w fun t' w => Bool.casesOn t' ((sem P c cf nxt).run rec e w k) ((sem P c ct nxt).run rec e w k)) = true := h
    obtain ⟨v, h, hv, e1⟩ := is_x (GR.start ht) hs.gl x _ h
    obtain ⟨t, w1, q, h, e2⟩ := test_ok hv hs.ms h
    refine wpIn_cond (t := t) (by rw [e1, e2]) ?_
    have hd1 : DR E w1.nx w1.ds a.defers := by rw [q.ds]; exact hd.ext q.ext
    cases t with
    | true => exact sem_ok hP hD hR hc hrd hl ct nxt k K W0 Q E e w1 a Wd ro n (hro.ext q.ext q.r) (ht.ext q.ext) (hs.quiet q) hd1 (hN.ext q.ext q.r) (hK.ext q.ext q.r) h
    | false => exact sem_ok hP hD hR hc hrd hl cf nxt k K W0 Q E e w1 a Wd ro n (hro.ext q.ext q.r) (ht.ext q.ext) (hs.quiet q) hd1 (hN.ext q.ext q.r) (hK.ext q.ext q.r) h
  | .block id b, nxt => fun k K W0 Q E e w a Wd ro n hro ht hs hd hN hK h => by
    have h : (sem P c b endC).run rec e w (fun x e w => Ex.casesOn x (nxt.run rec e w k) (fun i => Bool.casesOn (Nat.beq i id) (k (.x i) e w) (nxt.run rec e w k)) (k .r e w)) = true := h
    refine wpIn_block (sem_ok hP hD hR hc hrd hl b endC _ K W0 _ E e w a Wd ro n hro ht hs hd (fun E' e' w' a' W' h1 h2 h3 h4 h5 h6 => ?_) (fun x' E' e' w' a' W' hx h1 h2 h3 h4 h5 h6 => ?_) h)
    · exact hN E' e' w' a' W' h1 h2 h3 h4 h5 h6
    · cases x' with
      | n => exact absurd rfl hx
      | x i =>
        show (if i = id then Q .normal a' W' else Q (.exit i) a' W')
        by_cases hi : i = id
        · rw [if_pos hi]
          have h6 : (Bool.casesOn (Nat.beq i id) (k (.x i) e' w') (nxt.run rec e' w' k) : Bool) = true := h6
          rw [show Nat.beq i id = true by subst hi; exact Nat.beq_refl i] at h6
          exact hN E' e' w' a' W' h1 h2 h3 h4 h5 h6
        · rw [if_neg hi]
          have h6 : (Bool.casesOn (Nat.beq i id) (k (.x i) e' w') (nxt.run rec e' w' k) : Bool) = true := h6
          have hb : Nat.beq i id = false := by cases hq : Nat.beq i id with | false => rfl | true => exact absurd (Nat.eq_of_beq_eq_true hq) hi
          rw [hb] at h6
          exact hK (.x i) E' e' w' a' W' hx h1 h2 h3 h4 h5 h6
      | r => exact hK .r E' e' w' a' W' hx h1 h2 h3 h4 h5 h6
  | .loop b, nxt => fun k K W0 Q E e w a Wd ro n hro ht hs hd hN hK h => by
    have h : rec.loop c.m c.ex b e w (fun x e w => Ex.casesOn x (nxt.run rec e w k) (fun i => k (.x i) e w) (k .r e w)) = true := h
    refine hl c.m c.ex b _ K W0 Q E e w a Wd ro n hro ht hs hd (fun x' E' e' w' a' W' hx h1 h2 h3 h4 h5 h6 => ?_) h
    cases x' with
    | n => exact absurd rfl hx
    | x i => exact hK (.x i) E' e' w' a' W' hx h1 h2 h3 h4 h5 h6
    | r => exact hK .r E' e' w' a' W' hx h1 h2 h3 h4 h5 h6
  | .rangeFunc f ps assign body, nxt => hR rec c f ps assign body nxt hc hrd
  | .goto l, nxt => fun k K W0 Q E e w a Wd ro n hro ht hs hd hN hK h => absurd h (bad_false (n := 183))
  | .refuse s, nxt => fun k K W0 Q E e w a Wd ro n hro ht hs hd hN hK h => absurd h (bad_false (n := 183))
  | .scope b, nxt => fun k K W0 Q E e w a Wd ro n hro ht hs hd hN hK h => absurd h (bad_false (n := 183))
end Go.Proofs.YtcajgbpcimimhaaGreatDoor.Vm
namespace Go.Proofs.YtcajgbpcimimhaaGreatDoor.Vm
open Go Go.RowKit
variable {P : Program} {E : En} {w : W} {K : Nat → Prop} {W0 Wd : World} {rec : Rec} {e : Env} {k : Ex → Env → W → Bool} {fin : Fv} {nx : Nat} {c : Cx} {g : Sg} {a : Act}

/-- an object that may be written is given up; whatever lies in its place behind -/
theorem SR.gone (h : SR E w K W0 Wd) {id : Nat} (hid : id < w.nx) (hk : (w.h.at id).k ≠ 0) (hw : (w.h.at id).wr) {W' : World}
    (hoth : ∀ k, k ≠ E.φ id → W'.heap[k]? = Wd.heap[k]?) (hs : W'.heap.size = Wd.heap.size) (h1 : W'.os = Wd.os) (h2 : W'.tape = Wd.tape) (h3 : W'.output = Wd.output) (ds : List Dd) (r : Option Nat) :
    SR E ⟨w.h.put id .no, w.nx, w.ms, ds, r⟩ K W0 W' := by
  have d := h.drop hid ds r
  have hn := h.nx
  have hat : ∀ j, j < w.nx → (w.h.put id .no).at j = if j = id then .no else w.h.at j := fun j hj => Hp.at_put (by omega) (by omega) _
  refine ⟨d.nx, d.glob, fun j hj => ?_, d.inj, d.wr, fun k kk => ?_, h1.trans h.os, h2.trans h.tape, h3.trans h.output, by rw [hs]; exact h.size, d.ms, d.un, d.own, d.big⟩
  · have hj' : j < w.nx := hj
    show ObR E w.nx ((w.h.put id .no).at j) _
    rw [hat j hj']
    by_cases e : j = id
    · rw [if_pos e]; exact .inl rfl
    · rw [if_neg e]
      by_cases k0 : (w.h.at j).k = 0
      · exact .inl k0
      · rw [hoth _ (fun e2 => e (h.inj j id hj' hid k0 hk e2))]; exact h.ob j hj'
  · obtain ⟨a, b⟩ := h.keep k kk
    exact ⟨a, (hoth k (fun e => h.wr id hid hk hw (e ▸ kk))).trans b⟩

/-- the loop's record -/
theorem loopAt_ok (hs : SR E w K W0 Wd) {l : Nat} (hl : l < w.nx) {f : Loo → Env → Nat → Jp → Bool} (h : loopAt w l f = true) :
    (w.h.at l).k = 3 ∧ ∃ lo e st j r, (w.h.at l).o = .loop lo e st j ∧ Wd.heap[E.φ l]? = some (.loop r) ∧ LoopR E w.nx lo e st j r ∧ f lo e st j = true := by
  obtain ⟨hk, h⟩ := othAt_ok h
  refine ⟨hk, ?_⟩
  split at h
  · rename_i lo e st j ho
    rcases hs.ob l hl with h0 | ⟨h1, _⟩ | ⟨_, h1⟩
    · omega
    · omega
    · rw [ho] at h1
      obtain ⟨r, h2, h3⟩ := h1
      exact ⟨lo, e, st, j, r, ho, h2, h3, h⟩
  · exact absurd h (bad_false (n := 181))

/-! ### The statement -/
/-- what the statement lays -/
theorem enter_ok (hs : SR E w K W0 Wd) (hd : DR E w.nx w.ds a.defers) {ro : Option Nat} (hro : RO E w ro) {ps : Array Tmp} {assign body : Code} {fn : FuncId} (ht : TR E w.nx c.m c.ex e a.tmps) {f : Nat → W → Bool}
    (h : enter w (fun d w => w.new (.oth (.loop ⟨c.m, c.ex, ps.toList, assign, body, d⟩ e 0 .none)) f) = true) :
    ∃ E1 w1 l W1 mark, Ext E w.nx E1 w1.nx ∧ SR E1 w1 K W0 W1 ∧ DR E1 w1.nx w1.ds (mark ++ a.defers) ∧ w1.r = w.r ∧ l < w1.nx ∧
      (Instr.enterLoop fn a.tmps ps assign body ro).run P Wd = .ok (E1.φ l, mark) W1 ∧ f l w1 = true := by
  have hpush : ∀ (E : En) (w : W) (Wd : World) (d : Nat), SR E w K W0 Wd → d < w.nx → TR E w.nx c.m c.ex e a.tmps → w.new (.oth (.loop ⟨c.m, c.ex, ps.toList, assign, body, d⟩ e 0 .none)) f = true →
      SR (E.at w.nx Wd.heap.size) ⟨w.h.put w.nx (.oth (.loop ⟨c.m, c.ex, ps.toList, assign, body, d⟩ e 0 .none)), w.nx + 1, w.ms, w.ds, w.r⟩ K W0 (Wd.alloc (.loop { state := .ready, pending := none, fn, tmps := a.tmps, params := ps, assign, body, defers := E.φ d })) ∧
      f w.nx ⟨w.h.put w.nx (.oth (.loop ⟨c.m, c.ex, ps.toList, assign, body, d⟩ e 0 .none)), w.nx + 1, w.ms, w.ds, w.r⟩ = true := fun E w Wd d hs hd ht h => by
    obtain ⟨hn, h⟩ := W.new_ok h
    refine ⟨hs.alloc hn (o := .oth (.loop ⟨c.m, c.ex, ps.toList, assign, body, d⟩ e 0 .none)) (x := .loop { state := .ready, pending := none, fn, tmps := a.tmps, params := ps, assign, body, defers := E.φ d })
      (.inr (.inr ⟨rfl, _, rfl, rfl, rfl, rfl, rfl, rfl, Nat.lt_succ_of_lt hd, ((E.at_ext w.nx Wd.heap.size).φ d hd).symm, ht.ext (E.at_ext w.nx _)⟩)) (.inr rfl) _ _, h⟩
  unfold enter at h
  cases hr : w.r with
  | none =>
    rw [hr] at h
    have e1 := hro.none hr
    subst e1
    obtain ⟨hn, h⟩ := W.new_ok h
    have h : (⟨w.h.put w.nx (.oth .marks), w.nx + 1, w.ms, .mark w.nx :: w.ds, w.r⟩ : W).new (.oth (.loop ⟨c.m, c.ex, ps.toList, assign, body, w.nx⟩ e 0 .none)) f = true := h
    have s1 := hs.alloc hn (o := .oth .marks) (x := .deferred (some [])) (.inr (.inr ⟨rfl, rfl⟩)) (.inr rfl) (.mark w.nx :: w.ds) w.r
    have x1 := E.at_ext w.nx Wd.heap.size
    obtain ⟨s2, h⟩ := hpush _ _ _ w.nx s1 (Nat.lt_succ_self _) (ht.ext x1) h
    have x2 := (E.at w.nx Wd.heap.size).at_ext (w.nx + 1) (Wd.alloc (.deferred (some []))).heap.size
    refine ⟨_, _, _, _, [{ target := .collected Wd.heap.size, args := #[] }], x1.trans x2, s2, ?_, hr, Nat.lt_succ_self _, ?_, h⟩
    · refine ⟨⟨by show w.nx < w.nx + 1 + 1; omega, ?_⟩, (hd.ext x1).ext x2⟩
      rw [x2.φ w.nx (Nat.lt_succ_self _), En.at_self]
    · rw [run_enterLoop_outer]
      congr 2
      · rw [En.at_self, World.size_alloc]
      · rw [En.at_self]
  | some l0 =>
    rw [hr] at h
    obtain ⟨hk, lo, e0, st, j, r, ho, hh, hL, h⟩ := loopAt_ok hs (hro.lt l0 hr) h
    obtain ⟨s2, h⟩ := hpush E w Wd lo.defers hs hL.dlt ht h
    refine ⟨_, _, _, _, [], E.at_ext w.nx _, s2, hd.ext (E.at_ext w.nx _), hr, Nat.lt_succ_self _, ?_, h⟩
    have e1 : ro = some (E.φ l0) := by rw [hro.eq, hr]; rfl
    subst e1
    simp only [Instr.enterLoop, Sem.run_bind, run_getLoop hh, Result.andThen, Sem.run_pure, run_newObj_alloc]
    rw [En.at_self, hL.defers]

theorem rangeF_ok (hP : PH P) : RangeOk P := fun rec c f ps assign body nxt hc hrd k K W0 Q E e w a Wd ro n hro ht hs hd hN hK h => by
  have h : (gkX c sg0 f).run e (fun v => enter w fun d w => w.new (.oth (.loop ⟨c.m, c.ex, ps.toList, assign, body, d⟩ e 0 .none)) fun l w =>
      isN v.t 33 (callV rec v [.num 34 l] w fun _ w => loopAt w l fun _ _ st j => isN st 1 (bad 182) (dropO w l fun w => Jp.casesOn j (nxt.run rec e w k) (fun id => k (.x id) e w) (k .r e w))) (bad 184)) = true := h
  obtain ⟨v, h, hv, ev⟩ := is_x (GR.start ht) hs.gl f _ h
  refine wpIn_rangeFunc fun fn hfn => ?_
  rw [fc_round]
  obtain ⟨E1, w1, l, W1, mark, x1, s1, d1, r1, l1, he, h⟩ := enter_ok (P := P) (fn := fn) hs hd hro ht h
  obtain ⟨tv, h⟩ := isN_true (by rfl) h
  have hv1 := ext_ok x1 v hv
  have hl1 : okL E1 w1.nx [.num 34 l] := ⟨⟨l1, trivial⟩, trivial⟩
  obtain ⟨d, h1, h2⟩ := callV_ok hP hc hrd s1 hv1.1 hl1 h
  have hres : (resolve a.eval (rangeCall f (E1.φ l)) 0).run P W1 = .ok d W1 := by
    simp only [resolve]
    have e2 : (#[Operand.const (.func (.yield (E1.φ l)) #[] #[])].map a.eval) = (denL E1 [.num 34 l]).toArray := by
      simp only [List.map_toArray, List.map_cons, List.map_nil, denL, den]
      rfl
    rw [e2, ev, ← hv1.2]
    exact h1
  rcases h2 with ⟨fi, args, h3, h4⟩ | ⟨t34, _⟩
  · refine ⟨E1.φ l, mark, W1, d, W1, fi, args, W1, he, hres, fun f' _ => fc_fn ro f', h3, fc_hn ro, CallsIn.mono (fc_calls h4) fun e' W2 hq => ?_⟩
    obtain ⟨E2, w2, u, eq, x2, s2, ou, ds2, r2, h⟩ := hq
    subst eq
    have l2 : l < w2.nx := Nat.lt_of_lt_of_le l1 x2.le
    obtain ⟨hk, lo, e0, st, j, r, ho, hh, hL, h⟩ := loopAt_ok s2 l2 h
    rcases isN_cases h with ⟨_, h⟩ | ⟨hst, h⟩
    · exact absurd h (bad_false (n := 182))
    have hb : r.state ≠ .busy := by
      rw [hL.state]
      intro hq
      match st, hst, hq with
      | 0, _, hq => cases hq
      | 1, hst, _ => exact hst rfl
      | (_ + 2), _, hq => cases hq
    rw [dropO_eq] at h
    rw [← x2.φ l l1]
    refine ⟨r.pending, _, run_endLoop hh hb, ?_⟩
    have s3 : SR E2 ⟨w2.h.put l .no, w2.nx, w2.ms, w2.ds, w2.r⟩ K W0 (W2.putObj (E2.φ l) (.loop { r with state := .exhausted })) :=
      s2.gone l2 (by omega) (.inr hk) (fun k hk => World.putObj_heap_other hk) World.putObj_size rfl rfl rfl _ _
    have x3 := x1.trans x2
    have t3 : TR E2 w2.nx c.m c.ex e a.tmps := ht.ext x3
    have d3 : DR E2 w2.nx w2.ds (mark ++ a.defers) := by rw [ds2]; exact d1.ext x2
    have r3 : w2.r = w.r := r2.trans r1
    rw [hL.pend] at s3 ⊢
    generalize W2.putObj (E2.φ l) _ = W3 at s3 ⊢
    cases j with
    | none => exact hN E2 e ⟨w2.h.put l .no, w2.nx, w2.ms, w2.ds, w2.r⟩ { a with defers := mark ++ a.defers } _ x3 s3 t3 d3 r3 h
    | x id => exact wpIn_exit (hK (.x id) E2 e ⟨w2.h.put l .no, w2.nx, w2.ms, w2.ds, w2.r⟩ { a with defers := mark ++ a.defers } _ (fun h => by cases h) x3 s3 t3 d3 r3 h)
    | r => exact wpIn_ret (hK .r E2 e ⟨w2.h.put l .no, w2.nx, w2.ms, w2.ds, w2.r⟩ { a with defers := mark ++ a.defers } _ (fun h => by cases h) x3 s3 t3 d3 r3 h)
  · rw [tv] at t34; cases t34

/-! ### A round -/
theorem TR.put {m ex : Nat} {tmps : Array Value} (h : TR E nx m ex e tmps) {i : Nat} (hi : i < 216) {v : V} (hv : ok E nx v) : TR E nx m ex (e.put i v) (tmps.setIfInBounds i (den E v)) :=
  ⟨by rw [Array.size_setIfInBounds]; exact h.1, h.2.1, fun j hj hx => by
    have hm := h.2.1
    obtain ⟨h1, h2⟩ := h.2.2 j hj hx
    rw [Env.at_put hi (by omega)]
    by_cases e1 : j = i
    · subst e1
      rw [if_pos rfl]
      exact ⟨hv, Array.getElem?_setIfInBounds_self_of_lt (by rw [h.1]; exact hj)⟩
    · rw [if_neg e1]
      exact ⟨h1, (Array.getElem?_setIfInBounds_ne (Ne.symm e1)).trans h2⟩⟩
theorem parsIn_ok {m ex : Nat} {f : Env → Bool} : ∀ (ps : List Nat) (args : List V) (e : Env) (tmps : Array Value), TR E nx m ex e tmps → okL E nx args → parsIn ps args e f = true →
    ps.length = args.length ∧ ∃ e', f e' = true ∧ TR E nx m ex e' ((ps.zip (denL E args)).foldl (fun (tmps : Array Value) (p : Nat × Value) => tmps.setIfInBounds p.1 p.2) tmps)
  | [], [], e, tmps, h, _, hr => ⟨rfl, e, hr, h⟩
  | [], _ :: _, e, tmps, h, _, hr => absurd hr (bad_false (n := 207))
  | _ :: _, [], e, tmps, h, _, hr => absurd hr (bad_false (n := 207))
  | i :: ps, v :: l, e, tmps, h, ho, hr => by
    unfold parsIn at hr
    cases hb : Nat.blt i 216 with
    | false => rw [hb] at hr; exact absurd hr (bad_false (n := 206))
    | true =>
      rw [hb] at hr
      have hr : (setter i).f e v (fun e => parsIn ps l e f) = true := hr
      rw [setter_eq] at hr
      obtain ⟨h1, e', h2, h3⟩ := parsIn_ok ps l _ _ (h.put (blt_true hb) ho.1) ho.2 hr
      exact ⟨by simp [h1], e', h2, h3⟩
theorem fc_in (ro : Option Nat) (l : Nat) : (Fe ro).inRound l = Fe (some l) := by cases ro <;> rfl
theorem denL_length (E : En) (l : List V) : (denL E l).length = l.length := by rw [denL_eq, List.length_map]

theorem round_ok (hS : ∀ (c : Cx) (code : Code) (nxt : Tc), CodeOk P rec c code nxt) : RoundOk P (roundC P rec) := fun l args w k E K W0 Wd h hs ho hl => by
  obtain ⟨hp, nx, ms, ds, r⟩ := w
  obtain ⟨hk, lo, e0, st, j, rc, hob, hh, hL, h⟩ := loopAt_ok hs hl h
  obtain ⟨hst, h⟩ := isN_true (by rfl) h
  subst hst
  obtain ⟨m, ex, ps, assign, body, df⟩ := lo
  obtain ⟨hlen, e1, h, t1⟩ := parsIn_ok ps args e0 rc.tmps hL.tmps ho h
  have epar : rc.params.toList = ps := hL.params
  have hsz : (denL E args).toArray.size = rc.params.size := by
    rw [List.size_toArray, denL_length, ← hlen, ← epar, Array.length_toList]
  refine ⟨_, _, _, _, run_yield hh hsz, fun ro n => ?_⟩
  have eas : rc.assign = assign := hL.assign
  have ebo : rc.body = body := hL.body
  rw [eas, ebo]
  refine roundIn_of_wpIn (fc_fn ro _) ?_
  rw [fc_in]
  have et : (rc.params.zip (denL E args).toArray).foldl (fun (tmps : Array Value) (x : Tmp × Value) => match x with | (t, a) => tmps.setIfInBounds t a) rc.tmps =
      (ps.zip (denL E args)).foldl (fun (tmps : Array Value) (p : Nat × Value) => tmps.setIfInBounds p.1 p.2) rc.tmps := by
    rw [← Array.foldl_toList, Array.toList_zip, epar]
  rw [et]
  have s0 : SR E ⟨hp, nx, ms, [], some l⟩ K W0 Wd := hs.frame [] (some l)
  refine hS ⟨m, ex⟩ assign endC _ K W0 _ E e1 ⟨hp, nx, ms, [], some l⟩ _ Wd (some (E.φ l)) n ⟨rfl, fun l' hl' => by cases hl'; exact hl⟩ t1 s0 trivial (fun E2 e2 w2 a2 W2 x2 s2 t2 d2 r2 h => ?_) (fun x E2 e2 w2 a2 W2 hx x2 s2 t2 d2 r2 h => ?_) h
  · have l2 : l < w2.nx := Nat.lt_of_lt_of_le hl x2.le
    have hφ : E2.φ l = E.φ l := x2.φ l hl
    obtain ⟨hk2, lo2, e02, st2, j2, rc2, hob2, hh2, hL2, h⟩ := loopAt_ok s2 l2 h
    obtain ⟨hst, h⟩ := isN_true (by rfl) h
    subst hst
    rw [setOb_eq] at h
    rw [← hφ]
    refine ⟨_, run_beginRound hh2 hL2.state, ?_⟩
    have s3 : SR E2 ⟨w2.h.put l (.oth (.loop lo2 e02 1 j2)), w2.nx, w2.ms, w2.ds, w2.r⟩ K W0 (W2.putObj (E2.φ l) (.loop { rc2 with state := .busy })) :=
      s2.setOth l2 hk2 hh2 ⟨_, rfl, rfl, hL2.pend, hL2.params, hL2.assign, hL2.body, hL2.dlt, hL2.defers, hL2.tmps⟩
    generalize W2.putObj (E2.φ l) _ = W3 at s3 ⊢
    have fin : ∀ (E4 : En) (w4 : W) (W4 : World) (st : Nat) (j : Jp) (b : Nat), Ext E2 w2.nx E4 w4.nx → SR E4 w4 K W0 W4 → st = (if (jump j).isNone then 0 else 2) → b = (if (jump j).isNone then 1 else 0) →
        endRd w4 l st j (fun w => W.casesOn w fun h nx ms _ _ => k (.bool b) ⟨h, nx, ms, ds, r⟩) = true →
        ∃ v w', (Instr.endRound (E2.φ l) (jump j)).run P W4 = .ok v w' ∧ CallEnd E ⟨hp, nx, ms, ds, r⟩ K W0 k (.returned v) w' := fun E4 w4 W4 st j b x4 s4 est eb h => by
      have l4 : l < w4.nx := Nat.lt_of_lt_of_le l2 x4.le
      obtain ⟨hk4, lo4, e04, st4, j4, rc4, hob4, hh4, hL4, h⟩ := loopAt_ok s4 l4 h
      rw [setOb_eq] at h
      rw [← x4.φ l l2]
      have s5 := (s4.setOth (x := .loop lo4 e04 st j) (o' := .loop { rc4 with state := if (jump j).isNone then .ready else .done, pending := jump j }) l4 hk4 hh4 ⟨_, rfl, (by rw [est]; cases j <;> rfl), rfl, hL4.params, hL4.assign, hL4.body, hL4.dlt, hL4.defers, hL4.tmps⟩).frame ds r
      refine ⟨_, _, run_endRound (jump j) hh4, E4, ⟨w4.h.put l (.oth (.loop lo4 e04 st j)), w4.nx, w4.ms, ds, r⟩, .bool b, ?_, x2.trans x4, s5, ⟨trivial, trivial⟩, rfl, rfl, h⟩
      rw [eb]
      cases j <;> rfl
    refine hS ⟨m, ex⟩ body endC _ K W0 _ E2 e2 ⟨w2.h.put l (.oth (.loop lo2 e02 1 j2)), w2.nx, w2.ms, w2.ds, w2.r⟩ a2 W3 (some (E2.φ l)) n ⟨by rw [show w2.r = some l from r2]; rfl, fun l' hl' => by rw [show w2.r = some l from r2] at hl'; cases hl'; exact l2⟩ t2 s3 d2 (fun E4 e4 w4 a4 W4 x4 s4 t4 d4 r4 h => ?_) (fun x E4 e4 w4 a4 W4 hx x4 s4 t4 d4 r4 h => ?_) h
    · exact fin E4 w4 W4 0 .none 1 x4 s4 rfl rfl h
    · cases x with
      | n => exact absurd rfl hx
      | x id => exact fin E4 w4 W4 2 (.x id) 0 x4 s4 rfl rfl h
      | r => exact fin E4 w4 W4 2 .r 0 x4 s4 rfl rfl h
  · cases x with
    | n => exact absurd rfl hx
    | x id => exact absurd h (bad_false (n := 208))
    | r => exact absurd h (bad_false (n := 209))
end Go.Proofs.YtcajgbpcimimhaaGreatDoor.Vm
namespace Go.Proofs.YtcajgbpcimimhaaGreatDoor.Vm
open Go Go.RowKit
variable {P : Program} {E : En} {w : W} {K : Nat → Prop} {W0 Wd : World} {rec : Rec} {e : Env} {k : Ex → Env → W → Bool} {fin : Fv} {nx : Nat} {c : Cx} {g : Sg} {a : Act}

/-! ### What a function hands back -/
def rvOf (tmps : Array Value) : ResultVar → Sem Value
  | .tmp t => pure (tmps.getD t undef)
  | .cell a t => do loadVar t (← asAddr (tmps.getD a undef))
theorem results_eq (fn : Func) (tmps : Array Value) : results fn tmps = (do
    let vs ← fn.results.mapM (rvOf tmps)
    pure (if h : vs.size = 1 then vs[0] else .tuple vs)) := by
  unfold results
  congr 1
theorem resOne_ok {tmps : Array Value} (ht : TR E w.nx c.m c.ex e tmps) (hs : SR E w K W0 Wd) {r : ResultVar} {f : V → Bool} (h : (resOne P c r).run e w f = true) :
    ∃ v, f v = true ∧ ok E w.nx v ∧ (rvOf tmps r).run P Wd = .ok (den E v) Wd := by
  have hG : GR E w.nx c sg0 e ({ tmps := tmps, defers := [] } : Act).tmps := GR.start ht
  cases r with
  | tmp t =>
    obtain ⟨v, h, hv, e1⟩ := is_x hG hs.gl (.tmp t) _ h
    exact ⟨v, h, hv, congrArg (fun x => Result.ok x Wd) e1⟩
  | cell a t =>
    unfold resOne at h
    simp only [] at h
    split at h
    · exact absurd h (bad_false (n := 185))
    · rename_i d hd
      have hu := undF_ok hd
      cases ha : isAggD d with
      | false =>
        rw [ha] at h
        have h : (gkX c sg0 (.tmp a)).run e (fun v => ptrK v fun b a => cellAt w.h b a f) = true := h
        obtain ⟨v, h, hv, e1⟩ := is_x hG hs.gl (.tmp a) _ h
        obtain ⟨ht, h⟩ := ptrK_ok h
        obtain ⟨hb, e2⟩ := ok_ptr hv ht
        obtain ⟨u, h, hu', _, hc⟩ := hs.cellAt hb h
        refine ⟨u, h, hu', ?_⟩
        have e3 : tmps.getD a undef = .pointer (some ⟨E.φ v.b, v.a, none⟩) := e1.trans e2
        show (Sem.bind (asAddr (tmps.getD a undef)) fun x => loadVar t x).run P Wd = _
        rw [e3]
        exact run_loadAt_one hu ha (hc hs)
      | true =>
        rw [ha] at h
        have h : (gkX c sg0 (.tmp a)).run e (fun v => ptrK v fun b a => cellsAt w.h b a (sizeT P t) fun l => f (.agg l)) = true := h
        obtain ⟨v, h, hv, e1⟩ := is_x hG hs.gl (.tmp a) _ h
        obtain ⟨ht, h⟩ := ptrK_ok h
        obtain ⟨hb, e2⟩ := ok_ptr hv ht
        obtain ⟨l, h, hl⟩ := hs.cellsAt hb h
        obtain ⟨i, hi, hsz⟩ := undF_info hd
        refine ⟨_, h, okAgg (hl hs).ok (hl hs).one, ?_⟩
        have e3 : tmps.getD a undef = .pointer (some ⟨E.φ v.b, v.a, none⟩) := e1.trans e2
        have hl := hl hs
        show (Sem.bind (asAddr (tmps.getD a undef)) fun x => loadVar t x).run P Wd = _
        rw [e3, denAgg]
        exact run_loadAt_agg hu ha hi (by rw [denL_eq, List.length_map, hl.len, hsz]) fun j hj => by rw [add_none]; exact hl.cell j (by rw [hsz] at hj; exact hj)
theorem resAll_ok {tmps : Array Value} (ht : TR E w.nx c.m c.ex e tmps) (hs : SR E w K W0 Wd) : ∀ (rs : List ResultVar) {f : List V → Bool}, (resAll P c rs).run e w f = true →
    ∃ l, f l = true ∧ okL E w.nx l ∧ l.length = rs.length ∧ (rs.mapM (rvOf tmps)).run P Wd = .ok (denL E l) Wd
  | [], f, h => ⟨[], h, trivial, rfl, rfl⟩
  | r :: rs, f, h => by
    have h : (resOne P c r).run e w (fun v => (resAll P c rs).run e w fun vs => f (v :: vs)) = true := h
    obtain ⟨v, h, hv, e1⟩ := resOne_ok ht hs h
    obtain ⟨l, h, hl, hlen, e2⟩ := resAll_ok ht hs rs h
    refine ⟨v :: l, h, ⟨hv, hl⟩, by simp [hlen], ?_⟩
    rw [List.mapM_cons]
    refine (run_then e1).trans ((run_then e2).trans ?_)
    rfl
theorem resC_ok {tmps : Array Value} (ht : TR E w.nx c.m c.ex e tmps) (hs : SR E w K W0 Wd) {fn : Func} {f : V → Bool} (h : (resC P c fn.results.toList).run e w f = true) :
    ∃ v, f v = true ∧ ok E w.nx v ∧ (results fn tmps).run P Wd = .ok (den E v) Wd := by
  rw [results_eq, Array.mapM_eq_mapM_toList]
  have many : ∀ rs : List ResultVar, rs.length ≠ 1 → (resAll P c rs).run e w (fun vs => f (.tup vs)) = true →
      ∃ v, f v = true ∧ ok E w.nx v ∧ (do
        let vs ← Functor.map List.toArray (rs.mapM (rvOf tmps))
        pure (if h : vs.size = 1 then vs[0] else .tuple vs) : Sem Value).run P Wd = .ok (den E v) Wd := fun rs hn h => by
    obtain ⟨l, h, hl, hlen, e1⟩ := resAll_ok ht hs rs h
    refine ⟨_, h, okTup hl, ?_⟩
    rw [bind_map_left]
    refine (run_then e1).trans ?_
    rw [denTup]
    show Sem.run P (pure (if h : (denL E l).toArray.size = 1 then (denL E l).toArray[0] else .tuple (denL E l).toArray)) Wd = _
    rw [dif_neg (by rw [List.size_toArray, denL_length, hlen]; exact hn)]
    rfl
  generalize fn.results.toList = rs at h ⊢
  match rs, h with
  | [], h => exact many [] (by decide) h
  | [r], h =>
    obtain ⟨v, h, hv, e1⟩ := resOne_ok ht hs h
    refine ⟨v, h, hv, ?_⟩
    rw [bind_map_left, List.mapM_cons]
    rw [bind_assoc]
    refine (run_then e1).trans ?_
    rfl
  | r :: s :: rs, h => exact many (r :: s :: rs) (by simp) h

/-! ### A function's frame -/
theorem u3_at (i : Nat) : u3.at i = .undef := by
  unfold Env.at
  rw [getter_f]
  have p : ∀ {α : Type} (x : α) (j : Nat), (p6 j).f (all6 x) = x := fun x j => by rcases j with _ | _ | _ | _ | _ | j <;> rfl
  show ((p6 (i % 6)).f ((p6 (i / 6 % 6)).f ((p6 (i / 36)).f (all6 (all6 (all6 (⟨.undef⟩ : Bx))))))).v = _
  rw [p, p, p]
theorem argsIn_ok {m : Nat} {f : Env → Bool} (hm : m ≤ 216) : ∀ (args : List V) (i : Nat) (e : Env), i ≤ m → argsIn m i args e f = true →
    i + args.length ≤ m ∧ ∃ e', f e' = true ∧ ∀ j, j < m → e'.at j = if j < i then e.at j else (args[j - i]?).getD (e.at j)
  | [], i, e, hi, hr => ⟨hi, e, hr, fun j _ => by by_cases h : j < i <;> simp [h]⟩
  | v :: l, i, e, hi, hr => by
    unfold argsIn at hr
    cases hb : Nat.blt i m with
    | false => rw [hb] at hr; exact absurd hr (bad_false (n := 215))
    | true =>
      rw [hb] at hr
      have hr : (setter i).f e v (fun e => argsIn m (i + 1) l e f) = true := hr
      rw [setter_eq] at hr
      have hlt := blt_true hb
      obtain ⟨h1, e', h2, h3⟩ := argsIn_ok hm l (i + 1) _ hlt hr
      refine ⟨by rw [List.length_cons]; omega, e', h2, fun j hj => ?_⟩
      rw [h3 j hj, Env.at_put (by omega) (by omega)]
      by_cases h4 : j < i
      · rw [if_pos (by omega), if_pos h4, if_neg (by omega)]
      · rw [if_neg h4]
        by_cases h5 : j = i
        · subst h5
          rw [if_pos (by omega), if_pos rfl, Nat.sub_self]
          rfl
        · rw [if_neg (by omega), if_neg h5]
          obtain ⟨d, hd⟩ : ∃ d, j - i = d + 1 := ⟨j - i - 1, by omega⟩
          have hd2 : j - (i + 1) = d := by omega
          rw [hd, hd2, List.getElem?_cons_succ]
theorem args_TR {m ex : Nat} {f : Env → Bool} (hm : m ≤ 216) {args : List V} (ho : okL E nx args) (hr : argsIn m 0 args u3 f = true) :
    ∃ e', f e' = true ∧ TR E nx m ex e' ((denL E args).toArray ++ Array.replicate (m - (denL E args).toArray.size) undef) := by
  obtain ⟨h1, e', h2, h3⟩ := argsIn_ok hm args 0 u3 (Nat.zero_le _) hr
  rw [Nat.zero_add] at h1
  have hsz : (denL E args).toArray.size = args.length := by rw [List.size_toArray, denL_length]
  refine ⟨e', h2, by rw [Array.size_append, Array.size_replicate, hsz]; omega, hm, fun j hj _ => ?_⟩
  rw [h3 j hj, if_neg (Nat.not_lt_zero _), Nat.sub_zero, u3_at]
  by_cases hlt : j < args.length
  · rw [Array.getElem?_append_left (by rw [hsz]; exact hlt), List.getElem?_toArray, denL_eq, List.getElem?_map, List.getElem?_eq_getElem hlt]
    exact ⟨(okL_iff E nx args).1 ho _ (List.getElem_mem hlt), rfl⟩
  · rw [Array.getElem?_append_right (by rw [hsz]; omega), List.getElem?_eq_none (by omega)]
    refine ⟨okUndef E nx, ?_⟩
    rw [Array.getElem?_replicate, if_pos (by rw [hsz]; omega)]
    exact congrArg some (denUndef E).symm

/-- a function's body, out of what is done behind it -/
theorem fnX_ok (hS : ∀ (c : Cx) (code : Code) (nxt : Tc), CodeOk P rec c code nxt) {lv : Program → Cx → List ResultVar → Rec → List Dd → Option Nat → (V → W → Bool) → Env → W → Bool} {f : Nat} {args : List V} {kv : V → W → Bool}
    (h : (fnX P lv f).run rec args w kv = true) (hs : SR E w K W0 Wd) (ho : okL E w.nx args) :
    ∃ fn c, P.funcs[f]? = some fn ∧ fn.body = some c ∧ ∃ cx : Cx, ∀ (n : Nat) (Q : Exit → Act → World → Prop),
      (∀ x E' e' w' a' W', x = Exit.normal ∨ x = Exit.ret → Ext E w.nx E' w'.nx → SR E' w' K W0 W' → TR E' w'.nx cx.m cx.ex e' a'.tmps → DR E' w'.nx w'.ds a'.defers → lv P cx fn.results.toList rec w.ds w.r kv e' w' = true → Q x a' W') →
      c.wpIn Fence.wide n P Q { tmps := (denL E args).toArray ++ Array.replicate (fn.ntmps - (denL E args).toArray.size) undef, defers := [] } Wd := by
  unfold fnX at h
  split at h
  · exact absurd h (bad_false (n := 188))
  · rename_i fn hfn
    split at h
    · exact absurd h (bad_false (n := 189))
    · rename_i c hc
      refine ⟨fn, c, fnF_ok hfn, hc, ?_⟩
      obtain ⟨ex, hcx⟩ : ∃ ex, cxOf fn = ⟨fn.ntmps, ex⟩ := ⟨_, rfl⟩
      rw [hcx] at h
      have h : (Bool.casesOn (motive := fun _ => Fc) (Nat.ble fn.ntmps 216) ⟨fun _ _ _ _ => bad 190⟩ (⟨fun rec args w k => argsIn fn.ntmps 0 args u3 fun e => W.casesOn w fun h nx ms ds r => (sem P ⟨fn.ntmps, ex⟩ c endC).run rec e ⟨h, nx, ms, [], none⟩ fun x e w =>
        Ex.casesOn x (lv P ⟨fn.ntmps, ex⟩ fn.results.toList rec ds r k e w) (fun _ => bad 191) (lv P ⟨fn.ntmps, ex⟩ fn.results.toList rec ds r k e w)⟩ : Fc)).run rec args w kv = true := by
        cases ex <;> exact h
      cases hb : Nat.ble fn.ntmps 216 with
      | false => rw [hb] at h; exact absurd h (bad_false (n := 190))
      | true =>
        rw [hb] at h
        refine ⟨⟨fn.ntmps, ex⟩, fun n Q hQ => ?_⟩
        obtain ⟨hp, nx, ms, ds, r⟩ := w
        obtain ⟨e', h, ht⟩ := args_TR (m := fn.ntmps) (ex := ex) (ble_true hb) ho h
        refine hS ⟨fn.ntmps, ex⟩ c endC _ K W0 Q E e' ⟨hp, nx, ms, [], none⟩ _ Wd none n ⟨rfl, fun l hl => by cases hl⟩ ht (hs.frame [] none) trivial
          (fun E2 e2 w2 a2 W2 x2 s2 t2 d2 _ h2 => ?_) (fun x E2 e2 w2 a2 W2 hx x2 s2 t2 d2 _ h2 => ?_) h
        · exact hQ _ E2 e2 w2 a2 W2 (.inl rfl) x2 s2 t2 d2 h2
        · cases x with
          | n => exact absurd rfl hx
          | x id => exact absurd h2 (bad_false (n := 191))
          | r => exact hQ _ E2 e2 w2 a2 W2 (.inr rfl) x2 s2 t2 d2 h2
/-- one that is a deferred call -/
theorem fnD_ok (hS : ∀ (c : Cx) (code : Code) (nxt : Tc), CodeOk P rec c code nxt) {f : Nat} {args : List V} {kv : V → W → Bool} (h : (fnD P f).run rec args w kv = true) (hs : SR E w K W0 Wd) (ho : okL E w.nx args) :
    (∃ fn, P.funcs[f]? = some fn ∧ fn.body.isSome = true) ∧ ∀ u n, CallsDIn Fence.wide n P f (denL E args).toArray u Wd (fun e u' W' => u' = u ∧ CallEnd E w K W0 kv e W') := by
  obtain ⟨fn, c, h1, h2, cx, h3⟩ := fnX_ok hS h hs ho
  refine ⟨⟨fn, h1, by rw [h2]; rfl⟩, fun u n => callsDIn_of_wp h1 h2 trivial (h3 n _ fun x E' e' w' a' W' hx x2 s2 t2 d2 h => ?_)⟩
  obtain ⟨hp, nx, ms, ds, r⟩ := w'
  have key : a'.defers = [] ∧ ∃ v, (results fn a'.tmps).run P W' = .ok v W' ∧ CallEnd E w K W0 kv (.returned v) W' := by
    cases ds with
    | cons d l => exact absurd h (bad_false (n := 216))
    | nil =>
      have hd : a'.defers = [] := by cases hq : a'.defers with | nil => rfl | cons d l => rw [hq] at d2; exact d2.elim
      have h : (resC P cx fn.results.toList).run e' ⟨hp, nx, ms, [], none⟩ (fun v => kv v ⟨hp, nx, ms, w.ds, w.r⟩) = true := h
      obtain ⟨v, h, hv, e1⟩ := resC_ok (w := ⟨hp, nx, ms, [], none⟩) t2 (s2.frame [] none) h
      exact ⟨hd, _, e1, E', ⟨hp, nx, ms, w.ds, w.r⟩, v, rfl, x2, s2.frame _ _, hv, rfl, rfl, h⟩
  rcases hx with hx | hx <;> subst hx <;> exact key
theorem undo_ok (hP : PH P) (hS : ∀ (c : Cx) (code : Code) (nxt : Tc), CodeOk P rec c code nxt) {fn : Func} {tmps : Array Value} {R : Ending → World → Prop} {f : W → Bool} {n : Nat} : ∀ (l : List Dd) (ds : List Deferred) (E : En) (w : W) (Wd : World), DR E w.nx l ds → SR E w K W0 Wd → undo P rec l w f = true →
    (∀ E2 w2 W2, Ext E w.nx E2 w2.nx → SR E2 w2 K W0 W2 → f w2 = true → LeavesInM Fence.wide n P fn tmps R [] .returning W2) → LeavesInM Fence.wide n P fn tmps R ds .returning Wd
  | [], [], E, w, Wd, _, hs, h, hf => hf E w Wd (Ext.refl _ _) hs h
  | [], _ :: _, E, w, Wd, hd, _, _, _ => hd.elim
  | .mark _ :: _, [], E, w, Wd, hd, _, _, _ => hd.elim
  | .call _ _ :: _, [], E, w, Wd, hd, _, _, _ => hd.elim
  | .mark b :: l, d :: ds, E, w, Wd, hd, hs, h, hf => by
    obtain ⟨⟨hb, ed⟩, hd⟩ := hd
    subst ed
    obtain ⟨hk, h⟩ := othAt_ok h
    split at h
    · rename_i hm
      rw [dropO_eq] at h
      have hh : Wd.heap[E.φ b]? = some (.deferred (some [])) := by
        rcases hs.ob b hb with h0 | ⟨h1, _⟩ | ⟨_, h1⟩
        · omega
        · omega
        · rw [hm] at h1; exact h1
      refine ⟨(fun h => by cases h), .inl ⟨_, _, rfl, run_takeDeferred hh, ?_⟩⟩
      refine undo_ok hP hS l ds E ⟨w.h.put b .no, w.nx, w.ms, w.ds, w.r⟩ _ hd (hs.gone hb (by omega) (.inr hk) (fun k hk => World.putObj_heap_other hk) World.putObj_size rfl rfl rfl _ _) h hf
    · exact absurd h (bad_false (n := 217))
  | .call f args :: l, d :: ds, E, w, Wd, hd, hs, h, hf => by
    obtain ⟨⟨ho, ed⟩, hd⟩ := hd
    subst ed
    obtain ⟨hfn, hcall⟩ := fnD_ok hS h hs ho
    refine ⟨(fun h => by cases h), .inr ⟨(fun h => by cases h), _, _, f, _, rfl, run_callFunc hP hfn Wd, fun g _ => trivial, ?_⟩⟩
    refine CallsDIn.mono (hcall .returning (n - 1)) fun e u' W' hq => ?_
    obtain ⟨rfl, E2, w2, u, rfl, x2, s2, _, _, _, h⟩ := hq
    exact undo_ok hP hS l ds E2 w2 W' (hd.ext x2) s2 h fun E3 w3 W3 x3 s3 h3 => hf E3 w3 W3 (x2.trans x3) s3 h3
/-- a call -/
theorem fnC_ok (hP : PH P) (hS : ∀ (c : Cx) (code : Code) (nxt : Tc), CodeOk P rec c code nxt) {f : Nat} {args : List V} {kv : V → W → Bool} (h : (fnC P f).run rec args w kv = true) (hs : SR E w K W0 Wd) (ho : okL E w.nx args) :
    (∃ fn, P.funcs[f]? = some fn ∧ fn.body.isSome = true) ∧ Calls P f (denL E args).toArray Wd (CallEnd E w K W0 kv) := by
  obtain ⟨fn, c, h1, h2, cx, h3⟩ := fnX_ok hS h hs ho
  refine ⟨⟨fn, h1, by rw [h2]; rfl⟩, (callsIn_wide (n := 0)).1 (callsIn_of_wp_marks h1 h2 trivial (h3 0 _ fun x E' e' w' a' W' hx x2 s2 t2 d2 h => ?_))⟩
  obtain ⟨hp, nx, ms, ds, r⟩ := w'
  have key : LeavesInM Fence.wide 0 P fn a'.tmps (CallEnd E w K W0 kv) a'.defers .returning W' := by
    have h : undo P rec ds ⟨hp, nx, ms, [], none⟩ (fun w' => (resC P cx fn.results.toList).run e' w' fun v => W.casesOn w' fun h nx ms _ _ => kv v ⟨h, nx, ms, w.ds, w.r⟩) = true := h
    refine undo_ok hP hS ds a'.defers E' ⟨hp, nx, ms, [], none⟩ W' d2 (s2.frame [] none) h fun E3 w3 W3 x3 s3 h3 => ?_
    obtain ⟨hp3, nx3, ms3, ds3, r3⟩ := w3
    obtain ⟨v, h, hv, e1⟩ := resC_ok (t2.ext x3) s3 h3
    exact ⟨_, e1, E3, ⟨hp3, nx3, ms3, w.ds, w.r⟩, v, rfl, x2.trans x3, s3.frame _ _, hv, rfl, rfl, h⟩
  rcases hx with hx | hx <;> subst hx <;> exact key
end Go.Proofs.YtcajgbpcimimhaaGreatDoor.Vm
namespace Go.Proofs.YtcajgbpcimimhaaGreatDoor.Vm
open Go Go.RowKit
variable {P : Program} {E : En} {w : W} {K : Nat → Prop} {W0 Wd : World} {rec : Rec} {e : Env} {k : Ex → Env → W → Bool} {fin : Fv} {nx : Nat} {c : Cx} {g : Sg} {a : Act}

/-- a function's own law, of what the evaluator does at its call -/
def OwnOk (P : Program) (f : Nat) (run : Rec → List V → W → (V → W → Bool) → Bool) : Prop := ∀ rec : Rec, (∀ (c : Cx) (code : Code) (nxt : Tc), CodeOk P rec c code nxt) →
  ∀ args w k E K W0 Wd, run rec args w k = true → SR E w K W0 Wd → okL E w.nx args → (∃ fn, P.funcs[f]? = some fn ∧ fn.body.isSome = true) ∧ Calls P f (denL E args).toArray Wd (CallEnd E w K W0 k)
theorem nbeq {a b : Nat} (h : Nat.beq a b = false) : a ≠ b := fun e => by rw [e, Nat.beq_refl] at h; cases h
theorem callS_ok (hP : PH P) {sp : Nat} (hA : OwnOk P 18 (allC P 18).run) (hN : OwnOk P 30 countC.run) (hT : sp ≠ 0 → OwnOk P sp trueC.run) (hS : ∀ (c : Cx) (code : Code) (nxt : Tc), CodeOk P rec c code nxt) :
    CallOk P fun f args w k => (callS P sp f).run rec args w k := fun f args w k E K W0 Wd h hs ho => by
  have h : (callS P sp f).run rec args w k = true := h
  unfold callS at h
  cases h18 : Nat.beq f 18 with
  | true =>
    rw [h18] at h
    have := Nat.eq_of_beq_eq_true h18
    subst this
    exact hA rec hS args w k E K W0 Wd h hs ho
  | false =>
    rw [h18] at h
    cases h30 : Nat.beq f 30 with
    | true =>
      rw [h30] at h
      have := Nat.eq_of_beq_eq_true h30
      subst this
      exact hN rec hS args w k E K W0 Wd h hs ho
    | false =>
      rw [h30] at h
      cases h0 : Nat.beq f 0 with
      | true =>
        rw [h0] at h
        exact fnC_ok hP hS h hs ho
      | false =>
        rw [h0] at h
        cases hsp : Nat.beq f sp with
        | true =>
          rw [hsp] at h
          have h' : trueC.run rec args w k = true := h
          have := Nat.eq_of_beq_eq_true hsp
          subst this
          exact hT (nbeq h0) rec hS args w k E K W0 Wd h' hs ho
        | false =>
          rw [hsp] at h
          exact fnC_ok hP hS h hs ho
/-- what holds of the evaluator, whatever its fuel -/
structure EvOk (P : Program) (rec : Rec) : Prop where
  call : CallOk P rec.call
  round : RoundOk P rec.round
  loop : LoopOk P rec.loop
theorem EvOk.code (hP : PH P) (hD : DrawnOk P) (h : EvOk P rec) (c : Cx) (code : Code) (nxt : Tc) : CodeOk P rec c code nxt := sem_ok hP hD (rangeF_ok hP) h.call h.round h.loop code nxt
theorem ev_ok (hP : PH P) (hD : DrawnOk P) {sp : Nat} (hA : OwnOk P 18 (allC P 18).run) (hN : OwnOk P 30 countC.run) (hT : sp ≠ 0 → OwnOk P sp trueC.run) : ∀ n, EvOk P (ev P sp n) := by
  intro n
  induction n using Nat.strongRecOn with
  | _ n ih =>
    cases n with
    | zero => exact ⟨fun f args w k E K W0 Wd h => absurd h (bad_false (n := 211)), fun l args w k E K W0 Wd h => absurd h (bad_false (n := 213)), fun m ex b k K W0 Q E e w a Wd ro n _ _ _ _ _ h => absurd h (bad_false (n := 212))⟩
    | succ n =>
      have hS : ∀ i, i ≤ n → ∀ (c : Cx) (code : Code) (nxt : Tc), CodeOk P (ev P sp i) c code nxt := fun i hi => (ih i (Nat.lt_succ_of_le hi)).code hP hD
      refine ⟨callS_ok hP hA hN hT (hS n (Nat.le_refl _)), round_ok (hS n (Nat.le_refl _)), fun m ex b k K W0 Q E e w a Wd ro nn hro ht hs hd hK h => ?_⟩
      refine wpIn_loop_ladder (m := n + 1) (fun j a' W' => j ≤ n + 1 ∧ ∃ E' e' w', Ext E w.nx E' w'.nx ∧ SR E' w' K W0 W' ∧ TR E' w'.nx m ex e' a'.tmps ∧ DR E' w'.nx w'.ds a'.defers ∧ w'.r = w.r ∧ (ev P sp j).loop m ex b e' w' k = true)
        ⟨Nat.le_refl _, E, e, w, Ext.refl _ _, hs, ht, hd, rfl, h⟩ fun j a' W' hj => ?_
      obtain ⟨hle, E', e', w', x1, s1, t1, d1, r1, h⟩ := hj
      cases j with
      | zero => exact absurd h (bad_false (n := 212))
      | succ j =>
        refine hS j (by omega) ⟨m, ex⟩ b endC _ K W0 _ E' e' w' a' W' ro nn (hro.ext x1 r1) t1 s1 d1 (fun E2 e2 w2 a2 W2 x2 s2 t2 d2 r2 h2 => ?_) (fun x E2 e2 w2 a2 W2 hx x2 s2 t2 d2 r2 h2 => ?_) h
        · exact ⟨j, Nat.lt_succ_self _, by omega, E2, e2, w2, x1.trans x2, s2, t2, d2, r2.trans r1, h2⟩
        · cases x with
          | n => exact absurd rfl hx
          | x id => exact hK (.x id) E2 e2 w2 a2 W2 hx (x1.trans x2) s2 t2 d2 (r2.trans r1) h2
          | r => exact hK .r E2 e2 w2 a2 W2 hx (x1.trans x2) s2 t2 d2 (r2.trans r1) h2
end Go.Proofs.YtcajgbpcimimhaaGreatDoor.Vm
