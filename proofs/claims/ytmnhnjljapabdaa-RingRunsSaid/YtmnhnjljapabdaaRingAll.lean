/- The ring's All and the function that it gives: it hands over a copy of each packet that waits, the first one first, to whatever loop. Conditions: as each theorem names them. -/
import Derived.Test.YtmnhnjljapabdaaRingState
import Derived.Test.YtmnhnjljapabdaaRingSeq
import Derived.Deep.AppendLies
import Derived.WalkKit
import Derived.OwnWalkIn
import Derived.TacticsInMore
import Derived.LoopNIn
import Derived.LoopIn
import Derived.Shelf.Abstract
import Derived.Shelf.RegionOpen
import Derived.Stop.RegionWithIn
set_option linter.unusedVariables false
namespace Go.Proofs.Ytmnhnjljapabdaa
open Go.ChangeShapes Go.WideShapes Go.ChangeAt Go.RowKit Go.Shelf
open Go.Lib (Bytes)

attribute [local go_sem] Oper.semAt_some

/-- a slice value that reads as these bytes -/
def Holds (W : World) (v : Value) (B : ByteArray) : Prop := (v = .slice none 0 0 ∧ B.size = 0) ∨ ∃ g cap, v = .slice (some ⟨g, 0, none⟩) B.size cap ∧ 0 < B.size ∧ Bytes W g 0 B
theorem Holds.form {W : World} {v : Value} {B : ByteArray} (h : Holds W v B) : ∃ ao c, v = .slice ao B.size c := by
  rcases h with ⟨rfl, h⟩ | ⟨g, c, rfl, _⟩
  · rw [h]; exact ⟨none, 0, rfl⟩
  · exact ⟨_, _, rfl⟩

/-- a slice of the call's own that reads as these bytes; nil where there are none -/
structure Packet (W : World) (base : Nat) (x : Value) (B : ByteArray) : Prop where
  own : W.ownsRow base 5 1 x B.size (cellsOf B B.size)
  nil : B.size = 0 → x = .slice none 0 0
theorem Packet.holds {W : World} {base : Nat} {v : Value} {B : ByteArray} (h : Packet W base v B) : Holds W v B := by
  by_cases h0 : B.size = 0
  · exact .inl ⟨h.nil h0, h0⟩
  · obtain ⟨j, hj⟩ : ∃ j, B.size = j + 1 := ⟨B.size - 1, by omega⟩
    have h' := h.own
    rw [hj] at h'
    obtain ⟨g, cap, rfl, _⟩ := own_form h'
    have h2 := h.own
    refine .inr ⟨g, cap, by rw [hj], by omega, ?_⟩
    rw [← hj] at h2
    have := row_bytes (Nat.le_refl _) h2
    rwa [show B.extract 0 B.size = B by simp] at this
theorem Packet.kept {W W' : World} {base : Nat} {v : Value} {B : ByteArray} {row : Option Nat} (h : Packet W base v B) (hg : W.grownBy W' row) (hne : v.ownBlock = none ∨ v.ownBlock ≠ row) : Packet W' base v B := ⟨h.own.kept hg hne, h.nil⟩

theorem copy_run (w : World) (base : Nat) (B : ByteArray) (v : Value) (hv : Holds w v B) (hs : B.size ≤ 300) (hb : base ≤ w.heap.size) :
    ∃ x w1, (Builtin.append_ #[22, 22] 22 #[.slice none 0 0, v]).run Try.prog w = .ok x w1 ∧ Packet w1 base x B ∧ w.grownBy w1 none := by
  obtain ⟨i0, hi, hz0, hz1, hz2⟩ := info_parts info5
  rcases hv with ⟨rfl, h0⟩ | ⟨g, cap, rfl, h0, hby⟩
  · refine ⟨.slice none 0 0, w, by kernel_rfl, ⟨?_, fun _ => rfl⟩, World.grownBy.refl _ _⟩
    have e : cellsOf B B.size = [] := by rw [h0]; rfl
    rw [e, h0]
    exact World.ownsRow_nil _ _ _ _
  · obtain ⟨g', cap', w1, hr, ho, hg, _, _⟩ := run_append_lies (P := Try.prog) (w := w) 22 22 base 5 i0 (.int .u8 0) 1 1 Try.underlying22 hi hz0 hz1 hz2 rfl (by decide) (.slice none 0 0) 0 [] (World.ownsRow_nil _ _ _ _)
      ⟨g, 0, none⟩ B.size cap (cellsOf B B.size) (by rw [cellsOf_length]; omega) (bytes_cells hby (Nat.le_refl _)) (cellsOf_one _ _) h0 (by unfold maxLen; omega) (by omega) hb _ rfl
    refine ⟨_, w1, hr, ⟨?_, fun h => by omega⟩, hg⟩
    simpa using ho

/-- the ring at block b as it stands: n packets, the k-th one in place (a + k) % 8 -/
structure RingAt (b a n : Nat) (sv : Nat → Value) (pk : Nat → ByteArray) (W : World) : Prop where
  c8 : W.cell? ⟨b, 8, none⟩ = some (.int .i64 a)
  c9 : W.cell? ⟨b, 9, none⟩ = some (.int .i64 n)
  cq : ∀ k, k < n → W.cell? ⟨b, (a + k) % 8, none⟩ = some (sv k)
  pk : ∀ k, k < n → Holds W (sv k) (pk k) ∧ (pk k).size ≤ 32

/-- blocks that a round keeps -/
structure KeptB (K : Nat → Prop) (W W' : World) : Prop where
  size : W.heap.size ≤ W'.heap.size
  block : ∀ q, K q → W'.heap[q]? = W.heap[q]?
theorem KeptB.refl (K : Nat → Prop) (W : World) : KeptB K W W := ⟨Nat.le_refl _, fun _ _ => rfl⟩
theorem KeptB.trans {K : Nat → Prop} {A B C : World} (h : KeptB K A B) (k : KeptB K B C) : KeptB K A C := ⟨Nat.le_trans h.size k.size, fun q hq => (k.block q hq).trans (h.block q hq)⟩
theorem KeptB.cell {K : Nat → Prop} {A B : World} (h : KeptB K A B) {p : Addr} (hp : K p.block) : B.cell? p = A.cell? p := World.cell?_of_block (h.block _ hp)
theorem KeptB.grown {K : Nat → Prop} {A B : World} {row : Option Nat} (hg : A.grownBy B row) (hK : ∀ q, K q → q < A.heap.size ∧ some q ≠ row) : KeptB K A B := ⟨hg.size, fun q hq => hg.block q (hK q hq).1 (hK q hq).2⟩
theorem KeptB.holds {K : Nat → Prop} {A B : World} (h : KeptB K A B) {v : Value} {S : ByteArray} (hv : Holds A v S) (hk : ∀ q, v.ownBlock = some q → K q) : Holds B v S := by
  rcases hv with h0 | ⟨g, cap, rfl, h0, hby⟩
  · exact .inl h0
  · refine .inr ⟨g, cap, rfl, h0, fun i hi => (h.cell (p := ⟨g, 0 + i, none⟩) (hk g rfl)).trans (hby i hi)⟩

/-- what a round answers -/
def YPost (A B : World → Prop) (e : Ending) (W' : World) : Prop := ∃ t : Bool, e = .returned (.bool t) ∧ (t = true → A W') ∧ (t = false → B W')

theorem take_in {n : Nat} {P : Program} {md : Region.Mode} {ops : Array Oper} {Q : Exit → Act → World → Prop} {i : Nat} {oi : Oper} {v : Value} {fuel : Nat} {listed : Array Bool} {a : Act} {w : World} (hi : ops[i]? = some oi)
    (hs : Region.noSelect ops = true) (hf : Region.free md ops listed i = true) (hr : (Region.ready md ops listed).contains i = true) (hw : Region.wanted oi (yielded ops a.tmps) = true) (hab : ∀ w, oi.about P w a.eval = none)
    (hQ : ∀ c a w, Q (.panic c) (a.put oi.dst v) w → Q (.panic c) a w) (hy : ∀ w, (execOp a.eval oi).run P w = .ok (.value v) w)
    (h : wpAnyIn Fence.wide n P md ops Q fuel (listed.setIfInBounds i true) (a.put oi.dst v) w) : wpAnyIn Fence.wide n P md ops Q (fuel + 1) listed a w :=
  wpAnyIn_take rfl hi hs hf hr hQ ⟨.inl ⟨hw, hy⟩, hab⟩ h
theorem copy_op {n : Nat} {o : Oper} {a : Act} {w w1 : World} {K : Act → World → Prop} {Q : Exit → Act → World → Prop} {y : Nat → Option Bool} {E : Prop} {s x' : Operand} {v x : Value} (hw : Region.wanted o y = true)
    (ho : o.op = .call { callee := .builtin .append, args := #[s, x'], argTypes := #[22, 22] }) (ht : o.type = 22) (hs : a.eval s = .slice none 0 0) (hx : a.eval x' = v)
    (hr : (Builtin.append_ #[22, 22] 22 #[.slice none 0 0, v]).run Try.prog w = .ok x w1) (h : K (a.put o.dst x) w1) : if Region.wanted o y = true then Oper.wpIn Fence.wide n Try.prog o a w K Q else E := by
  rw [if_pos hw]
  unfold Oper.wpIn
  refine ⟨fun _ _ => trivial, ?_⟩
  have e : (execOp a.eval o).run Try.prog w = .ok (.value x) w1 := by
    unfold execOp
    simp only [ho, ht, resolve, invoke, builtin, Sem.run_bind, Sem.run_pure, Result.andThen_ok, List.map_toArray, List.map_cons, List.map_nil, hs, hx, hr]
  show Oper.uponIn _ _ _ _ _ _ _ ((o.semAt none a.eval).run _ w)
  rw [Oper.semAt_none, e]
  exact h
theorem wrap_sum (a k : Nat) (ha : a < 8) (hk : k < 8) : IntKind.i64.wrap ((a : Int) + k) = (a : Int) + k := by rw [IntKind.wrap_i64]; omega
set_option maxRecDepth 100000 in
set_option maxHeartbeats 4000000 in
theorem all1_in (l Bn b a m n₀ : Nat) (sv : Nat → Value) (pk : Nat → ByteArray) (K : Nat → Prop) (J Jx : List Value → World → Prop) (W : World) (ha : a < 8) (hm : m ≤ 8) (hJ : AbidesFrom W.heap.size J) (hn₀ : n₀ ≤ W.heap.size)
    (hY : ∀ pre x W1, J pre W1 → (pre.length < m ∧ Packet W1 n₀ x (pk pre.length)) → YieldAt Fence.wide 0 Try.prog l #[x] W1 fun e W' =>
      (e = .returned (.bool true) ∧ J (pre ++ [x]) W' ∧ KeptB K W1 W') ∨ (e = .returned (.bool false) ∧ Jx (pre ++ [x]) W'))
    (hK : ∀ q, K q → q < W.heap.size) (hBn : W.cell? ⟨Bn, 0, none⟩ = some (.pointer (some ⟨b, 0, none⟩))) (kBn : K Bn) (kb : K b) (hR : RingAt b a m sv pk W) (kp : ∀ k, k < m → ∀ q, (sv k).ownBlock = some q → K q) (h0 : J [] W) :
    CallsIn Fence.wide 1 Try.prog 15 #[.func (.yield l) #[] #[], .pointer (some ⟨Bn, 0, none⟩)] W fun e W' => (∃ v, e = .returned v) ∧ ((∃ xs, xs.length = m ∧ J xs W') ∨ (∃ pre, Jx pre W')) := by
  refine callsIn_of_wp Try.func15 rfl trivial ?_ rfl
  simp only [Try.ntmps15, List.size_toArray, List.length_cons, List.length_nil, Nat.reduceAdd, Nat.reduceSub, Array.replicate_succ, Array.replicate_zero, List.push_toArray, List.append_toArray, List.nil_append, List.cons_append]
  have hl := callsIn_wide (n := 0).2 (len_any b m W hR.c9)
  have HR := Lib.hid hR
  have HJ := Lib.hid h0
  clear hR h0
  gi_wp2_with (refine ⟨trivial, ?_⟩; gi_at_call 10; refine hl.mono ?_; rintro e w' ⟨rfl, rfl⟩)
  clear hl
  gi_loopw [6] (fun s6 wr => ∃ (k : Nat) (pre : List Value), k ≤ m ∧ s6 = .int .i64 k ∧ pre.length = k ∧ J pre wr ∧ KeptB K W wr) (fun s6 _ => m - (intOf s6).toNat)
  case atStart => exact ⟨0, [], Nat.zero_le _, rfl, rfl, HJ.out, KeptB.refl _ _⟩
  case round =>
    obtain ⟨k, pre, hk, rfl, hlen, hJs, hkp⟩ := hrel
    by_cases hlt : k < m
    · have c8 := (hkp.cell (p := ⟨b, 8, none⟩) kb).trans HR.out.c8
      have cB := (hkp.cell (p := ⟨Bn, 0, none⟩) kBn).trans hBn
      have cq := (hkp.cell (p := ⟨b, (a + k) % 8, none⟩) kb).trans (HR.out.cq k hlt)
      obtain ⟨hh, hs32⟩ := HR.out.pk k hlt
      have hh2 := hkp.holds hh (kp k hlt)
      obtain ⟨x, w1, hrun, hown, hgr⟩ := copy_run wr.drew n₀ (pk k) (sv k) hh2 (by omega) (Nat.le_trans hn₀ hkp.size)
      have hJ1 : J pre w1 := hJ pre wr w1 none hJs ⟨hgr.os, hgr.tape, hgr.output, hgr.size, hgr.block⟩ (fun r e => by cases e)
      obtain ⟨fn, tmps, assign, body, hy, hRd⟩ := hY pre x w1 hJ1 (by rw [hlen]; exact ⟨hlt, hown⟩)
      have hk1 : KeptB K wr w1 := ⟨hgr.size, fun q hq => hgr.block q (Nat.lt_of_lt_of_le (hK q hq) hkp.size) (by simp)⟩
      have hRd2 : RoundIn Fence.wide 0 Try.prog l fn tmps assign body w1 (YPost (fun W' => J (pre ++ [x]) W' ∧ KeptB K w1 W') (fun W' => Jx (pre ++ [x]) W')) := hRd.mono (by
        rintro e W' (⟨rfl, h1, h2⟩ | ⟨rfl, h1⟩)
        · exact ⟨true, rfl, (fun _ => ⟨h1, h2⟩), (fun h => Bool.noConfusion h)⟩
        · exact ⟨false, rfl, (fun h => Bool.noConfusion h), (fun _ => h1)⟩)
      obtain ⟨ao, cc, hsv⟩ := hh.form
      have cq2 := cq
      rw [hsv] at cq hrun
      obtain ⟨q, hq, hq8⟩ : ∃ q : Nat, (a + k) % 8 = q ∧ q < 8 := ⟨_, rfl, Nat.mod_lt _ (by decide)⟩
      rw [hq] at cq
      have hw1 := wrap_sum a k ha (by omega)
      have hw2 : ((a : Int) + k).tmod 8 = (q : Int) := by rw [Int.tmod_eq_emod_of_nonneg (by omega)]; omega
      have hw3 : ((a : Int) + k) % 8 = (q : Int) := by omega
      have hq0 : (0 : Int) ≤ (q : Int) := by omega
      have hq9 : (q : Int) < 8 := by omega
      have hkm : (k : Int) < (m : Int) := by omega
      have HK1 := Lib.hid (And.intro hkp hk1)
      have HL := Lib.hid hlen
      have HRD := Lib.hid hRd2
      clear hRd hRd2 hh hh2 hown hgr hkp hk1 hJ1 hJs hlen hq hsv
      gi_wp2
      refine wpIn_region_any (by kernel_rfl) ?_
      change wpAnyIn _ _ _ _ _ _ _ _ _ (World.drew _)
      refine take_in (i := 0) rfl (by kernel_rfl) (by kernel_rfl) (by kernel_rfl) (by rfl) (fun _ => rfl) (fun _ _ _ h => h) (by intro w; go_simp; first | done | with_reducible rfl) ?_
      refine take_in (i := 6) rfl (by kernel_rfl) (by kernel_rfl) (by kernel_rfl) (by rfl) (fun _ => rfl) (fun _ _ _ h => h) (by intro w; go_simp; first | done | with_reducible rfl) ?_
      refine wpAnyIn_ready (rs := [1, 2]) (by kernel_rfl) (by simp) (AllReadyIn.cons rfl (fun K hK => ?_) (AllReadyIn.cons rfl (fun K hK => ?_) AllReadyIn.nil))
      · go_simp
        refine hK _ _ ?_
        clear hK K
        refine take_in (i := 9) rfl (by kernel_rfl) (by kernel_rfl) (by kernel_rfl) (by rfl) (fun _ => rfl) (fun _ _ _ h => h) (by intro w; go_simp; first | done | with_reducible rfl) ?_
        refine take_in (i := 10) rfl (by kernel_rfl) (by kernel_rfl) (by kernel_rfl) (by rfl) (fun _ => rfl) (fun _ _ _ h => h) (by intro w; go_simp; first | done | with_reducible rfl) ?_
        refine wpAnyIn_ready (rs := [2]) (by kernel_rfl) (by simp) (AllReadyIn.cons rfl (fun K hK => ?_) AllReadyIn.nil)
        go_simp
        refine hK _ _ ?_
        clear hK K
        refine take_in (i := 3) rfl (by kernel_rfl) (by kernel_rfl) (by kernel_rfl) (by rfl) (fun _ => rfl) (fun _ _ _ h => h) (by intro w; go_simp; first | done | with_reducible rfl) ?_
        refine take_in (i := 4) rfl (by kernel_rfl) (by kernel_rfl) (by kernel_rfl) (by rfl) (fun _ => rfl) (fun _ _ _ h => h) (by intro w; go_simp; first | done | with_reducible rfl) ?_
        refine wpAnyIn_ready (rs := [5]) (by kernel_rfl) (by simp) (AllReadyIn.cons rfl (fun K hK => ?_) AllReadyIn.nil)
        go_simp
        refine hK _ _ ?_
        clear hK K
        refine take_in (i := 7) rfl (by kernel_rfl) (by kernel_rfl) (by kernel_rfl) (by rfl) (fun _ => rfl) (fun _ _ _ h => h) (by intro w; go_simp; first | done | with_reducible rfl) ?_
        refine take_in (i := 8) rfl (by kernel_rfl) (by kernel_rfl) (by kernel_rfl) (by rfl) (fun _ => rfl) (fun _ _ _ h => h) (by intro w; go_simp; first | done | with_reducible rfl) ?_
        refine take_in (i := 11) rfl (by kernel_rfl) (by kernel_rfl) (by kernel_rfl) (by rfl) (fun _ => rfl) (fun _ _ _ h => h) (by intro w; go_simp; first | done | with_reducible rfl) ?_
        refine wpAnyIn_ready (rs := [12]) (by kernel_rfl) (by simp) (AllReadyIn.cons rfl (fun K hK => ?_) AllReadyIn.nil)
        go_simp
        refine hK _ _ ?_
        clear hK K
        refine wpAnyIn_ready (rs := [13]) (by kernel_rfl) (by simp) (AllReadyIn.cons rfl (fun K hK => ?_) AllReadyIn.nil)
        refine copy_op (by rfl) (by rfl) (by rfl) (by rfl) (by rfl) hrun ?_
        refine hK _ _ ?_
        clear hK K
        refine wpAnyIn_ready (rs := [14]) (by kernel_rfl) (by simp) (AllReadyIn.cons rfl (fun K hK => ?_) AllReadyIn.nil)
        go_simp
        refine HRD.out.mono ?_
        rintro e W3 ⟨t, rfl, ht, hf⟩
        go_simp
        refine hK _ _ ?_
        clear hK K
        refine wpAnyIn_ready (rs := [15]) (by kernel_rfl) (by simp) (AllReadyIn.cons rfl (fun K hK => ?_) AllReadyIn.nil)
        go_simp
        refine hK _ _ ?_
        clear hK K
        refine wpAnyIn_done (by kernel_rfl) ?_ _
        cases t with
        | true =>
          obtain ⟨hJ3, hk3⟩ := ht rfl
          clear ht hf
          gi_wp2
          go_roundw
          case rel => exact ⟨k + 1, pre ++ [x], by omega, by go_num, by simp [HL.out], hJ3, HK1.out.1.trans (HK1.out.2.trans hk3)⟩
          case measure => simp [intOf]; omega
        | false =>
          have hJ3 := hf rfl
          clear ht hf
          gi_wp2
          refine bodyPost_ret (results_none rfl _ _ _) rfl ?_
          exact ⟨⟨_, rfl⟩, .inr ⟨_, hJ3⟩⟩
      · go_simp
        refine hK _ _ ?_
        clear hK K
        refine take_in (i := 3) rfl (by kernel_rfl) (by kernel_rfl) (by kernel_rfl) (by rfl) (fun _ => rfl) (fun _ _ _ h => h) (by intro w; go_simp; first | done | with_reducible rfl) ?_
        refine take_in (i := 4) rfl (by kernel_rfl) (by kernel_rfl) (by kernel_rfl) (by rfl) (fun _ => rfl) (fun _ _ _ h => h) (by intro w; go_simp; first | done | with_reducible rfl) ?_
        refine wpAnyIn_ready (rs := [1, 5]) (by kernel_rfl) (by simp) (AllReadyIn.cons rfl (fun K hK => ?_) (AllReadyIn.cons rfl (fun K hK => ?_) AllReadyIn.nil))
        · go_simp
          refine hK _ _ ?_
          clear hK K
          refine take_in (i := 9) rfl (by kernel_rfl) (by kernel_rfl) (by kernel_rfl) (by rfl) (fun _ => rfl) (fun _ _ _ h => h) (by intro w; go_simp; first | done | with_reducible rfl) ?_
          refine take_in (i := 10) rfl (by kernel_rfl) (by kernel_rfl) (by kernel_rfl) (by rfl) (fun _ => rfl) (fun _ _ _ h => h) (by intro w; go_simp; first | done | with_reducible rfl) ?_
          refine wpAnyIn_ready (rs := [5]) (by kernel_rfl) (by simp) (AllReadyIn.cons rfl (fun K hK => ?_) AllReadyIn.nil)
          go_simp
          refine hK _ _ ?_
          clear hK K
          refine take_in (i := 7) rfl (by kernel_rfl) (by kernel_rfl) (by kernel_rfl) (by rfl) (fun _ => rfl) (fun _ _ _ h => h) (by intro w; go_simp; first | done | with_reducible rfl) ?_
          refine take_in (i := 8) rfl (by kernel_rfl) (by kernel_rfl) (by kernel_rfl) (by rfl) (fun _ => rfl) (fun _ _ _ h => h) (by intro w; go_simp; first | done | with_reducible rfl) ?_
          refine take_in (i := 11) rfl (by kernel_rfl) (by kernel_rfl) (by kernel_rfl) (by rfl) (fun _ => rfl) (fun _ _ _ h => h) (by intro w; go_simp; first | done | with_reducible rfl) ?_
          refine wpAnyIn_ready (rs := [12]) (by kernel_rfl) (by simp) (AllReadyIn.cons rfl (fun K hK => ?_) AllReadyIn.nil)
          go_simp
          refine hK _ _ ?_
          clear hK K
          refine wpAnyIn_ready (rs := [13]) (by kernel_rfl) (by simp) (AllReadyIn.cons rfl (fun K hK => ?_) AllReadyIn.nil)
          refine copy_op (by rfl) (by rfl) (by rfl) (by rfl) (by rfl) hrun ?_
          refine hK _ _ ?_
          clear hK K
          refine wpAnyIn_ready (rs := [14]) (by kernel_rfl) (by simp) (AllReadyIn.cons rfl (fun K hK => ?_) AllReadyIn.nil)
          go_simp
          refine HRD.out.mono ?_
          rintro e W3 ⟨t, rfl, ht, hf⟩
          go_simp
          refine hK _ _ ?_
          clear hK K
          refine wpAnyIn_ready (rs := [15]) (by kernel_rfl) (by simp) (AllReadyIn.cons rfl (fun K hK => ?_) AllReadyIn.nil)
          go_simp
          refine hK _ _ ?_
          clear hK K
          refine wpAnyIn_done (by kernel_rfl) ?_ _
          cases t with
          | true =>
            obtain ⟨hJ3, hk3⟩ := ht rfl
            clear ht hf
            gi_wp2
            go_roundw
            case rel => exact ⟨k + 1, pre ++ [x], by omega, by go_num, by simp [HL.out], hJ3, HK1.out.1.trans (HK1.out.2.trans hk3)⟩
            case measure => simp [intOf]; omega
          | false =>
            have hJ3 := hf rfl
            clear ht hf
            gi_wp2
            refine bodyPost_ret (results_none rfl _ _ _) rfl ?_
            exact ⟨⟨_, rfl⟩, .inr ⟨_, hJ3⟩⟩
        · go_simp
          refine hK _ _ ?_
          clear hK K
          refine take_in (i := 7) rfl (by kernel_rfl) (by kernel_rfl) (by kernel_rfl) (by rfl) (fun _ => rfl) (fun _ _ _ h => h) (by intro w; go_simp; first | done | with_reducible rfl) ?_
          refine take_in (i := 8) rfl (by kernel_rfl) (by kernel_rfl) (by kernel_rfl) (by rfl) (fun _ => rfl) (fun _ _ _ h => h) (by intro w; go_simp; first | done | with_reducible rfl) ?_
          refine wpAnyIn_ready (rs := [1]) (by kernel_rfl) (by simp) (AllReadyIn.cons rfl (fun K hK => ?_) AllReadyIn.nil)
          go_simp
          refine hK _ _ ?_
          clear hK K
          refine take_in (i := 9) rfl (by kernel_rfl) (by kernel_rfl) (by kernel_rfl) (by rfl) (fun _ => rfl) (fun _ _ _ h => h) (by intro w; go_simp; first | done | with_reducible rfl) ?_
          refine take_in (i := 10) rfl (by kernel_rfl) (by kernel_rfl) (by kernel_rfl) (by rfl) (fun _ => rfl) (fun _ _ _ h => h) (by intro w; go_simp; first | done | with_reducible rfl) ?_
          refine take_in (i := 11) rfl (by kernel_rfl) (by kernel_rfl) (by kernel_rfl) (by rfl) (fun _ => rfl) (fun _ _ _ h => h) (by intro w; go_simp; first | done | with_reducible rfl) ?_
          refine wpAnyIn_ready (rs := [12]) (by kernel_rfl) (by simp) (AllReadyIn.cons rfl (fun K hK => ?_) AllReadyIn.nil)
          go_simp
          refine hK _ _ ?_
          clear hK K
          refine wpAnyIn_ready (rs := [13]) (by kernel_rfl) (by simp) (AllReadyIn.cons rfl (fun K hK => ?_) AllReadyIn.nil)
          refine copy_op (by rfl) (by rfl) (by rfl) (by rfl) (by rfl) hrun ?_
          refine hK _ _ ?_
          clear hK K
          refine wpAnyIn_ready (rs := [14]) (by kernel_rfl) (by simp) (AllReadyIn.cons rfl (fun K hK => ?_) AllReadyIn.nil)
          go_simp
          refine HRD.out.mono ?_
          rintro e W3 ⟨t, rfl, ht, hf⟩
          go_simp
          refine hK _ _ ?_
          clear hK K
          refine wpAnyIn_ready (rs := [15]) (by kernel_rfl) (by simp) (AllReadyIn.cons rfl (fun K hK => ?_) AllReadyIn.nil)
          go_simp
          refine hK _ _ ?_
          clear hK K
          refine wpAnyIn_done (by kernel_rfl) ?_ _
          cases t with
          | true =>
            obtain ⟨hJ3, hk3⟩ := ht rfl
            clear ht hf
            gi_wp2
            go_roundw
            case rel => exact ⟨k + 1, pre ++ [x], by omega, by go_num, by simp [HL.out], hJ3, HK1.out.1.trans (HK1.out.2.trans hk3)⟩
            case measure => simp [intOf]; omega
          | false =>
            have hJ3 := hf rfl
            clear ht hf
            gi_wp2
            refine bodyPost_ret (results_none rfl _ _ _) rfl ?_
            exact ⟨⟨_, rfl⟩, .inr ⟨_, hJ3⟩⟩
    · obtain rfl : k = m := by omega
      have HF := Lib.hid (And.intro hlen hJs)
      clear hlen hJs
      gi_wp2
      go_end0
      exact ⟨⟨_, rfl⟩, .inl ⟨pre, HF.out.1, HF.out.2⟩⟩
end Go.Proofs.Ytmnhnjljapabdaa
