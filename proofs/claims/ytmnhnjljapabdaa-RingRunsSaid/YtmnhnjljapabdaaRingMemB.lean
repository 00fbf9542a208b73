/- What the law RingMemory holds between its statements. Conditions: as each theorem names them. -/
import Derived.Test.YtmnhnjljapabdaaRingMemA
import Derived.RangeFuncFrom
import Derived.Lib.BufferWrite
set_option linter.unusedVariables false
namespace Go.Proofs.Ytmnhnjljapabdaa
open Go.ChangeShapes Go.WideShapes Go.ChangeAt Go.RowKit Go.Shelf
open Go.Lib (Bytes)

/-- an append of what came in to nil -/
theorem copy_reads (w : World) (base : Nat) (B : ByteArray) (v : Value) (hv : Reads w v B) (hs : B.size ≤ 300) (hb : base ≤ w.heap.size) :
    ∃ x w1, (Builtin.append_ #[22, 22] 22 #[.slice none 0 0, v]).run Try.prog w = .ok x w1 ∧ Packet w1 base x B ∧ w.grownBy w1 none := by
  obtain ⟨i0, hi, hz0, hz1, hz2⟩ := info_parts info5
  have nil : B.size = 0 → Packet w base (.slice none 0 0) B := fun h0 => by
    refine ⟨?_, fun _ => rfl⟩
    have e : cellsOf B B.size = [] := by rw [h0]; rfl
    rw [e, h0]
    exact World.ownsRow_nil _ _ _ _
  rcases hv with ⟨rfl, h0⟩ | ⟨p, c, rfl, h0⟩ | ⟨g, off, c, rfl, h0, h1, h2, h3, hby⟩
  · exact ⟨.slice none 0 0, w, by kernel_rfl, nil h0, World.grownBy.refl _ _⟩
  · exact ⟨.slice none 0 0, w, rfl, nil h0, World.grownBy.refl _ _⟩
  · obtain ⟨g', cap', w1, hr, ho, hg, _, _⟩ := run_append_lies (P := Try.prog) (w := w) 22 22 base 5 i0 (.int .u8 0) 1 1 Try.underlying22 hi hz0 hz1 hz2 rfl (by decide) (.slice none 0 0) 0 [] (World.ownsRow_nil _ _ _ _)
      ⟨g, off, none⟩ B.size c (cellsOf B B.size) (by rw [cellsOf_length]; omega) (bytes_cells hby (Nat.le_refl _)) (cellsOf_one _ _) h0 (by unfold maxLen; omega) (by omega) hb _ rfl
    refine ⟨_, w1, hr, ⟨?_, fun h => by omega⟩, hg⟩
    simpa using ho

theorem copy_list {P : Program} {ops : Array Oper} {rest : List Oper} {o : Oper} {a : Act} {w w1 : World} {Q : Exit → Act → World → Prop} {s x' : Operand} {t : TypeId} {v0 v x : Value} (hgd : o.guard = none)
    (ho : o.op = .call { callee := .builtin .append, args := #[s, x'], argTypes := #[t, t] }) (ht : o.type = t) (hs : a.eval s = v0) (hx : a.eval x' = v)
    (hr : (Builtin.append_ #[t, t] t #[v0, v]).run P w = .ok x w1) (h : wpList P ops Q rest (a.put o.dst x) w1) : wpList P ops Q (o :: rest) a w := by
  refine wpList_plain hgd fun K hK => ?_
  have e : (execOp a.eval o).run P w = .ok (.value x) w1 := by
    unfold execOp
    simp only [ho, ht, resolve, invoke, builtin, Sem.run_bind, Sem.run_pure, Result.andThen_ok, List.map_toArray, List.map_cons, List.map_nil, hs, hx, hr]
  unfold Oper.wp
  rw [e]
  exact hK _ _ h

theorem Packet.reads {W : World} {base : Nat} {v : Value} {B : ByteArray} (h : Packet W base v B) : Reads W v B := by
  by_cases h0 : B.size = 0
  · exact .inl ⟨h.nil h0, h0⟩
  · obtain ⟨j, hj⟩ : ∃ j, B.size = j + 1 := ⟨B.size - 1, by omega⟩
    have h' := h.own
    rw [hj] at h'
    obtain ⟨g, cap, rfl, _, hl, h1, h2⟩ := own_form h'
    rcases h.holds with ⟨e, _⟩ | ⟨g', cap', e, _, hby⟩
    · cases e
    · injection e with e1 _ _
      injection e1 with e1
      injection e1 with e1 _ _
      subst e1
      exact .inr (.inr ⟨g, 0, cap, by rw [hj], by omega, by omega, h2, hl, hby⟩)
theorem Packet.base_le {W : World} {base : Nat} {v : Value} {B : ByteArray} (h : Packet W base v B) : ∀ q, v.ownBlock = some q → base ≤ q ∧ q < W.heap.size := fun q hq => h.own.lt q hq
theorem Packet.lower {W : World} {base b2 : Nat} {v : Value} {B : ByteArray} (h : Packet W base v B) (hb : b2 ≤ base) : Packet W b2 v B := by
  refine ⟨?_, h.nil⟩
  obtain ⟨hl, hc | ⟨g, cap, cur, h1, h2, h3⟩⟩ := h.own
  · exact ⟨hl, .inl hc⟩
  · exact ⟨hl, .inr ⟨g, cap, cur, h1, by omega, h3⟩⟩

/-- each of its cells can be read and written -/
theorem Packet.cells {W : World} {base : Nat} {mo : Option Addr} {mc : Nat} {B : ByteArray} (h : Packet W base (.slice mo B.size mc) B) (k : Nat) (hk : k < B.size) : ∃ g z, mo = some ⟨g, 0, none⟩ ∧ base ≤ g ∧ g < W.heap.size ∧ W.cell? ⟨g, k, none⟩ = some (.int .u8 z) ∧ W.frozen? ⟨g, k, none⟩ = false := by
  obtain ⟨j, hj⟩ : ∃ j, B.size = j + 1 := ⟨B.size - 1, by omega⟩
  have h' := h.own
  rw [hj] at h'
  obtain ⟨g, cap, e, h1, h2, _⟩ := own_form h'
  injection e with e1 _ e3
  subst e1 e3
  have h2' := h.own
  have hc := h2'.cells (g := g) rfl k (.int .u8 ((B[k]?.getD 0).toNat : Int)) (by unfold cellsOf; rw [List.getElem?_map, List.getElem?_range hk]; rfl)
  rw [add_at] at hc
  exact ⟨g, _, rfl, h1, h2, by simpa using hc, h2'.frozenAt k⟩

theorem Packet.put {W : World} {base l : Nat} {o o' : Obj} {x : Value} {B : ByteArray} (h : Packet W base x B) (hl : W.heap[l]? = some o) (ho : o.isCells = false) : Packet (W.putObj l o') base x B := by
  refine h.kept (grownBy_putObj' W l o') ?_
  obtain ⟨_, hc | ⟨g, cap, cur, rfl, _, hg, _⟩⟩ := h.own
  · exact .inl (by rw [hc.1]; rfl)
  · right
    intro e
    have e2 : g = l := by injection e
    subst e2
    rw [hg] at hl
    cases hl
    cases ho

/-- a ring at block b, the rest of the world grown -/
theorem RS.grown {b a n : Nat} {f : Nat → Value} {w0 wr w' : World} {row : Option Nat} (h : RS b a n f w0 wr) (hg : wr.grownBy w' row) (hr : ∀ k, row = some k → b < k) : RS b a n f w0 w' := by
  have hne : some b ≠ row := fun e => by have := hr b e.symm; omega
  have hc : ∀ q v, wr.cell? ⟨b, q, none⟩ = some v → w'.cell? ⟨b, q, none⟩ = some v := fun q v hv => hg.cell hv hne
  exact ⟨hc _ _ h.c8, hc _ _ h.c9, fun q hq => hc _ _ (h.cq q hq), fun q => (World.frozen?_of_block (a := ⟨b, q, none⟩) (hg.block b h.hb hne)).trans (h.fr q), Nat.lt_of_lt_of_le h.hb hg.size, h.bl.grown hg (Nat.le_of_lt h.hb) (fun k hk => Nat.le_of_lt (hr k hk))⟩

theorem Below.of_grown {W W' : World} (h : W.grownBy W' none) : Below W.heap.size W W' := (Below.refl _ _).grown h (Nat.le_refl _) (fun k hk => by cases hk)
theorem some_ne {a b : Nat} (h : a ≠ b) : (some a : Option Nat) ≠ some b := fun e => h (Option.some.inj e)
/-- behind the two pushes -/
structure ME (R V : Nat) (x0 x1 : Value) (B : ByteArray) (w1 wr : World) : Prop where
  ring : RS R 0 2 (fun i => if i = 1 then x1 else if i = 0 then x0 else .slice none 0 0) w1 wr
  p0 : Packet wr (V + 1) x0 (pkt B)
  p1 : Packet wr (V + 1) x1 (pkt B)
  want : wr.cell? ⟨V, 0, none⟩ = some (.string (pkt B))
  rv : R < V
  vl : V < wr.heap.size
theorem ME.grown {R V : Nat} {x0 x1 : Value} {B : ByteArray} {w1 wr w' : World} {row : Option Nat} (h : ME R V x0 x1 B w1 wr) (hg : wr.grownBy w' row) (hr : ∀ k, row = some k → R < k ∧ k ≠ V ∧ x0.ownBlock ≠ some k ∧ x1.ownBlock ≠ some k) : ME R V x0 x1 B w1 w' := by
  have hx : ∀ x : Value, (∀ k, row = some k → x.ownBlock ≠ some k) → x.ownBlock = none ∨ x.ownBlock ≠ row := fun x hk => by
    cases hx : x.ownBlock with
    | none => exact .inl rfl
    | some q => right; intro e; exact hk q e.symm hx
  exact ⟨h.ring.grown hg (fun k hk => (hr k hk).1), h.p0.kept hg (hx _ fun k hk => (hr k hk).2.2.1), h.p1.kept hg (hx _ fun k hk => (hr k hk).2.2.2), hg.cell h.want (fun e => (hr V e.symm).2.1 rfl), h.rv, Nat.lt_of_lt_of_le h.vl hg.size⟩

/-- the blocks that a round of the range keeps -/
def KM (N R : Nat) (x0 x1 : Value) (q : Nat) : Prop := q = N + 1 ∨ q = R ∨ x0.ownBlock = some q ∨ x1.ownBlock = some q
/-- within a round -/
structure MBody (N R V : Nat) (x0 x1 : Value) (B : ByteArray) (k : Nat) (xo : Option Addr) (w1 W wx : World) : Prop where
  ko : KeepsOthers W wx
  kp : KeptB (KM N R x0 x1) W wx
  me : ME R V x0 x1 B w1 wx
  cn : wx.cell? ⟨N, 0, none⟩ = some (.int .i64 k)
  fn : wx.frozen? ⟨N, 0, none⟩ = false
  hn : N < wx.heap.size
  xs : ∀ j, j < (pkt B).size → ∃ g z, xo = some ⟨g, 0, none⟩ ∧ N + 2 ≤ g ∧ wx.cell? ⟨g, j, none⟩ = some (.int .u8 z) ∧ wx.frozen? ⟨g, j, none⟩ = false
theorem KeptB.setCell {K : Nat → Prop} {A B : World} (h : KeptB K A B) (b i : Nat) (v : Value) (hb : ¬ K b) : KeptB K A (B.setCell ⟨b, i, none⟩ v) :=
  h.trans ⟨by simp [World.setCell], fun q hq => Below.heap_setCell _ _ _ _ (fun e => hb (by have e2 : q = b := e; rw [← e2]; exact hq))⟩
theorem MBody.store {N R V : Nat} {x0 x1 : Value} {B : ByteArray} {k : Nat} {g i : Nat} {w1 W wx : World} (h : MBody N R V x0 x1 B k (some ⟨g, 0, none⟩) w1 W wx) (hV : V < N) (h0 : ∀ q, x0.ownBlock = some q → V < q ∧ q < N) (h1 : ∀ q, x1.ownBlock = some q → V < q ∧ q < N) (hg : N + 2 ≤ g) (v : Int) :
    MBody N R V x0 x1 B k (some ⟨g, 0, none⟩) w1 W (wx.setCell ⟨g, i, none⟩ (.int .u8 v)) := by
  have hrv := h.me.rv
  refine ⟨h.ko.trans (KeepsOthers.setCell _ _ _), h.kp.setCell g i _ ?_, h.me.grown (Go.Lib.grownBy_setCell _ _ _ _) (fun q hq => ?_), (World.cell?_setCell_other _ _ _ _ (by intro e; injection e with e _ _; omega)).trans h.cn, by rw [World.frozen?_setCell]; exact h.fn, by simpa [World.setCell] using h.hn, fun j hj => ?_⟩
  · rintro (e | e | e | e)
    · omega
    · omega
    · have := h0 g e; omega
    · have := h1 g e; omega
  · cases hq
    exact ⟨by omega, by omega, fun e => by have := h0 g e; omega, fun e => by have := h1 g e; omega⟩
  · obtain ⟨g', z, e, h2, h3, h4⟩ := h.xs j hj
    injection e with e
    injection e with e _ _
    subst e
    by_cases hji : j = i
    · subst hji
      exact ⟨g, _, rfl, h2, World.cell?_setCell_same' _ _ _ (by rw [h3]; rfl), by rw [World.frozen?_setCell]; exact h4⟩
    · exact ⟨g, z, rfl, h2, (World.cell?_setCell_other _ _ _ _ (by intro e; injection e with _ e2 _; exact hji e2.symm)).trans h3, by rw [World.frozen?_setCell]; exact h4⟩
theorem MBody.count {N R V : Nat} {x0 x1 : Value} {B : ByteArray} {k : Nat} {xo : Option Addr} {w1 W wx : World} (h : MBody N R V x0 x1 B k xo w1 W wx) (hV : V < N) (h0 : ∀ q, x0.ownBlock = some q → V < q ∧ q < N) (h1 : ∀ q, x1.ownBlock = some q → V < q ∧ q < N) :
    KeepsOthers W (wx.setCell ⟨N, 0, none⟩ (.int .i64 ((k + 1 : Nat) : Int))) ∧ KeptB (KM N R x0 x1) W (wx.setCell ⟨N, 0, none⟩ (.int .i64 ((k + 1 : Nat) : Int))) ∧
    (ME R V x0 x1 B w1 (wx.setCell ⟨N, 0, none⟩ (.int .i64 ((k + 1 : Nat) : Int))) ∧ (wx.setCell ⟨N, 0, none⟩ (.int .i64 ((k + 1 : Nat) : Int))).cell? ⟨N, 0, none⟩ = some (.int .i64 ((k + 1 : Nat) : Int)) ∧ (wx.setCell ⟨N, 0, none⟩ (.int .i64 ((k + 1 : Nat) : Int))).frozen? ⟨N, 0, none⟩ = false ∧ N < (wx.setCell ⟨N, 0, none⟩ (.int .i64 ((k + 1 : Nat) : Int))).heap.size) := by
  have hrv := h.me.rv
  refine ⟨h.ko.trans (KeepsOthers.setCell _ _ _), h.kp.setCell N 0 _ ?_, h.me.grown (Go.Lib.grownBy_setCell _ _ _ _) (fun q hq => ?_), World.cell?_setCell_same' _ _ _ (by rw [h.cn]; rfl), by rw [World.frozen?_setCell]; exact h.fn, by simpa [World.setCell] using h.hn⟩
  · rintro (e | e | e | e)
    · omega
    · omega
    · have := h0 N e; omega
    · have := h1 N e; omega
  · cases hq
    exact ⟨by omega, by omega, fun e => by have := h0 N e; omega, fun e => by have := h1 N e; omega⟩
theorem ME.pop0 {R V : Nat} {x0 x1 : Value} {B : ByteArray} {w1 wr : World} (h : ME R V x0 x1 B w1 wr) : Calls Try.prog 9 #[.pointer (some ⟨R, 0, none⟩)] wr fun e w' => e = .returned (.tuple #[x0, .bool true]) ∧ RS R 1 1 (fun i => if i = 1 then x1 else .slice none 0 0) w1 w' ∧ wr.grownBy w' (some R) := by
  refine (h.ring.pop_some (by decide) (by decide) (by decide)).mono ?_
  rintro e w' ⟨rfl, hr, hg⟩
  refine ⟨rfl, ?_, hg⟩
  have e : (fun i => if i = 0 then .slice none 0 0 else (fun i => if i = 1 then x1 else if i = 0 then x0 else Value.slice none 0 0) i) = (fun i => if i = 1 then x1 else Value.slice none 0 0) := by
    funext i
    by_cases h0 : i = 0
    · subst h0; rfl
    · simp [h0]
  rw [e] at hr
  exact hr
theorem RS.pop1 {R : Nat} {x1 : Value} {w1 wr : World} (h : RS R 1 1 (fun i => if i = 1 then x1 else .slice none 0 0) w1 wr) : Calls Try.prog 9 #[.pointer (some ⟨R, 0, none⟩)] wr fun e w' => e = .returned (.tuple #[x1, .bool true]) ∧ w'.cell? ⟨R, 9, none⟩ = some (.int .i64 0) ∧ Below R w1 w' ∧ wr.grownBy w' (some R) := by
  refine (h.pop_some (by decide) (by decide) (by decide)).mono ?_
  rintro e w' ⟨rfl, hr, hg⟩
  exact ⟨rfl, hr.c9, hr.bl, hg⟩
theorem nil_push (v : Value) (w : World) : Calls Try.prog 8 #[.pointer none, v] w fun e w' => e = .returned (.bool false) ∧ w = w' := by
  go_enter Try.func8, Try.ntmps8
  go_wp2_with fail
  go_ret
  exact ⟨rfl, rfl⟩
theorem nil_pop (w : World) : Calls Try.prog 9 #[.pointer none] w fun e w' => e = .returned (.tuple #[.slice none 0 0, .bool false]) ∧ w = w' := by
  go_enter Try.func9, Try.ntmps9
  go_wp2_with fail
  exact bodyPost_ret (v := .tuple #[.slice none 0 0, .bool false]) (by simp [results, Try.results9, go_sem]) rfl ⟨rfl, rfl⟩
theorem nil_len (w : World) : Calls Try.prog 10 #[.pointer none] w fun e w' => e = .returned (.int .i64 0) ∧ w = w' := by
  go_enter Try.func10, Try.ntmps10
  go_wp2_with fail
  go_ret
  exact ⟨rfl, rfl⟩
theorem nil_lost (w : World) : Calls Try.prog 14 #[.pointer none] w fun e w' => e = .returned (.int .i64 0) ∧ w = w' := by
  go_enter Try.func14, Try.ntmps14
  go_wp2_with fail
  go_ret
  exact ⟨rfl, rfl⟩
theorem nil_out (w : World) : Calls Try.prog 12 #[.pointer none] w fun e w' => e = .returned (.slice none 0 0) ∧ w = w' := by
  go_enter Try.func12, Try.ntmps12
  go_wp2_with fail
  go_ret
  exact ⟨rfl, rfl⟩
theorem nil_put (x : Int) (w : World) : Calls Try.prog 11 #[.pointer none, .int .u64 x] w fun e w' => e = .returned (.bool false) ∧ w = w' := by
  go_enter Try.func11, Try.ntmps11
  go_wp2_with fail
  go_ret
  exact ⟨rfl, rfl⟩
theorem empty_convert (p : Option Addr) (c : Nat) (w : World) : (convert 22 9 (.slice p 0 c)).run Try.prog w = .ok (.string ByteArray.empty) w := by
  cases p <;> rfl
theorem pkt_empty {B : ByteArray} (h : B.size = 0) : pkt B = ByteArray.empty := by
  apply ByteArray.ext
  apply Array.eq_empty_of_size_eq_zero
  have := pkt_size B
  show (pkt B).size = 0
  omega
theorem reads_le {W : World} {ao : Option Addr} {c : Nat} {B : ByteArray} (h : Reads W (.slice ao B.size c) B) : B.size ≤ c := by
  rcases h with ⟨e, h0⟩ | ⟨p, c', e, h0⟩ | ⟨g, off, c', e, _, h1, _⟩
  · omega
  · omega
  · injection e with _ _ e3; omega
theorem reads_cut {W : World} {ao : Option Addr} {c : Nat} {B : ByteArray} (h : Reads W (.slice ao B.size c) B) : (convert 22 9 (.slice ao (min (B.size : Int) 32).toNat c)).run Try.prog W = .ok (.string (pkt B)) W := by
  have e0 : (min (B.size : Int) 32).toNat = (pkt B).size := by rw [pkt_size]; omega
  rw [e0]
  by_cases hz : B.size = 0
  · rw [pkt_empty hz]; exact empty_convert _ _ _
  · rcases h with ⟨e, h0⟩ | ⟨p, c', e, h0⟩ | ⟨g, off, c', e, _, h1, _, _, hby⟩
    · exact absurd h0 hz
    · exact absurd h0 hz
    · injection e with e1 _ e3
      subst e1 e3
      exact Go.Lib.run_convert_whole (P := Try.prog) W 22 5 9 Try.underlying22 Try.underlying5 Try.underlying9 g off _ (bytes_pre hby (by omega)) c
/-- where the law has its bytes, and the string that it wants -/
structure MA (R V : Nat) (x : Value) (B : ByteArray) (w1 wr : World) : Prop where
  ring : RS R 0 0 (fun _ => .slice none 0 0) w1 wr
  mine : Packet wr (R + 1) x B
  want : wr.cell? ⟨V, 0, none⟩ = some (.string (pkt B))
  rv : R < V
  vl : V < wr.heap.size
  xv : ∀ q, x.ownBlock = some q → q < V
end Go.Proofs.Ytmnhnjljapabdaa
