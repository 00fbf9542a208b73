/- Slices and strings: lengths and cells. Conditions: as each theorem names them. Lengths, the least and the greatest, conversions, clears. Conditions: as each theorem names them. Conversions, rows made, rows cleared, copies. Conditions: as each theorem names them. Conversions, clears, copies. Conditions: as each theorem names them. Clears, copies, appends. Conditions: as each theorem names them. Appends. Conditions: as each theorem names them. Appends, as the machine does them. Conditions: as each theorem names them. Slices of slices, arrays and strings. Conditions: as each theorem names them. -/
import Derived.Deep.AppendSrc
import Derived.Laws.MakeOwn
import Derived.Test.YtcajgbpcimimhaaGreatDoorVmGbG
import Derived.Laws.BytesString
set_option linter.unusedVariables false
namespace Go.Proofs.YtcajgbpcimimhaaGreatDoor.Vm
open Go Go.RowKit
variable {P : Program} {E : En} {w : W} {K : Nat → Prop} {W0 Wd : World} {rec : Rec} {e : Env} {k : Ex → Env → W → Bool} {fin : Fv} {nx : Nat}

def lenV (v : V) : Nat := match v.t with
  | 23 | 24 => v.c
  | 27 => match v.x with
    | .str s => s.size
    | _ => 0
  | _ => 0
/-- a value that has a length -/
structure LenIs (x : Value) (n : Nat) : Prop where
  len : ∀ (P : Program) W, (Builtin.lenOf x).run P W = .ok n W
  is : (∃ a c, x = .slice a n c) ∨ ∃ s : ByteArray, x = .string s ∧ s.size = n
theorem LenIs.slice (a : Option Addr) (n c : Nat) : LenIs (.slice a n c) n := ⟨fun _ _ => rfl, .inl ⟨a, c, rfl⟩⟩
theorem LenIs.string (s : ByteArray) : LenIs (.string s) s.size := ⟨fun _ _ => rfl, .inr ⟨s, rfl, rfl⟩⟩
theorem lenK_ok {v : V} {f : Nat → Bool} (hv : ok E nx v) (h : lenK v f = true) : f (lenV v) = true ∧ LenIs (den E v) (lenV v) ∧ (v.t ≠ 27 → ∃ a c, den E v = .slice a (lenV v) c) := by
  obtain ⟨t, x, l, d, c, b, a⟩ := v
  unfold lenK at h
  unfold lenV
  simp only [] at h ⊢
  split at h
  · rw [fN_eq] at h
    refine ⟨h, ?_, fun _ => ?_⟩
    · simp only [den]; exact LenIs.slice _ _ _
    · simp only [den]; exact ⟨_, _, rfl⟩
  · rw [fN_eq] at h
    obtain ⟨hv, _⟩ := hv
    cases x with
    | slu m j e =>
      refine ⟨h, ?_, fun _ => ?_⟩
      · simp only [den]; exact LenIs.slice _ _ _
      · simp only [den]; exact ⟨_, _, rfl⟩
    | _ => exact hv.2.elim
  · refine ⟨h, ?_, fun _ => ?_⟩
    · simp only [den]; exact LenIs.slice _ _ _
    · simp only [den]; exact ⟨_, _, rfl⟩
  · refine ⟨h, ?_, fun _ => ?_⟩
    · simp only [den]; exact LenIs.slice _ _ _
    · simp only [den]; exact ⟨_, _, rfl⟩
  · cases x with
    | str s =>
      simp only [fN_eq] at h
      refine ⟨h, ?_, fun h => absurd rfl h⟩
      simp only [den]; exact LenIs.string _
    | _ => exact absurd h (bad_false (n := 113))
  · exact absurd h (bad_false (n := 114))

/-! ### Cells -/
theorem den_byte (b : UInt8) : den E (.nat 4 b.toNat) = .int .u8 b.toNat := by simp [den]
theorem byteL_ok (s : ByteArray) : okL E nx (byteL s) ∧ (∀ u, u ∈ byteL s → one u) ∧ (byteL s).length = s.size ∧ denL E (byteL s) = byteCells s := by
  unfold byteL byteCells
  refine ⟨(okL_iff E nx _).2 fun v hv => ?_, fun v hv => ?_, ?_, ?_⟩
  · obtain ⟨b, _, rfl⟩ := List.mem_map.1 hv; exact ⟨trivial, trivial⟩
  · obtain ⟨b, _, rfl⟩ := List.mem_map.1 hv; exact ⟨(by intro h; cases h), (by intro h; cases h)⟩
  · rw [List.length_map, Array.length_toList]; rfl
  · rw [denL_eq, List.map_map]
    apply List.map_congr_left
    intro b _
    exact den_byte b
theorem firstCells_str (s : ByteArray) {m : Nat} (hm : m ≤ s.size) (W : World) : (Builtin.firstCells 1 m (.string s)).run P W = .ok ((byteCells s).take (m * 1)).toArray W := by
  simp only [Builtin.firstCells, Sem.run_pure, byteCells]
  congr 1
  apply Array.ext'
  rw [ByteArray.data_extract]
  simp [← List.map_take]
theorem denL_take (l : List V) (n : Nat) : denL E (l.take n) = (denL E l).take n := by rw [denL_eq, denL_eq, List.map_take]
theorem Cells.first {es n b o m c : Nat} {l : List V} {n' : Nat} (h : Cells E nx Wd b o (n * es) l) (hm : m ≤ n) : (Builtin.firstCells es m (.slice (some ⟨b, o, none⟩) n' c)).run P Wd = .ok (denL E (l.take (m * es))).toArray Wd := by
  have hle : m * es ≤ n * es := Nat.mul_le_mul_right _ hm
  have hlen : (denL E (l.take (m * es))).length = m * es := by rw [denL_eq, List.length_map, List.length_take, h.len]; omega
  refine run_firstCells_some Wd es m _ n' c _ hlen fun j u hj => ?_
  have hj' : j < m * es := by have := (List.getElem?_eq_some_iff.1 hj).1; omega
  rw [add_none, h.cell j (by omega), ← hj, denL_take, List.getElem?_take_of_lt hj']
/-- so many elements, and their cells -/
structure SrcIs (P : Program) (E : En) (w : W) (es : Nat) (v : V) (l : List V) : Prop where
  ok : okL E w.nx l
  one : ∀ u, u ∈ l → one u
  len : l.length = lenV v * es
  sl : v.t ≠ 27 → ∃ a c, den E v = .slice a (lenV v) c
  first : ∀ {K W0 Wd}, SR E w K W0 Wd → ∀ m, m ≤ lenV v → (Builtin.firstCells es m (den E v)).run P Wd = .ok (denL E (l.take (m * es))).toArray Wd
theorem SrcIs.none {es : Nat} {v : V} (h0 : lenV v = 0) (hd : ∃ a c, den E v = .slice a 0 c) : SrcIs P E w es v [] := by
  refine ⟨trivial, fun u hu => (by cases hu), by rw [h0]; simp, fun _ => by rw [h0]; exact hd, fun {K W0 Wd} _ m hm => ?_⟩
  rw [h0] at hm
  have e0 : m = 0 := by omega
  subst e0
  obtain ⟨a, c, e1⟩ := hd
  rw [e1]
  cases a with
  | none => simpa [denL] using run_firstCells_none (P := P) Wd es 0 0 c
  | some a =>
    have := run_firstCells_some (P := P) Wd es 0 a 0 c [] (by simp) (fun j v hj => by simp at hj)
    simpa [denL] using this
theorem sameV_eq {v u : V} (h : sameV v u = true) : v = u := by
  obtain ⟨t, x, l, d, c, b, a⟩ := v
  obtain ⟨t', x', l', d', c', b', a'⟩ := u
  unfold sameV at h
  simp only [Bool.and_eq_true] at h
  obtain ⟨⟨⟨⟨⟨h1, h2⟩, h3⟩, h4⟩, h5⟩, h6⟩ := h
  have e1 := Nat.eq_of_beq_eq_true h1
  have e2 := Nat.eq_of_beq_eq_true h2
  have e3 := Nat.eq_of_beq_eq_true h3
  have e4 := Nat.eq_of_beq_eq_true h4
  have e5 := Nat.eq_of_beq_eq_true h5
  subst e1; subst e2; subst e3; subst e4; subst e5
  split at h6
  · rfl
  · cases h6
theorem sameAll_eq : ∀ {l r : List V}, sameAll l r = true → l = r
  | [], [], _ => rfl
  | [], _ :: _, h => by cases h
  | _ :: _, [], h => by cases h
  | a :: l, b :: r, h => by
    unfold sameAll at h
    obtain ⟨h1, h2⟩ := cond_true h
    rw [sameV_eq h1, sameAll_eq h2]
theorem sliceCells_ok (h : SR E w K W0 Wd) {es : Nat} {v : V} {f : List V → Bool} (hv : ok E w.nx v) (hs : sliceCells w es v f = true) : ∃ l, f l = true ∧ SrcIs P E w es v l := by
  obtain ⟨t, x, l, d, c, b, a⟩ := v
  unfold sliceCells at hs
  simp only [] at hs
  split at hs
  · rw [vBA_eq] at hs
    obtain ⟨l', hs, hl⟩ := h.cellsAt hv.1 hs
    refine ⟨l', hs, (hl h).ok, (hl h).one, (hl h).len, fun _ => ⟨some ⟨E.φ b, a, none⟩, _, by simp only [den]; rfl⟩, fun {K W0 Wd} hsr m hm => ?_⟩
    have hm : m ≤ c := hm
    simp only [den]
    exact (hl hsr).first hm
  · rw [vBA_eq] at hs
    obtain ⟨hv, _⟩ := hv
    cases x with
    | slu m j e =>
      obtain ⟨l', hs, hl⟩ := h.cellsAt hv.1 hs
      refine ⟨l', hs, (hl h).ok, (hl h).one, (hl h).len, fun _ => ⟨some ⟨E.φ b, a, none⟩, _, by simp only [den]; rfl⟩, fun {K W0 Wd} hsr m hm => ?_⟩
      have hm : m ≤ c := hm
      simp only [den]
      exact (hl hsr).first hm
    | _ => exact hv.2.elim
  · exact ⟨[], hs, SrcIs.none rfl ⟨none, 0, by simp [den]⟩⟩
  · exact ⟨[], hs, SrcIs.none rfl ⟨some (E.α a), E.κ a, by simp [den]⟩⟩
  · obtain ⟨s, hs, e1, e2, _⟩ := strK_ok (E := E) (nx := w.nx) hs
    obtain ⟨e3, hs⟩ := isN_true (by rfl) hs
    subst e3
    simp only [] at e2
    subst e2
    obtain ⟨b1, b2, b3, b4⟩ := byteL_ok (E := E) (nx := w.nx) s
    refine ⟨_, hs, b1, b2, by rw [b3]; show _ = s.size * 1; omega, fun h => absurd rfl h, fun {K W0 Wd} _ m hm => ?_⟩
    have hm : m ≤ s.size := hm
    rw [e1, denL_take, b4]
    exact firstCells_str s hm Wd
  · exact absurd hs (bad_false (n := 53))
end Go.Proofs.YtcajgbpcimimhaaGreatDoor.Vm
namespace Go.Proofs.YtcajgbpcimimhaaGreatDoor.Vm
open Go Go.RowKit
variable {P : Program} {E : En} {w : W} {K : Nat → Prop} {W0 Wd : World} {rec : Rec} {e : Env} {k : Ex → Env → W → Bool} {fin : Fv} {nx : Nat}

theorem condF {b t : Bool} {x : Nat} (h : (Bool.casesOn (motive := fun _ => Bool) b t (bad x)) = true) : b = false ∧ t = true := by
  cases b with
  | false => exact ⟨rfl, h⟩
  | true => exact absurd h (bad_false (n := x))
theorem othAt_ok {r : Nat} {f : Oth → Bool} (h : othAt w r f = true) : (w.h.at r).k = 3 ∧ f (w.h.at r).o = true := by
  unfold othAt at h
  show ((gH r).f w.h).k = 3 ∧ f ((gH r).f w.h).o = true
  revert h
  generalize (gH r).f w.h = o
  obtain ⟨k, n, ww, p, s, l, o⟩ := o
  exact fun h => isN_true (by rfl) h
theorem SR.oth (h : SR E w K W0 Wd) {r : Nat} (hr : r < w.nx) (hk : (w.h.at r).k = 3) : OthR E w.nx (w.h.at r).o (Wd.heap[E.φ r]?) := by
  rcases h.ob r hr with h | ⟨h, _⟩ | ⟨_, h⟩
  · omega
  · omega
  · exact h
theorem mapAt_ok {r : Nat} {f : List (Nat × V) → Bool} (h : mapAt w r f = true) : ∃ es, (w.h.at r).k = 3 ∧ (w.h.at r).o = .map es ∧ f es = true := by
  obtain ⟨h1, h2⟩ := othAt_ok h
  split at h2
  · rename_i es he; exact ⟨es, h1, he, h2⟩
  · exact absurd h2 (bad_false (n := 115))
theorem SR.map (h : SR E w K W0 Wd) {r : Nat} (hr : r < w.nx) {es : List (Nat × V)} (hk : (w.h.at r).k = 3) (ho : (w.h.at r).o = .map es) : ∃ es' cl, Wd.heap[E.φ r]? = some (.map es' cl) ∧ MapR E w.nx es es' cl := by
  have := h.oth hr hk
  rw [ho] at this
  exact this
theorem run_getObj {r : Nat} {o : Obj} (h : Wd.heap[r]? = some o) (hn : ∀ c e f, o ≠ .cells c e f) : (getObj r).run P Wd = .ok o Wd := by
  unfold getObj
  simp only [Sem.run, h]
theorem ok_map {v : V} (hv : ok E nx v) (ht : v.t = 26) : v.a < nx ∧ den E v = .map (some (E.φ v.a)) := by
  obtain ⟨t, x, l, d, c, b, a⟩ := v
  cases ht
  exact ⟨hv.1, by simp [den]⟩
theorem den_20 {v : V} (ht : v.t = 20) : den E v = .map none := by
  obtain ⟨t, x, l, d, c, b, a⟩ := v
  cases ht
  simp [den]
theorem okN (n : Nat) : ok E nx (.nat 3 n) := ⟨trivial, trivial⟩
theorem denN (n : Nat) : den E (.nat 3 n) = goInt n := by simp [den, goInt]
theorem lenC_ok {t ty : Nat} {ts : List Nat} {x : Gk} {val : Value} (hx : Is E w.nx e x val) (h : SR E w K W0 Wd) (hr : (lenC P t x fin).run rec e w k = true) : Red P E w (Builtin.len_ (t :: ts).toArray ty #[val]) (fin.at rec e k w) := by
  unfold lenC at hr
  split at hr
  · rename_i hd
    obtain ⟨v, hr, hv, rfl⟩ := hx _ hr
    obtain ⟨ht, hr⟩ := isN_true (by rfl) hr
    obtain ⟨h1, h2, _⟩ := lenK_ok hv hr
    refine ⟨_, h1, okN _, fun {_ _ Wd} _ => ?_⟩
    have e1 : ∃ s, den E v = .string s := by
      obtain ⟨t, x, l, d, c, b, a⟩ := v
      cases ht
      cases x with
      | str s => exact ⟨s, by simp [den]⟩
      | _ => exact hv.1.elim
    obtain ⟨s, e1⟩ := e1
    rcases h2.is with ⟨a, c, e2⟩ | ⟨s', e2, e3⟩
    · rw [e1] at e2; cases e2
    · rw [e2, ← e3, denN]
      simp [Builtin.len_, run_underlying (undF_ok hd)]
  · rename_i el hd
    obtain ⟨v, hr, hv, rfl⟩ := hx _ hr
    obtain ⟨hb, hr⟩ := condF hr
    obtain ⟨h1, _, h3⟩ := lenK_ok hv hr
    refine ⟨_, h1, okN _, fun {_ _ Wd} _ => ?_⟩
    obtain ⟨a, c, e2⟩ := h3 (fun ht => by rw [ht] at hb; cases hb)
    rw [e2, denN]
    simp [Builtin.len_, run_underlying (undF_ok hd)]
  · rename_i n el hd
    refine ⟨.nat 3 n, hr, okN _, fun {_ _ Wd} _ => ?_⟩
    rw [denN]
    simp [Builtin.len_, run_underlying (undF_ok hd)]
  · rename_i kt el hd
    obtain ⟨v, hr, hv, rfl⟩ := hx _ hr
    split at hr
    · rename_i ht
      refine ⟨_, hr, okN _, fun {_ _ Wd} _ => ?_⟩
      rw [den_20 ht, denN]
      simp [Builtin.len_, run_underlying (undF_ok hd)]
    · rename_i ht
      rw [vA_eq] at hr
      obtain ⟨es, hk, ho, hr⟩ := mapAt_ok hr
      rw [fN_eq] at hr
      obtain ⟨ha, e1⟩ := ok_map hv ht
      refine ⟨_, hr, okN _, fun {_ _ Wd} hs => ?_⟩
      obtain ⟨es', cl, hm, hR⟩ := hs.map ha hk ho
      rw [e1, denN, ← hR.size]
      simp [Builtin.len_, run_underlying (undF_ok hd), run_getObj hm]
    · exact absurd hr (bad_false (n := 116))
  · rename_i a hd
    split at hr
    · rename_i n el hd2
      refine ⟨.nat 3 n, hr, okN _, fun {_ _ Wd} _ => ?_⟩
      rw [denN]
      simp [Builtin.len_, run_underlying (undF_ok hd), run_underlying (undF_ok hd2)]
    · exact absurd hr (bad_false (n := 117))
  · exact absurd hr (bad_false (n := 118))
theorem capC_ok {t el ty : Nat} {ts : List Nat} {x : Gk} {val : Value} (hd : undF P t = some (.slice el)) (hx : Is E nx e x val) (hr : (pure1 x (fun v c => isN v.t 23 (fN v.d fun n => c (.nat 3 n)) (bad 164)) fin).run rec e w k = true) :
    Pur P E nx (Builtin.cap_ (t :: ts).toArray ty #[val]) (fin.at rec e k w) := by
  obtain ⟨v, hr, hv, rfl⟩ := hx _ hr
  obtain ⟨ht, hr⟩ := isN_true (by rfl) hr
  rw [fN_eq] at hr
  refine ⟨_, hr, okN _, fun W => ?_⟩
  have e1 : ∃ a, den E v = .slice a v.c v.d := by
    obtain ⟨t, x, l, d, c, b, a⟩ := v
    cases ht
    exact ⟨some ⟨E.φ b, a, none⟩, by simp only [den]⟩
  obtain ⟨a, e1⟩ := e1
  rw [e1, denN]
  simp [Builtin.cap_, run_underlying (undF_ok hd)]

/-! ### The least and the greatest -/
def mm (less : Bool) (x y : Int) : Int := if less = true then (if y > x then y else x) else (if y < x then y else x)
theorem run_mm {less : Bool} {ty : TypeId} {ats : Array TypeId} {k k' : IntKind} {a b : Int} (W : World) : (if less = true then Builtin.max_ ats ty #[.int k a, .int k' b] else Builtin.min_ ats ty #[.int k a, .int k' b]).run P W = .ok (.int k (mm less a b)) W := by
  cases less <;> simp [Builtin.max_, Builtin.min_, Builtin.max2, Builtin.min2, mm]
theorem minL_ok {less : Bool} {n : Int} : ∀ {l : List Int} {c : List Int → Bool}, minL less n l c = true → ∃ r, c r = true ∧ r.length = l.length ∧ ∀ (i : Nat) (a : Int), l[i]? = some a → r[i]? = some (mm less a n) ∧ r[i]? = some (mm less n a)
  | [], c, h => ⟨[], h, rfl, fun i a ha => by simp at ha⟩
  | x :: l, c, h => by
    unfold minL at h
    rw [fI_eq] at h
    obtain ⟨r, h1, h2, h3⟩ := minL_ok (l := l) h
    refine ⟨_, h1, by simp [h2], fun i a ha => ?_⟩
    cases i with
    | zero =>
      simp at ha
      subst ha
      simp only [List.getElem?_cons_zero, mm]
      by_cases hl : x < n
      · rw [decide_eq_true hl]
        cases less <;> simp <;> constructor <;> omega
      · rw [decide_eq_false hl]
        cases less <;> simp <;> constructor <;> omega
    | succ i => simpa using h3 i a (by simpa using ha)
theorem minV_ok {less : Bool} {n : Nat} {v : V} {c : V → Bool} (hv : ok E nx v) (h : minV less n v c = true) : ∃ u x, c u = true ∧ ok E nx u ∧ den E v = .int .i64 x ∧ den E u = .int .i64 (mm less x (Int.ofNat n)) ∧ den E u = .int .i64 (mm less (Int.ofNat n) x) := by
  unfold minV at h
  rcases vecK_ok hv h with ⟨kk, j, l, hk, hj, h, e1⟩ | h
  · obtain ⟨e3, h2⟩ := isN_true (by rfl) h
    clear h
    subst e3
    obtain ⟨r, h1, h2, h3⟩ := minL_ok h2
    obtain ⟨u, hu, ou, du⟩ := vecN_ok (E := E) (nx := nx) (k := 3) (by omega) (show E.ix j < r.length by omega) h1
    obtain ⟨h4, h5⟩ := h3 (E.ix j) _ (List.getElem?_eq_getElem hj)
    rw [List.getD_eq_getElem?_getD, List.getElem?_eq_getElem hj] at e1
    refine ⟨u, _, hu, ou, e1, ?_, ?_⟩
    · rw [du, List.getD_eq_getElem?_getD, h4]; rfl
    · rw [du, List.getD_eq_getElem?_getD, h5]; rfl
  · exact absurd h (bad_false (n := 130))
theorem minC_ok {less : Bool} {ty : Nat} {ats : Array TypeId} {x y : Gk} {val va2 : Value} (hx : Is E nx e x val) (hy : Is E nx e y va2) (hr : (minC less x y fin).run rec e w k = true) :
    Pur P E nx (if less = true then Builtin.max_ ats ty #[val, va2] else Builtin.min_ ats ty #[val, va2]) (fin.at rec e k w) := by
  obtain ⟨v, hr, hv, rfl⟩ := hx _ hr
  obtain ⟨u, hr, hu, rfl⟩ := hy _ hr
  cases hb : (Nat.blt v.t 8 && Nat.beq v.t u.t) with
  | true =>
    simp only [] at hr
    rw [hb] at hr
    rw [Bool.and_eq_true] at hb
    have h1 := blt_true hb.1
    have h2 := Nat.eq_of_beq_eq_true hb.2
    have e1 := ok_int (E := E) h1
    have e2 := ok_int (E := E) (v := u) (by omega)
    have hr : (Bool.casesOn (motive := fun _ => Bool) (xor less (Nat.blt u.a v.a)) (fin.run rec e w k v) (fin.run rec e w k u)) = true := hr
    have hlt : Nat.blt u.a v.a = decide (u.a < v.a) := by
      cases hq : Nat.blt u.a v.a with
      | true => exact (decide_eq_true (blt_true hq)).symm
      | false => exact (decide_eq_false (fun h => by rw [show Nat.blt u.a v.a = true from Nat.ble_eq_true_of_le h] at hq; cases hq)).symm
    rw [hlt] at hr
    have key : ∀ W, (if less = true then Builtin.max_ ats ty #[den E v, den E u] else Builtin.min_ ats ty #[den E v, den E u]).run P W = .ok (.int (kd v.t) (mm less (Int.ofNat v.a) (Int.ofNat u.a))) W := fun W => by
      rw [e1, e2]; exact run_mm W
    by_cases hl : u.a < v.a
    · rw [decide_eq_true hl] at hr
      cases less with
      | true =>
        refine ⟨v, hr, hv, fun W => (key W).trans ?_⟩
        rw [e1, mm, if_pos rfl, if_neg (by show ¬ ((u.a : Int) > (v.a : Int)); omega)]
      | false =>
        refine ⟨u, hr, hu, fun W => (key W).trans ?_⟩
        rw [e2, mm, if_neg (by simp), if_pos (by show ((u.a : Int) < (v.a : Int)); omega), h2]
    · rw [decide_eq_false hl] at hr
      cases less with
      | true =>
        refine ⟨u, hr, hu, fun W => (key W).trans ?_⟩
        rw [e2, mm, if_pos rfl, h2]
        by_cases hq : v.a < u.a
        · rw [if_pos (by show ((u.a : Int) > (v.a : Int)); omega)]
        · rw [if_neg (by show ¬ ((u.a : Int) > (v.a : Int)); omega), show v.a = u.a by omega]
      | false =>
        refine ⟨v, hr, hv, fun W => (key W).trans ?_⟩
        rw [e1, mm, if_neg (by simp), if_neg (by show ¬ ((u.a : Int) < (v.a : Int)); omega)]
  | false =>
    simp only [] at hr
    rw [hb] at hr
    have hr : (Bool.casesOn (motive := fun _ => Bool) (Nat.beq v.t 3) (Bool.casesOn (motive := fun _ => Bool) (Nat.beq u.t 3) (bad 130) (minV less u.a v (fun u => fin.run rec e w k u))) (minV less v.a u (fun u => fin.run rec e w k u))) = true := hr
    cases h3 : Nat.beq v.t 3 with
    | true =>
      rw [h3] at hr
      have h3 := Nat.eq_of_beq_eq_true h3
      obtain ⟨z, x, h1, h2, h4, h5, h6⟩ := minV_ok hu hr
      have e1 := ok_int (E := E) (v := v) (by omega)
      rw [h3] at e1
      refine ⟨z, h1, h2, fun W => ?_⟩
      rw [e1, h4, h6]
      exact run_mm W
    | false =>
      rw [h3] at hr
      obtain ⟨h3, hr⟩ := cond_true hr
      have h3 := Nat.eq_of_beq_eq_true h3
      obtain ⟨z, x, h1, h2, h4, h5, h6⟩ := minV_ok hv hr
      have e1 := ok_int (E := E) (v := u) (by omega)
      rw [h3] at e1
      refine ⟨z, h1, h2, fun W => ?_⟩
      rw [e1, h4, h5]
      exact run_mm W
end Go.Proofs.YtcajgbpcimimhaaGreatDoor.Vm
namespace Go.Proofs.YtcajgbpcimimhaaGreatDoor.Vm
open Go Go.RowKit
variable {P : Program} {E : En} {w : W} {K : Nat → Prop} {W0 Wd : World} {rec : Rec} {e : Env} {k : Ex → Env → W → Bool} {fin : Fv} {nx : Nat}

/-! ### So many times -/
theorem timesL_length (z : List V) : ∀ n, (timesL n z).length = n * z.length
  | 0 => by simp [timesL]
  | n + 1 => by rw [timesL, List.length_append, timesL_length z n, Nat.succ_mul]; omega
theorem timesL_mem {z : List V} {u : V} : ∀ {n}, u ∈ timesL n z → u ∈ z
  | 0, h => by cases h
  | n + 1, h => by
    rw [timesL] at h
    rcases List.mem_append.1 h with h | h
    · exact h
    · exact timesL_mem h
theorem timesL_at {z : List V} : ∀ {n i : Nat}, i < n * z.length → (timesL n z)[i]? = z[i % z.length]?
  | 0, i, h => by simp at h
  | n + 1, i, h => by
    rw [timesL]
    by_cases hi : i < z.length
    · rw [List.getElem?_append_left hi, Nat.mod_eq_of_lt hi]
    · have h2 : i - z.length < n * z.length := by rw [Nat.succ_mul] at h; omega
      rw [List.getElem?_append_right (by omega), timesL_at h2]
      congr 1
      rw [Nat.mod_eq_sub_mod (a := i) (by omega)]
theorem timesL_cells {z : List V} {zc : Array Value} (hz : zc = (denL E z).toArray) (n : Nat) : (denL E (timesL n z)).toArray = madeCells zc (n * z.length) := by
  subst hz
  apply Array.ext'
  apply List.ext_getElem?
  intro i
  have hsz : (denL E z).toArray.size = z.length := by rw [denL_eq]; simp
  unfold madeCells
  simp only [Array.toList_map, Array.toList_range]
  rw [denL_eq, List.getElem?_map]
  by_cases hi : i < n * z.length
  · have hp : 0 < z.length := Nat.pos_of_ne_zero fun h0 => by rw [h0] at hi; simp at hi
    have hm : i % z.length < z.length := Nat.mod_lt _ hp
    rw [timesL_at hi, List.getElem?_map, List.getElem?_range hi, List.getElem?_eq_getElem hm]
    simp only [hsz, Option.map_some]
    congr 1
    simp [denL_eq, hm]
  · rw [List.getElem?_eq_none (by rw [timesL_length]; omega), List.getElem?_eq_none (by simp; omega)]
    rfl
theorem zeroCells_eq (z : Array Value) (n : Nat) : Builtin.zeroCells z n = madeCells z (n * z.size) := rfl

/-! ### Rows made -/
theorem r3_at (v : V) (i : Nat) : (r3 v).at i = v := by
  unfold R3.at r3 r2 r1
  rw [g3_f, p8_all, p8_all, p8_all]
theorem r6_at (v : V) (i : Nat) : (r6 v).at i = v := by
  unfold R6.at r6
  rw [g6_f]
  unfold R6.low
  rw [p8_all, p8_all, p8_all]
  exact r3_at v i
theorem newSame_ok {n : Nat} {v : V} {f : Nat → W → Bool} (h : newSame w n v f = true) : ∃ o, Made (List.replicate n v) 0 o ∧ w.nx < 32768 ∧ f w.nx ⟨w.h.put w.nx o, w.nx + 1, w.ms, w.ds, w.r⟩ = true := by
  unfold newSame at h
  cases hb : Nat.ble n 512 with
  | true =>
    rw [hb] at h
    obtain ⟨h1, h⟩ := W.new_ok h
    have := ble_true hb
    exact ⟨_, ⟨.inl rfl, by simp, rfl, rfl, this, fun j hj => by
      have hj' : j < n := by simpa using hj
      show _ = some ((r3 v).at j)
      rw [r3_at]; simp [hj']⟩, h1, h⟩
  | false =>
    rw [hb] at h
    obtain ⟨hle, h⟩ := cond_true h
    obtain ⟨h1, h⟩ := W.new_ok h
    have hle : n ≤ 262144 := ble_true hle
    exact ⟨_, ⟨.inr rfl, by simp, rfl, rfl, hle, fun j hj => by
      have hj' : j < n := by simpa using hj
      show _ = some ((r6 v).at j)
      rw [r6_at]; simp [hj']⟩, h1, h⟩
theorem timesL_same {v : V} {z : List V} (h : z.all (sameV v) = true) : ∀ n, timesL n (v :: z) = List.replicate (n * (v :: z).length) v := by
  have hz : v :: z = List.replicate (v :: z).length v := by
    rw [List.eq_replicate_iff]
    refine ⟨rfl, fun u hu => ?_⟩
    rcases List.mem_cons.1 hu with e | e
    · exact e
    · exact (sameV_eq (List.all_eq_true.1 h u e)).symm
  intro n
  induction n with
  | zero => simp [timesL]
  | succ n ih =>
    rw [timesL, ih, Nat.succ_mul, Nat.add_comm, ← List.replicate_append_replicate]
    rw [← hz]
theorem new_slice (E : En) (nx n c : Nat) : ∀ E', Ext E nx E' (nx + 1) → ok E' (nx + 1) (.sl nx 0 n c) ∧ den E' (.sl nx 0 n c) = (fun b => Value.slice (some ⟨b, 0, none⟩) n c) (E'.φ nx) :=
  fun _ _ => ⟨⟨Nat.lt_succ_self _, trivial⟩, by simp [den]⟩
theorem makeSliceC_ok {t : Nat} {x y : Gk} {val va2 : Value} (hx : Is E w.nx e x val) (hy : Is E w.nx e y va2) (hr : (makeSliceC P t x y fin).run rec e w k = true) : Mak P E w (Instr.makeSlice t val va2) (fin.of rec e k) := by
  unfold makeSliceC at hr
  split at hr
  · rename_i el hd
    split at hr
    · rename_i z i hz hi
      obtain ⟨i', hi', hsz, hr⟩ := withSize_ok hr
      rw [infoF_ok hi] at hi'
      cases hi'
      obtain ⟨iz, zv, hi2, hzz, oz, o1, ec, el⟩ := zeroL_ok hz E w.nx
      rw [infoF_ok hi] at hi2
      cases hi2
      obtain ⟨v, hr, hv, rfl⟩ := hx _ hr
      obtain ⟨u, hr, hu, rfl⟩ := hy _ hr
      obtain ⟨hc, hr⟩ := cond_true hr
      simp only [Bool.and_eq_true] at hc
      obtain ⟨⟨⟨⟨h1, h2⟩, h3⟩, h4⟩, h5⟩ := hc
      have h1 := blt_true h1
      have h2 := blt_true h2
      have h3 := ble_true h3
      have h4 : i.bytes * u.a ≤ 281474976710656 := ble_true h4
      have h5 := blt_true h5
      rw [fN_eq, fN_eq] at hr
      have hrun := fun W => run_make (P := P) W t _ i zv (undF_ok hd) (infoF_ok hi) hzz (kd v.t) (kd u.t) (Int.ofNat v.a) (Int.ofNat u.a) (Int.natCast_nonneg _) (Int.ofNat_le.2 h3)
        (by have h6 := Int.ofNat_le.2 h4
            rw [Int.natCast_mul] at h6
            exact h6) (by show (u.a : Int) ≤ 9223372036854775807; omega)
      rw [ok_int (E := E) h1, ok_int (E := E) h2]
      have hl : z.length = zv.cells.size := el
      cases z with
      | nil => exact absurd hr (bad_false (n := 95))
      | cons a z =>
        have hw : ∀ {l : List V} {o : Ob}, l = timesL u.a (a :: z) → Made l 0 o → w.nx < 32768 → (a :: z).length = i.size → fin.of rec e k (.sl w.nx 0 v.a u.a) ⟨w.h.put w.nx o, w.nx + 1, w.ms, w.ds, w.r⟩ = true →
            Mak P E w (Instr.makeSlice t (.int (kd v.t) (Int.ofNat v.a)) (.int (kd u.t) (Int.ofNat u.a))) (fin.of rec e k) := fun {l o} hle hm hn hsi hf => by
          subst hle
          have hcells := timesL_cells ec u.a
          have hlen : (timesL u.a (a :: z)).length = (madeCells zv.cells (u.a * i.size)).size := by rw [timesL_length, size_madeCells, hsi]
          refine ⟨_, _, _, _, hm.makes (g := fun b => Value.slice (some ⟨b, 0, none⟩) v.a u.a) hn ((okL_iff E w.nx _).2 fun q hq => (okL_iff E w.nx _).1 oz q (timesL_mem hq)) (fun q hq => o1 q (timesL_mem hq)) (Nat.le_of_eq hlen) hlen.symm (fun j hj => ?_) hrun (new_slice E w.nx v.a u.a), hf⟩
          show (madeCells zv.cells (u.a * i.size))[j]? = _
          rw [← hsi, ← hcells]; simp
        simp only [] at hr
        obtain ⟨hsi, hr⟩ := isN_true (by rfl) hr
        cases hs : z.all (sameV a) with
        | true =>
          rw [hs] at hr
          simp only [fN_eq] at hr
          obtain ⟨o, hm, hn, hr⟩ := newSame_ok hr
          refine hw ?_ hm hn hsi hr
          rw [timesL_same hs, hsi]; rfl
        | false =>
          rw [hs] at hr
          obtain ⟨o, hm, hn, hr⟩ := newRow_ok hr
          exact hw rfl hm hn hsi hr
    · exact absurd hr (bad_false (n := 96))
  · exact absurd hr (bad_false (n := 97))
end Go.Proofs.YtcajgbpcimimhaaGreatDoor.Vm
namespace Go.Proofs.YtcajgbpcimimhaaGreatDoor.Vm
open Go Go.RowKit
variable {P : Program} {E : En} {w : W} {K : Nat → Prop} {W0 Wd : World} {rec : Rec} {e : Env} {k : Ex → Env → W → Bool} {fin : Fv} {nx : Nat}

theorem cd_lt (k : IntKind) : cd k < 8 := by cases k <;> decide
theorem wrapL_ok {k : Nat} : ∀ {l : List Int} {c : List Int → Bool}, wrapL k l c = true → c (l.map (kd k).wrap) = true
  | [], _, h => h
  | a :: l, c, h => by
    unfold wrapL at h
    rw [fI_eq] at h
    exact wrapL_ok (l := l) h
theorem toBytes_ok : ∀ {l : List V} {bs : List UInt8}, toBytes l = some bs → denL E l = (l.map fun v => Int.ofNat v.a).map (Value.int .u8) ∧ bs = (l.map fun v => Int.ofNat v.a).map fun n => UInt8.ofNat n.toNat
  | [], bs, h => by cases h; exact ⟨by simp [denL], rfl⟩
  | v :: l, bs, h => by
    unfold toBytes at h
    obtain ⟨ht, h⟩ := cond_some h
    split at h
    · rename_i r hr
      cases h
      obtain ⟨h1, h2⟩ := toBytes_ok hr
      have ht := Nat.eq_of_beq_eq_true ht
      have e1 := ok_int (E := E) (v := v) (by omega)
      rw [ht] at e1
      exact ⟨by simp only [denL, List.map_cons]; rw [h1, e1]; rfl, by rw [h2]; rfl⟩
    · cases h
theorem foldl_push : ∀ (ns : List Int) (s : ByteArray), ns.foldl (fun r n => r.push (UInt8.ofNat n.toNat)) s = ⟨s.data ++ (ns.map fun n => UInt8.ofNat n.toNat).toArray⟩
  | [], s => by simp
  | n :: ns, s => by
    rw [List.foldl_cons, foldl_push ns]
    congr 1
    apply Array.ext'
    simp [ByteArray.push]
theorem convC_ok {src dst : Nat} {x : Gk} {val : Value} (hx : Is E w.nx e x val) (h : SR E w K W0 Wd) (hr : (convC P src dst x fin).run rec e w k = true) : Red P E w (convert src dst val) (fin.at rec e k w) := by
  unfold convC at hr
  split at hr
  · rename_i k0 kk hs hd
    obtain ⟨v, hr, hv, rfl⟩ := hx _ hr
    have hc := cd_lt kk
    have hrun := fun (j : IntKind) (n : Int) W => run_convert_int (P := P) (j := j) (n := n) (undF_ok hs) (undF_ok hd) W
    have slow : (vInt v (fun _ i => ofI (cd kk) ((kd (cd kk)).wrap i) (fun u => fin.run rec e w k u)) (fun _ => vecK v (fun _ j l => wrapL (cd kk) l fun l => vecN (cd kk) j l (fun u => fin.run rec e w k u)) fun _ => bad 54)) = true → Red P E w (convert src dst (den E v)) (fin.at rec e k w) := fun hr => by
      rcases vInt_ok (E := E) hr with ⟨k1, a, hk1, hr, e1⟩ | ⟨_, hr⟩
      · obtain ⟨u, h1, h2, h3⟩ := ofI_ok (E := E) (nx := w.nx) hc hr
        refine ⟨u, h1, h2, fun {_ _ Wd} _ => ?_⟩
        rw [e1, hrun, h3, kd_cd]
      · rcases vecK_ok hv hr with ⟨k1, j, l, hk1, hj, hr, e1⟩ | hr
        · have hr := wrapL_ok hr
          obtain ⟨u, h1, h2, h3⟩ := vecN_ok (E := E) (nx := w.nx) hc (by simpa using hj) hr
          refine ⟨u, h1, h2, fun {_ _ Wd} _ => ?_⟩
          rw [e1, hrun, h3, kd_cd]
          congr 2
          rw [List.getD_eq_getElem?_getD, List.getD_eq_getElem?_getD, List.getElem?_map, List.getElem?_eq_getElem hj]
          rfl
        · exact absurd hr (bad_false (n := 54))
    have hr : (Bool.casesOn (motive := fun _ => Bool) (Bool.casesOn (motive := fun _ => Bool) (Nat.blt v.t 8) false (Nat.blt v.a (bnd (cd kk))))
      (vInt v (fun _ i => ofI (cd kk) ((kd (cd kk)).wrap i) (fun u => fin.run rec e w k u)) (fun _ => vecK v (fun _ j l => wrapL (cd kk) l fun l => vecN (cd kk) j l (fun u => fin.run rec e w k u)) fun _ => bad 54))
      (fN v.a fun n => fin.run rec e w k (.nat (cd kk) n))) = true := hr
    cases h1 : Nat.blt v.t 8 with
    | false => rw [h1] at hr; exact slow hr
    | true =>
      rw [h1] at hr
      cases h2 : Nat.blt v.a (bnd (cd kk)) with
      | false => rw [h2] at hr; exact slow hr
      | true =>
        rw [h2] at hr
        simp only [fN_eq] at hr
        refine ⟨_, hr, ok_nat E w.nx kk v.a, fun {_ _ Wd} _ => ?_⟩
        rw [ok_int (blt_true h1), hrun, den_nat]
        congr 2
        have := wrap_nat hc (blt_true h2)
        rw [kd_cd] at this
        exact this
  · rename_i hs hd
    obtain ⟨v, hr, hv, rfl⟩ := hx _ hr
    obtain ⟨s, hr, e1, _⟩ := strK_ok (E := E) (nx := w.nx) hr
    refine ⟨v, hr, hv, fun {_ _ Wd} _ => ?_⟩
    rw [e1]
    simp only [convert, bind]
    rw [run_then (run_underlying (undF_ok hs) Wd), run_then (run_underlying (undF_ok hd) Wd)]
    rfl
  · rename_i e1 hs hd
    split at hr
    · rename_i he
      obtain ⟨v, hr, hv, rfl⟩ := hx _ hr
      obtain ⟨hb, hr⟩ := condF hr
      obtain ⟨l, hr, hl⟩ := sliceCells_ok (P := P) h hv hr
      split at hr
      · rename_i bs hbs
        obtain ⟨h1, h2⟩ := toBytes_ok (E := E) hbs
        obtain ⟨a, c, e2⟩ := hl.sl (fun ht => by rw [ht] at hb; cases hb)
        refine ⟨_, hr, okStr _, fun {_ _ Wd} hsr => ?_⟩
        have hf := hl.first hsr (lenV v) (Nat.le_refl _)
        rw [List.take_of_length_le (by rw [hl.len]; omega)] at hf
        have hlen : (denL E l).length = lenV v := by rw [denL_eq, List.length_map, hl.len]; omega
        rw [e2] at hf ⊢
        rw [run_convert_bytes_string Wd src dst e1 a _ c (undF_ok hs) (undF_ok he) (undF_ok hd)]
        cases a with
        | none =>
          have : l = [] := by
            have hf : Result.ok #[] Wd = Result.ok (denL E l).toArray Wd := hf
            have h3 := (Result.ok.inj hf).1
            have h4 : (denL E l).length = 0 := by
              have := congrArg Array.size h3
              simpa using this.symm
            rw [denL_eq, List.length_map] at h4
            exact List.length_eq_zero_iff.1 h4
          subst this
          have e3 : bs = [] := h2
          subst e3
          simp [den, Conv.bytesToString, ByteArray.empty, ByteArray.emptyWithCapacity]; rfl
        | some a =>
          have hf : (loadCells a (lenV v * 1)).run P Wd = .ok (denL E l).toArray Wd := hf
          rw [Nat.mul_one, h1] at hf
          rw [run_bytesToString Wd a _ c _ hf, foldl_push, h2]
          simp [den, ByteArray.empty, ByteArray.emptyWithCapacity]; rfl
      · exact absurd hr (bad_false (n := 55))
    · exact absurd hr (bad_false (n := 56))
  · exact absurd hr (bad_false (n := 58))
end Go.Proofs.YtcajgbpcimimhaaGreatDoor.Vm
namespace Go.Proofs.YtcajgbpcimimhaaGreatDoor.Vm
open Go Go.RowKit
variable {P : Program} {E : En} {w : W} {K : Nat → Prop} {W0 Wd : World} {rec : Rec} {e : Env} {k : Ex → Env → W → Bool} {fin : Fv} {nx : Nat}

theorem at_two {t : Nat} {ts : List Nat} : (t :: ts).toArray[0]? = some t := rfl
theorem IsUndef : ok E nx .undef ∧ den E .undef = .tuple #[] := ⟨okUndef E nx, denUndef E⟩

/-! ### Clears -/
theorem clearC_ok {t ty : Nat} {ts : List Nat} {x : Gk} {val : Value} (hx : Is E w.nx e x val) (h : SR E w K W0 Wd) (hr : (clearC P t x fin).run rec e w k = true) : Eff P E w K W0 Wd (Builtin.clear_ (t :: ts).toArray ty #[val]) (fin.of rec e k) := by
  unfold clearC at hr
  split at hr
  · rename_i el hd
    split at hr
    · rename_i z hz
      obtain ⟨v, hr, hv, rfl⟩ := hx _ hr
      obtain ⟨hb, hr⟩ := condF hr
      obtain ⟨h1, _, h3⟩ := lenK_ok hv hr
      obtain ⟨a, c, e1⟩ := h3 (fun ht => by rw [ht] at hb; cases hb)
      obtain ⟨i, zv, hi, hzz, oz, o1, ec, elen⟩ := zeroL_ok hz E w.nx
      cases hn : lenV v with
      | zero =>
        rw [hn] at h1 e1
        refine ⟨E, w, .undef, Wd, Ext.refl _ _, h, okUndef E _, rfl, rfl, h1, ?_⟩
        rw [e1, denUndef]
        cases a <;> simp [Builtin.clear_, run_underlying (undF_ok hd), undef]
      | succ n =>
        rw [hn] at h1 e1
        simp only [] at h1
        have hsl : (v.t = 23 ∨ v.t = 24) ∧ (vBA v fun b a => storeAt w b a (timesL (Nat.succ n) z) fun w => fin.run rec e w k .undef) = true := by
          split at h1
          · exact ⟨.inl (by assumption), h1⟩
          · exact ⟨.inr (by assumption), h1⟩
          · exact absurd h1 (bad_false (n := 127))
        obtain ⟨ht, h1⟩ := hsl
        rw [vBA_eq] at h1
        obtain ⟨hb, c', e2⟩ := ok_sl hv ht
        have q2 : n + 1 = v.c := by have := e1.symm.trans e2; injection this
        obtain ⟨w', W', hf, hrun, hsr, e3, e4, e5, _⟩ := h.storeAt (P := P) hb ((okL_iff E w.nx _).2 fun q hq => (okL_iff E w.nx _).1 oz q (timesL_mem hq)) (fun q hq => o1 q (timesL_mem hq)) h1
        refine ⟨E, w', .undef, W', e3 ▸ Ext.refl _ _, hsr, okUndef E _, e4, e5, hf, ?_⟩
        rw [e2, ← q2, denUndef]
        have hc : (Builtin.zeroCells zv.cells (n + 1)).toList = denL E (timesL (n + 1) z) := by
          rw [zeroCells_eq, ← elen, ← timesL_cells ec]
        have hzr := run_zeroValue (P := P) hi hzz Wd
        simp only [Builtin.clear_, List.getElem?_toArray, List.getElem?_cons_zero, bind]
        rw [run_then (run_underlying (undF_ok hd) Wd)]
        refine (run_then hzr).trans ?_
        rw [hc]
        refine (run_then hrun).trans ?_
        rfl
    · exact absurd hr (bad_false (n := 128))
  · exact absurd hr (bad_false (n := 129))

/-! ### Copies -/
theorem run_copy_gen {t ty el : Nat} {ts : List Nat} {i : TypeInfo} {base : Option Addr} {dLen c sLen n : Nat} {src : Value} {cells : List Value} {W W' : World} (hd : P.underlying t = some (.slice el)) (hi : P.info? el = some i)
    (hs : ∀ W, (Builtin.lenOf src).run P W = .ok sLen W) (hn : n = Nat.min sLen dLen) (hc : (Builtin.firstCells i.size n src).run P W = .ok cells.toArray W) (hst : (match base with | some a => Go.storeCells a cells 0 | none => pure ()).run P W = .ok () W') :
    (Builtin.copy_ (t :: ts).toArray ty #[.slice base dLen c, src]).run P W = .ok (goInt n) W' := by
  subst hn
  cases base with
  | none =>
    have e : W' = W := by have := Result.ok.inj hst; exact this.2.symm
    subst e
    simp [Builtin.copy_, run_underlying hd, sizeOf, typeInfo, hi, hs, hc]
  | some a =>
    simp only [] at hst
    simp [Builtin.copy_, run_underlying hd, sizeOf, typeInfo, hi, hs, hc, hst]
theorem copyC_ok {t ty : Nat} {ts : List Nat} {x y : Gk} {val va2 : Value} (hx : Is E w.nx e x val) (hy : Is E w.nx e y va2) (h : SR E w K W0 Wd) (hr : (copyC P t x y fin).run rec e w k = true) :
    Eff P E w K W0 Wd (Builtin.copy_ (t :: ts).toArray ty #[val, va2]) (fin.of rec e k) := by
  unfold copyC at hr
  split at hr
  · rename_i el hd
    obtain ⟨i, hi, hsz, hr⟩ := withSize_ok hr
    obtain ⟨v, hr, hv, rfl⟩ := hx _ hr
    obtain ⟨u, hr, hu, rfl⟩ := hy _ hr
    obtain ⟨hb, hr⟩ := condF hr
    obtain ⟨hr, _, h3⟩ := lenK_ok hv hr
    obtain ⟨a, c, e1⟩ := h3 (fun ht => by rw [ht] at hb; cases hb)
    obtain ⟨hr, hl, _⟩ := lenK_ok hu hr
    rw [fN_eq] at hr
    have hmin : (Bool.casesOn (motive := fun _ => Nat) (Nat.ble (lenV u) (lenV v)) (lenV v) (lenV u)) = Nat.min (lenV u) (lenV v) := by
      show _ = min (lenV u) (lenV v)
      cases hq : Nat.ble (lenV u) (lenV v) with
      | true => exact (Nat.min_eq_left (ble_true hq)).symm
      | false =>
        show lenV v = min (lenV u) (lenV v)
        exact (Nat.min_eq_right (by
          have : ¬ lenV u ≤ lenV v := fun h => by rw [Nat.ble_eq_true_of_le h] at hq; cases hq
          omega)).symm
    rw [hmin] at hr
    have hle : Nat.min (lenV u) (lenV v) ≤ lenV u := Nat.min_le_left _ _
    generalize hn : Nat.min (lenV u) (lenV v) = n at hr hle
    obtain ⟨l, hr, hsl⟩ := sliceCells_ok (P := P) h hu hr
    obtain ⟨htl, hr⟩ := takeL_ok hr
    have hf := hsl.first h n hle
    cases n with
    | zero =>
      refine ⟨E, w, .nat 3 0, Wd, Ext.refl _ _, h, okN 0, rfl, rfl, hr, ?_⟩
      rw [e1, denN]
      refine run_copy_gen (undF_ok hd) hi (hl.len P) hn.symm hf ?_
      rw [Nat.zero_mul, List.take_zero]
      cases a <;> rfl
    | succ n =>
      simp only [] at hr
      have hsl2 : (v.t = 23 ∨ v.t = 24) ∧ (vBA v fun b a => storeAt w b a (l.take ((n + 1) * i.size)) fun w => fin.run rec e w k (.nat 3 (n + 1))) = true := by
        split at hr
        · exact ⟨.inl (by assumption), hr⟩
        · exact ⟨.inr (by assumption), hr⟩
        · exact absurd hr (bad_false (n := 125))
      obtain ⟨ht, hr⟩ := hsl2
      rw [vBA_eq] at hr
      obtain ⟨hb, c', e2⟩ := ok_sl hv ht
      obtain ⟨w', W', hf2, hrun, hsr, e3, e4, e5, _⟩ := h.storeAt (P := P) hb ((okL_iff E w.nx _).2 fun q hq => (okL_iff E w.nx _).1 hsl.ok q (List.mem_of_mem_take hq)) (fun q hq => hsl.one q (List.mem_of_mem_take hq)) hr
      refine ⟨E, w', .nat 3 (n + 1), W', e3 ▸ Ext.refl _ _, hsr, okN _, e4, e5, hf2, ?_⟩
      rw [denN]
      have q2 : lenV v = v.c := by have := e1.symm.trans e2; injection this
      rw [e2]
      exact run_copy_gen (undF_ok hd) hi (hl.len P) (by rw [← q2]; exact hn.symm) hf hrun
  · exact absurd hr (bad_false (n := 126))

/-! ### Appends: there is room -/
theorem appT_ok {t2 : Option Nat} (h : appT P t2 = true) : ∃ x, t2 = some x ∧ ((∃ e', P.underlying x = some (.slice e')) ∨ P.underlying x = some .string) := by
  unfold appT at h
  split at h
  · cases h
  · rename_i x
    refine ⟨x, rfl, ?_⟩
    split at h
    · rename_i e' he; exact .inl ⟨e', undF_ok he⟩
    · rename_i he; exact .inr (undF_ok he)
    · cases h
theorem run_append_room_gen {t t2 ty el : Nat} {ts : List Nat} {i : TypeInfo} {base : Option Addr} {sLen sCap n : Nat} {x : Value} {news : List Value} {W W' : World} (ht : P.underlying t = some (.slice el)) (hi : P.info? el = some i)
    (hk : (∃ e', P.underlying t2 = some (.slice e')) ∨ P.underlying t2 = some .string) (hs : ∀ W, (Builtin.lenOf x).run P W = .ok n W) (hc : (Builtin.firstCells i.size n x).run P W = .ok news.toArray W) (hroom : sLen + n ≤ sCap)
    (hst : (match base with | some a => Go.storeCells (a.add (sLen * i.size)) news 0 | none => pure ()).run P W = .ok () W') :
    (Builtin.append_ (t :: t2 :: ts).toArray ty #[.slice base sLen sCap, x]).run P W = .ok (.slice base (sLen + n) sCap) W' := by
  cases base with
  | none =>
    have e : W' = W := by have := Result.ok.inj hst; exact this.2.symm
    subst e
    rcases hk with ⟨e', hk⟩ | hk <;> simp [Builtin.append_, run_underlying ht, run_underlying hk, sizeOf, typeInfo, hi, hs, hroom, hc]
  | some a =>
    simp only [] at hst
    rcases hk with ⟨e', hk⟩ | hk <;> simp [Builtin.append_, run_underlying ht, run_underlying hk, sizeOf, typeInfo, hi, hs, hroom, hc, hst]
end Go.Proofs.YtcajgbpcimimhaaGreatDoor.Vm
namespace Go.Proofs.YtcajgbpcimimhaaGreatDoor.Vm
open Go Go.RowKit
variable {P : Program} {E : En} {w : W} {K : Nat → Prop} {W0 Wd : World} {rec : Rec} {e : Env} {k : Ex → Env → W → Bool} {fin : Fv} {nx : Nat}

/-- the environment behind a name for a capacity -/
def En.cap (E : En) (nx c : Nat) : En := { E with κ := fun i => if i = nx then c else E.κ i }
theorem En.cap_ext (E : En) (nx c : Nat) : Ext E nx (E.cap nx c) (nx + 1) :=
  ⟨Nat.le_succ _, fun _ _ => rfl, fun i hi => by show (if i = nx then c else E.κ i) = _; rw [if_neg (by omega)], fun _ _ => rfl, rfl, rfl⟩
theorem En.cap_self (E : En) (nx c : Nat) : (E.cap nx c).κ nx = c := by show (if nx = nx then c else E.κ nx) = c; rw [if_pos rfl]
theorem appL_eq : ∀ (l r : List V) (f : List V → Bool), appL l r f = f (l ++ r)
  | [], r, f => rfl
  | v :: l, r, f => by rw [appL, appL_eq l r]; rfl
theorem fitsN_ok {need by' : Nat} {b : Bool} (h : fitsN need by' b = true) : need * by' ≤ 140737488355328 ∧ need ≤ 140737488355328 ∧ b = true := by
  obtain ⟨h1, h2⟩ := cond_true h
  have h1 : need * (by' + 1) ≤ 140737488355328 := ble_true h1
  rw [Nat.mul_succ] at h1
  exact ⟨by omega, by omega, h2⟩
theorem capP_div {j es : Nat} (h : es < 65536) : capP j es / 65536 = j ∧ capP j es % 65536 = es := by
  have e : capP j es = j * 65536 + es := rfl
  rw [e]
  constructor
  · omega
  · omega
theorem appended_ok (h : SR E w K W0 Wd) {es need cap s : Nat} {old new : List V} {f : V → W → Bool} {W' : World} {c : Array Value} {t : TypeId} (hr : appended w es old new need f = true) (hes : es < 65536)
    (ho : okL E w.nx (old ++ new)) (h1 : ∀ u, u ∈ old ++ new → one u) (hlen : (old ++ new).length = need * es) (hcap : need ≤ cap) (hW : W'.heap[s]? = some (.cells c t)) (hcs : c.size = cap * es) (hcell : ∀ j, j < (old ++ new).length → c[j]? = (denL E (old ++ new))[j]?)
    (hs : ∀ id, id < w.nx → (w.h.at id).k ≠ 0 → E.φ id ≠ s) (hK : ¬ K s) (hoth : ∀ k, k < Wd.heap.size → k ≠ s → W'.heap[k]? = Wd.heap[k]?) (hsz : Wd.heap.size ≤ W'.heap.size) (q1 : W'.os = Wd.os) (q2 : W'.tape = Wd.tape) (q3 : W'.output = Wd.output) :
    ∃ E' w' v, f v w' = true ∧ Ext E w.nx E' w'.nx ∧ SR E' w' K W0 W' ∧ ok E' w'.nx v ∧ w'.ds = w.ds ∧ w'.r = w.r ∧ den E' v = .slice (some ⟨s, 0, none⟩) need cap := by
  unfold appended at hr
  rw [appL_eq] at hr
  obtain ⟨hn1, hr⟩ := W.fresh_ok hr
  rw [fN_eq] at hr
  obtain ⟨o, hm, hn2, hr⟩ := newRow_ok hr
  simp only [] at hn2 hr
  have x1 := E.cap_ext w.nx cap
  have g1 : SR (E.cap w.nx cap) ⟨w.h, w.nx + 1, w.ms, w.ds, w.r⟩ K W0 Wd := h.quiet ⟨x1, .inr hn1, rfl, rfl, rfl, h.ms⟩
  have x2 := (E.cap w.nx cap).at_ext (w.nx + 1) s
  have x12 := x1.trans x2
  obtain ⟨o2, e2⟩ := extL_ok x12 _ ho
  have hko : ((E.cap w.nx cap).at (w.nx + 1) s).κ w.nx = cap := En.cap_self E w.nx cap
  have h16 := h.glob.1
  have hob : ObR ((E.cap w.nx cap).at (w.nx + 1) s) (w.nx + 1 + 1) o (W'.heap[s]?) := by
    rw [hW]
    obtain ⟨d1, d2⟩ := capP_div (j := w.nx) hes
    refine hm.row o2 h1 (by rw [hlen, hcs]; exact Nat.mul_le_mul_right _ hcap) (fun hp => ?_) (fun _ => ?_) (fun j hj => by rw [e2]; exact hcell j hj)
    · have : capP w.nx es = w.nx * 65536 + es := rfl
      omega
    · rw [d1, d2, hko]
      exact ⟨by omega, hcs⟩
  have g2 := g1.lay (s := s) (o := o) (W' := W') hn2 (fun id hid hk => by
      by_cases hl : id < w.nx
      · exact hs id hl hk
      · exact absurd (h.un id (by omega) (by have hid : id < w.nx + 1 := hid; omega)) hk) hK hob (.inl hm.w) hoth hsz q1 q2 q3 w.ds w.r
  refine ⟨_, _, _, hr, x12, g2, ?_, rfl, rfl, ?_⟩
  · refine ⟨⟨by show w.nx + 1 < w.nx + 1 + 1; omega, by show w.nx < w.nx + 1 + 1; omega, Nat.le_refl _, ?_⟩, trivial⟩
    show need + 0 ≤ ((E.cap w.nx cap).at (w.nx + 1) s).κ w.nx
    rw [hko]; exact hcap
  · simp only [den, hko]
    show Value.slice (some ⟨((E.cap w.nx cap).at (w.nx + 1) s).φ (w.nx + 1), 0, none⟩) need (cap - 0) = _
    rw [En.at_self, Nat.sub_zero]
/-- what an append's second argument yields -/
theorem SrcIs.src {es t2 : Nat} {u : V} {l : List V} (hs : SrcIs P E w es u l) (hl : LenIs (den E u) (lenV u)) (h : SR E w K W0 Wd) (hk : (∃ e', P.underlying t2 = some (.slice e')) ∨ P.underlying t2 = some .string) :
    _root_.Go.Src P es t2 (den E u) (lenV u) (denL E l) Wd := by
  have hf := fun {Wd} (hsr : SR E w K W0 Wd) => hs.first hsr (lenV u) (Nat.le_refl _)
  have htk : l.take (lenV u * es) = l := List.take_of_length_le (by rw [hs.len]; omega)
  refine ⟨hk, hl.len P, ?_, ?_, by rw [denL_eq, List.length_map, hs.len], fun x hx => ?_⟩
  · have := hf h; rwa [htk] at this
  · have := hf h.drew; rwa [htk] at this
  · rw [denL_eq] at hx
    obtain ⟨v, hv, rfl⟩ := List.mem_map.1 hx
    have := den_one ((okL_iff E w.nx l).1 hs.ok v hv) (hs.one v hv)
    revert this
    cases den E v <;> simp [oneV, Value.oneCell']
theorem getElem?_grow {a : List Value} {z : Array Value} {j : Nat} (hj : j < a.length) : (a.toArray ++ z)[j]? = a[j]? := by
  rw [Array.getElem?_append_left (by simpa using hj)]
  simp
/-- there is no room: a new row -/
theorem grow_ok (h : SR E w K W0 Wd) {t t2 ty el n : Nat} {i : TypeInfo} {zv x : Value} {old new : List V} {base : Option Addr} {sLen sCap : Nat} {f : V → W → Bool} (ht : P.underlying t = some (.slice el)) (hi : P.info? el = some i) (hz : i.zero = some zv) (hzs : zv.cells.size = i.size)
    (hes : i.size < 65536) (hsrc : _root_.Go.Src P i.size t2 x n (denL E new) Wd) (onew : okL E w.nx new) (h1new : ∀ q, q ∈ new → one q) (oold : okL E w.nx old) (h1old : ∀ q, q ∈ old → one q) (lold : old.length = sLen * i.size)
    (hold : (Builtin.firstCells i.size sLen (.slice base sLen sCap)).run P Wd.drew = .ok (denL E old).toArray Wd.drew) (hg : sCap < sLen + n) (hb : (sLen + n) * i.bytes ≤ 140737488355328) (hb2 : sLen + n ≤ 140737488355328)
    (hr : appended w i.size old new (sLen + n) f = true) :
    ∃ E' w' v W', Ext E w.nx E' w'.nx ∧ SR E' w' K W0 W' ∧ ok E' w'.nx v ∧ w'.ds = w.ds ∧ w'.r = w.r ∧ f v w' = true ∧ (Builtin.append_ [t, t2].toArray ty #[.slice base sLen sCap, x]).run P Wd = .ok (den E' v) W' := by
  have hrun := run_append_grow_src (P := P) Wd t t2 ty el i zv ht hi hz base sLen sCap (denL E old) hold x n (denL E new) hsrc hg (by omega) (growslice_fits hg hb)
  have hdl : denL E (old ++ new) = denL E old ++ denL E new := by rw [denL_eq, denL_eq, denL_eq, List.map_append]
  have lnew : new.length = n * i.size := by have := hsrc.newsLen; rwa [denL_eq, List.length_map] at this
  have hlen : (old ++ new).length = (sLen + n) * i.size := by rw [List.length_append, lold, lnew, Nat.add_mul]
  have hlend : (denL E old ++ denL E new).length = (sLen + n) * i.size := by rw [← hdl, denL_eq, List.length_map, hlen]
  have hcap : sLen + n ≤ grownCap Wd (sLen + n) sCap el := by
    unfold grownCap Question.cut
    exact Nat.le_add_right _ _
  generalize grownCap Wd (sLen + n) sCap el = cap at hrun hcap
  obtain ⟨E', w', v, hf, hx, hsr, hv, q1, q2, hd⟩ := appended_ok (s := Wd.heap.size) (cap := cap) h hr hes ((okL_iff E w.nx _).2 fun q hq => by
      rcases List.mem_append.1 hq with hq | hq
      · exact (okL_iff E w.nx _).1 oold q hq
      · exact (okL_iff E w.nx _).1 onew q hq) (fun q hq => by
      rcases List.mem_append.1 hq with hq | hq
      · exact h1old q hq
      · exact h1new q hq) hlen hcap (W' := Wd.drew.alloc (.cells ((denL E old ++ denL E new).toArray ++ Builtin.zeroCells zv.cells (cap - (sLen + n))) el)) (World.alloc_heap_new _ _) (by
      rw [Array.size_append, size_zeroCells, hzs, List.size_toArray, hlend, ← Nat.add_mul]
      congr 1; omega) (fun j hj => by
      rw [hdl]
      exact getElem?_grow (by rw [hlend, ← hlen]; exact hj)) (fun id hid hk e => by have := h.lt hid hk; omega) (fun hk => by have := (h.keep _ hk).1; have := h.size; omega) (fun k hk _ => Below.heap_alloc _ _ _ hk)
      (by show _ ≤ (Wd.heap.push _).size; rw [Array.size_push]; omega) rfl rfl rfl
  exact ⟨E', w', v, _, hx, hsr, hv, q1, q2, hf, by rw [hd]; exact hrun⟩

/-! ### Values laid into a block of whatever size -/
def layA (c : Array Value) : Nat → List Value → Array Value
  | _, [] => c
  | s, v :: l => layA (c.setIfInBounds s v) (s + 1) l
theorem layA_size : ∀ (l : List Value) (c : Array Value) (s : Nat), (layA c s l).size = c.size
  | [], _, _ => rfl
  | v :: l, c, s => by rw [layA, layA_size l]; simp
theorem layA_at : ∀ (l : List Value) (c : Array Value) (s j : Nat), s + l.length ≤ c.size → (layA c s l)[j]? = if s ≤ j ∧ j < s + l.length then l[j - s]? else c[j]?
  | [], c, s, j, _ => by rw [if_neg (by simp only [List.length_nil]; omega)]; rfl
  | v :: l, c, s, j, h => by
    simp only [List.length_cons] at h
    rw [layA, layA_at l _ (s + 1) j (by simp; omega)]
    simp only [List.length_cons]
    by_cases c1 : s + 1 ≤ j ∧ j < s + 1 + l.length
    · rw [if_pos c1, if_pos (by omega), show j - s = (j - (s + 1)) + 1 by omega, List.getElem?_cons_succ]
    · rw [if_neg c1]
      by_cases c2 : j = s
      · subst c2
        rw [if_pos (by omega), Nat.sub_self, Array.getElem?_setIfInBounds_self_of_lt (by omega)]
        rfl
      · rw [if_neg (by omega), Array.getElem?_setIfInBounds_ne (Ne.symm c2)]
theorem run_stores_raw : ∀ (l : List Value) (Wd : World) (b off i : Nat) (c : Array Value) (t : TypeId), Wd.heap[b]? = some (.cells c t (0, 0)) → off + i + l.length ≤ c.size → (∀ v, v ∈ l → oneV v = true) →
    ∃ W', (Go.storeCells ⟨b, off, none⟩ l i).run P Wd = .ok () W' ∧ W'.heap[b]? = some (.cells (layA c (off + i) l) t (0, 0)) ∧ (∀ k, k ≠ b → W'.heap[k]? = Wd.heap[k]?) ∧ W'.heap.size = Wd.heap.size ∧ W'.os = Wd.os ∧ W'.tape = Wd.tape ∧ W'.output = Wd.output
  | [], Wd, b, off, i, c, t, h, _, _ => ⟨Wd, rfl, h, fun _ _ => rfl, rfl, rfl, rfl, rfl⟩
  | v :: l, Wd, b, off, i, c, t, h, hl, h1 => by
    simp only [List.length_cons] at hl
    have hlt : off + i < c.size := by omega
    have hcell : Wd.cell? ⟨b, off + i, none⟩ = some c[off + i] := by simp [World.cell?, h, hlt]
    have hfr : Wd.frozen? ⟨b, off + i, none⟩ = false := by simp [World.frozen?, h]
    obtain ⟨W', r0, r1, r2, r3, r4, r5, r6⟩ := run_stores_raw l (Wd.setCell ⟨b, off + i, none⟩ v) b off (i + 1) (c.setIfInBounds (off + i) v) t (heap_setCell_at h v) (by simp; omega) (fun u hu => h1 u (List.mem_cons_of_mem _ hu))
    refine ⟨W', ?_, r1, fun k hk => (r2 k hk).trans (Below.heap_setCell _ _ _ _ hk), r3.trans (by simp [World.setCell]), r4, r5, r6⟩
    show (Sem.store .plain ((⟨b, off, none⟩ : Addr).add i) v (Go.storeCells ⟨b, off, none⟩ l (i + 1))).run P Wd = _
    rw [add_none, run_store hcell hfr (h1 v List.mem_cons_self)]
    exact r0
end Go.Proofs.YtcajgbpcimimhaaGreatDoor.Vm
namespace Go.Proofs.YtcajgbpcimimhaaGreatDoor.Vm
open Go Go.RowKit
variable {P : Program} {E : En} {w : W} {K : Nat → Prop} {W0 Wd : World} {rec : Rec} {e : Env} {k : Ex → Env → W → Bool} {fin : Fv} {nx : Nat}

theorem rowP_ok {b p : Nat} {c : Bool} (h : rowP w b p c = true) : ((w.h.at b).k = 1 ∨ (w.h.at b).k = 2) ∧ (w.h.at b).w = 1 ∧ (w.h.at b).p = p ∧ c = true := by
  unfold rowP at h
  show (((gH b).f w.h).k = 1 ∨ ((gH b).f w.h).k = 2) ∧ ((gH b).f w.h).w = 1 ∧ ((gH b).f w.h).p = p ∧ c = true
  revert h
  generalize (gH b).f w.h = o
  obtain ⟨kk, n, ww, pp, s, l, o⟩ := o
  intro h
  obtain ⟨h1, h⟩ := isN_true (by rfl) h
  obtain ⟨h2, h⟩ := isN_true (by rfl) h
  cases hb : Nat.beq kk 1 with
  | true => rw [hb] at h; exact ⟨.inl (Nat.eq_of_beq_eq_true hb), h1, h2, h⟩
  | false =>
    rw [hb] at h
    obtain ⟨h3, h⟩ := isN_true (by rfl) h
    exact ⟨.inr h3, h1, h2, h⟩
theorem dropO_eq (w : W) (b : Nat) (f : W → Bool) : dropO w b f = f ⟨w.h.put b .no, w.nx, w.ms, w.ds, w.r⟩ := by
  cases w
  unfold dropO setOb
  simp only [sH_eq]
theorem ok_slu {v : V} {m j d : Nat} (h : ok E nx v) (ht : v.t = 24) (hx : v.x = .slu m j d) : v.b < nx ∧ j < nx ∧ v.c ≤ m ∧ m + d ≤ E.κ j ∧ den E v = .slice (some ⟨E.φ v.b, v.a, none⟩) v.c (E.κ j - d) := by
  obtain ⟨t, x, l, dd, c, b, a⟩ := v
  cases ht
  cases hx
  exact ⟨h.1.1, h.1.2.1, h.1.2.2.1, h.1.2.2.2, by simp [den]⟩
theorem okSlu {m j d n b o : Nat} (hb : b < nx) (hj : j < nx) (hn : n ≤ m) (hm : m + d ≤ E.κ j) : ok E nx (.slu b o n m j d) ∧ den E (.slu b o n m j d) = .slice (some ⟨E.φ b, o, none⟩) n (E.κ j - d) :=
  ⟨⟨⟨hb, hj, hn, hm⟩, trivial⟩, by simp [den]⟩
/-- there is room, as known -/
theorem room_ok (h : SR E w K W0 Wd) {t t2 ty el n i0 b o c cap : Nat} {i : TypeInfo} {x : Value} {new : List V} {v' : V} {f : V → W → Bool} (ht : P.underlying t = some (.slice el)) (hi : P.info? el = some i) (hsrc : _root_.Go.Src P i.size t2 x n (denL E new) Wd)
    (onew : okL E w.nx new) (h1new : ∀ q, q ∈ new → one q) (hb : b < w.nx) (hroom : c + n ≤ cap) (hv' : ok E w.nx v' ∧ den E v' = .slice (some ⟨E.φ b, o, none⟩) (c + n) cap) (hi0 : i0 = o + c * i.size) (hr : storeAt w b i0 new (fun w => f v' w) = true) :
    Eff P E w K W0 Wd (Builtin.append_ [t, t2].toArray ty #[.slice (some ⟨E.φ b, o, none⟩) c cap, x]) f := by
  subst hi0
  obtain ⟨w', W', hf, hrun, hsr, e3, e4, e5, _⟩ := h.storeAt (P := P) hb onew h1new hr
  refine ⟨E, w', v', W', e3 ▸ Ext.refl _ _, hsr, e3 ▸ hv'.1, e4, e5, hf, ?_⟩
  rw [hv'.2]
  exact run_append_room_gen ht hi hsrc.kind hsrc.len hsrc.cells hroom (by simp only []; rw [add_none]; exact hrun)
theorem appendC_ok {t t2 ty : Nat} {x y : Gk} {val va2 : Value} (hx : Is E w.nx e x val) (hy : Is E w.nx e y va2) (h : SR E w K W0 Wd) (hr : (appendC P t (some t2) x y fin).run rec e w k = true) :
    Eff P E w K W0 Wd (Builtin.append_ [t, t2].toArray ty #[val, va2]) (fin.of rec e k) := by
  unfold appendC at hr
  split at hr
  · rename_i el hd
    split at hr
    · rename_i i z hi hz
      cases hc : (appT P (some t2) && Nat.beq z.length i.size && Nat.blt i.size 65536) with
      | false => rw [hc] at hr; exact absurd hr (bad_false (n := 119))
      | true =>
        rw [hc] at hr
        rw [Bool.and_eq_true, Bool.and_eq_true] at hc
        obtain ⟨⟨c1, c2⟩, c3⟩ := hc
        have c2 := Nat.eq_of_beq_eq_true c2
        have c3 := blt_true c3
        obtain ⟨_, e0, hk⟩ := appT_ok c1
        cases e0
        obtain ⟨iz, zv, hi2, hzz, oz, o1, ec, el2⟩ := zeroL_ok hz E w.nx
        rw [infoF_ok hi] at hi2
        cases hi2
        have hzs : zv.cells.size = i.size := by rw [← el2, c2]
        simp only [sx_eq] at hr
        cases hes : i.size with
        | zero => rw [hes] at hr; exact absurd hr (bad_false (n := 120))
        | succ es =>
          rw [hes] at hr
          simp only [] at hr
          obtain ⟨v, hr, hv, rfl⟩ := hx _ hr
          obtain ⟨u, hr, hu, rfl⟩ := hy _ hr
          obtain ⟨hr, hl, _⟩ := lenK_ok hu hr
          obtain ⟨new, hr, hnew⟩ := sliceCells_ok (P := P) h hu hr
          rw [← hes] at hnew hr
          have hsrc : _root_.Go.Src P i.size t2 (den E u) (lenV u) (denL E new) Wd := hnew.src hl h hk
          generalize hn : lenV u = n at hr hsrc
          split at hr
          · rename_i ht
            obtain ⟨hb, hdv⟩ : v.b < w.nx ∧ den E v = .slice (some ⟨E.φ v.b, v.a, none⟩) v.c v.d := by
              obtain ⟨t, x, l, d, c, b, a⟩ := v
              cases ht
              exact ⟨hv.1, by simp [den]⟩
            rw [fN_eq] at hr
            cases hq : Nat.ble (Nat.add v.c n) v.d with
            | true =>
              rw [hq] at hr
              have hroom : v.c + n ≤ v.d := ble_true hq
              cases n with
              | zero =>
                refine ⟨E, w, v, Wd, Ext.refl _ _, h, hv, rfl, rfl, hr, ?_⟩
                rw [hdv]
                exact run_append_room_gen (W' := Wd) (undF_ok hd) (infoF_ok hi) hsrc.kind hsrc.len hsrc.cells hroom (by
                  have : (denL E new).length = 0 := by rw [hsrc.newsLen]; simp
                  rw [List.length_eq_zero_iff.1 this]; rfl)
              | succ n =>
                simp only [vBA_eq, fN_eq] at hr
                rw [hdv]
                exact room_ok h (undF_ok hd) (infoF_ok hi) hsrc hnew.ok hnew.one hb hroom (v' := .sl v.b v.a (v.c + (n + 1)) v.d) ⟨⟨hb, trivial⟩, by simp [den]⟩ rfl hr
            | false =>
              rw [hq] at hr
              have hg : v.d < v.c + n := by
                have : ¬ v.c + n ≤ v.d := fun h => by rw [show Nat.ble (Nat.add v.c n) v.d = true from Nat.ble_eq_true_of_le h] at hq; cases hq
                omega
              obtain ⟨f1, f2, hr⟩ := fitsN_ok hr
              rw [vBA_eq] at hr
              obtain ⟨old, hr, hold⟩ := h.cellsAt hb hr
              rw [hdv]
              exact grow_ok h (undF_ok hd) (infoF_ok hi) hzz hzs c3 hsrc hnew.ok hnew.one (hold h).ok (hold h).one (hold h).len (by
                have := (hold h.drew).first (P := P) (es := i.size) (n := v.c) (m := v.c) (n' := v.c) (c := v.d) (Nat.le_refl _)
                rwa [List.take_of_length_le (by rw [(hold h).len]; exact Nat.le_refl _)] at this) hg f1 f2 hr
          · rename_i ht
            have hdv : den E v = .slice none 0 0 := by
              obtain ⟨t, x, l, d, c, b, a⟩ := v
              cases ht
              simp [den]
            cases n with
            | zero =>
              refine ⟨E, w, .nils, Wd, Ext.refl _ _, h, ⟨trivial, trivial⟩, rfl, rfl, hr, ?_⟩
              rw [hdv, show den E .nils = .slice none 0 0 by simp [den]]
              exact run_append_room_gen (W' := Wd) (base := none) (undF_ok hd) (infoF_ok hi) hsrc.kind hsrc.len hsrc.cells (Nat.le_refl _) rfl
            | succ n =>
              obtain ⟨f1, f2, hr⟩ := fitsN_ok hr
              rw [hdv]
              have hr : appended w i.size [] new (0 + (n + 1)) (fun v w => fin.run rec e w k v) = true := by rw [Nat.zero_add]; exact hr
              exact grow_ok h (undF_ok hd) (infoF_ok hi) hzz hzs c3 hsrc hnew.ok hnew.one (show okL E w.nx [] from trivial) (fun q hq => (by cases hq)) (by simp) (by
                simpa [denL] using run_firstCells_none (P := P) Wd.drew i.size 0 0 0) (by omega) (by rw [Nat.zero_add]; exact f1) (by rw [Nat.zero_add]; exact f2) hr
          · rename_i ht
            split at hr
            · rename_i m j d hvx
              obtain ⟨hb, hj, hcm, hmd, hdv⟩ := ok_slu hv ht hvx
              rw [fN_eq] at hr
              cases hq : Nat.ble (Nat.add v.c n) m with
              | true =>
                rw [hq] at hr
                have hroom : v.c + n ≤ m := ble_true hq
                cases n with
                | zero =>
                  refine ⟨E, w, v, Wd, Ext.refl _ _, h, hv, rfl, rfl, hr, ?_⟩
                  rw [hdv]
                  exact run_append_room_gen (W' := Wd) (undF_ok hd) (infoF_ok hi) hsrc.kind hsrc.len hsrc.cells (by omega) (by
                    have : (denL E new).length = 0 := by rw [hsrc.newsLen]; simp
                    rw [List.length_eq_zero_iff.1 this]; rfl)
                | succ n =>
                  simp only [vBA_eq, fN_eq] at hr
                  rw [hdv]
                  exact room_ok h (undF_ok hd) (infoF_ok hi) hsrc hnew.ok hnew.one hb (by omega) (okSlu hb hj hroom hmd) rfl hr
              | false =>
                rw [hq] at hr
                obtain ⟨ha0, hr⟩ := isN_true (by rfl) hr
                obtain ⟨hd0, hr⟩ := isN_true (by rfl) hr
                obtain ⟨f1, f2, hr⟩ := fitsN_ok hr
                rw [vBA_eq] at hr
                obtain ⟨old, hr, hold⟩ := h.cellsAt hb hr
                obtain ⟨hkk, hw1, hp, hr⟩ := rowP_ok hr
                rw [dropO_eq] at hr
                have h1 : SR E ⟨w.h.put v.b .no, w.nx, w.ms, w.ds, w.r⟩ K W0 Wd := h.drop hb w.ds w.r
                have hfirst := (hold h.drew).first (P := P) (es := i.size) (n := v.c) (m := v.c) (n' := v.c) (c := E.κ j - d) (Nat.le_refl _)
                rw [List.take_of_length_le (by rw [(hold h).len]; exact Nat.le_refl _)] at hfirst
                rw [hdv]
                by_cases hroom : v.c + n ≤ E.κ j - d
                · obtain ⟨c0, t0, fz, x1, x2, x3, x4, x5⟩ := ((h.ob v.b hb).row hkk).is
                  have hfz := x4 hw1
                  subst hfz
                  obtain ⟨p1, p2⟩ := capP_div (j := j) c3
                  have hpn : (w.h.at v.b).p ≠ 0 := by
                    rw [hp]; intro h0
                    have e3 : capP j i.size = j * 65536 + i.size := rfl
                    omega
                  have hsp := (((h.ob v.b hb).row hkk).spare hpn).2 c0 t0 (0, 0) x1
                  rw [hp, p1, p2] at hsp
                  have ldn : (denL E new).length = n * i.size := hsrc.newsLen
                  have hfit : v.c * i.size + (denL E new).length ≤ c0.size := by
                    rw [ldn, hsp, ← Nat.add_mul]; exact Nat.mul_le_mul_right _ (by omega)
                  obtain ⟨W', r0, r1, r2, r3, r4, r5, r6⟩ := run_stores_raw (P := P) (denL E new) Wd (E.φ v.b) (v.c * i.size) 0 c0 t0 x1 (by omega) (fun q hq => by
                    rw [denL_eq] at hq
                    obtain ⟨q', hq', rfl⟩ := List.mem_map.1 hq
                    exact den_one ((okL_iff E w.nx _).1 hnew.ok q' hq') (hnew.one q' hq'))
                  rw [Nat.add_zero] at r1
                  have hdl : denL E (old ++ new) = denL E old ++ denL E new := by rw [denL_eq, denL_eq, denL_eq, List.map_append]
                  have ldo : (denL E old).length = v.c * i.size := by rw [denL_eq, List.length_map, (hold h).len]; rfl
                  have hne : (w.h.at v.b).k ≠ 0 := by omega
                  obtain ⟨E', w', q, hf, hx', hsr, hq', q1, q2, hdq⟩ := appended_ok (s := E.φ v.b) (cap := E.κ j - d) h1 hr c3 ((okL_iff E w.nx _).2 fun q hq => by
                      rcases List.mem_append.1 hq with hq | hq
                      · exact (okL_iff E w.nx _).1 (hold h).ok q hq
                      · exact (okL_iff E w.nx _).1 hnew.ok q hq) (fun q hq => by
                      rcases List.mem_append.1 hq with hq | hq
                      · exact (hold h).one q hq
                      · exact hnew.one q hq) (by
                      have e4 : (denL E (old ++ new)).length = (old ++ new).length := by rw [denL_eq, List.length_map]
                      rw [← e4, hdl, List.length_append, ldo, ldn, ← Nat.add_mul]; rfl) hroom (W' := W') r1 (by rw [layA_size, hsp, hd0, Nat.sub_zero]) (fun jj hjj => by
                      rw [layA_at _ _ _ _ hfit, hdl]
                      have e4 : (denL E (old ++ new)).length = (old ++ new).length := by rw [denL_eq, List.length_map]
                      rw [← e4, hdl, List.length_append, ldo] at hjj
                      by_cases hlt : jj < v.c * i.size
                      · rw [if_neg (by omega), List.getElem?_append_left (by omega)]
                        have := (hold h).cell jj hlt
                        rw [Nat.zero_add] at this
                        rw [← this]
                        simp [World.cell?, x1]
                      · rw [if_pos (by omega), List.getElem?_append_right (by omega), ldo]) (fun id hid hk e => by
                      have hid : id < w.nx := hid
                      have hk : ((w.h.put v.b .no).at id).k ≠ 0 := hk
                      have hnx := h.nx
                      rw [Hp.at_put (by omega) (by omega)] at hk
                      by_cases hib : id = v.b
                      · rw [if_pos hib] at hk; exact hk rfl
                      · rw [if_neg hib] at hk; exact hib (h.inj id v.b hid hb hk hne e)) (h.wr v.b hb hne (.inl hw1)) (fun k _ hk => r2 k hk) (by rw [r3]; exact Nat.le_refl _) r4 r5 r6
                  refine ⟨E', w', q, W', hx', hsr, hq', q1, q2, hf, ?_⟩
                  rw [hdq, ha0]
                  have := run_append_room_gen (P := P) (ts := []) (ty := ty) (base := some ⟨E.φ v.b, 0, none⟩) (sLen := v.c) (W' := W') (undF_ok hd) (infoF_ok hi) hsrc.kind hsrc.len hsrc.cells hroom (by simp only []; rw [add_none, Nat.zero_add]; exact r0)
                  exact this
                · exact grow_ok h1 (undF_ok hd) (infoF_ok hi) hzz hzs c3 hsrc hnew.ok hnew.one (hold h).ok (hold h).one (hold h).len (by rw [ha0]; exact hfirst) (by omega) f1 f2 hr
            · exact absurd hr (bad_false (n := 122))
          · exact absurd hr (bad_false (n := 123))
    · exact absurd hr (bad_false (n := 124))
  · exact absurd hr (bad_false (n := 124))
end Go.Proofs.YtcajgbpcimimhaaGreatDoor.Vm
namespace Go.Proofs.YtcajgbpcimimhaaGreatDoor.Vm
open Go Go.RowKit
variable {P : Program} {E : En} {w : W} {K : Nat → Prop} {W0 Wd : World} {rec : Rec} {e : Env} {k : Ex → Env → W → Bool} {fin : Fv} {nx : Nat}

/-- an operand that may be missing -/
def IsO (E : En) (nx : Nat) (e : Env) (x : Gko) (val : Option Value) : Prop := ∀ k, x.run e k = true → ∃ v, k v = true ∧ ((v = none ∧ val = none) ∨ ∃ u, v = some u ∧ ok E nx u ∧ val = some (den E u))
theorem gko_none : IsO E nx e (gko none) none := fun k h => ⟨none, h, .inl ⟨rfl, rfl⟩⟩
theorem gko_some {x : Gk} {val : Value} (hx : Is E nx e x val) : IsO E nx e (gko (some x)) (some val) := fun k h => by
  obtain ⟨v, h, hv, e1⟩ := hx _ h
  exact ⟨some v, h, .inr ⟨v, rfl, hv, by rw [e1]⟩⟩
/-- a bound: as given, or by default -/
def Bd (v : Option Value) (d x : Nat) : Prop := (v = none ∧ x = d) ∨ ∃ k, v = some (.int k (Int.ofNat x))
theorem bound_ok {v : Option V} {val : Option Value} {d : Nat} {f : Nat → Bool} (hv : (v = none ∧ val = none) ∨ ∃ u, v = some u ∧ ok E nx u ∧ val = some (den E u)) (h : bound v d f = true) : ∃ x, f x = true ∧ Bd val d x := by
  rcases hv with ⟨e1, e2⟩ | ⟨u, e1, hu, e2⟩
  · subst e1; subst e2; exact ⟨d, h, .inl ⟨rfl, rfl⟩⟩
  · subst e1; subst e2
    obtain ⟨h1, h⟩ := cond_true h
    rw [fN_eq] at h
    exact ⟨u.a, h, .inr ⟨_, by rw [ok_int (blt_true h1)]⟩⟩
theorem run_bound {α : Type} {v : Value} {k : IntKind} {x y : Nat} {code : BoundsCode} {f : Nat → Sem α} (h : v = .int k (Int.ofNat x)) (hle : x ≤ y) (W : World) : ((Instr.sliceBound v y code).bind f).run P W = (f x).run P W := by
  subst h
  exact run_then (run_sliceBound (Int.natCast_nonneg _) (Int.ofNat_le.2 hle) W)
theorem run_bounds {b : Bool} {n c l h m : Nat} {lo hi mx : Option Value} (hmx : Bd mx c m) (hm : m ≤ c) (hhi : Bd hi n h) (hh : h ≤ m) (hmm : hi = none → mx = none) (hlo : Bd lo 0 l) (hl : l ≤ h) (W : World) :
    (Instr.sliceBounds b n c lo hi mx).run P W = .ok (l, h, m) W := by
  have low : ∀ (code : BoundsCode), ((match (generalizing := false) lo with
      | some v => (Instr.sliceBound v h code).bind fun l => Sem.pure (l, h, m)
      | none => Sem.pure (0, h, m) : Sem (Nat × Nat × Nat))).run P W = .ok (l, h, m) W := fun code => by
    rcases hlo with ⟨e1, e2⟩ | ⟨k, e1⟩
    · subst e1; subst e2; rfl
    · subst e1; exact (run_bound rfl hl W)
  rcases hmx with ⟨e1, e2⟩ | ⟨k, e1⟩
  · subst e1; subst e2
    rcases hhi with ⟨e1, e2⟩ | ⟨k, e1⟩
    · subst e1; subst e2
      simp only [Instr.sliceBounds, bind, Sem.bind, pure]
      exact low _
    · subst e1
      simp only [Instr.sliceBounds, bind, Sem.bind, pure]
      exact (run_bound rfl hh W).trans (low _)
  · subst e1
    rcases hhi with ⟨e1, _⟩ | ⟨k2, e1⟩
    · cases hmm e1
    · subst e1
      simp only [Instr.sliceBounds, bind, Sem.bind, pure]
      refine (run_bound rfl hm W).trans ?_
      exact (run_bound rfl hh W).trans (low _)
theorem subSl_ok {es b o l h m : Nat} {f : V → Bool} (hr : subSl es b o l h m f = true) : l ≤ h ∧ h ≤ m ∧ f (.sl b (if m = l then o else o + l * es) (h - l) (m - l)) = true := by
  obtain ⟨h1, hr⟩ := cond_true hr
  rw [Bool.and_eq_true] at h1
  rw [fN_eq, fN_eq, fN_eq, fN_eq] at hr
  refine ⟨ble_true h1.1, ble_true h1.2, ?_⟩
  by_cases e : m = l
  · subst e
    rw [if_pos rfl]
    rw [Nat.beq_refl] at hr
    exact hr
  · have : Nat.beq m l = false := by cases hb : Nat.beq m l with | false => rfl | true => exact absurd (Nat.eq_of_beq_eq_true hb) e
    rw [this] at hr
    rw [if_neg e]
    exact hr
theorem run_slice_gen {t el : TypeId} {i : TypeInfo} {b o n c l h m : Nat} {lo hi mx : Option Value} (hd : P.underlying t = some (.slice el)) (hi' : P.info? el = some i) (hmx : Bd mx c m) (hm : m ≤ c) (hhi : Bd hi n h) (hh : h ≤ m) (hmm : hi = none → mx = none) (hlo : Bd lo 0 l) (hl : l ≤ h) (W : World) :
    (Instr.sliceAt t (.slice (some ⟨b, o, none⟩) n c) lo hi mx).run P W = .ok (.slice (some ⟨b, if m = l then o else o + l * i.size, none⟩) (h - l) (m - l)) W := by
  simp only [Instr.sliceAt, Instr.slice, bind, pure]
  rw [run_then (run_underlying hd W)]
  simp only []
  rw [run_then (run_underlying hd W)]
  simp only []
  rw [run_then (run_bounds hmx hm hhi hh hmm hlo hl W)]
  simp only []
  rw [run_then (run_sizeOf hi' W)]
  simp only [Option.map_some, add_none]
  by_cases e : m = l
  · simp only [if_pos e]; rfl
  · simp only [if_neg e]; rfl
theorem run_slice_nil {t el : TypeId} {i : TypeInfo} {lo hi mx : Option Value} (hd : P.underlying t = some (.slice el)) (hi' : P.info? el = some i) (hmx : Bd mx 0 0) (hhi : Bd hi 0 0) (hmm : hi = none → mx = none) (hlo : Bd lo 0 0) (W : World) :
    (Instr.sliceAt t (.slice none 0 0) lo hi mx).run P W = .ok (.slice none 0 0) W := by
  simp only [Instr.sliceAt, Instr.slice, bind, pure]
  rw [run_then (run_underlying hd W)]
  simp only []
  rw [run_then (run_underlying hd W)]
  simp only []
  rw [run_then (run_bounds hmx (Nat.le_refl _) hhi (Nat.le_refl _) hmm hlo (Nat.le_refl _) W)]
  simp only []
  rw [run_then (run_sizeOf hi' W)]
  rfl
theorem run_slice_array {t el : TypeId} {i : TypeInfo} {b o n l h : Nat} {lo hi : Option Value} (hd : P.underlying t = some (.array n el)) (hi' : P.info? el = some i) (hhi : Bd hi n h) (hh : h ≤ n) (hlo : Bd lo 0 l) (hl : l ≤ h) (W : World) :
    (Instr.sliceAt t (.pointer (some ⟨b, o, none⟩)) lo hi none).run P W = .ok (.slice (some ⟨b, if n = l then o else o + l * i.size, none⟩) (h - l) (n - l)) W := by
  simp only [Instr.sliceAt, Instr.sureAddr, bind, Sem.bind, pure]
  rw [run_then (run_underlying hd W)]
  simp only []
  rw [run_then (run_bounds (.inl ⟨rfl, rfl⟩) (Nat.le_refl _) hhi hh (fun _ => rfl) hlo hl W)]
  simp only []
  rw [run_then (run_sizeOf hi' W)]
  simp only [add_none]
  by_cases e : n = l
  · simp only [if_pos e]; rfl
  · simp only [if_neg e]; rfl
theorem run_slice_string {t : TypeId} {s : ByteArray} {l h : Nat} {lo hi : Option Value} (hd : P.underlying t = some .string) (hhi : Bd hi s.size h) (hh : h ≤ s.size) (hlo : Bd lo 0 l) (hl : l ≤ h) (W : World) :
    (Instr.sliceAt t (.string s) lo hi none).run P W = .ok (.string (s.extract l h)) W := by
  simp only [Instr.sliceAt, Instr.slice, bind, pure]
  rw [run_then (run_underlying hd W)]
  simp only []
  rw [run_then (run_underlying hd W)]
  simp only [Option.isSome_none, Bool.false_eq_true, if_false]
  rw [run_then (run_bounds (.inl ⟨rfl, rfl⟩) (Nat.le_refl _) hhi hh (fun _ => rfl) hlo hl W)]
  rfl
theorem okSl {b o n c : Nat} (hb : b < nx) : ok E nx (.sl b o n c) ∧ den E (.sl b o n c) = .slice (some ⟨E.φ b, o, none⟩) n c := ⟨⟨hb, trivial⟩, by simp [den]⟩
/-- the environment behind a name for an empty slice's place -/
def En.plc (E : En) (nx c : Nat) (a : Addr) : En := { E with κ := fun i => if i = nx then c else E.κ i, α := fun i => if i = nx then a else E.α i }
theorem En.plc_ext (E : En) (nx c : Nat) (a : Addr) : Ext E nx (E.plc nx c a) (nx + 1) :=
  ⟨Nat.le_succ _, fun _ _ => rfl, fun i hi => by show (if i = nx then c else E.κ i) = _; rw [if_neg (by omega)], fun i hi => by show (if i = nx then a else E.α i) = _; rw [if_neg (by omega)], rfl, rfl⟩
theorem okPlc (E : En) (nx c : Nat) (a : Addr) : ok (E.plc nx c a) (nx + 1) ⟨25, .o, [], 0, 0, 0, nx⟩ ∧ den (E.plc nx c a) ⟨25, .o, [], 0, 0, 0, nx⟩ = .slice (some a) 0 c := by
  refine ⟨⟨Nat.lt_succ_self _, trivial⟩, ?_⟩
  simp only [den]
  show Value.slice (some (if nx = nx then a else E.α nx)) 0 (if nx = nx then c else E.κ nx) = _
  rw [if_pos rfl, if_pos rfl]
theorem sliceC_ok {t : Nat} {x : Gk} {lo hi mx : Gko} {val : Value} {vlo vhi vmx : Option Value} (hx : Is E w.nx e x val) (hlo : IsO E w.nx e lo vlo) (hhi : IsO E w.nx e hi vhi) (hmx : IsO E w.nx e mx vmx) (hmm : vhi = none → vmx = none)
    (hr : (sliceC P t x lo hi mx fin).run rec e w k = true) : Qui P E w (Instr.sliceAt t val vlo vhi vmx) (fin.of rec e k) := by
  unfold sliceC at hr
  split at hr
  · rename_i el hd
    obtain ⟨i, hi', _, hr⟩ := withSize_ok hr
    obtain ⟨v, hr, hv, rfl⟩ := hx _ hr
    obtain ⟨lv, hr, hlv⟩ := hlo _ hr
    obtain ⟨hv2, hr, hhv⟩ := hhi _ hr
    obtain ⟨mv, hr, hmv⟩ := hmx _ hr
    simp only [] at hr
    split at hr
    · rename_i ht
      obtain ⟨hb, hdv⟩ : v.b < w.nx ∧ den E v = .slice (some ⟨E.φ v.b, v.a, none⟩) v.c v.d := by
        obtain ⟨t, x, l, d, c, b, a⟩ := v
        cases ht
        exact ⟨hv.1, by simp [den]⟩
      obtain ⟨m, hr, bm⟩ := bound_ok hmv hr
      obtain ⟨h, hr, bh⟩ := bound_ok hhv hr
      obtain ⟨l, hr, bl⟩ := bound_ok hlv hr
      obtain ⟨hm, hr⟩ := cond_true hr
      obtain ⟨h1, h2, hr⟩ := subSl_ok hr
      refine Pur.qui ⟨_, hr, (okSl hb).1, fun W => ?_⟩
      rw [hdv, (okSl hb).2]
      exact run_slice_gen (undF_ok hd) hi' bm (ble_true hm) bh h2 hmm bl h1 W
    · rename_i ht
      have hdv : den E v = .slice none 0 0 := by
        obtain ⟨t, x, l, d, c, b, a⟩ := v
        cases ht
        simp [den]
      obtain ⟨m, hr, bm⟩ := bound_ok hmv hr
      obtain ⟨h, hr, bh⟩ := bound_ok hhv hr
      obtain ⟨l, hr, bl⟩ := bound_ok hlv hr
      obtain ⟨hz, hr⟩ := cond_true hr
      rw [Bool.and_eq_true, Bool.and_eq_true] at hz
      have e1 := Nat.eq_of_beq_eq_true hz.1.1
      have e2 := Nat.eq_of_beq_eq_true hz.1.2
      have e3 := Nat.eq_of_beq_eq_true hz.2
      subst e1; subst e2; subst e3
      refine Pur.qui ⟨.nils, hr, ⟨trivial, trivial⟩, fun W => ?_⟩
      rw [hdv, show den E .nils = .slice none 0 0 by simp [den]]
      exact run_slice_nil (undF_ok hd) hi' bm bh hmm bl W
    · rename_i ht
      split at hr
      · rename_i m j d hvx
        obtain ⟨hb, hj, hcm, hmd, hdv⟩ := ok_slu hv ht hvx
        split at hr
        · obtain ⟨e1, e2⟩ | ⟨_, e1, _⟩ := hmv
          · subst e2
            obtain ⟨h, hr, bh⟩ := bound_ok hhv hr
            obtain ⟨l, hr, bl⟩ := bound_ok hlv hr
            obtain ⟨hz, hr⟩ := cond_true hr
            rw [Bool.and_eq_true] at hz
            have h1 := ble_true hz.1
            have h2 := ble_true hz.2
            have hrun := fun W => run_slice_gen (P := P) (b := E.φ v.b) (o := v.a) (undF_ok hd) hi' (c := E.κ j - d) (m := E.κ j - d) (.inl ⟨rfl, rfl⟩) (Nat.le_refl _) bh (by omega) (fun _ => rfl) bl h1 W
            rw [hdv]
            cases hq : Nat.blt l m with
            | true =>
              rw [hq] at hr
              have hlt := blt_true hq
              simp only [vBA_eq, fN_eq] at hr
              obtain ⟨o1, o2⟩ := okSlu (E := E) (nx := w.nx) (m := m - l) (j := j) (d := d + l) (n := h - l) (b := v.b) (o := v.a + l * i.size) hb hj (by omega) (by omega)
              refine Pur.qui ⟨.slu v.b (v.a + l * i.size) (h - l) (m - l) j (d + l), hr, o1, fun W => ?_⟩
              rw [o2, hrun W, if_neg (by omega)]
              congr 2
              omega
            | false =>
              rw [hq] at hr
              have hge : ¬ l < m := fun h => by rw [show Nat.blt l m = true from Nat.ble_eq_true_of_le h] at hq; cases hq
              obtain ⟨hhl, hr⟩ := cond_true hr
              have hhl := Nat.eq_of_beq_eq_true hhl
              obtain ⟨hn, hr⟩ := W.fresh_ok hr
              intro hms
              obtain ⟨o1, o2⟩ := okPlc E w.nx (E.κ j - d - l) ⟨E.φ v.b, if E.κ j - d = l then v.a else v.a + l * i.size, none⟩
              refine ⟨E.plc w.nx (E.κ j - d - l) ⟨E.φ v.b, if E.κ j - d = l then v.a else v.a + l * i.size, none⟩, ⟨w.h, w.nx + 1, w.ms, w.ds, w.r⟩, ⟨25, .o, [], 0, 0, 0, w.nx⟩, ⟨En.plc_ext E w.nx (E.κ j - d - l) ⟨E.φ v.b, if E.κ j - d = l then v.a else v.a + l * i.size, none⟩, .inr hn, rfl, rfl, rfl, hms⟩, hr, o1, fun W => ?_⟩
              rw [o2, hrun W]
              congr 2
              omega
          · cases e1
        · rename_i mv'
          obtain ⟨mm, hr, bm⟩ := bound_ok (d := E.κ j - d) hmv (show bound (some mv') (E.κ j - d) _ = true from hr)
          obtain ⟨h, hr, bh⟩ := bound_ok hhv hr
          obtain ⟨l, hr, bl⟩ := bound_ok hlv hr
          obtain ⟨hm, hr⟩ := cond_true hr
          have hm := ble_true hm
          obtain ⟨h1, h2, hr⟩ := subSl_ok hr
          refine Pur.qui ⟨_, hr, (okSl hb).1, fun W => ?_⟩
          rw [hdv, (okSl hb).2]
          exact run_slice_gen (undF_ok hd) hi' bm (by omega) bh h2 hmm bl h1 W
      · exact absurd hr (bad_false (n := 105))
    · exact absurd hr (bad_false (n := 106))
  · rename_i n el hd
    obtain ⟨i, hi', _, hr⟩ := withSize_ok hr
    obtain ⟨v, hr, hv, rfl⟩ := hx _ hr
    obtain ⟨lv, hr, hlv⟩ := hlo _ hr
    obtain ⟨hv2, hr, hhv⟩ := hhi _ hr
    obtain ⟨mv, hr, hmv⟩ := hmx _ hr
    split at hr
    · exact absurd hr (bad_false (n := 107))
    · obtain ⟨e1, e2⟩ | ⟨_, e1, _⟩ := hmv
      · subst e2
        obtain ⟨ht, hr⟩ := isN_true (by rfl) hr
        obtain ⟨hb, hdv⟩ := ok_ptr hv ht
        obtain ⟨h, hr, bh⟩ := bound_ok hhv hr
        obtain ⟨l, hr, bl⟩ := bound_ok hlv hr
        obtain ⟨h1, h2, hr⟩ := subSl_ok hr
        refine Pur.qui ⟨_, hr, (okSl hb).1, fun W => ?_⟩
        rw [hdv, (okSl hb).2]
        exact run_slice_array (undF_ok hd) hi' bh h2 bl h1 W
      · cases e1
  · rename_i hd
    obtain ⟨v, hr, hv, rfl⟩ := hx _ hr
    obtain ⟨lv, hr, hlv⟩ := hlo _ hr
    obtain ⟨hv2, hr, hhv⟩ := hhi _ hr
    obtain ⟨mv, hr, hmv⟩ := hmx _ hr
    split at hr
    · exact absurd hr (bad_false (n := 109))
    · obtain ⟨e1, e2⟩ | ⟨_, e1, _⟩ := hmv
      · subst e2
        obtain ⟨s, hr, e1, _⟩ := strK_ok (E := E) (nx := w.nx) hr
        rw [fN_eq] at hr
        obtain ⟨h, hr, bh⟩ := bound_ok hhv hr
        obtain ⟨l, hr, bl⟩ := bound_ok hlv hr
        obtain ⟨hz, hr⟩ := cond_true hr
        rw [Bool.and_eq_true] at hz
        refine Pur.qui ⟨_, hr, okStr _, fun W => ?_⟩
        rw [e1, run_slice_string (undF_ok hd) bh (ble_true hz.2) bl (ble_true hz.1) W]
        simp [den]
      · cases e1
  · exact absurd hr (bad_false (n := 112))
end Go.Proofs.YtcajgbpcimimhaaGreatDoor.Vm
