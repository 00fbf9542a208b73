/- The evaluator's first state, and what a run of it says. Conditions: as each theorem names them. The programs' anchor: sound returns true, wherever the two rows are laid. Conditions: as each theorem names them. Arguments behind their masks. Conditions: as each theorem names them. The rows' laid variables, as the cells of blocks 0 and 2. Conditions: as each theorem names them. -/
import Derived.Test.YtcajgbpcimimhaaGreatDoorVmEvalG
import Derived.Test.YtcajgbpcimimhaaGreatDoorVmGgG
import Derived.Test.YtcajgbpcimimhaaGreatDoorVmGfG
import Derived.Test.YtcajgbpcimimhaaGreatDoorRows
import Derived.ProofKit
import Derived.OpenShut
import Derived.LaidMore
import Derived.ChangeSame
set_option linter.unusedVariables false
namespace Go.Proofs.YtcajgbpcimimhaaGreatDoor.Vm
open Go Go.RowKit

def startH : Hp := (Hp.put h0 0 (rowL 1 spL)).put 2 (rowL 2 mkL)
theorem start_eq (ms : List (List Bool)) (k : W → Bool) : start ms k = k ⟨startH, 3, ms, [], none⟩ := by
  unfold start startH
  rw [sH_eq, sH_eq]
theorem h0_at (id : Nat) : (Hp.at h0 id).k = 0 := by
  unfold Hp.at gH
  simp only [dg_eq]
  have h : ∀ {α : Type} (x : α) (d : Nat), (p8 d).f (all8 x) = x := fun x d => by
    rcases d with _ | _ | _ | _ | _ | _ | _ | d <;> rfl
  unfold h0
  simp only [h]
theorem startH_at {id : Nat} (hid : id < 32768) : startH.at id = if id = 2 then rowL 2 mkL else if id = 0 then rowL 1 spL else Hp.at h0 id := by
  unfold startH
  rw [Hp.at_put (by decide) hid, Hp.at_put (by decide) hid]
theorem cells_of {Wd : World} {g i : Nat} {v : Value} (h : Wd.cell? ⟨g, i, none⟩ = some v) : ∃ c t fz, Wd.heap[g]? = some (.cells c t fz) := by
  unfold World.cell? at h
  split at h
  · rename_i c t fz hq; exact ⟨c, t, fz, hq⟩
  · cases h
theorem cell_in {Wd : World} {g i : Nat} {v : Value} {c : Array Value} {t : TypeId} {fz : Nat × Nat} (h : Wd.cell? ⟨g, i, none⟩ = some v) (hc : Wd.heap[g]? = some (.cells c t fz)) : c[i]? = some v := by
  unfold World.cell? at h
  simp only [hc] at h
  simpa using h
theorem row_laid {E : En} {nx j : Nat} {l : List V} {x : Option Obj} {c : Array Value} {t : TypeId} {fz : Nat × Nat} {kk : IntKind} (hx : x = some (.cells c t fz)) (hj : j < nx) (hl : l.length ≤ 512) (h0 : 0 < l.length) (ht : ∀ (i : Nat) (v : V), l[i]? = some v → v.t = cd kk)
    (hc : ∀ (i : Nat) (v : V), l[i]? = some v → c[i]? = some (.int kk (Int.ofNat v.a))) (hok : ∀ v, v ∈ l → ok E nx v ∧ one v) (hk : E.κ j = c.size) : ObR E nx (rowL j l) x := by
  subst hx
  have hd := capP_div (j := j) (es := 1) (by decide)
  refine .inr (.inl ⟨.inl rfl, hl, fun _ => ⟨?_, fun c' t' fz' e => ?_⟩, c, t, fz, rfl, ?_, fun h => ?_, fun h => (by cases h), fun i hi => ?_⟩)
  · show capP j 1 / 65536 < nx
    rw [hd.1]; exact hj
  · cases e
    show c.size = E.κ (capP j 1 / 65536) * (capP j 1 % 65536)
    rw [hd.1, hd.2, hk, Nat.mul_one]
  · show l.length ≤ c.size
    have h1 := hc (l.length - 1) l[l.length - 1] (List.getElem?_eq_getElem (by omega))
    have := (Array.getElem?_eq_some_iff.1 h1).1
    omega
  · have h : capP j 1 = 0 := h
    have : capP j 1 = j * 65536 + 1 := rfl
    omega
  · have hi : i < l.length := hi
    have e1 : (rowL j l).cell i = l[i] := by
      show (rowS l).at i = _
      rw [rowS_at l (by omega), List.getElem?_eq_getElem hi]; rfl
    rw [e1]
    have hg : l[i]? = some l[i] := List.getElem?_eq_getElem hi
    refine ⟨hok _ (List.getElem_mem hi), ?_⟩
    rw [hc i _ hg, den_num (ht i _ hg)]
theorem spL_len : spL.length = 256 := by unfold spL; rw [List.length_map, List.length_range]
theorem mkL_len : mkL.length = 10 := rfl
theorem ok_num {E : En} {nx : Nat} {v : V} {kk : IntKind} (ht : v.t = cd kk) (hl : v.l = []) : ok E nx v ∧ one v := by
  obtain ⟨t, x, l, d, c, b, a⟩ := v
  cases hl
  cases kk <;> (cases ht; exact ⟨⟨trivial, trivial⟩, (fun e => by cases e), (fun e => by cases e)⟩)
theorem spL_l (v : V) (h : v ∈ spL) : v.t = cd .u8 ∧ v.l = [] := by
  unfold spL at h
  obtain ⟨i, _, rfl⟩ := List.mem_map.1 h
  exact ⟨rfl, rfl⟩
theorem mkL_l (v : V) (h : v ∈ mkL) : v.t = cd .i64 ∧ v.l = [] := by
  unfold mkL at h
  obtain ⟨i, _, rfl⟩ := List.mem_map.1 h
  exact ⟨rfl, rfl⟩
/-- the first state, and a world in which the rows are laid -/
theorem start_SR {W : World} (hl : Laid W) (ix : Nat → Nat) (arg : Nat → Int) (ms : List (List Bool)) (hms : ∀ j l, ms[j]? = some l → l[ix j]? = some true) :
    ∃ E : En, E.ix = ix ∧ E.arg = arg ∧ SR E ⟨startH, 3, ms, [], none⟩ (fun q => q < W.heap.size) W W := by
  have c0 := hl.sp 0 _ (show spL[0]? = some (V.nat 4 0) by unfold spL; rw [List.getElem?_map]; rfl)
  have c2 := hl.mks 0 _ (show mkL[0]? = some (V.nat 3 1) from rfl)
  obtain ⟨r0, t0, f0, h0'⟩ := cells_of c0
  obtain ⟨r2, t2, f2, h2'⟩ := cells_of c2
  have hsz : 3 ≤ W.heap.size := (Array.getElem?_eq_some_iff.1 h2').1
  refine ⟨⟨id, fun i => if i = 1 then r0.size else r2.size, fun _ => ⟨0, 0, none⟩, ix, arg⟩, rfl, rfl, by show 3 ≤ 32768; decide, ⟨Nat.le_refl _, fun g _ => rfl⟩, fun id hid => ?_, fun i j hi hj ki kj e => e, fun i hi hk hw => ?_, fun q hq => ⟨hq, rfl⟩, rfl, rfl, rfl, Nat.le_refl _, hms, fun id h1 h2 => ?_, fun i h3 hi hk => ?_, hsz⟩
  · have hid : id < 3 := hid
    show ObR _ _ (startH.at id) (W.heap[id]?)
    rw [startH_at (by omega)]
    match id, hid with
    | 0, _ => exact row_laid (kk := .u8) h0' (by show 1 < 3; decide) (by rw [spL_len]; decide) (by rw [spL_len]; decide) spL_t (fun i v hv => cell_in (hl.sp i v hv) h0') (fun v hv => ok_num (spL_l v hv).1 (spL_l v hv).2) rfl
    | 1, _ => exact .inl (h0_at 1)
    | 2, _ => exact row_laid (kk := .i64) h2' (by show 2 < 3; decide) (by decide) (by decide) mkL_t (fun i v hv => cell_in (hl.mks i v hv) h2') (fun v hv => ok_num (mkL_l v hv).1 (mkL_l v hv).2) rfl
  · have hi : i < 3 := hi
    have hw : (startH.at i).wr := hw
    have hk : (startH.at i).k ≠ 0 := hk
    rw [startH_at (by omega)] at hw hk
    match i, hi with
    | 0, _ => rcases hw with hw | hw <;> cases hw
    | 1, _ => exact absurd (h0_at 1) hk
    | 2, _ => rcases hw with hw | hw <;> cases hw
  · have h1 : 3 ≤ id := h1
    show (startH.at id).k = 0
    rw [startH_at h2, if_neg (by omega), if_neg (by omega)]
    exact h0_at id
  · have hi : i < 3 := hi
    omega
theorem endK_ok {v : V} {w : W} (h : endK v w = true) : v.t = 16 ∧ v.a = 1 := by
  obtain ⟨h1, h⟩ := isN_true (by rfl) h
  obtain ⟨h2, _⟩ := isN_true (by rfl) h
  exact ⟨h1, h2⟩
/-- what a run says -/
theorem top_run {sp n f : Nat} (hT : sp ≠ 0 → OwnOk Tryz.prog sp trueC.run) {args : List V} {ms : List (List Bool)} (hr : start ms (fun w => (ev Tryz.prog sp n).call f args w endK) = true) {W : World} (hl : Laid W) {ix : Nat → Nat} {arg : Nat → Int} (hms : ∀ j l, ms[j]? = some l → l[ix j]? = some true)
    (hargs : ∀ E : En, E.ix = ix → E.arg = arg → okL E 3 args) : ∃ E : En, E.ix = ix ∧ E.arg = arg ∧ Calls Tryz.prog f (denL E args).toArray W fun e W' => e = .returned (.bool true) ∧ Below W.heap.size W W' := by
  rw [start_eq] at hr
  obtain ⟨E, h1, h2, hs⟩ := start_SR hl ix arg ms hms
  refine ⟨E, h1, h2, ?_⟩
  have hev := ev_ok ph (drawn_ok ph) allC_ok countC_ok hT n
  refine ((hev.call f args _ _ E _ W W hr hs (hargs E h1 h2)).2).mono fun e W' hq => ?_
  obtain ⟨E', w', u, he, _, hs', _, _, _, hk⟩ := hq
  obtain ⟨k1, k2⟩ := endK_ok hk
  refine ⟨?_, hs'.os, hs'.tape, hs'.output, hs'.size, fun q hq => (hs'.keep q hq).2⟩
  rw [he]
  obtain ⟨t, x, l, d, c, b, a⟩ := u
  cases k1
  cases k2
  simp [den]
theorem run_of {b : Bool} (h : (Bool.casesOn (motive := fun _ => Bool) b true false) = false) : b = true := by
  cases b with
  | true => rfl
  | false => cases h
end Go.Proofs.YtcajgbpcimimhaaGreatDoor.Vm
namespace Go.Proofs.YtcajgbpcimimhaaGreatDoor.Vm
open Go Go.RowKit
theorem sound_run : Bool.casesOn (motive := fun _ => Bool) (start [] fun w => (ev Tryz.prog 0 100000).call 6 [] w endK) true false = false := by kernel_rfl
theorem sound_true (W : World) (hl : Laid W) : Calls Tryz.prog 6 #[] W fun e W' => e = .returned (.bool true) ∧ Below W.heap.size W W' := by
  have hr : start [] (fun w => (ev Tryz.prog 0 100000).call 6 [] w endK) = true := run_of (b := start [] fun w => (ev Tryz.prog 0 100000).call 6 [] w endK) sound_run
  obtain ⟨E, _, _, h⟩ := top_run (sp := 0) (n := 100000) (f := 6) (args := []) (ms := []) (fun h => absurd rfl h) hr hl (ix := fun _ => 0) (arg := fun _ => 0) (fun j l h => by simp at h) (fun _ _ _ => trivial)
  exact h
theorem fn6 : ∃ fn, Tryz.prog.funcs[6]? = some fn ∧ fn.body.isSome = true := ⟨_, Tryz.func6, by kernel_rfl⟩
theorem soundC : OwnOk Tryz.prog 6 trueC.run := trueC_ok fn6 sound_true
end Go.Proofs.YtcajgbpcimimhaaGreatDoor.Vm
namespace Go.Proofs.YtcajgbpcimimhaaGreatDoor.Vm
open Go Go.RowKit
/-- what an argument is behind a mask -/
def ixOf (a : Int) (c : Nat) : Nat := (BitVec.ofInt 64 a &&& BitVec.ofInt 64 (Int.ofNat c)).toNat
theorem ixOf_le (a : Int) (c : Nat) : ixOf a c ≤ c := by
  unfold ixOf
  rw [BitVec.toNat_and]
  refine Nat.le_trans Nat.and_le_right ?_
  rw [show Int.ofNat c = (c : Int) from rfl, BitVec.ofInt_natCast, BitVec.toNat_ofNat]
  exact Nat.mod_le _ _
theorem ok_argV {E : En} {nx j c d : Nat} {a : Int} (ha : E.arg j = a) (hx : E.ix j = ixOf a c) (hd : d = 0 ∨ ixOf a c + 1 = d) (hc : c < 4096) : ok E nx (argV j c d) := by
  have h1 := ixOf_le a c
  unfold ok argV
  refine ⟨⟨by rw [hx]; exact hd, by rw [hx]; exact h1, ?_⟩, trivial⟩
  rw [ha, hx]
  exact wrap_nat (k := 3) (by decide) (Nat.lt_of_le_of_lt h1 (Nat.lt_of_lt_of_le hc (by decide)))
end Go.Proofs.YtcajgbpcimimhaaGreatDoor.Vm
namespace Go.Proofs.YtcajgbpcimimhaaGreatDoor.Vm
open Go Go.Proofs Go.RowKit
/-- the three rows' list -/
def laid5 : List (String × DataW Unit) := Rows.wholeWaitsRow.laid
theorem laid5_eq : laid5 = [("unicode/utf8.acceptRanges", Rows.laid_unicode_utf8_acceptRanges), ("unicode.White_Space", Rows.laid_unicode_White_Space), ("strings.asciiSpace", Rows.laid_strings_asciiSpace), ("glacis/kernel.makes", Rows.laid_glacis_kernel_makes), ("unicode/utf8.first", Rows.laid_unicode_utf8_first)] := rfl
theorem lit_list : (Rows.laid_strings_asciiSpace : DataW Unit) = .agg (spL.map fun v => .lit (.int .u8 (Int.ofNat v.a))) := by kernel_rfl
theorem lit_makes : (Rows.laid_glacis_kernel_makes : DataW Unit) = .agg ([(1, 1), (2, 1), (4, 1), (3, 2), (5, 2)].map fun (x : Nat × Nat) => .agg [.lit (.int .i64 (Int.ofNat x.1)), .lit (.int .i64 (Int.ofNat x.2))]) := by kernel_rfl
theorem take1 {α : Type} {l : List α} {i : Nat} {x : α} (h : (l.drop i).take 1 = [x]) : l[i]? = some x := by
  have h0 : ((l.drop i).take 1)[0]? = some x := by rw [h]; rfl
  simpa using h0
theorem laid_of {W : World} (h : laidMetH Tryz.prog laid5 W) : Laid W := by
  rw [laid5_eq, MakeChecks.laidMetH_plain _ _ _ (by kernel_rfl)] at h
  obtain ⟨ps, ⟨_, _, _, _, _, _, _, _, _, _, ⟨_, _, _, _, _, _, _, _, _, _, ⟨g, t, cs, fuel, p, q, hg, ht, hv, hd, ⟨g', t', cs', fuel', p', q', hg', ht', hv', hd', _, _⟩, _⟩, _⟩, _⟩, _, _⟩ := h
  obtain rfl := Option.some.inj ((show Tryz.prog.globalNamed "strings.asciiSpace" = some 0 by kernel_rfl).symm.trans hg)
  obtain rfl := Option.some.inj ((show (Tryz.prog.globals[0]?).map (·.type) = some 289 by kernel_rfl).symm.trans ht)
  obtain rfl := Option.some.inj ((show Tryz.prog.globalNamed "glacis/kernel.makes" = some 2 by kernel_rfl).symm.trans hg')
  obtain rfl := Option.some.inj ((show (Tryz.prog.globals[2]?).map (·.type) = some 335 by kernel_rfl).symm.trans ht')
  constructor
  · intro i v hi
    obtain ⟨xs, m, _, ex, _, hl, hel⟩ := DataW.trod_array Tryz.underlying289 hd
    have hi' : i < 256 := by
      have := (List.getElem?_eq_some_iff.1 hi).1
      have e : spL.length = 256 := by unfold spL; rw [List.length_map, List.length_range]
      omega
    have c5 : Tryz.prog.cellsOf 5 = 1 := by kernel_rfl
    have hE := hel i hi'
    rw [c5, Nat.mul_one, List.getElem?_eq_getElem (by omega)] at hE
    obtain ⟨z, e1, e2, _⟩ := DataW.trod_int Tryz.underlying5 hE
    have e3 : (xs.map (·.1)) = spL.map fun v => .lit (.int .u8 (Int.ofNat v.a)) := (DataW.agg.inj (lit_list.symm.trans (Prod.mk.inj ex).1)).symm
    have e4 : (xs.map (·.1))[i]? = (spL.map fun v => (DataW.lit (.int .u8 (Int.ofNat v.a)) : DataW Unit))[i]? := by rw [e3]
    rw [List.getElem?_map, List.getElem?_map, List.getElem?_eq_getElem (by omega : i < xs.length), hi, e2] at e4
    simp only [Option.map_some, Option.some.injEq, DataW.lit.injEq, Lit.int.injEq, true_and] at e4
    rw [World.var?_cell hg hv i, ← e4]
    have := take1 e1
    simpa using this
  · intro i v hi
    obtain ⟨xs, m, _, ex, _, hl, hel⟩ := DataW.trod_array Tryz.underlying335 hd'
    have c334 : Tryz.prog.cellsOf 334 = 2 := by kernel_rfl
    have c3 : Tryz.prog.cellsOf 3 = 1 := by kernel_rfl
    have hi' : i < 10 := (List.getElem?_eq_some_iff.1 hi).1
    have e3 : (xs.map (·.1)) = _ := (DataW.agg.inj (lit_makes.symm.trans (Prod.mk.inj ex).1)).symm
    have hE := hel (i / 2) (by omega)
    rw [c334, List.getElem?_eq_getElem (by omega)] at hE
    obtain ⟨ys, n, _, ey, _, hyl, hyel⟩ := DataW.trod_array Tryz.underlying334 hE
    simp only [c3] at hyel
    have h0 := (hyel 0 (by decide)).trans (List.getElem?_eq_getElem (by omega))
    have h1 := (hyel 1 (by decide)).trans (List.getElem?_eq_getElem (by omega))
    obtain ⟨z0, a0, b0, _⟩ := DataW.trod_int Tryz.underlying3 h0
    obtain ⟨z1, a1, b1, _⟩ := DataW.trod_int Tryz.underlying3 h1
    have e4 := congrArg (fun l => l[i / 2]?) e3
    rw [List.getElem?_map, List.getElem?_map, List.getElem?_eq_getElem (by omega : i / 2 < xs.length), ey] at e4
    have hy : ys.map (·.1) = [.lit (.int .i64 z0), .lit (.int .i64 z1)] := by
      match ys, hyl, b0, b1 with
      | [u0, u1], _, b0, b1 =>
        rw [show u0 = _ from b0, show u1 = _ from b1]; rfl
    simp only [hy] at e4
    rw [World.var?_cell hg' hv' i]
    have t0 : cs'.toList[i / 2 * 2]? = some (.int .i64 z0) := by
      have h0 : ((((cs'.toList.drop (i / 2 * 2)).take 2).drop 0).take 1)[0]? = some (.int .i64 z0) := by rw [a0]; rfl
      simpa using h0
    have t1 : cs'.toList[i / 2 * 2 + 1]? = some (.int .i64 z1) := by
      have h0 : ((((cs'.toList.drop (i / 2 * 2)).take 2).drop 1).take 1)[0]? = some (.int .i64 z1) := by rw [a1]; rfl
      simpa using h0
    rw [Array.getElem?_toList] at t0 t1
    have hcase : i = 0 ∨ i = 1 ∨ i = 2 ∨ i = 3 ∨ i = 4 ∨ i = 5 ∨ i = 6 ∨ i = 7 ∨ i = 8 ∨ i = 9 := by omega
    rcases hcase with rfl | rfl | rfl | rfl | rfl | rfl | rfl | rfl | rfl | rfl <;>
    · cases hi
      simp at e4 t0 t1
      first | (rw [t0, e4.1]; rfl) | (rw [t1, e4.2]; rfl)
end Go.Proofs.YtcajgbpcimimhaaGreatDoor.Vm
