/- The closed facts of the rows over the whole program, each its own declaration. No conditions. -/
import Derived.Test.YtcajgbpcimimhaaGreatDoorRows
import Derived.JoinedOf
import Derived.ProofKit
namespace Go.Proofs.YtcajgbpcimimhaaGreatDoor
open Go Go.ChangeShapes Go.WideShapes Go.ChangeAt
theorem and2 {a b : Bool} (ha : a = true) (hb : b = true) : (a && b) = true := by rw [ha, hb]; rfl
theorem laidB : laidOutB Tryz.prog = true := by kernel_rfl
theorem rowedB : mapsRowed Tryz.prog = true := by kernel_rfl
theorem heardB : Tryz.prog.stopsHeard = true := by kernel_rfl
theorem enterB : Tryz.prog.mayEnter = true := by kernel_rfl
theorem waits_wf : Rows.wholeWaitsRow.wf (OpenSpec.ofChange Rows.wholeWaitsSpec) = true := by kernel_rfl
theorem waits_pars : Tryz.f3.params.all (Tryz.prog.readableRec ·) = true := by kernel_rfl
theorem waits_namedTie : namedTie Tryz.prog Rows.wholeWaitsRow.named Rows.wholeWaitsSpec.vars = true := by kernel_rfl
theorem waits_inPlace : (Rows.wholeWaitsRow.inPlace == Tryz.prog.inPlace 3) = true := by kernel_rfl
theorem waits_unfollowed : (Rows.wholeWaitsRow.unfollowed == Tryz.prog.unfollowed 3) = true := by kernel_rfl
theorem waits_recurses : (Rows.wholeWaitsRow.recurses == Tryz.prog.recurses 3) = true := by kernel_rfl
theorem waits_named : (Rows.wholeWaitsRow.named == Tryz.prog.varsNamed 3) = true := by kernel_rfl
theorem waits_plainKeys : (Rows.wholeWaitsRow.plainKeys == Tryz.prog.plainKeys) = true := by kernel_rfl
theorem waits_lifted : (Rows.wholeWaitsRow.lifted == Tryz.prog.liftsFinal) = true := by kernel_rfl
theorem waits_make : (Tryz.prog.make == some Rows.wholeWaitsRow.make) = true := by kernel_rfl
theorem waits_pinned : (Rows.wholeWaitsRow.pinned == Rows.wholeWaitsRow.pinnedBy) = true := by kernel_rfl
theorem waits_joined : joinedFacts Tryz.prog 3 Tryz.f3 Rows.wholeWaitsSpec Rows.wholeWaitsRow = true :=
  (and2 (and2 (and2 (and2 (and2 (and2 (and2 (and2 (and2 (and2 (and2 (and2 (and2 (and2 (and2 (and2 (and2 (and2 (and2 (and2 (and2 (and2 (and2 (and2 (and2 (and2 (and2 (and2 (and2 (and2 (and2 waits_wf laidB) rowedB) waits_pars) waits_namedTie) (by kernel_rfl)) (by kernel_rfl)) (by kernel_rfl)) (by kernel_rfl)) waits_inPlace) waits_unfollowed) waits_recurses) waits_named) (by kernel_rfl)) (by kernel_rfl)) (by kernel_rfl)) (by kernel_rfl)) (by kernel_rfl)) (by kernel_rfl)) (by kernel_rfl)) (by kernel_rfl)) (by kernel_rfl)) waits_plainKeys) (by kernel_rfl)) heardB) enterB) waits_lifted) waits_make) (by kernel_rfl)) waits_pinned) (by kernel_rfl)) (by kernel_rfl))
end Go.Proofs.YtcajgbpcimimhaaGreatDoor
