/- The closed facts of the rows over the whole program, each its own declaration. No conditions. -/
import Derived.Test.YtcajgbpcimimhaaGreatDoorRows
import Derived.Test.YtcajgbpcimimhaaGreatDoorWholeFactsG
import Derived.JoinedOf
import Derived.ProofKit
namespace Go.Proofs.YtcajgbpcimimhaaGreatDoor
open Go Go.ChangeShapes Go.WideShapes Go.ChangeAt
theorem unref_wf : Rows.wholeUnrefRow.wf (OpenSpec.ofChange Rows.wholeUnrefSpec) = true := by kernel_rfl
theorem unref_pars : Tryz.f4.params.all (Tryz.prog.readableRec ·) = true := by kernel_rfl
theorem unref_namedTie : namedTie Tryz.prog Rows.wholeUnrefRow.named Rows.wholeUnrefSpec.vars = true := by kernel_rfl
theorem unref_inPlace : (Rows.wholeUnrefRow.inPlace == Tryz.prog.inPlace 4) = true := by kernel_rfl
theorem unref_unfollowed : (Rows.wholeUnrefRow.unfollowed == Tryz.prog.unfollowed 4) = true := by kernel_rfl
theorem unref_recurses : (Rows.wholeUnrefRow.recurses == Tryz.prog.recurses 4) = true := by kernel_rfl
theorem unref_named : (Rows.wholeUnrefRow.named == Tryz.prog.varsNamed 4) = true := by kernel_rfl
theorem unref_plainKeys : (Rows.wholeUnrefRow.plainKeys == Tryz.prog.plainKeys) = true := by kernel_rfl
theorem unref_lifted : (Rows.wholeUnrefRow.lifted == Tryz.prog.liftsFinal) = true := by kernel_rfl
theorem unref_make : (Tryz.prog.make == some Rows.wholeUnrefRow.make) = true := by kernel_rfl
theorem unref_pinned : (Rows.wholeUnrefRow.pinned == Rows.wholeUnrefRow.pinnedBy) = true := by kernel_rfl
theorem unref_joined : joinedFacts Tryz.prog 4 Tryz.f4 Rows.wholeUnrefSpec Rows.wholeUnrefRow = true :=
  (and2 (and2 (and2 (and2 (and2 (and2 (and2 (and2 (and2 (and2 (and2 (and2 (and2 (and2 (and2 (and2 (and2 (and2 (and2 (and2 (and2 (and2 (and2 (and2 (and2 (and2 (and2 (and2 (and2 (and2 (and2 unref_wf laidB) rowedB) unref_pars) unref_namedTie) (by kernel_rfl)) (by kernel_rfl)) (by kernel_rfl)) (by kernel_rfl)) unref_inPlace) unref_unfollowed) unref_recurses) unref_named) (by kernel_rfl)) (by kernel_rfl)) (by kernel_rfl)) (by kernel_rfl)) (by kernel_rfl)) (by kernel_rfl)) (by kernel_rfl)) (by kernel_rfl)) (by kernel_rfl)) unref_plainKeys) (by kernel_rfl)) heardB) enterB) unref_lifted) unref_make) (by kernel_rfl)) unref_pinned) (by kernel_rfl)) (by kernel_rfl))
end Go.Proofs.YtcajgbpcimimhaaGreatDoor
