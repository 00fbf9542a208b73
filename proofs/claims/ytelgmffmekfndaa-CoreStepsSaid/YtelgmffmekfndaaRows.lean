/-
  No cell of these rows narrows 'for every input' (looked for: loops, veiled, ifaces, maps, wideKeys, modest, calm, conditions, laid).
  DERIVED. THE GIVEN ROWS OF THIS SEAT. 18 by the template 'for every input the law returns true; each argument reads behind the call as it read before'; 0 by the template 'total and deterministic' (their statements: YtelgmffmekfndaaTotals.lean).
  GIVEN WITH THE SEED: the statements are not yours to turn. If you find one false, say at which input.
  Laid BY PROGRAM, IN A SANDBOX (cutbox-rows.mjs): the forced cells as the released guide's own fill.sh prints them over the translation be1307a29a4963bd… (all of the seat's roots in one cut). By AI agents, Wed Nov 11 2026. No macro, syntax, notation, axiom, sorry.
-/
import Derived.Test.YtelgmffmekfndaaChecked
import GoSem.Claim
import GoSem.ClaimJoined
import GoSem.ClaimMapViews
import Derived.JoinedTies
import Derived.KernelRfl
namespace Go.Proofs.Ytelgmffmekfndaa
/- THE CELL 'sum', in the pinned program and in every row, IS THE sha256 OF THE DUMP (.gsa) THAT YtelgmffmekfndaaProg.lean LOADS. Nothing in Lean hashes anything: it is a label: what it is worth is what the hold of that sum in a sandbox is worth. -/
noncomputable def Try.pinned : Pinned := { name := "ytelgmffmekfndaa", sum := "be1307a29a4963bdbfc2293c129d0f09ecd12ffae40cbe2bb31919b6bc190c01", checked := Try.checked }
namespace Rows
def none {H : Type} : Left H := { results := [], args := [] }

/-- 'glacislaw01.FltSums': WHATEVER THE INPUT: true; the input reads as it did. -/
def fltSumsSpec : ChangeSpec := { name := "fltSums", fn := fun _ => fun
  | [d1, d2] => { results := [.lit (.bool true)], args := [d1, d2] }
  | _ => none }
def fltSumsRow : OpenClaim := { program := "ytelgmffmekfndaa", sum := "be1307a29a4963bdbfc2293c129d0f09ecd12ffae40cbe2bb31919b6bc190c01", func := "glacis/glacislaw01.FltSums", spec := "fltSums", inPlace := ["math.Float64frombits", "math.Float64bits", "math.sqrt"], apart := false }
def FltSumsSaid : Prop := fltSumsRow.holds Try.pinned (OpenSpec.ofChange fltSumsSpec)

/-- ITS FALSE NEIGHBOUR: 'it returns false'. Refute it at one input. -/
def fltSumsWrong : ChangeSpec := { name := "fltSums", fn := fun _ => fun
  | [d1, d2] => { results := [.lit (.bool false)], args := [d1, d2] }
  | _ => none }
def FltSumsWrongFalsely : Prop := fltSumsRow.holds Try.pinned (OpenSpec.ofChange fltSumsWrong)

/-- 'glacislaw01.FltProducts': WHATEVER THE INPUT: true; the input reads as it did. -/
def fltProductsSpec : ChangeSpec := { name := "fltProducts", fn := fun _ => fun
  | [d1, d2] => { results := [.lit (.bool true)], args := [d1, d2] }
  | _ => none }
def fltProductsRow : OpenClaim := { program := "ytelgmffmekfndaa", sum := "be1307a29a4963bdbfc2293c129d0f09ecd12ffae40cbe2bb31919b6bc190c01", func := "glacis/glacislaw01.FltProducts", spec := "fltProducts", inPlace := ["math.Float64frombits", "math.Float64bits", "math.sqrt"], apart := false }
def FltProductsSaid : Prop := fltProductsRow.holds Try.pinned (OpenSpec.ofChange fltProductsSpec)

/-- ITS FALSE NEIGHBOUR: 'it returns false'. Refute it at one input. -/
def fltProductsWrong : ChangeSpec := { name := "fltProducts", fn := fun _ => fun
  | [d1, d2] => { results := [.lit (.bool false)], args := [d1, d2] }
  | _ => none }
def FltProductsWrongFalsely : Prop := fltProductsRow.holds Try.pinned (OpenSpec.ofChange fltProductsWrong)

/-- 'glacislaw01.FltQuotients': WHATEVER THE INPUT: true; the input reads as it did. -/
def fltQuotientsSpec : ChangeSpec := { name := "fltQuotients", fn := fun _ => fun
  | [d1, d2] => { results := [.lit (.bool true)], args := [d1, d2] }
  | _ => none }
def fltQuotientsRow : OpenClaim := { program := "ytelgmffmekfndaa", sum := "be1307a29a4963bdbfc2293c129d0f09ecd12ffae40cbe2bb31919b6bc190c01", func := "glacis/glacislaw01.FltQuotients", spec := "fltQuotients", inPlace := ["math.Float64frombits", "math.Float64bits", "math.sqrt"], apart := false }
def FltQuotientsSaid : Prop := fltQuotientsRow.holds Try.pinned (OpenSpec.ofChange fltQuotientsSpec)

/-- ITS FALSE NEIGHBOUR: 'it returns false'. Refute it at one input. -/
def fltQuotientsWrong : ChangeSpec := { name := "fltQuotients", fn := fun _ => fun
  | [d1, d2] => { results := [.lit (.bool false)], args := [d1, d2] }
  | _ => none }
def FltQuotientsWrongFalsely : Prop := fltQuotientsRow.holds Try.pinned (OpenSpec.ofChange fltQuotientsWrong)

/-- 'glacislaw01.FltInts': WHATEVER THE INPUT: true; the input reads as it did. -/
def fltIntsSpec : ChangeSpec := { name := "fltInts", fn := fun _ => fun
  | [d1, d2] => { results := [.lit (.bool true)], args := [d1, d2] }
  | _ => none }
def fltIntsRow : OpenClaim := { program := "ytelgmffmekfndaa", sum := "be1307a29a4963bdbfc2293c129d0f09ecd12ffae40cbe2bb31919b6bc190c01", func := "glacis/glacislaw01.FltInts", spec := "fltInts", inPlace := ["math.Float64frombits", "math.Float64bits", "math.sqrt"], apart := false }
def FltIntsSaid : Prop := fltIntsRow.holds Try.pinned (OpenSpec.ofChange fltIntsSpec)

/-- ITS FALSE NEIGHBOUR: 'it returns false'. Refute it at one input. -/
def fltIntsWrong : ChangeSpec := { name := "fltInts", fn := fun _ => fun
  | [d1, d2] => { results := [.lit (.bool false)], args := [d1, d2] }
  | _ => none }
def FltIntsWrongFalsely : Prop := fltIntsRow.holds Try.pinned (OpenSpec.ofChange fltIntsWrong)

/-- 'glacislaw01.FltOrder': WHATEVER THE INPUT: true; the input reads as it did. -/
def fltOrderSpec : ChangeSpec := { name := "fltOrder", fn := fun _ => fun
  | [d1, d2] => { results := [.lit (.bool true)], args := [d1, d2] }
  | _ => none }
def fltOrderRow : OpenClaim := { program := "ytelgmffmekfndaa", sum := "be1307a29a4963bdbfc2293c129d0f09ecd12ffae40cbe2bb31919b6bc190c01", func := "glacis/glacislaw01.FltOrder", spec := "fltOrder", inPlace := ["math.Float64frombits", "math.Float64bits", "math.sqrt"], apart := false }
def FltOrderSaid : Prop := fltOrderRow.holds Try.pinned (OpenSpec.ofChange fltOrderSpec)

/-- ITS FALSE NEIGHBOUR: 'it returns false'. Refute it at one input. -/
def fltOrderWrong : ChangeSpec := { name := "fltOrder", fn := fun _ => fun
  | [d1, d2] => { results := [.lit (.bool false)], args := [d1, d2] }
  | _ => none }
def FltOrderWrongFalsely : Prop := fltOrderRow.holds Try.pinned (OpenSpec.ofChange fltOrderWrong)

/-- 'glacislaw01.FltWhole': WHATEVER THE INPUT: true; the input reads as it did. -/
def fltWholeSpec : ChangeSpec := { name := "fltWhole", fn := fun _ => fun
  | [d1, d2] => { results := [.lit (.bool true)], args := [d1, d2] }
  | _ => none }
def fltWholeRow : OpenClaim := { program := "ytelgmffmekfndaa", sum := "be1307a29a4963bdbfc2293c129d0f09ecd12ffae40cbe2bb31919b6bc190c01", func := "glacis/glacislaw01.FltWhole", spec := "fltWhole", inPlace := ["math.Float64frombits", "math.Float64bits", "math.sqrt"], apart := false }
def FltWholeSaid : Prop := fltWholeRow.holds Try.pinned (OpenSpec.ofChange fltWholeSpec)

/-- ITS FALSE NEIGHBOUR: 'it returns false'. Refute it at one input. -/
def fltWholeWrong : ChangeSpec := { name := "fltWhole", fn := fun _ => fun
  | [d1, d2] => { results := [.lit (.bool false)], args := [d1, d2] }
  | _ => none }
def FltWholeWrongFalsely : Prop := fltWholeRow.holds Try.pinned (OpenSpec.ofChange fltWholeWrong)

/-- 'glacislaw01.FltRises': WHATEVER THE INPUT: true; the input reads as it did. -/
def fltRisesSpec : ChangeSpec := { name := "fltRises", fn := fun _ => fun
  | [d1, d2, d3] => { results := [.lit (.bool true)], args := [d1, d2, d3] }
  | _ => none }
def fltRisesRow : OpenClaim := { program := "ytelgmffmekfndaa", sum := "be1307a29a4963bdbfc2293c129d0f09ecd12ffae40cbe2bb31919b6bc190c01", func := "glacis/glacislaw01.FltRises", spec := "fltRises", inPlace := ["math.Float64frombits", "math.Float64bits", "math.sqrt"], unfollowed := true, recurses := true, apart := false }
def FltRisesSaid : Prop := fltRisesRow.holds Try.pinned (OpenSpec.ofChange fltRisesSpec)

/-- ITS FALSE NEIGHBOUR: 'it returns false'. Refute it at one input. -/
def fltRisesWrong : ChangeSpec := { name := "fltRises", fn := fun _ => fun
  | [d1, d2, d3] => { results := [.lit (.bool false)], args := [d1, d2, d3] }
  | _ => none }
def FltRisesWrongFalsely : Prop := fltRisesRow.holds Try.pinned (OpenSpec.ofChange fltRisesWrong)

/-- 'glacislaw01.FltSigns': WHATEVER THE INPUT: true; the input reads as it did. -/
def fltSignsSpec : ChangeSpec := { name := "fltSigns", fn := fun _ => fun
  | [d1, d2] => { results := [.lit (.bool true)], args := [d1, d2] }
  | _ => none }
def fltSignsRow : OpenClaim := { program := "ytelgmffmekfndaa", sum := "be1307a29a4963bdbfc2293c129d0f09ecd12ffae40cbe2bb31919b6bc190c01", func := "glacis/glacislaw01.FltSigns", spec := "fltSigns", inPlace := ["math.Float64frombits", "math.Float64bits", "math.sqrt"], apart := false }
def FltSignsSaid : Prop := fltSignsRow.holds Try.pinned (OpenSpec.ofChange fltSignsSpec)

/-- ITS FALSE NEIGHBOUR: 'it returns false'. Refute it at one input. -/
def fltSignsWrong : ChangeSpec := { name := "fltSigns", fn := fun _ => fun
  | [d1, d2] => { results := [.lit (.bool false)], args := [d1, d2] }
  | _ => none }
def FltSignsWrongFalsely : Prop := fltSignsRow.holds Try.pinned (OpenSpec.ofChange fltSignsWrong)

/-- 'glacislaw05.AluReckons': WHATEVER THE INPUT: true; the input reads as it did. -/
def aluReckonsSpec : ChangeSpec := { name := "aluReckons", fn := fun _ => fun
  | [d1, d2, d3] => { results := [.lit (.bool true)], args := [d1, d2, d3] }
  | _ => none }
def aluReckonsRow : OpenClaim := { program := "ytelgmffmekfndaa", sum := "be1307a29a4963bdbfc2293c129d0f09ecd12ffae40cbe2bb31919b6bc190c01", func := "glacis/glacislaw05.AluReckons", spec := "aluReckons", inPlace := ["math.Float64frombits", "math.Float64bits", "math.sqrt"], apart := false }
def AluReckonsSaid : Prop := aluReckonsRow.holds Try.pinned (OpenSpec.ofChange aluReckonsSpec)

/-- ITS FALSE NEIGHBOUR: 'it returns false'. Refute it at one input. -/
def aluReckonsWrong : ChangeSpec := { name := "aluReckons", fn := fun _ => fun
  | [d1, d2, d3] => { results := [.lit (.bool false)], args := [d1, d2, d3] }
  | _ => none }
def AluReckonsWrongFalsely : Prop := aluReckonsRow.holds Try.pinned (OpenSpec.ofChange aluReckonsWrong)

/-- 'glacislaw05.AluQuotients': WHATEVER THE INPUT: true; the input reads as it did. -/
def aluQuotientsSpec : ChangeSpec := { name := "aluQuotients", fn := fun _ => fun
  | [d1, d2] => { results := [.lit (.bool true)], args := [d1, d2] }
  | _ => none }
def aluQuotientsRow : OpenClaim := { program := "ytelgmffmekfndaa", sum := "be1307a29a4963bdbfc2293c129d0f09ecd12ffae40cbe2bb31919b6bc190c01", func := "glacis/glacislaw05.AluQuotients", spec := "aluQuotients", inPlace := ["math.Float64frombits", "math.Float64bits", "math.sqrt"], unfollowed := true, recurses := true, apart := false }
def AluQuotientsSaid : Prop := aluQuotientsRow.holds Try.pinned (OpenSpec.ofChange aluQuotientsSpec)

/-- ITS FALSE NEIGHBOUR: 'it returns false'. Refute it at one input. -/
def aluQuotientsWrong : ChangeSpec := { name := "aluQuotients", fn := fun _ => fun
  | [d1, d2] => { results := [.lit (.bool false)], args := [d1, d2] }
  | _ => none }
def AluQuotientsWrongFalsely : Prop := aluQuotientsRow.holds Try.pinned (OpenSpec.ofChange aluQuotientsWrong)

/-- 'glacislaw05.AluShifts': WHATEVER THE INPUT: true; the input reads as it did. -/
def aluShiftsSpec : ChangeSpec := { name := "aluShifts", fn := fun _ => fun
  | [d1, d2] => { results := [.lit (.bool true)], args := [d1, d2] }
  | _ => none }
def aluShiftsRow : OpenClaim := { program := "ytelgmffmekfndaa", sum := "be1307a29a4963bdbfc2293c129d0f09ecd12ffae40cbe2bb31919b6bc190c01", func := "glacis/glacislaw05.AluShifts", spec := "aluShifts", inPlace := ["math.Float64frombits", "math.Float64bits", "math.sqrt"], unfollowed := true, recurses := true, apart := false }
def AluShiftsSaid : Prop := aluShiftsRow.holds Try.pinned (OpenSpec.ofChange aluShiftsSpec)

/-- ITS FALSE NEIGHBOUR: 'it returns false'. Refute it at one input. -/
def aluShiftsWrong : ChangeSpec := { name := "aluShifts", fn := fun _ => fun
  | [d1, d2] => { results := [.lit (.bool false)], args := [d1, d2] }
  | _ => none }
def AluShiftsWrongFalsely : Prop := aluShiftsRow.holds Try.pinned (OpenSpec.ofChange aluShiftsWrong)

/-- 'glacislaw05.AluBits': WHATEVER THE INPUT: true; the input reads as it did. -/
def aluBitsSpec : ChangeSpec := { name := "aluBits", fn := fun _ => fun
  | [d1, d2] => { results := [.lit (.bool true)], args := [d1, d2] }
  | _ => none }
def aluBitsRow : OpenClaim := { program := "ytelgmffmekfndaa", sum := "be1307a29a4963bdbfc2293c129d0f09ecd12ffae40cbe2bb31919b6bc190c01", func := "glacis/glacislaw05.AluBits", spec := "aluBits", inPlace := ["math.Float64frombits", "math.Float64bits", "math.sqrt"], unfollowed := true, recurses := true, apart := false }
def AluBitsSaid : Prop := aluBitsRow.holds Try.pinned (OpenSpec.ofChange aluBitsSpec)

/-- ITS FALSE NEIGHBOUR: 'it returns false'. Refute it at one input. -/
def aluBitsWrong : ChangeSpec := { name := "aluBits", fn := fun _ => fun
  | [d1, d2] => { results := [.lit (.bool false)], args := [d1, d2] }
  | _ => none }
def AluBitsWrongFalsely : Prop := aluBitsRow.holds Try.pinned (OpenSpec.ofChange aluBitsWrong)

/-- 'glacislaw05.AluOrder': WHATEVER THE INPUT: true; the input reads as it did. -/
def aluOrderSpec : ChangeSpec := { name := "aluOrder", fn := fun _ => fun
  | [d1, d2] => { results := [.lit (.bool true)], args := [d1, d2] }
  | _ => none }
def aluOrderRow : OpenClaim := { program := "ytelgmffmekfndaa", sum := "be1307a29a4963bdbfc2293c129d0f09ecd12ffae40cbe2bb31919b6bc190c01", func := "glacis/glacislaw05.AluOrder", spec := "aluOrder", inPlace := ["math.Float64frombits", "math.Float64bits", "math.sqrt"], unfollowed := true, recurses := true, apart := false }
def AluOrderSaid : Prop := aluOrderRow.holds Try.pinned (OpenSpec.ofChange aluOrderSpec)

/-- ITS FALSE NEIGHBOUR: 'it returns false'. Refute it at one input. -/
def aluOrderWrong : ChangeSpec := { name := "aluOrder", fn := fun _ => fun
  | [d1, d2] => { results := [.lit (.bool false)], args := [d1, d2] }
  | _ => none }
def AluOrderWrongFalsely : Prop := aluOrderRow.holds Try.pinned (OpenSpec.ofChange aluOrderWrong)

/-- 'glacislaw05.AluTakes': WHATEVER THE INPUT: true; the input reads as it did. -/
def aluTakesSpec : ChangeSpec := { name := "aluTakes", fn := fun _ => fun
  | [d1, d2, d3] => { results := [.lit (.bool true)], args := [d1, d2, d3] }
  | _ => none }
def aluTakesRow : OpenClaim := { program := "ytelgmffmekfndaa", sum := "be1307a29a4963bdbfc2293c129d0f09ecd12ffae40cbe2bb31919b6bc190c01", func := "glacis/glacislaw05.AluTakes", spec := "aluTakes", inPlace := ["math.Float64frombits", "math.Float64bits", "math.sqrt"], apart := false }
def AluTakesSaid : Prop := aluTakesRow.holds Try.pinned (OpenSpec.ofChange aluTakesSpec)

/-- ITS FALSE NEIGHBOUR: 'it returns false'. Refute it at one input. -/
def aluTakesWrong : ChangeSpec := { name := "aluTakes", fn := fun _ => fun
  | [d1, d2, d3] => { results := [.lit (.bool false)], args := [d1, d2, d3] }
  | _ => none }
def AluTakesWrongFalsely : Prop := aluTakesRow.holds Try.pinned (OpenSpec.ofChange aluTakesWrong)

/-- 'glacislaw09.CoreSteps': WHATEVER THE INPUT: true; the input reads as it did. -/
def coreStepsSpec : ChangeSpec := { name := "coreSteps", fn := fun _ => fun
  | [d1, d2, d3] => { results := [.lit (.bool true)], args := [d1, d2, d3] }
  | _ => none }
def coreStepsRow : OpenClaim := { program := "ytelgmffmekfndaa", sum := "be1307a29a4963bdbfc2293c129d0f09ecd12ffae40cbe2bb31919b6bc190c01", func := "glacis/glacislaw09.CoreSteps", spec := "coreSteps", inPlace := ["math.Float64frombits", "math.Float64bits", "math.sqrt"], unfollowed := true, recurses := true, apart := false }
def CoreStepsSaid : Prop := coreStepsRow.holds Try.pinned (OpenSpec.ofChange coreStepsSpec)

/-- ITS FALSE NEIGHBOUR: 'it returns false'. Refute it at one input. -/
def coreStepsWrong : ChangeSpec := { name := "coreSteps", fn := fun _ => fun
  | [d1, d2, d3] => { results := [.lit (.bool false)], args := [d1, d2, d3] }
  | _ => none }
def CoreStepsWrongFalsely : Prop := coreStepsRow.holds Try.pinned (OpenSpec.ofChange coreStepsWrong)

/-- 'glacislaw09.CoreEnds': WHATEVER THE INPUT: true; the input reads as it did. -/
def coreEndsSpec : ChangeSpec := { name := "coreEnds", fn := fun _ => fun
  | [d1, d2, d3] => { results := [.lit (.bool true)], args := [d1, d2, d3] }
  | _ => none }
def coreEndsRow : OpenClaim := { program := "ytelgmffmekfndaa", sum := "be1307a29a4963bdbfc2293c129d0f09ecd12ffae40cbe2bb31919b6bc190c01", func := "glacis/glacislaw09.CoreEnds", spec := "coreEnds", inPlace := ["math.Float64frombits", "math.Float64bits", "math.sqrt"], unfollowed := true, recurses := true, apart := false }
def CoreEndsSaid : Prop := coreEndsRow.holds Try.pinned (OpenSpec.ofChange coreEndsSpec)

/-- ITS FALSE NEIGHBOUR: 'it returns false'. Refute it at one input. -/
def coreEndsWrong : ChangeSpec := { name := "coreEnds", fn := fun _ => fun
  | [d1, d2, d3] => { results := [.lit (.bool false)], args := [d1, d2, d3] }
  | _ => none }
def CoreEndsWrongFalsely : Prop := coreEndsRow.holds Try.pinned (OpenSpec.ofChange coreEndsWrong)

/-- 'glacislaw09.CoreLoops': WHATEVER THE INPUT: true; the input reads as it did. -/
def coreLoopsSpec : ChangeSpec := { name := "coreLoops", fn := fun _ => fun
  | [d1, d2] => { results := [.lit (.bool true)], args := [d1, d2] }
  | _ => none }
def coreLoopsRow : OpenClaim := { program := "ytelgmffmekfndaa", sum := "be1307a29a4963bdbfc2293c129d0f09ecd12ffae40cbe2bb31919b6bc190c01", func := "glacis/glacislaw09.CoreLoops", spec := "coreLoops", inPlace := ["math.Float64frombits", "math.Float64bits", "math.sqrt"], unfollowed := true, recurses := true, apart := false }
def CoreLoopsSaid : Prop := coreLoopsRow.holds Try.pinned (OpenSpec.ofChange coreLoopsSpec)

/-- ITS FALSE NEIGHBOUR: 'it returns false'. Refute it at one input. -/
def coreLoopsWrong : ChangeSpec := { name := "coreLoops", fn := fun _ => fun
  | [d1, d2] => { results := [.lit (.bool false)], args := [d1, d2] }
  | _ => none }
def CoreLoopsWrongFalsely : Prop := coreLoopsRow.holds Try.pinned (OpenSpec.ofChange coreLoopsWrong)

/-- 'glacislaw09.CoreMoves': WHATEVER THE INPUT: true; the input reads as it did. -/
def coreMovesSpec : ChangeSpec := { name := "coreMoves", fn := fun _ => fun
  | [d1, d2, d3] => { results := [.lit (.bool true)], args := [d1, d2, d3] }
  | _ => none }
def coreMovesRow : OpenClaim := { program := "ytelgmffmekfndaa", sum := "be1307a29a4963bdbfc2293c129d0f09ecd12ffae40cbe2bb31919b6bc190c01", func := "glacis/glacislaw09.CoreMoves", spec := "coreMoves", inPlace := ["math.Float64frombits", "math.Float64bits", "math.sqrt"], unfollowed := true, recurses := true, apart := false }
def CoreMovesSaid : Prop := coreMovesRow.holds Try.pinned (OpenSpec.ofChange coreMovesSpec)

/-- ITS FALSE NEIGHBOUR: 'it returns false'. Refute it at one input. -/
def coreMovesWrong : ChangeSpec := { name := "coreMoves", fn := fun _ => fun
  | [d1, d2, d3] => { results := [.lit (.bool false)], args := [d1, d2, d3] }
  | _ => none }
def CoreMovesWrongFalsely : Prop := coreMovesRow.holds Try.pinned (OpenSpec.ofChange coreMovesWrong)

/- THE SECOND FORM. 'bulk': how many values and letters a reading holds, each counted each time it is reached (what is shared counts as often as it is met; a slice's spare places count too). A statement '..UptoSaid' is the law's where the arguments, and the package variables that the reading takes, are together of bulk at most 1048576: NARROWER than '..Said'. Prove '..Said' where nothing that the law and all that it calls make is longer than what came in: it says more and counts as full. Else prove '..UptoSaid'. A law counts once. -/
mutual
def uptoBulk {H : Type} : DataW H → Nat
  | .lit (.string bytes) => bytes.length + 1
  | .lit _ => 1
  | .nil => 1
  | .ptr d => uptoBulk d + 1
  | .slice elems spare => uptoBulkAll elems + uptoBulkAll spare + 1
  | .agg parts => uptoBulkAll parts + 1
  | .iface _ d => uptoBulk d + 1
  | .map entries => uptoBulkEntries entries + 1
  | .held _ => 1
def uptoBulkAll {H : Type} : List (DataW H) → Nat
  | [] => 0
  | d :: r => uptoBulk d + uptoBulkAll r
def uptoBulkEntries {H : Type} : List (Lit × DataW H) → Nat
  | [] => 0
  | x :: r => uptoBulkEntry x + uptoBulkEntries r
def uptoBulkEntry {H : Type} : Lit × DataW H → Nat
  | (.string bytes, d) => bytes.length + uptoBulk d + 1
  | (_, d) => uptoBulk d + 1
 end
def uptoSmall : (H : Type) → List (DataW H) → Bool := fun _ ds => decide (uptoBulkAll ds ≤ 1048576)
def OpenSpec.upto (s : _root_.Go.ChangeSpec) : _root_.Go.OpenSpec := { _root_.Go.OpenSpec.ofChange s with cond := some uptoSmall }

/-- 'glacislaw01.FltSums', WHERE WHAT IT READS IS OF BULK AT MOST 1048576: true; the input reads as it did. -/
def fltSumsUptoRow : OpenClaim := { program := "ytelgmffmekfndaa", sum := "be1307a29a4963bdbfc2293c129d0f09ecd12ffae40cbe2bb31919b6bc190c01", func := "glacis/glacislaw01.FltSums", spec := "fltSums", inPlace := ["math.Float64frombits", "math.Float64bits", "math.sqrt"], apart := false, narrowed := true }
def FltSumsUptoSaid : Prop := fltSumsUptoRow.holds Try.pinned (OpenSpec.upto fltSumsSpec)

/-- 'glacislaw01.FltProducts', WHERE WHAT IT READS IS OF BULK AT MOST 1048576: true; the input reads as it did. -/
def fltProductsUptoRow : OpenClaim := { program := "ytelgmffmekfndaa", sum := "be1307a29a4963bdbfc2293c129d0f09ecd12ffae40cbe2bb31919b6bc190c01", func := "glacis/glacislaw01.FltProducts", spec := "fltProducts", inPlace := ["math.Float64frombits", "math.Float64bits", "math.sqrt"], apart := false, narrowed := true }
def FltProductsUptoSaid : Prop := fltProductsUptoRow.holds Try.pinned (OpenSpec.upto fltProductsSpec)

/-- 'glacislaw01.FltQuotients', WHERE WHAT IT READS IS OF BULK AT MOST 1048576: true; the input reads as it did. -/
def fltQuotientsUptoRow : OpenClaim := { program := "ytelgmffmekfndaa", sum := "be1307a29a4963bdbfc2293c129d0f09ecd12ffae40cbe2bb31919b6bc190c01", func := "glacis/glacislaw01.FltQuotients", spec := "fltQuotients", inPlace := ["math.Float64frombits", "math.Float64bits", "math.sqrt"], apart := false, narrowed := true }
def FltQuotientsUptoSaid : Prop := fltQuotientsUptoRow.holds Try.pinned (OpenSpec.upto fltQuotientsSpec)

/-- 'glacislaw01.FltInts', WHERE WHAT IT READS IS OF BULK AT MOST 1048576: true; the input reads as it did. -/
def fltIntsUptoRow : OpenClaim := { program := "ytelgmffmekfndaa", sum := "be1307a29a4963bdbfc2293c129d0f09ecd12ffae40cbe2bb31919b6bc190c01", func := "glacis/glacislaw01.FltInts", spec := "fltInts", inPlace := ["math.Float64frombits", "math.Float64bits", "math.sqrt"], apart := false, narrowed := true }
def FltIntsUptoSaid : Prop := fltIntsUptoRow.holds Try.pinned (OpenSpec.upto fltIntsSpec)

/-- 'glacislaw01.FltOrder', WHERE WHAT IT READS IS OF BULK AT MOST 1048576: true; the input reads as it did. -/
def fltOrderUptoRow : OpenClaim := { program := "ytelgmffmekfndaa", sum := "be1307a29a4963bdbfc2293c129d0f09ecd12ffae40cbe2bb31919b6bc190c01", func := "glacis/glacislaw01.FltOrder", spec := "fltOrder", inPlace := ["math.Float64frombits", "math.Float64bits", "math.sqrt"], apart := false, narrowed := true }
def FltOrderUptoSaid : Prop := fltOrderUptoRow.holds Try.pinned (OpenSpec.upto fltOrderSpec)

/-- 'glacislaw01.FltWhole', WHERE WHAT IT READS IS OF BULK AT MOST 1048576: true; the input reads as it did. -/
def fltWholeUptoRow : OpenClaim := { program := "ytelgmffmekfndaa", sum := "be1307a29a4963bdbfc2293c129d0f09ecd12ffae40cbe2bb31919b6bc190c01", func := "glacis/glacislaw01.FltWhole", spec := "fltWhole", inPlace := ["math.Float64frombits", "math.Float64bits", "math.sqrt"], apart := false, narrowed := true }
def FltWholeUptoSaid : Prop := fltWholeUptoRow.holds Try.pinned (OpenSpec.upto fltWholeSpec)

/-- 'glacislaw01.FltRises', WHERE WHAT IT READS IS OF BULK AT MOST 1048576: true; the input reads as it did. -/
def fltRisesUptoRow : OpenClaim := { program := "ytelgmffmekfndaa", sum := "be1307a29a4963bdbfc2293c129d0f09ecd12ffae40cbe2bb31919b6bc190c01", func := "glacis/glacislaw01.FltRises", spec := "fltRises", inPlace := ["math.Float64frombits", "math.Float64bits", "math.sqrt"], unfollowed := true, recurses := true, apart := false, narrowed := true }
def FltRisesUptoSaid : Prop := fltRisesUptoRow.holds Try.pinned (OpenSpec.upto fltRisesSpec)

/-- 'glacislaw01.FltSigns', WHERE WHAT IT READS IS OF BULK AT MOST 1048576: true; the input reads as it did. -/
def fltSignsUptoRow : OpenClaim := { program := "ytelgmffmekfndaa", sum := "be1307a29a4963bdbfc2293c129d0f09ecd12ffae40cbe2bb31919b6bc190c01", func := "glacis/glacislaw01.FltSigns", spec := "fltSigns", inPlace := ["math.Float64frombits", "math.Float64bits", "math.sqrt"], apart := false, narrowed := true }
def FltSignsUptoSaid : Prop := fltSignsUptoRow.holds Try.pinned (OpenSpec.upto fltSignsSpec)

/-- 'glacislaw05.AluReckons', WHERE WHAT IT READS IS OF BULK AT MOST 1048576: true; the input reads as it did. -/
def aluReckonsUptoRow : OpenClaim := { program := "ytelgmffmekfndaa", sum := "be1307a29a4963bdbfc2293c129d0f09ecd12ffae40cbe2bb31919b6bc190c01", func := "glacis/glacislaw05.AluReckons", spec := "aluReckons", inPlace := ["math.Float64frombits", "math.Float64bits", "math.sqrt"], apart := false, narrowed := true }
def AluReckonsUptoSaid : Prop := aluReckonsUptoRow.holds Try.pinned (OpenSpec.upto aluReckonsSpec)

/-- 'glacislaw05.AluQuotients', WHERE WHAT IT READS IS OF BULK AT MOST 1048576: true; the input reads as it did. -/
def aluQuotientsUptoRow : OpenClaim := { program := "ytelgmffmekfndaa", sum := "be1307a29a4963bdbfc2293c129d0f09ecd12ffae40cbe2bb31919b6bc190c01", func := "glacis/glacislaw05.AluQuotients", spec := "aluQuotients", inPlace := ["math.Float64frombits", "math.Float64bits", "math.sqrt"], unfollowed := true, recurses := true, apart := false, narrowed := true }
def AluQuotientsUptoSaid : Prop := aluQuotientsUptoRow.holds Try.pinned (OpenSpec.upto aluQuotientsSpec)

/-- 'glacislaw05.AluShifts', WHERE WHAT IT READS IS OF BULK AT MOST 1048576: true; the input reads as it did. -/
def aluShiftsUptoRow : OpenClaim := { program := "ytelgmffmekfndaa", sum := "be1307a29a4963bdbfc2293c129d0f09ecd12ffae40cbe2bb31919b6bc190c01", func := "glacis/glacislaw05.AluShifts", spec := "aluShifts", inPlace := ["math.Float64frombits", "math.Float64bits", "math.sqrt"], unfollowed := true, recurses := true, apart := false, narrowed := true }
def AluShiftsUptoSaid : Prop := aluShiftsUptoRow.holds Try.pinned (OpenSpec.upto aluShiftsSpec)

/-- 'glacislaw05.AluBits', WHERE WHAT IT READS IS OF BULK AT MOST 1048576: true; the input reads as it did. -/
def aluBitsUptoRow : OpenClaim := { program := "ytelgmffmekfndaa", sum := "be1307a29a4963bdbfc2293c129d0f09ecd12ffae40cbe2bb31919b6bc190c01", func := "glacis/glacislaw05.AluBits", spec := "aluBits", inPlace := ["math.Float64frombits", "math.Float64bits", "math.sqrt"], unfollowed := true, recurses := true, apart := false, narrowed := true }
def AluBitsUptoSaid : Prop := aluBitsUptoRow.holds Try.pinned (OpenSpec.upto aluBitsSpec)

/-- 'glacislaw05.AluOrder', WHERE WHAT IT READS IS OF BULK AT MOST 1048576: true; the input reads as it did. -/
def aluOrderUptoRow : OpenClaim := { program := "ytelgmffmekfndaa", sum := "be1307a29a4963bdbfc2293c129d0f09ecd12ffae40cbe2bb31919b6bc190c01", func := "glacis/glacislaw05.AluOrder", spec := "aluOrder", inPlace := ["math.Float64frombits", "math.Float64bits", "math.sqrt"], unfollowed := true, recurses := true, apart := false, narrowed := true }
def AluOrderUptoSaid : Prop := aluOrderUptoRow.holds Try.pinned (OpenSpec.upto aluOrderSpec)

/-- 'glacislaw05.AluTakes', WHERE WHAT IT READS IS OF BULK AT MOST 1048576: true; the input reads as it did. -/
def aluTakesUptoRow : OpenClaim := { program := "ytelgmffmekfndaa", sum := "be1307a29a4963bdbfc2293c129d0f09ecd12ffae40cbe2bb31919b6bc190c01", func := "glacis/glacislaw05.AluTakes", spec := "aluTakes", inPlace := ["math.Float64frombits", "math.Float64bits", "math.sqrt"], apart := false, narrowed := true }
def AluTakesUptoSaid : Prop := aluTakesUptoRow.holds Try.pinned (OpenSpec.upto aluTakesSpec)

/-- 'glacislaw09.CoreSteps', WHERE WHAT IT READS IS OF BULK AT MOST 1048576: true; the input reads as it did. -/
def coreStepsUptoRow : OpenClaim := { program := "ytelgmffmekfndaa", sum := "be1307a29a4963bdbfc2293c129d0f09ecd12ffae40cbe2bb31919b6bc190c01", func := "glacis/glacislaw09.CoreSteps", spec := "coreSteps", inPlace := ["math.Float64frombits", "math.Float64bits", "math.sqrt"], unfollowed := true, recurses := true, apart := false, narrowed := true }
def CoreStepsUptoSaid : Prop := coreStepsUptoRow.holds Try.pinned (OpenSpec.upto coreStepsSpec)

/-- 'glacislaw09.CoreEnds', WHERE WHAT IT READS IS OF BULK AT MOST 1048576: true; the input reads as it did. -/
def coreEndsUptoRow : OpenClaim := { program := "ytelgmffmekfndaa", sum := "be1307a29a4963bdbfc2293c129d0f09ecd12ffae40cbe2bb31919b6bc190c01", func := "glacis/glacislaw09.CoreEnds", spec := "coreEnds", inPlace := ["math.Float64frombits", "math.Float64bits", "math.sqrt"], unfollowed := true, recurses := true, apart := false, narrowed := true }
def CoreEndsUptoSaid : Prop := coreEndsUptoRow.holds Try.pinned (OpenSpec.upto coreEndsSpec)

/-- 'glacislaw09.CoreLoops', WHERE WHAT IT READS IS OF BULK AT MOST 1048576: true; the input reads as it did. -/
def coreLoopsUptoRow : OpenClaim := { program := "ytelgmffmekfndaa", sum := "be1307a29a4963bdbfc2293c129d0f09ecd12ffae40cbe2bb31919b6bc190c01", func := "glacis/glacislaw09.CoreLoops", spec := "coreLoops", inPlace := ["math.Float64frombits", "math.Float64bits", "math.sqrt"], unfollowed := true, recurses := true, apart := false, narrowed := true }
def CoreLoopsUptoSaid : Prop := coreLoopsUptoRow.holds Try.pinned (OpenSpec.upto coreLoopsSpec)

/-- 'glacislaw09.CoreMoves', WHERE WHAT IT READS IS OF BULK AT MOST 1048576: true; the input reads as it did. -/
def coreMovesUptoRow : OpenClaim := { program := "ytelgmffmekfndaa", sum := "be1307a29a4963bdbfc2293c129d0f09ecd12ffae40cbe2bb31919b6bc190c01", func := "glacis/glacislaw09.CoreMoves", spec := "coreMoves", inPlace := ["math.Float64frombits", "math.Float64bits", "math.sqrt"], unfollowed := true, recurses := true, apart := false, narrowed := true }
def CoreMovesUptoSaid : Prop := coreMovesUptoRow.holds Try.pinned (OpenSpec.upto coreMovesSpec)

end Rows
end Go.Proofs.Ytelgmffmekfndaa
