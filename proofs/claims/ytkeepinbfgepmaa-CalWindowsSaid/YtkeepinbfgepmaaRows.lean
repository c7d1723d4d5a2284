/-
  No cell of these rows narrows 'for every input' (looked for: loops, veiled, ifaces, maps, wideKeys, modest, calm, conditions, laid).
  DERIVED. THE GIVEN ROWS OF THIS SEAT. 13 by the template 'for every input the law returns true; each argument reads behind the call as it read before'; 0 by the template 'total and deterministic' (their statements: YtkeepinbfgepmaaTotals.lean).
  GIVEN WITH THE SEED: the statements are not yours to turn. If you find one false, say at which input.
  Laid BY PROGRAM, IN A SANDBOX (cutbox-rows.mjs): the forced cells as the released guide's own fill.sh prints them over the translation 277d5c1045a81de5… (all of the seat's roots in one cut). By AI agents, Wed Nov 11 2026. No macro, syntax, notation, axiom, sorry.
-/
import Derived.Test.YtkeepinbfgepmaaChecked
import GoSem.Claim
import GoSem.ClaimJoined
import GoSem.ClaimMapViews
import Derived.JoinedTies
import Derived.KernelRfl
namespace Go.Proofs.Ytkeepinbfgepmaa
/- THE CELL 'sum', in the pinned program and in every row, IS THE sha256 OF THE DUMP (.gsa) THAT YtkeepinbfgepmaaProg.lean LOADS. Nothing in Lean hashes anything: it is a label: what it is worth is what the hold of that sum in a sandbox is worth. -/
noncomputable def Try.pinned : Pinned := { name := "ytkeepinbfgepmaa", sum := "277d5c1045a81de5a7023eda5a85e2b805dd50ec76d788ffd884fa5e4c39a764", checked := Try.checked }
namespace Rows
def none {H : Type} : Left H := { results := [], args := [] }

/-- 'varvelaw06.FnvOf': WHATEVER THE INPUT: true; the input reads as it did. -/
def fnvOfSpec : ChangeSpec := { name := "fnvOf", fn := fun _ => fun
  | [d1, d2] => { results := [.lit (.bool true)], args := [d1, d2] }
  | _ => none }
def fnvOfRow : OpenClaim := { program := "ytkeepinbfgepmaa", sum := "277d5c1045a81de5a7023eda5a85e2b805dd50ec76d788ffd884fa5e4c39a764", func := "varve/varvelaw06.FnvOf", spec := "fnvOf", apart := false }
def FnvOfSaid : Prop := fnvOfRow.holds Try.pinned (OpenSpec.ofChange fnvOfSpec)

/-- ITS FALSE NEIGHBOUR: 'it returns false'. Refute it at one input. -/
def fnvOfWrong : ChangeSpec := { name := "fnvOf", fn := fun _ => fun
  | [d1, d2] => { results := [.lit (.bool false)], args := [d1, d2] }
  | _ => none }
def FnvOfWrongFalsely : Prop := fnvOfRow.holds Try.pinned (OpenSpec.ofChange fnvOfWrong)

/-- 'varvelaw06.FnvParts': WHATEVER THE INPUT: true; the input reads as it did. -/
def fnvPartsSpec : ChangeSpec := { name := "fnvParts", fn := fun _ => fun
  | [d1, d2] => { results := [.lit (.bool true)], args := [d1, d2] }
  | _ => none }
def fnvPartsRow : OpenClaim := { program := "ytkeepinbfgepmaa", sum := "277d5c1045a81de5a7023eda5a85e2b805dd50ec76d788ffd884fa5e4c39a764", func := "varve/varvelaw06.FnvParts", spec := "fnvParts", apart := false }
def FnvPartsSaid : Prop := fnvPartsRow.holds Try.pinned (OpenSpec.ofChange fnvPartsSpec)

/-- ITS FALSE NEIGHBOUR: 'it returns false'. Refute it at one input. -/
def fnvPartsWrong : ChangeSpec := { name := "fnvParts", fn := fun _ => fun
  | [d1, d2] => { results := [.lit (.bool false)], args := [d1, d2] }
  | _ => none }
def FnvPartsWrongFalsely : Prop := fnvPartsRow.holds Try.pinned (OpenSpec.ofChange fnvPartsWrong)

/-- 'varvelaw06.FnvLast': WHATEVER THE INPUT: true; the input reads as it did. -/
def fnvLastSpec : ChangeSpec := { name := "fnvLast", fn := fun _ => fun
  | [d1, d2, d3] => { results := [.lit (.bool true)], args := [d1, d2, d3] }
  | _ => none }
def fnvLastRow : OpenClaim := { program := "ytkeepinbfgepmaa", sum := "277d5c1045a81de5a7023eda5a85e2b805dd50ec76d788ffd884fa5e4c39a764", func := "varve/varvelaw06.FnvLast", spec := "fnvLast", apart := false }
def FnvLastSaid : Prop := fnvLastRow.holds Try.pinned (OpenSpec.ofChange fnvLastSpec)

/-- ITS FALSE NEIGHBOUR: 'it returns false'. Refute it at one input. -/
def fnvLastWrong : ChangeSpec := { name := "fnvLast", fn := fun _ => fun
  | [d1, d2, d3] => { results := [.lit (.bool false)], args := [d1, d2, d3] }
  | _ => none }
def FnvLastWrongFalsely : Prop := fnvLastRow.holds Try.pinned (OpenSpec.ofChange fnvLastWrong)

/-- 'varvelaw06.FnvEach': WHATEVER THE INPUT: true; the input reads as it did. -/
def fnvEachSpec : ChangeSpec := { name := "fnvEach", fn := fun _ => fun
  | [d1, d2] => { results := [.lit (.bool true)], args := [d1, d2] }
  | _ => none }
def fnvEachRow : OpenClaim := { program := "ytkeepinbfgepmaa", sum := "277d5c1045a81de5a7023eda5a85e2b805dd50ec76d788ffd884fa5e4c39a764", func := "varve/varvelaw06.FnvEach", spec := "fnvEach", unfollowed := true, recurses := true, apart := false }
def FnvEachSaid : Prop := fnvEachRow.holds Try.pinned (OpenSpec.ofChange fnvEachSpec)

/-- ITS FALSE NEIGHBOUR: 'it returns false'. Refute it at one input. -/
def fnvEachWrong : ChangeSpec := { name := "fnvEach", fn := fun _ => fun
  | [d1, d2] => { results := [.lit (.bool false)], args := [d1, d2] }
  | _ => none }
def FnvEachWrongFalsely : Prop := fnvEachRow.holds Try.pinned (OpenSpec.ofChange fnvEachWrong)

/-- 'varvelaw15.CalLevels': WHATEVER THE INPUT: true; the input reads as it did. -/
def calLevelsSpec : ChangeSpec := { name := "calLevels", fn := fun _ => fun
  | [d1, d2, d3, d4] => { results := [.lit (.bool true)], args := [d1, d2, d3, d4] }
  | _ => none }
def calLevelsRow : OpenClaim := { program := "ytkeepinbfgepmaa", sum := "277d5c1045a81de5a7023eda5a85e2b805dd50ec76d788ffd884fa5e4c39a764", func := "varve/varvelaw15.CalLevels", spec := "calLevels", apart := false }
def CalLevelsSaid : Prop := calLevelsRow.holds Try.pinned (OpenSpec.ofChange calLevelsSpec)

/-- ITS FALSE NEIGHBOUR: 'it returns false'. Refute it at one input. -/
def calLevelsWrong : ChangeSpec := { name := "calLevels", fn := fun _ => fun
  | [d1, d2, d3, d4] => { results := [.lit (.bool false)], args := [d1, d2, d3, d4] }
  | _ => none }
def CalLevelsWrongFalsely : Prop := calLevelsRow.holds Try.pinned (OpenSpec.ofChange calLevelsWrong)

/-- 'varvelaw15.CalRises': WHATEVER THE INPUT: true; the input reads as it did. -/
def calRisesSpec : ChangeSpec := { name := "calRises", fn := fun _ => fun
  | [d1, d2, d3, d4, d5] => { results := [.lit (.bool true)], args := [d1, d2, d3, d4, d5] }
  | _ => none }
def calRisesRow : OpenClaim := { program := "ytkeepinbfgepmaa", sum := "277d5c1045a81de5a7023eda5a85e2b805dd50ec76d788ffd884fa5e4c39a764", func := "varve/varvelaw15.CalRises", spec := "calRises", apart := false }
def CalRisesSaid : Prop := calRisesRow.holds Try.pinned (OpenSpec.ofChange calRisesSpec)

/-- ITS FALSE NEIGHBOUR: 'it returns false'. Refute it at one input. -/
def calRisesWrong : ChangeSpec := { name := "calRises", fn := fun _ => fun
  | [d1, d2, d3, d4, d5] => { results := [.lit (.bool false)], args := [d1, d2, d3, d4, d5] }
  | _ => none }
def CalRisesWrongFalsely : Prop := calRisesRow.holds Try.pinned (OpenSpec.ofChange calRisesWrong)

/-- 'varvelaw15.CalDays': WHATEVER THE INPUT: true; the input reads as it did. -/
def calDaysSpec : ChangeSpec := { name := "calDays", fn := fun _ => fun
  | [d1, d2, d3] => { results := [.lit (.bool true)], args := [d1, d2, d3] }
  | _ => none }
def calDaysRow : OpenClaim := { program := "ytkeepinbfgepmaa", sum := "277d5c1045a81de5a7023eda5a85e2b805dd50ec76d788ffd884fa5e4c39a764", func := "varve/varvelaw15.CalDays", spec := "calDays", apart := false }
def CalDaysSaid : Prop := calDaysRow.holds Try.pinned (OpenSpec.ofChange calDaysSpec)

/-- ITS FALSE NEIGHBOUR: 'it returns false'. Refute it at one input. -/
def calDaysWrong : ChangeSpec := { name := "calDays", fn := fun _ => fun
  | [d1, d2, d3] => { results := [.lit (.bool false)], args := [d1, d2, d3] }
  | _ => none }
def CalDaysWrongFalsely : Prop := calDaysRow.holds Try.pinned (OpenSpec.ofChange calDaysWrong)

/-- 'varvelaw15.CalLasts': WHATEVER THE INPUT: true; the input reads as it did. -/
def calLastsSpec : ChangeSpec := { name := "calLasts", fn := fun _ => fun
  | [d1, d2, d3] => { results := [.lit (.bool true)], args := [d1, d2, d3] }
  | _ => none }
def calLastsRow : OpenClaim := { program := "ytkeepinbfgepmaa", sum := "277d5c1045a81de5a7023eda5a85e2b805dd50ec76d788ffd884fa5e4c39a764", func := "varve/varvelaw15.CalLasts", spec := "calLasts", apart := false }
def CalLastsSaid : Prop := calLastsRow.holds Try.pinned (OpenSpec.ofChange calLastsSpec)

/-- ITS FALSE NEIGHBOUR: 'it returns false'. Refute it at one input. -/
def calLastsWrong : ChangeSpec := { name := "calLasts", fn := fun _ => fun
  | [d1, d2, d3] => { results := [.lit (.bool false)], args := [d1, d2, d3] }
  | _ => none }
def CalLastsWrongFalsely : Prop := calLastsRow.holds Try.pinned (OpenSpec.ofChange calLastsWrong)

/-- 'varvelaw15.CalCoarse': WHATEVER THE INPUT: true; the input reads as it did. -/
def calCoarseSpec : ChangeSpec := { name := "calCoarse", fn := fun _ => fun
  | [d1, d2] => { results := [.lit (.bool true)], args := [d1, d2] }
  | _ => none }
def calCoarseRow : OpenClaim := { program := "ytkeepinbfgepmaa", sum := "277d5c1045a81de5a7023eda5a85e2b805dd50ec76d788ffd884fa5e4c39a764", func := "varve/varvelaw15.CalCoarse", spec := "calCoarse", apart := false }
def CalCoarseSaid : Prop := calCoarseRow.holds Try.pinned (OpenSpec.ofChange calCoarseSpec)

/-- ITS FALSE NEIGHBOUR: 'it returns false'. Refute it at one input. -/
def calCoarseWrong : ChangeSpec := { name := "calCoarse", fn := fun _ => fun
  | [d1, d2] => { results := [.lit (.bool false)], args := [d1, d2] }
  | _ => none }
def CalCoarseWrongFalsely : Prop := calCoarseRow.holds Try.pinned (OpenSpec.ofChange calCoarseWrong)

/-- 'varvelaw15.CalFloors': WHATEVER THE INPUT: true; the input reads as it did. -/
def calFloorsSpec : ChangeSpec := { name := "calFloors", fn := fun _ => fun
  | [d1, d2] => { results := [.lit (.bool true)], args := [d1, d2] }
  | _ => none }
def calFloorsRow : OpenClaim := { program := "ytkeepinbfgepmaa", sum := "277d5c1045a81de5a7023eda5a85e2b805dd50ec76d788ffd884fa5e4c39a764", func := "varve/varvelaw15.CalFloors", spec := "calFloors", apart := false }
def CalFloorsSaid : Prop := calFloorsRow.holds Try.pinned (OpenSpec.ofChange calFloorsSpec)

/-- ITS FALSE NEIGHBOUR: 'it returns false'. Refute it at one input. -/
def calFloorsWrong : ChangeSpec := { name := "calFloors", fn := fun _ => fun
  | [d1, d2] => { results := [.lit (.bool false)], args := [d1, d2] }
  | _ => none }
def CalFloorsWrongFalsely : Prop := calFloorsRow.holds Try.pinned (OpenSpec.ofChange calFloorsWrong)

/-- 'varvelaw15.CalNests': WHATEVER THE INPUT: true; the input reads as it did. -/
def calNestsSpec : ChangeSpec := { name := "calNests", fn := fun _ => fun
  | [d1, d2, d3] => { results := [.lit (.bool true)], args := [d1, d2, d3] }
  | _ => none }
def calNestsRow : OpenClaim := { program := "ytkeepinbfgepmaa", sum := "277d5c1045a81de5a7023eda5a85e2b805dd50ec76d788ffd884fa5e4c39a764", func := "varve/varvelaw15.CalNests", spec := "calNests", apart := false }
def CalNestsSaid : Prop := calNestsRow.holds Try.pinned (OpenSpec.ofChange calNestsSpec)

/-- ITS FALSE NEIGHBOUR: 'it returns false'. Refute it at one input. -/
def calNestsWrong : ChangeSpec := { name := "calNests", fn := fun _ => fun
  | [d1, d2, d3] => { results := [.lit (.bool false)], args := [d1, d2, d3] }
  | _ => none }
def CalNestsWrongFalsely : Prop := calNestsRow.holds Try.pinned (OpenSpec.ofChange calNestsWrong)

/-- 'varvelaw15.CalChecks': WHATEVER THE INPUT: true; the input reads as it did. -/
def calChecksSpec : ChangeSpec := { name := "calChecks", fn := fun _ => fun
  | [d1, d2] => { results := [.lit (.bool true)], args := [d1, d2] }
  | _ => none }
def calChecksRow : OpenClaim := { program := "ytkeepinbfgepmaa", sum := "277d5c1045a81de5a7023eda5a85e2b805dd50ec76d788ffd884fa5e4c39a764", func := "varve/varvelaw15.CalChecks", spec := "calChecks", apart := false }
def CalChecksSaid : Prop := calChecksRow.holds Try.pinned (OpenSpec.ofChange calChecksSpec)

/-- ITS FALSE NEIGHBOUR: 'it returns false'. Refute it at one input. -/
def calChecksWrong : ChangeSpec := { name := "calChecks", fn := fun _ => fun
  | [d1, d2] => { results := [.lit (.bool false)], args := [d1, d2] }
  | _ => none }
def CalChecksWrongFalsely : Prop := calChecksRow.holds Try.pinned (OpenSpec.ofChange calChecksWrong)

/-- 'varvelaw15.CalWindows': WHATEVER THE INPUT: true; the input reads as it did. -/
def calWindowsSpec : ChangeSpec := { name := "calWindows", fn := fun _ => fun
  | [d1, d2, d3, d4] => { results := [.lit (.bool true)], args := [d1, d2, d3, d4] }
  | _ => none }
def calWindowsRow : OpenClaim := { program := "ytkeepinbfgepmaa", sum := "277d5c1045a81de5a7023eda5a85e2b805dd50ec76d788ffd884fa5e4c39a764", func := "varve/varvelaw15.CalWindows", spec := "calWindows", unfollowed := true, recurses := true, apart := false }
def CalWindowsSaid : Prop := calWindowsRow.holds Try.pinned (OpenSpec.ofChange calWindowsSpec)

/-- ITS FALSE NEIGHBOUR: 'it returns false'. Refute it at one input. -/
def calWindowsWrong : ChangeSpec := { name := "calWindows", fn := fun _ => fun
  | [d1, d2, d3, d4] => { results := [.lit (.bool false)], args := [d1, d2, d3, d4] }
  | _ => none }
def CalWindowsWrongFalsely : Prop := calWindowsRow.holds Try.pinned (OpenSpec.ofChange calWindowsWrong)

/- THE SECOND FORM. 'bulk': how many values and letters a reading holds, each counted each time it is reached (what is shared counts as often as it is met; a slice's spare places count too). A statement '..UptoSaid' is the law's where the arguments, and the package variables that the reading takes, are together of bulk at most 1048576: NARROWER than '..Said'. Prove '..Said' where nothing that the law and all that it calls make is longer than what came in: it says more and counts as full. Else prove '..UptoSaid'. A law counts once. -/
mutual
def uptoBulk {H : Type} : DataW H → Nat
  | .lit (.string bytes) => bytes.length + 1
  | .lit _ => 1
  | .nil => 1
  | .ptr d => uptoBulk d + 1
  | .slice elems spare => uptoBulkAll elems + uptoBulkAll spare + 1
  | .agg parts => uptoBulkAll parts + 1
  | .iface _ d => uptoBulk d + 1
  | .map entries => uptoBulkEntries entries + 1
  | .held _ => 1
def uptoBulkAll {H : Type} : List (DataW H) → Nat
  | [] => 0
  | d :: r => uptoBulk d + uptoBulkAll r
def uptoBulkEntries {H : Type} : List (Lit × DataW H) → Nat
  | [] => 0
  | x :: r => uptoBulkEntry x + uptoBulkEntries r
def uptoBulkEntry {H : Type} : Lit × DataW H → Nat
  | (.string bytes, d) => bytes.length + uptoBulk d + 1
  | (_, d) => uptoBulk d + 1
 end
def uptoSmall : (H : Type) → List (DataW H) → Bool := fun _ ds => decide (uptoBulkAll ds ≤ 1048576)
def OpenSpec.upto (s : _root_.Go.ChangeSpec) : _root_.Go.OpenSpec := { _root_.Go.OpenSpec.ofChange s with cond := some uptoSmall }

/-- 'varvelaw06.FnvOf', WHERE WHAT IT READS IS OF BULK AT MOST 1048576: true; the input reads as it did. -/
def fnvOfUptoRow : OpenClaim := { program := "ytkeepinbfgepmaa", sum := "277d5c1045a81de5a7023eda5a85e2b805dd50ec76d788ffd884fa5e4c39a764", func := "varve/varvelaw06.FnvOf", spec := "fnvOf", apart := false, narrowed := true }
def FnvOfUptoSaid : Prop := fnvOfUptoRow.holds Try.pinned (OpenSpec.upto fnvOfSpec)

/-- 'varvelaw06.FnvParts', WHERE WHAT IT READS IS OF BULK AT MOST 1048576: true; the input reads as it did. -/
def fnvPartsUptoRow : OpenClaim := { program := "ytkeepinbfgepmaa", sum := "277d5c1045a81de5a7023eda5a85e2b805dd50ec76d788ffd884fa5e4c39a764", func := "varve/varvelaw06.FnvParts", spec := "fnvParts", apart := false, narrowed := true }
def FnvPartsUptoSaid : Prop := fnvPartsUptoRow.holds Try.pinned (OpenSpec.upto fnvPartsSpec)

/-- 'varvelaw06.FnvLast', WHERE WHAT IT READS IS OF BULK AT MOST 1048576: true; the input reads as it did. -/
def fnvLastUptoRow : OpenClaim := { program := "ytkeepinbfgepmaa", sum := "277d5c1045a81de5a7023eda5a85e2b805dd50ec76d788ffd884fa5e4c39a764", func := "varve/varvelaw06.FnvLast", spec := "fnvLast", apart := false, narrowed := true }
def FnvLastUptoSaid : Prop := fnvLastUptoRow.holds Try.pinned (OpenSpec.upto fnvLastSpec)

/-- 'varvelaw06.FnvEach', WHERE WHAT IT READS IS OF BULK AT MOST 1048576: true; the input reads as it did. -/
def fnvEachUptoRow : OpenClaim := { program := "ytkeepinbfgepmaa", sum := "277d5c1045a81de5a7023eda5a85e2b805dd50ec76d788ffd884fa5e4c39a764", func := "varve/varvelaw06.FnvEach", spec := "fnvEach", unfollowed := true, recurses := true, apart := false, narrowed := true }
def FnvEachUptoSaid : Prop := fnvEachUptoRow.holds Try.pinned (OpenSpec.upto fnvEachSpec)

/-- 'varvelaw15.CalLevels', WHERE WHAT IT READS IS OF BULK AT MOST 1048576: true; the input reads as it did. -/
def calLevelsUptoRow : OpenClaim := { program := "ytkeepinbfgepmaa", sum := "277d5c1045a81de5a7023eda5a85e2b805dd50ec76d788ffd884fa5e4c39a764", func := "varve/varvelaw15.CalLevels", spec := "calLevels", apart := false, narrowed := true }
def CalLevelsUptoSaid : Prop := calLevelsUptoRow.holds Try.pinned (OpenSpec.upto calLevelsSpec)

/-- 'varvelaw15.CalRises', WHERE WHAT IT READS IS OF BULK AT MOST 1048576: true; the input reads as it did. -/
def calRisesUptoRow : OpenClaim := { program := "ytkeepinbfgepmaa", sum := "277d5c1045a81de5a7023eda5a85e2b805dd50ec76d788ffd884fa5e4c39a764", func := "varve/varvelaw15.CalRises", spec := "calRises", apart := false, narrowed := true }
def CalRisesUptoSaid : Prop := calRisesUptoRow.holds Try.pinned (OpenSpec.upto calRisesSpec)

/-- 'varvelaw15.CalDays', WHERE WHAT IT READS IS OF BULK AT MOST 1048576: true; the input reads as it did. -/
def calDaysUptoRow : OpenClaim := { program := "ytkeepinbfgepmaa", sum := "277d5c1045a81de5a7023eda5a85e2b805dd50ec76d788ffd884fa5e4c39a764", func := "varve/varvelaw15.CalDays", spec := "calDays", apart := false, narrowed := true }
def CalDaysUptoSaid : Prop := calDaysUptoRow.holds Try.pinned (OpenSpec.upto calDaysSpec)

/-- 'varvelaw15.CalLasts', WHERE WHAT IT READS IS OF BULK AT MOST 1048576: true; the input reads as it did. -/
def calLastsUptoRow : OpenClaim := { program := "ytkeepinbfgepmaa", sum := "277d5c1045a81de5a7023eda5a85e2b805dd50ec76d788ffd884fa5e4c39a764", func := "varve/varvelaw15.CalLasts", spec := "calLasts", apart := false, narrowed := true }
def CalLastsUptoSaid : Prop := calLastsUptoRow.holds Try.pinned (OpenSpec.upto calLastsSpec)

/-- 'varvelaw15.CalCoarse', WHERE WHAT IT READS IS OF BULK AT MOST 1048576: true; the input reads as it did. -/
def calCoarseUptoRow : OpenClaim := { program := "ytkeepinbfgepmaa", sum := "277d5c1045a81de5a7023eda5a85e2b805dd50ec76d788ffd884fa5e4c39a764", func := "varve/varvelaw15.CalCoarse", spec := "calCoarse", apart := false, narrowed := true }
def CalCoarseUptoSaid : Prop := calCoarseUptoRow.holds Try.pinned (OpenSpec.upto calCoarseSpec)

/-- 'varvelaw15.CalFloors', WHERE WHAT IT READS IS OF BULK AT MOST 1048576: true; the input reads as it did. -/
def calFloorsUptoRow : OpenClaim := { program := "ytkeepinbfgepmaa", sum := "277d5c1045a81de5a7023eda5a85e2b805dd50ec76d788ffd884fa5e4c39a764", func := "varve/varvelaw15.CalFloors", spec := "calFloors", apart := false, narrowed := true }
def CalFloorsUptoSaid : Prop := calFloorsUptoRow.holds Try.pinned (OpenSpec.upto calFloorsSpec)

/-- 'varvelaw15.CalNests', WHERE WHAT IT READS IS OF BULK AT MOST 1048576: true; the input reads as it did. -/
def calNestsUptoRow : OpenClaim := { program := "ytkeepinbfgepmaa", sum := "277d5c1045a81de5a7023eda5a85e2b805dd50ec76d788ffd884fa5e4c39a764", func := "varve/varvelaw15.CalNests", spec := "calNests", apart := false, narrowed := true }
def CalNestsUptoSaid : Prop := calNestsUptoRow.holds Try.pinned (OpenSpec.upto calNestsSpec)

/-- 'varvelaw15.CalChecks', WHERE WHAT IT READS IS OF BULK AT MOST 1048576: true; the input reads as it did. -/
def calChecksUptoRow : OpenClaim := { program := "ytkeepinbfgepmaa", sum := "277d5c1045a81de5a7023eda5a85e2b805dd50ec76d788ffd884fa5e4c39a764", func := "varve/varvelaw15.CalChecks", spec := "calChecks", apart := false, narrowed := true }
def CalChecksUptoSaid : Prop := calChecksUptoRow.holds Try.pinned (OpenSpec.upto calChecksSpec)

/-- 'varvelaw15.CalWindows', WHERE WHAT IT READS IS OF BULK AT MOST 1048576: true; the input reads as it did. -/
def calWindowsUptoRow : OpenClaim := { program := "ytkeepinbfgepmaa", sum := "277d5c1045a81de5a7023eda5a85e2b805dd50ec76d788ffd884fa5e4c39a764", func := "varve/varvelaw15.CalWindows", spec := "calWindows", unfollowed := true, recurses := true, apart := false, narrowed := true }
def CalWindowsUptoSaid : Prop := calWindowsUptoRow.holds Try.pinned (OpenSpec.upto calWindowsSpec)

end Rows
end Go.Proofs.Ytkeepinbfgepmaa
