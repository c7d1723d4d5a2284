/-
  NARROWER THAN 'FOR EVERY INPUT', by the rows' own cells (each row's printed sentence says how): TombChecks: loops · TombApplies: loops · TombOrder: loops · TombPrunes: loops · TombDone: loops · MatchChecks: loops · MatchEvals: loops · MatchLaws: loops · MatchOnce: loops · MatchSame: loops · TombBytes: loops · MatchBytes: loops · MatchTexts: loops.
  DERIVED. THE GIVEN ROWS OF THIS SEAT. 28 by the template 'for every input the law returns true; each argument reads behind the call as it read before'; 0 by the template 'total and deterministic' (their statements: YteafilojjdfllaaTotals.lean).
  GIVEN WITH THE SEED: the statements are not yours to turn. If you find one false, say at which input.
  Laid BY PROGRAM, IN A SANDBOX (cutbox-rows.mjs): the forced cells as the released guide's own fill.sh prints them over the translation babb99ebc331b05c… (all of the seat's roots in one cut). By AI agents, Wed Nov 11 2026. No macro, syntax, notation, axiom, sorry.
-/
import Derived.Test.YteafilojjdfllaaChecked
import GoSem.Claim
import GoSem.ClaimJoined
import GoSem.ClaimMapViews
import Derived.JoinedTies
import Derived.KernelRfl
namespace Go.Proofs.Yteafilojjdfllaa
/- THE CELL 'sum', in the pinned program and in every row, IS THE sha256 OF THE DUMP (.gsa) THAT YteafilojjdfllaaProg.lean LOADS. Nothing in Lean hashes anything: it is a label: what it is worth is what the hold of that sum in a sandbox is worth. -/
noncomputable def Try.pinned : Pinned := { name := "yteafilojjdfllaa", sum := "babb99ebc331b05cea29d2e6d65166b6fb60960bdf2a46611f5e39d6c064c8f5", checked := Try.checked }
namespace Rows
def none {H : Type} : Left H := { results := [], args := [] }

/-- 'varvelaw19.TombChecks': WHATEVER THE INPUT: true; the input reads as it did. -/
def tombChecksSpec : ChangeSpec := { name := "tombChecks", fn := fun _ => fun
  | [d1, d2] => { results := [.lit (.bool true)], args := [d1, d2] }
  | _ => none }
def tombChecksRow : OpenClaim := { program := "yteafilojjdfllaa", sum := "babb99ebc331b05cea29d2e6d65166b6fb60960bdf2a46611f5e39d6c064c8f5", func := "varve/varvelaw19.TombChecks", spec := "tombChecks", recurses := true, loops := true, apart := false }
def TombChecksSaid : Prop := tombChecksRow.holds Try.pinned (OpenSpec.ofChange tombChecksSpec)

/-- ITS FALSE NEIGHBOUR: 'it returns false'. Refute it at one input. -/
def tombChecksWrong : ChangeSpec := { name := "tombChecks", fn := fun _ => fun
  | [d1, d2] => { results := [.lit (.bool false)], args := [d1, d2] }
  | _ => none }
def TombChecksWrongFalsely : Prop := tombChecksRow.holds Try.pinned (OpenSpec.ofChange tombChecksWrong)

/-- 'varvelaw19.TombApplies': WHATEVER THE INPUT: true; the input reads as it did. -/
def tombAppliesSpec : ChangeSpec := { name := "tombApplies", fn := fun _ => fun
  | [d1, d2, d3] => { results := [.lit (.bool true)], args := [d1, d2, d3] }
  | _ => none }
def tombAppliesRow : OpenClaim := { program := "yteafilojjdfllaa", sum := "babb99ebc331b05cea29d2e6d65166b6fb60960bdf2a46611f5e39d6c064c8f5", func := "varve/varvelaw19.TombApplies", spec := "tombApplies", recurses := true, loops := true, apart := false }
def TombAppliesSaid : Prop := tombAppliesRow.holds Try.pinned (OpenSpec.ofChange tombAppliesSpec)

/-- ITS FALSE NEIGHBOUR: 'it returns false'. Refute it at one input. -/
def tombAppliesWrong : ChangeSpec := { name := "tombApplies", fn := fun _ => fun
  | [d1, d2, d3] => { results := [.lit (.bool false)], args := [d1, d2, d3] }
  | _ => none }
def TombAppliesWrongFalsely : Prop := tombAppliesRow.holds Try.pinned (OpenSpec.ofChange tombAppliesWrong)

/-- 'varvelaw19.TombOrder': WHATEVER THE INPUT: true; the input reads as it did. -/
def tombOrderSpec : ChangeSpec := { name := "tombOrder", fn := fun _ => fun
  | [d1, d2, d3, d4] => { results := [.lit (.bool true)], args := [d1, d2, d3, d4] }
  | _ => none }
def tombOrderRow : OpenClaim := { program := "yteafilojjdfllaa", sum := "babb99ebc331b05cea29d2e6d65166b6fb60960bdf2a46611f5e39d6c064c8f5", func := "varve/varvelaw19.TombOrder", spec := "tombOrder", recurses := true, loops := true, apart := false }
def TombOrderSaid : Prop := tombOrderRow.holds Try.pinned (OpenSpec.ofChange tombOrderSpec)

/-- ITS FALSE NEIGHBOUR: 'it returns false'. Refute it at one input. -/
def tombOrderWrong : ChangeSpec := { name := "tombOrder", fn := fun _ => fun
  | [d1, d2, d3, d4] => { results := [.lit (.bool false)], args := [d1, d2, d3, d4] }
  | _ => none }
def TombOrderWrongFalsely : Prop := tombOrderRow.holds Try.pinned (OpenSpec.ofChange tombOrderWrong)

/-- 'varvelaw19.TombWhole': WHATEVER THE INPUT: true; the input reads as it did. -/
def tombWholeSpec : ChangeSpec := { name := "tombWhole", fn := fun _ => fun
  | [d1, d2] => { results := [.lit (.bool true)], args := [d1, d2] }
  | _ => none }
def tombWholeRow : OpenClaim := { program := "yteafilojjdfllaa", sum := "babb99ebc331b05cea29d2e6d65166b6fb60960bdf2a46611f5e39d6c064c8f5", func := "varve/varvelaw19.TombWhole", spec := "tombWhole", recurses := true, apart := false }
def TombWholeSaid : Prop := tombWholeRow.holds Try.pinned (OpenSpec.ofChange tombWholeSpec)

/-- ITS FALSE NEIGHBOUR: 'it returns false'. Refute it at one input. -/
def tombWholeWrong : ChangeSpec := { name := "tombWhole", fn := fun _ => fun
  | [d1, d2] => { results := [.lit (.bool false)], args := [d1, d2] }
  | _ => none }
def TombWholeWrongFalsely : Prop := tombWholeRow.holds Try.pinned (OpenSpec.ofChange tombWholeWrong)

/-- 'varvelaw19.TombPrunes': WHATEVER THE INPUT: true; the input reads as it did. -/
def tombPrunesSpec : ChangeSpec := { name := "tombPrunes", fn := fun _ => fun
  | [d1, d2] => { results := [.lit (.bool true)], args := [d1, d2] }
  | _ => none }
def tombPrunesRow : OpenClaim := { program := "yteafilojjdfllaa", sum := "babb99ebc331b05cea29d2e6d65166b6fb60960bdf2a46611f5e39d6c064c8f5", func := "varve/varvelaw19.TombPrunes", spec := "tombPrunes", recurses := true, loops := true, apart := false }
def TombPrunesSaid : Prop := tombPrunesRow.holds Try.pinned (OpenSpec.ofChange tombPrunesSpec)

/-- ITS FALSE NEIGHBOUR: 'it returns false'. Refute it at one input. -/
def tombPrunesWrong : ChangeSpec := { name := "tombPrunes", fn := fun _ => fun
  | [d1, d2] => { results := [.lit (.bool false)], args := [d1, d2] }
  | _ => none }
def TombPrunesWrongFalsely : Prop := tombPrunesRow.holds Try.pinned (OpenSpec.ofChange tombPrunesWrong)

/-- 'varvelaw19.TombDone': WHATEVER THE INPUT: true; the input reads as it did. -/
def tombDoneSpec : ChangeSpec := { name := "tombDone", fn := fun _ => fun
  | [d1, d2, d3] => { results := [.lit (.bool true)], args := [d1, d2, d3] }
  | _ => none }
def tombDoneRow : OpenClaim := { program := "yteafilojjdfllaa", sum := "babb99ebc331b05cea29d2e6d65166b6fb60960bdf2a46611f5e39d6c064c8f5", func := "varve/varvelaw19.TombDone", spec := "tombDone", recurses := true, loops := true, apart := false }
def TombDoneSaid : Prop := tombDoneRow.holds Try.pinned (OpenSpec.ofChange tombDoneSpec)

/-- ITS FALSE NEIGHBOUR: 'it returns false'. Refute it at one input. -/
def tombDoneWrong : ChangeSpec := { name := "tombDone", fn := fun _ => fun
  | [d1, d2, d3] => { results := [.lit (.bool false)], args := [d1, d2, d3] }
  | _ => none }
def TombDoneWrongFalsely : Prop := tombDoneRow.holds Try.pinned (OpenSpec.ofChange tombDoneWrong)

/-- 'varvelaw12.MatchChecks': WHATEVER THE INPUT: true; the input reads as it did. -/
def matchChecksSpec : ChangeSpec := { name := "matchChecks", fn := fun _ => fun
  | [d] => { results := [.lit (.bool true)], args := [d] }
  | _ => none }
def matchChecksRow : OpenClaim := { program := "yteafilojjdfllaa", sum := "babb99ebc331b05cea29d2e6d65166b6fb60960bdf2a46611f5e39d6c064c8f5", func := "varve/varvelaw12.MatchChecks", spec := "matchChecks", inPlace := ["internal/abi.NoEscape", "internal/bytealg.MakeNoZero"], recurses := true, loops := true, apart := false }
def MatchChecksSaid : Prop := matchChecksRow.holds Try.pinned (OpenSpec.ofChange matchChecksSpec)

/-- ITS FALSE NEIGHBOUR: 'it returns false'. Refute it at one input. -/
def matchChecksWrong : ChangeSpec := { name := "matchChecks", fn := fun _ => fun
  | [d] => { results := [.lit (.bool false)], args := [d] }
  | _ => none }
def MatchChecksWrongFalsely : Prop := matchChecksRow.holds Try.pinned (OpenSpec.ofChange matchChecksWrong)

/-- 'varvelaw12.MatchEvals': WHATEVER THE INPUT: true; the input reads as it did. -/
def matchEvalsSpec : ChangeSpec := { name := "matchEvals", fn := fun _ => fun
  | [d1, d2] => { results := [.lit (.bool true)], args := [d1, d2] }
  | _ => none }
def matchEvalsRow : OpenClaim := { program := "yteafilojjdfllaa", sum := "babb99ebc331b05cea29d2e6d65166b6fb60960bdf2a46611f5e39d6c064c8f5", func := "varve/varvelaw12.MatchEvals", spec := "matchEvals", inPlace := ["internal/abi.NoEscape", "internal/bytealg.MakeNoZero"], recurses := true, loops := true, apart := false }
def MatchEvalsSaid : Prop := matchEvalsRow.holds Try.pinned (OpenSpec.ofChange matchEvalsSpec)

/-- ITS FALSE NEIGHBOUR: 'it returns false'. Refute it at one input. -/
def matchEvalsWrong : ChangeSpec := { name := "matchEvals", fn := fun _ => fun
  | [d1, d2] => { results := [.lit (.bool false)], args := [d1, d2] }
  | _ => none }
def MatchEvalsWrongFalsely : Prop := matchEvalsRow.holds Try.pinned (OpenSpec.ofChange matchEvalsWrong)

/-- 'varvelaw12.MatchLaws': WHATEVER THE INPUT: true; the input reads as it did. -/
def matchLawsSpec : ChangeSpec := { name := "matchLaws", fn := fun _ => fun
  | [d1, d2, d3] => { results := [.lit (.bool true)], args := [d1, d2, d3] }
  | _ => none }
def matchLawsRow : OpenClaim := { program := "yteafilojjdfllaa", sum := "babb99ebc331b05cea29d2e6d65166b6fb60960bdf2a46611f5e39d6c064c8f5", func := "varve/varvelaw12.MatchLaws", spec := "matchLaws", inPlace := ["internal/abi.NoEscape", "internal/bytealg.MakeNoZero"], recurses := true, loops := true, apart := false }
def MatchLawsSaid : Prop := matchLawsRow.holds Try.pinned (OpenSpec.ofChange matchLawsSpec)

/-- ITS FALSE NEIGHBOUR: 'it returns false'. Refute it at one input. -/
def matchLawsWrong : ChangeSpec := { name := "matchLaws", fn := fun _ => fun
  | [d1, d2, d3] => { results := [.lit (.bool false)], args := [d1, d2, d3] }
  | _ => none }
def MatchLawsWrongFalsely : Prop := matchLawsRow.holds Try.pinned (OpenSpec.ofChange matchLawsWrong)

/-- 'varvelaw12.MatchLabels': WHATEVER THE INPUT: true; the input reads as it did. -/
def matchLabelsSpec : ChangeSpec := { name := "matchLabels", fn := fun _ => fun
  | [d1, d2, d3, d4] => { results := [.lit (.bool true)], args := [d1, d2, d3, d4] }
  | _ => none }
def matchLabelsRow : OpenClaim := { program := "yteafilojjdfllaa", sum := "babb99ebc331b05cea29d2e6d65166b6fb60960bdf2a46611f5e39d6c064c8f5", func := "varve/varvelaw12.MatchLabels", spec := "matchLabels", inPlace := ["internal/abi.NoEscape", "internal/bytealg.MakeNoZero"], recurses := true, apart := false }
def MatchLabelsSaid : Prop := matchLabelsRow.holds Try.pinned (OpenSpec.ofChange matchLabelsSpec)

/-- ITS FALSE NEIGHBOUR: 'it returns false'. Refute it at one input. -/
def matchLabelsWrong : ChangeSpec := { name := "matchLabels", fn := fun _ => fun
  | [d1, d2, d3, d4] => { results := [.lit (.bool false)], args := [d1, d2, d3, d4] }
  | _ => none }
def MatchLabelsWrongFalsely : Prop := matchLabelsRow.holds Try.pinned (OpenSpec.ofChange matchLabelsWrong)

/-- 'varvelaw12.MatchOnce': WHATEVER THE INPUT: true; the input reads as it did. -/
def matchOnceSpec : ChangeSpec := { name := "matchOnce", fn := fun _ => fun
  | [d1, d2, d3] => { results := [.lit (.bool true)], args := [d1, d2, d3] }
  | _ => none }
def matchOnceRow : OpenClaim := { program := "yteafilojjdfllaa", sum := "babb99ebc331b05cea29d2e6d65166b6fb60960bdf2a46611f5e39d6c064c8f5", func := "varve/varvelaw12.MatchOnce", spec := "matchOnce", inPlace := ["internal/abi.NoEscape", "internal/bytealg.MakeNoZero"], recurses := true, loops := true, apart := false }
def MatchOnceSaid : Prop := matchOnceRow.holds Try.pinned (OpenSpec.ofChange matchOnceSpec)

/-- ITS FALSE NEIGHBOUR: 'it returns false'. Refute it at one input. -/
def matchOnceWrong : ChangeSpec := { name := "matchOnce", fn := fun _ => fun
  | [d1, d2, d3] => { results := [.lit (.bool false)], args := [d1, d2, d3] }
  | _ => none }
def MatchOnceWrongFalsely : Prop := matchOnceRow.holds Try.pinned (OpenSpec.ofChange matchOnceWrong)

/-- 'varvelaw12.MatchSame': WHATEVER THE INPUT: true; the input reads as it did. -/
def matchSameSpec : ChangeSpec := { name := "matchSame", fn := fun _ => fun
  | [d1, d2] => { results := [.lit (.bool true)], args := [d1, d2] }
  | _ => none }
def matchSameRow : OpenClaim := { program := "yteafilojjdfllaa", sum := "babb99ebc331b05cea29d2e6d65166b6fb60960bdf2a46611f5e39d6c064c8f5", func := "varve/varvelaw12.MatchSame", spec := "matchSame", inPlace := ["internal/abi.NoEscape", "internal/bytealg.MakeNoZero"], recurses := true, loops := true, apart := false }
def MatchSameSaid : Prop := matchSameRow.holds Try.pinned (OpenSpec.ofChange matchSameSpec)

/-- ITS FALSE NEIGHBOUR: 'it returns false'. Refute it at one input. -/
def matchSameWrong : ChangeSpec := { name := "matchSame", fn := fun _ => fun
  | [d1, d2] => { results := [.lit (.bool false)], args := [d1, d2] }
  | _ => none }
def MatchSameWrongFalsely : Prop := matchSameRow.holds Try.pinned (OpenSpec.ofChange matchSameWrong)

/-- 'varvelaw11.LabelChecks': WHATEVER THE INPUT: true; the input reads as it did. -/
def labelChecksSpec : ChangeSpec := { name := "labelChecks", fn := fun _ => fun
  | [d1, d2] => { results := [.lit (.bool true)], args := [d1, d2] }
  | _ => none }
def labelChecksRow : OpenClaim := { program := "yteafilojjdfllaa", sum := "babb99ebc331b05cea29d2e6d65166b6fb60960bdf2a46611f5e39d6c064c8f5", func := "varve/varvelaw11.LabelChecks", spec := "labelChecks", inPlace := ["internal/bytealg.abigen_runtime_cmpstring", "internal/abi.NoEscape", "internal/bytealg.MakeNoZero"], unfollowed := true, recurses := true, apart := false }
def LabelChecksSaid : Prop := labelChecksRow.holds Try.pinned (OpenSpec.ofChange labelChecksSpec)

/-- ITS FALSE NEIGHBOUR: 'it returns false'. Refute it at one input. -/
def labelChecksWrong : ChangeSpec := { name := "labelChecks", fn := fun _ => fun
  | [d1, d2] => { results := [.lit (.bool false)], args := [d1, d2] }
  | _ => none }
def LabelChecksWrongFalsely : Prop := labelChecksRow.holds Try.pinned (OpenSpec.ofChange labelChecksWrong)

/-- 'varvelaw11.LabelMakes': WHATEVER THE INPUT: true; the input reads as it did. -/
def labelMakesSpec : ChangeSpec := { name := "labelMakes", fn := fun _ => fun
  | [d] => { results := [.lit (.bool true)], args := [d] }
  | _ => none }
def labelMakesRow : OpenClaim := { program := "yteafilojjdfllaa", sum := "babb99ebc331b05cea29d2e6d65166b6fb60960bdf2a46611f5e39d6c064c8f5", func := "varve/varvelaw11.LabelMakes", spec := "labelMakes", inPlace := ["internal/bytealg.abigen_runtime_cmpstring", "internal/abi.NoEscape", "internal/bytealg.MakeNoZero"], unfollowed := true, recurses := true, apart := false }
def LabelMakesSaid : Prop := labelMakesRow.holds Try.pinned (OpenSpec.ofChange labelMakesSpec)

/-- ITS FALSE NEIGHBOUR: 'it returns false'. Refute it at one input. -/
def labelMakesWrong : ChangeSpec := { name := "labelMakes", fn := fun _ => fun
  | [d] => { results := [.lit (.bool false)], args := [d] }
  | _ => none }
def LabelMakesWrongFalsely : Prop := labelMakesRow.holds Try.pinned (OpenSpec.ofChange labelMakesWrong)

/-- 'varvelaw11.LabelTurns': WHATEVER THE INPUT: true; the input reads as it did. -/
def labelTurnsSpec : ChangeSpec := { name := "labelTurns", fn := fun _ => fun
  | [d1, d2, d3] => { results := [.lit (.bool true)], args := [d1, d2, d3] }
  | _ => none }
def labelTurnsRow : OpenClaim := { program := "yteafilojjdfllaa", sum := "babb99ebc331b05cea29d2e6d65166b6fb60960bdf2a46611f5e39d6c064c8f5", func := "varve/varvelaw11.LabelTurns", spec := "labelTurns", inPlace := ["internal/bytealg.abigen_runtime_cmpstring", "internal/abi.NoEscape", "internal/bytealg.MakeNoZero"], unfollowed := true, recurses := true, apart := false }
def LabelTurnsSaid : Prop := labelTurnsRow.holds Try.pinned (OpenSpec.ofChange labelTurnsSpec)

/-- ITS FALSE NEIGHBOUR: 'it returns false'. Refute it at one input. -/
def labelTurnsWrong : ChangeSpec := { name := "labelTurns", fn := fun _ => fun
  | [d1, d2, d3] => { results := [.lit (.bool false)], args := [d1, d2, d3] }
  | _ => none }
def LabelTurnsWrongFalsely : Prop := labelTurnsRow.holds Try.pinned (OpenSpec.ofChange labelTurnsWrong)

/-- 'varvelaw11.LabelValues': WHATEVER THE INPUT: true; the input reads as it did. -/
def labelValuesSpec : ChangeSpec := { name := "labelValues", fn := fun _ => fun
  | [d1, d2] => { results := [.lit (.bool true)], args := [d1, d2] }
  | _ => none }
def labelValuesRow : OpenClaim := { program := "yteafilojjdfllaa", sum := "babb99ebc331b05cea29d2e6d65166b6fb60960bdf2a46611f5e39d6c064c8f5", func := "varve/varvelaw11.LabelValues", spec := "labelValues", inPlace := ["internal/bytealg.abigen_runtime_cmpstring", "internal/abi.NoEscape", "internal/bytealg.MakeNoZero"], unfollowed := true, recurses := true, apart := false }
def LabelValuesSaid : Prop := labelValuesRow.holds Try.pinned (OpenSpec.ofChange labelValuesSpec)

/-- ITS FALSE NEIGHBOUR: 'it returns false'. Refute it at one input. -/
def labelValuesWrong : ChangeSpec := { name := "labelValues", fn := fun _ => fun
  | [d1, d2] => { results := [.lit (.bool false)], args := [d1, d2] }
  | _ => none }
def LabelValuesWrongFalsely : Prop := labelValuesRow.holds Try.pinned (OpenSpec.ofChange labelValuesWrong)

/-- 'varvelaw19.TombBytes': WHATEVER THE INPUT: true; the input reads as it did. -/
def tombBytesSpec : ChangeSpec := { name := "tombBytes", fn := fun _ => fun
  | [d1, d2, d3] => { results := [.lit (.bool true)], args := [d1, d2, d3] }
  | _ => none }
def tombBytesRow : OpenClaim := { program := "yteafilojjdfllaa", sum := "babb99ebc331b05cea29d2e6d65166b6fb60960bdf2a46611f5e39d6c064c8f5", func := "varve/varvelaw19.TombBytes", spec := "tombBytes", unfollowed := true, recurses := true, loops := true, apart := false }
def TombBytesSaid : Prop := tombBytesRow.holds Try.pinned (OpenSpec.ofChange tombBytesSpec)

/-- ITS FALSE NEIGHBOUR: 'it returns false'. Refute it at one input. -/
def tombBytesWrong : ChangeSpec := { name := "tombBytes", fn := fun _ => fun
  | [d1, d2, d3] => { results := [.lit (.bool false)], args := [d1, d2, d3] }
  | _ => none }
def TombBytesWrongFalsely : Prop := tombBytesRow.holds Try.pinned (OpenSpec.ofChange tombBytesWrong)

/-- 'varvelaw11.LabelCmps': WHATEVER THE INPUT: true; the input reads as it did. -/
def labelCmpsSpec : ChangeSpec := { name := "labelCmps", fn := fun _ => fun
  | [d1, d2] => { results := [.lit (.bool true)], args := [d1, d2] }
  | _ => none }
def labelCmpsRow : OpenClaim := { program := "yteafilojjdfllaa", sum := "babb99ebc331b05cea29d2e6d65166b6fb60960bdf2a46611f5e39d6c064c8f5", func := "varve/varvelaw11.LabelCmps", spec := "labelCmps", inPlace := ["internal/bytealg.abigen_runtime_cmpstring", "internal/abi.NoEscape", "internal/bytealg.MakeNoZero"], unfollowed := true, recurses := true, apart := false }
def LabelCmpsSaid : Prop := labelCmpsRow.holds Try.pinned (OpenSpec.ofChange labelCmpsSpec)

/-- ITS FALSE NEIGHBOUR: 'it returns false'. Refute it at one input. -/
def labelCmpsWrong : ChangeSpec := { name := "labelCmps", fn := fun _ => fun
  | [d1, d2] => { results := [.lit (.bool false)], args := [d1, d2] }
  | _ => none }
def LabelCmpsWrongFalsely : Prop := labelCmpsRow.holds Try.pinned (OpenSpec.ofChange labelCmpsWrong)

/-- 'varvelaw11.LabelOrders': WHATEVER THE INPUT: true; the input reads as it did. -/
def labelOrdersSpec : ChangeSpec := { name := "labelOrders", fn := fun _ => fun
  | [d1, d2, d3] => { results := [.lit (.bool true)], args := [d1, d2, d3] }
  | _ => none }
def labelOrdersRow : OpenClaim := { program := "yteafilojjdfllaa", sum := "babb99ebc331b05cea29d2e6d65166b6fb60960bdf2a46611f5e39d6c064c8f5", func := "varve/varvelaw11.LabelOrders", spec := "labelOrders", inPlace := ["internal/bytealg.abigen_runtime_cmpstring", "internal/abi.NoEscape", "internal/bytealg.MakeNoZero"], unfollowed := true, recurses := true, apart := false }
def LabelOrdersSaid : Prop := labelOrdersRow.holds Try.pinned (OpenSpec.ofChange labelOrdersSpec)

/-- ITS FALSE NEIGHBOUR: 'it returns false'. Refute it at one input. -/
def labelOrdersWrong : ChangeSpec := { name := "labelOrders", fn := fun _ => fun
  | [d1, d2, d3] => { results := [.lit (.bool false)], args := [d1, d2, d3] }
  | _ => none }
def LabelOrdersWrongFalsely : Prop := labelOrdersRow.holds Try.pinned (OpenSpec.ofChange labelOrdersWrong)

/-- 'varvelaw11.LabelStarts': WHATEVER THE INPUT: true; the input reads as it did. -/
def labelStartsSpec : ChangeSpec := { name := "labelStarts", fn := fun _ => fun
  | [d1, d2, d3] => { results := [.lit (.bool true)], args := [d1, d2, d3] }
  | _ => none }
def labelStartsRow : OpenClaim := { program := "yteafilojjdfllaa", sum := "babb99ebc331b05cea29d2e6d65166b6fb60960bdf2a46611f5e39d6c064c8f5", func := "varve/varvelaw11.LabelStarts", spec := "labelStarts", inPlace := ["internal/bytealg.abigen_runtime_cmpstring", "internal/abi.NoEscape", "internal/bytealg.MakeNoZero"], unfollowed := true, recurses := true, apart := false }
def LabelStartsSaid : Prop := labelStartsRow.holds Try.pinned (OpenSpec.ofChange labelStartsSpec)

/-- ITS FALSE NEIGHBOUR: 'it returns false'. Refute it at one input. -/
def labelStartsWrong : ChangeSpec := { name := "labelStarts", fn := fun _ => fun
  | [d1, d2, d3] => { results := [.lit (.bool false)], args := [d1, d2, d3] }
  | _ => none }
def LabelStartsWrongFalsely : Prop := labelStartsRow.holds Try.pinned (OpenSpec.ofChange labelStartsWrong)

/-- 'varvelaw11.LabelBytes': WHATEVER THE INPUT: true; the input reads as it did. -/
def labelBytesSpec : ChangeSpec := { name := "labelBytes", fn := fun _ => fun
  | [d1, d2, d3] => { results := [.lit (.bool true)], args := [d1, d2, d3] }
  | _ => none }
def labelBytesRow : OpenClaim := { program := "yteafilojjdfllaa", sum := "babb99ebc331b05cea29d2e6d65166b6fb60960bdf2a46611f5e39d6c064c8f5", func := "varve/varvelaw11.LabelBytes", spec := "labelBytes", inPlace := ["internal/bytealg.abigen_runtime_cmpstring", "internal/abi.NoEscape", "internal/bytealg.MakeNoZero"], unfollowed := true, recurses := true, apart := false }
def LabelBytesSaid : Prop := labelBytesRow.holds Try.pinned (OpenSpec.ofChange labelBytesSpec)

/-- ITS FALSE NEIGHBOUR: 'it returns false'. Refute it at one input. -/
def labelBytesWrong : ChangeSpec := { name := "labelBytes", fn := fun _ => fun
  | [d1, d2, d3] => { results := [.lit (.bool false)], args := [d1, d2, d3] }
  | _ => none }
def LabelBytesWrongFalsely : Prop := labelBytesRow.holds Try.pinned (OpenSpec.ofChange labelBytesWrong)

/-- 'varvelaw11.LabelTexts': WHATEVER THE INPUT: true; the input reads as it did. -/
def labelTextsSpec : ChangeSpec := { name := "labelTexts", fn := fun _ => fun
  | [d] => { results := [.lit (.bool true)], args := [d] }
  | _ => none }
def labelTextsRow : OpenClaim := { program := "yteafilojjdfllaa", sum := "babb99ebc331b05cea29d2e6d65166b6fb60960bdf2a46611f5e39d6c064c8f5", func := "varve/varvelaw11.LabelTexts", spec := "labelTexts", inPlace := ["internal/bytealg.abigen_runtime_cmpstring", "internal/abi.NoEscape", "internal/bytealg.MakeNoZero", "internal/bytealg.IndexByteString"], unfollowed := true, recurses := true, apart := false }
def LabelTextsSaid : Prop := labelTextsRow.holds Try.pinned (OpenSpec.ofChange labelTextsSpec)

/-- ITS FALSE NEIGHBOUR: 'it returns false'. Refute it at one input. -/
def labelTextsWrong : ChangeSpec := { name := "labelTexts", fn := fun _ => fun
  | [d] => { results := [.lit (.bool false)], args := [d] }
  | _ => none }
def LabelTextsWrongFalsely : Prop := labelTextsRow.holds Try.pinned (OpenSpec.ofChange labelTextsWrong)

/-- 'varvelaw11.LabelParses': WHATEVER THE INPUT: true; the input reads as it did. -/
def labelParsesSpec : ChangeSpec := { name := "labelParses", fn := fun _ => fun
  | [d] => { results := [.lit (.bool true)], args := [d] }
  | _ => none }
def labelParsesRow : OpenClaim := { program := "yteafilojjdfllaa", sum := "babb99ebc331b05cea29d2e6d65166b6fb60960bdf2a46611f5e39d6c064c8f5", func := "varve/varvelaw11.LabelParses", spec := "labelParses", inPlace := ["internal/bytealg.abigen_runtime_cmpstring", "internal/abi.NoEscape", "internal/bytealg.MakeNoZero", "internal/bytealg.IndexByteString"], unfollowed := true, recurses := true, apart := false }
def LabelParsesSaid : Prop := labelParsesRow.holds Try.pinned (OpenSpec.ofChange labelParsesSpec)

/-- ITS FALSE NEIGHBOUR: 'it returns false'. Refute it at one input. -/
def labelParsesWrong : ChangeSpec := { name := "labelParses", fn := fun _ => fun
  | [d] => { results := [.lit (.bool false)], args := [d] }
  | _ => none }
def LabelParsesWrongFalsely : Prop := labelParsesRow.holds Try.pinned (OpenSpec.ofChange labelParsesWrong)

/-- 'varvelaw11.LabelBroken': WHATEVER THE INPUT: true; the input reads as it did. -/
def labelBrokenSpec : ChangeSpec := { name := "labelBroken", fn := fun _ => fun
  | [d1, d2, d3] => { results := [.lit (.bool true)], args := [d1, d2, d3] }
  | _ => none }
def labelBrokenRow : OpenClaim := { program := "yteafilojjdfllaa", sum := "babb99ebc331b05cea29d2e6d65166b6fb60960bdf2a46611f5e39d6c064c8f5", func := "varve/varvelaw11.LabelBroken", spec := "labelBroken", inPlace := ["internal/bytealg.abigen_runtime_cmpstring", "internal/abi.NoEscape", "internal/bytealg.MakeNoZero", "internal/bytealg.IndexByteString"], unfollowed := true, recurses := true, apart := false }
def LabelBrokenSaid : Prop := labelBrokenRow.holds Try.pinned (OpenSpec.ofChange labelBrokenSpec)

/-- ITS FALSE NEIGHBOUR: 'it returns false'. Refute it at one input. -/
def labelBrokenWrong : ChangeSpec := { name := "labelBroken", fn := fun _ => fun
  | [d1, d2, d3] => { results := [.lit (.bool false)], args := [d1, d2, d3] }
  | _ => none }
def LabelBrokenWrongFalsely : Prop := labelBrokenRow.holds Try.pinned (OpenSpec.ofChange labelBrokenWrong)

/-- 'varvelaw12.MatchBytes': WHATEVER THE INPUT: true; the input reads as it did. -/
def matchBytesSpec : ChangeSpec := { name := "matchBytes", fn := fun _ => fun
  | [d1, d2, d3] => { results := [.lit (.bool true)], args := [d1, d2, d3] }
  | _ => none }
def matchBytesRow : OpenClaim := { program := "yteafilojjdfllaa", sum := "babb99ebc331b05cea29d2e6d65166b6fb60960bdf2a46611f5e39d6c064c8f5", func := "varve/varvelaw12.MatchBytes", spec := "matchBytes", inPlace := ["internal/abi.NoEscape", "internal/bytealg.MakeNoZero"], unfollowed := true, recurses := true, loops := true, apart := false }
def MatchBytesSaid : Prop := matchBytesRow.holds Try.pinned (OpenSpec.ofChange matchBytesSpec)

/-- ITS FALSE NEIGHBOUR: 'it returns false'. Refute it at one input. -/
def matchBytesWrong : ChangeSpec := { name := "matchBytes", fn := fun _ => fun
  | [d1, d2, d3] => { results := [.lit (.bool false)], args := [d1, d2, d3] }
  | _ => none }
def MatchBytesWrongFalsely : Prop := matchBytesRow.holds Try.pinned (OpenSpec.ofChange matchBytesWrong)

/-- 'varvelaw12.MatchTexts': WHATEVER THE INPUT: true; the input reads as it did. -/
def matchTextsSpec : ChangeSpec := { name := "matchTexts", fn := fun _ => fun
  | [d] => { results := [.lit (.bool true)], args := [d] }
  | _ => none }
def matchTextsRow : OpenClaim := { program := "yteafilojjdfllaa", sum := "babb99ebc331b05cea29d2e6d65166b6fb60960bdf2a46611f5e39d6c064c8f5", func := "varve/varvelaw12.MatchTexts", spec := "matchTexts", inPlace := ["internal/abi.NoEscape", "internal/bytealg.MakeNoZero", "internal/bytealg.IndexByteString", "internal/bytealg.IndexString"], unfollowed := true, recurses := true, named := ["internal/bytealg.MaxLen"], loops := true, apart := false }
def MatchTextsSaid : Prop := matchTextsRow.holds Try.pinned (OpenSpec.ofChange matchTextsSpec)

/-- ITS FALSE NEIGHBOUR: 'it returns false'. Refute it at one input. -/
def matchTextsWrong : ChangeSpec := { name := "matchTexts", fn := fun _ => fun
  | [d] => { results := [.lit (.bool false)], args := [d] }
  | _ => none }
def MatchTextsWrongFalsely : Prop := matchTextsRow.holds Try.pinned (OpenSpec.ofChange matchTextsWrong)

/-- 'varvelaw12.MatchParses': WHATEVER THE INPUT: true; the input reads as it did. -/
def matchParsesSpec : ChangeSpec := { name := "matchParses", fn := fun _ => fun
  | [d] => { results := [.lit (.bool true)], args := [d] }
  | _ => none }
def matchParsesRow : OpenClaim := { program := "yteafilojjdfllaa", sum := "babb99ebc331b05cea29d2e6d65166b6fb60960bdf2a46611f5e39d6c064c8f5", func := "varve/varvelaw12.MatchParses", spec := "matchParses", inPlace := ["internal/abi.NoEscape", "internal/bytealg.MakeNoZero", "internal/bytealg.IndexByteString", "internal/bytealg.IndexString"], unfollowed := true, recurses := true, named := ["internal/bytealg.MaxLen"], apart := false }
def MatchParsesSaid : Prop := matchParsesRow.holds Try.pinned (OpenSpec.ofChange matchParsesSpec)

/-- ITS FALSE NEIGHBOUR: 'it returns false'. Refute it at one input. -/
def matchParsesWrong : ChangeSpec := { name := "matchParses", fn := fun _ => fun
  | [d] => { results := [.lit (.bool false)], args := [d] }
  | _ => none }
def MatchParsesWrongFalsely : Prop := matchParsesRow.holds Try.pinned (OpenSpec.ofChange matchParsesWrong)

/-- 'varvelaw12.MatchDeep': WHATEVER THE INPUT: true; the input reads as it did. -/
def matchDeepSpec : ChangeSpec := { name := "matchDeep", fn := fun _ => fun
  | [d1, d2] => { results := [.lit (.bool true)], args := [d1, d2] }
  | _ => none }
def matchDeepRow : OpenClaim := { program := "yteafilojjdfllaa", sum := "babb99ebc331b05cea29d2e6d65166b6fb60960bdf2a46611f5e39d6c064c8f5", func := "varve/varvelaw12.MatchDeep", spec := "matchDeep", inPlace := ["internal/bytealg.IndexByteString", "internal/bytealg.IndexString", "internal/abi.NoEscape", "internal/bytealg.MakeNoZero"], unfollowed := true, recurses := true, named := ["internal/bytealg.MaxLen"], apart := false }
def MatchDeepSaid : Prop := matchDeepRow.holds Try.pinned (OpenSpec.ofChange matchDeepSpec)

/-- ITS FALSE NEIGHBOUR: 'it returns false'. Refute it at one input. -/
def matchDeepWrong : ChangeSpec := { name := "matchDeep", fn := fun _ => fun
  | [d1, d2] => { results := [.lit (.bool false)], args := [d1, d2] }
  | _ => none }
def MatchDeepWrongFalsely : Prop := matchDeepRow.holds Try.pinned (OpenSpec.ofChange matchDeepWrong)

/- THE SECOND FORM. 'bulk': how many values and letters a reading holds, each counted each time it is reached (what is shared counts as often as it is met; a slice's spare places count too). A statement '..UptoSaid' is the law's where the arguments, and the package variables that the reading takes, are together of bulk at most 1048576: NARROWER than '..Said'. Prove '..Said' where nothing that the law and all that it calls make is longer than what came in: it says more and counts as full. Else prove '..UptoSaid'. A law counts once. -/
mutual
def uptoBulk {H : Type} : DataW H → Nat
  | .lit (.string bytes) => bytes.length + 1
  | .lit _ => 1
  | .nil => 1
  | .ptr d => uptoBulk d + 1
  | .slice elems spare => uptoBulkAll elems + uptoBulkAll spare + 1
  | .agg parts => uptoBulkAll parts + 1
  | .iface _ d => uptoBulk d + 1
  | .map entries => uptoBulkEntries entries + 1
  | .held _ => 1
def uptoBulkAll {H : Type} : List (DataW H) → Nat
  | [] => 0
  | d :: r => uptoBulk d + uptoBulkAll r
def uptoBulkEntries {H : Type} : List (Lit × DataW H) → Nat
  | [] => 0
  | x :: r => uptoBulkEntry x + uptoBulkEntries r
def uptoBulkEntry {H : Type} : Lit × DataW H → Nat
  | (.string bytes, d) => bytes.length + uptoBulk d + 1
  | (_, d) => uptoBulk d + 1
 end
def uptoSmall : (H : Type) → List (DataW H) → Bool := fun _ ds => decide (uptoBulkAll ds ≤ 1048576)
def OpenSpec.upto (s : _root_.Go.ChangeSpec) : _root_.Go.OpenSpec := { _root_.Go.OpenSpec.ofChange s with cond := some uptoSmall }

/-- 'varvelaw19.TombChecks', WHERE WHAT IT READS IS OF BULK AT MOST 1048576: true; the input reads as it did. -/
def tombChecksUptoRow : OpenClaim := { program := "yteafilojjdfllaa", sum := "babb99ebc331b05cea29d2e6d65166b6fb60960bdf2a46611f5e39d6c064c8f5", func := "varve/varvelaw19.TombChecks", spec := "tombChecks", recurses := true, loops := true, apart := false, narrowed := true }
def TombChecksUptoSaid : Prop := tombChecksUptoRow.holds Try.pinned (OpenSpec.upto tombChecksSpec)

/-- 'varvelaw19.TombApplies', WHERE WHAT IT READS IS OF BULK AT MOST 1048576: true; the input reads as it did. -/
def tombAppliesUptoRow : OpenClaim := { program := "yteafilojjdfllaa", sum := "babb99ebc331b05cea29d2e6d65166b6fb60960bdf2a46611f5e39d6c064c8f5", func := "varve/varvelaw19.TombApplies", spec := "tombApplies", recurses := true, loops := true, apart := false, narrowed := true }
def TombAppliesUptoSaid : Prop := tombAppliesUptoRow.holds Try.pinned (OpenSpec.upto tombAppliesSpec)

/-- 'varvelaw19.TombOrder', WHERE WHAT IT READS IS OF BULK AT MOST 1048576: true; the input reads as it did. -/
def tombOrderUptoRow : OpenClaim := { program := "yteafilojjdfllaa", sum := "babb99ebc331b05cea29d2e6d65166b6fb60960bdf2a46611f5e39d6c064c8f5", func := "varve/varvelaw19.TombOrder", spec := "tombOrder", recurses := true, loops := true, apart := false, narrowed := true }
def TombOrderUptoSaid : Prop := tombOrderUptoRow.holds Try.pinned (OpenSpec.upto tombOrderSpec)

/-- 'varvelaw19.TombWhole', WHERE WHAT IT READS IS OF BULK AT MOST 1048576: true; the input reads as it did. -/
def tombWholeUptoRow : OpenClaim := { program := "yteafilojjdfllaa", sum := "babb99ebc331b05cea29d2e6d65166b6fb60960bdf2a46611f5e39d6c064c8f5", func := "varve/varvelaw19.TombWhole", spec := "tombWhole", recurses := true, apart := false, narrowed := true }
def TombWholeUptoSaid : Prop := tombWholeUptoRow.holds Try.pinned (OpenSpec.upto tombWholeSpec)

/-- 'varvelaw19.TombPrunes', WHERE WHAT IT READS IS OF BULK AT MOST 1048576: true; the input reads as it did. -/
def tombPrunesUptoRow : OpenClaim := { program := "yteafilojjdfllaa", sum := "babb99ebc331b05cea29d2e6d65166b6fb60960bdf2a46611f5e39d6c064c8f5", func := "varve/varvelaw19.TombPrunes", spec := "tombPrunes", recurses := true, loops := true, apart := false, narrowed := true }
def TombPrunesUptoSaid : Prop := tombPrunesUptoRow.holds Try.pinned (OpenSpec.upto tombPrunesSpec)

/-- 'varvelaw19.TombDone', WHERE WHAT IT READS IS OF BULK AT MOST 1048576: true; the input reads as it did. -/
def tombDoneUptoRow : OpenClaim := { program := "yteafilojjdfllaa", sum := "babb99ebc331b05cea29d2e6d65166b6fb60960bdf2a46611f5e39d6c064c8f5", func := "varve/varvelaw19.TombDone", spec := "tombDone", recurses := true, loops := true, apart := false, narrowed := true }
def TombDoneUptoSaid : Prop := tombDoneUptoRow.holds Try.pinned (OpenSpec.upto tombDoneSpec)

/-- 'varvelaw12.MatchChecks', WHERE WHAT IT READS IS OF BULK AT MOST 1048576: true; the input reads as it did. -/
def matchChecksUptoRow : OpenClaim := { program := "yteafilojjdfllaa", sum := "babb99ebc331b05cea29d2e6d65166b6fb60960bdf2a46611f5e39d6c064c8f5", func := "varve/varvelaw12.MatchChecks", spec := "matchChecks", inPlace := ["internal/abi.NoEscape", "internal/bytealg.MakeNoZero"], recurses := true, loops := true, apart := false, narrowed := true }
def MatchChecksUptoSaid : Prop := matchChecksUptoRow.holds Try.pinned (OpenSpec.upto matchChecksSpec)

/-- 'varvelaw12.MatchEvals', WHERE WHAT IT READS IS OF BULK AT MOST 1048576: true; the input reads as it did. -/
def matchEvalsUptoRow : OpenClaim := { program := "yteafilojjdfllaa", sum := "babb99ebc331b05cea29d2e6d65166b6fb60960bdf2a46611f5e39d6c064c8f5", func := "varve/varvelaw12.MatchEvals", spec := "matchEvals", inPlace := ["internal/abi.NoEscape", "internal/bytealg.MakeNoZero"], recurses := true, loops := true, apart := false, narrowed := true }
def MatchEvalsUptoSaid : Prop := matchEvalsUptoRow.holds Try.pinned (OpenSpec.upto matchEvalsSpec)

/-- 'varvelaw12.MatchLaws', WHERE WHAT IT READS IS OF BULK AT MOST 1048576: true; the input reads as it did. -/
def matchLawsUptoRow : OpenClaim := { program := "yteafilojjdfllaa", sum := "babb99ebc331b05cea29d2e6d65166b6fb60960bdf2a46611f5e39d6c064c8f5", func := "varve/varvelaw12.MatchLaws", spec := "matchLaws", inPlace := ["internal/abi.NoEscape", "internal/bytealg.MakeNoZero"], recurses := true, loops := true, apart := false, narrowed := true }
def MatchLawsUptoSaid : Prop := matchLawsUptoRow.holds Try.pinned (OpenSpec.upto matchLawsSpec)

/-- 'varvelaw12.MatchLabels', WHERE WHAT IT READS IS OF BULK AT MOST 1048576: true; the input reads as it did. -/
def matchLabelsUptoRow : OpenClaim := { program := "yteafilojjdfllaa", sum := "babb99ebc331b05cea29d2e6d65166b6fb60960bdf2a46611f5e39d6c064c8f5", func := "varve/varvelaw12.MatchLabels", spec := "matchLabels", inPlace := ["internal/abi.NoEscape", "internal/bytealg.MakeNoZero"], recurses := true, apart := false, narrowed := true }
def MatchLabelsUptoSaid : Prop := matchLabelsUptoRow.holds Try.pinned (OpenSpec.upto matchLabelsSpec)

/-- 'varvelaw12.MatchOnce', WHERE WHAT IT READS IS OF BULK AT MOST 1048576: true; the input reads as it did. -/
def matchOnceUptoRow : OpenClaim := { program := "yteafilojjdfllaa", sum := "babb99ebc331b05cea29d2e6d65166b6fb60960bdf2a46611f5e39d6c064c8f5", func := "varve/varvelaw12.MatchOnce", spec := "matchOnce", inPlace := ["internal/abi.NoEscape", "internal/bytealg.MakeNoZero"], recurses := true, loops := true, apart := false, narrowed := true }
def MatchOnceUptoSaid : Prop := matchOnceUptoRow.holds Try.pinned (OpenSpec.upto matchOnceSpec)

/-- 'varvelaw12.MatchSame', WHERE WHAT IT READS IS OF BULK AT MOST 1048576: true; the input reads as it did. -/
def matchSameUptoRow : OpenClaim := { program := "yteafilojjdfllaa", sum := "babb99ebc331b05cea29d2e6d65166b6fb60960bdf2a46611f5e39d6c064c8f5", func := "varve/varvelaw12.MatchSame", spec := "matchSame", inPlace := ["internal/abi.NoEscape", "internal/bytealg.MakeNoZero"], recurses := true, loops := true, apart := false, narrowed := true }
def MatchSameUptoSaid : Prop := matchSameUptoRow.holds Try.pinned (OpenSpec.upto matchSameSpec)

/-- 'varvelaw11.LabelChecks', WHERE WHAT IT READS IS OF BULK AT MOST 1048576: true; the input reads as it did. -/
def labelChecksUptoRow : OpenClaim := { program := "yteafilojjdfllaa", sum := "babb99ebc331b05cea29d2e6d65166b6fb60960bdf2a46611f5e39d6c064c8f5", func := "varve/varvelaw11.LabelChecks", spec := "labelChecks", inPlace := ["internal/bytealg.abigen_runtime_cmpstring", "internal/abi.NoEscape", "internal/bytealg.MakeNoZero"], unfollowed := true, recurses := true, apart := false, narrowed := true }
def LabelChecksUptoSaid : Prop := labelChecksUptoRow.holds Try.pinned (OpenSpec.upto labelChecksSpec)

/-- 'varvelaw11.LabelMakes', WHERE WHAT IT READS IS OF BULK AT MOST 1048576: true; the input reads as it did. -/
def labelMakesUptoRow : OpenClaim := { program := "yteafilojjdfllaa", sum := "babb99ebc331b05cea29d2e6d65166b6fb60960bdf2a46611f5e39d6c064c8f5", func := "varve/varvelaw11.LabelMakes", spec := "labelMakes", inPlace := ["internal/bytealg.abigen_runtime_cmpstring", "internal/abi.NoEscape", "internal/bytealg.MakeNoZero"], unfollowed := true, recurses := true, apart := false, narrowed := true }
def LabelMakesUptoSaid : Prop := labelMakesUptoRow.holds Try.pinned (OpenSpec.upto labelMakesSpec)

/-- 'varvelaw11.LabelTurns', WHERE WHAT IT READS IS OF BULK AT MOST 1048576: true; the input reads as it did. -/
def labelTurnsUptoRow : OpenClaim := { program := "yteafilojjdfllaa", sum := "babb99ebc331b05cea29d2e6d65166b6fb60960bdf2a46611f5e39d6c064c8f5", func := "varve/varvelaw11.LabelTurns", spec := "labelTurns", inPlace := ["internal/bytealg.abigen_runtime_cmpstring", "internal/abi.NoEscape", "internal/bytealg.MakeNoZero"], unfollowed := true, recurses := true, apart := false, narrowed := true }
def LabelTurnsUptoSaid : Prop := labelTurnsUptoRow.holds Try.pinned (OpenSpec.upto labelTurnsSpec)

/-- 'varvelaw11.LabelValues', WHERE WHAT IT READS IS OF BULK AT MOST 1048576: true; the input reads as it did. -/
def labelValuesUptoRow : OpenClaim := { program := "yteafilojjdfllaa", sum := "babb99ebc331b05cea29d2e6d65166b6fb60960bdf2a46611f5e39d6c064c8f5", func := "varve/varvelaw11.LabelValues", spec := "labelValues", inPlace := ["internal/bytealg.abigen_runtime_cmpstring", "internal/abi.NoEscape", "internal/bytealg.MakeNoZero"], unfollowed := true, recurses := true, apart := false, narrowed := true }
def LabelValuesUptoSaid : Prop := labelValuesUptoRow.holds Try.pinned (OpenSpec.upto labelValuesSpec)

/-- 'varvelaw19.TombBytes', WHERE WHAT IT READS IS OF BULK AT MOST 1048576: true; the input reads as it did. -/
def tombBytesUptoRow : OpenClaim := { program := "yteafilojjdfllaa", sum := "babb99ebc331b05cea29d2e6d65166b6fb60960bdf2a46611f5e39d6c064c8f5", func := "varve/varvelaw19.TombBytes", spec := "tombBytes", unfollowed := true, recurses := true, loops := true, apart := false, narrowed := true }
def TombBytesUptoSaid : Prop := tombBytesUptoRow.holds Try.pinned (OpenSpec.upto tombBytesSpec)

/-- 'varvelaw11.LabelCmps', WHERE WHAT IT READS IS OF BULK AT MOST 1048576: true; the input reads as it did. -/
def labelCmpsUptoRow : OpenClaim := { program := "yteafilojjdfllaa", sum := "babb99ebc331b05cea29d2e6d65166b6fb60960bdf2a46611f5e39d6c064c8f5", func := "varve/varvelaw11.LabelCmps", spec := "labelCmps", inPlace := ["internal/bytealg.abigen_runtime_cmpstring", "internal/abi.NoEscape", "internal/bytealg.MakeNoZero"], unfollowed := true, recurses := true, apart := false, narrowed := true }
def LabelCmpsUptoSaid : Prop := labelCmpsUptoRow.holds Try.pinned (OpenSpec.upto labelCmpsSpec)

/-- 'varvelaw11.LabelOrders', WHERE WHAT IT READS IS OF BULK AT MOST 1048576: true; the input reads as it did. -/
def labelOrdersUptoRow : OpenClaim := { program := "yteafilojjdfllaa", sum := "babb99ebc331b05cea29d2e6d65166b6fb60960bdf2a46611f5e39d6c064c8f5", func := "varve/varvelaw11.LabelOrders", spec := "labelOrders", inPlace := ["internal/bytealg.abigen_runtime_cmpstring", "internal/abi.NoEscape", "internal/bytealg.MakeNoZero"], unfollowed := true, recurses := true, apart := false, narrowed := true }
def LabelOrdersUptoSaid : Prop := labelOrdersUptoRow.holds Try.pinned (OpenSpec.upto labelOrdersSpec)

/-- 'varvelaw11.LabelStarts', WHERE WHAT IT READS IS OF BULK AT MOST 1048576: true; the input reads as it did. -/
def labelStartsUptoRow : OpenClaim := { program := "yteafilojjdfllaa", sum := "babb99ebc331b05cea29d2e6d65166b6fb60960bdf2a46611f5e39d6c064c8f5", func := "varve/varvelaw11.LabelStarts", spec := "labelStarts", inPlace := ["internal/bytealg.abigen_runtime_cmpstring", "internal/abi.NoEscape", "internal/bytealg.MakeNoZero"], unfollowed := true, recurses := true, apart := false, narrowed := true }
def LabelStartsUptoSaid : Prop := labelStartsUptoRow.holds Try.pinned (OpenSpec.upto labelStartsSpec)

/-- 'varvelaw11.LabelBytes', WHERE WHAT IT READS IS OF BULK AT MOST 1048576: true; the input reads as it did. -/
def labelBytesUptoRow : OpenClaim := { program := "yteafilojjdfllaa", sum := "babb99ebc331b05cea29d2e6d65166b6fb60960bdf2a46611f5e39d6c064c8f5", func := "varve/varvelaw11.LabelBytes", spec := "labelBytes", inPlace := ["internal/bytealg.abigen_runtime_cmpstring", "internal/abi.NoEscape", "internal/bytealg.MakeNoZero"], unfollowed := true, recurses := true, apart := false, narrowed := true }
def LabelBytesUptoSaid : Prop := labelBytesUptoRow.holds Try.pinned (OpenSpec.upto labelBytesSpec)

/-- 'varvelaw11.LabelTexts', WHERE WHAT IT READS IS OF BULK AT MOST 1048576: true; the input reads as it did. -/
def labelTextsUptoRow : OpenClaim := { program := "yteafilojjdfllaa", sum := "babb99ebc331b05cea29d2e6d65166b6fb60960bdf2a46611f5e39d6c064c8f5", func := "varve/varvelaw11.LabelTexts", spec := "labelTexts", inPlace := ["internal/bytealg.abigen_runtime_cmpstring", "internal/abi.NoEscape", "internal/bytealg.MakeNoZero", "internal/bytealg.IndexByteString"], unfollowed := true, recurses := true, apart := false, narrowed := true }
def LabelTextsUptoSaid : Prop := labelTextsUptoRow.holds Try.pinned (OpenSpec.upto labelTextsSpec)

/-- 'varvelaw11.LabelParses', WHERE WHAT IT READS IS OF BULK AT MOST 1048576: true; the input reads as it did. -/
def labelParsesUptoRow : OpenClaim := { program := "yteafilojjdfllaa", sum := "babb99ebc331b05cea29d2e6d65166b6fb60960bdf2a46611f5e39d6c064c8f5", func := "varve/varvelaw11.LabelParses", spec := "labelParses", inPlace := ["internal/bytealg.abigen_runtime_cmpstring", "internal/abi.NoEscape", "internal/bytealg.MakeNoZero", "internal/bytealg.IndexByteString"], unfollowed := true, recurses := true, apart := false, narrowed := true }
def LabelParsesUptoSaid : Prop := labelParsesUptoRow.holds Try.pinned (OpenSpec.upto labelParsesSpec)

/-- 'varvelaw11.LabelBroken', WHERE WHAT IT READS IS OF BULK AT MOST 1048576: true; the input reads as it did. -/
def labelBrokenUptoRow : OpenClaim := { program := "yteafilojjdfllaa", sum := "babb99ebc331b05cea29d2e6d65166b6fb60960bdf2a46611f5e39d6c064c8f5", func := "varve/varvelaw11.LabelBroken", spec := "labelBroken", inPlace := ["internal/bytealg.abigen_runtime_cmpstring", "internal/abi.NoEscape", "internal/bytealg.MakeNoZero", "internal/bytealg.IndexByteString"], unfollowed := true, recurses := true, apart := false, narrowed := true }
def LabelBrokenUptoSaid : Prop := labelBrokenUptoRow.holds Try.pinned (OpenSpec.upto labelBrokenSpec)

/-- 'varvelaw12.MatchBytes', WHERE WHAT IT READS IS OF BULK AT MOST 1048576: true; the input reads as it did. -/
def matchBytesUptoRow : OpenClaim := { program := "yteafilojjdfllaa", sum := "babb99ebc331b05cea29d2e6d65166b6fb60960bdf2a46611f5e39d6c064c8f5", func := "varve/varvelaw12.MatchBytes", spec := "matchBytes", inPlace := ["internal/abi.NoEscape", "internal/bytealg.MakeNoZero"], unfollowed := true, recurses := true, loops := true, apart := false, narrowed := true }
def MatchBytesUptoSaid : Prop := matchBytesUptoRow.holds Try.pinned (OpenSpec.upto matchBytesSpec)

/-- 'varvelaw12.MatchTexts', WHERE WHAT IT READS IS OF BULK AT MOST 1048576: true; the input reads as it did. -/
def matchTextsUptoRow : OpenClaim := { program := "yteafilojjdfllaa", sum := "babb99ebc331b05cea29d2e6d65166b6fb60960bdf2a46611f5e39d6c064c8f5", func := "varve/varvelaw12.MatchTexts", spec := "matchTexts", inPlace := ["internal/abi.NoEscape", "internal/bytealg.MakeNoZero", "internal/bytealg.IndexByteString", "internal/bytealg.IndexString"], unfollowed := true, recurses := true, named := ["internal/bytealg.MaxLen"], loops := true, apart := false, narrowed := true }
def MatchTextsUptoSaid : Prop := matchTextsUptoRow.holds Try.pinned (OpenSpec.upto matchTextsSpec)

/-- 'varvelaw12.MatchParses', WHERE WHAT IT READS IS OF BULK AT MOST 1048576: true; the input reads as it did. -/
def matchParsesUptoRow : OpenClaim := { program := "yteafilojjdfllaa", sum := "babb99ebc331b05cea29d2e6d65166b6fb60960bdf2a46611f5e39d6c064c8f5", func := "varve/varvelaw12.MatchParses", spec := "matchParses", inPlace := ["internal/abi.NoEscape", "internal/bytealg.MakeNoZero", "internal/bytealg.IndexByteString", "internal/bytealg.IndexString"], unfollowed := true, recurses := true, named := ["internal/bytealg.MaxLen"], apart := false, narrowed := true }
def MatchParsesUptoSaid : Prop := matchParsesUptoRow.holds Try.pinned (OpenSpec.upto matchParsesSpec)

/-- 'varvelaw12.MatchDeep', WHERE WHAT IT READS IS OF BULK AT MOST 1048576: true; the input reads as it did. -/
def matchDeepUptoRow : OpenClaim := { program := "yteafilojjdfllaa", sum := "babb99ebc331b05cea29d2e6d65166b6fb60960bdf2a46611f5e39d6c064c8f5", func := "varve/varvelaw12.MatchDeep", spec := "matchDeep", inPlace := ["internal/bytealg.IndexByteString", "internal/bytealg.IndexString", "internal/abi.NoEscape", "internal/bytealg.MakeNoZero"], unfollowed := true, recurses := true, named := ["internal/bytealg.MaxLen"], apart := false, narrowed := true }
def MatchDeepUptoSaid : Prop := matchDeepUptoRow.holds Try.pinned (OpenSpec.upto matchDeepSpec)

end Rows
end Go.Proofs.Yteafilojjdfllaa
