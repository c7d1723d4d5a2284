/-
  No cell of these rows narrows 'for every input' (looked for: loops, veiled, ifaces, maps, wideKeys, modest, calm, conditions, laid).
  DERIVED. THE GIVEN ROWS OF THIS SEAT. 6 by the template 'for every input the law returns true; each argument reads behind the call as it read before'; 0 by the template 'total and deterministic' (their statements: YtdjiaooieiboaaaTotals.lean).
  GIVEN WITH THE SEED: the statements are not yours to turn. If you find one false, say at which input.
  Laid BY PROGRAM, IN A SANDBOX (cutbox-rows.mjs): the forced cells as the released guide's own fill.sh prints them over the translation 6e42df8555bf1121… (all of the seat's roots in one cut). By AI agents, Wed Nov 11 2026. No macro, syntax, notation, axiom, sorry.
-/
import Derived.Test.YtdjiaooieiboaaaChecked
import GoSem.Claim
import GoSem.ClaimJoined
import GoSem.ClaimMapViews
import Derived.JoinedTies
import Derived.KernelRfl
namespace Go.Proofs.Ytdjiaooieiboaaa
/- THE CELL 'sum', in the pinned program and in every row, IS THE sha256 OF THE DUMP (.gsa) THAT YtdjiaooieiboaaaProg.lean LOADS. Nothing in Lean hashes anything: it is a label: what it is worth is what the hold of that sum in a sandbox is worth. -/
noncomputable def Try.pinned : Pinned := { name := "ytdjiaooieiboaaa", sum := "6e42df8555bf1121e338368204aeb01fb904f008b5edf67b9af44e4dd790c90b", checked := Try.checked }
namespace Rows
def none {H : Type} : Left H := { results := [], args := [] }

/-- 'varvelaw13.PostLists': WHATEVER THE INPUT: true; the input reads as it did. -/
def postListsSpec : ChangeSpec := { name := "postLists", fn := fun _ => fun
  | [d1, d2] => { results := [.lit (.bool true)], args := [d1, d2] }
  | _ => none }
def postListsRow : OpenClaim := { program := "ytdjiaooieiboaaa", sum := "6e42df8555bf1121e338368204aeb01fb904f008b5edf67b9af44e4dd790c90b", func := "varve/varvelaw13.PostLists", spec := "postLists", unfollowed := true, recurses := true, apart := false }
def PostListsSaid : Prop := postListsRow.holds Try.pinned (OpenSpec.ofChange postListsSpec)

/-- ITS FALSE NEIGHBOUR: 'it returns false'. Refute it at one input. -/
def postListsWrong : ChangeSpec := { name := "postLists", fn := fun _ => fun
  | [d1, d2] => { results := [.lit (.bool false)], args := [d1, d2] }
  | _ => none }
def PostListsWrongFalsely : Prop := postListsRow.holds Try.pinned (OpenSpec.ofChange postListsWrong)

/-- 'varvelaw13.PostMosts': WHATEVER THE INPUT: true; the input reads as it did. -/
def postMostsSpec : ChangeSpec := { name := "postMosts", fn := fun _ => fun
  | [d1, d2, d3] => { results := [.lit (.bool true)], args := [d1, d2, d3] }
  | _ => none }
def postMostsRow : OpenClaim := { program := "ytdjiaooieiboaaa", sum := "6e42df8555bf1121e338368204aeb01fb904f008b5edf67b9af44e4dd790c90b", func := "varve/varvelaw13.PostMosts", spec := "postMosts", unfollowed := true, recurses := true, apart := false }
def PostMostsSaid : Prop := postMostsRow.holds Try.pinned (OpenSpec.ofChange postMostsSpec)

/-- ITS FALSE NEIGHBOUR: 'it returns false'. Refute it at one input. -/
def postMostsWrong : ChangeSpec := { name := "postMosts", fn := fun _ => fun
  | [d1, d2, d3] => { results := [.lit (.bool false)], args := [d1, d2, d3] }
  | _ => none }
def PostMostsWrongFalsely : Prop := postMostsRow.holds Try.pinned (OpenSpec.ofChange postMostsWrong)

/-- 'varvelaw13.PostAnds': WHATEVER THE INPUT: true; the input reads as it did. -/
def postAndsSpec : ChangeSpec := { name := "postAnds", fn := fun _ => fun
  | [d1, d2, d3] => { results := [.lit (.bool true)], args := [d1, d2, d3] }
  | _ => none }
def postAndsRow : OpenClaim := { program := "ytdjiaooieiboaaa", sum := "6e42df8555bf1121e338368204aeb01fb904f008b5edf67b9af44e4dd790c90b", func := "varve/varvelaw13.PostAnds", spec := "postAnds", unfollowed := true, recurses := true, apart := false }
def PostAndsSaid : Prop := postAndsRow.holds Try.pinned (OpenSpec.ofChange postAndsSpec)

/-- ITS FALSE NEIGHBOUR: 'it returns false'. Refute it at one input. -/
def postAndsWrong : ChangeSpec := { name := "postAnds", fn := fun _ => fun
  | [d1, d2, d3] => { results := [.lit (.bool false)], args := [d1, d2, d3] }
  | _ => none }
def PostAndsWrongFalsely : Prop := postAndsRow.holds Try.pinned (OpenSpec.ofChange postAndsWrong)

/-- 'varvelaw13.PostNests': WHATEVER THE INPUT: true; the input reads as it did. -/
def postNestsSpec : ChangeSpec := { name := "postNests", fn := fun _ => fun
  | [d1, d2] => { results := [.lit (.bool true)], args := [d1, d2] }
  | _ => none }
def postNestsRow : OpenClaim := { program := "ytdjiaooieiboaaa", sum := "6e42df8555bf1121e338368204aeb01fb904f008b5edf67b9af44e4dd790c90b", func := "varve/varvelaw13.PostNests", spec := "postNests", unfollowed := true, recurses := true, apart := false }
def PostNestsSaid : Prop := postNestsRow.holds Try.pinned (OpenSpec.ofChange postNestsSpec)

/-- ITS FALSE NEIGHBOUR: 'it returns false'. Refute it at one input. -/
def postNestsWrong : ChangeSpec := { name := "postNests", fn := fun _ => fun
  | [d1, d2] => { results := [.lit (.bool false)], args := [d1, d2] }
  | _ => none }
def PostNestsWrongFalsely : Prop := postNestsRow.holds Try.pinned (OpenSpec.ofChange postNestsWrong)

/-- 'varvelaw13.PostLaws': WHATEVER THE INPUT: true; the input reads as it did. -/
def postLawsSpec : ChangeSpec := { name := "postLaws", fn := fun _ => fun
  | [d1, d2, d3] => { results := [.lit (.bool true)], args := [d1, d2, d3] }
  | _ => none }
def postLawsRow : OpenClaim := { program := "ytdjiaooieiboaaa", sum := "6e42df8555bf1121e338368204aeb01fb904f008b5edf67b9af44e4dd790c90b", func := "varve/varvelaw13.PostLaws", spec := "postLaws", unfollowed := true, recurses := true, apart := false }
def PostLawsSaid : Prop := postLawsRow.holds Try.pinned (OpenSpec.ofChange postLawsSpec)

/-- ITS FALSE NEIGHBOUR: 'it returns false'. Refute it at one input. -/
def postLawsWrong : ChangeSpec := { name := "postLaws", fn := fun _ => fun
  | [d1, d2, d3] => { results := [.lit (.bool false)], args := [d1, d2, d3] }
  | _ => none }
def PostLawsWrongFalsely : Prop := postLawsRow.holds Try.pinned (OpenSpec.ofChange postLawsWrong)

/-- 'varvelaw13.PostSelf': WHATEVER THE INPUT: true; the input reads as it did. -/
def postSelfSpec : ChangeSpec := { name := "postSelf", fn := fun _ => fun
  | [d] => { results := [.lit (.bool true)], args := [d] }
  | _ => none }
def postSelfRow : OpenClaim := { program := "ytdjiaooieiboaaa", sum := "6e42df8555bf1121e338368204aeb01fb904f008b5edf67b9af44e4dd790c90b", func := "varve/varvelaw13.PostSelf", spec := "postSelf", unfollowed := true, recurses := true, apart := false }
def PostSelfSaid : Prop := postSelfRow.holds Try.pinned (OpenSpec.ofChange postSelfSpec)

/-- ITS FALSE NEIGHBOUR: 'it returns false'. Refute it at one input. -/
def postSelfWrong : ChangeSpec := { name := "postSelf", fn := fun _ => fun
  | [d] => { results := [.lit (.bool false)], args := [d] }
  | _ => none }
def PostSelfWrongFalsely : Prop := postSelfRow.holds Try.pinned (OpenSpec.ofChange postSelfWrong)

/- THE SECOND FORM. 'bulk': how many values and letters a reading holds, each counted each time it is reached (what is shared counts as often as it is met; a slice's spare places count too). A statement '..UptoSaid' is the law's where the arguments, and the package variables that the reading takes, are together of bulk at most 1048576: NARROWER than '..Said'. Prove '..Said' where nothing that the law and all that it calls make is longer than what came in: it says more and counts as full. Else prove '..UptoSaid'. A law counts once. -/
mutual
def uptoBulk {H : Type} : DataW H → Nat
  | .lit (.string bytes) => bytes.length + 1
  | .lit _ => 1
  | .nil => 1
  | .ptr d => uptoBulk d + 1
  | .slice elems spare => uptoBulkAll elems + uptoBulkAll spare + 1
  | .agg parts => uptoBulkAll parts + 1
  | .iface _ d => uptoBulk d + 1
  | .map entries => uptoBulkEntries entries + 1
  | .held _ => 1
def uptoBulkAll {H : Type} : List (DataW H) → Nat
  | [] => 0
  | d :: r => uptoBulk d + uptoBulkAll r
def uptoBulkEntries {H : Type} : List (Lit × DataW H) → Nat
  | [] => 0
  | x :: r => uptoBulkEntry x + uptoBulkEntries r
def uptoBulkEntry {H : Type} : Lit × DataW H → Nat
  | (.string bytes, d) => bytes.length + uptoBulk d + 1
  | (_, d) => uptoBulk d + 1
 end
def uptoSmall : (H : Type) → List (DataW H) → Bool := fun _ ds => decide (uptoBulkAll ds ≤ 1048576)
def OpenSpec.upto (s : _root_.Go.ChangeSpec) : _root_.Go.OpenSpec := { _root_.Go.OpenSpec.ofChange s with cond := some uptoSmall }

/-- 'varvelaw13.PostLists', WHERE WHAT IT READS IS OF BULK AT MOST 1048576: true; the input reads as it did. -/
def postListsUptoRow : OpenClaim := { program := "ytdjiaooieiboaaa", sum := "6e42df8555bf1121e338368204aeb01fb904f008b5edf67b9af44e4dd790c90b", func := "varve/varvelaw13.PostLists", spec := "postLists", unfollowed := true, recurses := true, apart := false, narrowed := true }
def PostListsUptoSaid : Prop := postListsUptoRow.holds Try.pinned (OpenSpec.upto postListsSpec)

/-- 'varvelaw13.PostMosts', WHERE WHAT IT READS IS OF BULK AT MOST 1048576: true; the input reads as it did. -/
def postMostsUptoRow : OpenClaim := { program := "ytdjiaooieiboaaa", sum := "6e42df8555bf1121e338368204aeb01fb904f008b5edf67b9af44e4dd790c90b", func := "varve/varvelaw13.PostMosts", spec := "postMosts", unfollowed := true, recurses := true, apart := false, narrowed := true }
def PostMostsUptoSaid : Prop := postMostsUptoRow.holds Try.pinned (OpenSpec.upto postMostsSpec)

/-- 'varvelaw13.PostAnds', WHERE WHAT IT READS IS OF BULK AT MOST 1048576: true; the input reads as it did. -/
def postAndsUptoRow : OpenClaim := { program := "ytdjiaooieiboaaa", sum := "6e42df8555bf1121e338368204aeb01fb904f008b5edf67b9af44e4dd790c90b", func := "varve/varvelaw13.PostAnds", spec := "postAnds", unfollowed := true, recurses := true, apart := false, narrowed := true }
def PostAndsUptoSaid : Prop := postAndsUptoRow.holds Try.pinned (OpenSpec.upto postAndsSpec)

/-- 'varvelaw13.PostNests', WHERE WHAT IT READS IS OF BULK AT MOST 1048576: true; the input reads as it did. -/
def postNestsUptoRow : OpenClaim := { program := "ytdjiaooieiboaaa", sum := "6e42df8555bf1121e338368204aeb01fb904f008b5edf67b9af44e4dd790c90b", func := "varve/varvelaw13.PostNests", spec := "postNests", unfollowed := true, recurses := true, apart := false, narrowed := true }
def PostNestsUptoSaid : Prop := postNestsUptoRow.holds Try.pinned (OpenSpec.upto postNestsSpec)

/-- 'varvelaw13.PostLaws', WHERE WHAT IT READS IS OF BULK AT MOST 1048576: true; the input reads as it did. -/
def postLawsUptoRow : OpenClaim := { program := "ytdjiaooieiboaaa", sum := "6e42df8555bf1121e338368204aeb01fb904f008b5edf67b9af44e4dd790c90b", func := "varve/varvelaw13.PostLaws", spec := "postLaws", unfollowed := true, recurses := true, apart := false, narrowed := true }
def PostLawsUptoSaid : Prop := postLawsUptoRow.holds Try.pinned (OpenSpec.upto postLawsSpec)

/-- 'varvelaw13.PostSelf', WHERE WHAT IT READS IS OF BULK AT MOST 1048576: true; the input reads as it did. -/
def postSelfUptoRow : OpenClaim := { program := "ytdjiaooieiboaaa", sum := "6e42df8555bf1121e338368204aeb01fb904f008b5edf67b9af44e4dd790c90b", func := "varve/varvelaw13.PostSelf", spec := "postSelf", unfollowed := true, recurses := true, apart := false, narrowed := true }
def PostSelfUptoSaid : Prop := postSelfUptoRow.holds Try.pinned (OpenSpec.upto postSelfSpec)

end Rows
end Go.Proofs.Ytdjiaooieiboaaa
