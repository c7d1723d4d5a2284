/- The program and the document agree on whether a matcher that may be takes a set of labels, for every matcher and all labels. No condition. -/
import Derived.Test.YteafilojjdfllaaRowArg
import Derived.Test.YteafilojjdfllaaHeadFacts
import Derived.Test.YteafilojjdfllaaLawMatchEvals
namespace Go.Proofs.Yteafilojjdfllaa.matchEvals
open Go.ChangeShapes Go.WideShapes Go.ChangeAt Go.RowKit Go.Proofs.YteafilojjdfllaaW.PrintWords Go.Proofs.Yteafilojjdfllaa.PAll
set_option linter.unusedVariables false
set_option maxRecDepth 100000 in
theorem lifted (os : Os) (started : os.Started) (H : Type) (enc : TypeId × Value → H) :
    ReturnsInHanded {} Try.checked os 10 .any (Rows.matchEvalsSpec.pre6 enc Try.prog Try.f10 Rows.matchEvalsRow.domain false) (Rows.matchEvalsSpec.post enc Try.prog Try.f10 false true false false) := by
  refine returnsInHanded_of_change_sized (C := Try.checked) own started (by kernel_rfl) Try.func10
    (ChangeSpec.witness6 (enc := enc) (C := Try.checked) false ⟨#[], #[.agg #[.int .i64 0, .string ⟨#[]⟩, .string ⟨#[]⟩, .slice none 0 0, .slice none 0 0], .slice none 0 0], []⟩ 20 (by kernel_rfl) (by kernel_rfl) (by kernel_rfl) (by kernel_rfl)) ?_
  intro W base args ds gs before hval0 hW hcnd hsz0 _
  have hsz : (DataW.weightsEach Try.prog (Try.f10.params.toList ++ Rows.matchEvalsSpec.plain.varTypes Try.prog) (ds ++ gs)).all (· ≤ reachBytes) = true := hsz0
  have hval : ∀ (j : Nat) t v, Try.f10.params[j]? = some t → args[j]? = some v → Value.okWide Try.prog W .any base t v := hval0
  have hW' := hW
  obtain ⟨p, q, hA0, hV, rfl, hfz, hnd⟩ := hW
  have hA : DataW.TrodAll enc Try.prog W 0 (fun _ => true) true Try.f10.params.toList args.toList ds p := hA0
  rw [Try.params10] at hA hval hsz
  have hA0' := hA0
  obtain ⟨v0, vs0, d0, ds0, p0, q0, hargs, rfl, rfl, h0, r0⟩ := trodAll_cons hA
  obtain ⟨v1, vs1, d1, ds1, p1, q1, rfl, rfl, rfl, h1, r1⟩ := trodAll_cons r0
  obtain ⟨rfl, rfl, rfl⟩ := trodAll_nil r1
  obtain rfl : args = #[v0, v1] := by cases args; simp_all
  obtain ⟨rfl, rfl⟩ := trodVars_none hV
  obtain ⟨m0, A3_0, c3_0, A4_0, c4_0, rfl, hM0⟩ := open_m (hval 0 25 v0 rfl rfl) h0 (hw_of (j := 0) hsz rfl rfl)
  obtain ⟨A1, c1, l1, rfl, hc1, hC1, hz1, hn1, hS1⟩ := open_sl (B := 32) Try.underlying28 cells68 (by kernel_rfl) op68 (hval 1 28 v1 rfl rfl) h1 (hw_of (j := 1) hsz rfl rfl)
  clear hA0 hval0
  refine (matchEvals_walk W m0 A3_0 c3_0 A4_0 c4_0 A1 c1 l1 hM0 hc1 hC1).mono fun e W' ⟨he, bel⟩ => ?_
  subst he
  exact ⟨_, rfl, _, _, _, [], _, [], hW', trodAll_mk1 (shut_bool Try.underlying4 _), trodAll_below bel (by rw [Try.params10]; intro t ht; simp only [List.mem_cons, List.not_mem_nil, or_false] at ht; rcases ht with rfl | rfl <;> exact ⟨by kernel_rfl, of_decide_eq_true (by kernel_rfl)⟩) hA0', rfl, bel.frame _, fun h => by cases h⟩
theorem closed : joinedFacts Try.prog 10 Try.f10 Rows.matchEvalsSpec Rows.matchEvalsRow = true := by
  unfold joinedFacts
  rw [pf_laid, pf_maps, pf_stops, pf_knobs, pf_plain, pf_heard, pf_enter, pf_lifts, pf_make]
  kernel_rfl
theorem inst : Try.f10.isInstance Try.prog Rows.matchEvalsRow.origin Rows.matchEvalsRow.targs := of_decide_eq_true (by kernel_rfl)
theorem wrap : Try.f10.isWrapper Try.prog Rows.matchEvalsRow.wrapper Rows.matchEvalsRow.mainSum := by
  unfold Func.isWrapper; first | (rw [if_pos (by decide +kernel)]; kernel_rfl) | (rw [if_neg (by decide +kernel)]; exact ⟨rfl, rfl⟩)
theorem over : Rows.matchEvalsRow.holds Try.pinned (OpenSpec.ofChange Rows.matchEvalsSpec) :=
  OpenClaim.holds_of_wide 10 Try.f10 rfl rfl rfl rfl rfl rfl rfl ⟨rfl, rfl, rfl, rfl, rfl⟩ rfl rfl rfl rfl rfl (by kernel_rfl) Try.func10 closed inst wrap
    (fun os started H enc _ => lifted os started H enc)
end Go.Proofs.Yteafilojjdfllaa.matchEvals
namespace Go.Proofs.Yteafilojjdfllaa
theorem matchEvals_holds : Rows.MatchEvalsSaid := matchEvals.over
#print axioms matchEvals_holds
end Go.Proofs.Yteafilojjdfllaa
