/- Is, is not, begins, is among, are what they are called, for one label and all texts. No condition. -/
import Derived.Test.YteafilojjdfllaaRowArg
import Derived.Test.YteafilojjdfllaaHeadFacts
import Derived.Test.YteafilojjdfllaaLawMatchLabels
namespace Go.Proofs.Yteafilojjdfllaa.matchLabels
open Go.ChangeShapes Go.WideShapes Go.ChangeAt Go.RowKit Go.Proofs.YteafilojjdfllaaW.PrintWords Go.Proofs.Yteafilojjdfllaa.PAll
set_option linter.unusedVariables false
set_option maxRecDepth 100000 in
theorem lifted (os : Os) (started : os.Started) (H : Type) (enc : TypeId × Value → H) :
    ReturnsInHanded {} Try.checked os 12 .any (Rows.matchLabelsSpec.pre6 enc Try.prog Try.f12 Rows.matchLabelsRow.domain false) (Rows.matchLabelsSpec.post enc Try.prog Try.f12 false true false false) := by
  refine returnsInHanded_of_change_sized (C := Try.checked) own started (by kernel_rfl) Try.func12
    (ChangeSpec.witness6 (enc := enc) (C := Try.checked) false ⟨#[], #[.string ⟨#[]⟩, .string ⟨#[]⟩, .string ⟨#[]⟩, .slice none 0 0], []⟩ 20 (by kernel_rfl) (by kernel_rfl) (by kernel_rfl) (by kernel_rfl)) ?_
  intro W base args ds gs before hval0 hW hcnd hsz0 _
  have hsz : (DataW.weightsEach Try.prog (Try.f12.params.toList ++ Rows.matchLabelsSpec.plain.varTypes Try.prog) (ds ++ gs)).all (· ≤ reachBytes) = true := hsz0
  have hval : ∀ (j : Nat) t v, Try.f12.params[j]? = some t → args[j]? = some v → Value.okWide Try.prog W .any base t v := hval0
  have hW' := hW
  obtain ⟨p, q, hA0, hV, rfl, hfz, hnd⟩ := hW
  have hA : DataW.TrodAll enc Try.prog W 0 (fun _ => true) true Try.f12.params.toList args.toList ds p := hA0
  rw [Try.params12] at hA hval hsz
  have hA0' := hA0
  obtain ⟨v0, vs0, d0, ds0, p0, q0, hargs, rfl, rfl, h0, r0⟩ := trodAll_cons hA
  obtain ⟨v1, vs1, d1, ds1, p1, q1, rfl, rfl, rfl, h1, r1⟩ := trodAll_cons r0
  obtain ⟨v2, vs2, d2, ds2, p2, q2, rfl, rfl, rfl, h2, r2⟩ := trodAll_cons r1
  obtain ⟨v3, vs3, d3, ds3, p3, q3, rfl, rfl, rfl, h3, r3⟩ := trodAll_cons r2
  obtain ⟨rfl, rfl, rfl⟩ := trodAll_nil r3
  obtain rfl : args = #[v0, v1, v2, v3] := by cases args; simp_all
  obtain ⟨rfl, rfl⟩ := trodVars_none hV
  obtain ⟨s0, rfl, hs0⟩ := open_str (hval 0 9 v0 rfl rfl) h0 (hw_of (j := 0) hsz rfl rfl)
  obtain ⟨s1, rfl, hs1⟩ := open_str (hval 1 9 v1 rfl rfl) h1 (hw_of (j := 1) hsz rfl rfl)
  obtain ⟨s2, rfl, hs2⟩ := open_str (hval 2 9 v2 rfl rfl) h2 (hw_of (j := 2) hsz rfl rfl)
  obtain ⟨A3, c3, l3, rfl, hc3, hC3, hz3, hn3, hS3⟩ := open_sl (B := 16) Try.underlying22 cells9 (by kernel_rfl) (fun n => op_string Try.underlying9 n) (hval 3 22 v3 rfl rfl) h3 (hw_of (j := 3) hsz rfl rfl)
  clear hA0 hval0
  refine (matchLabels_walk W s0 s1 s2 l3 A3 c3 hs0 hs2 hc3 hC3 hS3).mono fun e W' ⟨he, bel⟩ => ?_
  subst he
  exact ⟨_, rfl, _, _, _, [], _, [], hW', trodAll_mk1 (shut_bool Try.underlying4 _), trodAll_below bel (by rw [Try.params12]; intro t ht; simp only [List.mem_cons, List.not_mem_nil, or_false] at ht; rcases ht with rfl | rfl | rfl | rfl <;> exact ⟨by kernel_rfl, of_decide_eq_true (by kernel_rfl)⟩) hA0', rfl, bel.frame _, fun h => by cases h⟩
theorem closed : joinedFacts Try.prog 12 Try.f12 Rows.matchLabelsSpec Rows.matchLabelsRow = true := by
  unfold joinedFacts
  rw [pf_laid, pf_maps, pf_stops, pf_knobs, pf_plain, pf_heard, pf_enter, pf_lifts, pf_make]
  kernel_rfl
theorem inst : Try.f12.isInstance Try.prog Rows.matchLabelsRow.origin Rows.matchLabelsRow.targs := of_decide_eq_true (by kernel_rfl)
theorem wrap : Try.f12.isWrapper Try.prog Rows.matchLabelsRow.wrapper Rows.matchLabelsRow.mainSum := by
  unfold Func.isWrapper; first | (rw [if_pos (by decide +kernel)]; kernel_rfl) | (rw [if_neg (by decide +kernel)]; exact ⟨rfl, rfl⟩)
theorem over : Rows.matchLabelsRow.holds Try.pinned (OpenSpec.ofChange Rows.matchLabelsSpec) :=
  OpenClaim.holds_of_wide 12 Try.f12 rfl rfl rfl rfl rfl rfl rfl ⟨rfl, rfl, rfl, rfl, rfl⟩ rfl rfl rfl rfl rfl (by kernel_rfl) Try.func12 closed inst wrap
    (fun os started H enc _ => lifted os started H enc)
end Go.Proofs.Yteafilojjdfllaa.matchLabels
namespace Go.Proofs.Yteafilojjdfllaa
theorem matchLabels_holds : Rows.MatchLabelsSaid := matchLabels.over
#print axioms matchLabels_holds
end Go.Proofs.Yteafilojjdfllaa
