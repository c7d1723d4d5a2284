/- The order in which labels are handed in plays no part for the set, nor does a label with no value. No condition. -/
import Derived.Test.YteafilojjdfllaaRowArg
import Derived.Test.YteafilojjdfllaaHeadFacts
import Derived.Test.YteafilojjdfllaaLawLabelTurns
namespace Go.Proofs.Yteafilojjdfllaa.labelTurns
open Go.ChangeShapes Go.WideShapes Go.ChangeAt Go.RowKit Go.Proofs.YteafilojjdfllaaW.PrintWords Go.Proofs.Yteafilojjdfllaa.PAll
set_option linter.unusedVariables false
set_option maxRecDepth 100000 in
theorem lifted (os : Os) (started : os.Started) (H : Type) (enc : TypeId × Value → H) :
    ReturnsInHanded {} Try.checked os 17 .any (Rows.labelTurnsSpec.pre6 enc Try.prog Try.f17 Rows.labelTurnsRow.domain false) (Rows.labelTurnsSpec.post enc Try.prog Try.f17 false true false false) := by
  refine returnsInHanded_of_change_sized (C := Try.checked) own started (by kernel_rfl) Try.func17
    (ChangeSpec.witness6 (enc := enc) (C := Try.checked) false ⟨#[], #[.slice none 0 0, .int .i64 0, .string ⟨#[]⟩], []⟩ 20 (by kernel_rfl) (by kernel_rfl) (by kernel_rfl) (by kernel_rfl)) ?_
  intro W base args ds gs before hval0 hW hcnd hsz0 _
  have hsz : (DataW.weightsEach Try.prog (Try.f17.params.toList ++ Rows.labelTurnsSpec.plain.varTypes Try.prog) (ds ++ gs)).all (· ≤ reachBytes) = true := hsz0
  have hval : ∀ (j : Nat) t v, Try.f17.params[j]? = some t → args[j]? = some v → Value.okWide Try.prog W .any base t v := hval0
  have hW' := hW
  obtain ⟨p, q, hA0, hV, rfl, hfz, hnd⟩ := hW
  have hA : DataW.TrodAll enc Try.prog W 0 (fun _ => true) true Try.f17.params.toList args.toList ds p := hA0
  rw [Try.params17] at hA hval hsz
  have hA0' := hA0
  obtain ⟨v0, vs0, d0, ds0, p0, q0, hargs, rfl, rfl, h0, r0⟩ := trodAll_cons hA
  obtain ⟨v1, vs1, d1, ds1, p1, q1, rfl, rfl, rfl, h1, r1⟩ := trodAll_cons r0
  obtain ⟨v2, vs2, d2, ds2, p2, q2, rfl, rfl, rfl, h2, r2⟩ := trodAll_cons r1
  obtain ⟨rfl, rfl, rfl⟩ := trodAll_nil r2
  obtain rfl : args = #[v0, v1, v2] := by cases args; simp_all
  obtain ⟨rfl, rfl⟩ := trodVars_none hV
  obtain ⟨A0, c0, l0, rfl, hc0, hC0, hz0, hn0, hS0⟩ := open_sl (B := 32) Try.underlying28 cells68 (by kernel_rfl) op68 (hval 0 28 v0 rfl rfl) h0 (hw_of (j := 0) hsz rfl rfl)
  obtain ⟨a1, rfl, rfl, rfl, w1⟩ := open_int Try.underlying3 (hval 1 3 v1 rfl rfl) h1
  obtain ⟨s2, rfl, hs2⟩ := open_str (hval 2 9 v2 rfl rfl) h2 (hw_of (j := 2) hsz rfl rfl)
  clear hA0 hval0
  refine (labelTurns_walk W l0 A0 c0 a1 s2 hc0 hC0 hz0 hS0 hs2).mono fun e W' ⟨he, bel⟩ => ?_
  subst he
  exact ⟨_, rfl, _, _, _, [], _, [], hW', trodAll_mk1 (shut_bool Try.underlying4 _), trodAll_below bel (by rw [Try.params17]; intro t ht; simp only [List.mem_cons, List.not_mem_nil, or_false] at ht; rcases ht with rfl | rfl | rfl <;> exact ⟨by kernel_rfl, of_decide_eq_true (by kernel_rfl)⟩) hA0', rfl, bel.frame _, fun h => by cases h⟩
theorem closed : joinedFacts Try.prog 17 Try.f17 Rows.labelTurnsSpec Rows.labelTurnsRow = true := by
  unfold joinedFacts
  rw [pf_laid, pf_maps, pf_stops, pf_knobs, pf_plain, pf_heard, pf_enter, pf_lifts, pf_make]
  kernel_rfl
theorem inst : Try.f17.isInstance Try.prog Rows.labelTurnsRow.origin Rows.labelTurnsRow.targs := of_decide_eq_true (by kernel_rfl)
theorem wrap : Try.f17.isWrapper Try.prog Rows.labelTurnsRow.wrapper Rows.labelTurnsRow.mainSum := by
  unfold Func.isWrapper; first | (rw [if_pos (by decide +kernel)]; kernel_rfl) | (rw [if_neg (by decide +kernel)]; exact ⟨rfl, rfl⟩)
theorem over : Rows.labelTurnsRow.holds Try.pinned (OpenSpec.ofChange Rows.labelTurnsSpec) :=
  OpenClaim.holds_of_wide 17 Try.f17 rfl rfl rfl rfl rfl rfl rfl ⟨rfl, rfl, rfl, rfl, rfl⟩ rfl rfl rfl rfl rfl (by kernel_rfl) Try.func17 closed inst wrap
    (fun os started H enc _ => lifted os started H enc)
end Go.Proofs.Yteafilojjdfllaa.labelTurns
namespace Go.Proofs.Yteafilojjdfllaa
theorem labelTurns_holds : Rows.LabelTurnsSaid := labelTurns.over
#print axioms labelTurns_holds
end Go.Proofs.Yteafilojjdfllaa
