/- The program and the document agree on whether a tomb may be, and whether it covers a row. No condition. -/
import Derived.Test.YteafilojjdfllaaRowArg
import Derived.Test.YteafilojjdfllaaHeadFacts
import Derived.Test.YteafilojjdfllaaLawTombChecks
namespace Go.Proofs.Yteafilojjdfllaa.tombChecks
open Go.ChangeShapes Go.WideShapes Go.ChangeAt Go.RowKit Go.Proofs.YteafilojjdfllaaW.PrintWords Go.Proofs.Yteafilojjdfllaa.PAll
set_option linter.unusedVariables false
set_option maxRecDepth 100000 in
theorem lifted (os : Os) (started : os.Started) (H : Type) (enc : TypeId × Value → H) :
    ReturnsInHanded {} Try.checked os 3 .any (Rows.tombChecksSpec.pre6 enc Try.prog Try.f3 Rows.tombChecksRow.domain false) (Rows.tombChecksSpec.post enc Try.prog Try.f3 false true false false) := by
  refine returnsInHanded_of_change_sized (C := Try.checked) own started (by kernel_rfl) Try.func3
    (ChangeSpec.witness6 (enc := enc) (C := Try.checked) false ⟨#[], #[.agg #[.int .i64 0, .int .i64 0, .string ⟨#[]⟩, .string ⟨#[]⟩, .slice none 0 0, .slice none 0 0, .int .i64 0, .int .i64 0], .agg #[.slice none 0 0, .int .i64 0, .slice none 0 0, .slice none 0 0, .int .u64 0, .int .u64 0, .int .u64 0, .int .u64 0]], []⟩ 20 (by kernel_rfl) (by kernel_rfl) (by kernel_rfl) (by kernel_rfl)) ?_
  intro W base args ds gs before hval0 hW hcnd hsz0 _
  have hsz : (DataW.weightsEach Try.prog (Try.f3.params.toList ++ Rows.tombChecksSpec.plain.varTypes Try.prog) (ds ++ gs)).all (· ≤ reachBytes) = true := hsz0
  have hval : ∀ (j : Nat) t v, Try.f3.params[j]? = some t → args[j]? = some v → Value.okWide Try.prog W .any base t v := hval0
  have hW' := hW
  obtain ⟨p, q, hA0, hV, rfl, hfz, hnd⟩ := hW
  have hA : DataW.TrodAll enc Try.prog W 0 (fun _ => true) true Try.f3.params.toList args.toList ds p := hA0
  rw [Try.params3] at hA hval hsz
  have hA0' := hA0
  obtain ⟨v0, vs0, d0, ds0, p0, q0, hargs, rfl, rfl, h0, r0⟩ := trodAll_cons hA
  obtain ⟨v1, vs1, d1, ds1, p1, q1, rfl, rfl, rfl, h1, r1⟩ := trodAll_cons r0
  obtain ⟨rfl, rfl, rfl⟩ := trodAll_nil r1
  obtain rfl : args = #[v0, v1] := by cases args; simp_all
  obtain ⟨rfl, rfl⟩ := trodVars_none hV
  obtain ⟨t0, A3_0, c3_0, A4_0, c4_0, rfl, hM0⟩ := open_t (hval 0 27 v0 rfl rfl) h0 (hw_of (j := 0) hsz rfl rfl)
  obtain ⟨x1, A0_1, c0_1, A5_1, c5_1, A6_1, c6_1, rfl, hR1, hz1⟩ := open_r (hval 1 37 v1 rfl rfl) h1 (hw_of (j := 1) hsz rfl rfl)
  clear hA0 hval0
  refine (tombChecks_walk W t0 x1 A3_0 c3_0 A4_0 c4_0 A0_1 c0_1 A5_1 c5_1 A6_1 c6_1 hz1 hM0 hR1).mono fun e W' ⟨he, bel⟩ => ?_
  subst he
  exact ⟨_, rfl, _, _, _, [], _, [], hW', trodAll_mk1 (shut_bool Try.underlying4 _), trodAll_below bel (by rw [Try.params3]; intro t ht; simp only [List.mem_cons, List.not_mem_nil, or_false] at ht; rcases ht with rfl | rfl <;> exact ⟨by kernel_rfl, of_decide_eq_true (by kernel_rfl)⟩) hA0', rfl, bel.frame _, fun h => by cases h⟩
theorem closed : joinedFacts Try.prog 3 Try.f3 Rows.tombChecksSpec Rows.tombChecksRow = true := by
  unfold joinedFacts
  rw [pf_laid, pf_maps, pf_stops, pf_knobs, pf_plain, pf_heard, pf_enter, pf_lifts, pf_make]
  kernel_rfl
theorem inst : Try.f3.isInstance Try.prog Rows.tombChecksRow.origin Rows.tombChecksRow.targs := of_decide_eq_true (by kernel_rfl)
theorem wrap : Try.f3.isWrapper Try.prog Rows.tombChecksRow.wrapper Rows.tombChecksRow.mainSum := by
  unfold Func.isWrapper; first | (rw [if_pos (by decide +kernel)]; kernel_rfl) | (rw [if_neg (by decide +kernel)]; exact ⟨rfl, rfl⟩)
theorem over : Rows.tombChecksRow.holds Try.pinned (OpenSpec.ofChange Rows.tombChecksSpec) :=
  OpenClaim.holds_of_wide 3 Try.f3 rfl rfl rfl rfl rfl rfl rfl ⟨rfl, rfl, rfl, rfl, rfl⟩ rfl rfl rfl rfl rfl (by kernel_rfl) Try.func3 closed inst wrap
    (fun os started H enc _ => lifted os started H enc)
end Go.Proofs.Yteafilojjdfllaa.tombChecks
namespace Go.Proofs.Yteafilojjdfllaa
theorem tombChecks_holds : Rows.TombChecksSaid := tombChecks.over
#print axioms tombChecks_holds
end Go.Proofs.Yteafilojjdfllaa
