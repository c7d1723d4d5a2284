/- A set as bytes is what the document says, and is read back; any bytes are read at any place as the document reads them. No condition. -/
import Derived.Test.YteafilojjdfllaaRowArg
import Derived.Test.YteafilojjdfllaaHeadFacts
import Derived.Test.YteafilojjdfllaaLawLabelBytes
namespace Go.Proofs.Yteafilojjdfllaa.labelBytes
open Go.ChangeShapes Go.WideShapes Go.ChangeAt Go.RowKit Go.Proofs.YteafilojjdfllaaW.PrintWords Go.Proofs.Yteafilojjdfllaa.PAll
set_option linter.unusedVariables false
theorem cells5b : Try.prog.cellsOf 5 = Kd.sz (Kd.int .u8) := by kernel_rfl
theorem bytes_of : ∀ (l : List Int), (∀ a ∈ l, (Lit.int .u8 a).wf = true) → ∃ bs : List UInt8, l = bys bs
  | [], _ => ⟨[], rfl⟩
  | a :: l, h => by
    obtain ⟨bs, rfl⟩ := bytes_of l (fun x hx => h x (List.mem_cons_of_mem _ hx))
    have ha := h a (List.mem_cons_self ..)
    refine ⟨a.toNat.toUInt8 :: bs, ?_⟩
    have h2 : 0 ≤ a ∧ a < 256 := by
      have h3 : IntKind.u8.min ≤ a ∧ a ≤ IntKind.u8.max := by simpa [Lit.wf] using ha
      have e0 : IntKind.u8.min = 0 := by decide
      have e1 : IntKind.u8.max = 255 := by decide
      omega
    simp only [bys, List.map_cons, List.cons.injEq, and_true]
    have : (a.toNat.toUInt8).toNat = a.toNat := by simp; omega
    omega
set_option maxRecDepth 100000 in
theorem lifted (os : Os) (started : os.Started) (H : Type) (enc : TypeId × Value → H) :
    ReturnsInHanded {} Try.checked os 23 .any (Rows.labelBytesSpec.pre6 enc Try.prog Try.f23 Rows.labelBytesRow.domain false) (Rows.labelBytesSpec.post enc Try.prog Try.f23 false true false false) := by
  refine returnsInHanded_of_change_sized (C := Try.checked) own started (by kernel_rfl) Try.func23
    (ChangeSpec.witness6 (enc := enc) (C := Try.checked) false ⟨#[], #[.slice none 0 0, .slice none 0 0, .int .i64 0], []⟩ 20 (by kernel_rfl) (by kernel_rfl) (by kernel_rfl) (by kernel_rfl)) ?_
  intro W base args ds gs before hval0 hW hcnd hsz0 _
  have hsz : (DataW.weightsEach Try.prog (Try.f23.params.toList ++ Rows.labelBytesSpec.plain.varTypes Try.prog) (ds ++ gs)).all (· ≤ reachBytes) = true := hsz0
  have hval : ∀ (j : Nat) t v, Try.f23.params[j]? = some t → args[j]? = some v → Value.okWide Try.prog W .any base t v := hval0
  have hW' := hW
  obtain ⟨p, q, hA0, hV, rfl, hfz, hnd⟩ := hW
  have hA : DataW.TrodAll enc Try.prog W 0 (fun _ => true) true Try.f23.params.toList args.toList ds p := hA0
  rw [Try.params23] at hA hval hsz
  have hA0' := hA0
  obtain ⟨v0, vs0, d0, ds0, p0, q0, hargs, rfl, rfl, h0, r0⟩ := trodAll_cons hA
  obtain ⟨v1, vs1, d1, ds1, p1, q1, rfl, rfl, rfl, h1, r1⟩ := trodAll_cons r0
  obtain ⟨v2, vs2, d2, ds2, p2, q2, rfl, rfl, rfl, h2, r2⟩ := trodAll_cons r1
  obtain ⟨rfl, rfl, rfl⟩ := trodAll_nil r2
  obtain rfl : args = #[v0, v1, v2] := by cases args; simp_all
  obtain ⟨rfl, rfl⟩ := trodVars_none hV
  obtain ⟨A0, c0, l0, rfl, hc0, hC0, hz0, hn0, hS0⟩ := open_sl (B := 32) Try.underlying28 cells68 (by kernel_rfl) op68 (hval 0 28 v0 rfl rfl) h0 (hw_of (j := 0) hsz rfl rfl)
  obtain ⟨A1, c1, l1, rfl, hc1, hC1, hz1, hn1, hS1⟩ := open_sl (B := 1) Try.underlying85 cells5b (by kernel_rfl) (fun n => op_int Try.underlying5 n) (hval 1 85 v1 rfl rfl) h1 (hw_of (j := 1) hsz rfl rfl)
  obtain ⟨bs1, rfl⟩ := bytes_of l1 hS1
  obtain ⟨a2, rfl, rfl, rfl, w2⟩ := open_int Try.underlying3 (hval 2 3 v2 rfl rfl) h2
  clear hA0 hval0
  refine (labelBytes_walk W l0 A0 c0 A1 (bys bs1).length c1 bs1 a2 (bys_len bs1).symm hc0 hc1 (by have := hz1; rw [Nat.mul_one] at this; exact this) hC0 (by have := hC1; rw [bys_len] at this; exact this) hz0 hS0).mono fun e W' ⟨he, bel⟩ => ?_
  subst he
  exact ⟨_, rfl, _, _, _, [], _, [], hW', trodAll_mk1 (shut_bool Try.underlying4 _), trodAll_below bel (by rw [Try.params23]; intro t ht; simp only [List.mem_cons, List.not_mem_nil, or_false] at ht; rcases ht with rfl | rfl | rfl <;> exact ⟨by kernel_rfl, of_decide_eq_true (by kernel_rfl)⟩) hA0', rfl, bel.frame _, fun h => by cases h⟩
theorem closed : joinedFacts Try.prog 23 Try.f23 Rows.labelBytesSpec Rows.labelBytesRow = true := by
  unfold joinedFacts
  rw [pf_laid, pf_maps, pf_stops, pf_knobs, pf_plain, pf_heard, pf_enter, pf_lifts, pf_make]
  kernel_rfl
theorem inst : Try.f23.isInstance Try.prog Rows.labelBytesRow.origin Rows.labelBytesRow.targs := of_decide_eq_true (by kernel_rfl)
theorem wrap : Try.f23.isWrapper Try.prog Rows.labelBytesRow.wrapper Rows.labelBytesRow.mainSum := by
  unfold Func.isWrapper; first | (rw [if_pos (by decide +kernel)]; kernel_rfl) | (rw [if_neg (by decide +kernel)]; exact ⟨rfl, rfl⟩)
theorem over : Rows.labelBytesRow.holds Try.pinned (OpenSpec.ofChange Rows.labelBytesSpec) :=
  OpenClaim.holds_of_wide 23 Try.f23 rfl rfl rfl rfl rfl rfl rfl ⟨rfl, rfl, rfl, rfl, rfl⟩ rfl rfl rfl rfl rfl (by kernel_rfl) Try.func23 closed inst wrap
    (fun os started H enc _ => lifted os started H enc)
end Go.Proofs.Yteafilojjdfllaa.labelBytes
namespace Go.Proofs.Yteafilojjdfllaa
theorem labelBytes_holds : Rows.LabelBytesSaid := labelBytes.over
#print axioms labelBytes_holds
end Go.Proofs.Yteafilojjdfllaa
