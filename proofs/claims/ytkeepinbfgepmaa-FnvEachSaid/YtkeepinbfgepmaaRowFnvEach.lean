/- Of many texts the iterator tells each one's hash in order, broken off anywhere and gone through again. No condition. -/
import Derived.Test.YtkeepinbfgepmaaFrame
import Derived.Test.YtkeepinbfgepmaaEachD
namespace Go.Proofs.Ytkeepinbfgepmaa.fnvEach
open Go.Proofs.YtkeepinbfgepmaaW.PrintWords Go.Proofs.Ytkeepinbfgepmaa.Each
open Go.ChangeShapes Go.WideShapes Go.ChangeAt Go.RowKit
set_option linter.unusedVariables false
theorem weights_all {H : Type} (P : Program) (e : TypeId) : ∀ (ds : List (DataW H)) (d : DataW H), d ∈ ds → ∀ n ∈ d.weights P e, n ∈ DataW.weightsAll P e ds
  | [], _, h, _, _ => by cases h
  | d0 :: ds, d, h, n, hn => by
    simp only [DataW.weightsAll, List.mem_append]
    rcases List.mem_cons.1 h with rfl | h
    · exact Or.inl hn
    · exact Or.inr (weights_all P e ds d h n hn)
/-- a list of texts as an argument: how it reads, and how long it and each of its texts may be -/
theorem open_texts {H : Type} {enc : TypeId × Value → H} {W : World} {base : Nat} {v : Value} {d : DataW H} {p : List MemPlace} {ts : List TypeId} {ds : List (DataW H)} {j : Nat}
    (hsz : (DataW.weightsEach Try.prog ts ds).all (· ≤ reachBytes) = true) (ht : ts[j]? = some 31) (hd : ds[j]? = some d)
    (hv : Value.okWide Try.prog W .any base 31 v) (h : DataW.Trod enc Try.prog W 0 (fun _ => true) true 31 v d p) :
    ∃ A n c ss, v = .slice A n c ∧ Texts W A n ss ∧ n ≤ c ∧ n * 16 ≤ 140737488351232 ∧ ∀ i, i < n → (ss.getD i ByteArray.empty).size ≤ 140737488351232 := by
  obtain ⟨a0, len, cap, rfl⟩ := okWide_slice Try.underlying31 hv
  obtain ⟨fuel, hf⟩ := h
  have hC : Try.prog.cellsOf 9 = 1 := by kernel_rfl
  have hB : Try.prog.bytesOf 9 = 16 := by kernel_rfl
  rcases open_strings Try.underlying31 Try.underlying9 hC hf with ⟨hcs, hx⟩ | ⟨a, l, c, ss, hcs, _, hl, hm, hlen, hx, hcell, hws⟩
  · simp [Value.cells] at hcs
    obtain ⟨rfl, rfl, rfl⟩ := hcs
    exact ⟨none, 0, 0, [], rfl, ⟨rfl, by simp, fun h => by omega⟩, Nat.le_refl _, by omega, fun i hi => by omega⟩
  · simp [Value.cells] at hcs
    obtain ⟨rfl, rfl, rfl⟩ := hcs
    simp only [Prod.mk.injEq] at hx
    obtain ⟨rfl, _⟩ := hx
    simp only [if_true] at hlen
    have hs := sized_slice hsz ht hd Try.underlying31
    rw [hB] at hs
    simp only [strs, List.length_map, List.length_take, List.length_drop, reachBytes] at hs
    have hn : len * 16 ≤ 140737488351232 := by
      have : len * 16 ≤ (min len ss.length + (ss.length - len)) * 16 := Nat.mul_le_mul_right _ (by omega)
      omega
    refine ⟨some a, len, cap, ss.take len, rfl, ⟨by simp; omega, by omega, fun _ => ⟨a, rfl, fun i hi => ?_⟩⟩, hl, hn, ?_⟩
    · rw [hcell i (by omega)]
      simp [List.getD_eq_getElem?_getD, hi]
    · intro i hi
      have hmem : (DataW.lit (.string (ss.getD i ByteArray.empty).data.toList) : DataW H) ∈ strs (ss.take len) := by
        simp only [strs, List.mem_map]
        refine ⟨ss.getD i ByteArray.empty, ?_, rfl⟩
        rw [List.mem_take_iff_getElem]
        refine ⟨i, by omega, ?_⟩
        simp [List.getD_eq_getElem?_getD, List.getElem?_eq_getElem (show i < ss.length by omega)]
      have hw0 : (ss.getD i ByteArray.empty).data.toList.length ∈ (DataW.slice (strs (ss.take len)) (strs (ss.drop len)) : DataW H).weights Try.prog 31 := by
        simp only [DataW.weights, Try.underlying31, List.mem_cons, List.mem_append]
        exact Or.inr (Or.inl (weights_all Try.prog 9 _ _ hmem _ (by simp [DataW.weights])))
      have hw := DataW.weights_mem_each ht hd _ hw0
      have this := of_decide_eq_true (List.all_eq_true.1 hsz _ hw)
      simp only [reachBytes, Array.length_toList] at this
      have e : ((ss.take len).getD i ByteArray.empty) = ss.getD i ByteArray.empty := by simp [List.getD_eq_getElem?_getD, hi]
      rw [e]
      exact this
set_option maxRecDepth 100000 in
theorem lifted (os : Os) (started : os.Started) (H : Type) (enc : TypeId × Value → H) :
    ReturnsInHanded {} Try.checked os 6 .any (Rows.fnvEachSpec.pre6 enc Try.prog Try.f6 Rows.fnvEachRow.domain false) (Rows.fnvEachSpec.post enc Try.prog Try.f6 false true false false) := by
  refine returnsInHanded_of_change_sized (C := Try.checked) own started (by kernel_rfl) Try.func6
    (ChangeSpec.witness6 (enc := enc) (C := Try.checked) false ⟨#[], #[.slice none 0 0, .int .i64 0], []⟩ 8 (by kernel_rfl) (by kernel_rfl) (by kernel_rfl) (by kernel_rfl)) ?_
  intro W base args ds gs before hval0 hW hcnd hsz0 _
  have hsz : (DataW.weightsEach Try.prog (Try.f6.params.toList ++ Rows.fnvEachSpec.plain.varTypes Try.prog) (ds ++ gs)).all (· ≤ reachBytes) = true := hsz0
  have hval : ∀ (j : Nat) t v, Try.f6.params[j]? = some t → args[j]? = some v → Value.okWide Try.prog W .any base t v := hval0
  have hW' := hW
  obtain ⟨p, q, hA0, hV, rfl, hfz, hnd⟩ := hW
  have hA : DataW.TrodAll enc Try.prog W 0 (fun _ => true) true Try.f6.params.toList args.toList ds p := hA0
  rw [Try.params6] at hA hval hsz
  have hA0' := hA0
  obtain ⟨v0, vs0, d0, ds0, p0, q0, hargs, rfl, rfl, h0, r0⟩ := trodAll_cons hA
  obtain ⟨v1, vs1, d1, ds1, p1, q1, rfl, rfl, rfl, h1, r1⟩ := trodAll_cons r0
  obtain ⟨rfl, rfl, rfl⟩ := trodAll_nil r1
  obtain rfl : args = #[v0, v1] := by cases args; simp_all
  obtain ⟨rfl, rfl⟩ := trodVars_none hV
  obtain ⟨A, n, c, ss, rfl, ht, hnc, hn, hss⟩ := open_texts hsz (j := 0) rfl rfl (hval 0 31 v0 rfl rfl) h0
  obtain ⟨a1, rfl, rfl, rfl, w1⟩ := open_int Try.underlying3 (hval 1 3 v1 rfl rfl) h1
  clear hA0 hval0
  refine (fnvEach_walk A n c a1 ss W ht hnc hn hss).mono fun e W' ⟨he, bel⟩ => ?_
  subst he
  exact ⟨_, rfl, _, _, _, [], _, [], hW', trodAll_mk1 (shut_bool Try.underlying4 _), trodAll_below bel (by rw [Try.params6]; intro t ht; simp only [List.mem_cons, List.not_mem_nil, or_false] at ht; rcases ht with rfl | rfl <;> exact ⟨by kernel_rfl, of_decide_eq_true (by kernel_rfl)⟩) hA0', rfl, bel.frame _, fun h => by cases h⟩
theorem over : Rows.fnvEachRow.holds Try.pinned (OpenSpec.ofChange Rows.fnvEachSpec) :=
  OpenClaim.holds_of_wide 6 Try.f6 rfl rfl rfl rfl rfl rfl rfl ⟨rfl, rfl, rfl, rfl, rfl⟩ rfl rfl rfl rfl rfl (by kernel_rfl) Try.func6 (by kernel_rfl)
    (of_decide_eq_true (by kernel_rfl)) (by unfold Func.isWrapper; first | (rw [if_pos (by decide +kernel)]; kernel_rfl) | (rw [if_neg (by decide +kernel)]; exact ⟨rfl, rfl⟩))
    (fun os started H enc _ => lifted os started H enc)
end Go.Proofs.Ytkeepinbfgepmaa.fnvEach
namespace Go.Proofs.Ytkeepinbfgepmaa
theorem fnvEach_holds : Rows.FnvEachSaid := fnvEach.over
#print axioms fnvEach_holds
end Go.Proofs.Ytkeepinbfgepmaa
