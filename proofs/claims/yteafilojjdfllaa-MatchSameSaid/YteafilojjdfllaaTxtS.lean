/- Own text: sameness of matchers. -/
import Derived.Test.YteafilojjdfllaaTxt
import Derived.Test.YteafilojjdfllaaPAllx21
namespace Go.Proofs.Yteafilojjdfllaa
open Go Go.RowKit Go.Proofs.YteafilojjdfllaaW.PrintWords Go.Proofs.Yteafilojjdfllaa.PAll

/-! ### sameness -/
mutual
def sameB : S25 → S25 → Bool
  | ⟨o, n, v, vs, ks⟩, ⟨o', n', v', vs', ks'⟩ => decide (o = o' ∧ n = n' ∧ v = v' ∧ vs = vs') && sameLB ks ks'
def sameLB : List S25 → List S25 → Bool
  | [], [] => true
  | k :: ks, j :: js => sameB k j && sameLB ks js
  | _, _ => false
end
theorem same_iff : ∀ (N : Nat) (a b : S25), nodesM a ≤ N → (sameB a b = true ↔ a = b) := by
  intro N
  induction N with
  | zero => intro m _ h; rw [nodesM_mk] at h; omega
  | succ N ih =>
    rintro ⟨o, n, v, vs, ks⟩ ⟨o', n', v', vs', ks'⟩ hN
    have hk : ∀ (l l2 : List S25), (∀ k ∈ l, nodesM k ≤ N) → (sameLB l l2 = true ↔ l = l2) := by
      intro l
      induction l with
      | nil => intro l2 _; cases l2 <;> simp [sameLB]
      | cons k l il =>
        intro l2 h1
        cases l2 with
        | nil => simp [sameLB]
        | cons j l2 =>
          simp only [sameLB, Bool.and_eq_true, List.cons.injEq]
          rw [ih k j (h1 k (List.mem_cons_self ..)), il l2 (fun x hx => h1 x (List.mem_cons_of_mem _ hx))]
    have hk' := hk ks ks' (fun k hk2 => by have := nodes_lt ⟨o, n, v, vs, ks⟩ k hk2; omega)
    simp only [sameB, Bool.and_eq_true, decide_eq_true_iff, S25.mk.injEq]
    rw [hk']
    constructor
    · rintro ⟨⟨h1, h2, h3, h4⟩, h5⟩; exact ⟨h1, h2, h3, h4, h5⟩
    · rintro ⟨h1, h2, h3, h4, h5⟩; exact ⟨⟨h1, h2, h3, h4⟩, h5⟩

theorem ok_len16 {m : S25} (h : okM m = true) : m.f3.length ≤ 16 := by
  rcases shape h with rfl | ⟨op, n, v, ho, hn, rfl⟩ | ⟨n, vs, hn, rfl⟩ | ⟨op, ks, ho, hk, rfl⟩
  · simp
  · simp
  · exact ok_vals16 h
  · simp
theorem same_l0 (vs us : List ByteArray) (hl : vs.length = us.length) (h16 : vs.length ≤ 1000) (o : Int) (n v : ByteArray) (ks : List S25) (o' : Int) (n' v' : ByteArray) (js : List S25) :
    ∀ (d i k : Nat), i ≤ vs.length → vs.length ≤ i + d → d ≤ k → match_same.l0 (k + 1) vs (vs.length : Int) (i : Int) o n v vs ks o' n' v' us js = if vs.drop i = us.drop i then match_same.l1 (k - d + (i + d - vs.length)) ks (ks.length : Int) 0 o' n' v' us js else some false
  | d, i, k, hi, hd, hk => by
    simp only [match_same.l0, w64s i (by omega), rdOf_nat]
    by_cases hlt : i < vs.length
    · obtain ⟨d, rfl⟩ : ∃ q, d = q + 1 := ⟨d - 1, by omega⟩
      obtain ⟨k, rfl⟩ : ∃ q, k = q + 1 := ⟨k - 1, by omega⟩
      have ih := same_l0 vs us hl h16 o n v ks o' n' v' js d (i + 1) k (by omega) (by omega) (by omega)
      rw [if_pos (by omega), if_pos (by omega), if_pos (by omega), if_pos (by omega), ih, vdrop vs i hlt, vdrop us i (by omega)]
      by_cases e : (vs.getD i ByteArray.empty).toList = (us.getD i ByteArray.empty).toList
      · rw [if_pos e, toList_iff.1 e]
        simp only [List.cons.injEq, true_and]
        rw [show k + 1 - (d + 1) + (i + (d + 1) - vs.length) = k - d + (i + 1 + d - vs.length) by omega]
      · rw [if_neg e, if_neg (fun h => e (toList_iff.2 (List.cons.inj h).1))]
    · rw [if_neg (by omega), List.drop_of_length_le (by omega), List.drop_of_length_le (by omega), if_pos rfl]
      rw [show k - d + (i + d - vs.length) = k by omega]
theorem sameLB_len : ∀ (l l2 : List S25), sameLB l l2 = true → l.length = l2.length
  | [], [], _ => rfl
  | [], _ :: _, h => by simp [sameLB] at h
  | _ :: _, [], h => by simp [sameLB] at h
  | k :: l, j :: l2, h => by
    simp only [sameLB, Bool.and_eq_true] at h
    simp only [List.length_cons, sameLB_len l l2 h.2]
theorem same_kids (ks js : List S25) (hl : ks.length = js.length) (hks : ks.length ≤ 1000) (F : Nat) (o' : Int) (n' v' : ByteArray) (us : List ByteArray)
    (h : ∀ j, j < ks.length → ∀ k, F + 50 * nodesM (ks.getD j z25) ≤ k → match_same.f k (ks.getD j z25).f0 (ks.getD j z25).f1 (ks.getD j z25).f2 (ks.getD j z25).f3 (ks.getD j z25).f4 (js.getD j z25).f0 (js.getD j z25).f1 (js.getD j z25).f2 (js.getD j z25).f3 (js.getD j z25).f4 = some (sameB (ks.getD j z25) (js.getD j z25))) :
    ∀ (d i k : Nat), i ≤ ks.length → ks.length ≤ i + d → F + 50 * nodesL (ks.drop i) + 1 ≤ k → match_same.l1 k ks (ks.length : Int) (i : Int) o' n' v' us js = some (sameLB (ks.drop i) (js.drop i))
  | d, i, 0, _, _, hk => by omega
  | d, i, k + 1, hi, hd, hk => by
    simp only [match_same.l1, w64s i (by omega), rdT25_nat]
    by_cases hlt : i < ks.length
    · rw [kdrop ks i hlt, nodesL] at hk
      have hp : 1 ≤ nodesM (ks.getD i z25) := by rw [nodesM_mk]; omega
      have ih := same_kids ks js hl hks F o' n' v' us h (d - 1) (i + 1) k (by omega) (by omega) (by omega)
      rw [if_pos (by omega), if_pos (by omega), if_pos (by omega), if_pos (by omega), h i hlt k (by omega), Option.bind_some, kdrop ks i hlt, kdrop js i (by omega), sameLB, ih]
      cases sameB (ks.getD i z25) (js.getD i z25) <;> rfl
    · rw [if_neg (by omega), List.drop_of_length_le (by omega), List.drop_of_length_le (by omega), sameLB]
theorem same_val : ∀ (N : Nat) (a b : S25), nodesM a ≤ N → nodesM a ≤ 1000 → okM a = true → ∀ k, 30 + 50 * nodesM a ≤ k → match_same.f k a.f0 a.f1 a.f2 a.f3 a.f4 b.f0 b.f1 b.f2 b.f3 b.f4 = some (sameB a b) := by
  intro N
  induction N with
  | zero => intro m _ h; rw [nodesM_mk] at h; omega
  | succ N ih =>
    rintro ⟨o, n, v, vs, ks⟩ ⟨o', n', v', us, js⟩ hN h1000 hok k hk
    obtain ⟨k, rfl⟩ : ∃ q, k = q + 3 := ⟨k - 3, by omega⟩
    have h16 := ok_len16 hok
    rw [okM_mk, Bool.and_eq_true] at hok
    have hn := nodesM_mk ⟨o, n, v, vs, ks⟩
    have hlk := lenL_nodes ks
    simp only at hn hlk h16 ⊢
    have no : ∀ x : Bool, x = true → match_same.j0 (k + 2) x o n v vs ks o' n' v' us js = some false := fun x hx => by
      rw [hx]; simp [match_same.j0]
    simp only [match_same.f, toList_iff]
    unfold sameB
    by_cases e1 : o = o'
    · by_cases e2 : n = n'
      · by_cases e3 : v = v'
        · by_cases e4 : vs.length = us.length
          · rw [if_pos e1, if_pos e2, if_pos e3, if_pos (by omega)]
            by_cases e5 : ks.length = js.length
            · have hb : ((ks.length : Int) != (js.length : Int)) = false := by rw [e5]; simp
              rw [hb]
              simp only [match_same.j0]
              rw [if_neg (by decide)]
              have := same_l0 vs us e4 (by omega) o n v ks o' n' v' js vs.length 0 k (by omega) (by omega) (by omega)
              simp only [List.drop_zero, Nat.zero_add, Nat.sub_self, Nat.add_zero] at this
              rw [show ((0 : Nat) : Int) = 0 from rfl] at this
              rw [this]
              by_cases e6 : vs = us
              · rw [if_pos e6]
                have hk2 := same_kids ks js e5 (by omega) 30 o' n' v' us (fun j hj k hk => by
                  have hmem : ks.getD j z25 ∈ ks := by simp [List.getD_eq_getElem?_getD, hj]
                  have := nodes_lt ⟨o, n, v, vs, ks⟩ _ hmem
                  exact ih _ _ (by omega) (by omega) (okL_mem hok.2 hmem) k hk) ks.length 0 (k - vs.length) (by omega) (by omega) (by rw [List.drop_zero]; omega)
                simp only [List.drop_zero] at hk2
                rw [show ((0 : Nat) : Int) = 0 from rfl] at hk2
                rw [hk2, decide_eq_true ⟨e1, e2, e3, e6⟩, Bool.true_and]
              · rw [if_neg e6, decide_eq_false (fun h => e6 h.2.2.2), Bool.false_and]
            · have hs : sameLB ks js = false := by
                rw [← Bool.not_eq_true]
                exact fun h => e5 (sameLB_len _ _ h)
              rw [hs, Bool.and_false]
              exact no _ (by simp; omega)
          · rw [if_pos e1, if_pos e2, if_pos e3, if_neg (by omega), decide_eq_false (fun h => e4 (by rw [h.2.2.2])), Bool.false_and]
            exact no _ rfl
        · rw [if_pos e1, if_pos e2, if_neg e3, decide_eq_false (fun h => e3 h.2.2.1), Bool.false_and]
          exact no _ rfl
      · rw [if_pos e1, if_neg e2, decide_eq_false (fun h => e2 h.2.1), Bool.false_and]
        exact no _ rfl
    · rw [if_neg e1, decide_eq_false (fun h => e1 h.1), Bool.false_and]
      exact no _ rfl
end Go.Proofs.Yteafilojjdfllaa
