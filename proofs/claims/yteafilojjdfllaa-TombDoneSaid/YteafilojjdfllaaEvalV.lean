/- Own text: what a matcher says of labels: the program's answer and the document's, as one plain value. -/
import Derived.Test.YteafilojjdfllaaVals
import Derived.Test.YteafilojjdfllaaPAllx7
namespace Go.Proofs.Yteafilojjdfllaa
open Go Go.RowKit Go.Proofs.YteafilojjdfllaaW.PrintWords Go.Proofs.Yteafilojjdfllaa.PAll

/-- a name's value -/
def valueL (n : ByteArray) : List S68 → ByteArray
  | [] => ⟨#[]⟩
  | x :: l => if x.f0.toList = n.toList then x.f1 else valueL n l
def prefB (t v : ByteArray) : Bool := decide (v.size ≤ t.size) && ((t.extract 0 v.size).toList == v.toList)
mutual
def evalM (l : List S68) : S25 → Bool
  | ⟨op, n, v, vs, ks⟩ =>
    if op = 0 then true else if op = 1 then (valueL n l).toList == v.toList else if op = 2 then (valueL n l).toList != v.toList
    else if op = 3 then prefB (valueL n l) v else if op = 4 then vs.any (fun u => decide (u.toList = (valueL n l).toList))
    else if op = 7 then !(evalF l ks) else evalL l (op == 6) ks
/-- the first kid -/
def evalF (l : List S68) : List S25 → Bool
  | [] => false
  | k :: _ => evalM l k
def evalL (l : List S68) (dec : Bool) : List S25 → Bool
  | [] => !dec
  | k :: ks => if evalM l k == dec then dec else evalL l dec ks
end

theorem ldrop (l : List S68) (i : Nat) (h : i < l.length) : l.drop i = l.getD i z68 :: l.drop (i + 1) := by
  rw [List.drop_eq_getElem_cons h, List.getD_eq_getElem?_getD, List.getElem?_eq_getElem h, Option.getD_some]
theorem rdT68_nat (l : List S68) (i : Nat) : rd_T68 l (i : Int) = l.getD i z68 := by simp [rd_T68]
theorem rdT25_nat (l : List S25) (i : Nat) : rd_T25 l (i : Int) = l.getD i z25 := by simp [rd_T25]
theorem kdrop (l : List S25) (i : Nat) (h : i < l.length) : l.drop i = l.getD i z25 :: l.drop (i + 1) := by
  rw [List.drop_eq_getElem_cons h, List.getD_eq_getElem?_getD, List.getElem?_eq_getElem h, Option.getD_some]

theorem value_l0 (l : List S68) (n : ByteArray) (hl : l.length ≤ 4000000000000000000) : ∀ (d i k : Nat), i ≤ l.length → l.length ≤ i + d → d < k → label_Value.l0 k n l (l.length : Int) (i : Int) = some (valueL n (l.drop i))
  | d, i, 0, _, _, h => by omega
  | d, i, k + 1, hi, hd, hk => by
    simp only [label_Value.l0, w64s i (by omega), rdT68_nat]
    by_cases hlt : i < l.length
    · have ih := value_l0 l n hl (d - 1) (i + 1) k (by omega) (by omega) (by omega)
      rw [if_pos (by omega), if_pos (by omega), if_pos (by omega), ldrop l i hlt, valueL, ih]
      split <;> rfl
    · rw [if_neg (by omega), List.drop_of_length_le (by omega), valueL]
theorem label_Value.val (l : List S68) (n : ByteArray) (hl : l.length ≤ 4000000000000000000) (k : Nat) (hk : l.length < k) : label_Value.f k l n = some (valueL n l) := by
  have := value_l0 l n hl l.length 0 k (by omega) (by omega) hk
  simpa [label_Value.f] using this
theorem any_l0 (x : ByteArray) (vs : List ByteArray) (hl : vs.length ≤ 1000) : ∀ (d i k : Nat), i ≤ vs.length → vs.length ≤ i + d → d < k → match_eval.l0 k x vs (vs.length : Int) (i : Int) = some ((vs.drop i).any (fun u => decide (u.toList = x.toList)))
  | d, i, 0, _, _, h => by omega
  | d, i, k + 1, hi, hd, hk => by
    simp only [match_eval.l0, w64s i (by omega), rdOf_nat]
    by_cases hlt : i < vs.length
    · have ih := any_l0 x vs hl (d - 1) (i + 1) k (by omega) (by omega) (by omega)
      rw [if_pos (by omega), if_pos (by omega), if_pos (by omega), vdrop vs i hlt, List.any_cons, ih]
      by_cases e : (vs.getD i ByteArray.empty).toList = x.toList
      · rw [if_pos e, decide_eq_true e, Bool.true_or]
      · rw [if_neg e, decide_eq_false e, Bool.false_or]
    · rw [if_neg (by omega), List.drop_of_length_le (by omega)]; rfl
theorem ok_vals {m : S25} (h : aloneB m = true) (h4 : m.f0 = 4) : m.f3.length ≤ 16 := by
  unfold aloneB at h
  rw [if_neg (by omega), if_neg (by omega), if_pos h4] at h
  simp only [Bool.and_eq_true] at h
  have := h.2
  unfold valuesB at this
  rw [Bool.and_eq_true, Bool.and_eq_true] at this
  exact (of_decide_eq_true this.1.1).2
theorem ok_kids {m : S25} (h : aloneB m = true) (h7 : m.f0 = 7) : m.f4.length = 1 := by
  unfold aloneB at h
  rw [if_neg (by omega), if_neg (by omega), if_neg (by omega), if_neg (by omega), if_pos h7] at h
  rw [Bool.and_eq_true] at h
  exact of_decide_eq_true h.2

theorem prefix_val (t v : ByteArray) : strings_HasPrefix.f t v = some (prefB t v) := by
  unfold strings_HasPrefix.f stringslite_HasPrefix.f prefB
  by_cases h : v.size ≤ t.size
  · rw [if_pos (by omega), if_pos (by omega), if_pos (by omega), decide_eq_true h]
    simp
  · rw [if_neg (by omega), decide_eq_false h]
    simp
theorem eval_kids (l : List S68) (dec : Bool) (ks : List S25) (hks : ks.length ≤ 1000) (F : Nat) (h : ∀ j, j < ks.length → ∀ k, F + 2 * nodesM (ks.getD j z25) ≤ k → match_eval.f k (ks.getD j z25).f0 (ks.getD j z25).f1 (ks.getD j z25).f2 (ks.getD j z25).f3 (ks.getD j z25).f4 l = some (evalM l (ks.getD j z25))) :
    ∀ (d i k : Nat), i ≤ ks.length → ks.length ≤ i + d → F + 2 * nodesL (ks.drop i) + 1 ≤ k → match_eval.l1 k l dec ks (ks.length : Int) (i : Int) = some (evalL l dec (ks.drop i))
  | d, i, 0, _, _, hk => by omega
  | d, i, k + 1, hi, hd, hk => by
    simp only [match_eval.l1, w64s i (by omega), rdT25_nat]
    by_cases hlt : i < ks.length
    · rw [kdrop ks i hlt, nodesL] at hk
      have hp : 1 ≤ nodesM (ks.getD i z25) := by rw [nodesM_mk]; omega
      have ih := eval_kids l dec ks hks F h (d - 1) (i + 1) k (by omega) (by omega) (by omega)
      rw [if_pos (by omega), if_pos (by omega), if_pos (by omega), h i hlt k (by omega), Option.bind_some, kdrop ks i hlt, evalL, ih]
      cases evalM l (ks.getD i z25) <;> cases dec <;> rfl
    · rw [if_neg (by omega), List.drop_of_length_le (by omega), evalL]

theorem okL_at : ∀ {ks : List S25} {j : Nat}, okL ks = true → j < ks.length → okM (ks.getD j z25) = true
  | k :: ks, 0, h, _ => by simp only [okL, Bool.and_eq_true] at h; exact h.1
  | k :: ks, j + 1, h, hj => by
    simp only [okL, Bool.and_eq_true] at h
    have := okL_at (j := j) h.2 (by simpa using hj)
    simpa using this
theorem lenL_nodes : ∀ (ks : List S25), ks.length ≤ nodesL ks
  | [] => by simp
  | k :: ks => by have := lenL_nodes ks; have h2 := nodesM_mk k; simp only [List.length_cons, nodesL]; omega

theorem eval_val (l : List S68) (hl : l.length ≤ 4000000000000000000) : ∀ (N : Nat) (m : S25), nodesM m ≤ N → nodesM m ≤ 1000 → okM m = true → ∀ k, l.length + 30 + 2 * nodesM m ≤ k → match_eval.f k m.f0 m.f1 m.f2 m.f3 m.f4 l = some (evalM l m) := by
  intro N
  induction N with
  | zero => intro m h; rw [nodesM_mk] at h; omega
  | succ N ih =>
    rintro ⟨op, n, v, vs, ks⟩ hN h1000 hok k hk
    obtain ⟨k, rfl⟩ : ∃ q, k = q + 1 := ⟨k - 1, by omega⟩
    rw [okM_mk, Bool.and_eq_true] at hok
    obtain ⟨ha, hks⟩ := hok
    have hn := nodesM_mk ⟨op, n, v, vs, ks⟩
    have hlk := lenL_nodes ks
    simp only at hn hks hlk ⊢
    have hkid : ∀ j, j < ks.length → ∀ k, l.length + 30 + 2 * nodesM (ks.getD j z25) ≤ k → match_eval.f k (ks.getD j z25).f0 (ks.getD j z25).f1 (ks.getD j z25).f2 (ks.getD j z25).f3 (ks.getD j z25).f4 l = some (evalM l (ks.getD j z25)) := fun j hj k hk => by
      have hmem : ks.getD j z25 ∈ ks := by simp [List.getD_eq_getElem?_getD, hj]
      have := nodes_lt ⟨op, n, v, vs, ks⟩ _ hmem
      exact ih _ (by omega) (by omega) (okL_at hks hj) k hk
    simp only [match_eval.f, label_Value.val l n hl k (by omega), Option.bind_some]
    unfold evalM
    by_cases e0 : op = 0
    · rw [if_pos e0, if_pos e0]
    rw [if_neg e0, if_neg e0]
    by_cases e1 : op = 1
    · rw [if_pos e1, if_pos e1]
    rw [if_neg e1, if_neg e1]
    by_cases e2 : op = 2
    · rw [if_pos e2, if_pos e2]
    rw [if_neg e2, if_neg e2]
    by_cases e3 : op = 3
    · rw [if_pos e3, if_pos e3, prefix_val, Option.bind_some]
    rw [if_neg e3, if_neg e3]
    by_cases e4 : op = 4
    · rw [if_pos e4, if_pos e4]
      have h16 := ok_vals ha e4
      simp only at h16
      have := any_l0 (valueL n l) vs (by omega) vs.length 0 k (by omega) (by omega) (by omega)
      simpa using this
    rw [if_neg e4, if_neg e4]
    by_cases e7 : op = 7
    · rw [if_pos e7, if_pos e7]
      have h1 := ok_kids ha e7
      simp only at h1
      have hk0 := hkid 0 (by omega)
      obtain ⟨kid, rfl⟩ : ∃ kid, ks = [kid] := by
        match ks, h1 with
        | [kid], _ => exact ⟨kid, rfl⟩
      simp only [List.length_singleton]
      have hr : rd_T25 [kid] 0 = kid := by simp [rd_T25]
      simp only [List.getD_cons_zero] at hk0
      rw [if_pos (by omega), hr, hk0 k (by simp only [nodesL] at hn; omega), Option.bind_some]
      rfl
    rw [if_neg e7, if_neg e7]
    have := eval_kids l (op == 6) ks (by omega) (l.length + 30) hkid ks.length 0 k (by omega) (by omega) (by rw [List.drop_zero]; omega)
    simpa using this

theorem eval108 (w : World) (m : S25) (A3 : Option Addr) (c3 : Nat) (A4 : Option Addr) (c4 : Nat) (A1 : Option Addr) (c1 : Nat) (l : List S68) (v : Bool) (hv : evalM l m = v) (h1000 : nodesM m ≤ 1000) (hok : okM m = true) (hl : l.length ≤ 4000000000000000000)
    (h3 : m.f3.length ≤ c3) (g3 : Kd.C Kd.string w A3 m.f3.length m.f3) (h4 : m.f4.length ≤ c4) (g4 : Kd.C k25 w A4 m.f4.length m.f4) (h1 : l.length ≤ c1) (g1 : Kd.C k68 w A1 l.length l) :
    Calls Try.prog 108 #[.agg #[.int .i64 m.f0, .string m.f1, .string m.f2, .slice A3 m.f3.length c3, .slice A4 m.f4.length c4], .slice A1 l.length c1] w fun e w' => e = .returned (.bool v) ∧ Below w.heap.size w w' :=
  match_eval.calls (l.length + 30 + 2 * nodesM m) m.f0 m.f1 m.f2 A3 c3 m.f3 A4 c4 m.f4 A1 c1 l v w g3 h3 g4 h4 g1 h1 (hv ▸ eval_val l hl _ m (Nat.le_refl _) h1000 hok _ (Nat.le_refl _))
end Go.Proofs.Yteafilojjdfllaa
