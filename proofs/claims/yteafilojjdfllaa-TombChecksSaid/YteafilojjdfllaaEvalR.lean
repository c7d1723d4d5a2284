/- Own text: what a matcher says of labels: the document's answer, as the same plain value. -/
import Derived.Test.YteafilojjdfllaaEvalV
import Derived.Test.YteafilojjdfllaaPAllx9
import Derived.Test.YteafilojjdfllaaPAllx10
namespace Go.Proofs.Yteafilojjdfllaa
open Go Go.RowKit Go.Proofs.YteafilojjdfllaaW.PrintWords Go.Proofs.Yteafilojjdfllaa.PAll

theorem rvalue_l0 (l : List S68) (n : ByteArray) (hl : l.length ≤ 4000000000000000000) : ∀ (d i k : Nat), i ≤ l.length → l.length ≤ i + d → d < k → varveref11_Value.l0 k l n (i : Int) = some (valueL n (l.drop i))
  | d, i, 0, _, _, h => by omega
  | d, i, k + 1, hi, hd, hk => by
    simp only [varveref11_Value.l0, w64s i (by omega), rdT68_nat]
    by_cases hlt : i < l.length
    · have ih := rvalue_l0 l n hl (d - 1) (i + 1) k (by omega) (by omega) (by omega)
      rw [if_pos (by omega), if_pos (by omega), ldrop l i hlt, valueL, ih]
      split <;> rfl
    · rw [if_neg (by omega), List.drop_of_length_le (by omega), valueL]
theorem varveref11_Value.val (l : List S68) (n : ByteArray) (hl : l.length ≤ 4000000000000000000) (k : Nat) (hk : l.length < k) : varveref11_Value.f k l n = some (valueL n l) := by
  have := rvalue_l0 l n hl l.length 0 k (by omega) (by omega) hk
  simpa [varveref11_Value.f] using this

theorem rany_l0 (x : ByteArray) (op : Int) (n v : ByteArray) (vs : List ByteArray) (ks : List S25) (hl : vs.length ≤ 1000) : ∀ (d i k : Nat), i ≤ vs.length → vs.length ≤ i + d → d < k → varveref12_Eval.l0 k x (i : Int) op n v vs ks = some ((vs.drop i).any (fun u => decide (u.toList = x.toList)))
  | d, i, 0, _, _, h => by omega
  | d, i, k + 1, hi, hd, hk => by
    simp only [varveref12_Eval.l0, w64s i (by omega), rdOf_nat]
    by_cases hlt : i < vs.length
    · have ih := rany_l0 x op n v vs ks hl (d - 1) (i + 1) k (by omega) (by omega) (by omega)
      rw [if_pos (by omega), if_pos (by omega), vdrop vs i hlt, List.any_cons, ih]
      by_cases e : (vs.getD i ByteArray.empty).toList = x.toList
      · rw [if_pos e, decide_eq_true e, Bool.true_or]
      · rw [if_neg e, decide_eq_false e, Bool.false_or]
    · rw [if_neg (by omega), List.drop_of_length_le (by omega)]; rfl

theorem reval_kids (l : List S68) (op : Int) (n v : ByteArray) (vs : List ByteArray) (ks : List S25) (h56 : op = 5 ∨ op = 6) (hks : ks.length ≤ 1000) (F : Nat) (h : ∀ j, j < ks.length → ∀ k, F + 3 * nodesM (ks.getD j z25) ≤ k → varveref12_Eval.f k (ks.getD j z25).f0 (ks.getD j z25).f1 (ks.getD j z25).f2 (ks.getD j z25).f3 (ks.getD j z25).f4 l = some (evalM l (ks.getD j z25))) :
    ∀ (d i k : Nat), i ≤ ks.length → ks.length ≤ i + d → F + 3 * nodesL (ks.drop i) + 1 ≤ k → varveref12_Eval.l1 k l (i : Int) op n v vs ks = some (evalL l (op == 6) (ks.drop i))
  | d, i, 0, _, _, hk => by omega
  | d, i, k + 1, hi, hd, hk => by
    simp only [varveref12_Eval.l1, w64s i (by omega), rdT25_nat]
    by_cases hlt : i < ks.length
    · rw [kdrop ks i hlt, nodesL] at hk
      have hp : 1 ≤ nodesM (ks.getD i z25) := by rw [nodesM_mk]; omega
      have ih := reval_kids l op n v vs ks h56 hks F h (d - 1) (i + 1) k (by omega) (by omega) (by omega)
      rw [if_pos (by omega), if_pos (by omega), h i hlt k (by omega), Option.bind_some, kdrop ks i hlt, evalL, ih]
      cases evalM l (ks.getD i z25) <;> cases (op == 6) <;> rfl
    · rw [if_neg (by omega), List.drop_of_length_le (by omega), evalL]
      rcases h56 with rfl | rfl <;> rfl
theorem reval_val (l : List S68) (hl : l.length ≤ 4000000000000000000) : ∀ (N : Nat) (m : S25), nodesM m ≤ N → nodesM m ≤ 1000 → okM m = true → ∀ k, l.length + 30 + 3 * nodesM m ≤ k → varveref12_Eval.f k m.f0 m.f1 m.f2 m.f3 m.f4 l = some (evalM l m) := by
  intro N
  induction N with
  | zero => intro m h; rw [nodesM_mk] at h; omega
  | succ N ih =>
    rintro ⟨op, n, v, vs, ks⟩ hN h1000 hok k hk
    obtain ⟨k, rfl⟩ : ∃ q, k = q + 2 := ⟨k - 2, by omega⟩
    rw [okM_mk, Bool.and_eq_true] at hok
    obtain ⟨ha, hks⟩ := hok
    have hn := nodesM_mk ⟨op, n, v, vs, ks⟩
    have hlk := lenL_nodes ks
    simp only at hn hks hlk ⊢
    have hkid : ∀ j, j < ks.length → ∀ k, l.length + 30 + 3 * nodesM (ks.getD j z25) ≤ k → l.length + 30 + 3 * nodesM (ks.getD j z25) ≤ k → varveref12_Eval.f k (ks.getD j z25).f0 (ks.getD j z25).f1 (ks.getD j z25).f2 (ks.getD j z25).f3 (ks.getD j z25).f4 l = some (evalM l (ks.getD j z25)) := fun j hj k _ hk => by
      have hmem : ks.getD j z25 ∈ ks := by simp [List.getD_eq_getElem?_getD, hj]
      have := nodes_lt ⟨op, n, v, vs, ks⟩ _ hmem
      exact ih _ (by omega) (by omega) (okL_at hks hj) k hk
    simp only [varveref12_Eval.f, varveref11_Value.val l n hl (k + 1) (by omega), Option.bind_some]
    unfold evalM
    by_cases e0 : op = 0
    · rw [if_pos e0, if_pos e0]
    rw [if_neg e0, if_neg e0]
    by_cases e1 : op = 1
    · rw [if_pos e1, if_pos e1]
    rw [if_neg e1, if_neg e1]
    by_cases e2 : op = 2
    · rw [if_pos e2, if_pos e2]
    rw [if_neg e2, if_neg e2]
    by_cases e3 : op = 3
    · rw [if_pos e3, if_pos e3]
      unfold prefB
      by_cases h : v.size ≤ (valueL n l).size
      · rw [if_pos (by omega), if_pos (by omega), if_pos (by omega), decide_eq_true h]
        simp
      · rw [if_neg (by omega), decide_eq_false h]
        simp
    rw [if_neg e3, if_neg e3]
    by_cases e4 : op = 4
    · rw [if_pos e4, if_pos e4]
      have h16 := ok_vals ha e4
      simp only at h16
      have := rany_l0 (valueL n l) op n v vs ks (by omega) vs.length 0 (k + 1) (by omega) (by omega) (by omega)
      simpa using this
    rw [if_neg e4, if_neg e4]
    by_cases e7 : op = 7
    · subst e7
      have h1 := ok_kids ha rfl
      simp only at h1
      have hk0 := hkid 0 (by omega)
      obtain ⟨kid, rfl⟩ : ∃ kid, ks = [kid] := by
        match ks, h1 with
        | [kid], _ => exact ⟨kid, rfl⟩
      have hr : rd_T25 [kid] 0 = kid := by simp [rd_T25]
      simp only [List.getD_cons_zero] at hk0
      have hq := hk0 k (by simp only [nodesL] at hn; omega) (by simp only [nodesL] at hn; omega)
      simp [varveref12_Eval.j1, hr, hq, evalF]
    · rw [if_neg e7]
      by_cases h56 : op = 5 ∨ op = 6
      · have := reval_kids l op n v vs ks h56 (by omega) (l.length + 30) (fun j hj k hk => hkid j hj k (by omega) hk) ks.length 0 k (by omega) (by omega) (by rw [List.drop_zero]; omega)
        rw [List.drop_zero, show ((0 : Nat) : Int) = 0 from rfl] at this
        rcases h56 with rfl | rfl <;> simp [varveref12_Eval.j1, this]
      · exfalso
        have h' : aloneB ⟨op, n, v, vs, ks⟩ = false := by
          simp only [aloneB]
          rw [if_neg e0, if_neg (by omega), if_neg e4, if_neg h56, if_neg e7]
        rw [h'] at ha; cases ha

theorem reval57 (w : World) (m : S25) (A3 : Option Addr) (c3 : Nat) (A4 : Option Addr) (c4 : Nat) (A1 : Option Addr) (c1 : Nat) (l : List S68) (v : Bool) (hv : evalM l m = v) (h1000 : nodesM m ≤ 1000) (hok : okM m = true) (hl : l.length ≤ 4000000000000000000)
    (h3 : m.f3.length ≤ c3) (g3 : Kd.C Kd.string w A3 m.f3.length m.f3) (h4 : m.f4.length ≤ c4) (g4 : Kd.C k25 w A4 m.f4.length m.f4) (h1 : l.length ≤ c1) (g1 : Kd.C k68 w A1 l.length l) :
    Calls Try.prog 57 #[.agg #[.int .i64 m.f0, .string m.f1, .string m.f2, .slice A3 m.f3.length c3, .slice A4 m.f4.length c4], .slice A1 l.length c1] w fun e w' => e = .returned (.bool v) ∧ Below w.heap.size w w' :=
  varveref12_Eval.calls (l.length + 30 + 3 * nodesM m) m.f0 m.f1 m.f2 A3 c3 m.f3 A4 c4 m.f4 A1 c1 l v w g3 h3 g4 h4 g1 h1 (hv ▸ reval_val l hl _ m (Nat.le_refl _) h1000 hok _ (Nat.le_refl _))
end Go.Proofs.Yteafilojjdfllaa
