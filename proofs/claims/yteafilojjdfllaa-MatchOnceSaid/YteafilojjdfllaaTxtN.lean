/- Own text: the names in a matcher. -/
import Derived.Test.YteafilojjdfllaaTxt
import Derived.Test.YteafilojjdfllaaPAllx20
namespace Go.Proofs.Yteafilojjdfllaa
open Go Go.RowKit Go.Proofs.YteafilojjdfllaaW.PrintWords Go.Proofs.Yteafilojjdfllaa.PAll

mutual
/-- has it a name in it? -/
def namesB (s : ByteArray) : S25 → Bool
  | ⟨_, n, _, _, ks⟩ => decide (n.toList = s.toList) || namesLB s ks
def namesLB (s : ByteArray) : List S25 → Bool
  | [] => false
  | k :: ks => namesB s k || namesLB s ks
end
theorem value_once (s v n : ByteArray) (h : n.toList ≠ s.toList) : ∀ (l : List S68), valueL n (l ++ [⟨s, v⟩]) = valueL n l
  | [] => by
    simp only [List.nil_append, valueL]
    rw [if_neg (fun e => h e.symm)]
  | x :: l => by
    simp only [List.cons_append, valueL]
    rw [value_once s v n h l]
theorem eval_once (s v : ByteArray) (l : List S68) : ∀ (N : Nat) (m : S25), nodesM m ≤ N → namesB s m = false → evalM (l ++ [⟨s, v⟩]) m = evalM l m := by
  intro N
  induction N with
  | zero => intro m h; rw [nodesM_mk] at h; omega
  | succ N ih =>
    rintro ⟨op, n, u, vs, ks⟩ hN h
    unfold namesB at h
    rw [Bool.or_eq_false_iff, decide_eq_false_iff_not] at h
    have hk : ∀ (l2 : List S25), (∀ k ∈ l2, nodesM k ≤ N) → namesLB s l2 = false → (∀ d, evalL (l ++ [⟨s, v⟩]) d l2 = evalL l d l2) ∧ evalF (l ++ [⟨s, v⟩]) l2 = evalF l l2 := by
      intro l2
      induction l2 with
      | nil => intro _ _; exact ⟨fun _ => rfl, rfl⟩
      | cons k l2 il =>
        intro h1 h2
        unfold namesLB at h2
        rw [Bool.or_eq_false_iff] at h2
        have e := ih k (h1 k (List.mem_cons_self ..)) h2.1
        refine ⟨fun d => ?_, by unfold evalF; exact e⟩
        unfold evalL
        rw [e, (il (fun x hx => h1 x (List.mem_cons_of_mem _ hx)) h2.2).1 d]
    have hk' := hk ks (fun k hk2 => by have := nodes_lt ⟨op, n, u, vs, ks⟩ k hk2; omega) h.2
    unfold evalM
    rw [value_once s v n h.1 l, hk'.2, hk'.1]

theorem names_kids (s : ByteArray) (op : Int) (n v : ByteArray) (vs : List ByteArray) (ks : List S25) (hks : ks.length ≤ 1000) (F : Nat) (h : ∀ j, j < ks.length → ∀ k, F + 3 * nodesM (ks.getD j z25) ≤ k → varvelaw12_names.f k (ks.getD j z25).f0 (ks.getD j z25).f1 (ks.getD j z25).f2 (ks.getD j z25).f3 (ks.getD j z25).f4 s = some (namesB s (ks.getD j z25))) :
    ∀ (d i k : Nat), i ≤ ks.length → ks.length ≤ i + d → F + 3 * nodesL (ks.drop i) + 1 ≤ k → varvelaw12_names.l0 k s (i : Int) op n v vs ks = some (namesLB s (ks.drop i))
  | d, i, 0, _, _, hk => by omega
  | d, i, k + 1, hi, hd, hk => by
    simp only [varvelaw12_names.l0, w64s i (by omega), rdT25_nat]
    by_cases hlt : i < ks.length
    · rw [kdrop ks i hlt, nodesL] at hk
      have hp : 1 ≤ nodesM (ks.getD i z25) := by rw [nodesM_mk]; omega
      have ih := names_kids s op n v vs ks hks F h (d - 1) (i + 1) k (by omega) (by omega) (by omega)
      rw [if_pos (by omega), if_pos (by omega), h i hlt k (by omega), Option.bind_some, kdrop ks i hlt, namesLB, ih]
      cases namesB s (ks.getD i z25) <;> rfl
    · rw [if_neg (by omega), List.drop_of_length_le (by omega), namesLB]
theorem names_val (s : ByteArray) : ∀ (N : Nat) (m : S25), nodesM m ≤ N → nodesM m ≤ 1000 → ∀ k, 30 + 3 * nodesM m ≤ k → varvelaw12_names.f k m.f0 m.f1 m.f2 m.f3 m.f4 s = some (namesB s m) := by
  intro N
  induction N with
  | zero => intro m h; rw [nodesM_mk] at h; omega
  | succ N ih =>
    rintro ⟨op, n, v, vs, ks⟩ hN h1000 k hk
    obtain ⟨k, rfl⟩ : ∃ q, k = q + 1 := ⟨k - 1, by omega⟩
    have hn := nodesM_mk ⟨op, n, v, vs, ks⟩
    have hlk := lenL_nodes ks
    simp only at hn hlk ⊢
    simp only [varvelaw12_names.f, namesB]
    by_cases e : n.toList = s.toList
    · rw [if_pos e, decide_eq_true e, Bool.true_or]
    · rw [if_neg e, decide_eq_false e, Bool.false_or]
      have := names_kids s op n v vs ks (by omega) 30 (fun j hj k hk => by
        have hmem : ks.getD j z25 ∈ ks := by simp [List.getD_eq_getElem?_getD, hj]
        have := nodes_lt ⟨op, n, v, vs, ks⟩ _ hmem
        exact ih _ (by omega) (by omega) k hk) ks.length 0 k (by omega) (by omega) (by rw [List.drop_zero]; omega)
      simpa using this

end Go.Proofs.Yteafilojjdfllaa
