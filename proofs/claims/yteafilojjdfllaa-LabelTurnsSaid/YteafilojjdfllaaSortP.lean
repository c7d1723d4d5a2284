/- Own text: labels put in their order; what a set is: plain. -/
import Derived.Test.YteafilojjdfllaaCmp
namespace Go.Proofs.Yteafilojjdfllaa
open Go Go.Proofs.Yteafilojjdfllaa.PAll

/-- a name ahead of another -/
def ltN (x y : S68) : Bool := decide (Lib.compareBytes x.f0.data.toList y.f0.data.toList < 0)
def leN (x y : S68) : Prop := ltN y x = false
theorem ltN_iff {x y : S68} : ltN x y = true ↔ Lib.compareBytes x.f0.data.toList y.f0.data.toList = -1 := by
  unfold ltN
  rw [decide_eq_true_iff]
  rcases cmpT_tri x.f0.data.toList y.f0.data.toList with h | h | h <;> omega
theorem leN_iff {x y : S68} : leN x y ↔ Lib.compareBytes x.f0.data.toList y.f0.data.toList ≤ 0 := by
  unfold leN ltN
  rw [decide_eq_false_iff_not, cmpT_neg x.f0.data.toList y.f0.data.toList]
  omega
theorem leN_trans {x y z : S68} (h : leN x y) (h' : leN y z) : leN x z := by
  rw [leN_iff] at *
  rcases cmpT_tri x.f0.data.toList y.f0.data.toList with h1 | h1 | h1
  · rcases cmpT_tri y.f0.data.toList z.f0.data.toList with h2 | h2 | h2
    · rw [cmpT_trans h1 h2]; decide
    · rw [← cmpT_eq h2]; omega
    · omega
  · rw [cmpT_eq h1]; exact h'
  · omega
theorem ltN_le {x y : S68} (h : ltN x y = true) : leN x y := by rw [leN_iff, ltN_iff.1 h]; decide
/-- where x is put among the first k of m, seen from the end -/
def plN (x : S68) (m : List S68) : Nat → Nat
  | 0 => 0
  | k + 1 => if ltN x (m.getD k z68) then plN x m k else k + 1
def insN (x : S68) (m : List S68) : List S68 := m.take (plN x m m.length) ++ x :: m.drop (plN x m m.length)
def sortN (l : List S68) : List S68 := l.foldl (fun m x => insN x m) []
theorem plN_le (x : S68) (m : List S68) : ∀ k, plN x m k ≤ k
  | 0 => Nat.le_refl _
  | k + 1 => by unfold plN; split; exact Nat.le_trans (plN_le x m k) (Nat.le_succ k); exact Nat.le_refl _
theorem plN_above (x : S68) (m : List S68) : ∀ k i, plN x m k ≤ i → i < k → ltN x (m.getD i z68) = true
  | 0, i, _, h => absurd h (Nat.not_lt_zero i)
  | k + 1, i, h, hi => by
    unfold plN at h
    split at h
    · next hl =>
      by_cases e : i = k
      · rw [e]; exact hl
      · exact plN_above x m k i h (by omega)
    · omega
theorem plN_below (x : S68) (m : List S68) : ∀ k, plN x m k = 0 ∨ ltN x (m.getD (plN x m k - 1) z68) = false
  | 0 => Or.inl rfl
  | k + 1 => by
    unfold plN
    split
    · exact plN_below x m k
    · next hl => exact Or.inr (by simpa using hl)
theorem insN_perm (x : S68) (m : List S68) : (insN x m).Perm (x :: m) := by
  unfold insN
  refine (List.perm_middle).trans ?_
  rw [List.take_append_drop]
theorem insN_len (x : S68) (m : List S68) : (insN x m).length = m.length + 1 := by rw [(insN_perm x m).length_eq]; rfl
theorem insN_sorted (x : S68) (m : List S68) (h : m.Pairwise leN) : (insN x m).Pairwise leN := by
  unfold insN
  have hle := plN_le x m m.length
  have hlow : ∀ a ∈ m.take (plN x m m.length), leN a x := by
    intro a ha
    obtain ⟨i, hi, rfl⟩ := List.mem_iff_getElem.1 ha
    rw [List.length_take] at hi
    rw [List.getElem_take]
    rcases plN_below x m m.length with h0 | h1
    · omega
    · have hq : plN x m m.length - 1 < m.length := by omega
      rw [List.getD_eq_getElem?_getD, List.getElem?_eq_getElem hq, Option.getD_some] at h1
      by_cases e : i = plN x m m.length - 1
      · subst e; exact h1
      · exact leN_trans (List.pairwise_iff_getElem.1 h i (plN x m m.length - 1) (by omega) hq (by omega)) h1
  have hhigh : ∀ a ∈ m.drop (plN x m m.length), leN x a := by
    intro a ha
    obtain ⟨i, hi, rfl⟩ := List.mem_iff_getElem.1 ha
    rw [List.length_drop] at hi
    rw [List.getElem_drop]
    have := plN_above x m m.length (plN x m m.length + i) (by omega) (by omega)
    rw [List.getD_eq_getElem?_getD, List.getElem?_eq_getElem (by omega), Option.getD_some] at this
    exact ltN_le this
  rw [List.pairwise_append]
  refine ⟨h.sublist (List.take_sublist _ _), ?_, ?_⟩
  · rw [List.pairwise_cons]
    exact ⟨hhigh, h.sublist (List.drop_sublist _ _)⟩
  · intro a ha b hb
    rcases List.mem_cons.1 hb with rfl | hb
    · exact hlow a ha
    · exact leN_trans (hlow a ha) (hhigh b hb)
theorem sortF_perm (l : List S68) : ∀ m, (l.foldl (fun m x => insN x m) m).Perm (m ++ l) := by
  induction l with
  | nil => intro m; simp
  | cons x l ih =>
    intro m
    refine (ih (insN x m)).trans ?_
    refine ((insN_perm x m).append_right l).trans ?_
    exact (List.perm_middle (l₁ := m)).symm
theorem sortN_perm (l : List S68) : (sortN l).Perm l := by simpa [sortN] using sortF_perm l []
theorem sortF_sorted (l : List S68) : ∀ m, m.Pairwise leN → (l.foldl (fun m x => insN x m) m).Pairwise leN := by
  induction l with
  | nil => intro m h; exact h
  | cons x l ih => intro m h; exact ih _ (insN_sorted x m h)
theorem sortN_sorted (l : List S68) : (sortN l).Pairwise leN := sortF_sorted l [] List.Pairwise.nil
theorem sortN_len (l : List S68) : (sortN l).length = l.length := (sortN_perm l).length_eq
theorem sortN_snoc (l : List S68) (x : S68) : sortN (l ++ [x]) = insN x (sortN l) := by simp [sortN, List.foldl_append]
/-- the names rise -/
def risesN : List S68 → Bool
  | a :: b :: l => ltN a b && risesN (b :: l)
  | _ => true
theorem ltN_trans {x y z : S68} (h : ltN x y = true) (h' : ltN y z = true) : ltN x z = true := by
  rw [ltN_iff] at *
  exact cmpT_trans h h'
theorem risesN_pair : ∀ (l : List S68), risesN l = true ↔ l.Pairwise (fun a b => ltN a b = true)
  | [] => by simp [risesN]
  | [a] => by simp [risesN]
  | a :: b :: l => by
    have ih := risesN_pair (b :: l)
    unfold risesN
    rw [Bool.and_eq_true, ih, List.pairwise_cons (l := b :: l)]
    constructor
    · rintro ⟨h1, h2⟩
      refine ⟨fun c hc => ?_, h2⟩
      rcases List.mem_cons.1 hc with rfl | hc
      · exact h1
      · exact ltN_trans h1 ((List.pairwise_cons.1 h2).1 c hc)
    · rintro ⟨h1, h2⟩
      exact ⟨h1 b (List.mem_cons_self ..), h2⟩
theorem ltN_irr (x : S68) : ltN x x = false := by unfold ltN; rw [cmpT_refl]; rfl
/-- two lists of the same elements, the one rising, the other not falling, are one -/
theorem rise_uniq : ∀ (a b : List S68), a.Perm b → a.Pairwise (fun x y => ltN x y = true) → b.Pairwise leN → a = b
  | [], b, h, _, _ => (List.nil_perm.1 h).symm
  | x :: a, [], h, _, _ => by have := h.length_eq; simp at this
  | x :: a, y :: b, h, ha, hb => by
    rw [List.pairwise_cons] at ha hb
    have e : x = y := by
      have hy : y ∈ x :: a := h.mem_iff.2 (List.mem_cons_self ..)
      have hx : x ∈ y :: b := h.mem_iff.1 (List.mem_cons_self ..)
      rcases List.mem_cons.1 hy with e | hy
      · exact e.symm
      · rcases List.mem_cons.1 hx with e | hx
        · exact e
        · have h1 := ha.1 y hy
          have h2 := hb.1 x hx
          rw [leN, h1] at h2
          cases h2
    subst e
    rw [rise_uniq a b (List.perm_cons _ |>.1 h) ha.2 hb.2]
/-- may a set be? -/
def okS (x : S68) : Bool := nameB x.f0 && decide (1 ≤ x.f1.size ∧ x.f1.size ≤ 64)
def chkS (l : List S68) : Bool := decide (1 ≤ l.length ∧ l.length ≤ 8) && l.all okS && risesN l
/-- the set of labels, or none -/
def fullS (l : List S68) : List S68 := l.filter (fun x => decide (1 ≤ x.f1.size))
def makeS (l : List S68) : Option (List S68) := if chkS (sortN (fullS l)) then some (sortN (fullS l)) else none
theorem make_perm (a b : List S68) (h : (fullS a).Perm (fullS b)) (hc : chkS (sortN (fullS a)) = true) : sortN (fullS b) = sortN (fullS a) := by
  unfold chkS at hc
  rw [Bool.and_eq_true] at hc
  exact (rise_uniq _ _ ((sortN_perm _).trans (h.trans (sortN_perm _).symm)) ((risesN_pair _).1 hc.2) (sortN_sorted _)).symm
theorem makeS_perm (a b : List S68) (h : (fullS a).Perm (fullS b)) : makeS b = makeS a := by
  unfold makeS
  by_cases hc : chkS (sortN (fullS a)) = true
  · rw [make_perm a b h hc]
  · by_cases hd : chkS (sortN (fullS b)) = true
    · rw [make_perm b a h.symm hd] at hc; exact absurd hd hc
    · rw [if_neg hc, if_neg hd]
theorem full_turn (l : List S68) (k : Nat) (n : ByteArray) : (fullS l).Perm (fullS (l.drop k ++ l.take k ++ [⟨n, ⟨#[]⟩⟩])) := by
  have h1 : fullS (l.drop k ++ l.take k ++ [⟨n, ⟨#[]⟩⟩]) = fullS (l.drop k) ++ fullS (l.take k) := by
    unfold fullS
    rw [List.filter_append, List.filter_append]
    have : ([⟨n, ⟨#[]⟩⟩] : List S68).filter (fun x => decide (1 ≤ x.f1.size)) = [] := rfl
    rw [this, List.append_nil]
  rw [h1]
  have h2 : fullS l = fullS (l.take k) ++ fullS (l.drop k) := by
    unfold fullS
    rw [← List.filter_append, List.take_append_drop]
  rw [h2]
  exact List.perm_append_comm
theorem chk_make {l x : List S68} (h : makeS l = some x) : chkS x = true := by
  unfold makeS at h
  split at h
  · cases h; assumption
  · cases h
end Go.Proofs.Yteafilojjdfllaa
