/- Own text: Cmp, SortP, laid into one text. -/
import Derived.Test.YteafilojjdfllaaChk
import Derived.Lib.Bytealg
namespace Go.Proofs.Yteafilojjdfllaa
section
open Go Go.Proofs.Yteafilojjdfllaa.PAll

/-! ### texts -/
theorem cmpT_refl : ∀ (a : List UInt8), Lib.compareBytes a a = 0
  | [] => rfl
  | x :: a => by simp [Lib.compareBytes, cmpT_refl a]
theorem cmpT_neg : ∀ (a b : List UInt8), Lib.compareBytes b a = - Lib.compareBytes a b
  | [], [] => rfl
  | [], _ :: _ => rfl
  | _ :: _, [] => rfl
  | x :: a, y :: b => by
    unfold Lib.compareBytes
    by_cases h : x < y
    · have h2 : ¬ y < x := by rw [UInt8.lt_iff_toNat_lt] at h ⊢; omega
      simp [h, h2]
    · by_cases h2 : y < x
      · simp [h, h2]
      · simp only [h, h2, if_false]; exact cmpT_neg a b
theorem cmpT_eq : ∀ {a b : List UInt8}, Lib.compareBytes a b = 0 → a = b
  | [], [], _ => rfl
  | [], _ :: _, h => by cases h
  | _ :: _, [], h => by cases h
  | x :: a, y :: b, h => by
    unfold Lib.compareBytes at h
    by_cases h1 : x < y
    · rw [if_pos h1] at h; cases h
    · by_cases h2 : y < x
      · rw [if_neg h1, if_pos h2] at h; cases h
      · rw [if_neg h1, if_neg h2] at h
        have e : x = y := UInt8.toNat_inj.1 (by rw [UInt8.lt_iff_toNat_lt] at h1 h2; omega)
        rw [cmpT_eq h, e]
theorem cmpT_tri : ∀ (a b : List UInt8), Lib.compareBytes a b = -1 ∨ Lib.compareBytes a b = 0 ∨ Lib.compareBytes a b = 1
  | [], [] => by simp [Lib.compareBytes]
  | [], _ :: _ => by simp [Lib.compareBytes]
  | _ :: _, [] => by simp [Lib.compareBytes]
  | x :: a, y :: b => by
    unfold Lib.compareBytes
    split
    · exact Or.inl rfl
    · split
      · exact Or.inr (Or.inr rfl)
      · exact cmpT_tri a b
theorem cmpT_trans : ∀ {a b c : List UInt8}, Lib.compareBytes a b = -1 → Lib.compareBytes b c = -1 → Lib.compareBytes a c = -1
  | _, [], [], _, h => by cases h
  | [], [], _ :: _, h, _ => by cases h
  | _ :: _, [], _ :: _, h, _ => by cases h
  | _, _ :: _, [], _, h => by cases h
  | [], _ :: _, _ :: _, _, _ => rfl
  | x :: a, y :: b, z :: c, h, h' => by
    unfold Lib.compareBytes at h h' ⊢
    simp only [UInt8.lt_iff_toNat_lt] at *
    by_cases h1 : x.toNat < y.toNat
    · by_cases h2 : y.toNat < z.toNat
      · rw [if_pos (by omega)]
      · rw [if_neg h2] at h'
        by_cases h3 : z.toNat < y.toNat
        · rw [if_pos h3] at h'; cases h'
        · rw [if_pos (by omega)]
    · rw [if_neg h1] at h
      by_cases h3 : y.toNat < x.toNat
      · rw [if_pos h3] at h; cases h
      · rw [if_neg h3] at h
        by_cases h2 : y.toNat < z.toNat
        · rw [if_pos (by omega)]
        · rw [if_neg h2] at h'
          by_cases h4 : z.toNat < y.toNat
          · rw [if_pos h4] at h'; cases h'
          · rw [if_neg h4] at h'
            rw [if_neg (by omega), if_neg (by omega)]
            exact cmpT_trans h h'

/-- which of two labels comes first -/
def cmp1 (x y : S68) : Int := if Lib.compareBytes x.f0.data.toList y.f0.data.toList ≠ 0 then Lib.compareBytes x.f0.data.toList y.f0.data.toList else Lib.compareBytes x.f1.data.toList y.f1.data.toList
/-- which of two sets comes first -/
def cmpS : List S68 → List S68 → Int
  | [], [] => 0
  | [], _ :: _ => -1
  | _ :: _, [] => 1
  | x :: a, y :: b => if cmp1 x y ≠ 0 then cmp1 x y else cmpS a b
theorem ba_extC {a b : ByteArray} (h : a.data.toList = b.data.toList) : a = b := by
  cases a; cases b
  simp only at h
  rw [Array.toList_inj.1 h]
theorem cmp1_neg (x y : S68) : cmp1 y x = - cmp1 x y := by
  unfold cmp1
  rw [cmpT_neg x.f0.data.toList y.f0.data.toList, cmpT_neg x.f1.data.toList y.f1.data.toList]
  split <;> split <;> first | rfl | omega
theorem cmp1_refl (x : S68) : cmp1 x x = 0 := by unfold cmp1; rw [cmpT_refl, if_neg (by decide), cmpT_refl]
theorem cmp1_eq {x y : S68} (h : cmp1 x y = 0) : x = y := by
  unfold cmp1 at h
  by_cases h0 : Lib.compareBytes x.f0.data.toList y.f0.data.toList ≠ 0
  · rw [if_pos h0] at h; exact absurd h h0
  · rw [if_neg h0] at h
    have e0 := ba_extC (cmpT_eq (Decidable.not_not.1 h0))
    have e1 := ba_extC (cmpT_eq h)
    cases x; cases y
    simp only at e0 e1
    rw [e0, e1]
theorem cmp1_tri (x y : S68) : cmp1 x y = -1 ∨ cmp1 x y = 0 ∨ cmp1 x y = 1 := by
  unfold cmp1
  split
  · exact cmpT_tri ..
  · exact cmpT_tri ..
theorem cmp1_trans {x y z : S68} (h : cmp1 x y = -1) (h' : cmp1 y z = -1) : cmp1 x z = -1 := by
  unfold cmp1 at h h' ⊢
  by_cases h1 : Lib.compareBytes x.f0.data.toList y.f0.data.toList = 0
  · rw [if_neg (by simpa using h1)] at h
    rw [cmpT_eq h1]
    by_cases h2 : Lib.compareBytes y.f0.data.toList z.f0.data.toList = 0
    · rw [if_neg (by simpa using h2)] at h' ⊢
      exact cmpT_trans h h'
    · rw [if_pos h2] at h' ⊢
      exact h'
  · rw [if_pos h1] at h
    by_cases h2 : Lib.compareBytes y.f0.data.toList z.f0.data.toList = 0
    · rw [← cmpT_eq h2, if_pos h1]
      exact h
    · rw [if_pos h2] at h'
      have := cmpT_trans h h'
      rw [this, if_pos (by decide)]
theorem cmpS_neg : ∀ (a b : List S68), cmpS b a = - cmpS a b
  | [], [] => rfl
  | [], _ :: _ => rfl
  | _ :: _, [] => rfl
  | x :: a, y :: b => by
    unfold cmpS
    rw [cmp1_neg x y, cmpS_neg a b]
    split <;> split <;> first | rfl | omega
theorem cmpS_refl : ∀ (a : List S68), cmpS a a = 0
  | [] => rfl
  | x :: a => by unfold cmpS; rw [cmp1_refl, if_neg (by decide), cmpS_refl a]
theorem cmpS_eq : ∀ {a b : List S68}, cmpS a b = 0 → a = b
  | [], [], _ => rfl
  | [], _ :: _, h => by cases h
  | _ :: _, [], h => by cases h
  | x :: a, y :: b, h => by
    unfold cmpS at h
    by_cases h1 : cmp1 x y = 0
    · rw [if_neg (by simpa using h1)] at h
      rw [cmp1_eq h1, cmpS_eq h]
    · rw [if_pos h1] at h; exact absurd h h1
theorem cmpS_tri : ∀ (a b : List S68), cmpS a b = -1 ∨ cmpS a b = 0 ∨ cmpS a b = 1
  | [], [] => by simp [cmpS]
  | [], _ :: _ => by simp [cmpS]
  | _ :: _, [] => by simp [cmpS]
  | x :: a, y :: b => by
    unfold cmpS
    split
    · exact cmp1_tri x y
    · exact cmpS_tri a b
theorem cmpS_trans : ∀ {a b c : List S68}, cmpS a b = -1 → cmpS b c = -1 → cmpS a c = -1
  | _, [], [], _, h => by cases h
  | [], [], _ :: _, h, _ => by cases h
  | _ :: _, [], _ :: _, h, _ => by cases h
  | _, _ :: _, [], _, h => by cases h
  | [], _ :: _, _ :: _, _, _ => rfl
  | x :: a, y :: b, z :: c, h, h' => by
    unfold cmpS at h h' ⊢
    by_cases h1 : cmp1 x y = 0
    · rw [if_neg (by simpa using h1)] at h
      rw [cmp1_eq h1]
      by_cases h2 : cmp1 y z = 0
      · rw [if_neg (by simpa using h2)] at h' ⊢
        exact cmpS_trans h h'
      · rw [if_pos h2] at h' ⊢
        exact h'
    · rw [if_pos h1] at h
      by_cases h2 : cmp1 y z = 0
      · rw [← cmp1_eq h2, if_pos h1]
        exact h
      · rw [if_pos h2] at h'
        have := cmp1_trans h h'
        rw [this, if_pos (by decide)]
/-- it orders -/
theorem cmpS_le (a b c : List S68) (h : cmpS a b ≤ 0) (h' : cmpS b c ≤ 0) : ¬ cmpS a c > 0 := by
  rcases cmpS_tri a b with e | e | e
  · rcases cmpS_tri b c with f | f | f
    · rw [cmpS_trans e f]; decide
    · rw [← cmpS_eq f, e]; decide
    · omega
  · rw [cmpS_eq e]; omega
  · omega
theorem cmpS_take (l : List S68) (k : Nat) (h : k ≤ l.length) : cmpS (l.take k) l = if k = l.length then 0 else -1 := by
  induction l generalizing k with
  | nil => obtain rfl : k = 0 := by simpa using h
           rfl
  | cons x l ih =>
    cases k with
    | zero => rfl
    | succ k =>
      simp only [List.take_succ_cons, cmpS, cmp1_refl, List.length_cons]
      rw [if_neg (by decide), ih k (by simpa using h)]
      simp only [Nat.add_right_cancel_iff]
theorem cmpT_more : ∀ (a : List UInt8) (c : UInt8) (r : List UInt8), Lib.compareBytes a (a ++ c :: r) = -1
  | [], _, _ => rfl
  | x :: a, c, r => by simp [Lib.compareBytes, cmpT_more a c r]
/-- a set comes ahead of those with a later last value -/
theorem cmpS_last (l : List S68) (n v v' : ByteArray) (h : Lib.compareBytes v.data.toList v'.data.toList = -1) : cmpS (l ++ [⟨n, v⟩]) (l ++ [⟨n, v'⟩]) = -1 := by
  induction l with
  | nil =>
    simp only [List.nil_append, cmpS, cmp1, cmpT_refl]
    rw [if_neg (show ¬ (0 : Int) ≠ 0 by decide), h, if_pos (by decide)]
  | cons x l ih => simp only [List.cons_append, cmpS, cmp1_refl]; rw [if_neg (by decide), ih]
theorem cmpS_one (y x : S68) (l : List S68) (hn : y.f0 = x.f0) : (cmpS [y] (x :: l) < 0) ↔ (Lib.compareBytes y.f1.data.toList x.f1.data.toList = -1 ∨ y.f1 = x.f1 ∧ l ≠ []) := by
  simp only [cmpS, cmp1, hn, cmpT_refl]
  rw [if_neg (show ¬ (0 : Int) ≠ 0 by decide)]
  rcases cmpT_tri y.f1.data.toList x.f1.data.toList with e | e | e
  · rw [e, if_pos (by decide)]; simp
  · rw [e, if_neg (by decide), ba_extC (cmpT_eq e)]
    cases l <;> simp [cmpS]
  · rw [e, if_pos (by decide)]
    constructor
    · intro h; exact absurd h (by decide)
    · rintro (h | h)
      · cases h
      · rw [h.1, cmpT_refl] at e; cases e
end
section
open Go Go.Proofs.Yteafilojjdfllaa.PAll

/-- a name ahead of another -/
def ltN (x y : S68) : Bool := decide (Lib.compareBytes x.f0.data.toList y.f0.data.toList < 0)
def leN (x y : S68) : Prop := ltN y x = false
theorem ltN_iff {x y : S68} : ltN x y = true ↔ Lib.compareBytes x.f0.data.toList y.f0.data.toList = -1 := by
  unfold ltN
  rw [decide_eq_true_iff]
  rcases cmpT_tri x.f0.data.toList y.f0.data.toList with h | h | h <;> omega
theorem leN_iff {x y : S68} : leN x y ↔ Lib.compareBytes x.f0.data.toList y.f0.data.toList ≤ 0 := by
  unfold leN ltN
  rw [decide_eq_false_iff_not, cmpT_neg x.f0.data.toList y.f0.data.toList]
  omega
theorem leN_trans {x y z : S68} (h : leN x y) (h' : leN y z) : leN x z := by
  rw [leN_iff] at *
  rcases cmpT_tri x.f0.data.toList y.f0.data.toList with h1 | h1 | h1
  · rcases cmpT_tri y.f0.data.toList z.f0.data.toList with h2 | h2 | h2
    · rw [cmpT_trans h1 h2]; decide
    · rw [← cmpT_eq h2]; omega
    · omega
  · rw [cmpT_eq h1]; exact h'
  · omega
theorem ltN_le {x y : S68} (h : ltN x y = true) : leN x y := by rw [leN_iff, ltN_iff.1 h]; decide
/-- where x is put among the first k of m, seen from the end -/
def plN (x : S68) (m : List S68) : Nat → Nat
  | 0 => 0
  | k + 1 => if ltN x (m.getD k z68) then plN x m k else k + 1
def insN (x : S68) (m : List S68) : List S68 := m.take (plN x m m.length) ++ x :: m.drop (plN x m m.length)
def sortN (l : List S68) : List S68 := l.foldl (fun m x => insN x m) []
theorem plN_le (x : S68) (m : List S68) : ∀ k, plN x m k ≤ k
  | 0 => Nat.le_refl _
  | k + 1 => by unfold plN; split; exact Nat.le_trans (plN_le x m k) (Nat.le_succ k); exact Nat.le_refl _
theorem plN_above (x : S68) (m : List S68) : ∀ k i, plN x m k ≤ i → i < k → ltN x (m.getD i z68) = true
  | 0, i, _, h => absurd h (Nat.not_lt_zero i)
  | k + 1, i, h, hi => by
    unfold plN at h
    split at h
    · next hl =>
      by_cases e : i = k
      · rw [e]; exact hl
      · exact plN_above x m k i h (by omega)
    · omega
theorem plN_below (x : S68) (m : List S68) : ∀ k, plN x m k = 0 ∨ ltN x (m.getD (plN x m k - 1) z68) = false
  | 0 => Or.inl rfl
  | k + 1 => by
    unfold plN
    split
    · exact plN_below x m k
    · next hl => exact Or.inr (by simpa using hl)
theorem insN_perm (x : S68) (m : List S68) : (insN x m).Perm (x :: m) := by
  unfold insN
  refine (List.perm_middle).trans ?_
  rw [List.take_append_drop]
theorem insN_len (x : S68) (m : List S68) : (insN x m).length = m.length + 1 := by rw [(insN_perm x m).length_eq]; rfl
theorem insN_sorted (x : S68) (m : List S68) (h : m.Pairwise leN) : (insN x m).Pairwise leN := by
  unfold insN
  have hle := plN_le x m m.length
  have hlow : ∀ a ∈ m.take (plN x m m.length), leN a x := by
    intro a ha
    obtain ⟨i, hi, rfl⟩ := List.mem_iff_getElem.1 ha
    rw [List.length_take] at hi
    rw [List.getElem_take]
    rcases plN_below x m m.length with h0 | h1
    · omega
    · have hq : plN x m m.length - 1 < m.length := by omega
      rw [List.getD_eq_getElem?_getD, List.getElem?_eq_getElem hq, Option.getD_some] at h1
      by_cases e : i = plN x m m.length - 1
      · subst e; exact h1
      · exact leN_trans (List.pairwise_iff_getElem.1 h i (plN x m m.length - 1) (by omega) hq (by omega)) h1
  have hhigh : ∀ a ∈ m.drop (plN x m m.length), leN x a := by
    intro a ha
    obtain ⟨i, hi, rfl⟩ := List.mem_iff_getElem.1 ha
    rw [List.length_drop] at hi
    rw [List.getElem_drop]
    have := plN_above x m m.length (plN x m m.length + i) (by omega) (by omega)
    rw [List.getD_eq_getElem?_getD, List.getElem?_eq_getElem (by omega), Option.getD_some] at this
    exact ltN_le this
  rw [List.pairwise_append]
  refine ⟨h.sublist (List.take_sublist _ _), ?_, ?_⟩
  · rw [List.pairwise_cons]
    exact ⟨hhigh, h.sublist (List.drop_sublist _ _)⟩
  · intro a ha b hb
    rcases List.mem_cons.1 hb with rfl | hb
    · exact hlow a ha
    · exact leN_trans (hlow a ha) (hhigh b hb)
theorem sortF_perm (l : List S68) : ∀ m, (l.foldl (fun m x => insN x m) m).Perm (m ++ l) := by
  induction l with
  | nil => intro m; simp
  | cons x l ih =>
    intro m
    refine (ih (insN x m)).trans ?_
    refine ((insN_perm x m).append_right l).trans ?_
    exact (List.perm_middle (l₁ := m)).symm
theorem sortN_perm (l : List S68) : (sortN l).Perm l := by simpa [sortN] using sortF_perm l []
theorem sortF_sorted (l : List S68) : ∀ m, m.Pairwise leN → (l.foldl (fun m x => insN x m) m).Pairwise leN := by
  induction l with
  | nil => intro m h; exact h
  | cons x l ih => intro m h; exact ih _ (insN_sorted x m h)
theorem sortN_sorted (l : List S68) : (sortN l).Pairwise leN := sortF_sorted l [] List.Pairwise.nil
theorem sortN_len (l : List S68) : (sortN l).length = l.length := (sortN_perm l).length_eq
theorem sortN_snoc (l : List S68) (x : S68) : sortN (l ++ [x]) = insN x (sortN l) := by simp [sortN, List.foldl_append]
/-- the names rise -/
def risesN : List S68 → Bool
  | a :: b :: l => ltN a b && risesN (b :: l)
  | _ => true
theorem ltN_trans {x y z : S68} (h : ltN x y = true) (h' : ltN y z = true) : ltN x z = true := by
  rw [ltN_iff] at *
  exact cmpT_trans h h'
theorem risesN_pair : ∀ (l : List S68), risesN l = true ↔ l.Pairwise (fun a b => ltN a b = true)
  | [] => by simp [risesN]
  | [a] => by simp [risesN]
  | a :: b :: l => by
    have ih := risesN_pair (b :: l)
    unfold risesN
    rw [Bool.and_eq_true, ih, List.pairwise_cons (l := b :: l)]
    constructor
    · rintro ⟨h1, h2⟩
      refine ⟨fun c hc => ?_, h2⟩
      rcases List.mem_cons.1 hc with rfl | hc
      · exact h1
      · exact ltN_trans h1 ((List.pairwise_cons.1 h2).1 c hc)
    · rintro ⟨h1, h2⟩
      exact ⟨h1 b (List.mem_cons_self ..), h2⟩
theorem ltN_irr (x : S68) : ltN x x = false := by unfold ltN; rw [cmpT_refl]; rfl
/-- two lists of the same elements, the one rising, the other not falling, are one -/
theorem rise_uniq : ∀ (a b : List S68), a.Perm b → a.Pairwise (fun x y => ltN x y = true) → b.Pairwise leN → a = b
  | [], b, h, _, _ => (List.nil_perm.1 h).symm
  | x :: a, [], h, _, _ => by have := h.length_eq; simp at this
  | x :: a, y :: b, h, ha, hb => by
    rw [List.pairwise_cons] at ha hb
    have e : x = y := by
      have hy : y ∈ x :: a := h.mem_iff.2 (List.mem_cons_self ..)
      have hx : x ∈ y :: b := h.mem_iff.1 (List.mem_cons_self ..)
      rcases List.mem_cons.1 hy with e | hy
      · exact e.symm
      · rcases List.mem_cons.1 hx with e | hx
        · exact e
        · have h1 := ha.1 y hy
          have h2 := hb.1 x hx
          rw [leN, h1] at h2
          cases h2
    subst e
    rw [rise_uniq a b (List.perm_cons _ |>.1 h) ha.2 hb.2]
/-- may a set be? -/
def okS (x : S68) : Bool := nameB x.f0 && decide (1 ≤ x.f1.size ∧ x.f1.size ≤ 64)
def chkS (l : List S68) : Bool := decide (1 ≤ l.length ∧ l.length ≤ 8) && l.all okS && risesN l
/-- the set of labels, or none -/
def fullS (l : List S68) : List S68 := l.filter (fun x => decide (1 ≤ x.f1.size))
def makeS (l : List S68) : Option (List S68) := if chkS (sortN (fullS l)) then some (sortN (fullS l)) else none
theorem make_perm (a b : List S68) (h : (fullS a).Perm (fullS b)) (hc : chkS (sortN (fullS a)) = true) : sortN (fullS b) = sortN (fullS a) := by
  unfold chkS at hc
  rw [Bool.and_eq_true] at hc
  exact (rise_uniq _ _ ((sortN_perm _).trans (h.trans (sortN_perm _).symm)) ((risesN_pair _).1 hc.2) (sortN_sorted _)).symm
theorem makeS_perm (a b : List S68) (h : (fullS a).Perm (fullS b)) : makeS b = makeS a := by
  unfold makeS
  by_cases hc : chkS (sortN (fullS a)) = true
  · rw [make_perm a b h hc]
  · by_cases hd : chkS (sortN (fullS b)) = true
    · rw [make_perm b a h.symm hd] at hc; exact absurd hd hc
    · rw [if_neg hc, if_neg hd]
theorem full_turn (l : List S68) (k : Nat) (n : ByteArray) : (fullS l).Perm (fullS (l.drop k ++ l.take k ++ [⟨n, ⟨#[]⟩⟩])) := by
  have h1 : fullS (l.drop k ++ l.take k ++ [⟨n, ⟨#[]⟩⟩]) = fullS (l.drop k) ++ fullS (l.take k) := by
    unfold fullS
    rw [List.filter_append, List.filter_append]
    have : ([⟨n, ⟨#[]⟩⟩] : List S68).filter (fun x => decide (1 ≤ x.f1.size)) = [] := rfl
    rw [this, List.append_nil]
  rw [h1]
  have h2 : fullS l = fullS (l.take k) ++ fullS (l.drop k) := by
    unfold fullS
    rw [← List.filter_append, List.take_append_drop]
  rw [h2]
  exact List.perm_append_comm
theorem chk_make {l x : List S68} (h : makeS l = some x) : chkS x = true := by
  unfold makeS at h
  split at h
  · cases h; assumption
  · cases h
end
end Go.Proofs.Yteafilojjdfllaa
