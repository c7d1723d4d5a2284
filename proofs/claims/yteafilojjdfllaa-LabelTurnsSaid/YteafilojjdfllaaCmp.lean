/- Own text: the order of label sets: plain. -/
import Derived.Test.YteafilojjdfllaaChk
import Derived.Lib.Bytealg
namespace Go.Proofs.Yteafilojjdfllaa
open Go Go.Proofs.Yteafilojjdfllaa.PAll

/-! ### texts -/
theorem cmpT_refl : ∀ (a : List UInt8), Lib.compareBytes a a = 0
  | [] => rfl
  | x :: a => by simp [Lib.compareBytes, cmpT_refl a]
theorem cmpT_neg : ∀ (a b : List UInt8), Lib.compareBytes b a = - Lib.compareBytes a b
  | [], [] => rfl
  | [], _ :: _ => rfl
  | _ :: _, [] => rfl
  | x :: a, y :: b => by
    unfold Lib.compareBytes
    by_cases h : x < y
    · have h2 : ¬ y < x := by rw [UInt8.lt_iff_toNat_lt] at h ⊢; omega
      simp [h, h2]
    · by_cases h2 : y < x
      · simp [h, h2]
      · simp only [h, h2, if_false]; exact cmpT_neg a b
theorem cmpT_eq : ∀ {a b : List UInt8}, Lib.compareBytes a b = 0 → a = b
  | [], [], _ => rfl
  | [], _ :: _, h => by cases h
  | _ :: _, [], h => by cases h
  | x :: a, y :: b, h => by
    unfold Lib.compareBytes at h
    by_cases h1 : x < y
    · rw [if_pos h1] at h; cases h
    · by_cases h2 : y < x
      · rw [if_neg h1, if_pos h2] at h; cases h
      · rw [if_neg h1, if_neg h2] at h
        have e : x = y := UInt8.toNat_inj.1 (by rw [UInt8.lt_iff_toNat_lt] at h1 h2; omega)
        rw [cmpT_eq h, e]
theorem cmpT_tri : ∀ (a b : List UInt8), Lib.compareBytes a b = -1 ∨ Lib.compareBytes a b = 0 ∨ Lib.compareBytes a b = 1
  | [], [] => by simp [Lib.compareBytes]
  | [], _ :: _ => by simp [Lib.compareBytes]
  | _ :: _, [] => by simp [Lib.compareBytes]
  | x :: a, y :: b => by
    unfold Lib.compareBytes
    split
    · exact Or.inl rfl
    · split
      · exact Or.inr (Or.inr rfl)
      · exact cmpT_tri a b
theorem cmpT_trans : ∀ {a b c : List UInt8}, Lib.compareBytes a b = -1 → Lib.compareBytes b c = -1 → Lib.compareBytes a c = -1
  | _, [], [], _, h => by cases h
  | [], [], _ :: _, h, _ => by cases h
  | _ :: _, [], _ :: _, h, _ => by cases h
  | _, _ :: _, [], _, h => by cases h
  | [], _ :: _, _ :: _, _, _ => rfl
  | x :: a, y :: b, z :: c, h, h' => by
    unfold Lib.compareBytes at h h' ⊢
    simp only [UInt8.lt_iff_toNat_lt] at *
    by_cases h1 : x.toNat < y.toNat
    · by_cases h2 : y.toNat < z.toNat
      · rw [if_pos (by omega)]
      · rw [if_neg h2] at h'
        by_cases h3 : z.toNat < y.toNat
        · rw [if_pos h3] at h'; cases h'
        · rw [if_pos (by omega)]
    · rw [if_neg h1] at h
      by_cases h3 : y.toNat < x.toNat
      · rw [if_pos h3] at h; cases h
      · rw [if_neg h3] at h
        by_cases h2 : y.toNat < z.toNat
        · rw [if_pos (by omega)]
        · rw [if_neg h2] at h'
          by_cases h4 : z.toNat < y.toNat
          · rw [if_pos h4] at h'; cases h'
          · rw [if_neg h4] at h'
            rw [if_neg (by omega), if_neg (by omega)]
            exact cmpT_trans h h'

/-- which of two labels comes first -/
def cmp1 (x y : S68) : Int := if Lib.compareBytes x.f0.data.toList y.f0.data.toList ≠ 0 then Lib.compareBytes x.f0.data.toList y.f0.data.toList else Lib.compareBytes x.f1.data.toList y.f1.data.toList
/-- which of two sets comes first -/
def cmpS : List S68 → List S68 → Int
  | [], [] => 0
  | [], _ :: _ => -1
  | _ :: _, [] => 1
  | x :: a, y :: b => if cmp1 x y ≠ 0 then cmp1 x y else cmpS a b
theorem ba_extC {a b : ByteArray} (h : a.data.toList = b.data.toList) : a = b := by
  cases a; cases b
  simp only at h
  rw [Array.toList_inj.1 h]
theorem cmp1_neg (x y : S68) : cmp1 y x = - cmp1 x y := by
  unfold cmp1
  rw [cmpT_neg x.f0.data.toList y.f0.data.toList, cmpT_neg x.f1.data.toList y.f1.data.toList]
  split <;> split <;> first | rfl | omega
theorem cmp1_refl (x : S68) : cmp1 x x = 0 := by unfold cmp1; rw [cmpT_refl, if_neg (by decide), cmpT_refl]
theorem cmp1_eq {x y : S68} (h : cmp1 x y = 0) : x = y := by
  unfold cmp1 at h
  by_cases h0 : Lib.compareBytes x.f0.data.toList y.f0.data.toList ≠ 0
  · rw [if_pos h0] at h; exact absurd h h0
  · rw [if_neg h0] at h
    have e0 := ba_extC (cmpT_eq (Decidable.not_not.1 h0))
    have e1 := ba_extC (cmpT_eq h)
    cases x; cases y
    simp only at e0 e1
    rw [e0, e1]
theorem cmp1_tri (x y : S68) : cmp1 x y = -1 ∨ cmp1 x y = 0 ∨ cmp1 x y = 1 := by
  unfold cmp1
  split
  · exact cmpT_tri ..
  · exact cmpT_tri ..
theorem cmp1_trans {x y z : S68} (h : cmp1 x y = -1) (h' : cmp1 y z = -1) : cmp1 x z = -1 := by
  unfold cmp1 at h h' ⊢
  by_cases h1 : Lib.compareBytes x.f0.data.toList y.f0.data.toList = 0
  · rw [if_neg (by simpa using h1)] at h
    rw [cmpT_eq h1]
    by_cases h2 : Lib.compareBytes y.f0.data.toList z.f0.data.toList = 0
    · rw [if_neg (by simpa using h2)] at h' ⊢
      exact cmpT_trans h h'
    · rw [if_pos h2] at h' ⊢
      exact h'
  · rw [if_pos h1] at h
    by_cases h2 : Lib.compareBytes y.f0.data.toList z.f0.data.toList = 0
    · rw [← cmpT_eq h2, if_pos h1]
      exact h
    · rw [if_pos h2] at h'
      have := cmpT_trans h h'
      rw [this, if_pos (by decide)]
theorem cmpS_neg : ∀ (a b : List S68), cmpS b a = - cmpS a b
  | [], [] => rfl
  | [], _ :: _ => rfl
  | _ :: _, [] => rfl
  | x :: a, y :: b => by
    unfold cmpS
    rw [cmp1_neg x y, cmpS_neg a b]
    split <;> split <;> first | rfl | omega
theorem cmpS_refl : ∀ (a : List S68), cmpS a a = 0
  | [] => rfl
  | x :: a => by unfold cmpS; rw [cmp1_refl, if_neg (by decide), cmpS_refl a]
theorem cmpS_eq : ∀ {a b : List S68}, cmpS a b = 0 → a = b
  | [], [], _ => rfl
  | [], _ :: _, h => by cases h
  | _ :: _, [], h => by cases h
  | x :: a, y :: b, h => by
    unfold cmpS at h
    by_cases h1 : cmp1 x y = 0
    · rw [if_neg (by simpa using h1)] at h
      rw [cmp1_eq h1, cmpS_eq h]
    · rw [if_pos h1] at h; exact absurd h h1
theorem cmpS_tri : ∀ (a b : List S68), cmpS a b = -1 ∨ cmpS a b = 0 ∨ cmpS a b = 1
  | [], [] => by simp [cmpS]
  | [], _ :: _ => by simp [cmpS]
  | _ :: _, [] => by simp [cmpS]
  | x :: a, y :: b => by
    unfold cmpS
    split
    · exact cmp1_tri x y
    · exact cmpS_tri a b
theorem cmpS_trans : ∀ {a b c : List S68}, cmpS a b = -1 → cmpS b c = -1 → cmpS a c = -1
  | _, [], [], _, h => by cases h
  | [], [], _ :: _, h, _ => by cases h
  | _ :: _, [], _ :: _, h, _ => by cases h
  | _, _ :: _, [], _, h => by cases h
  | [], _ :: _, _ :: _, _, _ => rfl
  | x :: a, y :: b, z :: c, h, h' => by
    unfold cmpS at h h' ⊢
    by_cases h1 : cmp1 x y = 0
    · rw [if_neg (by simpa using h1)] at h
      rw [cmp1_eq h1]
      by_cases h2 : cmp1 y z = 0
      · rw [if_neg (by simpa using h2)] at h' ⊢
        exact cmpS_trans h h'
      · rw [if_pos h2] at h' ⊢
        exact h'
    · rw [if_pos h1] at h
      by_cases h2 : cmp1 y z = 0
      · rw [← cmp1_eq h2, if_pos h1]
        exact h
      · rw [if_pos h2] at h'
        have := cmp1_trans h h'
        rw [this, if_pos (by decide)]
/-- it orders -/
theorem cmpS_le (a b c : List S68) (h : cmpS a b ≤ 0) (h' : cmpS b c ≤ 0) : ¬ cmpS a c > 0 := by
  rcases cmpS_tri a b with e | e | e
  · rcases cmpS_tri b c with f | f | f
    · rw [cmpS_trans e f]; decide
    · rw [← cmpS_eq f, e]; decide
    · omega
  · rw [cmpS_eq e]; omega
  · omega
theorem cmpS_take (l : List S68) (k : Nat) (h : k ≤ l.length) : cmpS (l.take k) l = if k = l.length then 0 else -1 := by
  induction l generalizing k with
  | nil => obtain rfl : k = 0 := by simpa using h
           rfl
  | cons x l ih =>
    cases k with
    | zero => rfl
    | succ k =>
      simp only [List.take_succ_cons, cmpS, cmp1_refl, List.length_cons]
      rw [if_neg (by decide), ih k (by simpa using h)]
      simp only [Nat.add_right_cancel_iff]
theorem cmpT_more : ∀ (a : List UInt8) (c : UInt8) (r : List UInt8), Lib.compareBytes a (a ++ c :: r) = -1
  | [], _, _ => rfl
  | x :: a, c, r => by simp [Lib.compareBytes, cmpT_more a c r]
/-- a set comes ahead of those with a later last value -/
theorem cmpS_last (l : List S68) (n v v' : ByteArray) (h : Lib.compareBytes v.data.toList v'.data.toList = -1) : cmpS (l ++ [⟨n, v⟩]) (l ++ [⟨n, v'⟩]) = -1 := by
  induction l with
  | nil =>
    simp only [List.nil_append, cmpS, cmp1, cmpT_refl]
    rw [if_neg (show ¬ (0 : Int) ≠ 0 by decide), h, if_pos (by decide)]
  | cons x l ih => simp only [List.cons_append, cmpS, cmp1_refl]; rw [if_neg (by decide), ih]
theorem cmpS_one (y x : S68) (l : List S68) (hn : y.f0 = x.f0) : (cmpS [y] (x :: l) < 0) ↔ (Lib.compareBytes y.f1.data.toList x.f1.data.toList = -1 ∨ y.f1 = x.f1 ∧ l ≠ []) := by
  simp only [cmpS, cmp1, hn, cmpT_refl]
  rw [if_neg (show ¬ (0 : Int) ≠ 0 by decide)]
  rcases cmpT_tri y.f1.data.toList x.f1.data.toList with e | e | e
  · rw [e, if_pos (by decide)]; simp
  · rw [e, if_neg (by decide), ba_extC (cmpT_eq e)]
    cases l <;> simp [cmpS]
  · rw [e, if_pos (by decide)]
    constructor
    · intro h; exact absurd h (by decide)
    · rintro (h | h)
      · cases h
      · rw [h.1, cmpT_refl] at e; cases e
end Go.Proofs.Yteafilojjdfllaa
