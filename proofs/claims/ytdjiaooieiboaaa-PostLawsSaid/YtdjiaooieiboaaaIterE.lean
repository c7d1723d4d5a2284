/- Own text: Less: the maker. -/
import Derived.Test.YtdjiaooieiboaaaIterC
import Derived.Test.YtdjiaooieiboaaaIterD
import Derived.Test.YtdjiaooieiboaaaPAllx1
namespace Go.Proofs.Ytdjiaooieiboaaa
open Go Go.RowKit Go.Shelf Go.Proofs.YtdjiaooieiboaaaW.PrintWords Go.Proofs.Ytdjiaooieiboaaa.PAll

/-- rising, as the code asks it -/
def rises : List Int → Bool
  | a :: b :: l => decide (a < b) && rises (b :: l)
  | _ => true
theorem rises_iff (l : List Int) : rises l = true ↔ ∀ i : Nat, i + 1 < l.length → l.getD i 0 < l.getD (i + 1) 0 := by
  induction l with
  | nil => simp [rises]
  | cons a l ih =>
    cases l with
    | nil => simp [rises]
    | cons b l =>
      simp only [rises, Bool.and_eq_true, decide_eq_true_eq, ih]
      constructor
      · rintro ⟨h, h2⟩ i hi
        cases i with
        | zero => simpa using h
        | succ i => have := h2 i (by simpa using hi); simpa using this
      · intro h
        refine ⟨by simpa using h 0 (by simp), fun i hi => ?_⟩
        have := h (i + 1) (by simpa using hi)
        simpa using this
theorem post_Rises.rises_l0 (l : List Int) (hl : l.length ≤ 100000) : ∀ (d i k : Nat), 1 ≤ i → i ≤ 100001 → l.length ≤ i + d → d < k → (∀ j : Nat, j + 1 < i → j + 1 < l.length → l.getD j 0 < l.getD (j + 1) 0) → post_Rises.l0 k l (i : Int) = some (rises l)
  | d, i, 0, _, _, _, h, _ => by omega
  | d, i, k + 1, h1, hi, hd, hk, hj => by
    have e1 : wrap64 ((i : Int) - 1) = ((i - 1 : Nat) : Int) := by unfold wrap64; omega
    have e2 : wrap64 ((i : Int) + 1) = ((i + 1 : Nat) : Int) := by unfold wrap64; omega
    simp only [post_Rises.l0, e1, e2]
    by_cases hlt : i < l.length
    · rw [if_pos (by omega), if_pos (by omega), if_pos (by omega), if_pos (by omega)]
      have r1 : rd l (i : Int) = l.getD i 0 := by simp [rd]
      have r2 : rd l ((i - 1 : Nat) : Int) = l.getD (i - 1) 0 := by simp [rd]
      rw [r1, r2]
      by_cases hle : l.getD i 0 ≤ l.getD (i - 1) 0
      · rw [if_pos hle]
        have hf : rises l = false := by
          rw [← Bool.not_eq_true, rises_iff]
          intro h
          have := h (i - 1) (by omega)
          rw [show i - 1 + 1 = i by omega] at this
          omega
        rw [hf]
      · rw [if_neg hle]
        refine post_Rises.rises_l0 l hl (d - 1) (i + 1) k (by omega) (by omega) (by omega) (by omega) ?_
        intro j hji hjl
        by_cases e : j + 1 = i
        · have : j = i - 1 := by omega
          subst this
          rw [show i - 1 + 1 = i by omega]
          omega
        · exact hj j (by omega) hjl
    · rw [if_neg (by omega)]
      have hf : rises l = true := by
        rw [rises_iff]
        exact fun j hjl => hj j (by omega) hjl
      rw [hf]
theorem post_Rises.val (l : List Int) (hl : l.length ≤ 100000) : post_Rises.f (l.length + 2) l = some (rises l) :=
  post_Rises.rises_l0 l hl (l.length) 1 (l.length + 2) (Nat.le_refl _) (by omega) (by omega) (by omega) (fun j h _ => by omega)
theorem varveref13_Rises.rises_l0 (l : List Int) (hl : l.length ≤ 100000) : ∀ (d i k : Nat), 1 ≤ i → i ≤ 100001 → l.length ≤ i + d → d < k → (∀ j : Nat, j + 1 < i → j + 1 < l.length → l.getD j 0 < l.getD (j + 1) 0) → varveref13_Rises.l0 k l (i : Int) = some (rises l)
  | d, i, 0, _, _, _, h, _ => by omega
  | d, i, k + 1, h1, hi, hd, hk, hj => by
    have e1 : wrap64 ((i : Int) - 1) = ((i - 1 : Nat) : Int) := by unfold wrap64; omega
    have e2 : wrap64 ((i : Int) + 1) = ((i + 1 : Nat) : Int) := by unfold wrap64; omega
    simp only [varveref13_Rises.l0, e1, e2]
    by_cases hlt : i < l.length
    · rw [if_pos (by omega), if_pos (by omega), if_pos (by omega), if_pos (by omega)]
      have r1 : rd l (i : Int) = l.getD i 0 := by simp [rd]
      have r2 : rd l ((i - 1 : Nat) : Int) = l.getD (i - 1) 0 := by simp [rd]
      rw [r1, r2]
      by_cases hle : l.getD i 0 ≤ l.getD (i - 1) 0
      · rw [if_pos hle]
        have hf : rises l = false := by
          rw [← Bool.not_eq_true, rises_iff]
          intro h
          have := h (i - 1) (by omega)
          rw [show i - 1 + 1 = i by omega] at this
          omega
        rw [hf]
      · rw [if_neg hle]
        refine varveref13_Rises.rises_l0 l hl (d - 1) (i + 1) k (by omega) (by omega) (by omega) (by omega) ?_
        intro j hji hjl
        by_cases e : j + 1 = i
        · have : j = i - 1 := by omega
          subst this
          rw [show i - 1 + 1 = i by omega]
          omega
        · exact hj j (by omega) hjl
    · rw [if_neg (by omega)]
      have hf : rises l = true := by
        rw [rises_iff]
        exact fun j hjl => hj j (by omega) hjl
      rw [hf]
theorem varveref13_Rises.val (l : List Int) (hl : l.length ≤ 100000) : varveref13_Rises.f (l.length + 2) l = some (rises l) :=
  varveref13_Rises.rises_l0 l hl (l.length) 1 (l.length + 2) (Nat.le_refl _) (by omega) (by omega) (by omega) (fun j h _ => by omega)
end Go.Proofs.Ytdjiaooieiboaaa
