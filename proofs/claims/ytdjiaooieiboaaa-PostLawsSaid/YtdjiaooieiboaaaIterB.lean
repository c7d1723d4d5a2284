/- Own text: Most's closure: what it tells, as a Lean function, and its walk. -/
import Derived.Test.YtdjiaooieiboaaaIterA
import Derived.Deep.OwnRows
namespace Go.Proofs.Ytdjiaooieiboaaa
open Go Go.RowKit Go.Shelf Go.Proofs.YtdjiaooieiboaaaW.PrintWords
attribute [local go_sem] Oper.semAt_some

/-! ### the merge, by positions: list i stands at place f i -/
def hd (ls : List (List Int)) (f : Nat → Nat) (i : Nat) : Option Int := (ls.getD i [])[f i]?
def acc (ls : List (List Int)) (f : Nat → Nat) : Nat → Option Int
  | 0 => none
  | p + 1 => match hd ls f p with
    | none => acc ls f p
    | some x => match acc ls f p with
      | none => some x
      | some n => if x < n then some x else some n
def adv (ls : List (List Int)) (n : Int) (f : Nat → Nat) (i : Nat) : Nat := if hd ls f i = some n then f i + 1 else f i
def cnt (ls : List (List Int)) (n : Int) (f : Nat → Nat) : Nat → Nat
  | 0 => 0
  | p + 1 => cnt ls n f p + (if hd ls f p = some n then 1 else 0)
def tot (ls : List (List Int)) (f : Nat → Nat) : Nat → Nat
  | 0 => 0
  | p + 1 => tot ls f p + ((ls.getD p []).length - f p)
def mg (ls : List (List Int)) (k : Int) : Nat → (Nat → Nat) → List Int
  | 0, _ => []
  | c + 1, f => match acc ls f ls.length with
    | none => []
    | some n => if (cnt ls n f ls.length : Int) < k then mg ls k c (adv ls n f) else n :: mg ls k c (adv ls n f)
def mostGo (ls : List (List Int)) (k : Int) : List Int := mg ls k (tot ls (fun _ => 0) ls.length + 1) (fun _ => 0)

theorem hd_some {ls : List (List Int)} {f : Nat → Nat} {i : Nat} (h : f i < (ls.getD i []).length) : hd ls f i = some ((ls.getD i []).getD (f i) 0) := by
  unfold hd; simp [List.getD_eq_getElem?_getD, List.getElem?_eq_getElem (by simpa [List.getD_eq_getElem?_getD] using h : f i < (ls[i]?.getD []).length)]
theorem hd_none {ls : List (List Int)} {f : Nat → Nat} {i : Nat} (h : ¬ f i < (ls.getD i []).length) : hd ls f i = none := by
  unfold hd; exact List.getElem?_eq_none (by omega)
theorem hd_lt {ls : List (List Int)} {f : Nat → Nat} {i : Nat} {x : Int} (h : hd ls f i = some x) : f i < (ls.getD i []).length := by
  by_cases hl : f i < (ls.getD i []).length
  · exact hl
  · rw [hd_none hl] at h; cases h
theorem acc_hd {ls : List (List Int)} {f : Nat → Nat} {n : Int} : ∀ {p : Nat}, acc ls f p = some n → ∃ i, i < p ∧ hd ls f i = some n
  | 0, h => by simp [acc] at h
  | p + 1, h => by
    unfold acc at h
    cases hh : hd ls f p with
    | none => rw [hh] at h; obtain ⟨i, hi, e⟩ := acc_hd h; exact ⟨i, by omega, e⟩
    | some x =>
      rw [hh] at h
      cases ha : acc ls f p with
      | none => rw [ha] at h; exact ⟨p, by omega, by rw [hh]; exact h⟩
      | some m =>
        rw [ha] at h
        simp only at h
        split at h
        · exact ⟨p, by omega, by rw [hh]; exact h⟩
        · obtain ⟨i, hi, e⟩ := acc_hd (ha.trans h); exact ⟨i, by omega, e⟩
theorem tot_adv_le (ls : List (List Int)) (f : Nat → Nat) (n : Int) : ∀ p, tot ls (adv ls n f) p ≤ tot ls f p
  | 0 => Nat.le_refl _
  | p + 1 => by
    have := tot_adv_le ls f n p
    have h2 : f p ≤ adv ls n f p := by unfold adv; split <;> omega
    simp only [tot]; omega
theorem tot_adv_lt (ls : List (List Int)) (f : Nat → Nat) (n : Int) : ∀ p i, i < p → hd ls f i = some n → tot ls (adv ls n f) p < tot ls f p
  | 0, _, h, _ => by omega
  | p + 1, i, hi, h => by
    have h1 := tot_adv_le ls f n p
    by_cases e : i = p
    · subst e
      have h2 := hd_lt h
      have h3 : adv ls n f i = f i + 1 := by unfold adv; rw [if_pos h]
      simp only [tot, h3]; omega
    · have h4 := tot_adv_lt ls f n p i (by omega) h
      have h2 : f p ≤ adv ls n f p := by unfold adv; split <;> omega
      simp only [tot]; omega
theorem mg_len (ls : List (List Int)) (k : Int) : ∀ (c : Nat) (f : Nat → Nat), (mg ls k c f).length ≤ tot ls f ls.length
  | 0, _ => by simp [mg]
  | c + 1, f => by
    unfold mg
    cases h : acc ls f ls.length with
    | none => simp
    | some n =>
      obtain ⟨i, hi, hh⟩ := acc_hd h
      have h1 := tot_adv_lt ls f n ls.length i hi hh
      have h2 := mg_len ls k c (adv ls n f)
      simp only
      split <;> simp <;> omega
theorem cnt_le (ls : List (List Int)) (n : Int) (f : Nat → Nat) : ∀ p, cnt ls n f p ≤ p
  | 0 => Nat.le_refl _
  | p + 1 => by have := cnt_le ls n f p; simp only [cnt]; split <;> omega

/-- v reads a list of lists -/
def RL (w : World) (v : Value) (ls : List (List Int)) : Prop := ∃ A c, v = .slice A ls.length c ∧ ls.length ≤ c ∧ (∀ i, i < ls.length → ∃ ad vi, A = some ad ∧ w.cell? (ad.add i) = some vi ∧ RI w vi (ls.getD i []))

/-- the places, as the closure's own row -/
abbrev AT (A L : Nat) (f : Nat → Nat) (W : World) : Prop := W.rowIs A 3 L (fun i => .int .i64 (f i : Int))
def totW (ls : List (List Int)) (A : Nat) (W : World) : Nat → Nat
  | 0 => 0
  | p + 1 => totW ls A W p + ((ls.getD p []).length - (intOf ((W.cell? ⟨A, p, none⟩).getD undef)).toNat)
theorem totW_eq {ls : List (List Int)} {A L : Nat} {f : Nat → Nat} {W : World} (h : AT A L f W) : ∀ p, p ≤ L → totW ls A W p = tot ls f p
  | 0, _ => rfl
  | p + 1, hp => by simp [totW, tot, totW_eq h p (by omega), World.rowIs.cell h (show p < L by omega), intOf]

end Go.Proofs.Ytdjiaooieiboaaa
