/- Of any text, behind any number, the program's hash is the document's. No condition. -/
import Derived.Test.YtkeepinbfgepmaaPFnvOfx1
import Derived.Test.YtkeepinbfgepmaaFnvPlain
namespace Go.Proofs.Ytkeepinbfgepmaa.Pure
namespace ForFnvOf
open Go.RowKit Go.Proofs.Ytkeepinbfgepmaa.PFnvOf Go.Proofs.YtkeepinbfgepmaaW.PrintWords Go.Proofs.YtkeepinbfgepmaaW.PrintLast Go.Proofs.Ytkeepinbfgepmaa.FnvPlain
/-- the program's loop, from place i on -/
theorem more_l0 (s : ByteArray) (hs : s.size ≤ 140737488351232) : ∀ (d k : Nat) (h i : Int), 0 ≤ i → i + d = s.size → d < k → fnv_More.l0 k h s (s.size : Int) i = some (go d h s i)
  | 0, k, h, i, h0, hd, hk => by
    obtain ⟨k, rfl⟩ : ∃ m, k = m + 1 := ⟨k - 1, by omega⟩
    simp only [fnv_More.l0, go]
    rw [if_neg (by omega)]
  | d + 1, k, h, i, h0, hd, hk => by
    obtain ⟨k, rfl⟩ : ∃ m, k = m + 1 := ⟨k - 1, by omega⟩
    simp only [fnv_More.l0, go]
    rw [if_pos (by omega), if_pos h0, if_pos (by omega)]
    rw [show wrap64 (i + 1) = i + 1 from by unfold wrap64; omega]
    exact more_l0 s hs d k _ _ (by omega) (by omega) (by omega)
theorem more_f (s : ByteArray) (hs : s.size ≤ 140737488351232) (k : Nat) (h : Int) (hk : s.size < k) : fnv_More.f k h s = some (go s.size h s 0) := by
  unfold fnv_More.f
  exact more_l0 s hs s.size k h 0 (by omega) (by omega) hk
theorem of_f (s : ByteArray) (hs : s.size ≤ 140737488351232) (k : Nat) (hk : s.size < k) : fnv_Of.f k s = some (go s.size 14695981039346656037 s 0) := by
  unfold fnv_Of.f
  rw [more_f s hs k _ hk]
  rfl
theorem awake_f (k : Nat) (hk : 2 ≤ k) : varvelaw06_awake.f k = some true := by
  unfold varvelaw06_awake.f
  rw [of_f ⟨#[]⟩ (by decide) k (by show 0 < k; omega), of_f ⟨#[97]⟩ (by decide) k (by show 1 < k; omega)]
  show (if go 0 14695981039346656037 ⟨#[]⟩ 0 = 14695981039346656037 then (some (go 1 14695981039346656037 (⟨#[97]⟩ : ByteArray) 0 == 12638187200555641996)) else some false) = some true
  rw [go_a, if_pos (go_none _ _)]
  rfl


theorem ref_l0 (s : ByteArray) (hs : s.size ≤ 140737488351232) : ∀ (d k : Nat) (h i : Int), 0 ≤ i → i + d = s.size → d < k → varveref06_More.l0 k h s i = some (go d h s i)
  | 0, k, h, i, h0, hd, hk => by
    obtain ⟨k, rfl⟩ : ∃ m, k = m + 1 := ⟨k - 1, by omega⟩
    simp only [varveref06_More.l0, go]
    rw [if_neg (by omega)]
  | d + 1, k, h, i, h0, hd, hk => by
    obtain ⟨k, rfl⟩ : ∃ m, k = m + 1 := ⟨k - 1, by omega⟩
    simp only [varveref06_More.l0, go]
    rw [if_pos (by omega), if_pos h0]
    rw [show wrap64 (i + 1) = i + 1 from by unfold wrap64; omega, rnd_shifts]
    exact ref_l0 s hs d k _ _ (by omega) (by omega) (by omega)
theorem ref_f (s : ByteArray) (hs : s.size ≤ 140737488351232) (k : Nat) (h : Int) (hk : s.size < k) : varveref06_More.f k h s = some (go s.size h s 0) := by
  unfold varveref06_More.f
  exact ref_l0 s hs s.size k h 0 (by omega) (by omega) hk
theorem refOf_f (s : ByteArray) (hs : s.size ≤ 140737488351232) (k : Nat) (hk : s.size < k) : varveref06_Of.f k s = some (go s.size 14695981039346656037 s 0) := by
  unfold varveref06_Of.f
  rw [ref_f s hs k _ hk]
  rfl
theorem main : varvelaw06_FnvOf.Pure := by
  intro h s _ hs
  refine ⟨s.size + 2, ?_⟩
  unfold varvelaw06_FnvOf.f
  rw [of_f s hs _ (by omega), refOf_f s hs _ (by omega)]
  simp only [Option.bind_some]
  rw [if_pos trivial, more_f s hs _ _ (by omega), ref_f s hs _ _ (by omega)]
  simp only [Option.bind_some]
  rw [if_pos trivial, awake_f _ (by omega)]
  rfl

end ForFnvOf
open Go.Proofs.Ytkeepinbfgepmaa.PFnvOf in
theorem FnvOf : varvelaw06_FnvOf.Pure := ForFnvOf.main
end Go.Proofs.Ytkeepinbfgepmaa.Pure
