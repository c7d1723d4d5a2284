/- The hash of a text that is cut anywhere, gone on with behind the cut, is the hash of the whole. No condition. -/
import Derived.Test.YtkeepinbfgepmaaPFnvPartsx1
import Derived.Test.YtkeepinbfgepmaaFnvPlain
namespace Go.Proofs.Ytkeepinbfgepmaa.Pure
namespace ForFnvParts
open Go.RowKit Go.Proofs.Ytkeepinbfgepmaa.PFnvParts Go.Proofs.YtkeepinbfgepmaaW.PrintWords Go.Proofs.YtkeepinbfgepmaaW.PrintLast Go.Proofs.Ytkeepinbfgepmaa.FnvPlain
/-- the program's loop, from place i on -/
theorem more_l0 (s : ByteArray) (hs : s.size ≤ 140737488351232) : ∀ (d k : Nat) (h i : Int), 0 ≤ i → i + d = s.size → d < k → fnv_More.l0 k h s (s.size : Int) i = some (go d h s i)
  | 0, k, h, i, h0, hd, hk => by
    obtain ⟨k, rfl⟩ : ∃ m, k = m + 1 := ⟨k - 1, by omega⟩
    simp only [fnv_More.l0, go]
    rw [if_neg (by omega)]
  | d + 1, k, h, i, h0, hd, hk => by
    obtain ⟨k, rfl⟩ : ∃ m, k = m + 1 := ⟨k - 1, by omega⟩
    simp only [fnv_More.l0, go]
    rw [if_pos (by omega), if_pos h0, if_pos (by omega)]
    rw [show wrap64 (i + 1) = i + 1 from by unfold wrap64; omega]
    exact more_l0 s hs d k _ _ (by omega) (by omega) (by omega)
theorem more_f (s : ByteArray) (hs : s.size ≤ 140737488351232) (k : Nat) (h : Int) (hk : s.size < k) : fnv_More.f k h s = some (go s.size h s 0) := by
  unfold fnv_More.f
  exact more_l0 s hs s.size k h 0 (by omega) (by omega) hk
theorem of_f (s : ByteArray) (hs : s.size ≤ 140737488351232) (k : Nat) (hk : s.size < k) : fnv_Of.f k s = some (go s.size 14695981039346656037 s 0) := by
  unfold fnv_Of.f
  rw [more_f s hs k _ hk]
  rfl
theorem awake_f (k : Nat) (hk : 2 ≤ k) : varvelaw06_awake.f k = some true := by
  unfold varvelaw06_awake.f
  rw [of_f ⟨#[]⟩ (by decide) k (by show 0 < k; omega), of_f ⟨#[97]⟩ (by decide) k (by show 1 < k; omega)]
  show (if go 0 14695981039346656037 ⟨#[]⟩ 0 = 14695981039346656037 then (some (go 1 14695981039346656037 (⟨#[97]⟩ : ByteArray) 0 == 12638187200555641996)) else some false) = some true
  rw [go_a, if_pos (go_none _ _)]
  rfl


theorem place_f (v : Int) (n : Int) (hn : 0 < n) (h : n ≤ 140737488351233) : ∃ r, varvelaw00_Place.f v n = some r ∧ 0 ≤ r ∧ r < n := by
  unfold varvelaw00_Place.f
  have h1 := Int.tmod_lt_of_pos v hn
  have h2 : -n < Int.tmod v n := by
    have := Int.tmod_lt_of_pos (-v) hn
    rw [Int.neg_tmod] at this
    omega
  rw [if_neg (by omega)]
  by_cases c : Int.tmod v n < 0
  · rw [if_pos c]; exact ⟨_, rfl, by unfold wrap64; omega, by unfold wrap64; omega⟩
  · rw [if_neg c]; exact ⟨_, rfl, by omega, by omega⟩
theorem main : varvelaw06_FnvParts.Pure := by
  intro s v hs _
  refine ⟨s.size + 2, ?_⟩
  unfold varvelaw06_FnvParts.f
  rw [show wrap64 ((s.size : Int) + 1) = s.size + 1 from by unfold wrap64; omega]
  obtain ⟨r, hr, h0, h1⟩ := place_f v (s.size + 1) (by omega) (by omega)
  rw [hr]
  simp only [Option.bind_some]
  rw [if_pos h0, if_pos (by omega)]
  obtain ⟨n, rfl⟩ := Int.eq_ofNat_of_zero_le h0
  rw [Int.toNat_natCast]
  have z1 : (s.extract 0 n).size = n := by rw [ByteArray.size_extract]; omega
  have z2 : (s.extract n s.size).size = s.size - n := by rw [ByteArray.size_extract]; omega
  rw [of_f _ (by omega) _ (by omega)]
  simp only [Option.bind_some]
  rw [more_f _ (by omega) _ _ (by omega), of_f s hs _ (by omega), awake_f _ (by omega)]
  simp only [Option.bind_some]
  rw [if_pos]
  rw [z1, z2]
  rw [go_congr (s.extract 0 n) s n _ 0 0 (by
    intro k hk
    rw [bt_extract s 0 n _ (by omega) (by omega) (by omega)]
    simp)]
  rw [go_congr (s.extract n s.size) s (s.size - n) _ 0 n (by
    intro k hk
    rw [bt_extract s n s.size _ (by omega) (by omega) (by omega)]
    simp)]
  have := go_add (s.size - n) s n 14695981039346656037 0
  rw [show n + (s.size - n) = s.size from by omega] at this
  rw [this]
  simp

end ForFnvParts
open Go.Proofs.Ytkeepinbfgepmaa.PFnvParts in
theorem FnvParts : varvelaw06_FnvParts.Pure := ForFnvParts.main
end Go.Proofs.Ytkeepinbfgepmaa.Pure
