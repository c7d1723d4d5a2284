/- Two texts that are the same but for their last byte have the same hash just where that byte is the same. No condition. -/
import Derived.Test.YtkeepinbfgepmaaPFnvLastx2
import Derived.Test.YtkeepinbfgepmaaFnvPlain
namespace Go.Proofs.Ytkeepinbfgepmaa.Pure
namespace ForFnvLast
open Go.RowKit Go.Proofs.Ytkeepinbfgepmaa.PFnvLast Go.Proofs.YtkeepinbfgepmaaW.PrintWords Go.Proofs.YtkeepinbfgepmaaW.PrintLast Go.Proofs.Ytkeepinbfgepmaa.FnvPlain
/-- the program's loop, from place i on -/
theorem more_l0 (s : ByteArray) (hs : s.size ≤ 140737488351233) : ∀ (d k : Nat) (h i : Int), 0 ≤ i → i + d = s.size → d < k → fnv_More.l0 k h s (s.size : Int) i = some (go d h s i)
  | 0, k, h, i, h0, hd, hk => by
    obtain ⟨k, rfl⟩ : ∃ m, k = m + 1 := ⟨k - 1, by omega⟩
    simp only [fnv_More.l0, go]
    rw [if_neg (by omega)]
  | d + 1, k, h, i, h0, hd, hk => by
    obtain ⟨k, rfl⟩ : ∃ m, k = m + 1 := ⟨k - 1, by omega⟩
    simp only [fnv_More.l0, go]
    rw [if_pos (by omega), if_pos h0, if_pos (by omega)]
    rw [show wrap64 (i + 1) = i + 1 from by unfold wrap64; omega]
    exact more_l0 s hs d k _ _ (by omega) (by omega) (by omega)
theorem more_f (s : ByteArray) (hs : s.size ≤ 140737488351232) (k : Nat) (h : Int) (hk : s.size < k) : fnv_More.f k h s = some (go s.size h s 0) := by
  unfold fnv_More.f
  exact more_l0 s (by omega) s.size k h 0 (by omega) (by omega) hk
theorem of_f (s : ByteArray) (hs : s.size ≤ 140737488351232) (k : Nat) (hk : s.size < k) : fnv_Of.f k s = some (go s.size 14695981039346656037 s 0) := by
  unfold fnv_Of.f
  rw [more_f s hs k _ hk]
  rfl
theorem awake_f (k : Nat) (hk : 2 ≤ k) : varvelaw06_awake.f k = some true := by
  unfold varvelaw06_awake.f
  rw [of_f ⟨#[]⟩ (by decide) k (by show 0 < k; omega), of_f ⟨#[97]⟩ (by decide) k (by show 1 < k; omega)]
  show (if go 0 14695981039346656037 ⟨#[]⟩ 0 = 14695981039346656037 then (some (go 1 14695981039346656037 (⟨#[97]⟩ : ByteArray) 0 == 12638187200555641996)) else some false) = some true
  rw [go_a, if_pos (go_none _ _)]
  rfl


theorem last_go (s : ByteArray) (t : ByteArray) (ht : t.size = 1) (h : Int) : go (s ++ t).size h (s ++ t) 0 = rnd (go s.size h s 0) (bt t 0) := by
  rw [ByteArray.size_append, ht, go_add]
  rw [go_congr (s ++ t) s s.size h 0 0 (by intro k hk; rw [bt_app_left _ _ _ (by omega) (by omega)])]
  simp only [go]
  rw [bt_app_right _ _ _ (by omega) (by omega)]
  congr 2
  omega
theorem byte_cast (a : Int) (h : 0 ≤ a ∧ a < 256) : ((UInt8.ofNat a.toNat).toNat : Int) = a := by
  rw [UInt8.toNat_ofNat']
  omega
theorem one_byte (a : Int) (ha : (Lit.int .u8 a).wf = true) : (strOfNums [a]).size = 1 ∧ bt (strOfNums [a]) 0 = a ∧ 0 ≤ a ∧ a < 256 := by
  have hr : 0 ≤ a ∧ a < 256 := by
    have := ha
    simp [Lit.wf] at this
    have h1 : IntKind.u8.min = 0 := by decide
    have h2 : IntKind.u8.max = 255 := by decide
    omega
  have e : strOfNums [a] = ⟨#[UInt8.ofNat a.toNat]⟩ := by simp [strOfNums]
  rw [e]
  refine ⟨rfl, ?_, hr⟩
  exact byte_cast a hr
theorem of_app (s t : ByteArray) (hs : s.size ≤ 140737488351232) (ht : t.size = 1) (k : Nat) (hk : s.size + 2 ≤ k) :
    ∃ g : Int, (0 ≤ g ∧ g < 18446744073709551616) ∧ go s.size 14695981039346656037 s 0 = g ∧ fnv_Of.f k (s ++ t) = some (rnd g (bt t 0)) := by
  have hz : (s ++ t).size = s.size + 1 := by rw [ByteArray.size_append, ht]
  refine ⟨_, go_range s.size 14695981039346656037 s 0 (by omega), rfl, ?_⟩
  unfold fnv_Of.f fnv_More.f
  rw [more_l0 (s ++ t) (by omega) (s ++ t).size k _ 0 (by omega) (by omega) (by omega), last_go s t ht]
  simp only [Option.bind_some]
theorem same_last (g a b : Int) (hg : 0 ≤ g ∧ g < 18446744073709551616) (ha : 0 ≤ a ∧ a < 256) (hb : 0 ≤ b ∧ b < 256) : ((rnd g a == rnd g b) == (a == b)) = true := by
  by_cases c : a = b
  · subst c; simp
  · have h : ¬ rnd g a = rnd g b := fun e => c (rnd_inj _ _ _ hg ha hb e)
    rw [beq_eq_false_iff_ne.2 c, beq_eq_false_iff_ne.2 h]
    rfl
theorem fin (s : ByteArray) (a b g : Int) (k : Nat) (hk : 2 ≤ k) (hs : s.size ≤ 140737488351232) (hg : 0 ≤ g ∧ g < 18446744073709551616) (r1 : 0 ≤ a ∧ a < 256) (r2 : 0 ≤ b ∧ b < 256)
    (z1 : (strOfNums [a]).size = 1) (z2 : (strOfNums [b]).size = 1)
    (f1 : fnv_Of.f k (s ++ strOfNums [a]) = some (rnd g a)) (f2 : fnv_Of.f k (s ++ strOfNums [b]) = some (rnd g b)) : varvelaw06_FnvLast.f k s a b = some true := by
  unfold varvelaw06_FnvLast.f
  have b1 : s.size + (strOfNums [a]).size ≤ 9223372036854775807 := by omega
  have b2 : s.size + (strOfNums [b]).size ≤ 9223372036854775807 := by omega
  have hl := same_last g a b hg r1 r2
  generalize rnd g a = x at *
  generalize rnd g b = y at *
  rw [Option.bind_some, if_pos b1, f1, Option.bind_some, Option.bind_some, if_pos b2, f2, Option.bind_some, if_pos hl, awake_f k hk, Option.bind_some]
theorem main : varvelaw06_FnvLast.Pure := by
  intro s a b hs ha hb
  obtain ⟨z1, e1, r1⟩ := one_byte a ha
  obtain ⟨z2, e2, r2⟩ := one_byte b hb
  obtain ⟨k, hk⟩ : ∃ k, s.size + 3 = k := ⟨_, rfl⟩
  obtain ⟨g, hg, eg, f1⟩ := of_app s (strOfNums [a]) hs z1 k (by omega)
  obtain ⟨g', _, eg', f2⟩ := of_app s (strOfNums [b]) hs z2 k (by omega)
  have e : g' = g := eg'.symm.trans eg
  subst e
  rw [e1] at f1
  rw [e2] at f2
  exact ⟨k, fin s a b g' k (by omega) hs hg r1 r2 z1 z2 f1 f2⟩
end ForFnvLast
open Go.Proofs.Ytkeepinbfgepmaa.PFnvLast in
theorem FnvLast : varvelaw06_FnvLast.Pure := ForFnvLast.main
end Go.Proofs.Ytkeepinbfgepmaa.Pure
