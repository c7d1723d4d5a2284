/- Own text: label.Parse: what it answers, plain. -/
import Derived.Test.YteafilojjdfllaaUnq
import Derived.Test.YteafilojjdfllaaLabText
namespace Go.Proofs.Yteafilojjdfllaa
open Go Go.RowKit Go.Proofs.YteafilojjdfllaaW.PrintWords Go.Proofs.Yteafilojjdfllaa.PAll

theorem index_lt : ∀ (l : List UInt8) (c : UInt8), Lib.indexByte l c < (l.length : Int) ∧ -1 ≤ Lib.indexByte l c
  | [], c => by simp [Lib.indexByte]
  | x :: l, c => by
    have ih := index_lt l c
    rw [Lib.indexByte]
    simp only [List.length_cons]
    split
    · omega
    · split <;> omega
theorem unq_suffix {step : List UInt8 → Step} : ∀ (n : Nat) (l : List UInt8), l.length ≤ n → ∀ {v t}, unqW step l = some (v, t) → t <:+ l
  | _, [], _, v, t, h => by rw [unqW] at h; cases h
  | 0, x :: l, h0, v, t, h => by simp at h0
  | n + 1, x :: r, hn, v, t, h => by
    rw [unqW] at h
    split at h
    · cases h
    · cases h; exact List.suffix_cons _ _
    · rename_i c k _
      cases hq : unqW step (r.drop k) with
      | none => rw [hq] at h; cases h
      | some q =>
        rw [hq] at h
        cases h
        exact (unq_suffix n (r.drop k) (by simp only [List.length_drop]; simp only [List.length_cons] at hn; omega) (show unqW step (r.drop k) = some (q.1, q.2) from hq)).trans ((List.drop_suffix _ _).trans (List.suffix_cons _ _))
theorem val_suffix {step : List UInt8 → Step} {l v t : List UInt8} (h : valW step l = some (v, t)) : t <:+ l := by
  unfold valW at h
  split at h
  · exact (unq_suffix _ _ (Nat.le_refl _) h).trans (List.suffix_cons _ _)
  · cases h
/-- what stands behind a value, by its place -/
theorem val_place {step : List UInt8 → Step} {s : ByteArray} {m : Nat} {v t : List UInt8} (h : valW step (s.data.toList.drop m) = some (v, t)) : t.length ≤ s.size ∧ s.data.toList.drop (s.size - t.length) = t := by
  have h1 := (val_suffix h).trans (List.drop_suffix _ _)
  have h2 := h1.length_le
  have h3 : s.data.toList.length = s.size := by simp
  refine ⟨by omega, ?_⟩
  rw [← h3]
  exact (List.suffix_iff_eq_drop.1 h1).symm
theorem many_succ (cut : List UInt8 → Option Nat) (step : List UInt8 → Step) (k : Nat) (r : List UInt8) : manyW cut step (k + 1) r = match oneW cut step r with
    | none => none
    | some (x, []) => some [x]
    | some (x, c :: t) => if c = 44 then (manyW cut step k t).map (fun l => x :: l) else none := by rw [manyW]; rfl
theorem many_none {cut : List UInt8 → Option Nat} {step : List UInt8 → Step} {k : Nat} {r : List UInt8} (h : oneW cut step r = none) : manyW cut step (k + 1) r = none := by rw [many_succ, h]
theorem many_last {cut : List UInt8 → Option Nat} {step : List UInt8 → Step} {k : Nat} {r : List UInt8} {x : S68} (h : oneW cut step r = some (x, [])) : manyW cut step (k + 1) r = some [x] := by rw [many_succ, h]
theorem many_next {cut : List UInt8 → Option Nat} {step : List UInt8 → Step} {k : Nat} {r t : List UInt8} {x : S68} (h : oneW cut step r = some (x, 44 :: t)) : manyW cut step (k + 1) r = (manyW cut step k t).map (fun l => x :: l) := by
  rw [many_succ, h]
  show (if (44 : UInt8) = 44 then _ else _) = _
  rw [if_pos rfl]
theorem many_stop {cut : List UInt8 → Option Nat} {step : List UInt8 → Step} {k : Nat} {r t : List UInt8} {x : S68} {c : UInt8} (h : oneW cut step r = some (x, c :: t)) (hc : c ≠ 44) : manyW cut step (k + 1) r = none := by
  rw [many_succ, h]
  show (if c = 44 then _ else _) = _
  rw [if_neg hc]
theorem one_none {step : List UInt8 → Step} {r : List UInt8} (h : Lib.indexByte r 61 < 0 ∨ Lib.indexByte r 61 > 32) : oneW cutP step r = none := by
  unfold oneW cutP; rw [if_pos h]
theorem one_val {step : List UInt8 → Step} {r : List UInt8} {n : Nat} (h : Lib.indexByte r 61 = (n : Int)) (h32 : n ≤ 32) : oneW cutP step r = (valW step (r.drop (n + 1))).map (fun q => (⟨⟨(r.take n).toArray⟩, ⟨q.1.toArray⟩⟩, q.2)) := by
  unfold oneW cutP; rw [if_neg (by omega), h]; simp
theorem app_none {M q : Option (List S68)} {l : List S68} (h : M = q.map (fun r => l ++ r)) (hq : q = none) : M = none := by rw [h, hq]; rfl
theorem app_some {M q : Option (List S68)} {l r : List S68} (h : M = q.map (fun r => l ++ r)) (hq : q = some r) : M = some (l ++ r) := by rw [h, hq]; rfl
theorem app_snoc {M q r : Option (List S68)} {l : List S68} {x : S68} (h : M = q.map (fun r => l ++ r)) (hq : q = r.map (fun l => x :: l)) : M = r.map (fun r => (l ++ [x]) ++ r) := by
  rw [h, hq]; cases r <;> simp
/-- the program's reading of a text -/
def parseW (s : ByteArray) : Option (List S68) := (manyW cutP stepP 9 s.data.toList).filter (fun l => chkS l && ((textB l).toList == s.toList))
theorem parse_none {s : ByteArray} (h : manyW cutP stepP 9 s.data.toList = none) : parseW s = none := by unfold parseW; rw [h]; rfl
theorem parse_bad {s : ByteArray} {l : List S68} (h : manyW cutP stepP 9 s.data.toList = some l) (hb : (chkS l && ((textB l).toList == s.toList)) = false) : parseW s = none := by
  unfold parseW; rw [h, Option.filter, if_neg (by rw [hb]; decide)]
theorem parse_good {s : ByteArray} {l : List S68} (h : manyW cutP stepP 9 s.data.toList = some l) (hb : (chkS l && ((textB l).toList == s.toList)) = true) : parseW s = some l := by
  unfold parseW; rw [h, Option.filter, if_pos hb]
theorem parse_sound {s : ByteArray} {l : List S68} (h : parseW s = some l) : chkS l = true ∧ textB l = s := by
  unfold parseW at h
  rw [Option.filter_eq_some_iff, Bool.and_eq_true, beq_iff_eq, ByteArray.toList_eq, ByteArray.toList_eq] at h
  exact ⟨h.2.1, ba_ext h.2.2⟩
theorem parse_text {l : List S68} (h : chkS l = true) : parseW (textB l) = some l := by
  have h1 : manyW cutP stepP 9 (textB l).data.toList = some l := by
    have hn := (chkS_iff l).1 h
    refine many_text right_P cutP_name l 9 (by rintro rfl; simp at hn) (by omega) (fun x hx => ?_)
    unfold chkS at h
    simp only [Bool.and_eq_true, List.all_eq_true] at h
    have := h.1.2 x hx
    unfold okS at this
    rw [Bool.and_eq_true] at this
    exact this.1
  exact parse_good h1 (by rw [h]; simp)
theorem ext_take (s : ByteArray) (i n : Nat) : s.extract i (i + n) = ⟨((s.data.toList.drop i).take n).toArray⟩ := by
  apply ba_ext
  simp [List.take_drop]
theorem ext_drop (s : ByteArray) (i : Nat) : (s.extract i s.size).data.toList = s.data.toList.drop i := by
  simp
  rw [List.take_of_length_le (by simp)]
end Go.Proofs.Yteafilojjdfllaa
