/- Own text: a matcher's text tells its matcher, a set's text its set; names and sameness; what the printed functions answer: plain. -/
import Derived.Test.YteafilojjdfllaaEvalV
import Derived.Test.YteafilojjdfllaaTxtM
import Derived.Test.YteafilojjdfllaaPAllx18
import Derived.Lib.Join
import Derived.Lib.LazyBuf
namespace Go.Proofs.Yteafilojjdfllaa
open Go Go.RowKit Go.Proofs.YteafilojjdfllaaW.PrintWords Go.Proofs.Yteafilojjdfllaa.PAll

/-! ### what the laws about evaluation want -/
theorem eval_not (l : List S68) (n v : ByteArray) (vs : List ByteArray) (m : S25) : evalM l ⟨7, n, v, vs, [m]⟩ = !evalM l m := by
  rw [evalM]; simp [evalF]
theorem eval_and (l : List S68) (n v : ByteArray) (vs : List ByteArray) (a b : S25) : evalM l ⟨5, n, v, vs, [a, b]⟩ = (evalM l a && evalM l b) := by
  rw [evalM]; simp only [evalL]; cases evalM l a <;> cases evalM l b <;> rfl
theorem eval_or (l : List S68) (n v : ByteArray) (vs : List ByteArray) (a b : S25) : evalM l ⟨6, n, v, vs, [a, b]⟩ = (evalM l a || evalM l b) := by
  rw [evalM]; simp only [evalL]; cases evalM l a <;> cases evalM l b <;> rfl
theorem eval_and0 (l : List S68) (n v : ByteArray) (vs : List ByteArray) : evalM l ⟨5, n, v, vs, []⟩ = true := rfl
theorem eval_or0 (l : List S68) (n v : ByteArray) (vs : List ByteArray) : evalM l ⟨6, n, v, vs, []⟩ = false := rfl
/-! ### a set of labels as a text -/
/-! ### what the printed functions answer -/
def ints (l : List UInt8) : List Int := l.map fun b => (b.toNat : Int)
theorem ints_app (a b : List UInt8) : ints (a ++ b) = ints a ++ ints b := by simp [ints]
theorem ints_len (a : List UInt8) : (ints a).length = a.length := by simp [ints]
theorem and15 : ∀ n : Fin 256, Go.bits .and .u8 (n.val : Int) 15 = ((n.val % 16 : Nat) : Int) := by decide +kernel
theorem digit_at : ∀ n : Fin 16, bt (⟨#[48, 49, 50, 51, 52, 53, 54, 55, 56, 57, 97, 98, 99, 100, 101, 102]⟩ : ByteArray) (n.val : Int) = ((hexD n.val).toNat : Int) := by decide +kernel
theorem quoted_l0 (t : ByteArray) (ht : t.size ≤ 1000000) : ∀ (d i k : Nat) (x : List Int), i ≤ t.size → t.size ≤ i + d → 2 * d < k → x.length + 4 * d ≤ 100000000 →
    label_Quoted.l0 k t x (t.size : Int) (i : Int) = some (strOfNums (x ++ ints ((t.data.toList.drop i).flatMap encB) ++ [34]))
  | d, i, 0, _, _, _, h, _ => by omega
  | d, i, k + 1, x, hi, hd, hk, hx => by
    simp only [label_Quoted.l0]
    by_cases hlt : i < t.size
    · obtain ⟨d, rfl⟩ : ∃ q, d = q + 1 := ⟨d - 1, by omega⟩
      obtain ⟨k, rfl⟩ : ∃ q, k = q + 1 := ⟨k - 1, by omega⟩
      have ih := fun x' (hx' : x'.length + 4 * d ≤ 100000000) => quoted_l0 t ht d (i + 1) k x' (by omega) (by omega) (by omega) hx'
      rw [if_pos (by omega), if_pos (by omega), if_pos (by omega), bt_nat t i hlt, bdrop t i hlt]
      generalize t.data.toList.getD i 0 = c
      have hc := c.toNat_lt
      have h92 : c = 92 ↔ (c.toNat : Int) = 92 := ⟨fun h => by rw [h]; rfl, fun h => UInt8.toNat_inj.1 (by have : (92 : UInt8).toNat = 92 := rfl; omega)⟩
      have h34 : c = 34 ↔ (c.toNat : Int) = 34 := ⟨fun h => by rw [h]; rfl, fun h => UInt8.toNat_inj.1 (by have : (34 : UInt8).toNat = 34 := rfl; omega)⟩
      rw [List.flatMap_cons, ints_app]
      have two : ∀ y : List Int, y.length ≤ 4 → ints (encB c) = y → (some y : Option (List Int)).bind (fun y2 => if x.length + y2.length < 140737488355328 then label_Quoted.l0 k t (x ++ y2) (t.size : Int) (wrap64 ((i : Int) + 1)) else none) = some (strOfNums (x ++ (ints (encB c) ++ ints ((t.data.toList.drop (i + 1)).flatMap encB)) ++ [34])) := by
        intro y hy e
        rw [Option.bind_some, if_pos (by omega), w64s i (by omega), ih (x ++ y) (by rw [List.length_append]; omega), e, List.append_assoc x y]
      have hex : 32 > (c.toNat : Int) ∨ (c.toNat : Int) ≥ 127 → ¬ c = 34 ∧ ¬ c = 92 → (if 0 ≤ ((c.toNat : Int) / 16) then (if ((c.toNat : Int) / 16) < 16 then (if 0 ≤ (Go.bits .and .u8 (c.toNat : Int) 15) then (if (Go.bits .and .u8 (c.toNat : Int) 15) < 16 then ((some (([92, 120, bt (⟨#[48, 49, 50, 51, 52, 53, 54, 55, 56, 57, 97, 98, 99, 100, 101, 102]⟩ : ByteArray) ((c.toNat : Int) / 16), bt (⟨#[48, 49, 50, 51, 52, 53, 54, 55, 56, 57, 97, 98, 99, 100, 101, 102]⟩ : ByteArray) (Go.bits .and .u8 (c.toNat : Int) 15)] : List Int) : List Int)).bind fun y2 => (if x.length + y2.length < 140737488355328 then (label_Quoted.l0 k t (x ++ y2) (t.size : Int) (wrap64 ((i : Int) + 1))) else (none))) else (none)) else (none)) else (none)) else (none)) = some (strOfNums (x ++ (ints (encB c) ++ ints ((t.data.toList.drop (i + 1)).flatMap encB)) ++ [34])) := by
        intro h1 h2
        have ha := and15 ⟨c.toNat, hc⟩
        have hd1 := digit_at ⟨c.toNat / 16, by omega⟩
        have hd2 := digit_at ⟨c.toNat % 16, by omega⟩
        simp only at ha hd1 hd2
        rw [ha, if_pos (by omega), if_pos (by omega), if_pos (by omega), if_pos (by omega)]
        rw [show (c.toNat : Int) / 16 = ((c.toNat / 16 : Nat) : Int) by omega, hd1, hd2]
        refine two _ (by simp) ?_
        unfold encB
        rw [if_neg (by rintro (h | h); exact h2.1 h; exact h2.2 h), if_pos (by omega)]
        rfl
      by_cases e34 : (c.toNat : Int) = 34
      · rw [if_pos e34]
        simp only [label_Quoted.j1, if_true]
        exact two _ (by simp) (by unfold encB; rw [if_pos (Or.inl (h34.2 e34))]; rfl)
      · rw [if_neg e34]
        by_cases e92 : (c.toNat : Int) = 92
        · simp only [label_Quoted.j1, e92, beq_self_eq_true, if_true]
          exact two _ (by simp) (by unfold encB; rw [if_pos (Or.inr (h92.2 e92))]; simp [ints, e92])
        · have hb : ((c.toNat : Int) == 92) = false := by rw [beq_eq_false_iff_ne]; exact e92
          simp only [label_Quoted.j1, hb]
          rw [if_neg (by decide)]
          have hno : ¬ c = 34 ∧ ¬ c = 92 := ⟨fun h => e34 (h34.1 h), fun h => e92 (h92.1 h)⟩
          by_cases e1 : (c.toNat : Int) < 32
          · rw [if_pos e1]
            exact hex (Or.inl (by omega)) hno
          · rw [if_neg e1]
            by_cases e2 : (c.toNat : Int) ≥ 127
            · rw [if_pos e2]
              exact hex (Or.inr e2) hno
            · rw [if_neg e2, if_pos (by omega), w64s i (by omega), ih (x ++ [(c.toNat : Int)]) (by rw [List.length_append, List.length_singleton]; omega)]
              have : encB c = [c] := by
                unfold encB
                rw [if_neg (by rintro (h | h); exact hno.1 h; exact hno.2 h), if_neg (by omega)]
              rw [this]
              simp [ints]
    · rw [if_neg (by omega), if_pos (by omega), List.drop_of_length_le (by simp; omega)]
      simp [ints]
theorem label_Quoted.val (t : ByteArray) (ht : t.size ≤ 1000000) (k : Nat) (hk : 2 * t.size < k) : label_Quoted.f k t = some ⟨(quoteT t).toArray⟩ := by
  have h := quoted_l0 t ht t.size 0 k [34] (by omega) (by omega) hk (by simp; omega)
  rw [label_Quoted.f]
  rw [show ((0 : Nat) : Int) = 0 from rfl, List.drop_zero] at h
  rw [h, ← Lib.Lz.strOfNums_map]
  simp [quoteT, quoteL, ints]

theorem toList_iff {a b : ByteArray} : a.toList = b.toList ↔ a = b := by
  rw [ByteArray.toList_eq, ByteArray.toList_eq]
  constructor
  · intro h
    cases a; cases b
    simp only at h
    rw [Array.toList_inj.1 h]
  · intro h; rw [h]
end Go.Proofs.Yteafilojjdfllaa
