/- Own text: label.Quoted and strings.Join. -/
import Derived.Test.YteafilojjdfllaaTxtQ
import Derived.Test.YteafilojjdfllaaVals
import Derived.Test.YteafilojjdfllaaPAllx18
import Derived.Test.YteafilojjdfllaaShelf
import Derived.Lib.LazyBuf
namespace Go.Proofs.Yteafilojjdfllaa
open Go Go.RowKit Go.Proofs.YteafilojjdfllaaW.PrintWords Go.Proofs.YteafilojjdfllaaW.PrintLast Go.Proofs.YteafilojjdfllaaW.PrintMore Go.Proofs.Yteafilojjdfllaa.PAll

/-! ### what the printed functions answer -/
def ints (l : List UInt8) : List Int := l.map fun b => (b.toNat : Int)
theorem ints_app (a b : List UInt8) : ints (a ++ b) = ints a ++ ints b := by simp [ints]
theorem ints_len (a : List UInt8) : (ints a).length = a.length := by simp [ints]
theorem and15 : ∀ n : Fin 256, Go.bits .and .u8 (n.val : Int) 15 = ((n.val % 16 : Nat) : Int) := by decide +kernel
theorem digit_at : ∀ n : Fin 16, bt (⟨#[48, 49, 50, 51, 52, 53, 54, 55, 56, 57, 97, 98, 99, 100, 101, 102]⟩ : ByteArray) (n.val : Int) = ((hexD n.val).toNat : Int) := by decide +kernel
theorem quoted_l0 (t : ByteArray) (ht : t.size ≤ 1000000) : ∀ (d i k : Nat) (x : List Int), i ≤ t.size → t.size ≤ i + d → 2 * d < k → x.length + 4 * d ≤ 100000000 →
    label_Quoted.l0 k t x (t.size : Int) (i : Int) = some (strOfNums (x ++ ints ((t.data.toList.drop i).flatMap encB) ++ [34]))
  | d, i, 0, _, _, _, h, _ => by omega
  | d, i, k + 1, x, hi, hd, hk, hx => by
    simp only [label_Quoted.l0]
    by_cases hlt : i < t.size
    · obtain ⟨d, rfl⟩ : ∃ q, d = q + 1 := ⟨d - 1, by omega⟩
      obtain ⟨k, rfl⟩ : ∃ q, k = q + 1 := ⟨k - 1, by omega⟩
      have ih := fun x' (hx' : x'.length + 4 * d ≤ 100000000) => quoted_l0 t ht d (i + 1) k x' (by omega) (by omega) (by omega) hx'
      rw [if_pos (by omega), if_pos (by omega), if_pos (by omega), bt_nat t i hlt, bdrop t i hlt]
      generalize t.data.toList.getD i 0 = c
      have hc := c.toNat_lt
      have h92 : c = 92 ↔ (c.toNat : Int) = 92 := ⟨fun h => by rw [h]; rfl, fun h => UInt8.toNat_inj.1 (by have : (92 : UInt8).toNat = 92 := rfl; omega)⟩
      have h34 : c = 34 ↔ (c.toNat : Int) = 34 := ⟨fun h => by rw [h]; rfl, fun h => UInt8.toNat_inj.1 (by have : (34 : UInt8).toNat = 34 := rfl; omega)⟩
      rw [List.flatMap_cons, ints_app]
      have two : ∀ y : List Int, y.length ≤ 4 → ints (encB c) = y → (some y : Option (List Int)).bind (fun y2 => if x.length + y2.length < 140737488355328 then label_Quoted.l0 k t (x ++ y2) (t.size : Int) (wrap64 ((i : Int) + 1)) else none) = some (strOfNums (x ++ (ints (encB c) ++ ints ((t.data.toList.drop (i + 1)).flatMap encB)) ++ [34])) := by
        intro y hy e
        rw [Option.bind_some, if_pos (by omega), w64s i (by omega), ih (x ++ y) (by rw [List.length_append]; omega), e, List.append_assoc x y]
      have hex : 32 > (c.toNat : Int) ∨ (c.toNat : Int) ≥ 127 → ¬ c = 34 ∧ ¬ c = 92 → (if 0 ≤ ((c.toNat : Int) / 16) then (if ((c.toNat : Int) / 16) < 16 then (if 0 ≤ (Go.bits .and .u8 (c.toNat : Int) 15) then (if (Go.bits .and .u8 (c.toNat : Int) 15) < 16 then ((some (([92, 120, bt (⟨#[48, 49, 50, 51, 52, 53, 54, 55, 56, 57, 97, 98, 99, 100, 101, 102]⟩ : ByteArray) ((c.toNat : Int) / 16), bt (⟨#[48, 49, 50, 51, 52, 53, 54, 55, 56, 57, 97, 98, 99, 100, 101, 102]⟩ : ByteArray) (Go.bits .and .u8 (c.toNat : Int) 15)] : List Int) : List Int)).bind fun y2 => (if x.length + y2.length < 140737488355328 then (label_Quoted.l0 k t (x ++ y2) (t.size : Int) (wrap64 ((i : Int) + 1))) else (none))) else (none)) else (none)) else (none)) else (none)) = some (strOfNums (x ++ (ints (encB c) ++ ints ((t.data.toList.drop (i + 1)).flatMap encB)) ++ [34])) := by
        intro h1 h2
        have ha := and15 ⟨c.toNat, hc⟩
        have hd1 := digit_at ⟨c.toNat / 16, by omega⟩
        have hd2 := digit_at ⟨c.toNat % 16, by omega⟩
        simp only at ha hd1 hd2
        rw [ha, if_pos (by omega), if_pos (by omega), if_pos (by omega), if_pos (by omega)]
        rw [show (c.toNat : Int) / 16 = ((c.toNat / 16 : Nat) : Int) by omega, hd1, hd2]
        refine two _ (by simp) ?_
        unfold encB
        rw [if_neg (by rintro (h | h); exact h2.1 h; exact h2.2 h), if_pos (by omega)]
        rfl
      by_cases e34 : (c.toNat : Int) = 34
      · rw [if_pos e34]
        simp only [label_Quoted.j1, if_true]
        exact two _ (by simp) (by unfold encB; rw [if_pos (Or.inl (h34.2 e34))]; rfl)
      · rw [if_neg e34]
        by_cases e92 : (c.toNat : Int) = 92
        · simp only [label_Quoted.j1, e92, beq_self_eq_true, if_true]
          exact two _ (by simp) (by unfold encB; rw [if_pos (Or.inr (h92.2 e92))]; simp [ints, e92])
        · have hb : ((c.toNat : Int) == 92) = false := by rw [beq_eq_false_iff_ne]; exact e92
          simp only [label_Quoted.j1, hb]
          rw [if_neg (by decide)]
          have hno : ¬ c = 34 ∧ ¬ c = 92 := ⟨fun h => e34 (h34.1 h), fun h => e92 (h92.1 h)⟩
          by_cases e1 : (c.toNat : Int) < 32
          · rw [if_pos e1]
            exact hex (Or.inl (by omega)) hno
          · rw [if_neg e1]
            by_cases e2 : (c.toNat : Int) ≥ 127
            · rw [if_pos e2]
              exact hex (Or.inr e2) hno
            · rw [if_neg e2, if_pos (by omega), w64s i (by omega), ih (x ++ [(c.toNat : Int)]) (by rw [List.length_append, List.length_singleton]; omega)]
              have : encB c = [c] := by
                unfold encB
                rw [if_neg (by rintro (h | h); exact hno.1 h; exact hno.2 h), if_neg (by omega)]
              rw [this]
              simp [ints]
    · rw [if_neg (by omega), if_pos (by omega), List.drop_of_length_le (by simp; omega)]
      simp [ints]
theorem label_Quoted.val (t : ByteArray) (ht : t.size ≤ 1000000) (k : Nat) (hk : 2 * t.size < k) : label_Quoted.f k t = some ⟨(quoteT t).toArray⟩ := by
  have h := quoted_l0 t ht t.size 0 k [34] (by omega) (by omega) hk (by simp; omega)
  rw [label_Quoted.f]
  rw [show ((0 : Nat) : Int) = 0 from rfl, List.drop_zero] at h
  rw [h, ← Lib.Lz.strOfNums_map]
  simp [quoteT, quoteL, ints]

/-- a text between quotes -/
def qB (v : ByteArray) : ByteArray := ⟨(quoteT v).toArray⟩
theorem quoted125 (w : World) (t : ByteArray) (ht : t.size ≤ 1000000) : Calls Try.prog 125 #[.string t] w fun e w' => e = .returned (.string (qB t)) ∧ Below w.heap.size w w' :=
  label_Quoted.calls (2 * t.size + 1) t _ w (label_Quoted.val t ht _ (Nat.lt_succ_self _))
theorem infoSt : (Try.prog.info? 9).map (fun i => (i.zero, i.size, i.bytes)) = some (some (.string ByteArray.empty), 1, 16) := by kernel_rfl
/-- strings.Join at a comma, over a list of the call's own -/
theorem join126 (w : World) (base : Nat) (v : Value) (xs : List ByteArray) (ho : w.ownsRow base 9 1 v xs.length (encs Value.string xs)) (hn : xs.length ≤ 1000000) (hl : (commas (xs.map (·.data.toList))).length ≤ 140737488355328) :
    Calls Try.prog 126 #[v, .string ⟨#[44]⟩] w fun e w' => e = .returned (.string ⟨(commas (xs.map (·.data.toList))).toArray⟩) ∧ Below w.heap.size w w' := by
  cases xs with
  | nil =>
    obtain ⟨A, c, rfl⟩ := own_slice ho
    exact (Try.strings_Join_none A c ⟨#[44]⟩ w).mono fun e w' ⟨he, hw⟩ => ⟨he, by rw [hw]; exact Below.refl _ _⟩
  | cons x xs =>
    have hlt := own_lt ho
    have hle := own_slice ho
    rcases ho.2 with ⟨_, h0⟩ | ⟨g, cap, cur, rfl, hb, hg, hcap, _⟩
    · simp at h0
    · have h := Try.strings_Join g 0 cap (x :: xs) ⟨#[44]⟩ w (fun j u hu => by
        have := ho.cells (g := g) rfl j (.string u) (by rw [encs_get (d := ByteArray.empty) (x :: xs) j (List.getElem?_eq_some_iff.1 hu).1]; simp [List.getD_eq_getElem?_getD, hu])
        rw [add_plain] at this
        rwa [Nat.zero_add]) (hlt g (by simp [Value.ownBlock])) (by omega) hcap (by rw [show (⟨#[44]⟩ : ByteArray).data.toList = [44] from rfl, commas_join]; exact hl)
      rw [show (⟨#[44]⟩ : ByteArray).data.toList = [44] from rfl, commas_join] at h
      exact h

theorem ba_ext {a b : ByteArray} (h : a.data.toList = b.data.toList) : a = b := by
  cases a; cases b
  simp only at h
  rw [Array.toList_inj.1 h]
theorem takeD {α : Type} (xs : List α) (z : α) (j : Nat) (h : j < xs.length) : xs.take (j + 1) = xs.take j ++ [xs.getD j z] := by
  rw [List.take_succ_eq_append_getElem h]; simp [List.getD_eq_getElem?_getD, h]
theorem qB_map (vs : List ByteArray) : (vs.map qB).map (·.data.toList) = vs.map quoteT := by simp [qB, Function.comp_def]
theorem add_to {a b c : ByteArray} (h : a.data.toList ++ b.data.toList = c.data.toList) (hs : c.data.toList.length ≤ 1000000000) : Op.stringOp .add a b = pure (.string c) := by
  have e : c = a ++ b := ba_ext (by rw [← h]; simp [ByteArray.data_append])
  have e1 : a.data.toList.length = a.size := by simp
  have e2 : b.data.toList.length = b.size := by simp
  have hl : a.size + b.size ≤ 1000000000 := by rw [← h, List.length_append] at hs; omega
  unfold Op.stringOp
  simp only
  rw [if_neg (by rw [show IntKind.i64.max = 9223372036854775807 from rfl]; omega), e]
theorem str_eq {a b : ByteArray} (h : a.data.toList = b.data.toList) : (Value.string a) = .string b := by rw [ba_ext h]
theorem str_ret {a b : ByteArray} (h : a.data.toList = b.data.toList) : Ending.returned (Value.string a) = .returned (.string b) := by rw [ba_ext h]
end Go.Proofs.Yteafilojjdfllaa
