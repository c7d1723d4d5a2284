/- Own text: what the functions that look at names, values, matchers answer: plain values. -/
import Derived.Test.YteafilojjdfllaaChk
import Derived.Laws.Strings
import Derived.Test.YteafilojjdfllaaPAllx5
import Derived.Test.YteafilojjdfllaaPAllx8
import Derived.Test.YteafilojjdfllaaPAllx9
namespace Go.Proofs.Yteafilojjdfllaa
open Go Go.RowKit Go.Proofs.YteafilojjdfllaaW.PrintWords Go.Proofs.Yteafilojjdfllaa.PAll

theorem w64s (i : Nat) (h : i ≤ 4000000000000000000) : wrap64 ((i : Int) + 1) = ((i + 1 : Nat) : Int) := by unfold wrap64; omega
theorem w64p (i : Nat) (h : i ≤ 4000000000000000000) : wrap64 (((i + 1 : Nat) : Int) - 1) = (i : Int) := by unfold wrap64; omega
theorem bt_nat (s : ByteArray) (i : Nat) (h : i < s.size) : bt s (i : Int) = ((s.data.toList.getD i 0).toNat : Int) := by
  have h' : i < s.data.size := h
  unfold bt
  rw [dif_pos (by simpa using h)]
  simp only [List.getD_eq_getElem?_getD, Array.getElem?_toList, Array.getElem?_eq_getElem h', Option.getD_some, Int.toNat_natCast]
  rfl
theorem bdrop (s : ByteArray) (i : Nat) (h : i < s.size) : s.data.toList.drop i = s.data.toList.getD i 0 :: s.data.toList.drop (i + 1) := by
  have h' : i < s.data.toList.length := by simpa using h
  rw [List.drop_eq_getElem_cons h', List.getD_eq_getElem?_getD, List.getElem?_eq_getElem h', Option.getD_some]

theorem nameC_true {c : UInt8} (h : (97 ≤ (c.toNat : Int) ∧ (c.toNat : Int) ≤ 122) ∨ (48 ≤ (c.toNat : Int) ∧ (c.toNat : Int) ≤ 57) ∨ (c.toNat : Int) = 95) : nameC c = true := by unfold nameC; exact decide_eq_true h
theorem nameC_false {c : UInt8} (h : ¬ ((97 ≤ (c.toNat : Int) ∧ (c.toNat : Int) ≤ 122) ∨ (48 ≤ (c.toNat : Int) ∧ (c.toNat : Int) ≤ 57) ∨ (c.toNat : Int) = 95)) : nameC c = false := by unfold nameC; exact decide_eq_false h

theorem name_l0 (s : ByteArray) (hs : s.size ≤ 1000) : ∀ (d i k : Nat), i ≤ s.size → s.size ≤ i + d → d < k → label_Name.l0 k s (s.size : Int) (i : Int) = some ((s.data.toList.drop i).all nameC)
  | d, i, 0, _, _, h => by omega
  | d, i, k + 1, hi, hd, hk => by
    simp only [label_Name.l0, w64s i (by omega)]
    by_cases hlt : i < s.size
    · have ih := name_l0 s hs (d - 1) (i + 1) k (by omega) (by omega) (by omega)
      rw [if_pos (by omega), if_pos (by omega), if_pos (by omega), bt_nat s i hlt, bdrop s i hlt, List.all_cons, ih]
      generalize s.data.toList.getD i 0 = c
      by_cases h : (97 ≤ (c.toNat : Int) ∧ (c.toNat : Int) ≤ 122) ∨ (48 ≤ (c.toNat : Int) ∧ (c.toNat : Int) ≤ 57) ∨ (c.toNat : Int) = 95
      · rw [nameC_true h, Bool.true_and]
        split
        · split
          · rw [if_pos (by omega)]
          · split
            · rw [if_pos (by omega)]
            · rfl
        · split
          · split
            · rw [if_pos (by omega)]
            · split
              · rw [if_pos (by omega)]
              · rfl
          · rfl
      · rw [nameC_false h, Bool.false_and]
        split
        · split
          · rw [if_neg (by omega)]
          · split
            · rw [if_neg (by omega)]
            · omega
        · split
          · split
            · rw [if_neg (by omega)]
            · split
              · rw [if_neg (by omega)]
              · omega
          · omega
    · rw [if_neg (by omega), List.drop_of_length_le (by simp; omega)]; rfl
theorem label_Name.val (s : ByteArray) (k : Nat) (hk : 40 ≤ k) : label_Name.f k s = some (nameB s) := by
  obtain ⟨k, rfl⟩ : ∃ q, k = q + 1 := ⟨k - 1, by omega⟩
  unfold label_Name.f nameB
  by_cases h1 : (s.size : Int) < 1
  · rw [if_pos h1]
    simp only [label_Name.j0, if_true]
    rw [show decide (1 ≤ s.size ∧ s.size ≤ 32 ∧ ¬ (48 ≤ ((s.data.toList.getD 0 0).toNat : Int) ∧ ((s.data.toList.getD 0 0).toNat : Int) ≤ 57)) = false from decide_eq_false (by omega), Bool.false_and]
  · rw [if_neg h1]
    by_cases h2 : (s.size : Int) > 32
    · rw [if_pos h2]
      simp only [label_Name.j0, if_true]
      rw [show decide (1 ≤ s.size ∧ s.size ≤ 32 ∧ ¬ (48 ≤ ((s.data.toList.getD 0 0).toNat : Int) ∧ ((s.data.toList.getD 0 0).toNat : Int) ≤ 57)) = false from decide_eq_false (by omega), Bool.false_and]
    · rw [if_neg h2, if_pos (by omega)]
      have hb := bt_nat s 0 (by omega)
      rw [show ((0 : Nat) : Int) = 0 from rfl] at hb
      rw [hb]
      have hl := name_l0 s (by omega) s.size 0 k (by omega) (by omega) (by omega)
      rw [show ((0 : Nat) : Int) = 0 from rfl, List.drop_zero] at hl
      by_cases h3 : ((s.data.toList.getD 0 0).toNat : Int) ≥ 48
      · rw [if_pos h3]
        by_cases h4 : ((s.data.toList.getD 0 0).toNat : Int) ≤ 57
        · rw [show decide (1 ≤ s.size ∧ s.size ≤ 32 ∧ ¬ (48 ≤ ((s.data.toList.getD 0 0).toNat : Int) ∧ ((s.data.toList.getD 0 0).toNat : Int) ≤ 57)) = false from decide_eq_false (by omega), Bool.false_and]
          simp only [label_Name.j0, h4, decide_true, if_true]
        · rw [show decide (1 ≤ s.size ∧ s.size ≤ 32 ∧ ¬ (48 ≤ ((s.data.toList.getD 0 0).toNat : Int) ∧ ((s.data.toList.getD 0 0).toNat : Int) ≤ 57)) = true from decide_eq_true (by omega), Bool.true_and]
          simp only [label_Name.j0, h4, decide_false]
          rw [if_neg (by decide), hl]
      · rw [if_neg h3]
        simp only [label_Name.j0]
        rw [if_neg (by decide), hl, show decide (1 ≤ s.size ∧ s.size ≤ 32 ∧ ¬ (48 ≤ ((s.data.toList.getD 0 0).toNat : Int) ∧ ((s.data.toList.getD 0 0).toNat : Int) ≤ 57)) = true from decide_eq_true (by omega), Bool.true_and]

/-- the document's: a digit ahead of all falls at once -/
theorem rname_l0 (s : ByteArray) (hs : s.size ≤ 140737488351232) : ∀ (d i k : Nat), 1 ≤ i → i ≤ s.size → s.size ≤ i + d → d < k → varveref11_Name.l0 k s (i : Int) = some (decide (s.size ≤ 32) && (s.data.toList.drop i).all nameC)
  | d, i, 0, _, _, _, h => by omega
  | d, i, k + 1, h1, hi, hd, hk => by
    simp only [varveref11_Name.l0, w64s i (by omega)]
    by_cases hlt : i < s.size
    · have ih := rname_l0 s hs (d - 1) (i + 1) k (by omega) (by omega) (by omega) (by omega)
      rw [if_pos (by omega), if_pos (by omega), bt_nat s i hlt, bdrop s i hlt, List.all_cons, ih]
      have hi0 : ¬ (i : Int) = 0 := by omega
      generalize s.data.toList.getD i 0 = c
      by_cases h : (97 ≤ (c.toNat : Int) ∧ (c.toNat : Int) ≤ 122) ∨ (48 ≤ (c.toNat : Int) ∧ (c.toNat : Int) ≤ 57) ∨ (c.toNat : Int) = 95
      · rw [nameC_true h, Bool.true_and]
        split
        · rfl
        · split
          · rw [if_neg (by omega), if_neg (by omega)]
          · split
            · rw [if_neg (by omega), if_neg (by omega)]
            · rfl
      · rw [nameC_false h, Bool.false_and, Bool.and_false, if_neg (by omega)]
        split
        · split
          · rfl
          · rw [if_pos (by omega)]
        · rw [if_pos (by omega)]
          split
          · rfl
          · rw [if_pos (by omega)]
    · have : i = s.size := by omega
      rw [if_neg (by omega), if_pos (by omega), List.drop_of_length_le (by simp; omega)]
      simp only [List.all_nil, Bool.and_true, Option.some.injEq]
      rw [decide_eq_decide]; omega
theorem varveref11_Name.val (s : ByteArray) (hs : s.size ≤ 140737488351232) (k : Nat) (hk : s.size + 2 ≤ k) : varveref11_Name.f k s = some (nameB s) := by
  obtain ⟨k, rfl⟩ : ∃ q, k = q + 1 := ⟨k - 1, by omega⟩
  unfold varveref11_Name.f nameB
  simp only [varveref11_Name.l0]
  have hw : wrap64 ((0 : Int) + 1) = ((1 : Nat) : Int) := by unfold wrap64; omega
  by_cases h1 : 0 < s.size
  · have hl := rname_l0 s hs (s.size - 1) 1 k (by omega) (by omega) (by omega) (by omega)
    have hb := bt_nat s 0 h1
    rw [show ((0 : Nat) : Int) = 0 from rfl] at hb
    have hd := bdrop s 0 h1
    rw [List.drop_zero, Nat.zero_add] at hd
    have hall : s.data.toList.all nameC = (nameC (s.data.toList.getD 0 0) && (s.data.toList.drop 1).all nameC) := by
      conv => lhs; rw [hd]
      rw [List.all_cons]
    rw [if_pos (by omega), if_pos (by omega), hb, hw, hl, hall]
    by_cases h : (97 ≤ ((s.data.toList.getD 0 0).toNat : Int) ∧ ((s.data.toList.getD 0 0).toNat : Int) ≤ 122) ∨ (48 ≤ ((s.data.toList.getD 0 0).toNat : Int) ∧ ((s.data.toList.getD 0 0).toNat : Int) ≤ 57) ∨ ((s.data.toList.getD 0 0).toNat : Int) = 95
    · rw [nameC_true h, Bool.true_and]
      by_cases h5 : 48 ≤ ((s.data.toList.getD 0 0).toNat : Int) ∧ ((s.data.toList.getD 0 0).toNat : Int) ≤ 57
      · rw [show decide (1 ≤ s.size ∧ s.size ≤ 32 ∧ ¬ (48 ≤ ((s.data.toList.getD 0 0).toNat : Int) ∧ ((s.data.toList.getD 0 0).toNat : Int) ≤ 57)) = false from decide_eq_false (fun h => h.2.2 h5), Bool.false_and, if_neg (by omega), if_pos (by omega), if_neg (by omega), if_neg (by omega)]; simp
      · have e : decide (1 ≤ s.size ∧ s.size ≤ 32 ∧ ¬ (48 ≤ ((s.data.toList.getD 0 0).toNat : Int) ∧ ((s.data.toList.getD 0 0).toNat : Int) ≤ 57)) = decide (s.size ≤ 32) := by
          rw [decide_eq_decide]; constructor
          · exact fun h => h.2.1
          · exact fun h => ⟨by omega, h, h5⟩
        rw [e]
        split
        · rfl
        · split
          · omega
          · split
            · omega
            · rfl
    · rw [nameC_false h, Bool.false_and, Bool.and_false, if_neg (by omega)]
      split
      · split
        · rfl
        · rw [if_pos (by omega)]
      · rw [if_pos (by omega)]
        split
        · rfl
        · rw [if_pos (by omega)]
  · rw [if_neg (by omega), if_neg (by omega), show decide (1 ≤ s.size ∧ s.size ≤ 32 ∧ ¬ (48 ≤ ((s.data.toList.getD 0 0).toNat : Int) ∧ ((s.data.toList.getD 0 0).toNat : Int) ≤ 57)) = false from decide_eq_false (by omega), Bool.false_and]

/-! ### Among's values -/
theorem rdOf_nat {α : Type} (d : α) (l : List α) (i : Nat) : rdOf d l (i : Int) = l.getD i d := by simp [rdOf]
theorem vdrop (l : List ByteArray) (i : Nat) (h : i < l.length) : l.drop i = l.getD i ByteArray.empty :: l.drop (i + 1) := by
  rw [List.drop_eq_getElem_cons h, List.getD_eq_getElem?_getD, List.getElem?_eq_getElem h, Option.getD_some]
/-- those from i on: each small enough, each above the one ahead -/
def valsFrom (p : Option ByteArray) : List ByteArray → Bool
  | [] => true
  | v :: l => decide (v.size ≤ 64) && (match p with | none => true | some u => Op.bytesLess u.toList v.toList) && valsFrom (some v) l
theorem valsFrom_eq : ∀ (l : List ByteArray) (p : Option ByteArray), valsFrom p l = (l.all (fun v => decide (v.size ≤ 64)) && risesS (match p with | none => l | some u => u :: l))
  | [], none => by simp [valsFrom, risesS]
  | [], some u => by simp [valsFrom, risesS]
  | v :: l, none => by
    rw [valsFrom, valsFrom_eq l (some v)]
    simp [Bool.and_assoc]
  | v :: l, some u => by
    rw [valsFrom, valsFrom_eq l (some v)]
    simp only [List.all_cons, risesS]
    cases decide (v.size ≤ 64) <;> cases Op.bytesLess u.toList v.toList <;> simp
def before (l : List ByteArray) : Nat → Option ByteArray
  | 0 => none
  | i + 1 => some (l.getD i ByteArray.empty)
theorem vals_l0 (l : List ByteArray) (hl : l.length ≤ 1000) : ∀ (d i k : Nat), i ≤ l.length → l.length ≤ i + d → d < k → match_values.l0 k l l (l.length : Int) (i : Int) = some (valsFrom (before l i) (l.drop i))
  | d, i, 0, _, _, h => by omega
  | d, i, k + 1, hi, hd, hk => by
    simp only [match_values.l0, w64s i (by omega), rdOf_nat]
    by_cases hlt : i < l.length
    · have ih := vals_l0 l hl (d - 1) (i + 1) k (by omega) (by omega) (by omega)
      rw [if_pos (by omega), if_pos (by omega), if_pos (by omega), vdrop l i hlt]
      simp only [valsFrom]
      by_cases h1 : (l.getD i ByteArray.empty).size ≤ 64
      · rw [if_neg (by omega), decide_eq_true h1, Bool.true_and]
        cases i with
        | zero =>
          rw [if_neg (by omega), ih]
          simp [before]
        | succ i =>
          rw [if_pos (by omega), w64p i (by omega), if_pos (by omega), if_pos (by omega), rdOf_nat]
          simp only [before]
          cases h2 : Op.bytesLess (l.getD i ByteArray.empty).toList (l.getD (i + 1) ByteArray.empty).toList with
          | true => rw [if_pos rfl, ih, Bool.true_and]; rfl
          | false => rw [if_neg (by decide), Bool.false_and]
      · rw [if_pos (by omega), decide_eq_false h1, Bool.false_and, Bool.false_and]
    · rw [if_neg (by omega), List.drop_of_length_le (by omega)]; simp [valsFrom]
theorem rvals_l0 (l : List ByteArray) (hl : l.length ≤ 1000) : ∀ (d i k : Nat), i ≤ l.length → l.length ≤ i + d → d < k → varveref12_values.l0 k l (i : Int) = some (valsFrom (before l i) (l.drop i))
  | d, i, 0, _, _, h => by omega
  | d, i, k + 1, hi, hd, hk => by
    simp only [varveref12_values.l0, w64s i (by omega), rdOf_nat]
    by_cases hlt : i < l.length
    · have ih := rvals_l0 l hl (d - 1) (i + 1) k (by omega) (by omega) (by omega)
      rw [if_pos (by omega), if_pos (by omega), vdrop l i hlt]
      simp only [valsFrom]
      by_cases h1 : (l.getD i ByteArray.empty).size ≤ 64
      · rw [if_neg (by omega), decide_eq_true h1, Bool.true_and]
        cases i with
        | zero =>
          rw [if_neg (by omega), ih]
          simp [before]
        | succ i =>
          rw [if_pos (by omega), w64p i (by omega), if_pos (by omega), if_pos (by omega), rdOf_nat]
          simp only [before]
          cases h2 : Op.bytesLess (l.getD i ByteArray.empty).toList (l.getD (i + 1) ByteArray.empty).toList with
          | true => rw [if_pos rfl, ih, Bool.true_and]; rfl
          | false => rw [if_neg (by decide), Bool.false_and]
      · rw [if_pos (by omega), decide_eq_false h1, Bool.false_and, Bool.false_and]
    · rw [if_neg (by omega), List.drop_of_length_le (by omega)]; simp [valsFrom]
theorem match_values.val (l : List ByteArray) (k : Nat) (hk : 40 ≤ k) : match_values.f k l = some (valuesB l) := by
  obtain ⟨k, rfl⟩ : ∃ q, k = q + 1 := ⟨k - 1, by omega⟩
  unfold match_values.f valuesB
  have h0 := valsFrom_eq l none
  by_cases h1 : (l.length : Int) < 1
  · rw [if_pos h1, show decide (1 ≤ l.length ∧ l.length ≤ 16) = false from decide_eq_false (by omega)]
    simp [match_values.j0]
  · rw [if_neg h1]
    by_cases h2 : (l.length : Int) > 16
    · rw [show decide (1 ≤ l.length ∧ l.length ≤ 16) = false from decide_eq_false (by omega), decide_eq_true h2]
      simp [match_values.j0]
    · have hl := vals_l0 l (by omega) l.length 0 k (by omega) (by omega) (by omega)
      rw [show ((0 : Nat) : Int) = 0 from rfl, List.drop_zero] at hl
      rw [show decide (1 ≤ l.length ∧ l.length ≤ 16) = true from decide_eq_true (by omega), decide_eq_false h2, Bool.true_and]
      simp only [match_values.j0]
      rw [if_neg (by decide), hl, ← h0]; rfl
theorem varveref12_values.val (l : List ByteArray) (k : Nat) (hk : 40 ≤ k) : varveref12_values.f k l = some (valuesB l) := by
  obtain ⟨k, rfl⟩ : ∃ q, k = q + 1 := ⟨k - 1, by omega⟩
  unfold varveref12_values.f valuesB
  have h0 := valsFrom_eq l none
  by_cases h1 : (l.length : Int) < 1
  · rw [if_pos h1, show decide (1 ≤ l.length ∧ l.length ≤ 16) = false from decide_eq_false (by omega)]
    simp [varveref12_values.j0]
  · rw [if_neg h1]
    by_cases h2 : (l.length : Int) > 16
    · rw [show decide (1 ≤ l.length ∧ l.length ≤ 16) = false from decide_eq_false (by omega), decide_eq_true h2]
      simp [varveref12_values.j0]
    · have hl := rvals_l0 l (by omega) l.length 0 k (by omega) (by omega) (by omega)
      rw [show ((0 : Nat) : Int) = 0 from rfl, List.drop_zero] at hl
      rw [show decide (1 ≤ l.length ∧ l.length ≤ 16) = true from decide_eq_true (by omega), decide_eq_false h2, Bool.true_and]
      simp only [varveref12_values.j0]
      rw [if_neg (by decide), hl, ← h0]; rfl

/-! ### may it be alone? -/
theorem match_alone.val (m : S25) (k : Nat) (hk : 50 ≤ k) : match_alone.f k m.f0 m.f1 m.f2 m.f3 m.f4 = some (aloneB m) := by
  obtain ⟨a, n, v, vs, ks⟩ := m
  obtain ⟨k, rfl⟩ : ∃ q, k = q + 4 := ⟨k - 4, by omega⟩
  simp only [match_alone.f, label_Name.val n _ (show 40 ≤ k + 4 by omega), Option.bind_some]
  have hv := match_values.val vs (k + 1) (by omega)
  have j0 : ∀ x : Bool, match_alone.j0 (k + 4) x a n v vs ks = match_alone.j1 (k + 3) x (plainB ⟨a, n, v, vs, ks⟩) a n v vs ks := by
    intro x
    simp only [match_alone.j0, plainB]
    by_cases h1 : n.toList = []
    · by_cases h2 : v.toList = []
      · rw [if_pos h1, if_pos h2]
        congr 1
        rw [Bool.eq_iff_iff]; simp only [beq_iff_eq, decide_eq_true_eq, h1, h2, true_and]; omega
      · rw [if_pos h1, if_neg h2, decide_eq_false (fun h => h2 h.2.1)]
    · rw [if_neg h1, decide_eq_false (fun h => h1 h.1)]
  have hz : ∀ t : Nat, (((t : Int) == 0) : Bool) = decide (t = 0) := fun t => by rw [Bool.eq_iff_iff]; simp only [beq_iff_eq, decide_eq_true_eq]; omega
  have ho : ∀ t : Nat, (((t : Int) == 1) : Bool) = decide (t = 1) := fun t => by rw [Bool.eq_iff_iff]; simp only [beq_iff_eq, decide_eq_true_eq]; omega
  have hx : (if nameB n = true then (if (v.size : Int) ≤ 64 then match_alone.j0 (k + 4) ((ks.length : Int) == 0) a n v vs ks else match_alone.j0 (k + 4) false a n v vs ks) else match_alone.j0 (k + 4) false a n v vs ks) =
      match_alone.j1 (k + 3) (nameB n && decide (v.size ≤ 64 ∧ ks.length = 0)) (plainB ⟨a, n, v, vs, ks⟩) a n v vs ks := by
    rw [j0, j0, hz]
    cases nameB n with
    | false => simp
    | true =>
      simp only [if_true, Bool.true_and]
      by_cases h : v.size ≤ 64
      · rw [if_pos (by omega)]; congr 1; rw [decide_eq_decide]; exact ⟨fun e => ⟨h, e⟩, fun e => e.2⟩
      · rw [if_neg (by omega), decide_eq_false (fun e => h e.1)]
  rw [hx]
  generalize hX : (nameB n && decide (v.size ≤ 64 ∧ ks.length = 0)) = X
  generalize hY : plainB ⟨a, n, v, vs, ks⟩ = Y
  unfold aloneB
  simp only [hY]
  simp only [match_alone.j1, match_alone.j2, match_alone.j3, hv, hz, ho, Option.bind_some]
  by_cases e0 : a = 0
  · rw [if_pos e0, if_pos e0]; cases Y <;> simp
  · rw [if_neg e0, if_neg e0]
    by_cases e1 : a = 1
    · subst e1; simp only [← hX]; cases nameB n <;> by_cases h2 : v.size ≤ 64 <;> by_cases h3 : ks.length = 0 <;> simp [h2, h3]
    · by_cases e2 : a = 2
      · subst e2; simp only [← hX]; cases nameB n <;> by_cases h2 : v.size ≤ 64 <;> by_cases h3 : ks.length = 0 <;> simp [h2, h3]
      · by_cases e3 : a = 3
        · subst e3; simp only [← hX]; cases nameB n <;> by_cases h2 : v.size ≤ 64 <;> by_cases h3 : ks.length = 0 <;> simp [h2, h3]
        · have b3 : (a == 3) = false := by simpa using e3
          simp only [e1, e2, b3, if_false, or_self, e3]
          by_cases e4 : a = 4
          · subst e4
            have hX' : v.toList = [] → X = (nameB n && decide (ks.length = 0)) := by
              intro h
              rw [← hX]; congr 1; rw [decide_eq_decide]
              have : v.size = 0 := by
                have := congrArg List.length h
                rw [ByteArray.toList_eq, Array.length_toList] at this
                exact this
              omega
            by_cases h2 : v.toList = []
            · rw [hX' h2]; cases nameB n <;> by_cases h3 : ks.length = 0 <;> simp [h2, h3]
            · cases X <;> simp [h2]
          · simp only [e4, if_false]
            by_cases e5 : a = 5
            · subst e5; simp
            · by_cases e6 : a = 6
              · subst e6; simp
              · have b6 : (a == 6) = false := by simpa using e6
                simp only [e5, e6, b6, if_false, or_self]
                by_cases e7 : a = 7
                · subst e7; cases Y <;> simp
                · simp [e7]
end Go.Proofs.Yteafilojjdfllaa
