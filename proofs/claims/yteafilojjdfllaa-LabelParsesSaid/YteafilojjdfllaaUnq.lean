/- Own text: texts of sets, read: plain. -/
import Derived.Test.YteafilojjdfllaaTxtQ
import Derived.Test.YteafilojjdfllaaSortP
namespace Go.Proofs.Yteafilojjdfllaa
open Go Go.Proofs.Yteafilojjdfllaa.PAll

/-! ### a text between quotes, read -/
inductive Step where
  | stop
  | done
  | byte (c : UInt8) (n : Nat)
def digL : List UInt8 := [48, 49, 50, 51, 52, 53, 54, 55, 56, 57, 97, 98, 99, 100, 101, 102]
def hexV (c : UInt8) : Int := Lib.indexByte digL c
def hexB (h l : UInt8) : UInt8 := ((hexV h).toNat * 16 + (hexV l).toNat).toUInt8
/-- the program's -/
def stepP : List UInt8 → Step
  | [] => .stop
  | x :: r =>
    if x = 34 then .done
    else if x = 92 then
      (if 3 ≤ r.length ∧ r.getD 0 0 = 120 then (if hexV (r.getD 1 0) < 0 ∨ hexV (r.getD 2 0) < 0 then .stop else .byte (hexB (r.getD 1 0) (r.getD 2 0)) 3)
      else if r.length < 1 then .stop else .byte (r.getD 0 0) 1)
    else .byte x 0
/-- the document's -/
def stepR : List UInt8 → Step
  | [] => .stop
  | x :: r =>
    if x = 34 then .done
    else if x = 92 then
      (if r.length < 1 then .stop
      else if r.getD 0 0 ≠ 120 then .byte (r.getD 0 0) 1
      else if r.length < 3 then .stop
      else if hexV (r.getD 1 0) < 0 ∨ hexV (r.getD 2 0) < 0 then .stop else .byte (hexB (r.getD 1 0) (r.getD 2 0)) 3)
    else .byte x 0
theorem stepP_cons (x : UInt8) (r : List UInt8) : stepP (x :: r) = if x = 34 then .done
    else if x = 92 then
      (if 3 ≤ r.length ∧ r.getD 0 0 = 120 then (if hexV (r.getD 1 0) < 0 ∨ hexV (r.getD 2 0) < 0 then .stop else .byte (hexB (r.getD 1 0) (r.getD 2 0)) 3)
      else if r.length < 1 then .stop else .byte (r.getD 0 0) 1)
    else .byte x 0 := rfl
theorem stepR_cons (x : UInt8) (r : List UInt8) : stepR (x :: r) = if x = 34 then .done
    else if x = 92 then
      (if r.length < 1 then .stop
      else if r.getD 0 0 ≠ 120 then .byte (r.getD 0 0) 1
      else if r.length < 3 then .stop
      else if hexV (r.getD 1 0) < 0 ∨ hexV (r.getD 2 0) < 0 then .stop else .byte (hexB (r.getD 1 0) (r.getD 2 0)) 3)
    else .byte x 0 := rfl
def unqW (step : List UInt8 → Step) : List UInt8 → Option (List UInt8 × List UInt8)
  | [] => none
  | x :: r => match step (x :: r) with
    | .stop => none
    | .done => some ([], r)
    | .byte c n => (unqW step (r.drop n)).map (fun q => (c :: q.1, q.2))
termination_by l => l.length
decreasing_by simp only [List.length_drop, List.length_cons]; omega
theorem hexV_hexD : ∀ n : Fin 16, hexV (hexD n.val) = (n.val : Int) := by decide +kernel
theorem hexB_hexD (c : UInt8) : hexB (hexD (c.toNat / 16)) (hexD (c.toNat % 16)) = c := by
  have h := c.toNat_lt
  have h1 := hexV_hexD ⟨c.toNat / 16, by omega⟩
  have h2 := hexV_hexD ⟨c.toNat % 16, by omega⟩
  simp only at h1 h2
  unfold hexB
  rw [h1, h2, Int.toNat_natCast, Int.toNat_natCast, show c.toNat / 16 * 16 + c.toNat % 16 = c.toNat by omega]
  simp
def Right (step : List UInt8 → Step) : Prop := (∀ t, step (34 :: t) = .done) ∧ ∀ c u, ∃ x r, encB c ++ u = x :: r ∧ ∃ n, step (x :: r) = .byte c n ∧ r.drop n = u
theorem right_P : Right stepP := by
  refine ⟨fun t => by rw [stepP_cons, if_pos rfl], fun c u => ?_⟩
  unfold encB
  by_cases h1 : c = 34 ∨ c = 92
  · rw [if_pos h1]
    refine ⟨92, c :: u, rfl, 1, ?_, rfl⟩
    rw [stepP_cons, if_neg (by decide), if_pos rfl, if_neg (by rintro ⟨-, h⟩; simp only [List.getD_cons_zero] at h; rcases h1 with e | e <;> rw [e] at h <;> exact absurd h (by decide)), if_neg (by simp)]
    rfl
  · rw [if_neg h1]
    by_cases h2 : c.toNat < 32 ∨ 127 ≤ c.toNat
    · rw [if_pos h2]
      refine ⟨92, 120 :: hexD (c.toNat / 16) :: hexD (c.toNat % 16) :: u, rfl, 3, ?_, rfl⟩
      have h := c.toNat_lt
      have e1 := hexV_hexD ⟨c.toNat / 16, by omega⟩
      have e2 := hexV_hexD ⟨c.toNat % 16, by omega⟩
      simp only at e1 e2
      rw [stepP_cons, if_neg (by decide), if_pos rfl, if_pos ⟨by simp, rfl⟩]
      show (if hexV (hexD (c.toNat / 16)) < 0 ∨ hexV (hexD (c.toNat % 16)) < 0 then Step.stop else .byte (hexB (hexD (c.toNat / 16)) (hexD (c.toNat % 16))) 3) = _
      rw [e1, e2, if_neg (by omega), hexB_hexD]
    · rw [if_neg h2]
      refine ⟨c, u, rfl, 0, ?_, rfl⟩
      rw [stepP_cons, if_neg (fun e => h1 (Or.inl e)), if_neg (fun e => h1 (Or.inr e))]
theorem right_R : Right stepR := by
  refine ⟨fun t => by rw [stepR_cons, if_pos rfl], fun c u => ?_⟩
  unfold encB
  by_cases h1 : c = 34 ∨ c = 92
  · rw [if_pos h1]
    refine ⟨92, c :: u, rfl, 1, ?_, rfl⟩
    rw [stepR_cons, if_neg (by decide), if_pos rfl, if_neg (by simp), if_pos (by simp only [List.getD_cons_zero]; rcases h1 with e | e <;> rw [e] <;> decide)]
    rfl
  · rw [if_neg h1]
    by_cases h2 : c.toNat < 32 ∨ 127 ≤ c.toNat
    · rw [if_pos h2]
      refine ⟨92, 120 :: hexD (c.toNat / 16) :: hexD (c.toNat % 16) :: u, rfl, 3, ?_, rfl⟩
      have h := c.toNat_lt
      have e1 := hexV_hexD ⟨c.toNat / 16, by omega⟩
      have e2 := hexV_hexD ⟨c.toNat % 16, by omega⟩
      simp only at e1 e2
      rw [stepR_cons, if_neg (by decide), if_pos rfl, if_neg (by simp), if_neg (by simp), if_neg (by simp)]
      show (if hexV (hexD (c.toNat / 16)) < 0 ∨ hexV (hexD (c.toNat % 16)) < 0 then Step.stop else .byte (hexB (hexD (c.toNat / 16)) (hexD (c.toNat % 16))) 3) = _
      rw [e1, e2, if_neg (by omega), hexB_hexD]
    · rw [if_neg h2]
      refine ⟨c, u, rfl, 0, ?_, rfl⟩
      rw [stepR_cons, if_neg (fun e => h1 (Or.inl e)), if_neg (fun e => h1 (Or.inr e))]
theorem unq_quote {step : List UInt8 → Step} (hr : Right step) (t : List UInt8) : ∀ (v : List UInt8), unqW step (v.flatMap encB ++ 34 :: t) = some (v, t)
  | [] => by rw [List.flatMap_nil, List.nil_append, unqW, hr.1]
  | c :: v => by
    obtain ⟨x, r, e, n, h1, h2⟩ := hr.2 c (v.flatMap encB ++ 34 :: t)
    rw [List.flatMap_cons, List.append_assoc, e, unqW, h1]
    simp only [h2]
    rw [unq_quote hr t v]
    rfl
/-! ### a set's text, read -/
/-- what stands behind '=' -/
def valW (step : List UInt8 → Step) : List UInt8 → Option (List UInt8 × List UInt8)
  | 34 :: r => unqW step r
  | _ => none
theorem val_quote {step : List UInt8 → Step} (hr : Right step) (v : ByteArray) (t : List UInt8) : valW step (quoteT v ++ t) = some (v.data.toList, t) := by
  unfold quoteT quoteL
  rw [List.cons_append, List.append_assoc]
  exact unq_quote hr t v.data.toList
/-- the program's: a name ends at the first '=' -/
def cutP (r : List UInt8) : Option Nat := if Lib.indexByte r 61 < 0 ∨ Lib.indexByte r 61 > 32 then none else some (Lib.indexByte r 61).toNat
/-- the document's: it ends where none of its signs stands -/
def cutR (r : List UInt8) : Option Nat := if (r.dropWhile nameC).head? = some 61 then some (r.takeWhile nameC).length else none
theorem index_name : ∀ (n : List UInt8) (s : List UInt8), n.all nameC = true → Lib.indexByte (n ++ 61 :: s) 61 = (n.length : Int)
  | [], s, _ => rfl
  | c :: n, s, h => by
    rw [List.all_cons, Bool.and_eq_true] at h
    have ih := index_name n s h.2
    have hc : (c == (61 : UInt8)) = false := by
      rw [beq_eq_false_iff_ne]; intro e; rw [e] at h; exact absurd h.1 (by decide)
    rw [List.cons_append, Lib.indexByte, hc, ih]
    have : ((n.length : Int) == -1) = false := by rw [beq_eq_false_iff_ne]; omega
    rw [this]
    simp
theorem span_name : ∀ (n : List UInt8) (s : List UInt8), n.all nameC = true → (n ++ 61 :: s).takeWhile nameC = n ∧ (n ++ 61 :: s).dropWhile nameC = 61 :: s
  | [], s, _ => ⟨rfl, rfl⟩
  | c :: n, s, h => by
    rw [List.all_cons, Bool.and_eq_true] at h
    obtain ⟨h1, h2⟩ := span_name n s h.2
    rw [List.cons_append, List.takeWhile_cons, List.dropWhile_cons, if_pos h.1, if_pos h.1, h1, h2]
    exact ⟨rfl, rfl⟩
theorem nameB_size {n : ByteArray} (h : nameB n = true) : n.data.toList.length ≤ 32 := by
  unfold nameB at h
  rw [Bool.and_eq_true, decide_eq_true_iff] at h
  have : n.data.toList.length = n.size := by simp
  omega
theorem cutP_name (n : ByteArray) (h : nameB n = true) (s : List UInt8) : cutP (n.data.toList ++ 61 :: s) = some n.data.toList.length := by
  have := nameB_size h
  unfold cutP
  rw [index_name _ s (nameB_all h), if_neg (by omega), Int.toNat_natCast]
theorem cutR_name (n : ByteArray) (h : nameB n = true) (s : List UInt8) : cutR (n.data.toList ++ 61 :: s) = some n.data.toList.length := by
  obtain ⟨h1, h2⟩ := span_name _ s (nameB_all h)
  unfold cutR
  rw [h1, h2]
  rfl
/-- a label, and what stands behind it -/
def oneW (cut : List UInt8 → Option Nat) (step : List UInt8 → Step) (r : List UInt8) : Option (S68 × List UInt8) :=
  match cut r with
  | none => none
  | some n => (valW step (r.drop (n + 1))).map (fun q => (⟨⟨(r.take n).toArray⟩, ⟨q.1.toArray⟩⟩, q.2))
/-- as many labels as there are, at most k -/
def manyW (cut : List UInt8 → Option Nat) (step : List UInt8 → Step) : Nat → List UInt8 → Option (List S68)
  | 0, _ => some []
  | k + 1, r => match oneW cut step r with
    | none => none
    | some (x, []) => some [x]
    | some (x, c :: t) => if c = 44 then (manyW cut step k t).map (fun l => x :: l) else none
theorem one_lab {cut : List UInt8 → Option Nat} {step : List UInt8 → Step} (hr : Right step) (hc : ∀ (n : ByteArray), nameB n = true → ∀ s, cut (n.data.toList ++ 61 :: s) = some n.data.toList.length) (x : S68) (hx : nameB x.f0 = true) (t : List UInt8) :
    oneW cut step (labL x ++ t) = some (x, t) := by
  unfold oneW labL
  rw [List.append_assoc, List.cons_append, hc _ hx]
  simp only
  rw [show x.f0.data.toList ++ 61 :: (quoteT x.f1 ++ t) = (x.f0.data.toList ++ [61]) ++ (quoteT x.f1 ++ t) by simp, List.drop_append_of_le_length (by simp), List.drop_of_length_le (by simp), List.nil_append, val_quote hr]
  simp
theorem many_text {cut : List UInt8 → Option Nat} {step : List UInt8 → Step} (hr : Right step) (hc : ∀ (n : ByteArray), nameB n = true → ∀ s, cut (n.data.toList ++ 61 :: s) = some n.data.toList.length) : ∀ (l : List S68) (k : Nat), l ≠ [] → l.length ≤ k → (∀ x ∈ l, nameB x.f0 = true) → manyW cut step k (textS l) = some l
  | [], _, h, _, _ => absurd rfl h
  | x :: l, 0, _, h, _ => by simp at h
  | [x], k + 1, _, h, hx => by
    have := one_lab hr hc x (hx x (List.mem_cons_self ..)) []
    rw [List.append_nil] at this
    show manyW cut step (k + 1) (labL x) = some [x]
    rw [manyW, this]
  | x :: y :: l, k + 1, _, h, hx => by
    have h1 := one_lab hr hc x (hx x (List.mem_cons_self ..)) (44 :: textS (y :: l))
    have h2 := many_text hr hc (y :: l) k (by simp) (by simpa using h) (fun z hz => hx z (List.mem_cons_of_mem _ hz))
    show manyW cut step (k + 1) (labL x ++ 44 :: textS (y :: l)) = _
    rw [manyW, h1]
    simp only [if_true, h2]
    rfl
end Go.Proofs.Yteafilojjdfllaa
