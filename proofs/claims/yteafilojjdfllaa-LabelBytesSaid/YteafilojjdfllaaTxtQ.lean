/- Own text: texts between quotes, with commas, of labels: plain. -/
import Derived.Test.YteafilojjdfllaaChk
import Derived.Lib.Join
namespace Go.Proofs.Yteafilojjdfllaa
open Go Go.Proofs.Yteafilojjdfllaa.PAll

/-- a digit's byte -/
def hexD (n : Nat) : UInt8 := if n < 10 then (48 + n).toUInt8 else (87 + n).toUInt8
/-- a byte between quotes -/
def encB (c : UInt8) : List UInt8 :=
  if c = 34 ∨ c = 92 then [92, c] else if c.toNat < 32 ∨ 127 ≤ c.toNat then [92, 120, hexD (c.toNat / 16), hexD (c.toNat % 16)] else [c]
/-- a value between quotes -/
def quoteL (l : List UInt8) : List UInt8 := 34 :: (l.flatMap encB ++ [34])
def unhex (c : UInt8) : Nat := if c.toNat < 58 then c.toNat - 48 else c.toNat - 87
/-- the first byte back, and what is behind -/
def decB : List UInt8 → Option (UInt8 × List UInt8)
  | 92 :: 120 :: h :: l :: r => some ((unhex h * 16 + unhex l).toUInt8, r)
  | 92 :: c :: r => some (c, r)
  | 34 :: _ => none
  | c :: r => some (c, r)
  | [] => none
theorem dec_hex : ∀ n : Fin 256, (unhex (hexD (n.val / 16)) * 16 + unhex (hexD (n.val % 16))).toUInt8 = n.val.toUInt8 := by decide +kernel
theorem decB_enc (c : UInt8) (u : List UInt8) : decB (encB c ++ u) = some (c, u) := by
  unfold encB
  by_cases h1 : c = 34 ∨ c = 92
  · rw [if_pos h1]
    rcases h1 with rfl | rfl <;> rfl
  · rw [if_neg h1]
    by_cases h2 : c.toNat < 32 ∨ 127 ≤ c.toNat
    · rw [if_pos h2]
      have h := dec_hex ⟨c.toNat, c.toNat_lt⟩
      simp only at h
      show some ((unhex (hexD (c.toNat / 16)) * 16 + unhex (hexD (c.toNat % 16))).toUInt8, u) = some (c, u)
      rw [h]
      simp
    · rw [if_neg h2]
      have h34 : c ≠ 34 := fun e => h1 (Or.inl e)
      have h92 : c ≠ 92 := fun e => h1 (Or.inr e)
      show decB (c :: u) = some (c, u)
      unfold decB
      split <;> simp_all
theorem quote_body : ∀ (x y s t : List UInt8), x.flatMap encB ++ 34 :: s = y.flatMap encB ++ 34 :: t → x = y ∧ s = t
  | [], [], s, t, h => by simpa using h
  | [], b :: y, s, t, h => by
    have := congrArg decB h
    simp only [List.flatMap_nil, List.nil_append, List.flatMap_cons, List.append_assoc, decB_enc] at this
    simp [decB] at this
  | a :: x, [], s, t, h => by
    have := congrArg decB h
    simp only [List.flatMap_nil, List.nil_append, List.flatMap_cons, List.append_assoc, decB_enc] at this
    simp [decB] at this
  | a :: x, b :: y, s, t, h => by
    have := congrArg decB h
    simp only [List.flatMap_cons, List.append_assoc, decB_enc, Option.some.injEq, Prod.mk.injEq] at this
    obtain ⟨h1, h2⟩ := quote_body x y s t this.2
    exact ⟨by rw [this.1, h1], h2⟩
theorem quote_pre (x y s t : List UInt8) (h : quoteL x ++ s = quoteL y ++ t) : x = y ∧ s = t := by
  unfold quoteL at h
  simp only [List.cons_append, List.append_assoc, List.cons.injEq, true_and, List.nil_append] at h
  exact quote_body x y s t h
/-- a name ends where a sign stands that is none of its own -/
theorem name_pre : ∀ (n n' : List UInt8) (p q : UInt8) (s t : List UInt8), n.all nameC = true → n'.all nameC = true → nameC p = false → nameC q = false → n ++ p :: s = n' ++ q :: t → n = n' ∧ p = q ∧ s = t
  | [], [], p, q, s, t, _, _, _, _, h => by simpa using h
  | [], b :: n', p, q, s, t, _, h2, h3, _, h => by
    simp only [List.nil_append, List.cons_append, List.cons.injEq] at h
    rw [List.all_cons, Bool.and_eq_true, ← h.1, h3] at h2
    exact absurd h2.1 (by decide)
  | a :: n, [], p, q, s, t, h1, _, _, h4, h => by
    simp only [List.nil_append, List.cons_append, List.cons.injEq] at h
    rw [List.all_cons, Bool.and_eq_true, h.1, h4] at h1
    exact absurd h1.1 (by decide)
  | a :: n, b :: n', p, q, s, t, h1, h2, h3, h4, h => by
    simp only [List.cons_append, List.cons.injEq] at h
    rw [List.all_cons, Bool.and_eq_true] at h1 h2
    obtain ⟨e1, e2, e3⟩ := name_pre n n' p q s t h1.2 h2.2 h3 h4 h.2
    exact ⟨by rw [h.1, e1], e2, e3⟩

/-- with commas between -/
def commas : List (List UInt8) → List UInt8
  | [] => []
  | [x] => x
  | x :: y :: r => x ++ 44 :: commas (y :: r)
theorem commas_join (l : List (List UInt8)) : Lib.join l [44] = commas l := by
  match l with
  | [] => rfl
  | [x] => rw [Lib.join_one]; rfl
  | x :: y :: r =>
    have h := commas_join (y :: r)
    rw [Lib.join_cons] at h ⊢
    rw [commas, ← h]
    simp [Lib.joinTail]
/-- lists of what tells its own end, between parentheses -/
theorem commas_pre {α : Type} (f : α → List UInt8) (P Q : α → Prop) (hp : ∀ x y s t, P x → Q y → f x ++ s = f y ++ t → x = y ∧ s = t) (hc : ∀ x, P x → ∃ c r, f x = c :: r ∧ c ≠ 41) (hd : ∀ x, Q x → ∃ c r, f x = c :: r ∧ c ≠ 41) :
    ∀ (xs ys : List α) (s t : List UInt8), (∀ x ∈ xs, P x) → (∀ y ∈ ys, Q y) → commas (xs.map f) ++ 41 :: s = commas (ys.map f) ++ 41 :: t → xs = ys ∧ s = t
  | [], [], s, t, _, _, h => by simpa [commas] using h
  | [], y :: ys, s, t, _, hy, h => by
    exfalso
    obtain ⟨c, r, e, hc⟩ := hd y (hy y (List.mem_cons_self ..))
    cases ys with
    | nil => simp only [List.map_nil, List.map_cons, commas, e, List.nil_append, List.cons_append, List.cons.injEq] at h; exact hc h.1.symm
    | cons z ys => simp only [List.map_nil, List.map_cons, commas, e, List.nil_append, List.cons_append, List.cons.injEq] at h; exact hc h.1.symm
  | x :: xs, [], s, t, hx, _, h => by
    exfalso
    obtain ⟨c, r, e, hc⟩ := hc x (hx x (List.mem_cons_self ..))
    cases xs with
    | nil => simp only [List.map_nil, List.map_cons, commas, e, List.nil_append, List.cons_append, List.cons.injEq] at h; exact hc h.1
    | cons z xs => simp only [List.map_nil, List.map_cons, commas, e, List.nil_append, List.cons_append, List.cons.injEq] at h; exact hc h.1
  | [x], [y], s, t, hx, hy, h => by
    obtain ⟨rfl, h2⟩ := hp x y _ _ (hx x (List.mem_cons_self ..)) (hy y (List.mem_cons_self ..)) h
    simpa using h2
  | [x], y :: z :: ys, s, t, hx, hy, h => by
    exfalso
    simp only [List.map_cons, List.map_nil, commas, List.append_assoc, List.cons_append] at h
    obtain ⟨rfl, h2⟩ := hp x y _ _ (hx x (List.mem_cons_self ..)) (hy y (List.mem_cons_self ..)) h
    simp at h2
  | x :: z :: xs, [y], s, t, hx, hy, h => by
    exfalso
    simp only [List.map_cons, List.map_nil, commas, List.append_assoc, List.cons_append] at h
    obtain ⟨rfl, h2⟩ := hp x y _ _ (hx x (List.mem_cons_self ..)) (hy y (List.mem_cons_self ..)) h
    simp at h2
  | x :: x' :: xs, y :: y' :: ys, s, t, hx, hy, h => by
    simp only [List.map_cons, commas, List.append_assoc, List.cons_append] at h
    obtain ⟨rfl, h2⟩ := hp x y _ _ (hx x (List.mem_cons_self ..)) (hy y (List.mem_cons_self ..)) h
    simp only [List.cons.injEq, true_and] at h2
    obtain ⟨e1, e2⟩ := commas_pre f P Q hp hc hd (x' :: xs) (y' :: ys) s t (fun u hu => hx u (List.mem_cons_of_mem _ hu)) (fun u hu => hy u (List.mem_cons_of_mem _ hu)) h2
    exact ⟨by rw [e1], e2⟩

/-- a text's own bytes -/
def quoteT (v : ByteArray) : List UInt8 := quoteL v.data.toList
theorem quoteT_pre (x y : ByteArray) (s t : List UInt8) (h : quoteT x ++ s = quoteT y ++ t) : x = y ∧ s = t := by
  obtain ⟨h1, h2⟩ := quote_pre _ _ s t h
  refine ⟨?_, h2⟩
  cases x; cases y
  simp only at h1
  rw [Array.toList_inj.1 h1]

theorem nameB_all {n : ByteArray} (h : nameB n = true) : n.data.toList.all nameC = true := by
  unfold nameB at h
  rw [Bool.and_eq_true] at h
  exact h.2
theorem nameB_cons {n : ByteArray} (h : nameB n = true) : ∃ c r, n.data.toList = c :: r ∧ nameC c = true := by
  have h2 := nameB_all h
  unfold nameB at h
  rw [Bool.and_eq_true, decide_eq_true_iff] at h
  have h1 : 1 ≤ n.data.toList.length := h.1.1
  match hl : n.data.toList, h1 with
  | c :: r, _ =>
    rw [hl, List.all_cons, Bool.and_eq_true] at h2
    exact ⟨c, r, rfl, h2.1⟩
theorem ba_nil {b : ByteArray} (h : b.toList = []) : b = ⟨#[]⟩ := by
  rw [ByteArray.toList_eq] at h
  cases b
  simp only at h
  rw [Array.toList_eq_nil_iff.1 h]
theorem len_nil {α : Type} {l : List α} (h : l.length = 0) : l = [] := List.length_eq_zero_iff.1 h
theorem encB_len (c : UInt8) : (encB c).length ≤ 4 := by
  unfold encB
  split
  · simp
  · split <;> simp
theorem encs_len : ∀ (l : List UInt8), (l.flatMap encB).length ≤ 4 * l.length
  | [] => by simp
  | c :: l => by have := encB_len c; have := encs_len l; simp only [List.flatMap_cons, List.length_append, List.length_cons]; omega
theorem quoteT_len (v : ByteArray) : (quoteT v).length ≤ 4 * v.size + 2 := by
  have h := encs_len v.data.toList
  have e : v.data.toList.length = v.size := by simp
  unfold quoteT quoteL
  simp only [List.length_cons, List.length_append, List.length_nil]
  omega
theorem commas_len : ∀ (l : List (List UInt8)), (commas l).length ≤ (l.map (fun x => x.length + 1)).sum
  | [] => by simp [commas]
  | [x] => by simp [commas]
  | x :: y :: r => by
    have := commas_len (y :: r)
    simp only [commas, List.length_append, List.length_cons, List.map_cons, List.sum_cons] at this ⊢
    omega
def labL (x : S68) : List UInt8 := x.f0.data.toList ++ 61 :: quoteT x.f1
def textS (l : List S68) : List UInt8 := commas (l.map labL)
theorem textS_inj (l l' : List S68) (h : ∀ x ∈ l, nameB x.f0 = true) (h' : ∀ x ∈ l', nameB x.f0 = true) (he : textS l = textS l') : l = l' := by
  refine (commas_pre labL (fun x => nameB x.f0 = true) (fun x => nameB x.f0 = true) ?_ ?_ ?_ l l' [] [] h h' (by unfold textS at he; rw [he])).1
  · rintro ⟨n, v⟩ ⟨n', v'⟩ s t hx hy e
    unfold labL at e
    simp only [List.append_assoc, List.cons_append] at e hx hy
    obtain ⟨e1, -, e3⟩ := name_pre _ _ _ _ _ _ (nameB_all hx) (nameB_all hy) rfl rfl e
    obtain ⟨e4, e5⟩ := quoteT_pre v v' s t e3
    have : n = n' := by cases n; cases n'; simp only at e1; rw [Array.toList_inj.1 e1]
    exact ⟨by rw [this, e4], e5⟩
  · intro x hx
    obtain ⟨c, r, e, hc⟩ := nameB_cons hx
    exact ⟨c, _, by unfold labL; rw [e]; rfl, fun h => by rw [h] at hc; cases hc⟩
  · intro x hx
    obtain ⟨c, r, e, hc⟩ := nameB_cons hx
    exact ⟨c, _, by unfold labL; rw [e]; rfl, fun h => by rw [h] at hc; cases hc⟩

/-- what a matcher that may be looks like -/
theorem shape {m : S25} (h : okM m = true) :
    m = ⟨0, ⟨#[]⟩, ⟨#[]⟩, [], []⟩ ∨ (∃ op n v, (op = 1 ∨ op = 2 ∨ op = 3) ∧ nameB n = true ∧ m = ⟨op, n, v, [], []⟩) ∨ (∃ n vs, nameB n = true ∧ m = ⟨4, n, ⟨#[]⟩, vs, []⟩) ∨
      (∃ op ks, (op = 5 ∨ op = 6 ∨ op = 7) ∧ okL ks = true ∧ m = ⟨op, ⟨#[]⟩, ⟨#[]⟩, [], ks⟩) := by
  obtain ⟨op, n, v, vs, ks⟩ := m
  rw [okM_mk, Bool.and_eq_true] at h
  obtain ⟨h, hk⟩ := h
  simp only at hk
  unfold aloneB plainB at h
  by_cases e0 : op = 0
  · rw [if_pos e0] at h
    simp only [Bool.and_eq_true, decide_eq_true_iff] at h
    obtain ⟨⟨h1, h2, h3⟩, h4⟩ := h
    left
    rw [e0, ba_nil h1, ba_nil h2, len_nil h3, len_nil h4]
  rw [if_neg e0] at h
  right
  by_cases e1 : op = 1 ∨ op = 2 ∨ op = 3
  · rw [if_pos e1] at h
    simp only [Bool.and_eq_true, decide_eq_true_iff] at h
    obtain ⟨h1, _, h2, h3⟩ := h
    exact Or.inl ⟨op, n, v, e1, h1, by rw [len_nil h3, len_nil h2]⟩
  rw [if_neg e1] at h
  right
  by_cases e4 : op = 4
  · rw [if_pos e4] at h
    simp only [Bool.and_eq_true, decide_eq_true_iff] at h
    obtain ⟨⟨h1, h2, h3⟩, h4⟩ := h
    exact Or.inl ⟨n, vs, h1, by rw [e4, ba_nil h3, len_nil h2]⟩
  rw [if_neg e4] at h
  right
  by_cases e5 : op = 5 ∨ op = 6
  · rw [if_pos e5] at h
    simp only [decide_eq_true_iff] at h
    obtain ⟨h1, h2, h3⟩ := h
    exact ⟨op, ks, by omega, hk, by rw [ba_nil h1, ba_nil h2, len_nil h3]⟩
  rw [if_neg e5] at h
  by_cases e7 : op = 7
  · rw [if_pos e7] at h
    simp only [Bool.and_eq_true, decide_eq_true_iff] at h
    obtain ⟨⟨h1, h2, h3⟩, h4⟩ := h
    exact ⟨op, ks, by omega, hk, by rw [ba_nil h1, ba_nil h2, len_nil h3]⟩
  rw [if_neg e7] at h
  cases h
theorem okL_mem : ∀ {ks : List S25} {k : S25}, okL ks = true → k ∈ ks → okM k = true
  | x :: ks, k, h, hk => by
    simp only [okL, Bool.and_eq_true] at h
    rcases List.mem_cons.1 hk with rfl | hk
    · exact h.1
    · exact okL_mem h.2 hk
end Go.Proofs.Yteafilojjdfllaa
