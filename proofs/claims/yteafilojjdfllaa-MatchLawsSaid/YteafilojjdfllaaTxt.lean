/- Own text: a matcher's text tells its matcher, a set's text its set; names and sameness; what the printed functions answer: plain. -/
import Derived.Test.YteafilojjdfllaaEvalV
import Derived.Test.YteafilojjdfllaaPAllx18
import Derived.Lib.Join
import Derived.Lib.LazyBuf
namespace Go.Proofs.Yteafilojjdfllaa
open Go Go.RowKit Go.Proofs.YteafilojjdfllaaW.PrintWords Go.Proofs.Yteafilojjdfllaa.PAll

/-- a digit's byte -/
def hexD (n : Nat) : UInt8 := if n < 10 then (48 + n).toUInt8 else (87 + n).toUInt8
/-- a byte between quotes -/
def encB (c : UInt8) : List UInt8 :=
  if c = 34 ∨ c = 92 then [92, c] else if c.toNat < 32 ∨ 127 ≤ c.toNat then [92, 120, hexD (c.toNat / 16), hexD (c.toNat % 16)] else [c]
/-- a value between quotes -/
def quoteL (l : List UInt8) : List UInt8 := 34 :: (l.flatMap encB ++ [34])
def unhex (c : UInt8) : Nat := if c.toNat < 58 then c.toNat - 48 else c.toNat - 87
/-- the first byte back, and what is behind -/
def decB : List UInt8 → Option (UInt8 × List UInt8)
  | 92 :: 120 :: h :: l :: r => some ((unhex h * 16 + unhex l).toUInt8, r)
  | 92 :: c :: r => some (c, r)
  | 34 :: _ => none
  | c :: r => some (c, r)
  | [] => none
theorem dec_hex : ∀ n : Fin 256, (unhex (hexD (n.val / 16)) * 16 + unhex (hexD (n.val % 16))).toUInt8 = n.val.toUInt8 := by decide +kernel
theorem decB_enc (c : UInt8) (u : List UInt8) : decB (encB c ++ u) = some (c, u) := by
  unfold encB
  by_cases h1 : c = 34 ∨ c = 92
  · rw [if_pos h1]
    rcases h1 with rfl | rfl <;> rfl
  · rw [if_neg h1]
    by_cases h2 : c.toNat < 32 ∨ 127 ≤ c.toNat
    · rw [if_pos h2]
      have h := dec_hex ⟨c.toNat, c.toNat_lt⟩
      simp only at h
      show some ((unhex (hexD (c.toNat / 16)) * 16 + unhex (hexD (c.toNat % 16))).toUInt8, u) = some (c, u)
      rw [h]
      simp
    · rw [if_neg h2]
      have h34 : c ≠ 34 := fun e => h1 (Or.inl e)
      have h92 : c ≠ 92 := fun e => h1 (Or.inr e)
      show decB (c :: u) = some (c, u)
      unfold decB
      split <;> simp_all
theorem quote_body : ∀ (x y s t : List UInt8), x.flatMap encB ++ 34 :: s = y.flatMap encB ++ 34 :: t → x = y ∧ s = t
  | [], [], s, t, h => by simpa using h
  | [], b :: y, s, t, h => by
    have := congrArg decB h
    simp only [List.flatMap_nil, List.nil_append, List.flatMap_cons, List.append_assoc, decB_enc] at this
    simp [decB] at this
  | a :: x, [], s, t, h => by
    have := congrArg decB h
    simp only [List.flatMap_nil, List.nil_append, List.flatMap_cons, List.append_assoc, decB_enc] at this
    simp [decB] at this
  | a :: x, b :: y, s, t, h => by
    have := congrArg decB h
    simp only [List.flatMap_cons, List.append_assoc, decB_enc, Option.some.injEq, Prod.mk.injEq] at this
    obtain ⟨h1, h2⟩ := quote_body x y s t this.2
    exact ⟨by rw [this.1, h1], h2⟩
theorem quote_pre (x y s t : List UInt8) (h : quoteL x ++ s = quoteL y ++ t) : x = y ∧ s = t := by
  unfold quoteL at h
  simp only [List.cons_append, List.append_assoc, List.cons.injEq, true_and, List.nil_append] at h
  exact quote_body x y s t h
/-- a name ends where a sign stands that is none of its own -/
theorem name_pre : ∀ (n n' : List UInt8) (p q : UInt8) (s t : List UInt8), n.all nameC = true → n'.all nameC = true → nameC p = false → nameC q = false → n ++ p :: s = n' ++ q :: t → n = n' ∧ p = q ∧ s = t
  | [], [], p, q, s, t, _, _, _, _, h => by simpa using h
  | [], b :: n', p, q, s, t, _, h2, h3, _, h => by
    simp only [List.nil_append, List.cons_append, List.cons.injEq] at h
    rw [List.all_cons, Bool.and_eq_true, ← h.1, h3] at h2
    exact absurd h2.1 (by decide)
  | a :: n, [], p, q, s, t, h1, _, _, h4, h => by
    simp only [List.nil_append, List.cons_append, List.cons.injEq] at h
    rw [List.all_cons, Bool.and_eq_true, h.1, h4] at h1
    exact absurd h1.1 (by decide)
  | a :: n, b :: n', p, q, s, t, h1, h2, h3, h4, h => by
    simp only [List.cons_append, List.cons.injEq] at h
    rw [List.all_cons, Bool.and_eq_true] at h1 h2
    obtain ⟨e1, e2, e3⟩ := name_pre n n' p q s t h1.2 h2.2 h3 h4 h.2
    exact ⟨by rw [h.1, e1], e2, e3⟩

/-- with commas between -/
def commas : List (List UInt8) → List UInt8
  | [] => []
  | [x] => x
  | x :: y :: r => x ++ 44 :: commas (y :: r)
theorem commas_join (l : List (List UInt8)) : Lib.join l [44] = commas l := by
  match l with
  | [] => rfl
  | [x] => rw [Lib.join_one]; rfl
  | x :: y :: r =>
    have h := commas_join (y :: r)
    rw [Lib.join_cons] at h ⊢
    rw [commas, ← h]
    simp [Lib.joinTail]
/-- lists of what tells its own end, between parentheses -/
theorem commas_pre {α : Type} (f : α → List UInt8) (P Q : α → Prop) (hp : ∀ x y s t, P x → Q y → f x ++ s = f y ++ t → x = y ∧ s = t) (hc : ∀ x, P x → ∃ c r, f x = c :: r ∧ c ≠ 41) (hd : ∀ x, Q x → ∃ c r, f x = c :: r ∧ c ≠ 41) :
    ∀ (xs ys : List α) (s t : List UInt8), (∀ x ∈ xs, P x) → (∀ y ∈ ys, Q y) → commas (xs.map f) ++ 41 :: s = commas (ys.map f) ++ 41 :: t → xs = ys ∧ s = t
  | [], [], s, t, _, _, h => by simpa [commas] using h
  | [], y :: ys, s, t, _, hy, h => by
    exfalso
    obtain ⟨c, r, e, hc⟩ := hd y (hy y (List.mem_cons_self ..))
    cases ys with
    | nil => simp only [List.map_nil, List.map_cons, commas, e, List.nil_append, List.cons_append, List.cons.injEq] at h; exact hc h.1.symm
    | cons z ys => simp only [List.map_nil, List.map_cons, commas, e, List.nil_append, List.cons_append, List.cons.injEq] at h; exact hc h.1.symm
  | x :: xs, [], s, t, hx, _, h => by
    exfalso
    obtain ⟨c, r, e, hc⟩ := hc x (hx x (List.mem_cons_self ..))
    cases xs with
    | nil => simp only [List.map_nil, List.map_cons, commas, e, List.nil_append, List.cons_append, List.cons.injEq] at h; exact hc h.1
    | cons z xs => simp only [List.map_nil, List.map_cons, commas, e, List.nil_append, List.cons_append, List.cons.injEq] at h; exact hc h.1
  | [x], [y], s, t, hx, hy, h => by
    obtain ⟨rfl, h2⟩ := hp x y _ _ (hx x (List.mem_cons_self ..)) (hy y (List.mem_cons_self ..)) h
    simpa using h2
  | [x], y :: z :: ys, s, t, hx, hy, h => by
    exfalso
    simp only [List.map_cons, List.map_nil, commas, List.append_assoc, List.cons_append] at h
    obtain ⟨rfl, h2⟩ := hp x y _ _ (hx x (List.mem_cons_self ..)) (hy y (List.mem_cons_self ..)) h
    simp at h2
  | x :: z :: xs, [y], s, t, hx, hy, h => by
    exfalso
    simp only [List.map_cons, List.map_nil, commas, List.append_assoc, List.cons_append] at h
    obtain ⟨rfl, h2⟩ := hp x y _ _ (hx x (List.mem_cons_self ..)) (hy y (List.mem_cons_self ..)) h
    simp at h2
  | x :: x' :: xs, y :: y' :: ys, s, t, hx, hy, h => by
    simp only [List.map_cons, commas, List.append_assoc, List.cons_append] at h
    obtain ⟨rfl, h2⟩ := hp x y _ _ (hx x (List.mem_cons_self ..)) (hy y (List.mem_cons_self ..)) h
    simp only [List.cons.injEq, true_and] at h2
    obtain ⟨e1, e2⟩ := commas_pre f P Q hp hc hd (x' :: xs) (y' :: ys) s t (fun u hu => hx u (List.mem_cons_of_mem _ hu)) (fun u hu => hy u (List.mem_cons_of_mem _ hu)) h2
    exact ⟨by rw [e1], e2⟩

/-- a text's own bytes -/
def quoteT (v : ByteArray) : List UInt8 := quoteL v.data.toList
mutual
/-- a matcher as a text -/
def textM : S25 → List UInt8
  | ⟨op, n, v, vs, ks⟩ =>
    if op = 0 then [42] else if op = 1 then n.data.toList ++ 61 :: quoteT v else if op = 2 then n.data.toList ++ 33 :: 61 :: quoteT v
    else if op = 3 then n.data.toList ++ 94 :: 61 :: quoteT v else if op = 4 then n.data.toList ++ 64 :: 40 :: (commas (vs.map quoteT) ++ [41])
    else (if op = 5 then 38 else if op = 6 then 124 else 33) :: 40 :: (commas (textsM ks) ++ [41])
def textsM : List S25 → List (List UInt8)
  | [] => []
  | k :: ks => textM k :: textsM ks
end
theorem textsM_map : ∀ (ks : List S25), textsM ks = ks.map textM
  | [] => rfl
  | k :: ks => by rw [textsM, textsM_map ks, List.map_cons]
theorem textM_mk (m : S25) : textM m = if m.f0 = 0 then [42] else if m.f0 = 1 then m.f1.data.toList ++ 61 :: quoteT m.f2 else if m.f0 = 2 then m.f1.data.toList ++ 33 :: 61 :: quoteT m.f2
    else if m.f0 = 3 then m.f1.data.toList ++ 94 :: 61 :: quoteT m.f2 else if m.f0 = 4 then m.f1.data.toList ++ 64 :: 40 :: (commas (m.f3.map quoteT) ++ [41])
    else (if m.f0 = 5 then 38 else if m.f0 = 6 then 124 else 33) :: 40 :: (commas (m.f4.map textM) ++ [41]) := by
  cases m; simp only [textM, textsM_map]
theorem quoteT_pre (x y : ByteArray) (s t : List UInt8) (h : quoteT x ++ s = quoteT y ++ t) : x = y ∧ s = t := by
  obtain ⟨h1, h2⟩ := quote_pre _ _ s t h
  refine ⟨?_, h2⟩
  cases x; cases y
  simp only at h1
  rw [Array.toList_inj.1 h1]

theorem nameB_all {n : ByteArray} (h : nameB n = true) : n.data.toList.all nameC = true := by
  unfold nameB at h
  rw [Bool.and_eq_true] at h
  exact h.2
theorem nameB_cons {n : ByteArray} (h : nameB n = true) : ∃ c r, n.data.toList = c :: r ∧ nameC c = true := by
  have h2 := nameB_all h
  unfold nameB at h
  rw [Bool.and_eq_true, decide_eq_true_iff] at h
  have h1 : 1 ≤ n.data.toList.length := h.1.1
  match hl : n.data.toList, h1 with
  | c :: r, _ =>
    rw [hl, List.all_cons, Bool.and_eq_true] at h2
    exact ⟨c, r, rfl, h2.1⟩
theorem ba_nil {b : ByteArray} (h : b.toList = []) : b = ⟨#[]⟩ := by
  rw [ByteArray.toList_eq] at h
  cases b
  simp only at h
  rw [Array.toList_eq_nil_iff.1 h]
theorem len_nil {α : Type} {l : List α} (h : l.length = 0) : l = [] := List.length_eq_zero_iff.1 h
/-- what a matcher that may be looks like -/
theorem shape {m : S25} (h : okM m = true) :
    m = ⟨0, ⟨#[]⟩, ⟨#[]⟩, [], []⟩ ∨ (∃ op n v, (op = 1 ∨ op = 2 ∨ op = 3) ∧ nameB n = true ∧ m = ⟨op, n, v, [], []⟩) ∨ (∃ n vs, nameB n = true ∧ m = ⟨4, n, ⟨#[]⟩, vs, []⟩) ∨
      (∃ op ks, (op = 5 ∨ op = 6 ∨ op = 7) ∧ okL ks = true ∧ m = ⟨op, ⟨#[]⟩, ⟨#[]⟩, [], ks⟩) := by
  obtain ⟨op, n, v, vs, ks⟩ := m
  rw [okM_mk, Bool.and_eq_true] at h
  obtain ⟨h, hk⟩ := h
  simp only at hk
  unfold aloneB plainB at h
  by_cases e0 : op = 0
  · rw [if_pos e0] at h
    simp only [Bool.and_eq_true, decide_eq_true_iff] at h
    obtain ⟨⟨h1, h2, h3⟩, h4⟩ := h
    left
    rw [e0, ba_nil h1, ba_nil h2, len_nil h3, len_nil h4]
  rw [if_neg e0] at h
  right
  by_cases e1 : op = 1 ∨ op = 2 ∨ op = 3
  · rw [if_pos e1] at h
    simp only [Bool.and_eq_true, decide_eq_true_iff] at h
    obtain ⟨h1, _, h2, h3⟩ := h
    exact Or.inl ⟨op, n, v, e1, h1, by rw [len_nil h3, len_nil h2]⟩
  rw [if_neg e1] at h
  right
  by_cases e4 : op = 4
  · rw [if_pos e4] at h
    simp only [Bool.and_eq_true, decide_eq_true_iff] at h
    obtain ⟨⟨h1, h2, h3⟩, h4⟩ := h
    exact Or.inl ⟨n, vs, h1, by rw [e4, ba_nil h3, len_nil h2]⟩
  rw [if_neg e4] at h
  right
  by_cases e5 : op = 5 ∨ op = 6
  · rw [if_pos e5] at h
    simp only [decide_eq_true_iff] at h
    obtain ⟨h1, h2, h3⟩ := h
    exact ⟨op, ks, by omega, hk, by rw [ba_nil h1, ba_nil h2, len_nil h3]⟩
  rw [if_neg e5] at h
  by_cases e7 : op = 7
  · rw [if_pos e7] at h
    simp only [Bool.and_eq_true, decide_eq_true_iff] at h
    obtain ⟨⟨h1, h2, h3⟩, h4⟩ := h
    exact ⟨op, ks, by omega, hk, by rw [ba_nil h1, ba_nil h2, len_nil h3]⟩
  rw [if_neg e7] at h
  cases h
theorem okL_mem : ∀ {ks : List S25} {k : S25}, okL ks = true → k ∈ ks → okM k = true
  | x :: ks, k, h, hk => by
    simp only [okL, Bool.and_eq_true] at h
    rcases List.mem_cons.1 hk with rfl | hk
    · exact h.1
    · exact okL_mem h.2 hk
/-- the sign behind a name, and the rest -/
def textN (op : Int) (v : ByteArray) (vs : List ByteArray) : UInt8 × List UInt8 :=
  if op = 1 then (61, quoteT v) else if op = 2 then (33, 61 :: quoteT v) else if op = 3 then (94, 61 :: quoteT v) else (64, 40 :: (commas (vs.map quoteT) ++ [41]))
theorem text_0 : textM ⟨0, ⟨#[]⟩, ⟨#[]⟩, [], []⟩ = [42] := rfl
theorem text_n {op : Int} {n v : ByteArray} {vs : List ByteArray} (h : op = 1 ∨ op = 2 ∨ op = 3 ∨ op = 4) : textM ⟨op, n, v, vs, []⟩ = n.data.toList ++ (textN op v vs).1 :: (textN op v vs).2 := by
  rcases h with rfl | rfl | rfl | rfl <;> rfl
theorem text_k {op : Int} {ks : List S25} (h : op = 5 ∨ op = 6 ∨ op = 7) : textM ⟨op, ⟨#[]⟩, ⟨#[]⟩, [], ks⟩ = (if op = 5 then 38 else if op = 6 then 124 else 33) :: 40 :: (commas (ks.map textM) ++ [41]) := by
  rw [textM_mk]
  rcases h with rfl | rfl | rfl <;> rfl
/-- the signs are no name's -/
theorem textN_sign (op : Int) (v : ByteArray) (vs : List ByteArray) : nameC (textN op v vs).1 = false := by
  unfold textN
  split
  · rfl
  split
  · rfl
  split
  · rfl
  · rfl
theorem text_head {m : S25} (h : okM m = true) : ∃ c r, textM m = c :: r ∧ c ≠ 41 := by
  rcases shape h with rfl | ⟨op, n, v, ho, hn, rfl⟩ | ⟨n, vs, hn, rfl⟩ | ⟨op, ks, ho, hk, rfl⟩
  · exact ⟨42, [], rfl, by decide⟩
  · obtain ⟨c, r, e, hc⟩ := nameB_cons hn
    rw [text_n (by omega), e]
    exact ⟨c, _, rfl, fun h => by rw [h] at hc; cases hc⟩
  · obtain ⟨c, r, e, hc⟩ := nameB_cons hn
    rw [text_n (by omega), e]
    exact ⟨c, _, rfl, fun h => by rw [h] at hc; cases hc⟩
  · rw [text_k ho]
    refine ⟨_, _, rfl, ?_⟩
    rcases ho with rfl | rfl | rfl <;> decide
theorem quote_head (v : ByteArray) : ∃ c r, quoteT v = c :: r ∧ c ≠ 41 := ⟨34, _, rfl, by decide⟩
theorem textN_pre {op op' : Int} {v v' : ByteArray} {vs vs' : List ByteArray} {s t : List UInt8} (h : op = 1 ∨ op = 2 ∨ op = 3 ∨ op = 4) (h' : op' = 1 ∨ op' = 2 ∨ op' = 3 ∨ op' = 4)
    (hv : op = 4 → v = ⟨#[]⟩) (hv' : op' = 4 → v' = ⟨#[]⟩) (hs : op ≠ 4 → vs = []) (hs' : op' ≠ 4 → vs' = [])
    (h1 : (textN op v vs).1 = (textN op' v' vs').1) (h2 : (textN op v vs).2 ++ s = (textN op' v' vs').2 ++ t) : op = op' ∧ v = v' ∧ vs = vs' ∧ s = t := by
  have key : op = op' := by
    rcases h with rfl | rfl | rfl | rfl <;> rcases h' with rfl | rfl | rfl | rfl <;> first | rfl | (exfalso; revert h1; simp [textN])
  subst key
  refine ⟨rfl, ?_⟩
  rcases h with rfl | rfl | rfl | rfl
  · obtain ⟨e1, e2⟩ := quoteT_pre v v' s t h2
    exact ⟨e1, by rw [hs (by decide), hs' (by decide)], e2⟩
  · obtain ⟨e1, e2⟩ := quoteT_pre v v' s t (List.cons.inj h2).2
    exact ⟨e1, by rw [hs (by decide), hs' (by decide)], e2⟩
  · obtain ⟨e1, e2⟩ := quoteT_pre v v' s t (List.cons.inj h2).2
    exact ⟨e1, by rw [hs (by decide), hs' (by decide)], e2⟩
  · have h3 : commas (vs.map quoteT) ++ 41 :: s = commas (vs'.map quoteT) ++ 41 :: t := by
      have := (List.cons.inj h2).2
      simpa [List.append_assoc] using this
    obtain ⟨e1, e2⟩ := commas_pre quoteT (fun _ => True) (fun _ => True) (fun x y s t _ _ h => quoteT_pre x y s t h) (fun x _ => quote_head x) (fun x _ => quote_head x) vs vs' s t (fun _ _ => trivial) (fun _ _ => trivial) h3
    exact ⟨by rw [hv rfl, hv' rfl], e1, e2⟩
/-- a matcher's text tells its matcher, and its own end -/
theorem textM_pre : ∀ (N : Nat) (m m' : S25) (s t : List UInt8), nodesM m ≤ N → okM m = true → okM m' = true → textM m ++ s = textM m' ++ t → m = m' ∧ s = t := by
  intro N
  induction N with
  | zero => intro m m' s t h; rw [nodesM_mk] at h; omega
  | succ N ih =>
    intro m m' s t hN h h' he
    have name_only : ∀ (n : ByteArray) (a : UInt8) (r r' : List UInt8), nameB n = true → nameC a = false → n.data.toList ++ r ≠ a :: r' := by
      intro n a r r' hn ha e
      obtain ⟨c, q, e2, hc⟩ := nameB_cons hn
      rw [e2, List.cons_append, List.cons.injEq] at e
      rw [e.1, ha] at hc
      cases hc
    rcases shape h with rfl | ⟨op, n, v, ho, hn, rfl⟩ | ⟨n, vs, hn, rfl⟩ | ⟨op, ks, ho, hk, rfl⟩ <;>
      rcases shape h' with rfl | ⟨op', n', v', ho', hn', rfl⟩ | ⟨n', vs', hn', rfl⟩ | ⟨op', ks', ho', hk', rfl⟩
    · exact ⟨rfl, by simpa [text_0] using he⟩
    · rw [text_0, text_n (by omega), List.append_assoc] at he; exact absurd he.symm (name_only _ _ _ _ hn' rfl)
    · rw [text_0, text_n (by omega), List.append_assoc] at he; exact absurd he.symm (name_only _ _ _ _ hn' rfl)
    · rw [text_k ho', text_0] at he; rcases ho' with rfl | rfl | rfl <;> exact absurd (List.cons.inj he).1 (by decide)
    · rw [text_n (by omega), text_0, List.append_assoc] at he; exact absurd he (name_only _ _ _ _ hn rfl)
    · rw [text_n (by omega), text_n (by omega), List.append_assoc, List.append_assoc, List.cons_append, List.cons_append] at he
      obtain ⟨e1, e2, e3⟩ := name_pre _ _ _ _ _ _ (nameB_all hn) (nameB_all hn') (textN_sign ..) (textN_sign ..) he
      obtain ⟨q1, q2, _, q4⟩ := textN_pre (by omega) (by omega) (by omega) (by omega) (fun _ => rfl) (fun _ => rfl) e2 e3
      have : n = n' := by cases n; cases n'; simp only at e1; rw [Array.toList_inj.1 e1]
      exact ⟨by rw [q1, q2, this], q4⟩
    · rw [text_n (by omega), text_n (by omega), List.append_assoc, List.append_assoc, List.cons_append, List.cons_append] at he
      obtain ⟨e1, e2, e3⟩ := name_pre _ _ _ _ _ _ (nameB_all hn) (nameB_all hn') (textN_sign ..) (textN_sign ..) he
      obtain ⟨q1, q2, _, q4⟩ := textN_pre (by omega) (by omega) (by omega) (fun _ => rfl) (fun _ => rfl) (fun h => absurd rfl h) e2 e3
      omega
    · rw [text_k ho', text_n (by omega), List.append_assoc, List.cons_append] at he; rcases ho' with rfl | rfl | rfl <;> exact absurd he (name_only _ _ _ _ hn rfl)
    · rw [text_n (by omega), text_0, List.append_assoc] at he; exact absurd he (name_only _ _ _ _ hn rfl)
    · rw [text_n (by omega), text_n (by omega), List.append_assoc, List.append_assoc, List.cons_append, List.cons_append] at he
      obtain ⟨e1, e2, e3⟩ := name_pre _ _ _ _ _ _ (nameB_all hn) (nameB_all hn') (textN_sign ..) (textN_sign ..) he
      obtain ⟨q1, q2, _, q4⟩ := textN_pre (by omega) (by omega) (fun _ => rfl) (by omega) (fun h => absurd rfl h) (fun _ => rfl) e2 e3
      omega
    · rw [text_n (by omega), text_n (by omega), List.append_assoc, List.append_assoc, List.cons_append, List.cons_append] at he
      obtain ⟨e1, e2, e3⟩ := name_pre _ _ _ _ _ _ (nameB_all hn) (nameB_all hn') (textN_sign ..) (textN_sign ..) he
      obtain ⟨q1, q2, q3, q4⟩ := textN_pre (by omega) (by omega) (fun _ => rfl) (fun _ => rfl) (fun h => absurd rfl h) (fun h => absurd rfl h) e2 e3
      have : n = n' := by cases n; cases n'; simp only at e1; rw [Array.toList_inj.1 e1]
      exact ⟨by rw [q3, this], q4⟩
    · rw [text_k ho', text_n (by omega), List.append_assoc, List.cons_append] at he; rcases ho' with rfl | rfl | rfl <;> exact absurd he (name_only _ _ _ _ hn rfl)
    · rw [text_k ho, text_0] at he; rcases ho with rfl | rfl | rfl <;> exact absurd (List.cons.inj he).1 (by decide)
    · rw [text_k ho, text_n (by omega), List.append_assoc, List.cons_append] at he; rcases ho with rfl | rfl | rfl <;> exact absurd he.symm (name_only _ _ _ _ hn' rfl)
    · rw [text_k ho, text_n (by omega), List.append_assoc, List.cons_append] at he; rcases ho with rfl | rfl | rfl <;> exact absurd he.symm (name_only _ _ _ _ hn' rfl)
    · rw [text_k ho, text_k ho'] at he
      simp only [List.cons_append, List.append_assoc, List.cons.injEq, true_and, List.nil_append] at he
      obtain ⟨e0, e1⟩ := he
      have hop : op = op' := by
        rcases ho with rfl | rfl | rfl <;> rcases ho' with rfl | rfl | rfl <;> first | rfl | (exact absurd e0 (by decide))
      obtain ⟨e2, e3⟩ := commas_pre textM (fun x => okM x = true ∧ nodesM x ≤ N) (fun x => okM x = true) (fun x y s t hx hy e => ih x y s t hx.2 hx.1 hy e) (fun x hx => text_head hx.1) (fun x hx => text_head hx) ks ks' s t
        (fun x hx => ⟨okL_mem hk hx, by have := nodes_lt ⟨op, ⟨#[]⟩, ⟨#[]⟩, [], ks⟩ x hx; omega⟩) (fun x hx => okL_mem hk' hx) e1
      exact ⟨by rw [hop, e2], e3⟩

theorem encB_len (c : UInt8) : (encB c).length ≤ 4 := by
  unfold encB
  split
  · simp
  · split <;> simp
theorem encs_len : ∀ (l : List UInt8), (l.flatMap encB).length ≤ 4 * l.length
  | [] => by simp
  | c :: l => by have := encB_len c; have := encs_len l; simp only [List.flatMap_cons, List.length_append, List.length_cons]; omega
theorem quoteT_len (v : ByteArray) : (quoteT v).length ≤ 4 * v.size + 2 := by
  have h := encs_len v.data.toList
  have e : v.data.toList.length = v.size := by simp
  unfold quoteT quoteL
  simp only [List.length_cons, List.length_append, List.length_nil]
  omega
theorem commas_len : ∀ (l : List (List UInt8)), (commas l).length ≤ (l.map (fun x => x.length + 1)).sum
  | [] => by simp [commas]
  | [x] => by simp [commas]
  | x :: y :: r => by
    have := commas_len (y :: r)
    simp only [commas, List.length_append, List.length_cons, List.map_cons, List.sum_cons] at this ⊢
    omega
theorem values_len : ∀ (vs : List ByteArray), ((vs.map quoteT).map (fun x => x.length + 1)).sum ≤ 4 * sizes vs + 3 * vs.length
  | [] => by simp
  | v :: vs => by
    have := values_len vs
    have := quoteT_len v
    simp only [List.map_cons, List.sum_cons, sizes, List.length_cons]
    omega
theorem ok_vals16 {n v : ByteArray} {vs : List ByteArray} {ks : List S25} (h : okM ⟨4, n, v, vs, ks⟩ = true) : vs.length ≤ 16 := by
  rw [okM_mk, Bool.and_eq_true] at h
  have h1 := h.1
  unfold aloneB at h1
  rw [if_neg (show ¬ (4 : Int) = 0 by decide), if_neg (show ¬ ((4 : Int) = 1 ∨ (4 : Int) = 2 ∨ (4 : Int) = 3) by decide), if_pos rfl, Bool.and_eq_true] at h1
  have h2 := h1.2
  unfold valuesB at h2
  rw [Bool.and_eq_true, Bool.and_eq_true, decide_eq_true_iff] at h2
  exact h2.1.1.2
theorem textM_len : ∀ (N : Nat) (m : S25), nodesM m ≤ N → okM m = true → (textM m).length + 1 ≤ 4 * bytesM m + 60 * nodesM m := by
  intro N
  induction N with
  | zero => intro m h; rw [nodesM_mk] at h; omega
  | succ N ih =>
    intro m hN h
    rcases shape h with rfl | ⟨op, n, v, ho, hn, rfl⟩ | ⟨n, vs, hn, rfl⟩ | ⟨op, ks, ho, hk, rfl⟩
    · rw [text_0, nodesM_mk]; simp only [List.length_cons, List.length_nil]; omega
    · rw [text_n (by omega), nodesM_mk, bytesM_mk]
      have e : n.data.toList.length = n.size := by simp
      have q := quoteT_len v
      simp only [List.length_append, List.length_cons]
      have : (textN op v []).2.length ≤ 4 * v.size + 3 := by
        rcases ho with rfl | rfl | rfl <;> simp [textN] <;> omega
      omega
    · have h16 := ok_vals16 h
      rw [text_n (by omega), nodesM_mk, bytesM_mk]
      have e : n.data.toList.length = n.size := by simp
      have q := values_len vs
      have c := commas_len (vs.map quoteT)
      have : (textN 4 ⟨#[]⟩ vs).2 = 40 :: (commas (vs.map quoteT) ++ [41]) := rfl
      rw [this]
      simp only [List.length_append, List.length_cons, List.length_nil]
      omega
    · have kids : ∀ (l : List S25), (∀ k ∈ l, okM k = true ∧ nodesM k ≤ N) → ((l.map textM).map (fun x => x.length + 1)).sum ≤ 4 * bytesL l + 60 * nodesL l := by
        intro l
        induction l with
        | nil => intro _; simp
        | cons k l il =>
          intro hl
          have h1 := hl k (List.mem_cons_self ..)
          have := ih k h1.2 h1.1
          have := il (fun x hx => hl x (List.mem_cons_of_mem _ hx))
          simp only [List.map_cons, List.sum_cons, bytesL, nodesL]
          omega
      have := kids ks (fun k hk2 => ⟨okL_mem hk hk2, by have := nodes_lt ⟨op, ⟨#[]⟩, ⟨#[]⟩, [], ks⟩ k hk2; omega⟩)
      have c := commas_len (ks.map textM)
      rw [text_k ho, nodesM_mk, bytesM_mk]
      simp only [List.length_append, List.length_cons, List.length_nil]
      omega
/-! ### what the laws about evaluation want -/
theorem eval_not (l : List S68) (n v : ByteArray) (vs : List ByteArray) (m : S25) : evalM l ⟨7, n, v, vs, [m]⟩ = !evalM l m := by
  rw [evalM]; simp [evalF]
theorem eval_and (l : List S68) (n v : ByteArray) (vs : List ByteArray) (a b : S25) : evalM l ⟨5, n, v, vs, [a, b]⟩ = (evalM l a && evalM l b) := by
  rw [evalM]; simp only [evalL]; cases evalM l a <;> cases evalM l b <;> rfl
theorem eval_or (l : List S68) (n v : ByteArray) (vs : List ByteArray) (a b : S25) : evalM l ⟨6, n, v, vs, [a, b]⟩ = (evalM l a || evalM l b) := by
  rw [evalM]; simp only [evalL]; cases evalM l a <;> cases evalM l b <;> rfl
theorem eval_and0 (l : List S68) (n v : ByteArray) (vs : List ByteArray) : evalM l ⟨5, n, v, vs, []⟩ = true := rfl
theorem eval_or0 (l : List S68) (n v : ByteArray) (vs : List ByteArray) : evalM l ⟨6, n, v, vs, []⟩ = false := rfl
/-! ### a set of labels as a text -/
def labL (x : S68) : List UInt8 := x.f0.data.toList ++ 61 :: quoteT x.f1
def textS (l : List S68) : List UInt8 := commas (l.map labL)
theorem textS_inj (l l' : List S68) (h : ∀ x ∈ l, nameB x.f0 = true) (h' : ∀ x ∈ l', nameB x.f0 = true) (he : textS l = textS l') : l = l' := by
  refine (commas_pre labL (fun x => nameB x.f0 = true) (fun x => nameB x.f0 = true) ?_ ?_ ?_ l l' [] [] h h' (by unfold textS at he; rw [he])).1
  · rintro ⟨n, v⟩ ⟨n', v'⟩ s t hx hy e
    unfold labL at e
    simp only [List.append_assoc, List.cons_append] at e hx hy
    obtain ⟨e1, -, e3⟩ := name_pre _ _ _ _ _ _ (nameB_all hx) (nameB_all hy) rfl rfl e
    obtain ⟨e4, e5⟩ := quoteT_pre v v' s t e3
    have : n = n' := by cases n; cases n'; simp only at e1; rw [Array.toList_inj.1 e1]
    exact ⟨by rw [this, e4], e5⟩
  · intro x hx
    obtain ⟨c, r, e, hc⟩ := nameB_cons hx
    exact ⟨c, _, by unfold labL; rw [e]; rfl, fun h => by rw [h] at hc; cases hc⟩
  · intro x hx
    obtain ⟨c, r, e, hc⟩ := nameB_cons hx
    exact ⟨c, _, by unfold labL; rw [e]; rfl, fun h => by rw [h] at hc; cases hc⟩

/-! ### what the printed functions answer -/
def ints (l : List UInt8) : List Int := l.map fun b => (b.toNat : Int)
theorem ints_app (a b : List UInt8) : ints (a ++ b) = ints a ++ ints b := by simp [ints]
theorem ints_len (a : List UInt8) : (ints a).length = a.length := by simp [ints]
theorem and15 : ∀ n : Fin 256, Go.bits .and .u8 (n.val : Int) 15 = ((n.val % 16 : Nat) : Int) := by decide +kernel
theorem digit_at : ∀ n : Fin 16, bt (⟨#[48, 49, 50, 51, 52, 53, 54, 55, 56, 57, 97, 98, 99, 100, 101, 102]⟩ : ByteArray) (n.val : Int) = ((hexD n.val).toNat : Int) := by decide +kernel
theorem quoted_l0 (t : ByteArray) (ht : t.size ≤ 1000000) : ∀ (d i k : Nat) (x : List Int), i ≤ t.size → t.size ≤ i + d → 2 * d < k → x.length + 4 * d ≤ 100000000 →
    label_Quoted.l0 k t x (t.size : Int) (i : Int) = some (strOfNums (x ++ ints ((t.data.toList.drop i).flatMap encB) ++ [34]))
  | d, i, 0, _, _, _, h, _ => by omega
  | d, i, k + 1, x, hi, hd, hk, hx => by
    simp only [label_Quoted.l0]
    by_cases hlt : i < t.size
    · obtain ⟨d, rfl⟩ : ∃ q, d = q + 1 := ⟨d - 1, by omega⟩
      obtain ⟨k, rfl⟩ : ∃ q, k = q + 1 := ⟨k - 1, by omega⟩
      have ih := fun x' (hx' : x'.length + 4 * d ≤ 100000000) => quoted_l0 t ht d (i + 1) k x' (by omega) (by omega) (by omega) hx'
      rw [if_pos (by omega), if_pos (by omega), if_pos (by omega), bt_nat t i hlt, bdrop t i hlt]
      generalize t.data.toList.getD i 0 = c
      have hc := c.toNat_lt
      have h92 : c = 92 ↔ (c.toNat : Int) = 92 := ⟨fun h => by rw [h]; rfl, fun h => UInt8.toNat_inj.1 (by have : (92 : UInt8).toNat = 92 := rfl; omega)⟩
      have h34 : c = 34 ↔ (c.toNat : Int) = 34 := ⟨fun h => by rw [h]; rfl, fun h => UInt8.toNat_inj.1 (by have : (34 : UInt8).toNat = 34 := rfl; omega)⟩
      rw [List.flatMap_cons, ints_app]
      have two : ∀ y : List Int, y.length ≤ 4 → ints (encB c) = y → (some y : Option (List Int)).bind (fun y2 => if x.length + y2.length < 140737488355328 then label_Quoted.l0 k t (x ++ y2) (t.size : Int) (wrap64 ((i : Int) + 1)) else none) = some (strOfNums (x ++ (ints (encB c) ++ ints ((t.data.toList.drop (i + 1)).flatMap encB)) ++ [34])) := by
        intro y hy e
        rw [Option.bind_some, if_pos (by omega), w64s i (by omega), ih (x ++ y) (by rw [List.length_append]; omega), e, List.append_assoc x y]
      have hex : 32 > (c.toNat : Int) ∨ (c.toNat : Int) ≥ 127 → ¬ c = 34 ∧ ¬ c = 92 → (if 0 ≤ ((c.toNat : Int) / 16) then (if ((c.toNat : Int) / 16) < 16 then (if 0 ≤ (Go.bits .and .u8 (c.toNat : Int) 15) then (if (Go.bits .and .u8 (c.toNat : Int) 15) < 16 then ((some (([92, 120, bt (⟨#[48, 49, 50, 51, 52, 53, 54, 55, 56, 57, 97, 98, 99, 100, 101, 102]⟩ : ByteArray) ((c.toNat : Int) / 16), bt (⟨#[48, 49, 50, 51, 52, 53, 54, 55, 56, 57, 97, 98, 99, 100, 101, 102]⟩ : ByteArray) (Go.bits .and .u8 (c.toNat : Int) 15)] : List Int) : List Int)).bind fun y2 => (if x.length + y2.length < 140737488355328 then (label_Quoted.l0 k t (x ++ y2) (t.size : Int) (wrap64 ((i : Int) + 1))) else (none))) else (none)) else (none)) else (none)) else (none)) = some (strOfNums (x ++ (ints (encB c) ++ ints ((t.data.toList.drop (i + 1)).flatMap encB)) ++ [34])) := by
        intro h1 h2
        have ha := and15 ⟨c.toNat, hc⟩
        have hd1 := digit_at ⟨c.toNat / 16, by omega⟩
        have hd2 := digit_at ⟨c.toNat % 16, by omega⟩
        simp only at ha hd1 hd2
        rw [ha, if_pos (by omega), if_pos (by omega), if_pos (by omega), if_pos (by omega)]
        rw [show (c.toNat : Int) / 16 = ((c.toNat / 16 : Nat) : Int) by omega, hd1, hd2]
        refine two _ (by simp) ?_
        unfold encB
        rw [if_neg (by rintro (h | h); exact h2.1 h; exact h2.2 h), if_pos (by omega)]
        rfl
      by_cases e34 : (c.toNat : Int) = 34
      · rw [if_pos e34]
        simp only [label_Quoted.j1, if_true]
        exact two _ (by simp) (by unfold encB; rw [if_pos (Or.inl (h34.2 e34))]; rfl)
      · rw [if_neg e34]
        by_cases e92 : (c.toNat : Int) = 92
        · simp only [label_Quoted.j1, e92, beq_self_eq_true, if_true]
          exact two _ (by simp) (by unfold encB; rw [if_pos (Or.inr (h92.2 e92))]; simp [ints, e92])
        · have hb : ((c.toNat : Int) == 92) = false := by rw [beq_eq_false_iff_ne]; exact e92
          simp only [label_Quoted.j1, hb]
          rw [if_neg (by decide)]
          have hno : ¬ c = 34 ∧ ¬ c = 92 := ⟨fun h => e34 (h34.1 h), fun h => e92 (h92.1 h)⟩
          by_cases e1 : (c.toNat : Int) < 32
          · rw [if_pos e1]
            exact hex (Or.inl (by omega)) hno
          · rw [if_neg e1]
            by_cases e2 : (c.toNat : Int) ≥ 127
            · rw [if_pos e2]
              exact hex (Or.inr e2) hno
            · rw [if_neg e2, if_pos (by omega), w64s i (by omega), ih (x ++ [(c.toNat : Int)]) (by rw [List.length_append, List.length_singleton]; omega)]
              have : encB c = [c] := by
                unfold encB
                rw [if_neg (by rintro (h | h); exact hno.1 h; exact hno.2 h), if_neg (by omega)]
              rw [this]
              simp [ints]
    · rw [if_neg (by omega), if_pos (by omega), List.drop_of_length_le (by simp; omega)]
      simp [ints]
theorem label_Quoted.val (t : ByteArray) (ht : t.size ≤ 1000000) (k : Nat) (hk : 2 * t.size < k) : label_Quoted.f k t = some ⟨(quoteT t).toArray⟩ := by
  have h := quoted_l0 t ht t.size 0 k [34] (by omega) (by omega) hk (by simp; omega)
  rw [label_Quoted.f]
  rw [show ((0 : Nat) : Int) = 0 from rfl, List.drop_zero] at h
  rw [h, ← Lib.Lz.strOfNums_map]
  simp [quoteT, quoteL, ints]

theorem toList_iff {a b : ByteArray} : a.toList = b.toList ↔ a = b := by
  rw [ByteArray.toList_eq, ByteArray.toList_eq]
  constructor
  · intro h
    cases a; cases b
    simp only at h
    rw [Array.toList_inj.1 h]
  · intro h; rw [h]
end Go.Proofs.Yteafilojjdfllaa
