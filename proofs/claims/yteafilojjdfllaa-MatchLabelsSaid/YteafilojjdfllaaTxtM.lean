/- Own text: a matcher's text tells its matcher: plain. -/
import Derived.Test.YteafilojjdfllaaTxtQ
namespace Go.Proofs.Yteafilojjdfllaa
open Go Go.Proofs.Yteafilojjdfllaa.PAll

mutual
/-- a matcher as a text -/
def textM : S25 → List UInt8
  | ⟨op, n, v, vs, ks⟩ =>
    if op = 0 then [42] else if op = 1 then n.data.toList ++ 61 :: quoteT v else if op = 2 then n.data.toList ++ 33 :: 61 :: quoteT v
    else if op = 3 then n.data.toList ++ 94 :: 61 :: quoteT v else if op = 4 then n.data.toList ++ 64 :: 40 :: (commas (vs.map quoteT) ++ [41])
    else (if op = 5 then 38 else if op = 6 then 124 else 33) :: 40 :: (commas (textsM ks) ++ [41])
def textsM : List S25 → List (List UInt8)
  | [] => []
  | k :: ks => textM k :: textsM ks
end
theorem textsM_map : ∀ (ks : List S25), textsM ks = ks.map textM
  | [] => rfl
  | k :: ks => by rw [textsM, textsM_map ks, List.map_cons]
theorem textM_mk (m : S25) : textM m = if m.f0 = 0 then [42] else if m.f0 = 1 then m.f1.data.toList ++ 61 :: quoteT m.f2 else if m.f0 = 2 then m.f1.data.toList ++ 33 :: 61 :: quoteT m.f2
    else if m.f0 = 3 then m.f1.data.toList ++ 94 :: 61 :: quoteT m.f2 else if m.f0 = 4 then m.f1.data.toList ++ 64 :: 40 :: (commas (m.f3.map quoteT) ++ [41])
    else (if m.f0 = 5 then 38 else if m.f0 = 6 then 124 else 33) :: 40 :: (commas (m.f4.map textM) ++ [41]) := by
  cases m; simp only [textM, textsM_map]
/-- the sign behind a name, and the rest -/
def textN (op : Int) (v : ByteArray) (vs : List ByteArray) : UInt8 × List UInt8 :=
  if op = 1 then (61, quoteT v) else if op = 2 then (33, 61 :: quoteT v) else if op = 3 then (94, 61 :: quoteT v) else (64, 40 :: (commas (vs.map quoteT) ++ [41]))
theorem text_0 : textM ⟨0, ⟨#[]⟩, ⟨#[]⟩, [], []⟩ = [42] := rfl
theorem text_n {op : Int} {n v : ByteArray} {vs : List ByteArray} (h : op = 1 ∨ op = 2 ∨ op = 3 ∨ op = 4) : textM ⟨op, n, v, vs, []⟩ = n.data.toList ++ (textN op v vs).1 :: (textN op v vs).2 := by
  rcases h with rfl | rfl | rfl | rfl <;> rfl
theorem text_k {op : Int} {ks : List S25} (h : op = 5 ∨ op = 6 ∨ op = 7) : textM ⟨op, ⟨#[]⟩, ⟨#[]⟩, [], ks⟩ = (if op = 5 then 38 else if op = 6 then 124 else 33) :: 40 :: (commas (ks.map textM) ++ [41]) := by
  rw [textM_mk]
  rcases h with rfl | rfl | rfl <;> rfl
/-- the signs are no name's -/
theorem textN_sign (op : Int) (v : ByteArray) (vs : List ByteArray) : nameC (textN op v vs).1 = false := by
  unfold textN
  split
  · rfl
  split
  · rfl
  split
  · rfl
  · rfl
theorem text_head {m : S25} (h : okM m = true) : ∃ c r, textM m = c :: r ∧ c ≠ 41 := by
  rcases shape h with rfl | ⟨op, n, v, ho, hn, rfl⟩ | ⟨n, vs, hn, rfl⟩ | ⟨op, ks, ho, hk, rfl⟩
  · exact ⟨42, [], rfl, by decide⟩
  · obtain ⟨c, r, e, hc⟩ := nameB_cons hn
    rw [text_n (by omega), e]
    exact ⟨c, _, rfl, fun h => by rw [h] at hc; cases hc⟩
  · obtain ⟨c, r, e, hc⟩ := nameB_cons hn
    rw [text_n (by omega), e]
    exact ⟨c, _, rfl, fun h => by rw [h] at hc; cases hc⟩
  · rw [text_k ho]
    refine ⟨_, _, rfl, ?_⟩
    rcases ho with rfl | rfl | rfl <;> decide
theorem quote_head (v : ByteArray) : ∃ c r, quoteT v = c :: r ∧ c ≠ 41 := ⟨34, _, rfl, by decide⟩
theorem textN_pre {op op' : Int} {v v' : ByteArray} {vs vs' : List ByteArray} {s t : List UInt8} (h : op = 1 ∨ op = 2 ∨ op = 3 ∨ op = 4) (h' : op' = 1 ∨ op' = 2 ∨ op' = 3 ∨ op' = 4)
    (hv : op = 4 → v = ⟨#[]⟩) (hv' : op' = 4 → v' = ⟨#[]⟩) (hs : op ≠ 4 → vs = []) (hs' : op' ≠ 4 → vs' = [])
    (h1 : (textN op v vs).1 = (textN op' v' vs').1) (h2 : (textN op v vs).2 ++ s = (textN op' v' vs').2 ++ t) : op = op' ∧ v = v' ∧ vs = vs' ∧ s = t := by
  have key : op = op' := by
    rcases h with rfl | rfl | rfl | rfl <;> rcases h' with rfl | rfl | rfl | rfl <;> first | rfl | (exfalso; revert h1; simp [textN])
  subst key
  refine ⟨rfl, ?_⟩
  rcases h with rfl | rfl | rfl | rfl
  · obtain ⟨e1, e2⟩ := quoteT_pre v v' s t h2
    exact ⟨e1, by rw [hs (by decide), hs' (by decide)], e2⟩
  · obtain ⟨e1, e2⟩ := quoteT_pre v v' s t (List.cons.inj h2).2
    exact ⟨e1, by rw [hs (by decide), hs' (by decide)], e2⟩
  · obtain ⟨e1, e2⟩ := quoteT_pre v v' s t (List.cons.inj h2).2
    exact ⟨e1, by rw [hs (by decide), hs' (by decide)], e2⟩
  · have h3 : commas (vs.map quoteT) ++ 41 :: s = commas (vs'.map quoteT) ++ 41 :: t := by
      have := (List.cons.inj h2).2
      simpa [List.append_assoc] using this
    obtain ⟨e1, e2⟩ := commas_pre quoteT (fun _ => True) (fun _ => True) (fun x y s t _ _ h => quoteT_pre x y s t h) (fun x _ => quote_head x) (fun x _ => quote_head x) vs vs' s t (fun _ _ => trivial) (fun _ _ => trivial) h3
    exact ⟨by rw [hv rfl, hv' rfl], e1, e2⟩
/-- a matcher's text tells its matcher, and its own end -/
theorem textM_pre : ∀ (N : Nat) (m m' : S25) (s t : List UInt8), nodesM m ≤ N → okM m = true → okM m' = true → textM m ++ s = textM m' ++ t → m = m' ∧ s = t := by
  intro N
  induction N with
  | zero => intro m m' s t h; rw [nodesM_mk] at h; omega
  | succ N ih =>
    intro m m' s t hN h h' he
    have name_only : ∀ (n : ByteArray) (a : UInt8) (r r' : List UInt8), nameB n = true → nameC a = false → n.data.toList ++ r ≠ a :: r' := by
      intro n a r r' hn ha e
      obtain ⟨c, q, e2, hc⟩ := nameB_cons hn
      rw [e2, List.cons_append, List.cons.injEq] at e
      rw [e.1, ha] at hc
      cases hc
    rcases shape h with rfl | ⟨op, n, v, ho, hn, rfl⟩ | ⟨n, vs, hn, rfl⟩ | ⟨op, ks, ho, hk, rfl⟩ <;>
      rcases shape h' with rfl | ⟨op', n', v', ho', hn', rfl⟩ | ⟨n', vs', hn', rfl⟩ | ⟨op', ks', ho', hk', rfl⟩
    · exact ⟨rfl, by simpa [text_0] using he⟩
    · rw [text_0, text_n (by omega), List.append_assoc] at he; exact absurd he.symm (name_only _ _ _ _ hn' rfl)
    · rw [text_0, text_n (by omega), List.append_assoc] at he; exact absurd he.symm (name_only _ _ _ _ hn' rfl)
    · rw [text_k ho', text_0] at he; rcases ho' with rfl | rfl | rfl <;> exact absurd (List.cons.inj he).1 (by decide)
    · rw [text_n (by omega), text_0, List.append_assoc] at he; exact absurd he (name_only _ _ _ _ hn rfl)
    · rw [text_n (by omega), text_n (by omega), List.append_assoc, List.append_assoc, List.cons_append, List.cons_append] at he
      obtain ⟨e1, e2, e3⟩ := name_pre _ _ _ _ _ _ (nameB_all hn) (nameB_all hn') (textN_sign ..) (textN_sign ..) he
      obtain ⟨q1, q2, _, q4⟩ := textN_pre (by omega) (by omega) (by omega) (by omega) (fun _ => rfl) (fun _ => rfl) e2 e3
      have : n = n' := by cases n; cases n'; simp only at e1; rw [Array.toList_inj.1 e1]
      exact ⟨by rw [q1, q2, this], q4⟩
    · rw [text_n (by omega), text_n (by omega), List.append_assoc, List.append_assoc, List.cons_append, List.cons_append] at he
      obtain ⟨e1, e2, e3⟩ := name_pre _ _ _ _ _ _ (nameB_all hn) (nameB_all hn') (textN_sign ..) (textN_sign ..) he
      obtain ⟨q1, q2, _, q4⟩ := textN_pre (by omega) (by omega) (by omega) (fun _ => rfl) (fun _ => rfl) (fun h => absurd rfl h) e2 e3
      omega
    · rw [text_k ho', text_n (by omega), List.append_assoc, List.cons_append] at he; rcases ho' with rfl | rfl | rfl <;> exact absurd he (name_only _ _ _ _ hn rfl)
    · rw [text_n (by omega), text_0, List.append_assoc] at he; exact absurd he (name_only _ _ _ _ hn rfl)
    · rw [text_n (by omega), text_n (by omega), List.append_assoc, List.append_assoc, List.cons_append, List.cons_append] at he
      obtain ⟨e1, e2, e3⟩ := name_pre _ _ _ _ _ _ (nameB_all hn) (nameB_all hn') (textN_sign ..) (textN_sign ..) he
      obtain ⟨q1, q2, _, q4⟩ := textN_pre (by omega) (by omega) (fun _ => rfl) (by omega) (fun h => absurd rfl h) (fun _ => rfl) e2 e3
      omega
    · rw [text_n (by omega), text_n (by omega), List.append_assoc, List.append_assoc, List.cons_append, List.cons_append] at he
      obtain ⟨e1, e2, e3⟩ := name_pre _ _ _ _ _ _ (nameB_all hn) (nameB_all hn') (textN_sign ..) (textN_sign ..) he
      obtain ⟨q1, q2, q3, q4⟩ := textN_pre (by omega) (by omega) (fun _ => rfl) (fun _ => rfl) (fun h => absurd rfl h) (fun h => absurd rfl h) e2 e3
      have : n = n' := by cases n; cases n'; simp only at e1; rw [Array.toList_inj.1 e1]
      exact ⟨by rw [q3, this], q4⟩
    · rw [text_k ho', text_n (by omega), List.append_assoc, List.cons_append] at he; rcases ho' with rfl | rfl | rfl <;> exact absurd he (name_only _ _ _ _ hn rfl)
    · rw [text_k ho, text_0] at he; rcases ho with rfl | rfl | rfl <;> exact absurd (List.cons.inj he).1 (by decide)
    · rw [text_k ho, text_n (by omega), List.append_assoc, List.cons_append] at he; rcases ho with rfl | rfl | rfl <;> exact absurd he.symm (name_only _ _ _ _ hn' rfl)
    · rw [text_k ho, text_n (by omega), List.append_assoc, List.cons_append] at he; rcases ho with rfl | rfl | rfl <;> exact absurd he.symm (name_only _ _ _ _ hn' rfl)
    · rw [text_k ho, text_k ho'] at he
      simp only [List.cons_append, List.append_assoc, List.cons.injEq, true_and, List.nil_append] at he
      obtain ⟨e0, e1⟩ := he
      have hop : op = op' := by
        rcases ho with rfl | rfl | rfl <;> rcases ho' with rfl | rfl | rfl <;> first | rfl | (exact absurd e0 (by decide))
      obtain ⟨e2, e3⟩ := commas_pre textM (fun x => okM x = true ∧ nodesM x ≤ N) (fun x => okM x = true) (fun x y s t hx hy e => ih x y s t hx.2 hx.1 hy e) (fun x hx => text_head hx.1) (fun x hx => text_head hx) ks ks' s t
        (fun x hx => ⟨okL_mem hk hx, by have := nodes_lt ⟨op, ⟨#[]⟩, ⟨#[]⟩, [], ks⟩ x hx; omega⟩) (fun x hx => okL_mem hk' hx) e1
      exact ⟨by rw [hop, e2], e3⟩

theorem values_len : ∀ (vs : List ByteArray), ((vs.map quoteT).map (fun x => x.length + 1)).sum ≤ 4 * sizes vs + 3 * vs.length
  | [] => by simp
  | v :: vs => by
    have := values_len vs
    have := quoteT_len v
    simp only [List.map_cons, List.sum_cons, sizes, List.length_cons]
    omega
theorem ok_vals16 {n v : ByteArray} {vs : List ByteArray} {ks : List S25} (h : okM ⟨4, n, v, vs, ks⟩ = true) : vs.length ≤ 16 := by
  rw [okM_mk, Bool.and_eq_true] at h
  have h1 := h.1
  unfold aloneB at h1
  rw [if_neg (show ¬ (4 : Int) = 0 by decide), if_neg (show ¬ ((4 : Int) = 1 ∨ (4 : Int) = 2 ∨ (4 : Int) = 3) by decide), if_pos rfl, Bool.and_eq_true] at h1
  have h2 := h1.2
  unfold valuesB at h2
  rw [Bool.and_eq_true, Bool.and_eq_true, decide_eq_true_iff] at h2
  exact h2.1.1.2
theorem textM_len : ∀ (N : Nat) (m : S25), nodesM m ≤ N → okM m = true → (textM m).length + 1 ≤ 4 * bytesM m + 60 * nodesM m := by
  intro N
  induction N with
  | zero => intro m h; rw [nodesM_mk] at h; omega
  | succ N ih =>
    intro m hN h
    rcases shape h with rfl | ⟨op, n, v, ho, hn, rfl⟩ | ⟨n, vs, hn, rfl⟩ | ⟨op, ks, ho, hk, rfl⟩
    · rw [text_0, nodesM_mk]; simp only [List.length_cons, List.length_nil]; omega
    · rw [text_n (by omega), nodesM_mk, bytesM_mk]
      have e : n.data.toList.length = n.size := by simp
      have q := quoteT_len v
      simp only [List.length_append, List.length_cons]
      have : (textN op v []).2.length ≤ 4 * v.size + 3 := by
        rcases ho with rfl | rfl | rfl <;> simp [textN] <;> omega
      omega
    · have h16 := ok_vals16 h
      rw [text_n (by omega), nodesM_mk, bytesM_mk]
      have e : n.data.toList.length = n.size := by simp
      have q := values_len vs
      have c := commas_len (vs.map quoteT)
      have : (textN 4 ⟨#[]⟩ vs).2 = 40 :: (commas (vs.map quoteT) ++ [41]) := rfl
      rw [this]
      simp only [List.length_append, List.length_cons, List.length_nil]
      omega
    · have kids : ∀ (l : List S25), (∀ k ∈ l, okM k = true ∧ nodesM k ≤ N) → ((l.map textM).map (fun x => x.length + 1)).sum ≤ 4 * bytesL l + 60 * nodesL l := by
        intro l
        induction l with
        | nil => intro _; simp
        | cons k l il =>
          intro hl
          have h1 := hl k (List.mem_cons_self ..)
          have := ih k h1.2 h1.1
          have := il (fun x hx => hl x (List.mem_cons_of_mem _ hx))
          simp only [List.map_cons, List.sum_cons, bytesL, nodesL]
          omega
      have := kids ks (fun k hk2 => ⟨okL_mem hk hk2, by have := nodes_lt ⟨op, ⟨#[]⟩, ⟨#[]⟩, [], ks⟩ k hk2; omega⟩)
      have c := commas_len (ks.map textM)
      rw [text_k ho, nodesM_mk, bytesM_mk]
      simp only [List.length_append, List.length_cons, List.length_nil]
      omega
end Go.Proofs.Yteafilojjdfllaa
