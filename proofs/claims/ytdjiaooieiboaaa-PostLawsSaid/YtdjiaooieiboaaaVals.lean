/- Own text: what the document's own Most and Less answer, as values: the same as the merge. Lists of at most 200, at most ten of them. -/
import Derived.Test.YtdjiaooieiboaaaPlain
import Derived.Test.YtdjiaooieiboaaaIterH
import Derived.Test.YtdjiaooieiboaaaPAllx2
namespace Go.Proofs.Ytdjiaooieiboaaa
open Go Go.RowKit Go.Proofs.YtdjiaooieiboaaaW.PrintWords Go.Proofs.Ytdjiaooieiboaaa.PAll

theorem w64_succ (i : Nat) (h : i ≤ 1000000) : wrap64 ((i : Int) + 1) = ((i + 1 : Nat) : Int) := by unfold wrap64; omega
theorem w64_pred (i : Nat) (h : i ≤ 1000000) : wrap64 (((i + 1 : Nat) : Int) - 1) = (i : Int) := by unfold wrap64; omega
theorem rd_nat (l : List Int) (i : Nat) : rd l (i : Int) = l.getD i 0 := by simp [rd]
theorem rdL_nat (l : List (List Int)) (i : Nat) : rd_L1 l (i : Int) = l.getD i [] := by simp [rd_L1]
theorem drop_getD (l : List Int) (i : Nat) (h : i < l.length) : l.drop i = l.getD i 0 :: l.drop (i + 1) := drop_cons_getD l i h

theorem same_l0 (a b : List Int) (hab : a.length = b.length) (ha : a.length ≤ 100000) : ∀ (d i k : Nat), i ≤ a.length → a.length ≤ i + d → d < k → varvelaw00_SameInts.l0 k a b (i : Int) = some (decide (a.drop i = b.drop i))
  | d, i, 0, _, _, h => by omega
  | d, i, k + 1, hi, hd, hk => by
    simp only [varvelaw00_SameInts.l0, w64_succ i (by omega), rd_nat]
    by_cases hlt : i < a.length
    · rw [if_pos (by omega), if_pos (by omega), if_pos (by omega), drop_getD a i hlt, drop_getD b i (by omega)]
      by_cases e : a.getD i 0 = b.getD i 0
      · rw [if_pos e, same_l0 a b hab ha (d - 1) (i + 1) k (by omega) (by omega) (by omega)]
        simp only [List.cons.injEq, e, true_and]
      · rw [if_neg e]; simp only [List.cons.injEq, e, false_and, decide_false]
    · rw [if_neg (by omega), List.drop_of_length_le (by omega), List.drop_of_length_le (by omega)]; simp
theorem same_val (a b : List Int) (ha : a.length ≤ 100000) : varvelaw00_SameInts.f (a.length + 2) a b = some (decide (a = b)) := by
  unfold varvelaw00_SameInts.f
  by_cases hab : a.length = b.length
  · rw [if_pos (by omega)]
    have := same_l0 a b hab ha a.length 0 (a.length + 2) (by omega) (by omega) (by omega)
    simpa using this
  · rw [if_neg (by omega)]
    have : a ≠ b := fun e => hab (by rw [e])
    simp [this]

theorem in_l0 (l : List Int) (v : Int) (hl : l.length ≤ 100000) : ∀ (d i k : Nat), i ≤ l.length → l.length ≤ i + d → d < k → varveref13_in.l0 k l v (i : Int) = some (decide (v ∈ l.drop i))
  | d, i, 0, _, _, h => by omega
  | d, i, k + 1, hi, hd, hk => by
    simp only [varveref13_in.l0, w64_succ i (by omega), rd_nat]
    by_cases hlt : i < l.length
    · rw [if_pos (by omega), if_pos (by omega), drop_getD l i hlt]
      by_cases e : l.getD i 0 = v
      · rw [if_pos e]; simp only [e, List.mem_cons, true_or, decide_true]
      · rw [if_neg e, in_l0 l v hl (d - 1) (i + 1) k (by omega) (by omega) (by omega)]
        have : ¬ v = l.getD i 0 := fun h => e h.symm
        simp only [List.mem_cons, this, false_or]
    · rw [if_neg (by omega), List.drop_of_length_le (by omega)]; simp
theorem in_val (l : List Int) (v : Int) (hl : l.length ≤ 100000) (k : Nat) (hk : l.length + 1 < k) : varveref13_in.f k l v = some (decide (v ∈ l)) := by
  have := in_l0 l v hl l.length 0 k (by omega) (by omega) (by omega)
  simpa [varveref13_in.f] using this

theorem up_getD {l : List Int} (h : Up l) {i j : Nat} (hij : i < j) (hj : j < l.length) : l.getD i 0 < l.getD j 0 := by
  have := List.pairwise_iff_getElem.1 h i j (by omega) hj hij
  simpa [List.getD_eq_getElem?_getD, hj, show i < l.length by omega] using this
theorem mem_take_getD {l : List Int} {k : Nat} {x : Int} (h : x ∈ l.take k) : ∃ i, i < k ∧ i < l.length ∧ l.getD i 0 = x := by
  obtain ⟨i, hi, e⟩ := List.getElem_of_mem h
  rw [List.length_take] at hi
  have h2 : i < l.length := by omega
  exact ⟨i, by omega, h2, by simpa [List.getD_eq_getElem?_getD, h2] using e⟩
theorem mem_drop_getD {l : List Int} {k : Nat} {x : Int} (h : x ∈ l.drop k) : ∃ i, k ≤ i ∧ i < l.length ∧ l.getD i 0 = x := by
  obtain ⟨i, hi, e⟩ := List.getElem_of_mem h
  simp at hi
  have : k + i < l.length := by omega
  exact ⟨k + i, by omega, by omega, by simpa [List.getD_eq_getElem?_getD, this] using e⟩

theorem put_up {l : List Int} (hl : Up l) (v : Int) (k : Nat) (hlo : ∀ i, i < k → l.getD i 0 < v) (hhi : ∀ i, k ≤ i → i < l.length → v < l.getD i 0) : Up (l.take k ++ [v] ++ l.drop k) := by
  rw [List.append_assoc, Up, List.pairwise_append]
  refine ⟨hl.sublist (List.take_sublist _ _), ?_, ?_⟩
  · rw [List.singleton_append, List.pairwise_cons]
    refine ⟨fun x hx => ?_, hl.sublist (List.drop_sublist _ _)⟩
    obtain ⟨i, h1, h2, rfl⟩ := mem_drop_getD hx
    exact hhi i h1 h2
  · intro x hx y hy
    obtain ⟨i, h1, h2, rfl⟩ := mem_take_getD hx
    rcases List.mem_cons.1 hy with rfl | hy
    · exact hlo i h1
    · obtain ⟨j, h3, h4, rfl⟩ := mem_drop_getD hy
      exact up_getD hl (by omega) h4
theorem put_l0 (l : List Int) (v : Int) (hl : l.length ≤ 100000) (hu : Up l) (hv : v ∉ l) : ∀ (i k : Nat), i ≤ l.length → i < k → (∀ j, i ≤ j → j < l.length → v < l.getD j 0) →
    ∃ r, varveref13_put.l0 k l v (i : Int) = some r ∧ Up r ∧ (∀ x, x ∈ r ↔ x = v ∨ x ∈ l) ∧ r.length = l.length + 1
  | i, 0, _, h, _ => by omega
  | i, k + 1, hi, hk, hhi => by
    have fin : (∀ j, j < i → l.getD j 0 < v) → ∃ r, l.take i ++ [v] ++ l.drop i = r ∧ Up r ∧ (∀ x, x ∈ r ↔ x = v ∨ x ∈ l) ∧ r.length = l.length + 1 := fun hlo =>
      ⟨_, rfl, put_up hu v i hlo hhi, fun x => by
        have : x ∈ l ↔ x ∈ l.take i ∨ x ∈ l.drop i := by rw [← List.mem_append, List.take_append_drop]
        simp only [List.mem_append, List.mem_singleton, this]
        constructor
        · rintro ((h | h) | h)
          · exact .inr (.inl h)
          · exact .inl h
          · exact .inr (.inr h)
        · rintro (h | h | h)
          · exact .inl (.inr h)
          · exact .inl (.inl h)
          · exact .inr h, by simp; omega⟩
    rcases Nat.eq_zero_or_pos i with h0 | h0
    · subst h0
      obtain ⟨r, hr, h2, h3, h4⟩ := fin (fun j h => by omega)
      refine ⟨r, ?_, h2, h3, h4⟩
      rw [← hr]
      simp only [varveref13_put.l0]
      rw [if_neg (by omega), if_pos (by omega), if_pos (by omega)]
      simp only [Option.bind_some]
      rw [if_pos (by simp), if_pos (by simp), if_pos (by simp; omega)]
      simp
    · obtain ⟨i, rfl⟩ : ∃ j, i = j + 1 := ⟨i - 1, by omega⟩
      simp only [varveref13_put.l0]
      rw [w64_pred i (by omega), rd_nat, if_pos (by omega), if_pos (by omega), if_pos (by omega)]
      by_cases hlt : v < l.getD i 0
      · rw [if_pos hlt]
        refine put_l0 l v hl hu hv i k (by omega) (by omega) (fun j h1 h2 => ?_)
        by_cases e : j = i
        · subst e; exact hlt
        · exact hhi j (by omega) h2
      · have hne : l.getD i 0 ≠ v := fun e => hv (by rw [← e]; simp [List.getD_eq_getElem?_getD, show i < l.length by omega])
        obtain ⟨r, hr, h2, h3, h4⟩ := fin (fun j h => by
          by_cases e : j = i
          · subst e; omega
          · have := up_getD hu (show j < i by omega) (by omega); omega)
        refine ⟨r, ?_, h2, h3, h4⟩
        rw [← hr]
        rw [if_neg hlt, if_pos (by omega), if_pos (by omega)]
        simp only [Option.bind_some]
        rw [if_pos (by simp; omega), if_pos (by simp; omega), if_pos (by simp; omega)]
        simp
theorem put_val (l : List Int) (v : Int) (hl : l.length ≤ 100000) (hu : Up l) (k : Nat) (hk : l.length + 1 < k) :
    ∃ r, varveref13_put.f k l v = some r ∧ Up r ∧ (∀ x, x ∈ r ↔ x = v ∨ x ∈ l) ∧ r.length ≤ l.length + 1 := by
  unfold varveref13_put.f
  rw [in_val l v hl k hk]
  by_cases h : v ∈ l
  · simp only [h, decide_true, Option.bind_some, if_true]
    exact ⟨l, rfl, hu, fun x => ⟨.inr, fun hx => by rcases hx with rfl | hx; exact h; exact hx⟩, by omega⟩
  · simp only [h, decide_false, Option.bind_some]
    obtain ⟨r, h1, h2, h3, h4⟩ := put_l0 l v hl hu h l.length k (Nat.le_refl _) (by omega) (fun j h1 h2 => by omega)
    exact ⟨r, by simpa using h1, h2, h3, by omega⟩

theorem rises_val (l : List Int) (hl : l.length ≤ 100000) (k : Nat) (hk : l.length + 1 < k) : varveref13_Rises.f k l = some (rises l) :=
  varveref13_Rises.rises_l0 l hl l.length 1 k (Nat.le_refl _) (by omega) (by omega) (by omega) (fun j h _ => by omega)

/-! ### Less -/
theorem refLess_l0 (a b : List Int) (ha : a.length ≤ 1000) (hb : b.length ≤ 1000) : ∀ (d i k : Nat) (out : List Int), i ≤ a.length → a.length ≤ i + d → d + 2000 < k → out.length ≤ i →
    varveref13_Less.l0 k a b out (i : Int) = some (out ++ (a.drop i).filter (fun x => !decide (x ∈ b)))
  | d, i, 0, out, _, _, h, _ => by omega
  | d, i, k + 1, out, hi, hd, hk, ho => by
    simp only [varveref13_Less.l0, w64_succ i (by omega), rd_nat]
    by_cases hlt : i < a.length
    · rw [if_pos (by omega), if_pos (by omega), in_val b _ (by omega) k (by omega), drop_getD a i hlt]
      simp only [Option.bind_some]
      by_cases e : a.getD i 0 ∈ b
      · simp only [e, decide_true, if_true]
        rw [refLess_l0 a b ha hb (d - 1) (i + 1) k out (by omega) (by omega) (by omega) (by omega)]
        rw [List.filter_cons_of_neg (by simp only [e, decide_true, Bool.not_true]; simp)]
      · rw [if_neg (by simp only [e, decide_false]; simp), if_pos (by omega), refLess_l0 a b ha hb (d - 1) (i + 1) k _ (by omega) (by omega) (by omega) (by simp; omega)]
        rw [List.filter_cons_of_pos (by simp only [e, decide_false, Bool.not_false])]; simp
    · rw [if_neg (by omega), List.drop_of_length_le (by omega)]; simp
theorem refLess_val (a b : List Int) (ha : a.length ≤ 1000) (hb : b.length ≤ 1000) : varveref13_Less.f 10000 a b = some (lessL a b) := by
  unfold varveref13_Less.f
  rw [rises_val a (by omega) _ (by omega)]
  simp only [Option.bind_some]
  unfold lessL
  cases h1 : rises a with
  | false => simp [varveref13_Less.j0]
  | true =>
    rw [rises_val b (by omega) _ (by omega)]
    cases h2 : rises b with
    | false => simp [varveref13_Less.j0]
    | true =>
      simp only [if_true, Option.bind_some, Bool.not_true, and_self]
      simp only [varveref13_Less.j0]
      rw [if_neg (by simp)]
      have := refLess_l0 a b ha hb a.length 0 9999 [] (by omega) (by omega) (by omega) (by simp)
      rw [show ((0 : Nat) : Int) = 0 from rfl] at this
      rw [this]
      have ua := (up_iff a).1 h1
      have ub := (up_iff b).1 h2
      congr 1
      rw [List.nil_append, List.drop_zero]
      exact up_ext (ua.filter _) (up_lessGo a b ua) (fun x => by rw [mem_lessGo a b ua ub]; simp)

/-! ### Most -/
/-- the union of the first lists -/
def inFirst (ls : List (List Int)) (i : Nat) (x : Int) : Prop := ∃ l ∈ ls.take i, x ∈ l
theorem inFirst_succ {ls : List (List Int)} {i : Nat} (hi : i < ls.length) (x : Int) : inFirst ls (i + 1) x ↔ inFirst ls i x ∨ x ∈ ls.getD i [] := by
  unfold inFirst
  rw [List.take_succ_eq_append_getElem hi]
  simp only [List.mem_append, List.mem_singleton, List.getD_eq_getElem?_getD, hi, List.getElem?_eq_getElem, Option.getD_some]
  constructor
  · rintro ⟨l, (h | rfl), hx⟩
    · exact .inl ⟨l, h, hx⟩
    · exact .inr hx
  · rintro (⟨l, h, hx⟩ | hx)
    · exact ⟨l, .inl h, hx⟩
    · exact ⟨_, .inr rfl, hx⟩

theorem refMost_l1 (ls : List (List Int)) (k1 : Int) (i : Nat) (hi : i < ls.length) (hl : (ls.getD i []).length ≤ 1000) (h10 : ls.length ≤ 1000) : ∀ (d j k : Nat) (all : List Int), j ≤ (ls.getD i []).length → (ls.getD i []).length ≤ j + d → all.length + 2 * d + 2000 < k → all.length ≤ 90000 - d → d ≤ 1000 → Up all →
    ∃ all', varveref13_Most.l1 k ls k1 all (i : Int) (j : Int) = varveref13_Most.l0 (k - ((ls.getD i []).length - j) - 1) ls k1 all' ((i + 1 : Nat) : Int) ∧ Up all' ∧ (∀ x, x ∈ all' ↔ x ∈ all ∨ x ∈ (ls.getD i []).drop j) ∧ all'.length ≤ all.length + ((ls.getD i []).length - j)
  | d, j, 0, all, _, _, h, _, _, _ => by omega
  | d, j, k + 1, all, hj, hd, hk, ha, hd1, hu => by
    simp only [varveref13_Most.l1, w64_succ i (by omega), w64_succ j (by omega), rdL_nat, rd_nat]
    rw [if_pos (by omega), if_pos (by omega)]
    by_cases hlt : j < (ls.getD i []).length
    · obtain ⟨r, h1, h2, h3, h4⟩ := put_val all ((ls.getD i []).getD j 0) (by omega) hu k (by omega)
      rw [if_pos (by omega), if_pos (by omega), h1, drop_getD _ j hlt]
      simp only [Option.bind_some]
      obtain ⟨all', e1, e2, e3, e4⟩ := refMost_l1 ls k1 i hi hl h10 (d - 1) (j + 1) k r (by omega) (by omega) (by omega) (by omega) (by omega) h2
      refine ⟨all', ?_, e2, fun x => ?_, by omega⟩
      · rw [e1]; congr 1; omega
      · rw [e3, h3]; simp only [List.mem_cons]
        constructor
        · rintro ((h | h) | h)
          · exact .inr (.inl h)
          · exact .inl h
          · exact .inr (.inr h)
        · rintro (h | h | h)
          · exact .inl (.inr h)
          · exact .inl (.inl h)
          · exact .inr h
    · rw [if_neg (by omega)]
      refine ⟨all, ?_, hu, fun x => ?_, by omega⟩
      · rw [show k + 1 - ((ls.getD i []).length - j) - 1 = k by omega]
      · rw [List.drop_of_length_le (by omega)]; simp

theorem refMost_l3 (ls : List (List Int)) (k1 : Int) (all out : List Int) (i : Nat) (hi : i < all.length) (hl : ∀ l ∈ ls, l.length ≤ 1000) (h10 : ls.length ≤ 1000) (hall : all.length ≤ 90000) (ho : out.length ≤ 90000) : ∀ (d j k n : Nat), j ≤ ls.length → ls.length ≤ j + d → d + 2000 < k → n ≤ j →
    varveref13_Most.l3 k ls k1 all out (i : Int) (n : Int) (j : Int) = varveref13_Most.l2 (k - (ls.length - j) - 1) ls k1 all (if k1 ≤ ((n + (ls.drop j).countP (fun l => decide (all.getD i 0 ∈ l)) : Nat) : Int) then out ++ [all.getD i 0] else out) ((i + 1 : Nat) : Int)
  | d, j, 0, n, _, _, h, _ => by omega
  | d, j, k + 1, n, hj, hd, hk, hn => by
    simp only [varveref13_Most.l3, w64_succ i (by omega), w64_succ j (by omega), w64_succ n (by omega), rdL_nat, rd_nat]
    by_cases hlt : j < ls.length
    · have hm : ls.getD j [] ∈ ls := by simp [List.getD_eq_getElem?_getD, hlt]
      rw [if_pos (by omega), if_pos (by omega), if_pos (by omega), if_pos (by omega), in_val _ _ (by have := hl _ hm; omega) k (by have := hl _ hm; omega)]
      simp only [Option.bind_some]
      have hdr : ls.drop j = ls.getD j [] :: ls.drop (j + 1) := by rw [List.drop_eq_getElem_cons hlt]; simp [List.getD_eq_getElem?_getD, hlt]
      by_cases e : all.getD i 0 ∈ ls.getD j []
      · simp only [e, decide_true, if_true]
        rw [refMost_l3 ls k1 all out i hi hl h10 hall ho (d - 1) (j + 1) k (n + 1) (by omega) (by omega) (by omega) (by omega)]
        rw [hdr, List.countP_cons_of_pos (by simpa using e), show k - (ls.length - (j + 1)) - 1 = k + 1 - (ls.length - j) - 1 by omega, show n + 1 + (ls.drop (j + 1)).countP (fun l => decide (all.getD i 0 ∈ l)) = n + ((ls.drop (j + 1)).countP (fun l => decide (all.getD i 0 ∈ l)) + 1) by omega]
      · rw [if_neg (by simp only [e, decide_false]; simp)]
        rw [refMost_l3 ls k1 all out i hi hl h10 hall ho (d - 1) (j + 1) k n (by omega) (by omega) (by omega) (by omega)]
        rw [hdr, List.countP_cons_of_neg (by simpa using e), show k - (ls.length - (j + 1)) - 1 = k + 1 - (ls.length - j) - 1 by omega]
    · rw [if_neg (by omega), List.drop_of_length_le (by omega), show k + 1 - (ls.length - j) - 1 = k by omega]
      simp only [List.countP_nil, Nat.add_zero]
      by_cases e : k1 ≤ (n : Int)
      · rw [if_pos (by omega), if_pos (by omega), if_pos (by omega), if_pos (by omega)]; simp only [e, if_true]
      · rw [if_neg (by omega)]; simp only [e, if_false]

theorem refMost_l2 (ls : List (List Int)) (k1 : Int) (all : List Int) (hl : ∀ l ∈ ls, l.length ≤ 1000) (h10 : ls.length ≤ 1000) (hall : all.length ≤ 90000) : ∀ (d i k : Nat) (out : List Int), i ≤ all.length → all.length ≤ i + d → d * (ls.length + 2) + 4000 < k → out.length ≤ i →
    varveref13_Most.l2 k ls k1 all out (i : Int) = some (out ++ (all.drop i).filter (fun x => decide (k1 ≤ (occ ls x : Int))))
  | d, i, 0, out, _, _, h, _ => by omega
  | d, i, k + 1, out, hi, hd, hk, ho => by
    simp only [varveref13_Most.l2]
    by_cases hlt : i < all.length
    · obtain ⟨d, rfl⟩ : ∃ e, d = e + 1 := ⟨d - 1, by omega⟩
      have hk' : d * (ls.length + 2) + (ls.length + 2) + 4000 < k + 1 := by rw [Nat.succ_mul] at hk; omega
      have := refMost_l3 ls k1 all out i hlt hl h10 hall (by omega) ls.length 0 k 0 (by omega) (by omega) (by omega) (by omega)
      rw [show ((0 : Nat) : Int) = 0 from rfl] at this
      rw [if_pos (by omega), this, drop_getD all i hlt]
      have e0 : (0 + (ls.drop 0).countP (fun l => decide (all.getD i 0 ∈ l)) : Nat) = occ ls (all.getD i 0) := by simp [occ]
      rw [e0]
      by_cases e : k1 ≤ (occ ls (all.getD i 0) : Int)
      · rw [if_pos e, refMost_l2 ls k1 all hl h10 hall d (i + 1) _ _ (by omega) (by omega) (by omega) (by simp; omega), List.filter_cons_of_pos (by simpa using e)]; simp
      · rw [if_neg e, refMost_l2 ls k1 all hl h10 hall d (i + 1) _ _ (by omega) (by omega) (by omega) (by omega), List.filter_cons_of_neg (by simpa using e)]
    · rw [if_neg (by omega), List.drop_of_length_le (by omega)]; simp

theorem refMost_end (ls : List (List Int)) (k1 : Int) (B : Nat) (hB : B = 30000) (hl : ∀ l ∈ ls, l.length ≤ 200) (h10 : ls.length ≤ 10) (i k : Nat) (all : List Int) (hi : i ≤ ls.length) (hd : ls.length ≤ i) (hk : B ≤ k) (ha : all.length ≤ i * 200) (hu : Up all) (hr : ∀ l ∈ ls.take i, Up l) (hx : ∀ x, x ∈ all ↔ inFirst ls i x) :
    varveref13_Most.l0 (k + 1) ls k1 all (i : Int) = some (mostL ls k1) := by
  have ei : i = ls.length := by omega
  have hup : ∀ l ∈ ls, Up l := by
    intro l h
    exact hr l (by rw [ei, List.take_length]; exact h)
  have har : allRise ls = true := List.all_eq_true.2 (fun l h => (up_iff l).2 (hup l h))
  simp only [varveref13_Most.l0]
  rw [if_neg (by omega)]
  by_cases hk1 : k1 < 1
  · rw [if_pos hk1]
    simp [mostL, har, show ¬ 1 ≤ k1 by omega]
  · have hbig : all.length * (ls.length + 2) ≤ 2000 * 12 := Nat.mul_le_mul (by omega) (by omega)
    have := refMost_l2 ls k1 all (fun l h => by have := hl l h; omega) (by omega) (by omega) all.length 0 k [] (by omega) (by omega) (by omega) (by simp)
    rw [show ((0 : Nat) : Int) = 0 from rfl] at this
    rw [if_neg hk1, this]
    simp only [mostL, har, show 1 ≤ k1 by omega, and_self, if_true, List.nil_append, List.drop_zero]
    obtain ⟨m1, m2⟩ := mostGo_spec ls k1 hup
    congr 1
    refine up_ext (hu.filter _) m1 (fun x => ?_)
    rw [m2, List.mem_filter, hx]
    unfold inFirst
    rw [ei, List.take_length]
    simp
set_option maxRecDepth 20000 in
theorem refMost_l0 (ls : List (List Int)) (k1 : Int) (B : Nat) (hB : B = 30000) (hl : ∀ l ∈ ls, l.length ≤ 200) (h10 : ls.length ≤ 10) : ∀ (d i k : Nat) (all : List Int), i ≤ ls.length → ls.length ≤ i + d → d * 1000 + B < k → all.length ≤ i * 200 → Up all → (∀ l ∈ ls.take i, Up l) → (∀ x, x ∈ all ↔ inFirst ls i x) →
    varveref13_Most.l0 k ls k1 all (i : Int) = some (mostL ls k1) := by
  intro d
  induction d with
  | zero =>
    intro i k all hi hd hk ha hu hr hx
    obtain ⟨k, rfl⟩ : ∃ q, k = q + 1 := ⟨k - 1, by omega⟩
    exact refMost_end ls k1 B hB hl h10 i k all hi hd (by omega) ha hu hr hx
  | succ d ih =>
    intro i k all hi hd hk ha hu hr hx
    obtain ⟨k, rfl⟩ : ∃ q, k = q + 1 := ⟨k - 1, by omega⟩
    by_cases hlt : i < ls.length
    · have hm : ls.getD i [] ∈ ls := by simp [List.getD_eq_getElem?_getD, hlt]
      have hli := hl _ hm
      simp only [varveref13_Most.l0, rdL_nat]
      rw [if_pos (by omega), if_pos (by omega), rises_val _ (by omega) k (by omega)]
      simp only [Option.bind_some]
      cases h1 : rises (ls.getD i []) with
      | false =>
        have : allRise ls = false := by
          rw [← Bool.not_eq_true]; intro h
          have := (List.all_eq_true.1 h) _ hm
          rw [h1] at this; cases this
        simp [mostL, this]
      | true =>
        obtain ⟨all', e1, e2, e3, e4⟩ := refMost_l1 ls k1 i hlt (by omega) (by omega) (ls.getD i []).length 0 k all (by omega) (by omega) (by omega) (by omega) (by omega) hu
        rw [show ((0 : Nat) : Int) = 0 from rfl] at e1
        rw [if_pos rfl, e1]
        refine ih (i + 1) _ all' (by omega) (by omega) (by omega) (by omega) e2 ?_ ?_
        · intro l h
          rw [List.take_succ_eq_append_getElem hlt] at h
          rcases List.mem_append.1 h with h | h
          · exact hr l h
          · rw [List.mem_singleton] at h
            have : l = ls.getD i [] := by rw [h]; simp [List.getD_eq_getElem?_getD, hlt]
            rw [this]; exact (up_iff _).1 h1
        · intro x
          rw [e3, hx, inFirst_succ hlt, List.drop_zero]
    · exact refMost_end ls k1 B hB hl h10 i k all hi (by omega) (by omega) ha hu hr hx
theorem refMost_val (ls : List (List Int)) (k1 : Int) (hl : ∀ l ∈ ls, l.length ≤ 200) (h10 : ls.length ≤ 10) : ∃ K, varveref13_Most.f K ls k1 = some (mostL ls k1) := by
  obtain ⟨B, hB⟩ : ∃ B : Nat, B = 30000 := ⟨_, rfl⟩
  obtain ⟨K, hK⟩ : ∃ K : Nat, K = 20000 + B := ⟨_, rfl⟩
  have := refMost_l0 ls k1 B hB hl h10 ls.length 0 K [] (by omega) (by omega) (by omega) (by simp) List.Pairwise.nil (by simp) (by simp [inFirst])
  exact ⟨K, by simpa [varveref13_Most.f] using this⟩
end Go.Proofs.Ytdjiaooieiboaaa
