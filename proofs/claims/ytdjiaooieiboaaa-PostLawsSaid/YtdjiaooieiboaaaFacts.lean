/- Own text: what and, or, less, most of rising lists are, by members. -/
import Derived.Test.YtdjiaooieiboaaaIterI
namespace Go.Proofs.Ytdjiaooieiboaaa
open Go Go.RowKit Go.Shelf Go.Proofs.YtdjiaooieiboaaaW.PrintWords Go.Proofs.Ytdjiaooieiboaaa.PAll

theorem allRise_of {ls : List (List Int)} (h : ∀ l ∈ ls, Up l) : allRise ls = true := List.all_eq_true.2 (fun l hl => (up_iff l).2 (h l hl))
theorem mostL_up (ls : List (List Int)) (k : Int) : Up (mostL ls k) := by
  unfold mostL
  split
  · rename_i h
    exact (mostGo_spec ls k (fun l hl => (up_iff l).1 (List.all_eq_true.1 h.1 l hl))).1
  · exact List.Pairwise.nil
theorem mem_mostL {ls : List (List Int)} {k : Int} (h : ∀ l ∈ ls, Up l) (hk : 1 ≤ k) (x : Int) : x ∈ mostL ls k ↔ (∃ l ∈ ls, x ∈ l) ∧ k ≤ occ ls x := by
  unfold mostL
  rw [if_pos ⟨allRise_of h, hk⟩]
  exact (mostGo_spec ls k h).2 x
theorem mostL_len (ls : List (List Int)) (k : Int) (m : Nat) (h : ∀ l ∈ ls, l.length ≤ m) : (mostL ls k).length ≤ ls.length * m := by
  unfold mostL
  split
  · exact Nat.le_trans (mg_len ls k _ _) (tot_le h _ (Nat.le_refl _))
  · simp
theorem lessL_up (a b : List Int) : Up (lessL a b) := by
  unfold lessL
  split
  · rename_i h; exact up_lessGo a b ((up_iff a).1 h.1)
  · exact List.Pairwise.nil
theorem mem_lessL {a b : List Int} (ha : Up a) (hb : Up b) (x : Int) : x ∈ lessL a b ↔ x ∈ a ∧ x ∉ b := by
  unfold lessL
  rw [if_pos ⟨(up_iff a).2 ha, (up_iff b).2 hb⟩]
  exact mem_lessGo a b ha hb x
theorem lessL_len (a b : List Int) : (lessL a b).length ≤ a.length := by
  unfold lessL
  split
  · exact lessGo_len a b
  · simp
theorem occ_nil (x : Int) : occ [] x = 0 := rfl
theorem occ_cons (l : List Int) (ls : List (List Int)) (x : Int) : occ (l :: ls) x = occ ls x + if x ∈ l then 1 else 0 := by
  unfold occ; rw [List.countP_cons]; simp

theorem mem_and {a b : List Int} (ha : Up a) (hb : Up b) (x : Int) : x ∈ mostL [a, b] 2 ↔ x ∈ a ∧ x ∈ b := by
  rw [mem_mostL (by simp; exact ⟨ha, hb⟩) (by decide)]
  simp only [occ_cons, occ_nil, List.mem_cons, List.not_mem_nil, or_false, exists_eq_or_imp, exists_eq_left]
  by_cases h1 : x ∈ a <;> by_cases h2 : x ∈ b <;> simp [h1, h2]
theorem mem_or {a b : List Int} (ha : Up a) (hb : Up b) (x : Int) : x ∈ mostL [a, b] 1 ↔ x ∈ a ∨ x ∈ b := by
  rw [mem_mostL (by simp; exact ⟨ha, hb⟩) (by decide)]
  simp only [occ_cons, occ_nil, List.mem_cons, List.not_mem_nil, or_false, exists_eq_or_imp, exists_eq_left]
  by_cases h1 : x ∈ a <;> by_cases h2 : x ∈ b <;> simp [h1, h2]
theorem from_eq {l : List Int} (h : Up l) : mostL [l] 1 = l := up_ext (mostL_up _ _) h (fun x => by
  rw [mem_mostL (by simpa using h) (by decide)]
  simp only [occ_cons, occ_nil, List.mem_cons, List.not_mem_nil, or_false, exists_eq_left]
  by_cases h1 : x ∈ l <;> simp [h1])
theorem and_self {l : List Int} (h : Up l) : mostL [l, l] 2 = l := up_ext (mostL_up _ _) h (fun x => by rw [mem_and h h]; simp)
theorem or_self3 {l : List Int} (h : Up l) : mostL [l, l, l] 1 = l := up_ext (mostL_up _ _) h (fun x => by
  rw [mem_mostL (by simpa using h) (by decide)]
  simp only [occ_cons, occ_nil, List.mem_cons, List.not_mem_nil, or_false, exists_eq_or_imp, exists_eq_left]
  by_cases h1 : x ∈ l <;> simp [h1])
theorem less_self {l : List Int} (h : Up l) : lessL l l = [] := up_ext (lessL_up _ _) List.Pairwise.nil (fun x => by rw [mem_lessL h h]; simp)
theorem less_nil {l : List Int} (h : Up l) : lessL l [] = l := up_ext (lessL_up _ _) h (fun x => by rw [mem_lessL h List.Pairwise.nil]; simp)
theorem and_comm_ {a b : List Int} (ha : Up a) (hb : Up b) : mostL [a, b] 2 = mostL [b, a] 2 := up_ext (mostL_up _ _) (mostL_up _ _) (fun x => by rw [mem_and ha hb, mem_and hb ha]; exact And.comm)
theorem or_comm_ {a b : List Int} (ha : Up a) (hb : Up b) : mostL [a, b] 1 = mostL [b, a] 1 := up_ext (mostL_up _ _) (mostL_up _ _) (fun x => by rw [mem_or ha hb, mem_or hb ha]; exact Or.comm)
theorem and_assoc_ {a b c : List Int} (ha : Up a) (hb : Up b) (hc : Up c) : mostL [mostL [a, b] 2, c] 2 = mostL [a, mostL [b, c] 2] 2 :=
  up_ext (mostL_up _ _) (mostL_up _ _) (fun x => by rw [mem_and (mostL_up _ _) hc, mem_and ha (mostL_up _ _), mem_and ha hb, mem_and hb hc]; exact and_assoc)
theorem or_assoc_ {a b c : List Int} (ha : Up a) (hb : Up b) (hc : Up c) : mostL [mostL [a, b] 1, c] 1 = mostL [a, mostL [b, c] 1] 1 :=
  up_ext (mostL_up _ _) (mostL_up _ _) (fun x => by rw [mem_or (mostL_up _ _) hc, mem_or ha (mostL_up _ _), mem_or ha hb, mem_or hb hc]; exact or_assoc)
theorem whole_ {a b : List Int} (ha : Up a) (hb : Up b) : mostL [lessL a b, mostL [a, b] 2] 1 = a :=
  up_ext (mostL_up _ _) ha (fun x => by
    rw [mem_or (lessL_up _ _) (mostL_up _ _), mem_lessL ha hb, mem_and ha hb]
    by_cases h1 : x ∈ a <;> by_cases h2 : x ∈ b <;> simp [h1, h2])
theorem rises_up {l : List Int} (h : Up l) : rises l = true := (up_iff l).2 h

/-! ### nests -/
theorem nest_less {ls : List (List Int)} (h : ∀ l ∈ ls, Up l) (n : Int) (hn : 2 ≤ n) : lessL (mostL ls n) (mostL ls (n - 1)) = [] :=
  up_ext (lessL_up _ _) List.Pairwise.nil (fun x => by
    rw [mem_lessL (mostL_up _ _) (mostL_up _ _), mem_mostL h (by omega), mem_mostL h (by omega)]
    simp only [List.not_mem_nil, iff_false]
    rintro ⟨⟨h1, h2⟩, h3⟩
    exact h3 ⟨h1, by omega⟩)
theorem occ_le (ls : List (List Int)) (x : Int) : occ ls x ≤ ls.length := List.countP_le_length
theorem nest_all {ls : List (List Int)} (h : ∀ l ∈ ls, Up l) {l : List Int} (hl : l ∈ ls) : lessL (mostL ls (ls.length : Int)) l = [] :=
  up_ext (lessL_up _ _) List.Pairwise.nil (fun x => by
    have hpos : 0 < ls.length := List.length_pos_of_mem hl
    rw [mem_lessL (mostL_up _ _) (h l hl), mem_mostL h (by omega)]
    simp only [List.not_mem_nil, iff_false]
    rintro ⟨⟨_, h2⟩, h4⟩
    refine h4 ?_
    have h3 : occ ls x = ls.length := by have := occ_le ls x; omega
    have := List.countP_eq_length.1 h3 l hl
    simpa using this)
theorem nest_over (ls : List (List Int)) : mostL ls ((ls.length : Int) + 1) = [] := by
  by_cases h : ∀ l ∈ ls, Up l
  · refine up_ext (mostL_up _ _) List.Pairwise.nil (fun x => ?_)
    rw [mem_mostL h (by omega)]
    simp only [List.not_mem_nil, iff_false, not_and]
    intro _
    have := occ_le ls x
    omega
  · unfold mostL
    rw [if_neg]
    rintro ⟨h1, _⟩
    exact h (fun l hl => (up_iff l).1 (List.all_eq_true.1 h1 l hl))

/-! ### contracts, with what they tell named -/
theorem and21' (w : World) (A B : Option Addr) (c d : Nat) (a b r : List Int) (hr : mostL [a, b] 2 = r) (ha : a.length ≤ 8000) (hb : b.length ≤ 8000) (hA : SL w A c a) (hB : SL w B d b) : Calls Try.prog 21 #[.slice A a.length c, .slice B b.length d] w (ITRet w r) := hr ▸ and21 w A B c d a b ha hb hA hB
theorem from13' (w : World) (A : Option Addr) (c : Nat) (l r : List Int) (hr : mostL [l] 1 = r) (hl : l.length ≤ 8000) (hA : SL w A c l) : Calls Try.prog 13 #[.slice A l.length c] w (ITRet w r) := hr ▸ from13 w A c l hl hA
theorem less22' (w : World) (A B : Option Addr) (c d : Nat) (a b r : List Int) (hr : lessL a b = r) (ha : a.length ≤ 10000) (hb : b.length ≤ 10000) (hA : SL w A c a) (hB : SL w B d b) : Calls Try.prog 22 #[.slice A a.length c, .slice B b.length d] w (ITRet w r) := hr ▸ less22 w A B c d a b ha hb hA hB
theorem list12' (w : World) (gf : Nat) (lb : Array Value) (xs : List Int) (most : Int) (hm : (xs.length : Int) ≤ most) (h : IT w gf lb xs) : Calls Try.prog 12 #[.func (.func gf) #[] lb, .int .i64 most] w (LRet w xs) := by
  have := list12 w gf lb xs most h
  rwa [List.take_of_length_le (by omega)] at this
theorem same11' (w : World) (A B : Option Addr) (c d : Nat) (a b : List Int) (hab : a = b) (ha : a.length ≤ 100000) (hA : SL w A c a) (hB : SL w B d b) :
    Calls Try.prog 11 #[.slice A a.length c, .slice B b.length d] w fun e w' => e = .returned (.bool true) ∧ Below w.heap.size w w' :=
  (same_any w A B c d a b ha hA hB).mono fun _ _ h => ⟨by rw [h.1, hab]; simp, h.2⟩
theorem or_lit2 (w : World) (A B : Option Addr) (c d : Nat) (a b r : List Int) (hr : mostL [a, b] 1 = r) (ha : a.length ≤ 8000) (hb : b.length ≤ 8000) (hA : SL w A c a) (hB : SL w B d b) :
    Calls Try.prog 19 #[.slice (some ⟨w.heap.size, 0, none⟩) 2 2] (w.alloc (.cells #[.slice A a.length c, .slice B b.length d] 22)) (ITRet w r) := by
  have := or19 _ _ 2 [a, b] 8000 (by omega) (by simp; omega) (by simp) (RL.two hA.ri hB.ri)
  rw [hr] at this
  simp only [List.length_cons, List.length_nil, Nat.zero_add, Nat.reduceAdd] at this
  refine this.mono ?_
  rintro e w' ⟨gf, lb, rfl, hT, hb'⟩
  exact ⟨gf, lb, rfl, hT, below_step (below_alloc (Below.refl _ _) _) hb'⟩
theorem or_lit3 (w : World) (A B C : Option Addr) (c d e : Nat) (a b x r : List Int) (hr : mostL [a, b, x] 1 = r) (ha : a.length ≤ 8000) (hb : b.length ≤ 8000) (hx : x.length ≤ 8000) (hA : SL w A c a) (hB : SL w B d b) (hC : SL w C e x) :
    Calls Try.prog 19 #[.slice (some ⟨w.heap.size, 0, none⟩) 3 3] (w.alloc (.cells #[.slice A a.length c, .slice B b.length d, .slice C x.length e] 22)) (ITRet w r) := by
  have := or19 _ _ 3 [a, b, x] 8000 (by omega) (by simp; omega) (by simp) (RL.three hA.ri hB.ri hC.ri)
  rw [hr] at this
  simp only [List.length_cons, List.length_nil, Nat.zero_add, Nat.reduceAdd] at this
  refine this.mono ?_
  rintro e w' ⟨gf, lb, rfl, hT, hb'⟩
  exact ⟨gf, lb, rfl, hT, below_step (below_alloc (Below.refl _ _) _) hb'⟩
theorem ref_lit2 (w : World) (A B : Option Addr) (c d : Nat) (a b : List Int) (ha : a.length ≤ 200) (hb : b.length ≤ 200) (hA : SL w A c a) (hB : SL w B d b) :
    Calls Try.prog 18 #[.slice (some ⟨w.heap.size, 0, none⟩) 2 2, .int .i64 2] (w.alloc (.cells #[.slice A a.length c, .slice B b.length d] 22)) (LRet w (mostL [a, b] 2)) := by
  have := refMost18 _ _ 2 [a, b] 2 (by simp; omega) (by simp) (RL.two hA.ri hB.ri)
  simp only [List.length_cons, List.length_nil, Nat.zero_add, Nat.reduceAdd] at this
  exact this.mono fun _ _ h => LRet.lift (below_alloc (Below.refl _ _) _) h
theorem ref_lit1 (w : World) (A : Option Addr) (c : Nat) (a : List Int) (ha : a.length ≤ 200) (hA : SL w A c a) :
    Calls Try.prog 18 #[.slice (some ⟨w.heap.size, 0, none⟩) 1 1, .int .i64 1] (w.alloc (.cells #[.slice A a.length c] 22)) (LRet w (mostL [a] 1)) := by
  have := refMost18 _ _ 1 [a] 1 (by simpa using ha) (by simp) (RL.one hA.ri)
  simp only [List.length_cons, List.length_nil, Nat.zero_add] at this
  exact this.mono fun _ _ h => LRet.lift (below_alloc (Below.refl _ _) _) h
theorem lessnil22 (w : World) (A : Option Addr) (c : Nat) (a r : List Int) (hr : lessL a [] = r) (ha : a.length ≤ 10000) (hA : SL w A c a) : Calls Try.prog 22 #[.slice A a.length c, .slice none 0 0] w (ITRet w r) :=
  hr ▸ less22 w A none c 0 a [] ha (by simp) hA (SL.nil w none 0)
theorem ref2' (w : World) (A B : Option Addr) (c d : Nat) (a b r : List Int) (hr : mostL [a, b] 2 = r) (ha : a.length ≤ 200) (hb : b.length ≤ 200) (hA : SL w A c a) (hB : SL w B d b) :
    Calls Try.prog 18 #[.slice (some ⟨w.heap.size, 0, none⟩) 2 2, .int .i64 2] (w.alloc (.cells #[.slice A a.length c, .slice B b.length d] 22)) (LRet w r) := hr ▸ ref_lit2 w A B c d a b ha hb hA hB
theorem ref1' (w : World) (A : Option Addr) (c : Nat) (a r : List Int) (hr : mostL [a] 1 = r) (ha : a.length ≤ 200) (hA : SL w A c a) :
    Calls Try.prog 18 #[.slice (some ⟨w.heap.size, 0, none⟩) 1 1, .int .i64 1] (w.alloc (.cells #[.slice A a.length c] 22)) (LRet w r) := hr ▸ ref_lit1 w A c a ha hA
theorem refLess' (w : World) (A B : Option Addr) (c d : Nat) (a b r : List Int) (hr : lessL a b = r) (ha : a.length ≤ 1000) (hb : b.length ≤ 1000) (hA : SL w A c a) (hB : SL w B d b) :
    Calls Try.prog 23 #[.slice A a.length c, .slice B b.length d] w (LRet w r) := hr ▸ refLess23 w A B c d a b ha hb hA hB
theorem most17' (w : World) (A : Option Addr) (c : Nat) (ls : List (List Int)) (kk : Int) (r : List Int) (hr' : mostL ls kk = r) (h10 : ls.length ≤ 11) (hl : ∀ l ∈ ls, l.length ≤ 100) (hr : RL w (.slice A ls.length c) ls) :
    Calls Try.prog 17 #[.slice A ls.length c, .int .i64 kk] w (ITRet w r) := hr' ▸ most17 w A c ls kk 100 (by omega) hl h10 hr
theorem or19' (w : World) (A : Option Addr) (c : Nat) (ls : List (List Int)) (r : List Int) (hr' : mostL ls 1 = r) (h10 : ls.length ≤ 11) (hl : ∀ l ∈ ls, l.length ≤ 100) (hr : RL w (.slice A ls.length c) ls) :
    Calls Try.prog 19 #[.slice A ls.length c] w (ITRet w r) := hr' ▸ or19 w A c ls 100 (by omega) hl h10 hr
theorem refMost' (w : World) (A : Option Addr) (c : Nat) (ls : List (List Int)) (kk : Int) (r : List Int) (hr' : mostL ls kk = r) (h10 : ls.length ≤ 10) (hl : ∀ l ∈ ls, l.length ≤ 100) (hr : RL w (.slice A ls.length c) ls) :
    Calls Try.prog 18 #[.slice A ls.length c, .int .i64 kk] w (LRet w r) := hr' ▸ refMost18 w A c ls kk (fun l h => by have := hl l h; omega) h10 hr
theorem rises20' (w : World) (A : Option Addr) (c : Nat) (l : List Int) (v : Bool) (hv : rises l = v) (hl : l.length ≤ 100000) (hA : SL w A c l) :
    Calls Try.prog 20 #[.slice A l.length c] w fun e w' => e = .returned (.bool v) ∧ Below w.heap.size w w' := hv ▸ rises20 w A c l hl hA
theorem rises9' (w : World) (A : Option Addr) (c : Nat) (l : List Int) (v : Bool) (hv : rises l = v) (hl : l.length ≤ 100000) (hA : SL w A c l) :
    Calls Try.prog 9 #[.slice A l.length c] w fun e w' => e = .returned (.bool v) ∧ Below w.heap.size w w' := hv ▸ rises9 w A c l hl hA
end Go.Proofs.Ytdjiaooieiboaaa
