/- Own text: From, And, Or; the contracts as the laws call them. -/
import Derived.Test.YtdjiaooieiboaaaVals
namespace Go.Proofs.Ytdjiaooieiboaaa
open Go Go.RowKit Go.Shelf Go.Proofs.YtdjiaooieiboaaaW.PrintWords Go.Proofs.Ytdjiaooieiboaaa.PAll

/-- the slice value .slice A n c reads l (n its length) -/
def SL (w : World) (A : Option Addr) (c : Nat) (l : List Int) : Prop := l.length ≤ c ∧ ReadsOf (Value.int .i64) 0 w A l.length l
theorem SL.below {w W : World} {A : Option Addr} {c : Nat} {l : List Int} (h : SL w A c l) (hb : Below w.heap.size w W) : SL W A c l := ⟨h.1, h.2.below hb⟩
theorem SL.ri {w : World} {A : Option Addr} {c : Nat} {l : List Int} (h : SL w A c l) : RI w (.slice A l.length c) l := ⟨A, c, rfl, h.1, h.2⟩
theorem SL.nil (w : World) (A : Option Addr) (c : Nat) : SL w A c [] := ⟨Nat.zero_le _, rfl, by simp, fun h => by simp at h⟩

/-- a list in new memory -/
def LRet (w : World) (xs : List Int) : Ending → World → Prop := fun e w' => ∃ A c, e = .returned (.slice A xs.length c) ∧ SL w' A c xs ∧ Below w.heap.size w w'
theorem LRet.of {w : World} {xs : List Int} {e : Ending} {w' : World} (h : IntsRet w.heap.size w xs e w') : LRet w xs e w' := by
  obtain ⟨v, rfl, ho, hb⟩ := h
  obtain ⟨A, c, rfl, hc, hr⟩ := own_reads_of_le (enc := Value.int .i64) (d := 0) ho
  exact ⟨A, c, rfl, ⟨hc, hr⟩, hb⟩
theorem LRet.lift {w W : World} {xs : List Int} {e : Ending} {w' : World} (hb : Below w.heap.size w W) (h : LRet W xs e w') : LRet w xs e w' := by
  obtain ⟨A, c, rfl, hs, h2⟩ := h
  exact ⟨A, c, rfl, hs, below_step hb h2⟩
theorem IterRet.lift {w W : World} {xs : List Int} {e : Ending} {w' : World} (hb : Below w.heap.size w W) (h : IterRet W xs e w') : IterRet w xs e w' := by
  obtain ⟨gf, lb, rfl, eg, hT, h2⟩ := h
  exact ⟨gf, lb, rfl, eg, hT, below_step hb h2⟩

/-- an iterator value -/
def IT (w : World) (gf : Nat) (lb : Array Value) (xs : List Int) : Prop := (∀ args w, (callFunc gf args).run Try.prog w = .ok (.enter gf args) w) ∧ Tells 32 Try.prog gf lb xs w
theorem IT.below {w W : World} {gf : Nat} {lb : Array Value} {xs : List Int} (h : IT w gf lb xs) (hb : Below w.heap.size w W) : IT W gf lb xs := ⟨h.1, h.2.later hb⟩
def ITRet (w : World) (xs : List Int) : Ending → World → Prop := fun e w' => ∃ gf lb, e = .returned (.func (.func gf) #[] lb) ∧ IT w' gf lb xs ∧ Below w.heap.size w w'
theorem ITRet.of {w : World} {xs : List Int} {e : Ending} {w' : World} (h : IterRet w xs e w') : ITRet w xs e w' := by
  obtain ⟨gf, lb, rfl, eg, hT, hb⟩ := h
  exact ⟨gf, lb, rfl, ⟨eg, hT⟩, hb⟩

theorem same_any (w : World) (A B : Option Addr) (c d : Nat) (a b : List Int) (ha : a.length ≤ 100000) (hA : SL w A c a) (hB : SL w B d b) :
    Calls Try.prog 11 #[.slice A a.length c, .slice B b.length d] w fun e w' => e = .returned (.bool (decide (a = b))) ∧ Below w.heap.size w w' :=
  (varvelaw00_SameInts.calls (a.length + 2) A c a B d b _ w (Kd.C_of_reads hA.2) hA.1 (Kd.C_of_reads hB.2) hB.1 (same_val a b ha)).mono fun _ _ h => ⟨h.1, h.2.below⟩
theorem rises20 (w : World) (A : Option Addr) (c : Nat) (l : List Int) (hl : l.length ≤ 100000) (hA : SL w A c l) :
    Calls Try.prog 20 #[.slice A l.length c] w fun e w' => e = .returned (.bool (rises l)) ∧ Below w.heap.size w w' :=
  (rises_any w A c l hl hA.1 hA.2).mono fun _ _ h => ⟨h.1, h.2.below⟩
theorem rises9 (w : World) (A : Option Addr) (c : Nat) (l : List Int) (hl : l.length ≤ 100000) (hA : SL w A c l) :
    Calls Try.prog 9 #[.slice A l.length c] w fun e w' => e = .returned (.bool (rises l)) ∧ Below w.heap.size w w' :=
  (varveref13_Rises.calls (l.length + 2) A c l _ w (Kd.C_of_reads hA.2) hA.1 (varveref13_Rises.val l hl)).mono fun _ _ h => ⟨h.1, h.2.below⟩
theorem ints14 (w : World) (A : Option Addr) (c : Nat) (l : List Int) (hl : l.length ≤ 100000) (hA : SL w A c l) : Calls Try.prog 14 #[.slice A l.length c] w (LRet w l) :=
  (callsIn_wide.1 (copy14_in w A c l hl hA.2)).mono fun _ _ h => LRet.of h
theorem list12 (w : World) (gf : Nat) (lb : Array Value) (xs : List Int) (most : Int) (h : IT w gf lb xs) : Calls Try.prog 12 #[.func (.func gf) #[] lb, .int .i64 most] w (LRet w (xs.take most.toNat)) :=
  (callsIn_wide.1 (list_in gf lb xs most w h.1 h.2)).mono fun _ _ h => LRet.of h
theorem collect25 (w : World) (gf : Nat) (lb : Array Value) (xs : List Int) (most : Int) (h : IT w gf lb xs) : Calls Try.prog 25 #[.func (.func gf) #[] lb, .int .i64 most] w (LRet w (xs.take most.toNat)) :=
  (callsIn_wide.1 (collect_in gf lb xs most w h.1 h.2)).mono fun _ _ h => LRet.of h
theorem less22 (w : World) (A B : Option Addr) (c d : Nat) (a b : List Int) (ha : a.length ≤ 10000) (hb : b.length ≤ 10000) (hA : SL w A c a) (hB : SL w B d b) :
    Calls Try.prog 22 #[.slice A a.length c, .slice B b.length d] w (ITRet w (lessL a b)) :=
  (less_any w A B c d a b ha hb hA.1 hB.1 hA.2 hB.2).mono fun _ _ h => ITRet.of h
theorem refLess23 (w : World) (A B : Option Addr) (c d : Nat) (a b : List Int) (ha : a.length ≤ 1000) (hb : b.length ≤ 1000) (hA : SL w A c a) (hB : SL w B d b) :
    Calls Try.prog 23 #[.slice A a.length c, .slice B b.length d] w (LRet w (lessL a b)) :=
  (varveref13_Less.calls 10000 A c a B d b _ w (Kd.C_of_reads hA.2) hA.1 (Kd.C_of_reads hB.2) hB.1 (refLess_val a b ha hb)).mono fun _ _ ⟨v, he, hr, hb⟩ => LRet.of ⟨v, he, Kd.own_of_R hr, hb⟩

/-! ### lists of lists -/
theorem RL.c {w : World} {A : Option Addr} {c : Nat} {ls : List (List Int)} (h : RL w (.slice A ls.length c) ls) (hm : ls.length ≤ 9223372036854775807) : ls.length ≤ c ∧ Kd.C (Kd.slice 3 (Kd.int .i64)) w A ls.length ls := by
  obtain ⟨A', c', e, hc, hrd⟩ := h
  cases e
  refine ⟨hc, rfl, hm, fun hp => ?_⟩
  obtain ⟨ad, _, rfl, _, _⟩ := hrd 0 hp
  refine ⟨ad, rfl, fun j p hj => ?_⟩
  have hjl := (List.getElem?_eq_some_iff.1 hj).1
  obtain ⟨ad', vi, e', hcell, A2, c2, rfl, hc2, hr2⟩ := hrd j hjl
  cases e'
  have ep : ls.getD j [] = p := by rw [List.getD_eq_getElem?_getD, hj]; rfl
  rw [ep] at hcell hc2 hr2
  refine ⟨[.slice A2 p.length c2], rfl, ⟨A2, c2, rfl, hc2, Kd.C_of_reads hr2⟩, fun i u hu => ?_⟩
  cases i with
  | zero => simp at hu; subst hu; show w.cell? (ad.add (j * 1 + 0)) = _; simpa using hcell
  | succ i => simp at hu
theorem RL.below {w W : World} {v : Value} {ls : List (List Int)} (h : RL w v ls) (hb : Below w.heap.size w W) : RL W v ls := by
  obtain ⟨A, c, rfl, hc, hrd⟩ := h
  refine ⟨A, c, rfl, hc, fun i hi => ?_⟩
  obtain ⟨ad, vi, e, hcell, hri⟩ := hrd i hi
  exact ⟨ad, vi, e, pw_cell_below hb hcell, hri.below hb⟩
theorem RL.one {w : World} {v : Value} {l : List Int} (h : RI w v l) : RL (w.alloc (.cells #[v] 22)) (.slice (some ⟨w.heap.size, 0, none⟩) 1 1) [l] := by
  have hb : Below w.heap.size w (w.alloc (.cells #[v] 22)) := (Below.refl _ w).alloc (Nat.le_refl _) _
  refine ⟨_, 1, rfl, Nat.le_refl _, fun i hi => ?_⟩
  obtain rfl : i = 0 := by simp at hi; omega
  refine ⟨_, v, rfl, ?_, h.below hb⟩
  exact World.news_of_block (cs := #[v]) (t := 22) (fr := (0, 0)) (heap_alloc_new w _) 0 v rfl
theorem RL.two {w : World} {u v : Value} {a b : List Int} (h : RI w u a) (h2 : RI w v b) : RL (w.alloc (.cells #[u, v] 22)) (.slice (some ⟨w.heap.size, 0, none⟩) 2 2) [a, b] := by
  have hb : Below w.heap.size w (w.alloc (.cells #[u, v] 22)) := (Below.refl _ w).alloc (Nat.le_refl _) _
  refine ⟨_, 2, rfl, Nat.le_refl _, fun i hi => ?_⟩
  have hn := World.news_of_block (cs := #[u, v]) (t := 22) (fr := (0, 0)) (heap_alloc_new w (.cells #[u, v] 22))
  rcases i with _ | _ | i
  · exact ⟨_, u, rfl, hn 0 u rfl, h.below hb⟩
  · exact ⟨_, v, rfl, hn 1 v rfl, h2.below hb⟩
  · simp at hi; omega
theorem RL.three {w : World} {u v x : Value} {a b c : List Int} (h : RI w u a) (h2 : RI w v b) (h3 : RI w x c) : RL (w.alloc (.cells #[u, v, x] 22)) (.slice (some ⟨w.heap.size, 0, none⟩) 3 3) [a, b, c] := by
  have hb : Below w.heap.size w (w.alloc (.cells #[u, v, x] 22)) := (Below.refl _ w).alloc (Nat.le_refl _) _
  refine ⟨_, 3, rfl, Nat.le_refl _, fun i hi => ?_⟩
  have hn := World.news_of_block (cs := #[u, v, x]) (t := 22) (fr := (0, 0)) (heap_alloc_new w (.cells #[u, v, x] 22))
  rcases i with _ | _ | _ | i
  · exact ⟨_, u, rfl, hn 0 u rfl, h.below hb⟩
  · exact ⟨_, v, rfl, hn 1 v rfl, h2.below hb⟩
  · exact ⟨_, x, rfl, hn 2 x rfl, h3.below hb⟩
  · simp at hi; omega

theorem tot_le {ls : List (List Int)} {m : Nat} (h : ∀ l ∈ ls, l.length ≤ m) : ∀ p, p ≤ ls.length → tot ls (fun _ => 0) p ≤ p * m
  | 0, _ => by simp [tot]
  | p + 1, hp => by
    have := tot_le h p (by omega)
    have h2 : (ls.getD p []).length ≤ m := h _ (by simp [List.getD_eq_getElem?_getD, show p < ls.length by omega])
    simp only [tot]; rw [Nat.succ_mul]; omega
/-- Most, of lists not too long. -/
theorem most17 (w : World) (A : Option Addr) (c : Nat) (ls : List (List Int)) (kk : Int) (m : Nat) (hm : m ≤ 8000) (hl : ∀ l ∈ ls, l.length ≤ m) (h10 : ls.length ≤ 11) (hr : RL w (.slice A ls.length c) ls) :
    Calls Try.prog 17 #[.slice A ls.length c, .int .i64 kk] w (ITRet w (mostL ls kk)) := by
  refine (most_any w A c ls kk (by omega) ?_ ?_ hr).mono fun _ _ h => ITRet.of h
  · have := tot_le hl ls.length (Nat.le_refl _)
    have h2 : ls.length * m ≤ 11 * 8000 := Nat.mul_le_mul h10 hm
    omega
  · intro i hi
    have := hl (ls.getD i []) (by simp [List.getD_eq_getElem?_getD, hi])
    omega
theorem refMost18 (w : World) (A : Option Addr) (c : Nat) (ls : List (List Int)) (kk : Int) (hl : ∀ l ∈ ls, l.length ≤ 200) (h10 : ls.length ≤ 10) (hr : RL w (.slice A ls.length c) ls) :
    Calls Try.prog 18 #[.slice A ls.length c, .int .i64 kk] w (LRet w (mostL ls kk)) := by
  obtain ⟨K, hK⟩ := refMost_val ls kk hl h10
  obtain ⟨hc, hC⟩ := hr.c (by omega)
  exact (varveref13_Most.calls K A c ls kk _ w hC hc hK).mono fun _ _ ⟨v, he, hr, hb⟩ => LRet.of ⟨v, he, Kd.own_of_R hr, hb⟩

set_option maxRecDepth 100000 in
set_option maxHeartbeats 1000000 in
theorem from13 (w : World) (A : Option Addr) (c : Nat) (l : List Int) (hl : l.length ≤ 8000) (hA : SL w A c l) : Calls Try.prog 13 #[.slice A l.length c] w (ITRet w (mostL [l] 1)) := by
  have hB : Below w.heap.size w (w.alloc (.cells #[.slice A l.length c] 22)) := (Below.refl _ w).alloc (Nat.le_refl _) _
  have hM := most17 _ _ 1 [l] 1 8000 (by omega) (by simpa using hl) (by simp) (RL.one hA.ri)
  simp only [List.length_singleton] at hM
  go_enter Try.func13, Try.ntmps13
  go_wp2_with (go_at_call 17; (with_reducible refine hM.mono ?_); rintro e w1 ⟨gf, lb, rfl, hT, hb⟩)
  go_ret
  exact ⟨gf, lb, rfl, hT, below_step hB hb⟩
set_option maxRecDepth 100000 in
set_option maxHeartbeats 1000000 in
theorem and21 (w : World) (A B : Option Addr) (c d : Nat) (a b : List Int) (ha : a.length ≤ 8000) (hb : b.length ≤ 8000) (hA : SL w A c a) (hB : SL w B d b) : Calls Try.prog 21 #[.slice A a.length c, .slice B b.length d] w (ITRet w (mostL [a, b] 2)) := by
  have hW : Below w.heap.size w (w.alloc (.cells #[.slice A a.length c, .slice B b.length d] 22)) := (Below.refl _ w).alloc (Nat.le_refl _) _
  have hM := most17 _ _ 2 [a, b] 2 8000 (by omega) (by simp; omega) (by simp) (RL.two hA.ri hB.ri)
  simp only [List.length_cons, List.length_nil, Nat.zero_add, Nat.reduceAdd] at hM
  go_enter Try.func21, Try.ntmps21
  go_wp2_with (go_at_call 17; (with_reducible refine hM.mono ?_); rintro e w1 ⟨gf, lb, rfl, hT, hb⟩)
  go_ret
  exact ⟨gf, lb, rfl, hT, below_step hW hb⟩
set_option maxRecDepth 100000 in
set_option maxHeartbeats 1000000 in
theorem or19 (w : World) (A : Option Addr) (c : Nat) (ls : List (List Int)) (m : Nat) (hm : m ≤ 8000) (hl : ∀ l ∈ ls, l.length ≤ m) (h10 : ls.length ≤ 11) (hr : RL w (.slice A ls.length c) ls) : Calls Try.prog 19 #[.slice A ls.length c] w (ITRet w (mostL ls 1)) := by
  have hM := most17 w A c ls 1 m hm hl h10 hr
  go_enter Try.func19, Try.ntmps19
  go_wp2_with (go_at_call 17; (with_reducible refine hM.mono ?_); rintro e w1 ⟨gf, lb, rfl, hT, hb⟩)
  go_ret
  exact ⟨gf, lb, rfl, hT, hb⟩
end Go.Proofs.Ytdjiaooieiboaaa
