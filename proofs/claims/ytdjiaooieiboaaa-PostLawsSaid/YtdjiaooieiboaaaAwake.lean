/- Own text: the document's examples. -/
import Derived.Test.YtdjiaooieiboaaaIterI
namespace Go.Proofs.Ytdjiaooieiboaaa
open Go Go.RowKit Go.Shelf Go.Proofs.YtdjiaooieiboaaaW.PrintWords Go.Proofs.Ytdjiaooieiboaaa.PAll

theorem SL.lit (w : World) (l : List Int) (h : l.length ≤ 1000) : SL (w.alloc (.cells (l.map (Value.int .i64)).toArray 3)) (some ⟨w.heap.size, 0, none⟩) l.length l := by
  refine ⟨Nat.le_refl _, rfl, by omega, fun hp => ⟨_, rfl, fun j hj => ?_⟩⟩
  exact World.news_of_block (cs := (l.map (Value.int .i64)).toArray) (t := 3) (fr := (0, 0)) (heap_alloc_new w _) j _ (by simp [hj, List.getD_eq_getElem?_getD])

theorem ex_and : mostL [[1, 3, 5], [3, 4, 5]] 2 = [3, 5] := by decide +kernel
theorem ex_most : mostL [[1, 2], [2, 3], [2]] 2 = [2] := by decide +kernel
theorem ex_from : (mostL [[1, 2]] 1).take 1 = [1] := by decide +kernel

theorem same_true (w : World) (A B : Option Addr) (c d n : Nat) (l : List Int) (hn : l.length = n) (hl : n ≤ 100000) (hA : SL w A c l) (hB : SL w B d l) :
    Calls Try.prog 11 #[.slice A n c, .slice B n d] w fun e w' => e = .returned (.bool true) ∧ Below w.heap.size w w' := by
  subst hn
  exact (same_any w A B c d l l hl hA hB).mono fun _ _ h => ⟨by rw [h.1]; simp, h.2⟩

theorem lit_most (w : World) : Calls Try.prog 17 #[.slice (some ⟨w.heap.size + 1 + 1 + 1, 0, none⟩) 3 3, .int .i64 2]
    ((((w.alloc (.cells #[.int .i64 1, .int .i64 2] 3)).alloc (.cells #[.int .i64 2, .int .i64 3] 3)).alloc (.cells #[.int .i64 2] 3)).alloc (.cells #[.slice (some ⟨w.heap.size, 0, none⟩) 2 2, .slice (some ⟨w.heap.size + 1, 0, none⟩) 2 2, .slice (some ⟨w.heap.size + 1 + 1, 0, none⟩) 1 1] 22))
    (fun e w' => ∃ gf lb, e = .returned (.func (.func gf) #[] lb) ∧ IT w' gf lb [2] ∧ Below w.heap.size w w') := by
  obtain ⟨W1, e1⟩ : ∃ W1, w.alloc (.cells #[.int .i64 1, .int .i64 2] 3) = W1 := ⟨_, rfl⟩
  obtain ⟨W2, e2⟩ : ∃ W2, W1.alloc (.cells #[.int .i64 2, .int .i64 3] 3) = W2 := ⟨_, rfl⟩
  obtain ⟨W3, e3⟩ : ∃ W3, W2.alloc (.cells #[.int .i64 2] 3) = W3 := ⟨_, rfl⟩
  have s1 : W1.heap.size = w.heap.size + 1 := by rw [← e1]; simp
  have s2 : W2.heap.size = w.heap.size + 1 + 1 := by rw [← e2]; simp [s1]
  have s3 : W3.heap.size = w.heap.size + 1 + 1 + 1 := by rw [← e3]; simp [s2]
  have b1 : Below w.heap.size w W1 := by rw [← e1]; exact (Below.refl _ _).alloc (Nat.le_refl _) _
  have b2 : Below W1.heap.size W1 W2 := by rw [← e2]; exact (Below.refl _ _).alloc (Nat.le_refl _) _
  have b3 : Below W2.heap.size W2 W3 := by rw [← e3]; exact (Below.refl _ _).alloc (Nat.le_refl _) _
  have h1 := SL.lit w [1, 2] (by decide)
  have h2 := SL.lit W1 [2, 3] (by decide)
  have h3 := SL.lit W2 [2] (by decide)
  simp only [List.map_cons, List.map_nil, List.length_cons, List.length_nil, Nat.zero_add, Nat.reduceAdd] at h1 h2 h3
  rw [e1] at h1
  rw [e2, s1] at h2
  rw [e3, s2] at h3
  have hM := most17 _ _ 3 [[1, 2], [2, 3], [2]] 2 8000 (by omega) (by simp) (by simp) (RL.three ((h1.below b2).below b3).ri (h2.below b3).ri h3.ri)
  rw [ex_most] at hM
  simp only [List.length_cons, List.length_nil, Nat.zero_add, Nat.reduceAdd, s3] at hM
  rw [e1, e2, e3]
  refine hM.mono ?_
  rintro e w' ⟨gf, lb, rfl, hT, hb⟩
  exact ⟨gf, lb, rfl, hT, below_step (below_alloc (below_step (below_step b1 b2) b3) _) hb⟩
theorem lit_from (w : World) : Calls Try.prog 13 #[.slice (some ⟨w.heap.size, 0, none⟩) 2 2] (w.alloc (.cells #[.int .i64 1, .int .i64 2] 3))
    (fun e w' => ∃ gf lb, e = .returned (.func (.func gf) #[] lb) ∧ IT w' gf lb (mostL [[1, 2]] 1) ∧ Below w.heap.size w w') := by
  have h1 := SL.lit w [1, 2] (by decide)
  simp only [List.map_cons, List.map_nil, List.length_cons, List.length_nil, Nat.zero_add, Nat.reduceAdd] at h1
  have hM := from13 _ _ 2 [1, 2] (by decide) h1
  simp only [List.length_cons, List.length_nil, Nat.zero_add, Nat.reduceAdd] at hM
  refine hM.mono ?_
  rintro e w' ⟨gf, lb, rfl, hT, hb⟩
  exact ⟨gf, lb, rfl, hT, below_step (below_alloc (Below.refl _ _) _) hb⟩
theorem lit_same (w w0 : World) (A : Option Addr) (c : Nat) (h : SL w0 A c [3, 5]) (hb : Below w0.heap.size w0 w) : Calls Try.prog 11 #[.slice A 2 c, .slice (some ⟨w.heap.size, 0, none⟩) 2 2] (w.alloc (.cells #[.int .i64 3, .int .i64 5] 3))
    (fun e w' => e = .returned (.bool true) ∧ Below w.heap.size w w') := by
  have h1 := SL.lit w [3, 5] (by decide)
  simp only [List.map_cons, List.map_nil, List.length_cons, List.length_nil, Nat.zero_add, Nat.reduceAdd] at h1
  have := same_true _ A _ c 2 2 [3, 5] rfl (by decide) (h.below (below_alloc hb _)) h1
  exact this.mono fun _ _ h => ⟨h.1, below_step (below_alloc (Below.refl _ _) _) h.2⟩
theorem lit_same1 (w w0 : World) (A : Option Addr) (c : Nat) (h : SL w0 A c [2]) (hb : Below w0.heap.size w0 w) : Calls Try.prog 11 #[.slice A 1 c, .slice (some ⟨w.heap.size, 0, none⟩) 1 1] (w.alloc (.cells #[.int .i64 2] 3))
    (fun e w' => e = .returned (.bool true) ∧ Below w.heap.size w w') := by
  have h1 := SL.lit w [2] (by decide)
  simp only [List.map_cons, List.map_nil, List.length_cons, List.length_nil, Nat.zero_add] at h1
  have := same_true _ A _ c 1 1 [2] rfl (by decide) (h.below (below_alloc hb _)) h1
  exact this.mono fun _ _ h => ⟨h.1, below_step (below_alloc (Below.refl _ _) _) h.2⟩

set_option maxRecDepth 100000 in
set_option maxHeartbeats 4000000 in
theorem awake10 (w : World) : Calls Try.prog 10 #[] w fun e w' => e = .returned (.bool true) ∧ Below w.heap.size w w' := by
  have h1 := SL.lit w [1, 3, 5] (by decide)
  have h2 := SL.lit (w.alloc (.cells #[.int .i64 1, .int .i64 3, .int .i64 5] 3)) [3, 4, 5] (by decide)
  have hb1 : Below w.heap.size w (w.alloc (.cells #[.int .i64 1, .int .i64 3, .int .i64 5] 3)) := (Below.refl _ w).alloc (Nat.le_refl _) _
  simp only [List.map_cons, List.map_nil, List.length_cons, List.length_nil, Nat.zero_add, Nat.reduceAdd, World.size_alloc] at h1 h2
  have h1' := h1.below ((Below.refl _ (w.alloc (.cells #[.int .i64 1, .int .i64 3, .int .i64 5] 3))).alloc (Nat.le_refl _) (.cells #[.int .i64 3, .int .i64 4, .int .i64 5] 3))
  have hA := and21 _ _ _ 3 3 [1, 3, 5] [3, 4, 5] (by decide) (by decide) h1' h2
  have hb2 : Below w.heap.size w ((w.alloc (.cells #[.int .i64 1, .int .i64 3, .int .i64 5] 3)).alloc (.cells #[.int .i64 3, .int .i64 4, .int .i64 5] 3)) := hb1.alloc (by simp) _
  rw [ex_and] at hA
  simp only [List.length_cons, List.length_nil, Nat.zero_add, Nat.reduceAdd] at hA
  go_enter Try.func10, Try.ntmps10
  go_wp2_with (first | (go_at_call 21; (with_reducible refine hA.mono ?_); rintro e w1 ⟨gf, lb, rfl, hT, hc1⟩; have hc1' := below_step hb2 hc1) | (go_at_call 25; (with_reducible refine (collect25 w1 gf lb [3, 5] 9 hT).mono ?_); rintro e w2 ⟨A2, c2, rfl, hs2, hc2⟩; have hc2' := below_step hc1' hc2; simp only [show ([3, 5] : List Int).take (9 : Int).toNat = [3, 5] from rfl, List.length_cons, List.length_nil, Nat.zero_add, Nat.reduceAdd] at hs2 ⊢) | (go_at_call 17; (with_reducible refine (lit_most w2).mono ?_); rintro e w3 ⟨gf3, lb3, rfl, hT3, hc3⟩; have hc3' := below_step hc2' hc3) | (go_at_call 25; (with_reducible refine (collect25 w3 gf3 lb3 [2] 9 hT3).mono ?_); rintro e w4 ⟨A4, c4, rfl, hs4, hc4⟩; have hc4' := below_step hc3' hc4; simp only [show ([2] : List Int).take (9 : Int).toNat = [2] from rfl, List.length_cons, List.length_nil, Nat.zero_add] at hs4 ⊢) | (go_at_call 11; (with_reducible refine (lit_same w4 w2 A2 c2 hs2 (below_step hc3 hc4)).mono ?_); rintro e w5 ⟨rfl, hc5⟩; have hc5' := below_step hc4' hc5) | (go_at_call 11; (with_reducible refine (lit_same1 w5 w4 A4 c4 hs4 hc5).mono ?_); rintro e w6 ⟨rfl, hc6⟩; have hc6' := below_step hc5' hc6) | (go_at_call 13; (with_reducible refine (lit_from w6).mono ?_); rintro e w7 ⟨gf7, lb7, rfl, hT7, hc7⟩; have hc7' := below_step hc6' hc7) | (go_at_call 12; (with_reducible refine (list12 w7 gf7 lb7 _ 1 hT7).mono ?_); rintro e w8 ⟨A8, c8, rfl, hs8, hc8⟩; have hc8' := below_step hc7' hc8; simp only [show (1 : Int).toNat = 1 from rfl, ex_from, List.length_cons, List.length_nil, Nat.zero_add] at hs8 ⊢) | fail)
  go_ret
  exact ⟨rfl, hc8'⟩
end Go.Proofs.Ytdjiaooieiboaaa
