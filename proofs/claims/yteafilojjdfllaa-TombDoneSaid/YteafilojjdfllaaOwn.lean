/- Own text: match.own and match.Own: a matcher that may be, in new memory. -/
import Derived.Test.YteafilojjdfllaaCopy2
import Derived.Test.YteafilojjdfllaaMatB
namespace Go.Proofs.Yteafilojjdfllaa
open Go Go.RowKit Go.Proofs.YteafilojjdfllaaW.PrintWords Go.Proofs.YteafilojjdfllaaW.PrintLast Go.Proofs.YteafilojjdfllaaW.PrintMore Go.Proofs.Yteafilojjdfllaa.PAll

set_option maxRecDepth 100000 in
set_option maxHeartbeats 8000000 in
theorem own156 : ∀ (N : Nat) (m : S25), nodesM m ≤ N → wideM m → nodesM m ≤ 200 → ∀ (A3 : Option Addr) (c3 : Nat) (A4 : Option Addr) (c4 : Nat) (w : World),
    MC w m A3 c3 A4 c4 →
    Calls Try.prog 156 #[.agg #[.int .i64 m.f0, .string m.f1, .string m.f2, .slice A3 m.f3.length c3, .slice A4 m.f4.length c4]] w (CopyPost w m) := by
  intro N
  induction N with
  | zero => intro m h; rw [nodesM_mk] at h; omega
  | succ N ih =>
    rintro ⟨op, t1, t2, vs, ks⟩ hN hw h200
    have IH := Lib.hid ih
    clear ih
    intro A3 c3 A4 c4 w hM
    obtain ⟨hw1, hw2⟩ := (wideM_mk _).1 hw
    simp only at hw1
    have Hw2 := Lib.hid hw2
    have hks : ks.length ≤ 200 := by have := len_nodes ks; rw [nodesM_mk] at h200; simp only at h200; omega
    have hR3 := Kd.reads_of_C (enc := Value.string) (d := ByteArray.empty) (h1 := fun _ => rfl) hM.2.1
    simp only at hR3
    have hB0 : Below w.heap.size w ((w.alloc (.cells #[.int .i64 op, .string t1, .string t2, .slice A3 vs.length c3, .slice A4 ks.length c4] 25)).alloc (.cells #[.int .i64 0, .string ⟨#[]⟩, .string ⟨#[]⟩, .slice none 0 0, .slice none 0 0] 25)) := below_alloc (below_alloc (Below.refl _ _) _) _
    have HR := Lib.hid (hR3.below hB0)
    have hX0 : BoxM ((w.alloc (.cells #[.int .i64 op, .string t1, .string t2, .slice A3 vs.length c3, .slice A4 ks.length c4] 25)).alloc (.cells #[.int .i64 0, .string ⟨#[]⟩, .string ⟨#[]⟩, .slice none 0 0, .slice none 0 0] 25)) w.heap.size op t1 t2 (.slice A3 vs.length c3) (.slice A4 ks.length c4) := by
      have h1 := blk_new w (.cells #[.int .i64 op, .string t1, .string t2, .slice A3 vs.length c3, .slice A4 ks.length c4] 25)
      exact (Below.heap_alloc _ _ _ (by simp)).trans h1
    have hP0 : ((w.alloc (.cells #[.int .i64 op, .string t1, .string t2, .slice A3 vs.length c3, .slice A4 ks.length c4] 25)).alloc (.cells #[.int .i64 0, .string ⟨#[]⟩, .string ⟨#[]⟩, .slice none 0 0, .slice none 0 0] 25)).heap[w.heap.size + 1]? = some (.cells #[.int .i64 0, .string ⟨#[]⟩, .string ⟨#[]⟩, .slice none 0 0, .slice none 0 0] 25 (0, 0)) := by
      have h1 := blk_new (w.alloc (.cells #[.int .i64 op, .string t1, .string t2, .slice A3 vs.length c3, .slice A4 ks.length c4] 25)) (.cells #[.int .i64 0, .string ⟨#[]⟩, .string ⟨#[]⟩, .slice none 0 0, .slice none 0 0] 25)
      rwa [World.size_alloc] at h1
    have hS0 : ((w.alloc (.cells #[.int .i64 op, .string t1, .string t2, .slice A3 vs.length c3, .slice A4 ks.length c4] 25)).alloc (.cells #[.int .i64 0, .string ⟨#[]⟩, .string ⟨#[]⟩, .slice none 0 0, .slice none 0 0] 25)).heap.size = w.heap.size + 2 := by simp
    have HS := Lib.hid hS0
    clear hw hw2 hR3 hS0
    go_enter Try.func156, Try.ntmps156
    go_wp2_with (at_builtin; refine print_append_row_of (w0 := ((w.alloc (.cells #[.int .i64 op, .string t1, .string t2, .slice A3 vs.length c3, .slice A4 ks.length c4] 25)).alloc (.cells #[.int .i64 0, .string ⟨#[]⟩, .string ⟨#[]⟩, .slice none 0 0, .slice none 0 0] 25))) (W := ((w.alloc (.cells #[.int .i64 op, .string t1, .string t2, .slice A3 vs.length c3, .slice A4 ks.length c4] 25)).alloc (.cells #[.int .i64 0, .string ⟨#[]⟩, .string ⟨#[]⟩, .slice none 0 0, .slice none 0 0] 25))) .string ByteArray.empty (w.heap.size + 2) rfl (.const (.slice none 0 0)) (.tmp 7) 22 9 (.string ByteArray.empty) 16 rfl Try.underlying22 infoS rfl (by decide) (fun _ => rfl) _ [] vs A3 vs.length c3 rfl rfl (own_nil _ _ _ _) HR.out (Below.refl _ _) (Nat.le_of_eq HS.out.symm) ?_ ?_; (simp; omega); intro v1 w1 hown1 hbel1 hg1 hat1; obtain ⟨Av, cv, rfl, hcv, hrv⟩ := own_reads_of_le (enc := Value.string) (d := ByteArray.empty) hown1; have hX1 := hX0.below (HS.out ▸ hbel1); have hP1 := (hbel1.block (w.heap.size + 1) (by omega)).trans hP0; have j3 := hX1.c3; have z3 := blk_frozen hX1 3; have hX2 : BoxM (w1.setCell ⟨w.heap.size, 3, none⟩ (.slice Av vs.length cv)) w.heap.size op t1 t2 (.slice Av vs.length cv) (.slice A4 ks.length c4) := (by simpa [BoxM] using blk_set hX1 3 (.slice Av vs.length cv)); have y4 := hX2.c4)
    simp only [List.nil_append] at hown1 hcv hrv
    have hown2 : (w1.setCell ⟨w.heap.size, 3, none⟩ (.slice Av vs.length cv)).ownsRow (w.heap.size + 2) 9 1 (.slice Av vs.length cv) vs.length (encs Value.string vs) :=
      own_move hown1 (fun k hk => Below.heap_setCell _ _ _ k (by have := (hown1.lt _ hk).1; simp; omega))
    have hP2 : (w1.setCell ⟨w.heap.size, 3, none⟩ (.slice Av vs.length cv)).heap[w.heap.size + 1]? = some (.cells #[.int .i64 0, .string ⟨#[]⟩, .string ⟨#[]⟩, .slice none 0 0, .slice none 0 0] 25 (0, 0)) := (Below.heap_setCell _ _ _ _ (by simp)).trans hP1
    have hB2 : Below w.heap.size w (w1.setCell ⟨w.heap.size, 3, none⟩ (.slice Av vs.length cv)) := (hB0.trans (hbel1.mono (by omega))).setCell (Nat.le_refl _) _
    have hS2 : w.heap.size + 2 ≤ (w1.setCell ⟨w.heap.size, 3, none⟩ (.slice Av vs.length cv)).heap.size := by have := hbel1.size; have := HS.out; simp; omega
    obtain ⟨W3, e3⟩ : ∃ W3, w1.setCell ⟨w.heap.size, 3, none⟩ (.slice Av vs.length cv) = W3 := ⟨_, rfl⟩
    rw [e3] at hX2 hown2 hP2 hB2 hS2 ⊢
    clear e3 hX1 hP1 hg1 hat1 hown1 hcv hrv hbel1 j3 z3 hX0 hP0 hB0 HR HS y4
    go_loopw [3, 5, 13] (fun u3 _ u13 wr => ∃ (j : Nat) (cells : List Value), u13 = .int .i64 j ∧ j ≤ ks.length ∧ BoxM wr w.heap.size op t1 t2 (.slice Av vs.length cv) (.slice A4 ks.length c4) ∧ wr.heap[w.heap.size + 1]? = some (.cells #[.int .i64 0, .string ⟨#[]⟩, .string ⟨#[]⟩, .slice none 0 0, .slice none 0 0] 25 (0, 0)) ∧ wr.ownsRow (w.heap.size + 2) 9 1 (.slice Av vs.length cv) vs.length (encs Value.string vs) ∧ wr.ownsRow (w.heap.size + 2) 25 5 u3 j cells ∧ Reps (KR wr (Part (w.heap.size + 2) wr u3)) 5 (ks.take j) cells ∧ Below w.heap.size w wr ∧ w.heap.size + 2 ≤ wr.heap.size)
      (fun _ _ u13 _ => ks.length - (intOf u13).toNat)
    case atStart => exact ⟨0, [], rfl, Nat.zero_le _, hX2, hP2, hown2, World.ownsRow_nil _ _ _ _, by simpa using Reps.none _ _, hB2, hS2⟩
    case round =>
      clear hX2 hP2 hown2 hB2 hS2
      obtain ⟨j, cells, rfl, hj, hXr, hPr, hO3, hO4, hRr, hBr, hSr⟩ := hrel
      by_cases hlt : j < ks.length
      · obtain ⟨ad, B3, e3, B4, e4, rfl, hMk, k0, k1, k2, k3, k4⟩ := hM.kid j hlt
        simp only at k0 k1 k2 k3 k4 hMk
        have k0 := pw_cell_below hBr k0
        have k1 := pw_cell_below hBr k1
        have k2 := pw_cell_below hBr k2
        have k3 := pw_cell_below hBr k3
        have k4 := pw_cell_below hBr k4
        have hmem : ks.getD j z25 ∈ ks := by simp [List.getD_eq_getElem?_getD, hlt]
        have hsmall := nodes_lt ⟨op, t1, t2, vs, ks⟩ _ hmem
        have Hwk := Lib.hid (wideL_at Hw2.out hlt)
        have Htake := Lib.hid (show ks.take (j + 1) = ks.take j ++ [ks.getD j z25] from by rw [List.take_succ_eq_append_getElem hlt]; simp [List.getD_eq_getElem?_getD, hlt])
        obtain ⟨kid, ek⟩ : ∃ kid, ks.getD j z25 = kid := ⟨_, rfl⟩
        rw [ek] at hMk k0 k1 k2 k3 k4 hsmall Hwk Htake
        clear ek hmem
        obtain ⟨Au, cu, rfl⟩ := own_slice hO4
        have hlt2 : ∀ k, (Value.slice Au j cu).ownBlock = some k → w.heap.size + 2 ≤ k ∧ k < wr.heap.size := fun k hk => hO4.lt _ hk
        have Hlt2 := Lib.hid hlt2
        clear hlt2
        have HBV := Lib.hid (show Below wr.heap.size wr (wr.alloc (.cells #[.int .i64 kid.f0, .string kid.f1, .string kid.f2, .slice B3 kid.f3.length e3, .slice B4 kid.f4.length e4] 25)) from below_alloc (Below.refl _ _) _)
        have HMk := Lib.hid ((hMk.below hBr).below HBV.out)
        clear hMk
        go_wp2_with (first | (go_at_call 156; (with_reducible refine (IH.out kid (by omega) Hwk.out (by omega) B3 e3 B4 e4 _ HMk.out).mono ?_); rintro e w5 ⟨D3, f3, D4, f4, rfl, hMF, hB5'⟩; have HMF := Lib.hid hMF; clear hMF; have hB5 := below_step HBV.out hB5') | (at_builtin; refine print_append_cells (w0 := w5) (W := w5) (w.heap.size + 2) rfl (.tmp 17) (.tmp 20) 23 25 (.agg #[.int .i64 0, .string ⟨#[]⟩, .string ⟨#[]⟩, .slice none 0 0, .slice none 0 0]) 5 88 rfl Try.underlying23 infoM rfl (by decide) (by decide) (.slice Au j cu) j cells [.int .i64 kid.f0, .string kid.f1, .string kid.f2, .slice D3 kid.f3.length f3, .slice D4 kid.f4.length f4] rfl rfl rfl (by intro u hu; simp only [List.mem_cons, List.not_mem_nil, or_false] at hu; rcases hu with rfl | rfl | rfl | rfl | rfl <;> rfl) (pw_own_below hO4 hB5) (Below.refl _ _) (by have := hB5.size; omega) (by omega) ?_; intro v2 w2 hown2 hb2 hg2 hat2))
        go_roundw
        case rel =>
          have hs5 := hB5.size
          have hs5' := hB5'.size
          simp only [World.size_alloc] at hs5'
          have hs2 := hg2.size
          have hX5 := hXr.below hB5
          have hl2 := Hlt2.out
          have hne0 : some w.heap.size ≠ (Value.slice Au j cu).ownBlock := fun e => by have := hl2 _ e.symm; omega
          have hne1 : some (w.heap.size + 1) ≠ (Value.slice Au j cu).ownBlock := fun e => by have := hl2 _ e.symm; omega
          have hXf : BoxM w2 w.heap.size op t1 t2 (.slice Av vs.length cv) (.slice (some ad) ks.length c4) := (hg2.block _ hX5.lt hne0).trans hX5
          have hP5 := (hB5.block (w.heap.size + 1) (by omega)).trans hPr
          have hPf := (hg2.block (w.heap.size + 1) (by omega) hne1).trans hP5
          have hO3f := (pw_own_below hO3 hB5).kept hg2 (own_type_ne (pw_own_below hO3 hB5) (pw_own_below hO4 hB5) (by decide))
          have hfar : ∀ b, b < w5.heap.size → (Value.slice Au j cu).ownBlock ≠ some b → v2.ownBlock ≠ some b := fun b hb hne e => by
            rcases hat2 with h | ⟨b', h, hb'⟩
            · exact hne (h.symm.trans e)
            · rw [h] at e; cases e; omega
          refine ⟨j + 1, cells ++ [.int .i64 kid.f0, .string kid.f1, .string kid.f2, .slice D3 kid.f3.length f3, .slice D4 kid.f4.length f4], by go_num, by omega, hXf, hPf, hO3f, hown2, ?_, (hBr.trans (hB5.mono (by omega))).grown hg2 (by omega) (fun k hk => by have := hl2 k hk; omega), by omega⟩
          rw [Htake.out]
          refine Reps.snoc (hRr.imp_ (fun p c hk => hk.move (fun b hb => ?_))) ⟨D3, f3, D4, f4, rfl, HMF.out.move (fun b hb => ?_)⟩ rfl
          · obtain ⟨b1, b2, b3⟩ := hb
            exact ⟨⟨b1, by omega, hfar b (by omega) b3⟩, (hg2.block b (by omega) (fun e => b3 e.symm)).trans (hB5.block b b2)⟩
          · obtain ⟨b1, b2⟩ := hb
            simp only [World.size_alloc] at b1
            have b3 : (Value.slice Au j cu).ownBlock ≠ some b := fun e => by have := hl2 b e; omega
            exact ⟨⟨by omega, by omega, hfar b b2 b3⟩, hg2.block b b2 (fun e => b3 e.symm)⟩
        case measure => simp [intOf]; omega
      · obtain rfl : j = ks.length := by omega
        rw [List.take_length] at hRr
        obtain ⟨F3, g3, F4, g4, ev3, ev4, hMF⟩ := MF.of_rows (m := ⟨op, t1, t2, vs, ks⟩) (lo' := w.heap.size + 2) hO3 hO4 hRr (Nat.le_refl _)
        simp only at ev3 ev4
        cases ev3
        subst ev4
        have HMF := Lib.hid hMF
        clear hMF hRr hO3 hO4
        have z4 := blk_frozen hXr 4
        have hX4 : BoxM (wr.setCell ⟨w.heap.size, 4, none⟩ (.slice F4 ks.length g4)) w.heap.size op t1 t2 (.slice Av vs.length cv) (.slice F4 ks.length g4) := by
          simpa [BoxM] using blk_set hXr 4 (.slice F4 ks.length g4)
        have y4 := hXr.c4
        have c0 := hX4.c0
        have c1 := hX4.c1
        have c2 := hX4.c2
        have c3' := hX4.c3
        have c4' := hX4.c4
        have hP4 : (wr.setCell ⟨w.heap.size, 4, none⟩ (.slice F4 ks.length g4)).heap[w.heap.size + 1]? = some (.cells #[.int .i64 0, .string ⟨#[]⟩, .string ⟨#[]⟩, .slice none 0 0, .slice none 0 0] 25 (0, 0)) := (Below.heap_setCell _ _ _ _ (by simp)).trans hPr
        have d0 := blk_cell hP4 0
        have d1 := blk_cell hP4 1
        have d2 := blk_cell hP4 2
        have d3 := blk_cell hP4 3
        have d4 := blk_cell hP4 4
        simp only [List.getElem?_toArray, List.getElem?_cons_zero, List.getElem?_cons_succ] at d0 d1 d2 d3 d4
        have q0 := blk_frozen hP4 0
        have q1 := blk_frozen hP4 1
        have q2 := blk_frozen hP4 2
        have q3 := blk_frozen hP4 3
        have q4 := blk_frozen hP4 4
        go_wp2
        have f4 := blk_set (blk_set (blk_set (blk_set (blk_set hP4 0 (.int .i64 op)) 1 (.string t1)) 2 (.string t2)) 3 (.slice Av vs.length cv)) 4 (.slice F4 ks.length g4)
        simp at f4
        have hBf : Below w.heap.size w ((((((wr.setCell ⟨w.heap.size, 4, none⟩ (.slice F4 ks.length g4)).setCell ⟨w.heap.size + 1, 0, none⟩ (.int .i64 op)).setCell ⟨w.heap.size + 1, 1, none⟩ (.string t1)).setCell ⟨w.heap.size + 1, 2, none⟩ (.string t2)).setCell ⟨w.heap.size + 1, 3, none⟩ (.slice Av vs.length cv)).setCell ⟨w.heap.size + 1, 4, none⟩ (.slice F4 ks.length g4)) :=
          (((((hBr.setCell (by simp) _).setCell (by simp) _).setCell (by simp) _).setCell (by simp) _).setCell (by simp) _).setCell (by simp) _
        refine bodyPost_ret (results_single rfl (.cell (w.heap.size + 1) 25 _ (0, 0) _ rfl f4 Try.underlying25 rfl (by kernel_rfl) .nil)) rfl ⟨Av, cv, F4, g4, rfl, HMF.out.move (fun b hb => ⟨⟨by omega, by simpa using hb.2⟩, ?_⟩), hBf⟩
        have hb1 : b ≠ w.heap.size := by omega
        have hb2 : b ≠ w.heap.size + 1 := by omega
        rw [Below.heap_setCell _ _ _ b (by simpa using hb2), Below.heap_setCell _ _ _ b (by simpa using hb2), Below.heap_setCell _ _ _ b (by simpa using hb2), Below.heap_setCell _ _ _ b (by simpa using hb2), Below.heap_setCell _ _ _ b (by simpa using hb2), Below.heap_setCell _ _ _ b (by simpa using hb1)]

set_option maxRecDepth 100000 in
set_option maxHeartbeats 4000000 in
/-- match.Own, of a matcher that may be. -/
theorem Own105 (w : World) (m : S25) (A3 : Option Addr) (c3 : Nat) (A4 : Option Addr) (c4 : Nat) (ht : tinyP 0 m) (hc : chkB m = true) (hM : MC w m A3 c3 A4 c4) :
    Calls Try.prog 105 #[.agg #[.int .i64 m.f0, .string m.f1, .string m.f2, .slice A3 m.f3.length c3, .slice A4 m.f4.length c4]] w (CopyPost w m) := by
  obtain ⟨h1, h2, h3, h4⟩ := ht
  have hB0 : Below w.heap.size w ((w.alloc (.cells #[.int .i64 m.f0, .string m.f1, .string m.f2, .slice A3 m.f3.length c3, .slice A4 m.f4.length c4] 25)).alloc (.cells #[.int .i64 0, .string ⟨#[]⟩, .string ⟨#[]⟩, .slice none 0 0, .slice none 0 0] 25)) := below_alloc (below_alloc (Below.refl _ _) _) _
  have hX0 : BoxM ((w.alloc (.cells #[.int .i64 m.f0, .string m.f1, .string m.f2, .slice A3 m.f3.length c3, .slice A4 m.f4.length c4] 25)).alloc (.cells #[.int .i64 0, .string ⟨#[]⟩, .string ⟨#[]⟩, .slice none 0 0, .slice none 0 0] 25)) w.heap.size m.f0 m.f1 m.f2 (.slice A3 m.f3.length c3) (.slice A4 m.f4.length c4) :=
    (Below.heap_alloc _ _ _ (by simp)).trans (blk_new w _)
  have hP0 := blk_new (w.alloc (.cells #[.int .i64 m.f0, .string m.f1, .string m.f2, .slice A3 m.f3.length c3, .slice A4 m.f4.length c4] 25)) (.cells #[.int .i64 0, .string ⟨#[]⟩, .string ⟨#[]⟩, .slice none 0 0, .slice none 0 0] 25)
  rw [World.size_alloc] at hP0
  have HC := Lib.hid hc
  have HW := Lib.hid (And.intro h3 h4)
  have HM := Lib.hid hM
  clear hc h1 h2 h3 h4 hM
  go_enter Try.func105, Try.ntmps105
  go_wp2_with fail
  (with_reducible refine (check53v _ m A3 c3 A4 c4 true HC.out (HM.out.below hB0)).mono ?_)
  rintro e w1 ⟨rfl, hb1⟩
  have hX1 := hX0.below hb1
  have hP1 := (hb1.block (w.heap.size + 1) (by simp)).trans hP0
  have hs1 := hb1.size
  simp only [World.size_alloc] at hs1
  have HB1 := Lib.hid (below_step hB0 hb1)
  have x0 := hX1.c0
  have x1 := hX1.c1
  have x2 := hX1.c2
  have x3 := hX1.c3
  have x4 := hX1.c4
  clear hB0 hX0 hP0 hb1
  go_wp2_with fail
  (with_reducible refine (own156 (nodesM m) m (Nat.le_refl _) HW.out.1 HW.out.2 A3 c3 A4 c4 _ (HM.out.below HB1.out)).mono ?_)
  rintro e w5 ⟨D3, f3, D4, f4, rfl, hMF, hB5⟩
  have hs5 := hB5.size
  have hP5 := (hB5.block (w.heap.size + 1) (by omega)).trans hP1
  have HMF := Lib.hid hMF
  have HB5 := Lib.hid (below_step HB1.out hB5)
  clear hMF hB5 hP1 x0 x1 x2 x3 x4
  have d0 := blk_cell hP5 0
  have d1 := blk_cell hP5 1
  have d2 := blk_cell hP5 2
  have d3 := blk_cell hP5 3
  have d4 := blk_cell hP5 4
  simp only [List.getElem?_toArray, List.getElem?_cons_zero, List.getElem?_cons_succ] at d0 d1 d2 d3 d4
  have q0 := blk_frozen hP5 0
  have q1 := blk_frozen hP5 1
  have q2 := blk_frozen hP5 2
  have q3 := blk_frozen hP5 3
  have q4 := blk_frozen hP5 4
  go_wp2
  have f4' := blk_set (blk_set (blk_set (blk_set (blk_set hP5 0 (.int .i64 m.f0)) 1 (.string m.f1)) 2 (.string m.f2)) 3 (.slice D3 m.f3.length f3)) 4 (.slice D4 m.f4.length f4)
  simp at f4'
  refine bodyPost_ret (results_single rfl (.cell (w.heap.size + 1) 25 _ (0, 0) _ rfl f4' Try.underlying25 rfl (by kernel_rfl) .nil)) rfl ⟨D3, f3, D4, f4, rfl, HMF.out.move (fun b hb => ⟨⟨by have := hb.1; omega, by simpa using hb.2⟩, ?_⟩), ?_⟩
  · have hb2 : b ≠ w.heap.size + 1 := by have := hb.1; omega
    rw [Below.heap_setCell _ _ _ b (by simpa using hb2), Below.heap_setCell _ _ _ b (by simpa using hb2), Below.heap_setCell _ _ _ b (by simpa using hb2), Below.heap_setCell _ _ _ b (by simpa using hb2), Below.heap_setCell _ _ _ b (by simpa using hb2)]
  · exact ((((HB5.out.setCell (by simp) _).setCell (by simp) _).setCell (by simp) _).setCell (by simp) _).setCell (by simp) _

end Go.Proofs.Yteafilojjdfllaa
