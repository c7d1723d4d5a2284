/- Own text: One, App, AppC, AppD, laid into one text. -/
import Derived.Test.YteafilojjdfllaaRT
import Derived.Test.YteafilojjdfllaaSameW
import Derived.Test.YteafilojjdfllaaTombD
namespace Go.Proofs.Yteafilojjdfllaa
section
open Go Go.RowKit Go.Proofs.YteafilojjdfllaaW.PrintWords Go.Proofs.YteafilojjdfllaaW.PrintLast Go.Proofs.YteafilojjdfllaaW.PrintMore Go.Proofs.Yteafilojjdfllaa.PAll

set_option maxRecDepth 100000 in
set_option maxHeartbeats 8000000 in
theorem one102 (w : World) (x : S37) (A0 : Option Addr) (c0 : Nat) (A2 : Option Addr) (c2 : Nat) (A3 : Option Addr) (c3 : Nat) (hl0 : x.f0.length * 32 ≤ 140737488355328) (h0 : x.f0.length ≤ c0) (g0 : Kd.C k68 w A0 x.f0.length x.f0) (hl2 : x.f2.f0.length * 16 ≤ 140737488355328) (h2 : x.f2.f0.length ≤ c2) (g2 : Kd.C k181 w A2 x.f2.f0.length x.f2.f0) (hl3 : x.f2.f1.length * 8 ≤ 140737488355328) (h3 : x.f2.f1.length ≤ c3) (g3 : Kd.C (Kd.int .u64) w A3 x.f2.f1.length x.f2.f1) :
    Calls Try.prog 102 #[.agg #[.slice A0 x.f0.length c0, .int .i64 x.f1, .slice A2 x.f2.f0.length c2, .slice A3 x.f2.f1.length c3, .int .u64 x.f2.f2.f0, .int .u64 x.f2.f2.f1, .int .u64 x.f2.f2.f2, .int .u64 x.f2.f2.f3]] w (AggPost k37 w x) := by
  obtain ⟨ls, at_, ⟨bs, hs, ⟨u0, u1, u2, u3⟩⟩⟩ := x
  simp only at hl0 h0 g0 hl2 h2 g2 hl3 h3 g3 ⊢
  have hB0 : Below w.heap.size w ((w.alloc (.cells #[.slice A0 ls.length c0, .int .i64 at_, .slice A2 bs.length c2, .slice A3 hs.length c3, .int .u64 u0, .int .u64 u1, .int .u64 u2, .int .u64 u3] 37)).alloc (.cells #[.slice none 0 0, .int .i64 0, .slice none 0 0, .slice none 0 0, .int .u64 0, .int .u64 0, .int .u64 0, .int .u64 0] 37)) := below_alloc (below_alloc (Below.refl _ _) _) _
  have hP0 := blk_new (w.alloc (.cells #[.slice A0 ls.length c0, .int .i64 at_, .slice A2 bs.length c2, .slice A3 hs.length c3, .int .u64 u0, .int .u64 u1, .int .u64 u2, .int .u64 u3] 37)) (.cells #[.slice none 0 0, .int .i64 0, .slice none 0 0, .slice none 0 0, .int .u64 0, .int .u64 0, .int .u64 0, .int .u64 0] 37)
  rw [World.size_alloc] at hP0
  have hX0 : ((w.alloc (.cells #[.slice A0 ls.length c0, .int .i64 at_, .slice A2 bs.length c2, .slice A3 hs.length c3, .int .u64 u0, .int .u64 u1, .int .u64 u2, .int .u64 u3] 37)).alloc (.cells #[.slice none 0 0, .int .i64 0, .slice none 0 0, .slice none 0 0, .int .u64 0, .int .u64 0, .int .u64 0, .int .u64 0] 37)).heap[w.heap.size]? = some (.cells #[.slice A0 ls.length c0, .int .i64 at_, .slice A2 bs.length c2, .slice A3 hs.length c3, .int .u64 u0, .int .u64 u1, .int .u64 u2, .int .u64 u3] 37 (0, 0)) :=
    (Below.heap_alloc _ _ _ (by simp)).trans (blk_new w _)
  have G0 := Lib.hid (Kd.C_below g0 hB0)
  have G2 := Lib.hid g2
  have G3 := Lib.hid g3
  clear g0 g2 g3
  go_enter Try.func102, Try.ntmps102
  go_wp2_with fail
  (with_reducible refine (list153 _ A0 c0 ls hl0 h0 G0.out).mono ?_)
  rintro e w1 ⟨D0, d0, rfl, hL0, hB1⟩
  have hs1 := hB1.size
  simp only [World.size_alloc] at hs1
  have hX1 := (hB1.block w.heap.size (by simp; omega)).trans hX0
  have hP1 := (hB1.block (w.heap.size + 1) (by simp)).trans hP0
  have x0 := blk_cell hX1 0
  have x2 := blk_cell hX1 2
  have x3 := blk_cell hX1 3
  have z0 := blk_frozen hX1 0
  simp only [List.getElem?_toArray, List.getElem?_cons_zero, List.getElem?_cons_succ] at x0 x2 x3
  have hX2 := blk_set hX1 0 (.slice D0 ls.length d0)
  have hP2 := blk_far hP1 (p := ⟨w.heap.size, 0, none⟩) (by simp) (.slice D0 ls.length d0)
  have HB2 := Lib.hid ((below_step hB0 hB1).setCell (p := ⟨w.heap.size, 0, none⟩) (Nat.le_refl _) (.slice D0 ls.length d0))
  have HL0 := Lib.hid hL0
  simp at hX2
  clear hL0 hX0 hP0 hX1 hP1 hB1
  go_wp2_with fail
  obtain ⟨W1, e1⟩ : ∃ W1, w1.setCell ⟨w.heap.size, 0, none⟩ (.slice D0 ls.length d0) = W1 := ⟨_, rfl⟩
  rw [e1] at hX2 hP2 HB2 ⊢
  have c2' := blk_cell hX2 2
  have c3' := blk_cell hX2 3
  simp only [List.getElem?_toArray, List.getElem?_cons_zero, List.getElem?_cons_succ] at c2' c3'
  have hsW : W1.heap.size = w1.heap.size := by rw [← e1]; simp
  have HW1 := Lib.hid (show ∀ b, b ≠ w.heap.size → W1.heap[b]? = w1.heap[b]? from fun b hb => by rw [← e1]; exact heap_set _ _ _ hb)
  clear x0 x2 x3 z0 e1
  go_region_with (first | (go_at_call 154; (with_reducible refine (list154 _ A2 c2 bs hl2 h2 (Kd.C_below G2.out (below_drew HB2.out))).mono ?_); rintro e w5 ⟨D2, d2, rfl, hL2, hB5⟩; have HL2 := Lib.hid hL2; clear hL2; have hX5 := (hB5.block w.heap.size (blk_lt hX2)).trans hX2; have c3'' := (blk_cell hX5 3).trans (show _ = some (Value.slice A3 hs.length c3) from rfl); have HB5 := below_step (below_drew HB2.out) hB5) | (go_at_call 155; (with_reducible refine (list155 _ A3 c3 hs hl3 h3 (Kd.C_below G3.out (by assumption))).mono ?_); rintro e w6 ⟨D3, d3, rfl, hL3, hB6⟩; have HL3 := Lib.hid hL3; clear hL3; have hX6 := (hB6.block w.heap.size (blk_lt (by assumption))).trans hX5; have z2 := blk_frozen hX6 2; have z3 := blk_frozen hX6 3; have y2 := (blk_cell hX6 2).trans (show _ = some (Value.slice A2 bs.length c2) from rfl); have y3 := (blk_cell hX6 3).trans (show _ = some (Value.slice A3 hs.length c3) from rfl)))
  all_goals
    have hs5 := hB5.size
    have hs6 := hB6.size
    simp only [World.size_drew] at hs5
    have hP5 := (hB5.block (w.heap.size + 1) (blk_lt hP2)).trans hP2
    have hP6 := (hB6.block (w.heap.size + 1) (blk_lt hP5)).trans hP5
    have HB6 := Lib.hid (below_step HB5 hB6)
    have hX7 := blk_set (blk_set hX6 2 (.slice D2 bs.length d2)) 3 (.slice D3 hs.length d3)
    have hP7 := blk_far (blk_far hP6 (p := ⟨w.heap.size, 2, none⟩) (by simp) (.slice D2 bs.length d2)) (p := ⟨w.heap.size, 3, none⟩) (by simp) (.slice D3 hs.length d3)
    have hb7 := Lib.hid ((HB6.out.setCell (p := ⟨w.heap.size, 2, none⟩) (Nat.le_refl _) (.slice D2 bs.length d2)).setCell (p := ⟨w.heap.size, 3, none⟩) (Nat.le_refl _) (.slice D3 hs.length d3))
    have hK7 := Lib.hid (show ∀ b, b ≠ w.heap.size → b < w6.heap.size → ((w6.setCell ⟨w.heap.size, 2, none⟩ (.slice D2 bs.length d2)).setCell ⟨w.heap.size, 3, none⟩ (.slice D3 hs.length d3)).heap[b]? = w6.heap[b]? from fun b hb _ => by rw [heap_set _ _ _ hb, heap_set _ _ _ hb])
    have hs7 : ((w6.setCell ⟨w.heap.size, 2, none⟩ (.slice D2 bs.length d2)).setCell ⟨w.heap.size, 3, none⟩ (.slice D3 hs.length d3)).heap.size = w6.heap.size := by simp
    simp at hX7
    obtain ⟨W7, e7⟩ : ∃ W7, (w6.setCell ⟨w.heap.size, 2, none⟩ (.slice D2 bs.length d2)).setCell ⟨w.heap.size, 3, none⟩ (.slice D3 hs.length d3) = W7 := ⟨_, rfl⟩
    rw [e7] at hX7 hP7 hb7 hK7 hs7 ⊢
    have HX6 := Lib.hid hB6
    have HX5 := Lib.hid hB5
    clear e7 hX6 hP6 hP5 hX5 hB6 HB5 hB5 y2 y3 z2 z3 c2' c3' c3'' hX2 hP2
    have y0 := blk_cell hX7 0
    have y1 := blk_cell hX7 1
    have y2 := blk_cell hX7 2
    have y3 := blk_cell hX7 3
    have y4 := blk_cell hX7 4
    have y5 := blk_cell hX7 5
    have y6 := blk_cell hX7 6
    have y7 := blk_cell hX7 7
    have f0 := blk_cell hP7 0
    have f1 := blk_cell hP7 1
    have f2 := blk_cell hP7 2
    have f3 := blk_cell hP7 3
    have f4 := blk_cell hP7 4
    have f5 := blk_cell hP7 5
    have f6 := blk_cell hP7 6
    have f7 := blk_cell hP7 7
    simp only [List.getElem?_toArray, List.getElem?_cons_zero, List.getElem?_cons_succ] at y0 y1 y2 y3 y4 y5 y6 y7 f0 f1 f2 f3 f4 f5 f6 f7
    have q0 := blk_frozen hP7 0
    have q1 := blk_frozen hP7 1
    have q2 := blk_frozen hP7 2
    have q3 := blk_frozen hP7 3
    have q4 := blk_frozen hP7 4
    have q5 := blk_frozen hP7 5
    have q6 := blk_frozen hP7 6
    have q7 := blk_frozen hP7 7
    go_wp2
    have f4' := blk_set (blk_set (blk_set (blk_set (blk_set (blk_set (blk_set (blk_set hP7 0 (.slice D0 ls.length d0)) 1 (.int .i64 at_)) 2 (.slice D2 bs.length d2)) 3 (.slice D3 hs.length d3)) 4 (.int .u64 u0)) 5 (.int .u64 u1)) 6 (.int .u64 u2)) 7 (.int .u64 u3)
    simp at f4'
    refine bodyPost_ret (results_single rfl (.cell (w.heap.size + 1) 37 _ (0, 0) _ rfl f4' Try.underlying37 rfl (by kernel_rfl) .nil)) rfl ⟨_, rfl, fun X hX => ?_, ?_⟩
    · have hfar : ∀ b, w.heap.size + 2 ≤ b → b < w6.heap.size → X.heap[b]? = w6.heap[b]? := fun b h1 h2 => by
        have hb1 : b ≠ w.heap.size := by omega
        have hb2 : b ≠ w.heap.size + 1 := by omega
        rw [hX b ⟨by omega, by simpa [hs7] using h2⟩ (by simpa [hs7] using h2)]
        repeat rw [heap_set _ _ _ hb2]
        exact hK7.out b hb1 h2
      obtain ⟨l0, k0⟩ := HL0.out X (fun b hb => by
        have h3 := hb.1
        simp only [World.size_alloc] at h3
        have h4 := hb.2
        rw [hfar b (by omega) (by omega), HX6.out.block b (by omega), HX5.out.block b (by simp only [World.size_drew]; omega)]
        exact HW1.out b (by omega))
      obtain ⟨l1, k1⟩ := HL2.out X (fun b hb => by
        have h3 := hb.1
        simp only [World.size_drew] at h3
        have h4 := hb.2
        rw [hfar b (by omega) (by omega), HX6.out.block b (by omega)])
      obtain ⟨l2, k2⟩ := HL3.out X (fun b hb => by
        have h3 := hb.1
        have h4 := hb.2
        rw [hfar b (by omega) (by omega)])
      exact k37_mk X ⟨ls, at_, ⟨bs, hs, ⟨u0, u1, u2, u3⟩⟩⟩ l0 k0 l1 k1 l2 k2
    · (repeat refine Below.setCell ?_ (by simp) _); exact hb7.out
end
section
open Go Go.RowKit Go.Proofs.YteafilojjdfllaaW.PrintWords Go.Proofs.YteafilojjdfllaaW.PrintLast Go.Proofs.YteafilojjdfllaaW.PrintMore Go.Proofs.Yteafilojjdfllaa.PAll

/-- is a row covered by one of the tombs above a number? -/
def hitB (l : List S27) (done : Int) (r : S37) : Bool := l.any (fun t => decide (t.f0 > done) && coverB t r)
def applyB (rows : List S37) (l : List S27) (done : Int) : List S37 := rows.filter (fun r => !hitB l done r)
theorem hit_snoc (l : List S27) (x : S27) (done : Int) (r : S37) : hitB (l ++ [x]) done r = (hitB l done r || (decide (x.f0 > done) && coverB x r)) := by simp [hitB]
theorem hit_mem {l : List S27} {t : S27} {done : Int} {r : S37} (h : t ∈ l) (hg : t.f0 > done) (hv : coverB t r = true) : hitB l done r = true := by
  unfold hitB
  rw [List.any_eq_true]
  exact ⟨t, h, by rw [decide_eq_true hg, hv]; rfl⟩
theorem apply_snoc (rows : List S37) (x : S37) (l : List S27) (done : Int) : applyB (rows ++ [x]) l done = applyB rows l done ++ (if hitB l done x then [] else [x]) := by
  unfold applyB
  rw [List.filter_append]
  cases h : hitB l done x <;> simp [h]

set_option maxRecDepth 100000 in
set_option maxHeartbeats 8000000 in
theorem Apply44 (w : World) (rows : List S37) (A : Option Addr) (c : Nat) (l : List S27) (B : Option Addr) (d : Nat) (done : Int) (hr : rows.length ≤ 1000) (hl : l.length ≤ 1000) (hp : ∀ r ∈ rows, RowSz r) (hn : ∀ t ∈ l, nodesM t.f1 ≤ 1000)
    (hC : Kd.C k37 w A rows.length rows) (hD : Kd.C k27 w B l.length l) :
    Calls Try.prog 44 #[.slice A rows.length c, .slice B l.length d, .int .i64 done] w (Made k37 (applyB rows l done) w) := by
  have HC := Lib.hid hC
  have HD := Lib.hid hD
  have HP := Lib.hid hp
  have HN := Lib.hid hn
  clear hC hD hp hn
  go_enter Try.func44, Try.ntmps44
  go_wp2
  go_step3
  go_wp2
  go_step3
  go_wp2
  go_loopw [7, 9, 14] (fun u7 _ u14 wr => ∃ (j : Nat), u14 = .int .i64 j ∧ j ≤ rows.length ∧ Kd.N k37 37 wr w.heap.size (fun k => w.heap.size ≤ k) u7 (applyB (rows.take j) l done) ∧ Below w.heap.size w wr)
    (fun _ _ u14 _ => rows.length - (intOf u14).toNat)
  case atStart => exact ⟨0, rfl, Nat.zero_le _, by simpa [applyB] using Kd.N_nil k37 37 w w.heap.size (fun k => w.heap.size ≤ k), Below.refl _ _⟩
  case round =>
    obtain ⟨j, rfl, hj, hN, hB⟩ := hrel
    by_cases hlt : j < rows.length
    · obtain ⟨ad, A0, c0, A2, c2, A3, c3, rfl, k0, k1, k2, k3, k4, k5, k6, k7, l0, g0, l2, g2, l3, g3⟩ := at_T37 (Kd.C_below HC.out hB) (j : Int) (by omega) (by omega)
      simp only [Int.toNat_natCast, show rd_T37 rows (j : Int) = rows.getD j z37 by simp [rd_T37]] at k0 k1 k2 k3 k4 k5 k6 k7 l0 g0 l2 g2 l3 g3
      have Htake := Lib.hid (take_snoc rows z37 j hlt)
      have Hx := Lib.hid (HP.out _ (getD_mem rows z37 j hlt))
      obtain ⟨x, ex⟩ : ∃ x, rows.getD j z37 = x := ⟨_, rfl⟩
      rw [ex] at k0 k1 k2 k3 k4 k5 k6 k7 l0 g0 l2 g2 l3 g3 Htake Hx
      clear ex
      obtain ⟨z1, z2, z3⟩ := Hx.out
      obtain ⟨Au, cu, rfl⟩ := Kd.N_slice hN
      have HNN := Lib.hid hN
      clear hN
      go_wp2
      obtain ⟨V, eV⟩ : ∃ V, wr.alloc (.cells #[.slice A0 x.f0.length c0, .int .i64 x.f1, .slice A2 x.f2.f0.length c2, .slice A3 x.f2.f1.length c3, .int .u64 x.f2.f2.f0, .int .u64 x.f2.f2.f1, .int .u64 x.f2.f2.f2, .int .u64 x.f2.f2.f3] 37) = V := ⟨_, rfl⟩
      have hR0 : BoxR V wr.heap.size (.slice A0 x.f0.length c0) x.f1 (.slice A2 x.f2.f0.length c2) (.slice A3 x.f2.f1.length c3) x.f2.f2.f0 x.f2.f2.f1 x.f2.f2.f2 x.f2.f2.f3 := eV ▸ blk_new wr _
      have hBV : Below wr.heap.size wr V := eV ▸ below_alloc (Below.refl _ _) _
      have hsV : V.heap.size = wr.heap.size + 1 := by rw [← eV]; simp
      rw [eV]
      clear eV k0 k1 k2 k3 k4 k5 k6 k7
      go_loopw [11, 20] (fun _ u20 wi => ∃ (i : Nat), u20 = .int .i64 i ∧ i ≤ l.length ∧ hitB (l.take i) done x = false ∧ Below V.heap.size V wi)
        (fun _ u20 _ => l.length - (intOf u20).toNat)
      case atStart => exact ⟨0, rfl, Nat.zero_le _, by simp [hitB], Below.refl _ _⟩
      case round =>
        obtain ⟨i, rfl, hi, hno, hBi⟩ := hrel
        have Hno := Lib.hid hno
        clear hno
        have hBw := below_step (below_step hB hBV) hBi
        by_cases hlt2 : i < l.length
        · obtain ⟨ad2, B3, e3, B4, e4, hB_eq, k0, k1, k2, k3, k4, k5, k6, k7, l3', g3', l4', g4'⟩ := at_T27 (Kd.C_below HD.out hBw) (i : Int) (by omega) (by omega)
          subst hB_eq
          simp only [Int.toNat_natCast, show rd_T27 l (i : Int) = l.getD i z27 by simp [rd_T27]] at k0 k1 k2 k3 k4 k5 k6 k7 l3' g3' l4' g4'
          have Htk := Lib.hid (take_snoc l z27 i hlt2)
          have hn1 := HN.out _ (getD_mem l z27 i hlt2)
          have hmem := getD_mem l z27 i hlt2
          obtain ⟨t, et⟩ : ∃ t, l.getD i z27 = t := ⟨_, rfl⟩
          rw [et] at k0 k1 k2 k3 k4 k5 k6 k7 l3' g3' l4' g4' Htk hn1 hmem
          clear et
          have Hmem := Lib.hid hmem
          clear hmem
          have hRi := hR0.below hBi
          obtain ⟨r0, r1, r2, r3, r4, r5, r6, r7⟩ := hRi.all
          have hltR := blk_lt hRi
          by_cases hgt : t.f0 > done
          · have hM : MC wr t.f1 B3 e3 B4 e4 := ⟨l3', g3', l4', g4'⟩
            have hcov := Kd.C_below (Kd.C_below g0 hBV) hBi
            cases hv : coverB t x with
            | true =>
              have HV := Lib.hid hv
              clear hv
              go_wp2_with fail
              (with_reducible refine (Covers37 _ t x B3 e3 B4 e4 A0 c0 A2 x.f2.f0.length c2 A3 x.f2.f1.length c3 true HV.out hn1 (hM.below (below_alloc (Below.refl _ _) _)) (by omega) l0 (Kd.C_alloc hcov _)).mono ?_)
              rintro e w5 ⟨rfl, hb5⟩
              have hb6 := below_step (below_alloc (Below.refl _ _) _) hb5
              have hHit := Lib.hid (show hitB l done x = true from hit_mem Hmem.out hgt HV.out)
              go_wp2
              exact ⟨⟨j + 1, by go_num, by omega, by rw [Htake.out, apply_snoc, hHit.out, if_pos rfl, List.append_nil]; exact Kd.N_below HNN.out (below_step (below_step hBV hBi) hb6), below_step hBw hb6⟩, by simp [intOf]; omega⟩
            | false =>
              have HV := Lib.hid hv
              clear hv
              go_wp2_with fail
              (with_reducible refine (Covers37 _ t x B3 e3 B4 e4 A0 c0 A2 x.f2.f0.length c2 A3 x.f2.f1.length c3 false HV.out hn1 (hM.below (below_alloc (Below.refl _ _) _)) (by omega) l0 (Kd.C_alloc hcov _)).mono ?_)
              rintro e w5 ⟨rfl, hb5⟩
              have hb6 := below_step (below_alloc (Below.refl _ _) _) hb5
              go_wp2_with fail
              go_roundw
              case rel => exact ⟨i + 1, by go_num, by omega, by rw [Htk.out, hit_snoc, Hno.out, HV.out, Bool.and_false, Bool.or_false], below_step hBi hb6⟩
              case measure => simp [intOf]; omega
          · go_wp2_with fail
            go_roundw
            case rel => exact ⟨i + 1, by go_num, by omega, by rw [Htk.out, hit_snoc, Hno.out, decide_eq_false hgt, Bool.false_and, Bool.or_false], below_alloc hBi _⟩
            case measure => simp [intOf]; omega
        · obtain rfl : i = l.length := by omega
          have hHit := Lib.hid (show hitB l done x = false from by have := Hno.out; rwa [List.take_length] at this)
          have hRi := hR0.below hBi
          obtain ⟨r0, r1, r2, r3, r4, r5, r6, r7⟩ := hRi.all
          have q0 := Kd.C_below (Kd.C_below g0 hBV) hBi
          have q2 := Kd.C_below (Kd.C_below g2 hBV) hBi
          have q3 := Kd.C_below (Kd.C_below g3 hBV) hBi
          have HNi := Lib.hid (Kd.N_below HNN.out (below_step hBV hBi))
          have HNlt := Lib.hid (Kd.N_lt HNi.out)
          have hlen : (applyB (rows.take j) l done).length ≤ 1000 := Nat.le_trans (List.length_filter_le _ _) (by simp; omega)
          go_wp2_with (first | (go_at_call 102; (with_reducible refine (one102 _ x A0 c0 A2 c2 A3 c3 (by omega) l0 q0 (by omega) l2 q2 (by omega) l3 q3).mono ?_); rintro e w5 ⟨cs, rfl, hFK, hB5⟩; obtain ⟨D0, d0, D2, d2, D3, d3, rfl, -, -, -, -, -, -⟩ := k37_open (Kd.FK_now hFK); have HFK := Lib.hid hFK; clear hFK) | (at_builtin; refine Kd.N_append k37 (w0 := w) (W := w5) w.heap.size rfl (.tmp 34) (.tmp 37) 44 37 (.agg #[.slice none 0 0, .int .i64 0, .slice none 0 0, .slice none 0 0, .int .u64 0, .int .u64 0, .int .u64 0, .int .u64 0]) 112 rfl Try.underlying44 info37r rfl (by decide) (by decide) (.slice Au (applyB (rows.take j) l done).length cu) (applyB (rows.take j) l done) x [.slice D0 x.f0.length d0, .int .i64 x.f1, .slice D2 x.f2.f0.length d2, .slice D3 x.f2.f1.length d3, .int .u64 x.f2.f2.f0, .int .u64 x.f2.f2.f1, .int .u64 x.f2.f2.f2, .int .u64 x.f2.f2.f3] (fun k => w.heap.size ≤ k) (fun b => wr.heap.size ≤ b ∧ b < w5.heap.size) rfl rfl HFK.out (fun k hk => ⟨by have := hBw.size; omega, fun e => by have := HNlt.out k e.symm; omega⟩) (fun k hk => by have := hBw.size; have := hB5.size; omega) (Kd.N_below HNi.out hB5) (below_step hBw hB5) (by have := hBw.size; have := hB5.size; omega) (by omega) ?_; intro v1 w2 hN2 hB2 hg2 hat2))
          go_roundw
          case rel => exact ⟨j + 1, by go_num, by omega, by rw [Htake.out, apply_snoc, hHit.out, if_neg (by decide)]; exact hN2, hB2⟩
          case measure => simp [intOf]; omega
    · obtain rfl : j = rows.length := by omega
      rw [List.take_length] at hN
      obtain ⟨D, e, rfl, hd, hD⟩ := Kd.N_reads hN
      go_wp2
      rw [Exit.noGoto_ret]
      go_ret
      exact ⟨⟨D, e, rfl, hd, hD⟩, hB⟩
end
section
open Go Go.RowKit Go.Proofs.YteafilojjdfllaaW.PrintWords Go.Proofs.YteafilojjdfllaaW.PrintLast Go.Proofs.YteafilojjdfllaaW.PrintMore Go.Proofs.Yteafilojjdfllaa.PAll

theorem okT.tiny {l : List S27} (h : okT l) : ∀ x ∈ l, tinyP 0 x.f1 := fun t ht => (h t ht).1
theorem okT.nodes {l : List S27} (h : okT l) : ∀ x ∈ l, nodesM x.f1 ≤ 1000 := fun t ht => Nat.le_trans (h t ht).1.2.2.2 (by decide)
theorem apply_sz {rows : List S37} {l : List S27} {done : Int} (hp : ∀ r ∈ rows, RowSz r) : ∀ r ∈ applyB rows l done, RowSz r := fun r h => hp r (List.mem_filter.1 h).1
theorem apply_len {rows : List S37} {l : List S27} {done : Int} : (applyB rows l done).length ≤ rows.length := List.length_filter_le _ _
/-- a list that a call left, further on -/
theorem Made.C {α : Type} {d : Kd α} {xs : List α} {w w' : World} {e : Ending} (h : Made d xs w e w') : ∃ D c, e = .returned (.slice D xs.length c) ∧ xs.length ≤ c ∧ d.C w' D xs.length xs ∧ Below w.heap.size w w' := by
  obtain ⟨⟨D, c, h1, h2, h3⟩, hb⟩ := h
  exact ⟨D, c, h1, h2, h3, hb⟩
end
section
open Go Go.RowKit Go.Proofs.YteafilojjdfllaaW.PrintWords Go.Proofs.YteafilojjdfllaaW.PrintLast Go.Proofs.YteafilojjdfllaaW.PrintMore Go.Proofs.Yteafilojjdfllaa.PAll

theorem apply_apply (rows : List S37) (l : List S27) (i : Nat) (done : Int) : applyB (applyB rows (l.drop i) done) (l.take i) done = applyB rows l done := by
  unfold applyB
  rw [List.filter_filter]
  congr 1
  funext r
  have : hitB l done r = (hitB (l.take i) done r || hitB (l.drop i) done r) := by
    unfold hitB
    rw [← List.any_append, List.take_append_drop]
  rw [this]
  cases hitB (l.take i) done r <;> simp
theorem apply_none {rows : List S37} {l : List S27} {done : Int} (h : ∀ t ∈ l, t.f0 ≤ done) : applyB rows l done = rows := by
  unfold applyB
  rw [List.filter_eq_self]
  intro r _
  have : hitB l done r = false := by
    unfold hitB
    rw [List.any_eq_false]
    intro t ht
    rw [decide_eq_false (by have := h t ht; omega)]
    simp
  rw [this]; rfl
theorem Apply44n (w : World) (rows : List S37) (A : Option Addr) (c : Nat) (l : List S27) (B : Option Addr) (d n : Nat) (done : Int) (hr : rows.length ≤ 1000) (hl : l.length ≤ 1000) (hp : ∀ r ∈ rows, RowSz r) (hn : ∀ t ∈ l, nodesM t.f1 ≤ 1000)
    (hC : Kd.C k37 w A rows.length rows) (hD : Kd.C k27 w B l.length l) (e : n = l.length) :
    Calls Try.prog 44 #[.slice A rows.length c, .slice B n d, .int .i64 done] w (Made k37 (applyB rows l done) w) := by
  subst e
  exact Apply44 w rows A c l B d done hr hl hp hn hC hD
set_option maxRecDepth 100000 in
set_option maxHeartbeats 8000000 in
/-- varvelaw00.Place. -/
theorem place46 (w : World) (a n : Int) (h0 : 0 < n) (h1 : n ≤ 4611686018427387904) :
    Calls Try.prog 46 #[.int .i64 a, .int .i64 n] w fun e w' => ∃ i : Nat, e = .returned (.int .i64 (i : Int)) ∧ (i : Int) < n ∧ Below w.heap.size w w' := by
  have c3b0 : (n == 0) = false := beq_eq_false_iff_ne.mpr (by omega)
  have c3b1 : (n != 0) = true := bne_iff_ne.mpr (by omega)
  have hlt := Int.tmod_lt_of_pos a h0
  have hge : -n < Int.tmod a n := by have := Int.lt_tmod_of_pos a h0; omega
  by_cases c4 : (Int.tmod a n) < 0
  · have hx : wrap64 (Int.tmod a n + n) = Int.tmod a n + n := by unfold wrap64; omega
    obtain ⟨i, hi⟩ : ∃ i : Nat, Int.tmod a n + n = (i : Int) := ⟨(Int.tmod a n + n).toNat, by omega⟩
    go_enter Try.func46, Try.ntmps46
    go_wp2
    go_ret
    exact ⟨i, by simp [*], by omega, by repeat (first | exact Below.refl _ _ | apply below_drew)⟩
  · obtain ⟨i, hi⟩ : ∃ i : Nat, Int.tmod a n = (i : Int) := ⟨(Int.tmod a n).toNat, by omega⟩
    go_enter Try.func46, Try.ntmps46
    go_wp2
    go_ret
    exact ⟨i, by simp [*], by omega, by repeat (first | exact Below.refl _ _ | apply below_drew)⟩
end
end Go.Proofs.Yteafilojjdfllaa
