/- Own text: copies of tombs and of rows in new memory. -/
import Derived.Test.YteafilojjdfllaaTombB
import Derived.Test.YteafilojjdfllaaLists
namespace Go.Proofs.Yteafilojjdfllaa
open Go Go.RowKit Go.Proofs.YteafilojjdfllaaW.PrintWords Go.Proofs.YteafilojjdfllaaW.PrintLast Go.Proofs.YteafilojjdfllaaW.PrintMore Go.Proofs.Yteafilojjdfllaa.PAll
set_option linter.unusedVariables false
set_option linter.unusedSimpArgs false

/-- a struct in new memory -/
def AggPost {α : Type} (d : Kd α) (w : World) (x : α) (e : Ending) (w' : World) : Prop :=
  ∃ cs, e = .returned (.agg ⟨cs⟩) ∧ Kd.FK d w' (fun b => w.heap.size ≤ b ∧ b < w'.heap.size) x cs ∧ Below w.heap.size w w'

/-- several cells of a block are set -/
def sets (W : World) (g : Nat) (l : List (Nat × Value)) : World := l.foldl (fun W p => W.setCell ⟨g, p.1, none⟩ p.2) W
theorem heap_set (W : World) (i : Nat) (u : Value) {b g : Nat} (h : b ≠ g) : (W.setCell ⟨g, i, none⟩ u).heap[b]? = W.heap[b]? := Below.heap_setCell W ⟨g, i, none⟩ u b h
theorem heap_sets (g : Nat) : ∀ (l : List (Nat × Value)) (W : World) (b : Nat), b ≠ g → (sets W g l).heap[b]? = W.heap[b]?
  | [], _, _, _ => rfl
  | p :: l, W, b, h => (heap_sets g l (W.setCell ⟨g, p.1, none⟩ p.2) b h).trans (Below.heap_setCell W ⟨g, p.1, none⟩ p.2 b h)

set_option maxRecDepth 100000 in
set_option maxHeartbeats 4000000 in
/-- varvelaw00.Tomb. -/
theorem tomb34 (w : World) (s a b : Int) (m : S25) (A3 : Option Addr) (c3 : Nat) (A4 : Option Addr) (c4 : Nat) (ht : tinyP 0 m) (hM : MC w m A3 c3 A4 c4) :
    Calls Try.prog 34 #[.agg #[.int .i64 s, .int .i64 m.f0, .string m.f1, .string m.f2, .slice A3 m.f3.length c3, .slice A4 m.f4.length c4, .int .i64 a, .int .i64 b]] w (AggPost k27 w ⟨s, m, a, b⟩) := by
  have hB0 : Below w.heap.size w ((w.alloc (.cells #[.int .i64 s, .int .i64 m.f0, .string m.f1, .string m.f2, .slice A3 m.f3.length c3, .slice A4 m.f4.length c4, .int .i64 a, .int .i64 b] 27)).alloc (.cells #[.int .i64 0, .int .i64 0, .string ⟨#[]⟩, .string ⟨#[]⟩, .slice none 0 0, .slice none 0 0, .int .i64 0, .int .i64 0] 27)) := below_alloc (below_alloc (Below.refl _ _) _) _
  have hP0 := blk_new (w.alloc (.cells #[.int .i64 s, .int .i64 m.f0, .string m.f1, .string m.f2, .slice A3 m.f3.length c3, .slice A4 m.f4.length c4, .int .i64 a, .int .i64 b] 27)) (.cells #[.int .i64 0, .int .i64 0, .string ⟨#[]⟩, .string ⟨#[]⟩, .slice none 0 0, .slice none 0 0, .int .i64 0, .int .i64 0] 27)
  rw [World.size_alloc] at hP0
  have hX0 : BoxT ((w.alloc (.cells #[.int .i64 s, .int .i64 m.f0, .string m.f1, .string m.f2, .slice A3 m.f3.length c3, .slice A4 m.f4.length c4, .int .i64 a, .int .i64 b] 27)).alloc (.cells #[.int .i64 0, .int .i64 0, .string ⟨#[]⟩, .string ⟨#[]⟩, .slice none 0 0, .slice none 0 0, .int .i64 0, .int .i64 0] 27)) w.heap.size s m.f0 m.f1 m.f2 (.slice A3 m.f3.length c3) (.slice A4 m.f4.length c4) a b :=
    (Below.heap_alloc _ _ _ (by simp)).trans (blk_new w _)
  have hM0 := hM.below hB0
  go_enter Try.func34, Try.ntmps34
  go_wp2_with fail
  (with_reducible refine (matcher54 _ m A3 c3 A4 c4 ht hM0).mono ?_)
  rintro e w5 ⟨D3, f3, D4, f4, rfl, hMF, hB5⟩
  have hs5 := hB5.size
  simp only [World.size_alloc] at hs5
  have hP5 := (hB5.block (w.heap.size + 1) (by simp)).trans hP0
  have hX5 := hX0.below hB5
  have HMF := Lib.hid hMF
  have HB5 := Lib.hid (below_step hB0 hB5)
  obtain ⟨x0, x1, x2, x3, x4, x5, x6, x7⟩ := hX5.all
  have z1 := blk_frozen hX5 1
  have z2 := blk_frozen hX5 2
  have z3 := blk_frozen hX5 3
  have z4 := blk_frozen hX5 4
  have z5 := blk_frozen hX5 5
  have d0 := blk_cell hP5 0
  have d1 := blk_cell hP5 1
  have d2 := blk_cell hP5 2
  have d3 := blk_cell hP5 3
  have d4 := blk_cell hP5 4
  have d5 := blk_cell hP5 5
  have d6 := blk_cell hP5 6
  have d7 := blk_cell hP5 7
  simp only [List.getElem?_toArray, List.getElem?_cons_zero, List.getElem?_cons_succ] at d0 d1 d2 d3 d4 d5 d6 d7
  have q0 := blk_frozen hP5 0
  have q1 := blk_frozen hP5 1
  have q2 := blk_frozen hP5 2
  have q3 := blk_frozen hP5 3
  have q4 := blk_frozen hP5 4
  have q5 := blk_frozen hP5 5
  have q6 := blk_frozen hP5 6
  have q7 := blk_frozen hP5 7
  clear hMF hB5 hP0 hX0 hB0 hM0
  go_wp2
  have f4' := blk_set (blk_set (blk_set (blk_set (blk_set (blk_set (blk_set (blk_set ((heap_sets w.heap.size [(1, .int .i64 m.f0), (2, .string m.f1), (3, .string m.f2), (4, .slice D3 m.f3.length f3), (5, .slice D4 m.f4.length f4)] w5 (w.heap.size + 1) (by omega)).trans hP5) 0 (.int .i64 s)) 1 (.int .i64 m.f0)) 2 (.string m.f1)) 3 (.string m.f2)) 4 (.slice D3 m.f3.length f3)) 5 (.slice D4 m.f4.length f4)) 6 (.int .i64 a)) 7 (.int .i64 b)
  simp [sets] at f4'
  refine bodyPost_ret (results_single rfl (.cell (w.heap.size + 1) 27 _ (0, 0) _ rfl f4' Try.underlying27 rfl (by kernel_rfl) .nil)) rfl ⟨_, rfl, fun X hX => ?_, ?_⟩
  · obtain ⟨l4, g4, l5, g5⟩ := HMF.out X (fun b hb => by
      rw [hX b ⟨by have := hb.1; simp at this; omega, by simpa using hb.2⟩ (by simpa using hb.2)]
      have hb1 : b ≠ w.heap.size := by have := hb.1; simp at this; omega
      have hb2 : b ≠ w.heap.size + 1 := by have := hb.1; simp at this; omega
      repeat rw [heap_set _ _ _ hb2]
      repeat rw [heap_set _ _ _ hb1])
    exact k27_mk X ⟨s, m, a, b⟩ l4 g4 l5 g5
  · (repeat refine Below.setCell ?_ (by simp) _); exact HB5.out

set_option maxRecDepth 100000 in
set_option maxHeartbeats 2000000 in
/-- varvelaw00.Sketch. -/
theorem sketch100 (w : World) (x : S35) (A0 : Option Addr) (c0 : Nat) (A1 : Option Addr) (c1 : Nat) (hl0 : x.f0.length * 16 ≤ 140737488355328) (h0 : x.f0.length ≤ c0) (g0 : Kd.C k181 w A0 x.f0.length x.f0) (hl1 : x.f1.length * 8 ≤ 140737488355328) (h1 : x.f1.length ≤ c1) (g1 : Kd.C (Kd.int .u64) w A1 x.f1.length x.f1) :
    Calls Try.prog 100 #[.agg #[.slice A0 x.f0.length c0, .slice A1 x.f1.length c1, .int .u64 x.f2.f0, .int .u64 x.f2.f1, .int .u64 x.f2.f2, .int .u64 x.f2.f3]] w (AggPost k35 w x) := by
  obtain ⟨bs, hs, ⟨u0, u1, u2, u3⟩⟩ := x
  simp only at hl0 h0 g0 hl1 h1 g1 ⊢
  have hB0 : Below w.heap.size w ((w.alloc (.cells #[.slice A0 bs.length c0, .slice A1 hs.length c1, .int .u64 u0, .int .u64 u1, .int .u64 u2, .int .u64 u3] 35)).alloc (.cells #[.slice none 0 0, .slice none 0 0, .int .u64 0, .int .u64 0, .int .u64 0, .int .u64 0] 35)) := below_alloc (below_alloc (Below.refl _ _) _) _
  have hP0 := blk_new (w.alloc (.cells #[.slice A0 bs.length c0, .slice A1 hs.length c1, .int .u64 u0, .int .u64 u1, .int .u64 u2, .int .u64 u3] 35)) (.cells #[.slice none 0 0, .slice none 0 0, .int .u64 0, .int .u64 0, .int .u64 0, .int .u64 0] 35)
  rw [World.size_alloc] at hP0
  have hX0 : ((w.alloc (.cells #[.slice A0 bs.length c0, .slice A1 hs.length c1, .int .u64 u0, .int .u64 u1, .int .u64 u2, .int .u64 u3] 35)).alloc (.cells #[.slice none 0 0, .slice none 0 0, .int .u64 0, .int .u64 0, .int .u64 0, .int .u64 0] 35)).heap[w.heap.size]? = some (.cells #[.slice A0 bs.length c0, .slice A1 hs.length c1, .int .u64 u0, .int .u64 u1, .int .u64 u2, .int .u64 u3] 35 (0, 0)) :=
    (Below.heap_alloc _ _ _ (by simp)).trans (blk_new w _)
  have G0 := Lib.hid (Kd.C_below g0 hB0)
  have G1 := Lib.hid g1
  clear g0 g1
  go_enter Try.func100, Try.ntmps100
  go_wp2_with fail
  (with_reducible refine (list150 _ A0 c0 bs hl0 h0 G0.out).mono ?_)
  rintro e w1 ⟨D0, d0, rfl, hL0, hB1⟩
  have hs1 := hB1.size
  simp only [World.size_alloc] at hs1
  have hX1 := (hB1.block w.heap.size (by simp; omega)).trans hX0
  have hP1 := (hB1.block (w.heap.size + 1) (by simp)).trans hP0
  have x0 := blk_cell hX1 0
  have x1 := blk_cell hX1 1
  have z0 := blk_frozen hX1 0
  simp only [List.getElem?_toArray, List.getElem?_cons_zero, List.getElem?_cons_succ] at x0 x1
  have hX2 := blk_set hX1 0 (.slice D0 bs.length d0)
  have hP2 := blk_far hP1 (p := ⟨w.heap.size, 0, none⟩) (by simp) (.slice D0 bs.length d0)
  have HB2 := Lib.hid ((below_step hB0 hB1).setCell (p := ⟨w.heap.size, 0, none⟩) (Nat.le_refl _) (.slice D0 bs.length d0))
  have HL0 := Lib.hid hL0
  simp at hX2
  have HX2 := Lib.hid hX2
  have HP2 := Lib.hid hP2
  clear hL0 hX2 hP2 hX0 hP0 hX1 hP1 hB1
  go_wp2_with fail
  (with_reducible refine (list151 _ A1 c1 hs hl1 h1 (Kd.C_below G1.out HB2.out)).mono ?_)
  rintro e w5 ⟨D1, d1, rfl, hL1, hB5⟩
  have hs5 := hB5.size
  simp at hs5
  have hX5 := (hB5.block w.heap.size (by simp; omega)).trans HX2.out
  have hP5 := (hB5.block (w.heap.size + 1) (by simp; omega)).trans HP2.out
  have HB5 := Lib.hid (below_step HB2.out hB5)
  have HK5 := Lib.hid hB5
  have HL1 := Lib.hid hL1
  have y0 := blk_cell hX5 0
  have y1 := blk_cell hX5 1
  have y2 := blk_cell hX5 2
  have y3 := blk_cell hX5 3
  have y4 := blk_cell hX5 4
  have y5 := blk_cell hX5 5
  have e1 := blk_frozen hX5 1
  have e0 := blk_cell hP5 0
  have f1 := blk_cell hP5 1
  have f2 := blk_cell hP5 2
  have f3 := blk_cell hP5 3
  have f4 := blk_cell hP5 4
  have f5 := blk_cell hP5 5
  simp only [List.getElem?_toArray, List.getElem?_cons_zero, List.getElem?_cons_succ] at y0 y1 y2 y3 y4 y5 e0 f1 f2 f3 f4 f5
  have q0 := blk_frozen hP5 0
  have q1 := blk_frozen hP5 1
  have q2 := blk_frozen hP5 2
  have q3 := blk_frozen hP5 3
  have q4 := blk_frozen hP5 4
  have q5 := blk_frozen hP5 5
  clear hL1 hB5
  go_wp2
  have f4' := blk_set (blk_set (blk_set (blk_set (blk_set (blk_set (blk_far hP5 (p := ⟨w.heap.size, 1, none⟩) (by simp) (.slice D1 hs.length d1)) 0 (.slice D0 bs.length d0)) 1 (.slice D1 hs.length d1)) 2 (.int .u64 u0)) 3 (.int .u64 u1)) 4 (.int .u64 u2)) 5 (.int .u64 u3)
  simp at f4'
  refine bodyPost_ret (results_single rfl (.cell (w.heap.size + 1) 35 _ (0, 0) _ rfl f4' Try.underlying35 rfl (by kernel_rfl) .nil)) rfl ⟨_, rfl, fun X hX => ?_, ?_⟩
  · obtain ⟨l0, k0⟩ := HL0.out X (fun b hb => by
      have h3 := hb.1
      simp only [World.size_alloc] at h3
      have hb1 : b ≠ w.heap.size := by omega
      have hb2 : b ≠ w.heap.size + 1 := by omega
      have h4 : b < w5.heap.size := by have := hb.2; omega
      rw [hX b ⟨by omega, by simpa using h4⟩ (by simpa using h4)]
      repeat rw [heap_set _ _ _ hb2]
      rw [heap_set _ _ _ hb1, HK5.out.block b (by simpa using hb.2), heap_set _ _ _ hb1])
    obtain ⟨l1, k1⟩ := HL1.out X (fun b hb => by
      have h3 := hb.1
      simp at h3
      have hb1 : b ≠ w.heap.size := by omega
      have hb2 : b ≠ w.heap.size + 1 := by omega
      rw [hX b ⟨by omega, by simpa using hb.2⟩ (by simpa using hb.2)]
      repeat rw [heap_set _ _ _ hb2]
      rw [heap_set _ _ _ hb1])
    exact k35_mk X ⟨bs, hs, ⟨u0, u1, u2, u3⟩⟩ l0 k0 l1 k1
  · (repeat refine Below.setCell ?_ (by simp) _); exact HB5.out

set_option maxRecDepth 100000 in
set_option maxHeartbeats 2000000 in
/-- varvelaw00.Row. -/
theorem row38 (w : World) (x : S37) (A0 : Option Addr) (c0 : Nat) (A2 : Option Addr) (c2 : Nat) (A3 : Option Addr) (c3 : Nat) (hl0 : x.f0.length * 32 ≤ 140737488355328) (h0 : x.f0.length ≤ c0) (g0 : Kd.C k68 w A0 x.f0.length x.f0) (hl2 : x.f2.f0.length * 16 ≤ 140737488355328) (h2 : x.f2.f0.length ≤ c2) (g2 : Kd.C k181 w A2 x.f2.f0.length x.f2.f0) (hl3 : x.f2.f1.length * 8 ≤ 140737488355328) (h3 : x.f2.f1.length ≤ c3) (g3 : Kd.C (Kd.int .u64) w A3 x.f2.f1.length x.f2.f1) :
    Calls Try.prog 38 #[.agg #[.slice A0 x.f0.length c0, .int .i64 x.f1, .slice A2 x.f2.f0.length c2, .slice A3 x.f2.f1.length c3, .int .u64 x.f2.f2.f0, .int .u64 x.f2.f2.f1, .int .u64 x.f2.f2.f2, .int .u64 x.f2.f2.f3]] w (AggPost k37 w x) := by
  obtain ⟨ls, at_, ⟨bs, hs, ⟨u0, u1, u2, u3⟩⟩⟩ := x
  simp only at hl0 h0 g0 hl2 h2 g2 hl3 h3 g3 ⊢
  have hB0 : Below w.heap.size w ((w.alloc (.cells #[.slice A0 ls.length c0, .int .i64 at_, .slice A2 bs.length c2, .slice A3 hs.length c3, .int .u64 u0, .int .u64 u1, .int .u64 u2, .int .u64 u3] 37)).alloc (.cells #[.slice none 0 0, .int .i64 0, .slice none 0 0, .slice none 0 0, .int .u64 0, .int .u64 0, .int .u64 0, .int .u64 0] 37)) := below_alloc (below_alloc (Below.refl _ _) _) _
  have hP0 := blk_new (w.alloc (.cells #[.slice A0 ls.length c0, .int .i64 at_, .slice A2 bs.length c2, .slice A3 hs.length c3, .int .u64 u0, .int .u64 u1, .int .u64 u2, .int .u64 u3] 37)) (.cells #[.slice none 0 0, .int .i64 0, .slice none 0 0, .slice none 0 0, .int .u64 0, .int .u64 0, .int .u64 0, .int .u64 0] 37)
  rw [World.size_alloc] at hP0
  have hX0 : ((w.alloc (.cells #[.slice A0 ls.length c0, .int .i64 at_, .slice A2 bs.length c2, .slice A3 hs.length c3, .int .u64 u0, .int .u64 u1, .int .u64 u2, .int .u64 u3] 37)).alloc (.cells #[.slice none 0 0, .int .i64 0, .slice none 0 0, .slice none 0 0, .int .u64 0, .int .u64 0, .int .u64 0, .int .u64 0] 37)).heap[w.heap.size]? = some (.cells #[.slice A0 ls.length c0, .int .i64 at_, .slice A2 bs.length c2, .slice A3 hs.length c3, .int .u64 u0, .int .u64 u1, .int .u64 u2, .int .u64 u3] 37 (0, 0)) :=
    (Below.heap_alloc _ _ _ (by simp)).trans (blk_new w _)
  have G0 := Lib.hid (Kd.C_below g0 hB0)
  have G2 := Lib.hid g2
  have G3 := Lib.hid g3
  clear g0 g2 g3
  go_enter Try.func38, Try.ntmps38
  go_wp2_with fail
  (with_reducible refine (list56 _ A0 c0 ls hl0 h0 G0.out).mono ?_)
  rintro e w1 ⟨D0, d0, rfl, hL0, hB1⟩
  have hs1 := hB1.size
  simp only [World.size_alloc] at hs1
  have hX1 := (hB1.block w.heap.size (by simp; omega)).trans hX0
  have hP1 := (hB1.block (w.heap.size + 1) (by simp)).trans hP0
  have x0 := blk_cell hX1 0
  have x2 := blk_cell hX1 2
  have x3 := blk_cell hX1 3
  have x4 := blk_cell hX1 4
  have x5 := blk_cell hX1 5
  have x6 := blk_cell hX1 6
  have x7 := blk_cell hX1 7
  have z0 := blk_frozen hX1 0
  simp only [List.getElem?_toArray, List.getElem?_cons_zero, List.getElem?_cons_succ] at x0 x2 x3 x4 x5 x6 x7
  have hX2 := blk_set hX1 0 (.slice D0 ls.length d0)
  have hP2 := blk_far hP1 (p := ⟨w.heap.size, 0, none⟩) (by simp) (.slice D0 ls.length d0)
  have HB2 := Lib.hid ((below_step hB0 hB1).setCell (p := ⟨w.heap.size, 0, none⟩) (Nat.le_refl _) (.slice D0 ls.length d0))
  have HL0 := Lib.hid hL0
  simp at hX2
  have HX2 := Lib.hid hX2
  have HP2 := Lib.hid hP2
  clear hL0 hX2 hP2 hX0 hP0 hX1 hP1 hB1
  go_wp2_with fail
  (with_reducible refine (sketch100 _ ⟨bs, hs, ⟨u0, u1, u2, u3⟩⟩ A2 c2 A3 c3 hl2 h2 (Kd.C_below G2.out HB2.out) hl3 h3 (Kd.C_below G3.out HB2.out)).mono ?_)
  rintro e w5 ⟨cs, rfl, hL1, hB5⟩
  obtain ⟨D2, d2, D3, d3, rfl, -, -, -, -⟩ := k35_open (Kd.FK_now hL1)
  have hs5 := hB5.size
  simp at hs5
  have hX5 := (hB5.block w.heap.size (by simp; omega)).trans HX2.out
  have hP5 := (hB5.block (w.heap.size + 1) (by simp; omega)).trans HP2.out
  have HB5 := Lib.hid (below_step HB2.out hB5)
  have HK5 := Lib.hid hB5
  have HL1 := Lib.hid hL1
  have y0 := blk_cell hX5 0
  have y1 := blk_cell hX5 1
  have y2 := blk_cell hX5 2
  have y3 := blk_cell hX5 3
  have y4 := blk_cell hX5 4
  have y5 := blk_cell hX5 5
  have y6 := blk_cell hX5 6
  have y7 := blk_cell hX5 7
  have e2 := blk_frozen hX5 2
  have e3 := blk_frozen hX5 3
  have e4 := blk_frozen hX5 4
  have e5 := blk_frozen hX5 5
  have e6 := blk_frozen hX5 6
  have e7 := blk_frozen hX5 7
  have f0 := blk_cell hP5 0
  have f1 := blk_cell hP5 1
  have f2 := blk_cell hP5 2
  have f3 := blk_cell hP5 3
  have f4 := blk_cell hP5 4
  have f5 := blk_cell hP5 5
  have f6 := blk_cell hP5 6
  have f7 := blk_cell hP5 7
  simp only [List.getElem?_toArray, List.getElem?_cons_zero, List.getElem?_cons_succ] at y0 y1 y2 y3 y4 y5 y6 y7 f0 f1 f2 f3 f4 f5 f6 f7
  have q0 := blk_frozen hP5 0
  have q1 := blk_frozen hP5 1
  have q2 := blk_frozen hP5 2
  have q3 := blk_frozen hP5 3
  have q4 := blk_frozen hP5 4
  have q5 := blk_frozen hP5 5
  have q6 := blk_frozen hP5 6
  have q7 := blk_frozen hP5 7
  clear hL1 hB5
  go_wp2
  have f4' := blk_set (blk_set (blk_set (blk_set (blk_set (blk_set (blk_set (blk_set ((heap_sets w.heap.size [(2, .slice D2 bs.length d2), (3, .slice D3 hs.length d3), (4, .int .u64 u0), (5, .int .u64 u1), (6, .int .u64 u2), (7, .int .u64 u3)] w5 (w.heap.size + 1) (by omega)).trans hP5) 0 (.slice D0 ls.length d0)) 1 (.int .i64 at_)) 2 (.slice D2 bs.length d2)) 3 (.slice D3 hs.length d3)) 4 (.int .u64 u0)) 5 (.int .u64 u1)) 6 (.int .u64 u2)) 7 (.int .u64 u3)
  simp [sets] at f4'
  refine bodyPost_ret (results_single rfl (.cell (w.heap.size + 1) 37 _ (0, 0) _ rfl f4' Try.underlying37 rfl (by kernel_rfl) .nil)) rfl ⟨_, rfl, fun X hX => ?_, ?_⟩
  · obtain ⟨l0, k0⟩ := HL0.out X (fun b hb => by
      have h3 := hb.1
      simp only [World.size_alloc] at h3
      have hb1 : b ≠ w.heap.size := by omega
      have hb2 : b ≠ w.heap.size + 1 := by omega
      have h4 : b < w5.heap.size := by have := hb.2; omega
      rw [hX b ⟨by omega, by simpa using h4⟩ (by simpa using h4)]
      repeat rw [heap_set _ _ _ hb2]
      repeat rw [heap_set _ _ _ hb1]
      rw [HK5.out.block b (by simpa using hb.2), heap_set _ _ _ hb1])
    obtain ⟨B2, e2, B3, e3, he, l1, k1, l2, k2⟩ := k35_open (HL1.out X (fun b hb hb5 => by
      have h3 := hb.1
      simp at h3
      have hb1 : b ≠ w.heap.size := by omega
      have hb2 : b ≠ w.heap.size + 1 := by omega
      rw [hX b ⟨by omega, by simpa using hb.2⟩ (by simpa using hb.2)]
      repeat rw [heap_set _ _ _ hb2]
      repeat rw [heap_set _ _ _ hb1]))
    simp only [List.cons.injEq, Value.slice.injEq, true_and] at he
    obtain ⟨⟨rfl, rfl⟩, ⟨rfl, rfl⟩, -⟩ := he
    exact k37_mk X ⟨ls, at_, ⟨bs, hs, ⟨u0, u1, u2, u3⟩⟩⟩ l0 k0 l1 k1 l2 k2
  · (repeat refine Below.setCell ?_ (by simp) _); exact HB5.out
end Go.Proofs.Yteafilojjdfllaa
