/- Own text: copies of tombs and of rows in new memory. -/
import Derived.Test.YteafilojjdfllaaTombB
import Derived.Test.YteafilojjdfllaaCopy2
namespace Go.Proofs.Yteafilojjdfllaa
open Go Go.RowKit Go.Proofs.YteafilojjdfllaaW.PrintWords Go.Proofs.YteafilojjdfllaaW.PrintLast Go.Proofs.YteafilojjdfllaaW.PrintMore Go.Proofs.Yteafilojjdfllaa.PAll
set_option linter.unusedVariables false
set_option linter.unusedSimpArgs false

/-- a struct in new memory -/
def AggPost {α : Type} (d : Kd α) (w : World) (x : α) (e : Ending) (w' : World) : Prop :=
  ∃ cs, e = .returned (.agg ⟨cs⟩) ∧ Kd.FK d w' (fun b => w.heap.size ≤ b ∧ b < w'.heap.size) x cs ∧ Below w.heap.size w w'

/-- several cells of a block are set -/
def sets (W : World) (g : Nat) (l : List (Nat × Value)) : World := l.foldl (fun W p => W.setCell ⟨g, p.1, none⟩ p.2) W
theorem heap_set (W : World) (i : Nat) (u : Value) {b g : Nat} (h : b ≠ g) : (W.setCell ⟨g, i, none⟩ u).heap[b]? = W.heap[b]? := Below.heap_setCell W ⟨g, i, none⟩ u b h
theorem heap_sets (g : Nat) : ∀ (l : List (Nat × Value)) (W : World) (b : Nat), b ≠ g → (sets W g l).heap[b]? = W.heap[b]?
  | [], _, _, _ => rfl
  | p :: l, W, b, h => (heap_sets g l (W.setCell ⟨g, p.1, none⟩ p.2) b h).trans (Below.heap_setCell W ⟨g, p.1, none⟩ p.2 b h)

set_option maxRecDepth 100000 in
set_option maxHeartbeats 4000000 in
/-- varvelaw00.Tomb. -/
theorem tomb34 (w : World) (s a b : Int) (m : S25) (A3 : Option Addr) (c3 : Nat) (A4 : Option Addr) (c4 : Nat) (ht : tinyP 0 m) (hM : MC w m A3 c3 A4 c4) :
    Calls Try.prog 34 #[.agg #[.int .i64 s, .int .i64 m.f0, .string m.f1, .string m.f2, .slice A3 m.f3.length c3, .slice A4 m.f4.length c4, .int .i64 a, .int .i64 b]] w (AggPost k27 w ⟨s, m, a, b⟩) := by
  have hB0 : Below w.heap.size w ((w.alloc (.cells #[.int .i64 s, .int .i64 m.f0, .string m.f1, .string m.f2, .slice A3 m.f3.length c3, .slice A4 m.f4.length c4, .int .i64 a, .int .i64 b] 27)).alloc (.cells #[.int .i64 0, .int .i64 0, .string ⟨#[]⟩, .string ⟨#[]⟩, .slice none 0 0, .slice none 0 0, .int .i64 0, .int .i64 0] 27)) := below_alloc (below_alloc (Below.refl _ _) _) _
  have hP0 := blk_new (w.alloc (.cells #[.int .i64 s, .int .i64 m.f0, .string m.f1, .string m.f2, .slice A3 m.f3.length c3, .slice A4 m.f4.length c4, .int .i64 a, .int .i64 b] 27)) (.cells #[.int .i64 0, .int .i64 0, .string ⟨#[]⟩, .string ⟨#[]⟩, .slice none 0 0, .slice none 0 0, .int .i64 0, .int .i64 0] 27)
  rw [World.size_alloc] at hP0
  have hX0 : BoxT ((w.alloc (.cells #[.int .i64 s, .int .i64 m.f0, .string m.f1, .string m.f2, .slice A3 m.f3.length c3, .slice A4 m.f4.length c4, .int .i64 a, .int .i64 b] 27)).alloc (.cells #[.int .i64 0, .int .i64 0, .string ⟨#[]⟩, .string ⟨#[]⟩, .slice none 0 0, .slice none 0 0, .int .i64 0, .int .i64 0] 27)) w.heap.size s m.f0 m.f1 m.f2 (.slice A3 m.f3.length c3) (.slice A4 m.f4.length c4) a b :=
    (Below.heap_alloc _ _ _ (by simp)).trans (blk_new w _)
  have hM0 := hM.below hB0
  go_enter Try.func34, Try.ntmps34
  go_wp2_with fail
  (with_reducible refine (matcher54 _ m A3 c3 A4 c4 ht hM0).mono ?_)
  rintro e w5 ⟨D3, f3, D4, f4, rfl, hMF, hB5⟩
  have hs5 := hB5.size
  simp only [World.size_alloc] at hs5
  have hP5 := (hB5.block (w.heap.size + 1) (by simp)).trans hP0
  have hX5 := hX0.below hB5
  have HMF := Lib.hid hMF
  have HB5 := Lib.hid (below_step hB0 hB5)
  obtain ⟨x0, x1, x2, x3, x4, x5, x6, x7⟩ := hX5.all
  have z1 := blk_frozen hX5 1
  have z2 := blk_frozen hX5 2
  have z3 := blk_frozen hX5 3
  have z4 := blk_frozen hX5 4
  have z5 := blk_frozen hX5 5
  have d0 := blk_cell hP5 0
  have d1 := blk_cell hP5 1
  have d2 := blk_cell hP5 2
  have d3 := blk_cell hP5 3
  have d4 := blk_cell hP5 4
  have d5 := blk_cell hP5 5
  have d6 := blk_cell hP5 6
  have d7 := blk_cell hP5 7
  simp only [List.getElem?_toArray, List.getElem?_cons_zero, List.getElem?_cons_succ] at d0 d1 d2 d3 d4 d5 d6 d7
  have q0 := blk_frozen hP5 0
  have q1 := blk_frozen hP5 1
  have q2 := blk_frozen hP5 2
  have q3 := blk_frozen hP5 3
  have q4 := blk_frozen hP5 4
  have q5 := blk_frozen hP5 5
  have q6 := blk_frozen hP5 6
  have q7 := blk_frozen hP5 7
  clear hMF hB5 hP0 hX0 hB0 hM0
  go_wp2
  have f4' := blk_set (blk_set (blk_set (blk_set (blk_set (blk_set (blk_set (blk_set ((heap_sets w.heap.size [(1, .int .i64 m.f0), (2, .string m.f1), (3, .string m.f2), (4, .slice D3 m.f3.length f3), (5, .slice D4 m.f4.length f4)] w5 (w.heap.size + 1) (by omega)).trans hP5) 0 (.int .i64 s)) 1 (.int .i64 m.f0)) 2 (.string m.f1)) 3 (.string m.f2)) 4 (.slice D3 m.f3.length f3)) 5 (.slice D4 m.f4.length f4)) 6 (.int .i64 a)) 7 (.int .i64 b)
  simp [sets] at f4'
  refine bodyPost_ret (results_single rfl (.cell (w.heap.size + 1) 27 _ (0, 0) _ rfl f4' Try.underlying27 rfl (by kernel_rfl) .nil)) rfl ⟨_, rfl, fun X hX => ?_, ?_⟩
  · obtain ⟨l4, g4, l5, g5⟩ := HMF.out X (fun b hb => by
      rw [hX b ⟨by have := hb.1; simp at this; omega, by simpa using hb.2⟩ (by simpa using hb.2)]
      have hb1 : b ≠ w.heap.size := by have := hb.1; simp at this; omega
      have hb2 : b ≠ w.heap.size + 1 := by have := hb.1; simp at this; omega
      repeat rw [heap_set _ _ _ hb2]
      repeat rw [heap_set _ _ _ hb1])
    exact k27_mk X ⟨s, m, a, b⟩ l4 g4 l5 g5
  · (repeat refine Below.setCell ?_ (by simp) _); exact HB5.out

end Go.Proofs.Yteafilojjdfllaa
