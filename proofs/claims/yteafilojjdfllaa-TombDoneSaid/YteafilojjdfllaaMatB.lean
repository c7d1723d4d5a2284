/- Own text: a matcher's copy; whether it may be; match.Eval. -/
import Derived.Test.YteafilojjdfllaaCopy2
import Derived.Test.YteafilojjdfllaaLook2
import Derived.Test.YteafilojjdfllaaEvalV
namespace Go.Proofs.Yteafilojjdfllaa
open Go Go.RowKit Go.Proofs.YteafilojjdfllaaW.PrintWords Go.Proofs.YteafilojjdfllaaW.PrintLast Go.Proofs.YteafilojjdfllaaW.PrintMore Go.Proofs.Yteafilojjdfllaa.PAll

set_option maxRecDepth 100000 in
set_option maxHeartbeats 4000000 in
/-- varvelaw00.Matcher. -/
theorem matcher54 (w : World) (m : S25) (A3 : Option Addr) (c3 : Nat) (A4 : Option Addr) (c4 : Nat) (ht : tinyP 0 m) (hM : MC w m A3 c3 A4 c4) :
    Calls Try.prog 54 #[.agg #[.int .i64 m.f0, .string m.f1, .string m.f2, .slice A3 m.f3.length c3, .slice A4 m.f4.length c4]] w (CopyPost w m) := by
  obtain ⟨h1, h2, h3, h4⟩ := ht
  have hB0 : Below w.heap.size w ((w.alloc (.cells #[.int .i64 m.f0, .string m.f1, .string m.f2, .slice A3 m.f3.length c3, .slice A4 m.f4.length c4] 25)).alloc (.cells #[.int .i64 0, .string ⟨#[]⟩, .string ⟨#[]⟩, .slice none 0 0, .slice none 0 0] 25)) := below_alloc (below_alloc (Below.refl _ _) _) _
  have hh := matcher107 (nodesM m) m (Nat.le_refl _) h3 h4 0 A3 c3 A4 c4 _ (by decide) h1 (hM.below hB0)
  have hP0 := blk_new (w.alloc (.cells #[.int .i64 m.f0, .string m.f1, .string m.f2, .slice A3 m.f3.length c3, .slice A4 m.f4.length c4] 25)) (.cells #[.int .i64 0, .string ⟨#[]⟩, .string ⟨#[]⟩, .slice none 0 0, .slice none 0 0] 25)
  rw [World.size_alloc] at hP0
  have Hh := Lib.hid hh
  clear hh h1 h2 h3 h4
  go_enter Try.func54, Try.ntmps54
  go_wp2_with fail
  (with_reducible refine Hh.out.mono ?_)
  rintro e w5 ⟨D3, f3, D4, f4, rfl, hMF, hB5⟩
  have hs5 := hB5.size
  simp only [World.size_alloc] at hs5
  have hP5 := (hB5.block (w.heap.size + 1) (by simp)).trans hP0
  have HMF := Lib.hid hMF
  have HB5 := Lib.hid (below_step hB0 hB5)
  clear hMF hB5 hP0 Hh hB0
  have d0 := blk_cell hP5 0
  have d1 := blk_cell hP5 1
  have d2 := blk_cell hP5 2
  have d3 := blk_cell hP5 3
  have d4 := blk_cell hP5 4
  simp only [List.getElem?_toArray, List.getElem?_cons_zero, List.getElem?_cons_succ] at d0 d1 d2 d3 d4
  have q0 := blk_frozen hP5 0
  have q1 := blk_frozen hP5 1
  have q2 := blk_frozen hP5 2
  have q3 := blk_frozen hP5 3
  have q4 := blk_frozen hP5 4
  go_wp2
  have f4' := blk_set (blk_set (blk_set (blk_set (blk_set hP5 0 (.int .i64 m.f0)) 1 (.string m.f1)) 2 (.string m.f2)) 3 (.slice D3 m.f3.length f3)) 4 (.slice D4 m.f4.length f4)
  simp at f4'
  refine bodyPost_ret (results_single rfl (.cell (w.heap.size + 1) 25 _ (0, 0) _ rfl f4' Try.underlying25 rfl (by kernel_rfl) .nil)) rfl ⟨D3, f3, D4, f4, rfl, HMF.out.move (fun b hb => ⟨⟨by have := hb.1; simp at this; omega, by simpa using hb.2⟩, ?_⟩), ?_⟩
  · have hb2 : b ≠ w.heap.size + 1 := by have := hb.1; simp at this; omega
    rw [Below.heap_setCell _ _ _ b (by simpa using hb2), Below.heap_setCell _ _ _ b (by simpa using hb2), Below.heap_setCell _ _ _ b (by simpa using hb2), Below.heap_setCell _ _ _ b (by simpa using hb2), Below.heap_setCell _ _ _ b (by simpa using hb2)]
  · exact ((((HB5.out.setCell (by simp) _).setCell (by simp) _).setCell (by simp) _).setCell (by simp) _).setCell (by simp) _

theorem check36v (w : World) (m : S25) (A3 : Option Addr) (c3 : Nat) (A4 : Option Addr) (c4 : Nat) (v : Bool) (hv : chkB m = v) (hb : boundM m) (hM : MC w m A3 c3 A4 c4) :
    Calls Try.prog 36 #[.agg #[.int .i64 m.f0, .string m.f1, .string m.f2, .slice A3 m.f3.length c3, .slice A4 m.f4.length c4]] w fun e w' => e = .returned (.bool v) ∧ Below w.heap.size w w' := hv ▸ check36 w m A3 c3 A4 c4 hb hM
theorem check53v (w : World) (m : S25) (A3 : Option Addr) (c3 : Nat) (A4 : Option Addr) (c4 : Nat) (v : Bool) (hv : chkB m = v) (hM : MC w m A3 c3 A4 c4) :
    Calls Try.prog 53 #[.agg #[.int .i64 m.f0, .string m.f1, .string m.f2, .slice A3 m.f3.length c3, .slice A4 m.f4.length c4]] w fun e w' => e = .returned (.bool v) ∧ Below w.heap.size w w' := hv ▸ check53 w m A3 c3 A4 c4 hM

/-- does a matcher that may be take these labels? -/
def evalB (l : List S68) (m : S25) : Bool := chkB m && evalM l m
set_option maxRecDepth 100000 in
set_option maxHeartbeats 4000000 in
/-- match.Eval. -/
theorem Eval55 (w : World) (m : S25) (A3 : Option Addr) (c3 : Nat) (A4 : Option Addr) (c4 : Nat) (A1 : Option Addr) (c1 : Nat) (l : List S68) (v : Bool) (hv : evalB l m = v) (h1000 : nodesM m ≤ 1000) (hM : MC w m A3 c3 A4 c4) (hl : l.length ≤ 4000000000000000000) (h1 : l.length ≤ c1) (g1 : Kd.C k68 w A1 l.length l) :
    Calls Try.prog 55 #[.agg #[.int .i64 m.f0, .string m.f1, .string m.f2, .slice A3 m.f3.length c3, .slice A4 m.f4.length c4], .slice A1 l.length c1] w fun e w' => e = .returned (.bool v) ∧ Below w.heap.size w w' := by
  have hB0 : Below w.heap.size w (w.alloc (.cells #[.int .i64 m.f0, .string m.f1, .string m.f2, .slice A3 m.f3.length c3, .slice A4 m.f4.length c4] 25)) := below_alloc (Below.refl _ _) _
  have hX0 : BoxM (w.alloc (.cells #[.int .i64 m.f0, .string m.f1, .string m.f2, .slice A3 m.f3.length c3, .slice A4 m.f4.length c4] 25)) w.heap.size m.f0 m.f1 m.f2 (.slice A3 m.f3.length c3) (.slice A4 m.f4.length c4) := blk_new w _
  unfold evalB at hv
  have G1 := Lib.hid g1
  cases h3 : chkB m with
  | false =>
    rw [h3, Bool.false_and] at hv
    subst hv
    have H3 := Lib.hid h3
    clear h3 g1
    go_enter Try.func55, Try.ntmps55
    go_wp2_with fail
    (with_reducible refine (check53v _ m A3 c3 A4 c4 false H3.out (hM.below hB0)).mono ?_)
    rintro e w1 ⟨rfl, hb1⟩
    go_wp2_with fail
    go_ret
    exact ⟨rfl, below_step hB0 hb1⟩
  | true =>
    rw [h3, Bool.true_and] at hv
    have Hok := Lib.hid (chk_def.1 h3).1
    obtain ⟨m1, m2, m3, m4⟩ := hM.below hB0
    have H3 := Lib.hid h3
    have Hv := Lib.hid hv
    clear h3 g1 hv
    go_enter Try.func55, Try.ntmps55
    go_wp2_with fail
    (with_reducible refine (check53v _ m A3 c3 A4 c4 true H3.out (hM.below hB0)).mono ?_)
    rintro e w1 ⟨rfl, hb1⟩
    have hX1 := hX0.below hb1
    have x0 := hX1.c0
    have x1 := hX1.c1
    have x2 := hX1.c2
    have x3 := hX1.c3
    have x4 := hX1.c4
    have hB1 := below_step hB0 hb1
    go_wp2_with fail
    (with_reducible refine (eval108 _ m A3 c3 A4 c4 A1 c1 l v Hv.out h1000 Hok.out hl m1 (Kd.C_below m2 hb1) m3 (Kd.C_below m4 hb1) h1 (Kd.C_below G1.out hB1)).mono ?_)
    rintro e w2 ⟨rfl, hb2⟩
    go_wp2_with fail
    go_ret
    exact ⟨rfl, below_step hB1 hb2⟩

end Go.Proofs.Yteafilojjdfllaa
