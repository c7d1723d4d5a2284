/- Own text: a tomb's copy; whether a tomb may be, by the program and by the document. -/
import Derived.Test.YteafilojjdfllaaMatB
import Derived.Test.YteafilojjdfllaaPAllx6b
namespace Go.Proofs.Yteafilojjdfllaa
open Go Go.RowKit Go.Proofs.YteafilojjdfllaaW.PrintWords Go.Proofs.YteafilojjdfllaaW.PrintLast Go.Proofs.YteafilojjdfllaaW.PrintMore Go.Proofs.Yteafilojjdfllaa.PAll

/-- a tomb's bounds -/
def alignB (a b : Int) : Bool := decide (0 ≤ a ∧ a < b ∧ b ≤ 1099511634240 ∧ Int.tmod a 8640 = 0 ∧ Int.tmod b 8640 = 0)
theorem aligned97 (w : World) (a b : Int) (v : Bool) (hv : alignB a b = v) : Calls Try.prog 97 #[.int .i64 a, .int .i64 b] w fun e w' => e = .returned (.bool v) ∧ Below w.heap.size w w' := by
  refine (tomb_Aligned.calls a b v w ?_).mono fun _ _ h => ⟨h.1, h.2.below⟩
  rw [← hv]
  unfold tomb_Aligned.f alignB
  by_cases h1 : 0 ≤ a
  · rw [if_pos h1]
    by_cases h2 : a < b
    · rw [if_pos h2]
      by_cases h3 : b ≤ 1099511634240
      · rw [if_pos h3]
        by_cases h4 : Int.tmod a 8640 = 0
        · rw [if_pos h4]
          congr 1
          rw [Bool.eq_iff_iff, beq_iff_eq, decide_eq_true_iff]
          exact ⟨fun h => ⟨h1, h2, h3, h4, h⟩, fun h => h.2.2.2.2⟩
        · rw [if_neg h4, decide_eq_false (fun h => h4 h.2.2.2.1)]
      · rw [if_neg h3, decide_eq_false (fun h => h3 h.2.2.1)]
    · rw [if_neg h2, decide_eq_false (fun h => h2 h.2.1)]
  · rw [if_neg h1, decide_eq_false (fun h => h1 h.1)]
/-- may a tomb be? -/
def tombB (s a b : Int) (m : S25) : Bool := decide (1 ≤ s ∧ s ≤ 1099511627776) && alignB a b && chkB m
set_option maxRecDepth 100000 in
set_option maxHeartbeats 4000000 in
/-- tomb.Check. -/
theorem tombCheck33 (w : World) (s a b : Int) (m : S25) (A3 : Option Addr) (c3 : Nat) (A4 : Option Addr) (c4 : Nat) (hM : MC w m A3 c3 A4 c4) :
    Calls Try.prog 33 #[.agg #[.int .i64 s, .int .i64 m.f0, .string m.f1, .string m.f2, .slice A3 m.f3.length c3, .slice A4 m.f4.length c4, .int .i64 a, .int .i64 b]] w fun e w' => e = .returned (.bool (tombB s a b m)) ∧ Below w.heap.size w w' := by
  have hB0 : Below w.heap.size w (w.alloc (.cells #[.int .i64 s, .int .i64 m.f0, .string m.f1, .string m.f2, .slice A3 m.f3.length c3, .slice A4 m.f4.length c4, .int .i64 a, .int .i64 b] 27)) := below_alloc (Below.refl _ _) _
  have hX0 := blk_new w (.cells #[.int .i64 s, .int .i64 m.f0, .string m.f1, .string m.f2, .slice A3 m.f3.length c3, .slice A4 m.f4.length c4, .int .i64 a, .int .i64 b] 27)
  by_cases h1 : 1 ≤ s
  · by_cases h2 : s ≤ 1099511627776
    · cases h3 : alignB a b with
      | false =>
        have hr : tombB s a b m = false := by unfold tombB; rw [h3, Bool.and_false, Bool.false_and]
        have H3 := Lib.hid h3
        rw [hr]
        clear h3 hr
        go_enter Try.func33, Try.ntmps33
        go_wp2_with fail
        (with_reducible refine (aligned97 _ a b false H3.out).mono ?_)
        rintro e w1 ⟨rfl, hb1⟩
        go_wp2_with fail
        go_ret
        exact ⟨rfl, below_step hB0 hb1⟩
      | true =>
        have hr : tombB s a b m = chkB m := by unfold tombB; rw [h3, decide_eq_true (And.intro h1 h2)]; simp
        have H3 := Lib.hid h3
        have Hr := Lib.hid hr
        clear h3 hr
        go_enter Try.func33, Try.ntmps33
        go_wp2_with fail
        (with_reducible refine (aligned97 _ a b true H3.out).mono ?_)
        rintro e w1 ⟨rfl, hb1⟩
        have hX1 := (hb1.block w.heap.size (by simp)).trans hX0
        have x1 := blk_cell hX1 1
        have x2 := blk_cell hX1 2
        have x3 := blk_cell hX1 3
        have x4 := blk_cell hX1 4
        have x5 := blk_cell hX1 5
        simp only [List.getElem?_toArray, List.getElem?_cons_zero, List.getElem?_cons_succ] at x1 x2 x3 x4 x5
        go_wp2_with fail
        (with_reducible refine (check53 _ m A3 c3 A4 c4 (hM.below (below_step hB0 hb1))).mono ?_)
        rintro e w2 ⟨rfl, hb2⟩
        go_wp2_with fail
        go_ret
        exact ⟨by rw [Hr.out]; rfl, below_step (below_step hB0 hb1) hb2⟩
    · have hr : tombB s a b m = false := by unfold tombB; rw [decide_eq_false (fun h => h2 h.2)]; simp
      rw [hr]
      go_enter Try.func33, Try.ntmps33
      go_wp2_with fail
      go_ret
      exact ⟨rfl, hB0⟩
  · have hr : tombB s a b m = false := by unfold tombB; rw [decide_eq_false (fun h => h1 h.1)]; simp
    rw [hr]
    go_enter Try.func33, Try.ntmps33
    go_wp2_with fail
    go_ret
    exact ⟨rfl, hB0⟩
end Go.Proofs.Yteafilojjdfllaa
