/- Own text: the document's own Check of a tomb; its Covers. -/
import Derived.Test.YteafilojjdfllaaTombB
import Derived.Test.YteafilojjdfllaaPAllx9
namespace Go.Proofs.Yteafilojjdfllaa
open Go Go.RowKit Go.Proofs.YteafilojjdfllaaW.PrintWords Go.Proofs.YteafilojjdfllaaW.PrintLast Go.Proofs.YteafilojjdfllaaW.PrintMore Go.Proofs.Yteafilojjdfllaa.PAll

def raB (a : Int) : Bool := decide (0 ≤ a ∧ a ≤ 1099511634240 ∧ Int.tmod a 8640 = 0)
theorem raligned98 (w : World) (a : Int) (v : Bool) (hv : raB a = v) : Calls Try.prog 98 #[.int .i64 a] w fun e w' => e = .returned (.bool v) ∧ Below w.heap.size w w' := by
  refine (varveref19_Aligned.calls a v w ?_).mono fun _ _ h => ⟨h.1, h.2.below⟩
  rw [← hv]
  unfold varveref19_Aligned.f raB
  by_cases h1 : 0 ≤ a
  · rw [if_pos h1]
    by_cases h3 : a ≤ 1099511634240
    · rw [if_pos h3]
      congr 1
      rw [Bool.eq_iff_iff, beq_iff_eq, decide_eq_true_iff]
      exact ⟨fun h => ⟨h1, h3, h⟩, fun h => h.2.2⟩
    · rw [if_neg h3, decide_eq_false (fun h => h3 h.2.1)]
  · rw [if_neg h1, decide_eq_false (fun h => h1 h.1)]

theorem tombB_ref (s a b : Int) (m : S25) : tombB s a b m = (decide (1 ≤ s) && decide (s ≤ 1099511627776) && chkB m && decide (a < b) && raB a && raB b) := by
  unfold tombB alignB raB
  rw [Bool.eq_iff_iff]
  simp only [Bool.and_eq_true, decide_eq_true_iff]
  constructor
  · rintro ⟨⟨⟨h1, h2⟩, h3, h4, h5, h6, h7⟩, h8⟩
    exact ⟨⟨⟨⟨⟨h1, h2⟩, h8⟩, h4⟩, h3, by omega, h6⟩, by omega, h5, h7⟩
  · rintro ⟨⟨⟨⟨⟨h1, h2⟩, h8⟩, h4⟩, h3, _, h6⟩, _, h5, h7⟩
    exact ⟨⟨⟨h1, h2⟩, h3, h4, h5, h6, h7⟩, h8⟩

set_option maxRecDepth 100000 in
set_option maxHeartbeats 4000000 in
/-- varveref19.Check. -/
theorem refCheck35 (w : World) (s a b : Int) (m : S25) (A3 : Option Addr) (c3 : Nat) (A4 : Option Addr) (c4 : Nat) (hbd : boundM m) (hM : MC w m A3 c3 A4 c4) :
    Calls Try.prog 35 #[.agg #[.int .i64 s, .int .i64 m.f0, .string m.f1, .string m.f2, .slice A3 m.f3.length c3, .slice A4 m.f4.length c4, .int .i64 a, .int .i64 b]] w fun e w' => e = .returned (.bool (tombB s a b m)) ∧ Below w.heap.size w w' := by
  have hB0 : Below w.heap.size w (w.alloc (.cells #[.int .i64 s, .int .i64 m.f0, .string m.f1, .string m.f2, .slice A3 m.f3.length c3, .slice A4 m.f4.length c4, .int .i64 a, .int .i64 b] 27)) := below_alloc (Below.refl _ _) _
  have hX0 : BoxT (w.alloc (.cells #[.int .i64 s, .int .i64 m.f0, .string m.f1, .string m.f2, .slice A3 m.f3.length c3, .slice A4 m.f4.length c4, .int .i64 a, .int .i64 b] 27)) w.heap.size s m.f0 m.f1 m.f2 (.slice A3 m.f3.length c3) (.slice A4 m.f4.length c4) a b := blk_new w _
  have hr := tombB_ref s a b m
  by_cases h1 : 1 ≤ s
  · by_cases h2 : s ≤ 1099511627776
    · rw [decide_eq_true h1, decide_eq_true h2, Bool.true_and, Bool.true_and] at hr
      cases h3 : chkB m with
      | false =>
        rw [h3] at hr
        rw [hr, Bool.false_and, Bool.false_and, Bool.false_and]
        have H3 := Lib.hid h3
        clear h3 hr
        go_enter Try.func35, Try.ntmps35
        go_wp2_with fail
        (with_reducible refine (check36v _ m A3 c3 A4 c4 false H3.out hbd (hM.below hB0)).mono ?_)
        rintro e w1 ⟨rfl, hb1⟩
        go_wp2_with fail
        go_ret
        exact ⟨rfl, below_step hB0 hb1⟩
      | true =>
        rw [h3, Bool.true_and] at hr
        have H3 := Lib.hid h3
        by_cases h4 : a < b
        · rw [decide_eq_true h4, Bool.true_and] at hr
          cases h5 : raB a with
          | false =>
            rw [h5] at hr
            rw [hr, Bool.false_and]
            have H5 := Lib.hid h5
            clear h3 hr h5
            go_enter Try.func35, Try.ntmps35
            go_wp2_with fail
            (with_reducible refine (check36v _ m A3 c3 A4 c4 true H3.out hbd (hM.below hB0)).mono ?_)
            rintro e w1 ⟨rfl, hb1⟩
            obtain ⟨-, -, -, -, -, -, x6, x7⟩ := (hX0.below hb1).all
            go_wp2_with fail
            (with_reducible refine (raligned98 _ a false H5.out).mono ?_)
            rintro e w2 ⟨rfl, hb2⟩
            go_wp2_with fail
            go_ret
            exact ⟨rfl, below_step (below_step hB0 hb1) hb2⟩
          | true =>
            rw [h5, Bool.true_and] at hr
            rw [hr]
            have H5 := Lib.hid h5
            clear h3 hr h5
            go_enter Try.func35, Try.ntmps35
            go_wp2_with fail
            (with_reducible refine (check36v _ m A3 c3 A4 c4 true H3.out hbd (hM.below hB0)).mono ?_)
            rintro e w1 ⟨rfl, hb1⟩
            have hX1 := hX0.below hb1
            obtain ⟨-, -, -, -, -, -, x6, x7⟩ := hX1.all
            go_wp2_with fail
            (with_reducible refine (raligned98 _ a true H5.out).mono ?_)
            rintro e w2 ⟨rfl, hb2⟩
            obtain ⟨-, -, -, -, -, -, -, y7⟩ := (hX1.below hb2).all
            go_wp2_with fail
            (with_reducible refine (raligned98 _ b _ rfl).mono ?_)
            rintro e w3 ⟨rfl, hb3⟩
            go_wp2_with fail
            go_ret
            exact ⟨rfl, below_step (below_step (below_step hB0 hb1) hb2) hb3⟩
        · rw [decide_eq_false h4, Bool.false_and, Bool.false_and] at hr
          rw [hr]
          clear h3 hr
          go_enter Try.func35, Try.ntmps35
          go_wp2_with fail
          (with_reducible refine (check36v _ m A3 c3 A4 c4 true H3.out hbd (hM.below hB0)).mono ?_)
          rintro e w1 ⟨rfl, hb1⟩
          obtain ⟨-, -, -, -, -, -, x6, x7⟩ := (hX0.below hb1).all
          go_wp2_with fail
          go_ret
          exact ⟨rfl, below_step hB0 hb1⟩
    · rw [decide_eq_true h1, decide_eq_false h2] at hr
      simp only [Bool.true_and, Bool.false_and] at hr
      rw [hr]
      clear hr
      go_enter Try.func35, Try.ntmps35
      go_wp2_with fail
      go_ret
      exact ⟨rfl, hB0⟩
  · rw [decide_eq_false h1] at hr
    simp only [Bool.false_and] at hr
    rw [hr]
    clear hr
    go_enter Try.func35, Try.ntmps35
    go_wp2_with fail
    go_ret
    exact ⟨rfl, hB0⟩

end Go.Proofs.Yteafilojjdfllaa
