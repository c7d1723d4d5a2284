/- Own text: the document's Covers, of a matcher that may be. -/
import Derived.Test.YteafilojjdfllaaTombB
import Derived.Test.YteafilojjdfllaaEvalR
namespace Go.Proofs.Yteafilojjdfllaa
open Go Go.RowKit Go.Proofs.YteafilojjdfllaaW.PrintWords Go.Proofs.YteafilojjdfllaaW.PrintLast Go.Proofs.YteafilojjdfllaaW.PrintMore Go.Proofs.Yteafilojjdfllaa.PAll

set_option maxRecDepth 100000 in
set_option maxHeartbeats 4000000 in
/-- varveref19.Covers, of a matcher that may be. -/
theorem refCovers39 (w : World) (t : S27) (r : S37) (A3 : Option Addr) (c3 : Nat) (A4 : Option Addr) (c4 : Nat) (A1 : Option Addr) (c1 : Nat) (A5 : Option Addr) (c5 : Nat) (A6 : Option Addr) (c6 : Nat) (v : Bool) (hv : coverB t r = v) (h1000 : nodesM t.f1 ≤ 1000) (hok : chkB t.f1 = true) (hM : MC w t.f1 A3 c3 A4 c4) (hl : r.f0.length ≤ 4000000000000000000) (h1 : r.f0.length ≤ c1) (g1 : Kd.C k68 w A1 r.f0.length r.f0) (h5 : r.f2.f0.length ≤ c5) (g5 : Kd.C k181 w A5 r.f2.f0.length r.f2.f0) (h6 : r.f2.f1.length ≤ c6) (g6 : Kd.C (Kd.int .u64) w A6 r.f2.f1.length r.f2.f1) :
    Calls Try.prog 39 #[.agg #[.int .i64 t.f0, .int .i64 t.f1.f0, .string t.f1.f1, .string t.f1.f2, .slice A3 t.f1.f3.length c3, .slice A4 t.f1.f4.length c4, .int .i64 t.f2, .int .i64 t.f3], .agg #[.slice A1 r.f0.length c1, .int .i64 r.f1, .slice A5 r.f2.f0.length c5, .slice A6 r.f2.f1.length c6, .int .u64 r.f2.f2.f0, .int .u64 r.f2.f2.f1, .int .u64 r.f2.f2.f2, .int .u64 r.f2.f2.f3]] w fun e w' => e = .returned (.bool v) ∧ Below w.heap.size w w' := by
  obtain ⟨s, m, a, b⟩ := t
  obtain ⟨l, at_, ⟨bs, hs, ⟨u0, u1, u2, u3⟩⟩⟩ := r
  simp only at h1000 hok hM hl h1 g1 h5 g5 h6 g6 ⊢
  clear h5 g5 h6 g6
  have hvv : evalB l m = evalM l m := by unfold evalB; rw [hok, Bool.true_and]
  have hokM := (chk_def.1 hok).1
  unfold coverB at hv
  simp only at hv
  rw [hvv] at hv
  have hB0 : Below w.heap.size w ((w.alloc (.cells #[.int .i64 s, .int .i64 m.f0, .string m.f1, .string m.f2, .slice A3 m.f3.length c3, .slice A4 m.f4.length c4, .int .i64 a, .int .i64 b] 27)).alloc (.cells #[.slice A1 l.length c1, .int .i64 at_, .slice A5 bs.length c5, .slice A6 hs.length c6, .int .u64 u0, .int .u64 u1, .int .u64 u2, .int .u64 u3] 37)) := below_alloc (below_alloc (Below.refl _ _) _) _
  obtain ⟨q1, q2, q3, q4⟩ := hM.below hB0
  have G1 := Lib.hid (Kd.C_below g1 hB0)
  clear g1
  by_cases h2 : a ≤ at_
  · by_cases h3 : at_ < b
    · rw [decide_eq_true h2, decide_eq_true h3, Bool.true_and, Bool.true_and] at hv
      have Hv := Lib.hid hv
      clear hv
      go_enter Try.func39, Try.ntmps39
      go_wp2_with fail
      (with_reducible refine (reval57 _ m A3 c3 A4 c4 A1 c1 l v Hv.out h1000 hokM hl q1 q2 q3 q4 h1 G1.out).mono ?_)
      rintro e w1 ⟨rfl, hb1⟩
      go_wp2_with fail
      go_ret
      exact ⟨rfl, below_step hB0 hb1⟩
    · rw [decide_eq_false h3, Bool.and_false, Bool.false_and] at hv
      subst hv
      go_enter Try.func39, Try.ntmps39
      go_wp2_with fail
      go_ret
      exact ⟨rfl, hB0⟩
  · rw [decide_eq_false h2, Bool.false_and, Bool.false_and] at hv
    subst hv
    go_enter Try.func39, Try.ntmps39
    go_wp2_with fail
    go_ret
    exact ⟨rfl, hB0⟩

end Go.Proofs.Yteafilojjdfllaa
