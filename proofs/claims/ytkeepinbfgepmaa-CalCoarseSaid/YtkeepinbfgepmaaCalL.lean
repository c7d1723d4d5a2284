/- The law on the coarsest level: what its call does. -/
import Derived.Test.YtkeepinbfgepmaaCalF
namespace Go.Proofs.Ytkeepinbfgepmaa
open Go.RowKit
set_option linter.unusedSimpArgs false

theorem coarse_from (a b l : Int) (w w0 : World) (h : coarI a b = l) (hk : Below w0.heap.size w0 w) :
    Calls Try.prog 31 #[.int .i64 a, .int .i64 b] w fun e w' => e = .returned (.int .i64 l) ∧ Below w0.heap.size w0 w' := by
  subst h
  exact (coarsest_any a b w).mono fun _ _ ⟨he, hb⟩ => ⟨he, hk.trans (hb.mono hk.size)⟩
theorem coarseRef_is (a b l : Int) (w : World) (h : coarI a b = l) :
    Calls Try.prog 32 #[.int .i64 a, .int .i64 b] w fun e w' => e = .returned (.int .i64 l) ∧ w = w' := by
  subst h
  exact coarsestRef_any a b w
theorem same_from {f : FuncId} {args : Array Value} {e0 : Ending} {w w0 : World} (hc : Calls Try.prog f args w fun e w' => e = e0 ∧ w = w') (hk : Below w0.heap.size w0 w) : Calls Try.prog f args w fun e w' => e = e0 ∧ Below w0.heap.size w0 w' :=
  hc.mono fun _ _ ⟨he, hb⟩ => ⟨he, hb ▸ hk⟩
theorem coarI_cases (a b : Int) : (coarI a b = 3 ∧ a % 8640 = 0 ∧ b % 8640 = 0) ∨ (coarI a b = 2 ∧ a % 360 = 0 ∧ b % 360 = 0 ∧ ¬ (a % 8640 = 0 ∧ b % 8640 = 0)) ∨ (coarI a b = 1 ∧ a % 6 = 0 ∧ b % 6 = 0 ∧ ¬ (a % 360 = 0 ∧ b % 360 = 0) ∧ ¬ (a % 8640 = 0 ∧ b % 8640 = 0)) ∨ (coarI a b = 0 ∧ ¬ (a % 6 = 0 ∧ b % 6 = 0) ∧ ¬ (a % 360 = 0 ∧ b % 360 = 0) ∧ ¬ (a % 8640 = 0 ∧ b % 8640 = 0)) := by
  unfold coarI
  (repeat' split) <;> omega

theorem calCoarse_0 (a b : Int) (w : World) (h : coarI a b = 0) (n1 : ¬ (a % 6 = 0 ∧ b % 6 = 0)) (n2 : ¬ (a % 360 = 0 ∧ b % 360 = 0)) (n3 : ¬ (a % 8640 = 0 ∧ b % 8640 = 0)) :
    Calls Try.prog 11 #[.int .i64 a, .int .i64 b] w fun e w' => e = .returned (.bool true) ∧ Below w.heap.size w w' := by
  have hk := Below.refl w.heap.size w
  have H := Lib.hid h
  clear h
  have N1 := Lib.hid n1
  clear n1
  have N2 := Lib.hid n2
  clear n2
  have N3 := Lib.hid n3
  clear n3
  go_enter Try.func11, Try.ntmps11
  go_wp2_with (first | (go_at_call 31; (with_reducible refine (coarse_from a b 0 _ w H.out (by assumption)).mono ?_); rintro e w1 ⟨rfl, hb⟩) | (go_at_call 32; (with_reducible refine (same_from (coarseRef_is a b 0 _ H.out) (by assumption)).mono ?_); rintro e w1 ⟨rfl, hb⟩))
  refine wp_loop_rounds 5 ?_
  rw [rounds_succ]
  go_wp2_with (first | (go_at_call 33; (with_reducible refine (res_from 0 1 _ w (by decide) (by assumption)).mono ?_); rintro e w1 ⟨rfl, hb⟩))
  rw [rounds_succ]
  go_wp2_with (first | (go_at_call 33; (with_reducible refine (res_from 1 6 _ w (by decide) (by assumption)).mono ?_); rintro e w1 ⟨rfl, hb⟩))
  rw [rounds_succ]
  go_wp2_with (first | (go_at_call 33; (with_reducible refine (res_from 2 360 _ w (by decide) (by assumption)).mono ?_); rintro e w1 ⟨rfl, hb⟩))
  rw [rounds_succ]
  go_wp2_with (first | (go_at_call 33; (with_reducible refine (res_from 3 8640 _ w (by decide) (by assumption)).mono ?_); rintro e w1 ⟨rfl, hb⟩))
  rw [rounds_succ]
  go_wp2_with (first | (go_at_call 33; (with_reducible refine (res_from 0 1 _ w (by decide) (by assumption)).mono ?_); rintro e w1 ⟨rfl, hb⟩))
  refine wp_loop_rounds 4 ?_
  all_goals
    rw [rounds_succ]
    go_wp2_with (first | (go_at_call 33; (with_reducible refine (res_from 1 6 _ w (by decide) (by assumption)).mono ?_); rintro e w1 ⟨rfl, hb⟩))
  any_goals
    exfalso
    have n := N1.out
    simp only [beq_iff_eq, beq_eq_false_iff_ne, ne_eq, tz6, tz360, tz8640] at *
    omega
  all_goals
    rw [rounds_succ]
    go_wp2_with (first | (go_at_call 33; (with_reducible refine (res_from 2 360 _ w (by decide) (by assumption)).mono ?_); rintro e w1 ⟨rfl, hb⟩))
  any_goals
    exfalso
    have n := N2.out
    simp only [beq_iff_eq, beq_eq_false_iff_ne, ne_eq, tz6, tz360, tz8640] at *
    omega
  all_goals
    rw [rounds_succ]
    go_wp2_with (first | (go_at_call 33; (with_reducible refine (res_from 3 8640 _ w (by decide) (by assumption)).mono ?_); rintro e w1 ⟨rfl, hb⟩))
  any_goals
    exfalso
    have n := N3.out
    simp only [beq_iff_eq, beq_eq_false_iff_ne, ne_eq, tz6, tz360, tz8640] at *
    omega
  all_goals
    rw [rounds_succ]
    go_wp2_with (first | (go_at_call 28; (with_reducible refine (awake_from _ w (by assumption)).mono ?_); rintro e w1 ⟨rfl, hb⟩))
    go_ret
    exact ⟨rfl, by assumption⟩
theorem calCoarse_1 (a b : Int) (w : World) (h : coarI a b = 1) (ha : a.tmod 6 = 0) (hb0 : b.tmod 6 = 0) (n2 : ¬ (a % 360 = 0 ∧ b % 360 = 0)) (n3 : ¬ (a % 8640 = 0 ∧ b % 8640 = 0)) :
    Calls Try.prog 11 #[.int .i64 a, .int .i64 b] w fun e w' => e = .returned (.bool true) ∧ Below w.heap.size w w' := by
  have hk := Below.refl w.heap.size w
  have H := Lib.hid h
  clear h
  have N2 := Lib.hid n2
  clear n2
  have N3 := Lib.hid n3
  clear n3
  go_enter Try.func11, Try.ntmps11
  go_wp2_with (first | (go_at_call 31; (with_reducible refine (coarse_from a b 1 _ w H.out (by assumption)).mono ?_); rintro e w1 ⟨rfl, hb⟩) | (go_at_call 32; (with_reducible refine (same_from (coarseRef_is a b 1 _ H.out) (by assumption)).mono ?_); rintro e w1 ⟨rfl, hb⟩))
  refine wp_loop_rounds 5 ?_
  rw [rounds_succ]
  go_wp2_with (first | (go_at_call 33; (with_reducible refine (res_from 0 1 _ w (by decide) (by assumption)).mono ?_); rintro e w1 ⟨rfl, hb⟩))
  rw [rounds_succ]
  go_wp2_with (first | (go_at_call 33; (with_reducible refine (res_from 1 6 _ w (by decide) (by assumption)).mono ?_); rintro e w1 ⟨rfl, hb⟩))
  rw [rounds_succ]
  go_wp2_with (first | (go_at_call 33; (with_reducible refine (res_from 2 360 _ w (by decide) (by assumption)).mono ?_); rintro e w1 ⟨rfl, hb⟩))
  rw [rounds_succ]
  go_wp2_with (first | (go_at_call 33; (with_reducible refine (res_from 3 8640 _ w (by decide) (by assumption)).mono ?_); rintro e w1 ⟨rfl, hb⟩))
  rw [rounds_succ]
  go_wp2_with (first | (go_at_call 33; (with_reducible refine (res_from 1 6 _ w (by decide) (by assumption)).mono ?_); rintro e w1 ⟨rfl, hb⟩))
  refine wp_loop_rounds 3 ?_
  all_goals
    rw [rounds_succ]
    go_wp2_with (first | (go_at_call 33; (with_reducible refine (res_from 2 360 _ w (by decide) (by assumption)).mono ?_); rintro e w1 ⟨rfl, hb⟩))
  any_goals
    exfalso
    have n := N2.out
    simp only [beq_iff_eq, beq_eq_false_iff_ne, ne_eq, tz6, tz360, tz8640] at *
    omega
  all_goals
    rw [rounds_succ]
    go_wp2_with (first | (go_at_call 33; (with_reducible refine (res_from 3 8640 _ w (by decide) (by assumption)).mono ?_); rintro e w1 ⟨rfl, hb⟩))
  any_goals
    exfalso
    have n := N3.out
    simp only [beq_iff_eq, beq_eq_false_iff_ne, ne_eq, tz6, tz360, tz8640] at *
    omega
  all_goals
    rw [rounds_succ]
    go_wp2_with (first | (go_at_call 28; (with_reducible refine (awake_from _ w (by assumption)).mono ?_); rintro e w1 ⟨rfl, hb⟩))
    go_ret
    exact ⟨rfl, by assumption⟩
theorem calCoarse_2 (a b : Int) (w : World) (h : coarI a b = 2) (ha : a.tmod 360 = 0) (hb0 : b.tmod 360 = 0) (n3 : ¬ (a % 8640 = 0 ∧ b % 8640 = 0)) :
    Calls Try.prog 11 #[.int .i64 a, .int .i64 b] w fun e w' => e = .returned (.bool true) ∧ Below w.heap.size w w' := by
  have hk := Below.refl w.heap.size w
  have H := Lib.hid h
  clear h
  have N3 := Lib.hid n3
  clear n3
  go_enter Try.func11, Try.ntmps11
  go_wp2_with (first | (go_at_call 31; (with_reducible refine (coarse_from a b 2 _ w H.out (by assumption)).mono ?_); rintro e w1 ⟨rfl, hb⟩) | (go_at_call 32; (with_reducible refine (same_from (coarseRef_is a b 2 _ H.out) (by assumption)).mono ?_); rintro e w1 ⟨rfl, hb⟩))
  refine wp_loop_rounds 5 ?_
  rw [rounds_succ]
  go_wp2_with (first | (go_at_call 33; (with_reducible refine (res_from 0 1 _ w (by decide) (by assumption)).mono ?_); rintro e w1 ⟨rfl, hb⟩))
  rw [rounds_succ]
  go_wp2_with (first | (go_at_call 33; (with_reducible refine (res_from 1 6 _ w (by decide) (by assumption)).mono ?_); rintro e w1 ⟨rfl, hb⟩))
  rw [rounds_succ]
  go_wp2_with (first | (go_at_call 33; (with_reducible refine (res_from 2 360 _ w (by decide) (by assumption)).mono ?_); rintro e w1 ⟨rfl, hb⟩))
  rw [rounds_succ]
  go_wp2_with (first | (go_at_call 33; (with_reducible refine (res_from 3 8640 _ w (by decide) (by assumption)).mono ?_); rintro e w1 ⟨rfl, hb⟩))
  rw [rounds_succ]
  go_wp2_with (first | (go_at_call 33; (with_reducible refine (res_from 2 360 _ w (by decide) (by assumption)).mono ?_); rintro e w1 ⟨rfl, hb⟩))
  refine wp_loop_rounds 2 ?_
  all_goals
    rw [rounds_succ]
    go_wp2_with (first | (go_at_call 33; (with_reducible refine (res_from 3 8640 _ w (by decide) (by assumption)).mono ?_); rintro e w1 ⟨rfl, hb⟩))
  any_goals
    exfalso
    have n := N3.out
    simp only [beq_iff_eq, beq_eq_false_iff_ne, ne_eq, tz6, tz360, tz8640] at *
    omega
  all_goals
    rw [rounds_succ]
    go_wp2_with (first | (go_at_call 28; (with_reducible refine (awake_from _ w (by assumption)).mono ?_); rintro e w1 ⟨rfl, hb⟩))
    go_ret
    exact ⟨rfl, by assumption⟩
theorem calCoarse_3 (a b : Int) (w : World) (h : coarI a b = 3) (ha : a.tmod 8640 = 0) (hb0 : b.tmod 8640 = 0) :
    Calls Try.prog 11 #[.int .i64 a, .int .i64 b] w fun e w' => e = .returned (.bool true) ∧ Below w.heap.size w w' := by
  have hk := Below.refl w.heap.size w
  have H := Lib.hid h
  clear h
  go_enter Try.func11, Try.ntmps11
  go_wp2_with (first | (go_at_call 31; (with_reducible refine (coarse_from a b 3 _ w H.out (by assumption)).mono ?_); rintro e w1 ⟨rfl, hb⟩) | (go_at_call 32; (with_reducible refine (same_from (coarseRef_is a b 3 _ H.out) (by assumption)).mono ?_); rintro e w1 ⟨rfl, hb⟩))
  refine wp_loop_rounds 5 ?_
  rw [rounds_succ]
  go_wp2_with (first | (go_at_call 33; (with_reducible refine (res_from 0 1 _ w (by decide) (by assumption)).mono ?_); rintro e w1 ⟨rfl, hb⟩))
  rw [rounds_succ]
  go_wp2_with (first | (go_at_call 33; (with_reducible refine (res_from 1 6 _ w (by decide) (by assumption)).mono ?_); rintro e w1 ⟨rfl, hb⟩))
  rw [rounds_succ]
  go_wp2_with (first | (go_at_call 33; (with_reducible refine (res_from 2 360 _ w (by decide) (by assumption)).mono ?_); rintro e w1 ⟨rfl, hb⟩))
  rw [rounds_succ]
  go_wp2_with (first | (go_at_call 33; (with_reducible refine (res_from 3 8640 _ w (by decide) (by assumption)).mono ?_); rintro e w1 ⟨rfl, hb⟩))
  rw [rounds_succ]
  go_wp2_with (first | (go_at_call 33; (with_reducible refine (res_from 3 8640 _ w (by decide) (by assumption)).mono ?_); rintro e w1 ⟨rfl, hb⟩))
  refine wp_loop_rounds 1 ?_
  all_goals
    rw [rounds_succ]
    go_wp2_with (first | (go_at_call 28; (with_reducible refine (awake_from _ w (by assumption)).mono ?_); rintro e w1 ⟨rfl, hb⟩))
    go_ret
    exact ⟨rfl, by assumption⟩
theorem calCoarse_walk (a b : Int) (w : World) :
    Calls Try.prog 11 #[.int .i64 a, .int .i64 b] w fun e w' => e = .returned (.bool true) ∧ Below w.heap.size w w' := by
  rcases coarI_cases a b with ⟨h, h1, h2⟩ | ⟨h, h1, h2, n3⟩ | ⟨h, h1, h2, n2, n3⟩ | ⟨h, n1, n2, n3⟩
  · exact calCoarse_3 a b w h ((tz8640 a).2 h1) ((tz8640 b).2 h2)
  · exact calCoarse_2 a b w h ((tz360 a).2 h1) ((tz360 b).2 h2) n3
  · exact calCoarse_1 a b w h ((tz6 a).2 h1) ((tz6 b).2 h2) n2 n3
  · exact calCoarse_0 a b w h n1 n2 n3
end Go.Proofs.Ytkeepinbfgepmaa
