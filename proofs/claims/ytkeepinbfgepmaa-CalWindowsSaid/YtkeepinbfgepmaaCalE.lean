/- Contracts of the coarsest level of a start and a step, the program's and the document's; the day that wakes the laws. -/
import Derived.Test.YtkeepinbfgepmaaCalD
namespace Go.Proofs.Ytkeepinbfgepmaa
open Go.RowKit
set_option linter.unusedSimpArgs false
def coarI (a b : Int) : Int := if a % 8640 = 0 ∧ b % 8640 = 0 then 3 else if a % 360 = 0 ∧ b % 360 = 0 then 2 else if a % 6 = 0 ∧ b % 6 = 0 then 1 else 0
theorem tmod_zero (a r : Int) (h : 1 ≤ r) : a.tmod r = 0 ↔ a % r = 0 := by
  rcases tmod_cases a r h with ⟨h1, h2, h3⟩ | ⟨h1, h2, h3⟩ <;> omega
theorem tz6 (a : Int) : a.tmod 6 = 0 ↔ a % 6 = 0 := tmod_zero a 6 (by omega)
theorem tz360 (a : Int) : a.tmod 360 = 0 ↔ a % 360 = 0 := tmod_zero a 360 (by omega)
theorem tz8640 (a : Int) : a.tmod 8640 = 0 ↔ a % 8640 = 0 := tmod_zero a 8640 (by omega)
theorem res_from (l r : Int) (w w0 : World) (h : resI l = r) (hk : Below w0.heap.size w0 w) :
    Calls Try.prog 33 #[.int .i64 l] w fun e w' => e = .returned (.int .i64 r) ∧ Below w0.heap.size w0 w' :=
  (res_is l r w h).mono fun _ _ ⟨he, hb⟩ => ⟨he, hk.trans (hb.mono hk.size)⟩
set_option maxHeartbeats 1000000 in
theorem coarsest_any (a b : Int) (w : World) :
    Calls Try.prog 31 #[.int .i64 a, .int .i64 b] w fun e w' => e = .returned (.int .i64 (coarI a b)) ∧ Below w.heap.size w w' := by
  have hk := Below.refl w.heap.size w
  go_enter Try.func31, Try.ntmps31
  go_wp2
  refine wp_loop_rounds 5 ?_
  rw [rounds_succ]
  go_wp2_with (go_at_call 33; (with_reducible refine (res_from 0 1 _ w (by decide) (by assumption)).mono ?_); rintro e w1 ⟨rfl, hb⟩)
  rw [rounds_succ]
  go_wp2_with (go_at_call 33; (with_reducible refine (res_from 1 6 _ w (by decide) (by assumption)).mono ?_); rintro e w1 ⟨rfl, hb⟩)
  all_goals
    rw [rounds_succ]
    go_wp2_with (go_at_call 33; (with_reducible refine (res_from 2 360 _ w (by decide) (by assumption)).mono ?_); rintro e w1 ⟨rfl, hb⟩)
  all_goals
    rw [rounds_succ]
    go_wp2_with (go_at_call 33; (with_reducible refine (res_from 3 8640 _ w (by decide) (by assumption)).mono ?_); rintro e w1 ⟨rfl, hb⟩)
  all_goals
    rw [rounds_succ]
    go_wp2
    go_ret
    refine ⟨ret_i ?_, by assumption⟩
    simp only [beq_iff_eq, beq_eq_false_iff_ne, ne_eq, tz6, tz360, tz8640] at *
    unfold coarI
    (repeat' split) <;> omega
set_option maxHeartbeats 1000000 in
theorem coarsestRef_any (a b : Int) (w : World) :
    Calls Try.prog 32 #[.int .i64 a, .int .i64 b] w fun e w' => e = .returned (.int .i64 (coarI a b)) ∧ w = w' := by
  go_enter Try.func32, Try.ntmps32
  go_wp2
  refine wp_loop_rounds 4 ?_
  all_goals
    rw [rounds_succ]
    go_wp2_with (go_at_call 37; (with_reducible refine (resRef_is 3 8640 _ (by decide)).mono ?_); rintro e w1 ⟨rfl, rfl⟩)
  any_goals
    go_ret
    refine ⟨ret_i ?_, rfl⟩
    simp only [beq_iff_eq, beq_eq_false_iff_ne, ne_eq, tz6, tz360, tz8640] at *
    unfold coarI
    (repeat' split) <;> omega
  all_goals
    rw [rounds_succ]
    go_wp2_with (go_at_call 37; (with_reducible refine (resRef_is 2 360 _ (by decide)).mono ?_); rintro e w1 ⟨rfl, rfl⟩)
  any_goals
    go_ret
    refine ⟨ret_i ?_, rfl⟩
    simp only [beq_iff_eq, beq_eq_false_iff_ne, ne_eq, tz6, tz360, tz8640] at *
    unfold coarI
    (repeat' split) <;> omega
  all_goals
    rw [rounds_succ]
    go_wp2_with (go_at_call 37; (with_reducible refine (resRef_is 1 6 _ (by decide)).mono ?_); rintro e w1 ⟨rfl, rfl⟩)
  any_goals
    go_ret
    refine ⟨ret_i ?_, rfl⟩
    simp only [beq_iff_eq, beq_eq_false_iff_ne, ne_eq, tz6, tz360, tz8640] at *
    unfold coarI
    (repeat' split) <;> omega
  all_goals
    rw [rounds_succ]
    go_wp2
  any_goals
    go_ret
    refine ⟨ret_i ?_, rfl⟩
    simp only [beq_iff_eq, beq_eq_false_iff_ne, ne_eq, tz6, tz360, tz8640] at *
    unfold coarI
    (repeat' split) <;> omega

theorem conf_any (w w0 : World) (hk : Below w0.heap.size w0 w) : Calls Try.prog 45 #[] w fun e w' => e = .returned (.agg #[.int .i64 0, .int .i64 1, .int .i64 2, .int .i64 3, .int .i64 4]) ∧ Below w0.heap.size w0 w' := by
  go_enter Try.func45, Try.ntmps45
  go_wp2
  go_returns
  have hs := hk.size
  exact ⟨rfl, hk.alloc hs _⟩
theorem hor_wakes (w w0 : World) (hk : Below w0.heap.size w0 w) : Calls Try.prog 27 #[.agg #[.int .i64 0, .int .i64 1, .int .i64 2, .int .i64 3, .int .i64 4], .int .i64 86405, .int .i64 0] w fun e w' => e = .returned (.int .i64 77760) ∧ Below w0.heap.size w0 w' :=
  (horizon_is 0 1 2 3 4 86405 0 77760 w (by decide +kernel)).mono fun _ _ ⟨he, hb⟩ => ⟨he, hk.trans (hb.mono hk.size)⟩
theorem lev_wakes (day t r : Int) (w w0 : World) (ht : timesI day = t) (hr : levI 77760 69120 60480 51840 t = r) (hk : Below w0.heap.size w0 w) :
    Calls Try.prog 26 #[.agg #[.int .i64 0, .int .i64 1, .int .i64 2, .int .i64 3, .int .i64 4], .int .i64 86405, .int .i64 day] w fun e w' => e = .returned (.int .i64 r) ∧ Below w0.heap.size w0 w' := by
  subst hr
  exact (level_is 0 1 2 3 4 86405 day 77760 69120 60480 51840 t w (Lib.hid (by decide +kernel)) (Lib.hid (by decide +kernel)) (Lib.hid (by decide +kernel)) (Lib.hid (by decide +kernel)) (Lib.hid ht)).mono fun _ _ ⟨he, hb⟩ => ⟨he, hk.trans (hb.mono hk.size)⟩

theorem awake_from (w w0 : World) (hk : Below w0.heap.size w0 w) : Calls Try.prog 28 #[] w fun e w' => e = .returned (.bool true) ∧ Below w0.heap.size w0 w' := by
  go_enter Try.func28, Try.ntmps28
  go_wp2_with (first | (go_at_call 45; (with_reducible refine (conf_any _ w0 (by assumption)).mono ?_); rintro e w1 ⟨rfl, hb⟩) | (go_at_call 27; (with_reducible refine (hor_wakes _ w0 (by assumption)).mono ?_); rintro e w1 ⟨rfl, hb⟩) | (go_at_call 26; (with_reducible refine (lev_wakes 9 77760 0 _ w0 (by decide +kernel) (by decide +kernel) (by assumption)).mono ?_); rintro e w1 ⟨rfl, hb⟩) | (go_at_call 26; (with_reducible refine (lev_wakes 8 69120 1 _ w0 (by decide +kernel) (by decide +kernel) (by assumption)).mono ?_); rintro e w1 ⟨rfl, hb⟩) | (go_at_call 26; (with_reducible refine (lev_wakes 6 51840 3 _ w0 (by decide +kernel) (by decide +kernel) (by assumption)).mono ?_); rintro e w1 ⟨rfl, hb⟩) | (go_at_call 26; (with_reducible refine (lev_wakes 5 43200 4 _ w0 (by decide +kernel) (by decide +kernel) (by assumption)).mono ?_); rintro e w1 ⟨rfl, hb⟩) | (go_at_call 33; (with_reducible refine (res_from 1 6 _ w0 (by decide) (by assumption)).mono ?_); rintro e w1 ⟨rfl, hb⟩))
  go_ret
  exact ⟨rfl, by assumption⟩
end Go.Proofs.Ytkeepinbfgepmaa
