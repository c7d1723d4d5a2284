/- Contracts of the calendar's checks, the program's and the document's. -/
import Derived.Test.YtkeepinbfgepmaaCalB
import Derived.Handy
namespace Go.Proofs.Ytkeepinbfgepmaa
open Go.RowKit
def checkI (s k0 k1 k2 k3 : Int) : Bool := decide (0 ≤ s ∧ s ≤ 8640000 ∧ 1 ≤ k0 ∧ k0 ≤ 100000 ∧ k0 ≤ k1 ∧ k1 ≤ 100000 ∧ k1 ≤ k2 ∧ k2 ≤ 100000 ∧ k2 ≤ k3 ∧ k3 ≤ 100000)
theorem check_any (s k0 k1 k2 k3 : Int) (w : World) :
    Calls Try.prog 36 #[.agg #[.int .i64 s, .int .i64 k0, .int .i64 k1, .int .i64 k2, .int .i64 k3]] w fun e w' => e = .returned (.bool (checkI s k0 k1 k2 k3)) ∧ Below w.heap.size w w' := by
  go_enter Try.func36, Try.ntmps36
  go_wp2
  any_goals
    go_rounds 6
  all_goals
    go_ret
    exact ⟨ret_b (by unfold checkI; simp; omega), (Below.refl _ _).alloc (Nat.le_refl _) _⟩


set_option maxHeartbeats 8000000 in
theorem checkRef_any (s k0 k1 k2 k3 : Int) (w : World) :
    Calls Try.prog 25 #[.agg #[.int .i64 s, .int .i64 k0, .int .i64 k1, .int .i64 k2, .int .i64 k3]] w fun e w' => e = .returned (.bool (checkI s k0 k1 k2 k3)) ∧ Below w.heap.size w w' := by
  by_cases h1 : s < 0
  · go_enter Try.func25, Try.ntmps25
    go_wp2
    go_ret
    exact ⟨ret_b (by unfold checkI; simp; omega), (Below.refl _ _).alloc (Nat.le_refl _) _⟩
  by_cases h2 : 8640000 < s
  · go_enter Try.func25, Try.ntmps25
    go_wp2
    go_ret
    exact ⟨ret_b (by unfold checkI; simp; omega), (Below.refl _ _).alloc (Nat.le_refl _) _⟩
  go_enter Try.func25, Try.ntmps25
  go_wp2
  refine wp_loop_rounds 5 ?_
  by_cases a0 : k0 < 1
  · have da0 : decide (k0 < 1) = true := by simp; omega
    rw [rounds_succ]
    go_wp2
    go_quiet (fail)
    go_wp2
    go_ret
    exact ⟨ret_b (by unfold checkI; simp; omega), by repeat (first | exact (Below.refl _ _).alloc (Nat.le_refl _) _ | refine below_drewN ?_ _)⟩
  have da0 : decide (k0 < 1) = false := by simp; omega
  by_cases b0 : 100000 < k0
  · have db0 : decide (100000 < k0) = true := by simp; omega
    rw [rounds_succ]
    go_wp2
    go_quiet (fail)
    go_wp2
    go_ret
    exact ⟨ret_b (by unfold checkI; simp; omega), by repeat (first | exact (Below.refl _ _).alloc (Nat.le_refl _) _ | refine below_drewN ?_ _)⟩
  have db0 : decide (100000 < k0) = false := by simp; omega
  rw [rounds_succ]
  go_wp2
  go_quiet (fail)
  go_wp2
  by_cases a1 : k1 < 1
  · have da1 : decide (k1 < 1) = true := by simp; omega
    rw [rounds_succ]
    go_wp2
    go_quiet (fail)
    go_wp2
    go_ret
    exact ⟨ret_b (by unfold checkI; simp; omega), by repeat (first | exact (Below.refl _ _).alloc (Nat.le_refl _) _ | refine below_drewN ?_ _)⟩
  have da1 : decide (k1 < 1) = false := by simp; omega
  by_cases b1 : 100000 < k1
  · have db1 : decide (100000 < k1) = true := by simp; omega
    rw [rounds_succ]
    go_wp2
    go_quiet (fail)
    go_wp2
    go_ret
    exact ⟨ret_b (by unfold checkI; simp; omega), by repeat (first | exact (Below.refl _ _).alloc (Nat.le_refl _) _ | refine below_drewN ?_ _)⟩
  have db1 : decide (100000 < k1) = false := by simp; omega
  by_cases c1 : k1 < k0
  · have dc1 : decide (k1 < k0) = true := by simp; omega
    rw [rounds_succ]
    go_wp2
    go_quiet (fail)
    go_wp2
    go_ret
    exact ⟨ret_b (by unfold checkI; simp; omega), by repeat (first | exact (Below.refl _ _).alloc (Nat.le_refl _) _ | refine below_drewN ?_ _)⟩
  have dc1 : decide (k1 < k0) = false := by simp; omega
  rw [rounds_succ]
  go_wp2
  go_quiet (fail)
  go_wp2
  by_cases a2 : k2 < 1
  · have da2 : decide (k2 < 1) = true := by simp; omega
    rw [rounds_succ]
    go_wp2
    go_quiet (fail)
    go_wp2
    go_ret
    exact ⟨ret_b (by unfold checkI; simp; omega), by repeat (first | exact (Below.refl _ _).alloc (Nat.le_refl _) _ | refine below_drewN ?_ _)⟩
  have da2 : decide (k2 < 1) = false := by simp; omega
  by_cases b2 : 100000 < k2
  · have db2 : decide (100000 < k2) = true := by simp; omega
    rw [rounds_succ]
    go_wp2
    go_quiet (fail)
    go_wp2
    go_ret
    exact ⟨ret_b (by unfold checkI; simp; omega), by repeat (first | exact (Below.refl _ _).alloc (Nat.le_refl _) _ | refine below_drewN ?_ _)⟩
  have db2 : decide (100000 < k2) = false := by simp; omega
  by_cases c2 : k2 < k1
  · have dc2 : decide (k2 < k1) = true := by simp; omega
    rw [rounds_succ]
    go_wp2
    go_quiet (fail)
    go_wp2
    go_ret
    exact ⟨ret_b (by unfold checkI; simp; omega), by repeat (first | exact (Below.refl _ _).alloc (Nat.le_refl _) _ | refine below_drewN ?_ _)⟩
  have dc2 : decide (k2 < k1) = false := by simp; omega
  rw [rounds_succ]
  go_wp2
  go_quiet (fail)
  go_wp2
  by_cases a3 : k3 < 1
  · have da3 : decide (k3 < 1) = true := by simp; omega
    rw [rounds_succ]
    go_wp2
    go_quiet (fail)
    go_wp2
    go_ret
    exact ⟨ret_b (by unfold checkI; simp; omega), by repeat (first | exact (Below.refl _ _).alloc (Nat.le_refl _) _ | refine below_drewN ?_ _)⟩
  have da3 : decide (k3 < 1) = false := by simp; omega
  by_cases b3 : 100000 < k3
  · have db3 : decide (100000 < k3) = true := by simp; omega
    rw [rounds_succ]
    go_wp2
    go_quiet (fail)
    go_wp2
    go_ret
    exact ⟨ret_b (by unfold checkI; simp; omega), by repeat (first | exact (Below.refl _ _).alloc (Nat.le_refl _) _ | refine below_drewN ?_ _)⟩
  have db3 : decide (100000 < k3) = false := by simp; omega
  by_cases c3 : k3 < k2
  · have dc3 : decide (k3 < k2) = true := by simp; omega
    rw [rounds_succ]
    go_wp2
    go_quiet (fail)
    go_wp2
    go_ret
    exact ⟨ret_b (by unfold checkI; simp; omega), by repeat (first | exact (Below.refl _ _).alloc (Nat.le_refl _) _ | refine below_drewN ?_ _)⟩
  have dc3 : decide (k3 < k2) = false := by simp; omega
  rw [rounds_succ]
  go_wp2
  go_quiet (fail)
  go_wp2
  rw [rounds_succ]
  go_wp2
  go_ret
  exact ⟨ret_b (by unfold checkI; simp; omega), by repeat (first | exact (Below.refl _ _).alloc (Nat.le_refl _) _ | refine below_drewN ?_ _)⟩
end Go.Proofs.Ytkeepinbfgepmaa
