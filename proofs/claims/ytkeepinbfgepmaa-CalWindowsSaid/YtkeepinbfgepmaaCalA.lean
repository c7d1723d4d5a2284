/- Contracts of the calendar's small functions: the rest of a division, a level's size, rounding down, a day's first slot. -/
import Derived.Test.YtkeepinbfgepmaaRows
import Derived.WalkKit
import Derived.WalkSpells
import Derived.WalkLawsBesides
import Derived.Deep.QuietTactic
import Derived.BigQuiet
import Derived.Lib.Hide
namespace Go.Proofs.Ytkeepinbfgepmaa
open Go.RowKit

theorem ret_i {k : IntKind} {a b : Int} (h : a = b) : Ending.returned (.int k a) = .returned (.int k b) := by rw [h]
theorem ret_b {a b : Bool} (h : a = b) : Ending.returned (.bool a) = .returned (.bool b) := by rw [h]

theorem rest_eq (n s : Int) (h2 : 1 ≤ s) (h3 : s ≤ 8640) : (wrap64 (n.tmod s + s)).tmod s = n % s := by
  have a1 := Int.tmod_lt_of_pos n (show 0 < s by omega)
  have a2 : -s < n.tmod s := by
    have := Int.tmod_lt_of_pos (-n) (show 0 < s by omega)
    rw [Int.neg_tmod] at this
    omega
  have e : wrap64 (n.tmod s + s) = n.tmod s + s := by unfold wrap64; omega
  rw [e, Int.tmod_eq_emod_of_nonneg (by omega), Int.add_emod_right]
  rw [Int.tmod_def, Int.sub_emod, Int.mul_comm, Int.mul_emod_left]
  simp

theorem rest_any (n s : Int) (w : World) (h2 : 1 ≤ s) (h3 : s ≤ 8640) :
    Calls Try.prog 44 #[.int .i64 n, .int .i64 s] w fun e w' => e = .returned (.int .i64 (n % s)) ∧ w = w' := by
  go_enter Try.func44, Try.ntmps44
  go_wp2
  go_ret
  exact ⟨ret_i (rest_eq n s h2 h3), rfl⟩

def resI (l : Int) : Int := if l = 0 then 1 else if l = 1 then 6 else if l = 2 then 360 else if l = 3 then 8640 else 0
theorem resI_cases (l : Int) : (l = 0 ∧ resI l = 1) ∨ (l = 1 ∧ resI l = 6) ∨ (l = 2 ∧ resI l = 360) ∨ (l = 3 ∧ resI l = 8640) ∨ ((l < 0 ∨ 3 < l) ∧ resI l = 0) := by
  unfold resI; split <;> (try split) <;> (try split) <;> (try split) <;> omega

theorem res_out (l : Int) (w : World) (h : l < 0 ∨ 4 ≤ l) :
    Calls Try.prog 33 #[.int .i64 l] w fun e w' => e = .returned (.int .i64 (resI l)) ∧ Below w.heap.size w w' := by
  have hr : resI l = 0 := by rcases resI_cases l with h | h | h | h | h <;> omega
  rw [hr]
  clear hr
  rcases h with h | h
  all_goals
    go_enter Try.func33, Try.ntmps33
    go_wp2
    go_ret
    exact ⟨rfl, (Below.refl _ _).alloc (Nat.le_refl _) _⟩

theorem res_any (l : Int) (w : World) :
    Calls Try.prog 33 #[.int .i64 l] w fun e w' => e = .returned (.int .i64 (resI l)) ∧ Below w.heap.size w w' := by
  by_cases h : l < 0 ∨ 4 ≤ l
  · exact res_out l w h
  · obtain rfl | rfl | rfl | rfl : l = 0 ∨ l = 1 ∨ l = 2 ∨ l = 3 := by omega
    all_goals
      clear h
      go_enter Try.func33, Try.ntmps33
      go_wp2
      go_ret
      exact ⟨rfl, (Below.refl _ _).alloc (Nat.le_refl _) _⟩

/-- 'varveref15.Res': the document's -/
theorem resRef_any (l : Int) (w : World) :
    Calls Try.prog 37 #[.int .i64 l] w fun e w' => e = .returned (.int .i64 (resI l)) ∧ w = w' := by
  by_cases h : l < 0 ∨ 4 ≤ l
  · have hr : resI l = 0 := by rcases resI_cases l with h | h | h | h | h <;> omega
    rw [hr]
    clear hr
    have e0 : (l == 0) = false := by simp; omega
    have e1 : (l == 1) = false := by simp; omega
    have e2 : (l == 2) = false := by simp; omega
    have e3 : (l == 3) = false := by simp; omega
    go_enter Try.func37, Try.ntmps37
    go_wp2
    go_ret
    exact ⟨rfl, rfl⟩
  · obtain rfl | rfl | rfl | rfl : l = 0 ∨ l = 1 ∨ l = 2 ∨ l = 3 := by omega
    all_goals
      clear h
      go_enter Try.func37, Try.ntmps37
      go_wp2
      go_ret
      exact ⟨rfl, rfl⟩

/-- rounding down -/
def floorI (at_ l : Int) : Int :=
  if resI l = 0 then at_ else if at_ < -9223372036854775808 + at_ % resI l then at_ - at_ % resI l + resI l else at_ - at_ % resI l

theorem res_is (l r : Int) (w : World) (h : resI l = r) :
    Calls Try.prog 33 #[.int .i64 l] w fun e w' => e = .returned (.int .i64 r) ∧ Below w.heap.size w w' := by
  rw [← h]; exact res_any l w
theorem resRef_is (l r : Int) (w : World) (h : resI l = r) :
    Calls Try.prog 37 #[.int .i64 l] w fun e w' => e = .returned (.int .i64 r) ∧ w = w' := by
  rw [← h]; exact resRef_any l w
theorem rest_is (n s x : Int) (w : World) (h : n % s = x) (h2 : 1 ≤ s) (h3 : s ≤ 8640) :
    Calls Try.prog 44 #[.int .i64 n, .int .i64 s] w fun e w' => e = .returned (.int .i64 x) ∧ w = w' := by
  rw [← h]; exact rest_any n s w h2 h3

theorem floor_any (a l : Int) (w : World) (h0 : -9223372036854775808 ≤ a) (h1 : a ≤ 9223372036854775807) :
    Calls Try.prog 34 #[.int .i64 a, .int .i64 l] w fun e w' => e = .returned (.int .i64 (floorI a l)) ∧ Below w.heap.size w w' := by
  have hc := resI_cases l
  unfold floorI
  generalize hr : resI l = r at *
  have Hr := Lib.hid hr
  clear hr
  have hlo : 0 ≤ r ∧ r ≤ 8640 := by omega
  clear hc
  by_cases c : r = 0
  · subst c
    clear hlo
    go_enter Try.func34, Try.ntmps34
    go_wp2_with (go_at_call 33; refine (res_is _ _ _ Hr.out).mono ?_; rintro e w' ⟨rfl, hb⟩)
    go_ret
    refine ⟨by simp, ?_⟩
    assumption
  · have hm0 := Int.emod_nonneg a c
    have hm1 := Int.emod_lt_of_pos a (show 0 < r by omega)
    have c' : (r == 0) = false := by simp [c]
    generalize hx : a % r = x at *
    have Hx := Lib.hid hx
    clear hx
    have hr1 : 1 ≤ r := by omega
    by_cases d : a < -9223372036854775808 + x
    all_goals
      go_enter Try.func34, Try.ntmps34
      go_wp2_with (first | (go_at_call 33; refine (res_is _ _ _ Hr.out).mono ?_; rintro e w' ⟨rfl, hb⟩) | (go_at_call 44; refine (rest_is _ _ _ _ Hx.out (by omega) (by omega)).mono ?_; rintro e w' ⟨rfl, rfl⟩))
      go_ret
      refine ⟨ret_i ?_, by assumption⟩
      omega
end Go.Proofs.Ytkeepinbfgepmaa
