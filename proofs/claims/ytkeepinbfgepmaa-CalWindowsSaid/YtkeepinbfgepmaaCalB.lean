/- Contracts of the calendar's horizons, the program's and the document's, at any numbers. -/
import Derived.Test.YtkeepinbfgepmaaCalA
namespace Go.Proofs.Ytkeepinbfgepmaa
open Go.RowKit

theorem tmod_cases (a r : Int) (h : 1 ≤ r) : (a.tmod r < 0 ∧ a % r = a.tmod r + r ∧ -r < a.tmod r) ∨ (0 ≤ a.tmod r ∧ a % r = a.tmod r ∧ a.tmod r < r) := by
  have a1 := Int.tmod_lt_of_pos a (show 0 < r by omega)
  have a2 : -r < a.tmod r := by
    have := Int.tmod_lt_of_pos (-a) (show 0 < r by omega)
    rw [Int.neg_tmod] at this
    omega
  have e : (a.tmod r + r) % r = a % r := by
    rw [Int.add_emod_right, Int.tmod_def, Int.sub_emod, Int.mul_comm, Int.mul_emod_left]
    simp
  by_cases d : a.tmod r < 0
  · left; refine ⟨d, ?_, a2⟩; rw [← e, Int.emod_eq_of_lt (by omega) (by omega)]
  · right; refine ⟨by omega, ?_, a1⟩; rw [← e, Int.add_emod_right, Int.emod_eq_of_lt (by omega) (by omega)]

theorem floorRef_any (a l : Int) (w : World) (h0 : -9223372036854775808 ≤ a) (h1 : a ≤ 9223372036854775807) :
    Calls Try.prog 35 #[.int .i64 a, .int .i64 l] w fun e w' => e = .returned (.int .i64 (floorI a l)) ∧ w = w' := by
  have hc := resI_cases l
  generalize hr : resI l = r at *
  have Hr := Lib.hid hr
  clear hr
  have hlo : 0 ≤ r ∧ r ≤ 8640 := by omega
  clear hc
  by_cases c : r = 0
  · subst c
    clear hlo
    go_enter Try.func35, Try.ntmps35
    go_wp2_with (go_at_call 37; refine (resRef_is _ _ _ Hr.out).mono ?_; rintro e w' ⟨rfl, rfl⟩)
    go_ret
    exact ⟨ret_i (by unfold floorI; rw [Hr.out]; rfl), rfl⟩
  · have c' : (r == 0) = false := by simp [c]
    have hr1 : 1 ≤ r := by omega
    rcases tmod_cases a r hr1 with ⟨t1, t2, t3⟩ | ⟨t1, t2, t3⟩
    · have T := Lib.hid t2
      clear t2
      by_cases d : a < -9223372036854775808 + (a.tmod r + r)
      all_goals
        go_enter Try.func35, Try.ntmps35
        go_wp2_with (go_at_call 37; refine (resRef_is _ _ _ Hr.out).mono ?_; rintro e w' ⟨rfl, rfl⟩)
        go_ret
        refine ⟨ret_i ?_, rfl⟩
        unfold floorI
        rw [Hr.out, T.out, if_neg c]
      · rw [if_pos d]; omega
      · rw [if_neg (by omega)]
    · have T := Lib.hid t2
      clear t2
      by_cases d : a < -9223372036854775808 + a.tmod r
      all_goals
        go_enter Try.func35, Try.ntmps35
        go_wp2_with (go_at_call 37; refine (resRef_is _ _ _ Hr.out).mono ?_; rintro e w' ⟨rfl, rfl⟩)
        go_ret
        refine ⟨ret_i ?_, rfl⟩
        unfold floorI
        rw [Hr.out, T.out, if_neg c]
      · rw [if_pos d]; omega
      · rw [if_neg (by omega)]

def timesI (d : Int) : Int := if 1067519911673006 < d then 9223372036854775807 else if d < -1067519911673006 then -9223372036854775808 else d * 8640

theorem times_any (d : Int) (w : World) : Calls Try.prog 43 #[.int .i64 d] w fun e w' => e = .returned (.int .i64 (timesI d)) ∧ w = w' := by
  unfold timesI
  by_cases h1 : 1067519911673006 < d
  · rw [if_pos h1]
    go_enter Try.func43, Try.ntmps43
    go_wp2
    go_ret
    exact ⟨rfl, rfl⟩
  · by_cases h2 : d < -1067519911673006
    · rw [if_neg h1, if_pos h2]
      go_enter Try.func43, Try.ntmps43
      go_wp2
      go_ret
      exact ⟨rfl, rfl⟩
    · rw [if_neg h1, if_neg h2]
      go_enter Try.func43, Try.ntmps43
      go_wp2
      go_ret
      exact ⟨rfl, rfl⟩

/-- the element of Keep for a level -/
def keepOf (k0 k1 k2 k3 l : Int) : Int := if l ≤ 0 then k0 else if l = 1 then k1 else if l = 2 then k2 else k3
/-- a horizon, whatever the numbers are -/
def horI (k now : Int) : Int :=
  if wrap64 ((wrap64 (now - now % 8640)).tdiv 8640) ≤ k then 0 else timesI (wrap64 (wrap64 ((wrap64 (now - now % 8640)).tdiv 8640) - k))

theorem horizon_any (s k0 k1 k2 k3 now l : Int) (w : World) :
    Calls Try.prog 27 #[.agg #[.int .i64 s, .int .i64 k0, .int .i64 k1, .int .i64 k2, .int .i64 k3], .int .i64 now, .int .i64 l] w fun e w' => e = .returned (.int .i64 (horI (keepOf k0 k1 k2 k3 l) now)) ∧ Below w.heap.size w w' := by
  have hm0 := Int.emod_nonneg now (show (8640 : Int) ≠ 0 by omega)
  have hm1 := Int.emod_lt_of_pos now (show (0 : Int) < 8640 by omega)
  obtain ⟨x, hx⟩ : ∃ x, now % 8640 = x := ⟨_, rfl⟩
  rw [hx] at hm0 hm1
  have Hx := Lib.hid hx
  clear hx
  rcases (by omega : l < 0 ∨ l = 0 ∨ l = 1 ∨ l = 2 ∨ l = 3 ∨ 3 < l) with c | c | c | c | c | c
  · have ek : keepOf k0 k1 k2 k3 l = k0 := by unfold keepOf; (repeat' split) <;> first | rfl | omega
    rw [ek]
    clear ek
    unfold horI
    rw [Hx.out]
    go_enter Try.func27, Try.ntmps27
    go_wp2_with (first | (go_at_call 44; refine (rest_is _ _ _ _ Hx.out (by omega) (by omega)).mono ?_; rintro e w' ⟨rfl, rfl⟩) | (go_at_call 43; refine (times_any _ _).mono ?_; rintro e w' ⟨rfl, rfl⟩))
    all_goals
      go_ret
      exact ⟨rfl, (Below.refl _ _).alloc (Nat.le_refl _) _⟩
  · have ek : keepOf k0 k1 k2 k3 l = k0 := by unfold keepOf; (repeat' split) <;> first | rfl | omega
    rw [ek]
    clear ek
    subst c
    unfold horI
    rw [Hx.out]
    go_enter Try.func27, Try.ntmps27
    go_wp2_with (first | (go_at_call 44; refine (rest_is _ _ _ _ Hx.out (by omega) (by omega)).mono ?_; rintro e w' ⟨rfl, rfl⟩) | (go_at_call 43; refine (times_any _ _).mono ?_; rintro e w' ⟨rfl, rfl⟩))
    all_goals
      go_ret
      exact ⟨rfl, (Below.refl _ _).alloc (Nat.le_refl _) _⟩
  · have ek : keepOf k0 k1 k2 k3 l = k1 := by unfold keepOf; (repeat' split) <;> first | rfl | omega
    rw [ek]
    clear ek
    subst c
    unfold horI
    rw [Hx.out]
    go_enter Try.func27, Try.ntmps27
    go_wp2_with (first | (go_at_call 44; refine (rest_is _ _ _ _ Hx.out (by omega) (by omega)).mono ?_; rintro e w' ⟨rfl, rfl⟩) | (go_at_call 43; refine (times_any _ _).mono ?_; rintro e w' ⟨rfl, rfl⟩))
    all_goals
      go_ret
      exact ⟨rfl, (Below.refl _ _).alloc (Nat.le_refl _) _⟩
  · have ek : keepOf k0 k1 k2 k3 l = k2 := by unfold keepOf; (repeat' split) <;> first | rfl | omega
    rw [ek]
    clear ek
    subst c
    unfold horI
    rw [Hx.out]
    go_enter Try.func27, Try.ntmps27
    go_wp2_with (first | (go_at_call 44; refine (rest_is _ _ _ _ Hx.out (by omega) (by omega)).mono ?_; rintro e w' ⟨rfl, rfl⟩) | (go_at_call 43; refine (times_any _ _).mono ?_; rintro e w' ⟨rfl, rfl⟩))
    all_goals
      go_ret
      exact ⟨rfl, (Below.refl _ _).alloc (Nat.le_refl _) _⟩
  · have ek : keepOf k0 k1 k2 k3 l = k3 := by unfold keepOf; (repeat' split) <;> first | rfl | omega
    rw [ek]
    clear ek
    subst c
    unfold horI
    rw [Hx.out]
    go_enter Try.func27, Try.ntmps27
    go_wp2_with (first | (go_at_call 44; refine (rest_is _ _ _ _ Hx.out (by omega) (by omega)).mono ?_; rintro e w' ⟨rfl, rfl⟩) | (go_at_call 43; refine (times_any _ _).mono ?_; rintro e w' ⟨rfl, rfl⟩))
    all_goals
      go_ret
      exact ⟨rfl, (Below.refl _ _).alloc (Nat.le_refl _) _⟩
  · have ek : keepOf k0 k1 k2 k3 l = k3 := by unfold keepOf; (repeat' split) <;> first | rfl | omega
    rw [ek]
    clear ek
    unfold horI
    rw [Hx.out]
    go_enter Try.func27, Try.ntmps27
    go_wp2_with (first | (go_at_call 44; refine (rest_is _ _ _ _ Hx.out (by omega) (by omega)).mono ?_; rintro e w' ⟨rfl, rfl⟩) | (go_at_call 43; refine (times_any _ _).mono ?_; rintro e w' ⟨rfl, rfl⟩))
    all_goals
      go_ret
      exact ⟨rfl, (Below.refl _ _).alloc (Nat.le_refl _) _⟩

/-- the document's horizon -/
def horRefI (k now : Int) : Int := if now / 8640 - k < 0 then 0 else (now / 8640 - k) * 8640

theorem horizonRef_any (s k0 k1 k2 k3 now l : Int) (w : World) (hn : 0 ≤ now) (hn1 : now ≤ 1099511627776) (hk : 1 ≤ keepOf k0 k1 k2 k3 l) (hk1 : keepOf k0 k1 k2 k3 l ≤ 100000) :
    Calls Try.prog 29 #[.agg #[.int .i64 s, .int .i64 k0, .int .i64 k1, .int .i64 k2, .int .i64 k3], .int .i64 now, .int .i64 l] w fun e w' => e = .returned (.int .i64 (horRefI (keepOf k0 k1 k2 k3 l) now)) ∧ Below w.heap.size w w' := by
  rcases (by omega : l < 0 ∨ l = 0 ∨ l = 1 ∨ l = 2 ∨ l = 3 ∨ 3 < l) with c | c | c | c | c | c
  · have ek : keepOf k0 k1 k2 k3 l = k0 := by unfold keepOf; (repeat' split) <;> first | rfl | omega
    rw [ek] at hk hk1 ⊢
    clear ek
    unfold horRefI
    go_enter Try.func29, Try.ntmps29
    go_wp2
    all_goals
      go_ret
      exact ⟨rfl, (Below.refl _ _).alloc (Nat.le_refl _) _⟩
  · have ek : keepOf k0 k1 k2 k3 l = k0 := by unfold keepOf; (repeat' split) <;> first | rfl | omega
    rw [ek] at hk hk1 ⊢
    clear ek
    subst c
    unfold horRefI
    go_enter Try.func29, Try.ntmps29
    go_wp2
    all_goals
      go_ret
      exact ⟨rfl, (Below.refl _ _).alloc (Nat.le_refl _) _⟩
  · have ek : keepOf k0 k1 k2 k3 l = k1 := by unfold keepOf; (repeat' split) <;> first | rfl | omega
    rw [ek] at hk hk1 ⊢
    clear ek
    subst c
    unfold horRefI
    go_enter Try.func29, Try.ntmps29
    go_wp2
    all_goals
      go_ret
      exact ⟨rfl, (Below.refl _ _).alloc (Nat.le_refl _) _⟩
  · have ek : keepOf k0 k1 k2 k3 l = k2 := by unfold keepOf; (repeat' split) <;> first | rfl | omega
    rw [ek] at hk hk1 ⊢
    clear ek
    subst c
    unfold horRefI
    go_enter Try.func29, Try.ntmps29
    go_wp2
    all_goals
      go_ret
      exact ⟨rfl, (Below.refl _ _).alloc (Nat.le_refl _) _⟩
  · have ek : keepOf k0 k1 k2 k3 l = k3 := by unfold keepOf; (repeat' split) <;> first | rfl | omega
    rw [ek] at hk hk1 ⊢
    clear ek
    subst c
    unfold horRefI
    go_enter Try.func29, Try.ntmps29
    go_wp2
    all_goals
      go_ret
      exact ⟨rfl, (Below.refl _ _).alloc (Nat.le_refl _) _⟩
  · have ek : keepOf k0 k1 k2 k3 l = k3 := by unfold keepOf; (repeat' split) <;> first | rfl | omega
    rw [ek] at hk hk1 ⊢
    clear ek
    unfold horRefI
    go_enter Try.func29, Try.ntmps29
    go_wp2
    all_goals
      go_ret
      exact ⟨rfl, (Below.refl _ _).alloc (Nat.le_refl _) _⟩

end Go.Proofs.Ytkeepinbfgepmaa
