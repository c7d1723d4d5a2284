/- The laws on days and on how long a level lasts: what each call does. -/
import Derived.Test.YtkeepinbfgepmaaCalJ
namespace Go.Proofs.Ytkeepinbfgepmaa
open Go.RowKit
set_option linter.unusedSimpArgs false
set_option linter.unusedVariables false

theorem days_plain (s k0 k1 k2 k3 now day : Int) (hf : Fit s k0 k1 k2 k3 now) (hd : 0 ≤ day) (hd1 : day ≤ 127258290) :
    ∃ h0 h1 h2 h3 r, dayH k0 now * 8640 = h0 ∧ dayH k1 now * 8640 = h1 ∧ dayH k2 now * 8640 = h2 ∧ dayH k3 now * 8640 = h3 ∧ LV k0 k1 k2 k3 now day = r ∧ 0 ≤ h0 ∧ 0 ≤ h1 ∧ 0 ≤ h2 ∧ 0 ≤ h3 ∧ h0 ≤ now ∧ h1 ≤ h0 ∧ h2 ≤ h1 ∧ h3 ≤ h2 ∧ h0 % 8640 = 0 ∧ h1 % 8640 = 0 ∧ h2 % 8640 = 0 ∧ h3 % 8640 = 0 ∧
      ((r = 0 ∧ h0 ≤ day * 8640 ∧ h1 ≤ day * 8640 ∧ h2 ≤ day * 8640 ∧ h3 ≤ day * 8640) ∨ (r = 1 ∧ day * 8640 < h0 ∧ h1 ≤ day * 8640 ∧ h2 ≤ day * 8640 ∧ h3 ≤ day * 8640) ∨ (r = 2 ∧ day * 8640 < h0 ∧ day * 8640 < h1 ∧ h2 ≤ day * 8640 ∧ h3 ≤ day * 8640) ∨ (r = 3 ∧ day * 8640 < h0 ∧ day * 8640 < h1 ∧ day * 8640 < h2 ∧ h3 ≤ day * 8640) ∨ (r = 4 ∧ day * 8640 < h0 ∧ day * 8640 < h1 ∧ day * 8640 < h2 ∧ day * 8640 < h3)) := by
  obtain ⟨v0, v1, v2, v3, v4, v5, v6⟩ := valid_of hf.1
  obtain ⟨_, hn, hn1⟩ := hf
  refine ⟨_, _, _, _, _, rfl, rfl, rfl, rfl, rfl, ?_⟩
  have p : ∀ k, 1 ≤ k → 0 ≤ dayH k now ∧ dayH k now * 8640 ≤ now := by intro k hk; unfold dayH; (repeat' split) <;> omega
  have m : ∀ k l, k ≤ l → dayH l now ≤ dayH k now := by intro k l hk; unfold dayH; (repeat' split) <;> omega
  have p0 := p k0 v0.1
  have p1 := p k1 v1.1
  have p2 := p k2 v2.1
  have p3 := p k3 v3.1
  have m0 := m k0 k1 v4
  have m1 := m k1 k2 v5
  have m2 := m k2 k3 v6
  clear m p
  unfold LV levI
  generalize dayH k0 now = a0 at *
  generalize dayH k1 now = a1 at *
  generalize dayH k2 now = a2 at *
  generalize dayH k3 now = a3 at *
  refine ⟨by omega, by omega, by omega, by omega, by omega, by omega, by omega, by omega, by omega, by omega, by omega, by omega, ?_⟩
  (repeat' split) <;> omega

theorem lasts_plain (s k0 k1 k2 k3 day at_ l : Int) (hc : checkI s k0 k1 k2 k3 = true) (hd : 0 ≤ day) (hd1 : day ≤ 1048576) (ha : 0 ≤ at_) (ha1 : at_ < 8640) (hl : l = 0 ∨ l = 1 ∨ l = 2 ∨ l = 3) :
    ∃ a b, LV k0 k1 k2 k3 ((day + keepOf k0 k1 k2 k3 l) * 8640 + at_) day = a ∧ LV k0 k1 k2 k3 ((day + keepOf k0 k1 k2 k3 l) * 8640 + at_ + 8640) day = b ∧ a ≤ l ∧ l < b ∧ Fit s k0 k1 k2 k3 ((day + keepOf k0 k1 k2 k3 l) * 8640 + at_) ∧ Fit s k0 k1 k2 k3 ((day + keepOf k0 k1 k2 k3 l) * 8640 + at_ + 8640) := by
  obtain ⟨v0, v1, v2, v3, v4, v5, v6⟩ := valid_of hc
  have hr := keep_range l v0 v1 v2 v3
  refine ⟨_, _, rfl, rfl, ?_, ?_, ⟨hc, by omega, by omega⟩, ⟨hc, by omega, by omega⟩⟩
  · rcases hl with rfl | rfl | rfl | rfl <;> simp only [keepOf] at * <;> unfold LV levI dayH <;> simp at * <;> (repeat' split) <;> omega
  · rcases hl with rfl | rfl | rfl | rfl <;> simp only [keepOf] at * <;> unfold LV levI dayH <;> simp at * <;> (repeat' split) <;> omega
theorem calDays_bad (s k0 k1 k2 k3 now day : Int) (b : Bool) (w : World) (hb : checkI s k0 k1 k2 k3 = b) (hbad : b = false ∨ now < 0 ∨ 1099511627776 < now ∨ day < 0 ∨ 127258290 < day) :
    Calls Try.prog 9 #[.agg #[.int .i64 s, .int .i64 k0, .int .i64 k1, .int .i64 k2, .int .i64 k3], .int .i64 now, .int .i64 day] w fun e w' => e = .returned (.bool true) ∧ Below w.heap.size w w' := by
  have hk := keepConf_start w s k0 k1 k2 k3
  have Hb := Lib.hid hb
  clear hb
  go_enter Try.func9, Try.ntmps9
  go_wp2_with (first | (go_at_call 25; (with_reducible refine (kept_of (checkRef_is _ _ _ _ _ _ _ Hb.out) (by assumption)).mono ?_); rintro e w1 ⟨rfl, hk, g0, g1, g2, g3, g4⟩) | (go_at_call 28; (with_reducible refine (kept_of (awake_is _) (by assumption)).mono ?_); rintro e w1 ⟨rfl, hk, g0, g1, g2, g3, g4⟩))
  all_goals first | (go_ret; exact ⟨rfl, hk.1⟩) | (exfalso; rcases hbad with hbad | hbad <;> first | omega | (simp_all; done))

theorem calLasts_bad (s k0 k1 k2 k3 day at_ : Int) (b : Bool) (w : World) (hb : checkI s k0 k1 k2 k3 = b) (hbad : b = false ∨ day < 0 ∨ 1048576 < day ∨ at_ < 0 ∨ 8640 ≤ at_) :
    Calls Try.prog 10 #[.agg #[.int .i64 s, .int .i64 k0, .int .i64 k1, .int .i64 k2, .int .i64 k3], .int .i64 day, .int .i64 at_] w fun e w' => e = .returned (.bool true) ∧ Below w.heap.size w w' := by
  have hk := keepConf_start w s k0 k1 k2 k3
  have Hb := Lib.hid hb
  clear hb
  go_enter Try.func10, Try.ntmps10
  go_wp2_with (first | (go_at_call 25; (with_reducible refine (kept_of (checkRef_is _ _ _ _ _ _ _ Hb.out) (by assumption)).mono ?_); rintro e w1 ⟨rfl, hk, g0, g1, g2, g3, g4⟩) | (go_at_call 28; (with_reducible refine (kept_of (awake_is _) (by assumption)).mono ?_); rintro e w1 ⟨rfl, hk, g0, g1, g2, g3, g4⟩))
  all_goals first | (go_ret; exact ⟨rfl, hk.1⟩) | (exfalso; rcases hbad with hbad | hbad <;> first | omega | (simp_all; done))

set_option maxHeartbeats 2000000 in
theorem calDays_good (s k0 k1 k2 k3 now day : Int) (w : World) (hf : Fit s k0 k1 k2 k3 now) (hd : 0 ≤ day) (hd1 : day ≤ 127258290) :
    Calls Try.prog 9 #[.agg #[.int .i64 s, .int .i64 k0, .int .i64 k1, .int .i64 k2, .int .i64 k3], .int .i64 now, .int .i64 day] w fun e w' => e = .returned (.bool true) ∧ Below w.heap.size w w' := by
  have hk := keepConf_start w s k0 k1 k2 k3
  obtain ⟨h0, h1, h2, h3, r, e0, e1, e2, e3, er, p0, p1, p2, p3, q0, q1, q2, q3, m0, m1, m2, m3, hr⟩ := days_plain s k0 k1 k2 k3 now day hf hd hd1
  have c0 := Lib.hid (horizon_at s k0 k1 k2 k3 now 0 k0 h0 · hf rfl e0)
  have c1 := Lib.hid (horizon_at s k0 k1 k2 k3 now 1 k1 h1 · hf rfl e1)
  have c2 := Lib.hid (horizon_at s k0 k1 k2 k3 now 2 k2 h2 · hf rfl e2)
  have c3 := Lib.hid (horizon_at s k0 k1 k2 k3 now 3 k3 h3 · hf rfl e3)
  have cl := Lib.hid (level_at s k0 k1 k2 k3 now day r · hf er)
  have Hb := Lib.hid hf.1
  have hn : 0 ≤ now ∧ now ≤ 1099511627776 := hf.2
  obtain ⟨hn0, hn1⟩ := hn
  clear e0 e1 e2 e3 er hf
  rcases hr with ⟨rfl, r0, r1, r2, r3⟩ | ⟨rfl, r0, r1, r2, r3⟩ | ⟨rfl, r0, r1, r2, r3⟩ | ⟨rfl, r0, r1, r2, r3⟩ | ⟨rfl, r0, r1, r2, r3⟩
  all_goals
    go_enter Try.func9, Try.ntmps9
    go_wp2_with (first | (go_at_call 25; (with_reducible refine (kept_of (checkRef_is _ _ _ _ _ _ _ Hb.out) (by assumption)).mono ?_); rintro e w1 ⟨rfl, hk, g0, g1, g2, g3, g4⟩))
    refine wp_loop_rounds 5 ?_
    rw [rounds_succ]
    go_wp2_with (first | (go_at_call 27; (with_reducible refine (kept_of (c0.out _) (by assumption)).mono ?_); rintro e w1 ⟨rfl, hk, g0, g1, g2, g3, g4⟩) | (go_at_call 26; (with_reducible refine (kept_of (cl.out _) (by assumption)).mono ?_); rintro e w1 ⟨rfl, hk, g0, g1, g2, g3, g4⟩))
    rw [rounds_succ]
    go_wp2_with (first | (go_at_call 27; (with_reducible refine (kept_of (c1.out _) (by assumption)).mono ?_); rintro e w1 ⟨rfl, hk, g0, g1, g2, g3, g4⟩) | (go_at_call 26; (with_reducible refine (kept_of (cl.out _) (by assumption)).mono ?_); rintro e w1 ⟨rfl, hk, g0, g1, g2, g3, g4⟩))
    rw [rounds_succ]
    go_wp2_with (first | (go_at_call 27; (with_reducible refine (kept_of (c2.out _) (by assumption)).mono ?_); rintro e w1 ⟨rfl, hk, g0, g1, g2, g3, g4⟩) | (go_at_call 26; (with_reducible refine (kept_of (cl.out _) (by assumption)).mono ?_); rintro e w1 ⟨rfl, hk, g0, g1, g2, g3, g4⟩))
    rw [rounds_succ]
    go_wp2_with (first | (go_at_call 27; (with_reducible refine (kept_of (c3.out _) (by assumption)).mono ?_); rintro e w1 ⟨rfl, hk, g0, g1, g2, g3, g4⟩) | (go_at_call 26; (with_reducible refine (kept_of (cl.out _) (by assumption)).mono ?_); rintro e w1 ⟨rfl, hk, g0, g1, g2, g3, g4⟩))
    rw [rounds_succ]
    go_wp2_with (first | (go_at_call 28; (with_reducible refine (kept_of (awake_is _) (by assumption)).mono ?_); rintro e w1 ⟨rfl, hk, g0, g1, g2, g3, g4⟩))
    go_ret
    exact ⟨rfl, hk.1⟩

theorem calLasts_good (s k0 k1 k2 k3 day at_ : Int) (w : World) (hc : checkI s k0 k1 k2 k3 = true) (hd : 0 ≤ day) (hd1 : day ≤ 1048576) (ha : 0 ≤ at_) (ha1 : at_ < 8640) :
    Calls Try.prog 10 #[.agg #[.int .i64 s, .int .i64 k0, .int .i64 k1, .int .i64 k2, .int .i64 k3], .int .i64 day, .int .i64 at_] w fun e w' => e = .returned (.bool true) ∧ Below w.heap.size w w' := by
  have hk := keepConf_start w s k0 k1 k2 k3
  obtain ⟨a0, b0, ea0, eb0, ra0, rb0, f0, g0⟩ := lasts_plain s k0 k1 k2 k3 day at_ 0 hc hd hd1 ha ha1 (by omega)
  rw [show keepOf k0 k1 k2 k3 0 = k0 from rfl] at ea0 eb0 f0 g0
  have ca0 := Lib.hid (level_at s k0 k1 k2 k3 ((day + k0) * 8640 + at_) day a0 · f0 ea0)
  have cb0 := Lib.hid (level_at s k0 k1 k2 k3 ((day + k0) * 8640 + at_ + 8640) day b0 · g0 eb0)
  clear ea0 eb0 f0 g0
  obtain ⟨a1, b1, ea1, eb1, ra1, rb1, f1, g1⟩ := lasts_plain s k0 k1 k2 k3 day at_ 1 hc hd hd1 ha ha1 (by omega)
  rw [show keepOf k0 k1 k2 k3 1 = k1 from rfl] at ea1 eb1 f1 g1
  have ca1 := Lib.hid (level_at s k0 k1 k2 k3 ((day + k1) * 8640 + at_) day a1 · f1 ea1)
  have cb1 := Lib.hid (level_at s k0 k1 k2 k3 ((day + k1) * 8640 + at_ + 8640) day b1 · g1 eb1)
  clear ea1 eb1 f1 g1
  obtain ⟨a2, b2, ea2, eb2, ra2, rb2, f2, g2⟩ := lasts_plain s k0 k1 k2 k3 day at_ 2 hc hd hd1 ha ha1 (by omega)
  rw [show keepOf k0 k1 k2 k3 2 = k2 from rfl] at ea2 eb2 f2 g2
  have ca2 := Lib.hid (level_at s k0 k1 k2 k3 ((day + k2) * 8640 + at_) day a2 · f2 ea2)
  have cb2 := Lib.hid (level_at s k0 k1 k2 k3 ((day + k2) * 8640 + at_ + 8640) day b2 · g2 eb2)
  clear ea2 eb2 f2 g2
  obtain ⟨a3, b3, ea3, eb3, ra3, rb3, f3, g3⟩ := lasts_plain s k0 k1 k2 k3 day at_ 3 hc hd hd1 ha ha1 (by omega)
  rw [show keepOf k0 k1 k2 k3 3 = k3 from rfl] at ea3 eb3 f3 g3
  have ca3 := Lib.hid (level_at s k0 k1 k2 k3 ((day + k3) * 8640 + at_) day a3 · f3 ea3)
  have cb3 := Lib.hid (level_at s k0 k1 k2 k3 ((day + k3) * 8640 + at_ + 8640) day b3 · g3 eb3)
  clear ea3 eb3 f3 g3
  obtain ⟨v0, v1, v2, v3, v4, v5, v6⟩ := valid_of hc
  obtain ⟨u0, t0⟩ := v0
  obtain ⟨u1, t1⟩ := v1
  obtain ⟨u2, t2⟩ := v2
  obtain ⟨u3, t3⟩ := v3
  have Hb := Lib.hid hc
  clear hc
  go_enter Try.func10, Try.ntmps10
  go_wp2_with (first | (go_at_call 25; (with_reducible refine (kept_of (checkRef_is _ _ _ _ _ _ _ Hb.out) (by assumption)).mono ?_); rintro e w1 ⟨rfl, hk, g0, g1, g2, g3, g4⟩))
  refine wp_loop_rounds 5 ?_
  rw [rounds_succ]
  go_wp2_with (first | (go_at_call 26; (with_reducible refine (kept_of (ca0.out _) (by assumption)).mono ?_); rintro e w1 ⟨rfl, hk, g0, g1, g2, g3, g4⟩) | (go_at_call 26; (with_reducible refine (kept_of (cb0.out _) (by assumption)).mono ?_); rintro e w1 ⟨rfl, hk, g0, g1, g2, g3, g4⟩))
  rw [rounds_succ]
  go_wp2_with (first | (go_at_call 26; (with_reducible refine (kept_of (ca1.out _) (by assumption)).mono ?_); rintro e w1 ⟨rfl, hk, g0, g1, g2, g3, g4⟩) | (go_at_call 26; (with_reducible refine (kept_of (cb1.out _) (by assumption)).mono ?_); rintro e w1 ⟨rfl, hk, g0, g1, g2, g3, g4⟩))
  rw [rounds_succ]
  go_wp2_with (first | (go_at_call 26; (with_reducible refine (kept_of (ca2.out _) (by assumption)).mono ?_); rintro e w1 ⟨rfl, hk, g0, g1, g2, g3, g4⟩) | (go_at_call 26; (with_reducible refine (kept_of (cb2.out _) (by assumption)).mono ?_); rintro e w1 ⟨rfl, hk, g0, g1, g2, g3, g4⟩))
  rw [rounds_succ]
  go_wp2_with (first | (go_at_call 26; (with_reducible refine (kept_of (ca3.out _) (by assumption)).mono ?_); rintro e w1 ⟨rfl, hk, g0, g1, g2, g3, g4⟩) | (go_at_call 26; (with_reducible refine (kept_of (cb3.out _) (by assumption)).mono ?_); rintro e w1 ⟨rfl, hk, g0, g1, g2, g3, g4⟩))
  rw [rounds_succ]
  go_wp2_with (first | (go_at_call 28; (with_reducible refine (kept_of (awake_is _) (by assumption)).mono ?_); rintro e w1 ⟨rfl, hk, g0, g1, g2, g3, g4⟩))
  go_ret
  exact ⟨rfl, hk.1⟩

theorem calDays_walk (s k0 k1 k2 k3 now day : Int) (w : World) :
    Calls Try.prog 9 #[.agg #[.int .i64 s, .int .i64 k0, .int .i64 k1, .int .i64 k2, .int .i64 k3], .int .i64 now, .int .i64 day] w fun e w' => e = .returned (.bool true) ∧ Below w.heap.size w w' := by
  by_cases h : checkI s k0 k1 k2 k3 = false ∨ now < 0 ∨ 1099511627776 < now ∨ day < 0 ∨ 127258290 < day
  · exact calDays_bad s k0 k1 k2 k3 now day _ w rfl h
  · have hc : checkI s k0 k1 k2 k3 = true := by cases hc : checkI s k0 k1 k2 k3 <;> simp_all
    exact calDays_good s k0 k1 k2 k3 now day w ⟨hc, by omega, by omega⟩ (by omega) (by omega)
theorem calLasts_walk (s k0 k1 k2 k3 day at_ : Int) (w : World) :
    Calls Try.prog 10 #[.agg #[.int .i64 s, .int .i64 k0, .int .i64 k1, .int .i64 k2, .int .i64 k3], .int .i64 day, .int .i64 at_] w fun e w' => e = .returned (.bool true) ∧ Below w.heap.size w w' := by
  by_cases h : checkI s k0 k1 k2 k3 = false ∨ day < 0 ∨ 1048576 < day ∨ at_ < 0 ∨ 8640 ≤ at_
  · exact calLasts_bad s k0 k1 k2 k3 day at_ _ w rfl h
  · have hc : checkI s k0 k1 k2 k3 = true := by cases hc : checkI s k0 k1 k2 k3 <;> simp_all
    exact calLasts_good s k0 k1 k2 k3 day at_ w hc (by omega) (by omega) (by omega) (by omega)
end Go.Proofs.Ytkeepinbfgepmaa
