/- The laws on how levels rise with time, on days and on how long a level lasts: what each call does. -/
import Derived.Test.YtkeepinbfgepmaaCalI
namespace Go.Proofs.Ytkeepinbfgepmaa
open Go.RowKit
set_option linter.unusedSimpArgs false

/-- the first day that is still kept -/
def dayH (k now : Int) : Int := if now / 8640 - k < 0 then 0 else now / 8640 - k
/-- a day's level -/
def LV (k0 k1 k2 k3 now day : Int) : Int := levI (dayH k0 now) (dayH k1 now) (dayH k2 now) (dayH k3 now) day

theorem horRef_day (k now : Int) : horRefI k now = dayH k now * 8640 := by
  unfold horRefI dayH
  split <;> omega
/-- a config that may be, a time that may be -/
def Fit (s k0 k1 k2 k3 now : Int) : Prop := checkI s k0 k1 k2 k3 = true ∧ 0 ≤ now ∧ now ≤ 1099511627776

theorem level_at (s k0 k1 k2 k3 now day r : Int) (w : World) (hf : Fit s k0 k1 k2 k3 now) (hr : LV k0 k1 k2 k3 now day = r) :
    Calls Try.prog 26 #[.agg #[.int .i64 s, .int .i64 k0, .int .i64 k1, .int .i64 k2, .int .i64 k3], .int .i64 now, .int .i64 day] w fun e w' => e = .returned (.int .i64 r) ∧ Below w.heap.size w w' := by
  obtain ⟨hb, hn, hn1⟩ := hf
  subst hr
  obtain ⟨v0, v1, v2, v3, v4, v5, v6⟩ := valid_of hb
  obtain ⟨y0, z00, z01, z02⟩ := hor_eq k0 now hn hn1 v0.1 v0.2
  obtain ⟨y1, z10, z11, z12⟩ := hor_eq k1 now hn hn1 v1.1 v1.2
  obtain ⟨y2, z20, z21, z22⟩ := hor_eq k2 now hn hn1 v2.1 v2.2
  obtain ⟨y3, z30, z31, z32⟩ := hor_eq k3 now hn hn1 v3.1 v3.2
  have hl := lev_eq (horRefI k0 now) (horRefI k1 now) (horRefI k2 now) (horRefI k3 now) day ⟨z00, by omega, z02⟩ ⟨z10, by omega, z12⟩ ⟨z20, by omega, z22⟩ ⟨z30, by omega, z32⟩
  have e : levI (horRefI k0 now / 8640) (horRefI k1 now / 8640) (horRefI k2 now / 8640) (horRefI k3 now / 8640) day = LV k0 k1 k2 k3 now day := by
    unfold LV
    rw [horRef_day, horRef_day, horRef_day, horRef_day]
    simp
  rw [← e, ← hl]
  exact level_is s k0 k1 k2 k3 now day _ _ _ _ _ w (Lib.hid y0) (Lib.hid y1) (Lib.hid y2) (Lib.hid y3) (Lib.hid rfl)
theorem horizon_at (s k0 k1 k2 k3 now l k x : Int) (w : World) (hf : Fit s k0 k1 k2 k3 now) (hl : keepOf k0 k1 k2 k3 l = k) (hr : dayH k now * 8640 = x) :
    Calls Try.prog 27 #[.agg #[.int .i64 s, .int .i64 k0, .int .i64 k1, .int .i64 k2, .int .i64 k3], .int .i64 now, .int .i64 l] w fun e w' => e = .returned (.int .i64 x) ∧ Below w.heap.size w w' := by
  obtain ⟨hb, hn, hn1⟩ := hf
  subst hl
  subst hr
  obtain ⟨v0, v1, v2, v3, v4, v5, v6⟩ := valid_of hb
  have hlr := keep_range l v0 v1 v2 v3
  rw [← horRef_day]
  exact horizon_is s k0 k1 k2 k3 now l _ w (hor_eq _ now hn hn1 hlr.1 hlr.2).1

theorem rises_plain (s k0 k1 k2 k3 now later day more : Int) (hf : Fit s k0 k1 k2 k3 now) (h : 0 ≤ later) (hd : 0 ≤ more) :
    ∃ a b c, LV k0 k1 k2 k3 now day = a ∧ LV k0 k1 k2 k3 (now + later) day = b ∧ LV k0 k1 k2 k3 now (day + more) = c ∧ LV k0 k1 k2 k3 now (now / 8640) = 0 ∧ a ≤ b ∧ c ≤ a ∧ 0 ≤ a ∧ a ≤ 4 := by
  obtain ⟨v0, v1, v2, v3, v4, v5, v6⟩ := valid_of hf.1
  obtain ⟨_, hn, hn1⟩ := hf
  refine ⟨_, _, _, rfl, rfl, rfl, ?_⟩
  have m : ∀ k, dayH k now ≤ dayH k (now + later) := by intro k; unfold dayH; (repeat' split) <;> omega
  have m0 := m k0
  have m1 := m k1
  have m2 := m k2
  have m3 := m k3
  have n0 : dayH k0 now ≤ now / 8640 := by unfold dayH; split <;> omega
  clear m
  unfold LV levI
  generalize dayH k0 now = a0 at *
  generalize dayH k1 now = a1 at *
  generalize dayH k2 now = a2 at *
  generalize dayH k3 now = a3 at *
  generalize dayH k0 (now + later) = b0 at *
  generalize dayH k1 (now + later) = b1 at *
  generalize dayH k2 (now + later) = b2 at *
  generalize dayH k3 (now + later) = b3 at *
  refine ⟨by rw [if_pos n0], ?_, ?_, ?_, ?_⟩ <;> (repeat' split) <;> omega

theorem calRises_bad (s k0 k1 k2 k3 now later day more : Int) (b : Bool) (w : World) (hb : checkI s k0 k1 k2 k3 = b) (hbad : b = false ∨ now < 0 ∨ 1099511627776 < now ∨ later < 0 ∨ (0 ≤ now ∧ now ≤ 1099511627776 ∧ 1099511627776 - now < later) ∨ day < 0 ∨ 1099511627776 < day ∨ more < 0 ∨ 1099511627776 < more) :
    Calls Try.prog 8 #[.agg #[.int .i64 s, .int .i64 k0, .int .i64 k1, .int .i64 k2, .int .i64 k3], .int .i64 now, .int .i64 later, .int .i64 day, .int .i64 more] w fun e w' => e = .returned (.bool true) ∧ Below w.heap.size w w' := by
  have hk := keepConf_start w s k0 k1 k2 k3
  have Hb := Lib.hid hb
  clear hb
  go_enter Try.func8, Try.ntmps8
  go_wp2_with (first | (go_at_call 25; (with_reducible refine (kept_of (checkRef_is _ _ _ _ _ _ _ Hb.out) (by assumption)).mono ?_); rintro e w1 ⟨rfl, hk, g0, g1, g2, g3, g4⟩) | (go_at_call 28; (with_reducible refine (kept_of (awake_is _) (by assumption)).mono ?_); rintro e w1 ⟨rfl, hk, g0, g1, g2, g3, g4⟩))
  all_goals first | (go_ret; exact ⟨rfl, hk.1⟩) | (exfalso; rcases hbad with hbad | hbad <;> first | omega | (simp_all; done))

theorem calRises_good (s k0 k1 k2 k3 now later day more : Int) (w : World) (hf : Fit s k0 k1 k2 k3 now) (h1 : 0 ≤ later) (h2 : later ≤ 1099511627776 - now) (h3 : 0 ≤ day) (h4 : day ≤ 1099511627776) (h5 : 0 ≤ more) (h6 : more ≤ 1099511627776) :
    Calls Try.prog 8 #[.agg #[.int .i64 s, .int .i64 k0, .int .i64 k1, .int .i64 k2, .int .i64 k3], .int .i64 now, .int .i64 later, .int .i64 day, .int .i64 more] w fun e w' => e = .returned (.bool true) ∧ Below w.heap.size w w' := by
  have hk := keepConf_start w s k0 k1 k2 k3
  obtain ⟨a, b, c, ea, eb, ec, ed, r1, r2, r3, r4⟩ := rises_plain s k0 k1 k2 k3 now later day more hf h1 h5
  have hn : 0 ≤ now ∧ now ≤ 1099511627776 := hf.2
  obtain ⟨hn0, hn1⟩ := hn
  have hf2 : Fit s k0 k1 k2 k3 (now + later) := ⟨hf.1, by omega, by omega⟩
  have ca := Lib.hid (level_at s k0 k1 k2 k3 now day a · hf ea)
  have cb := Lib.hid (level_at s k0 k1 k2 k3 (now + later) day b · hf2 eb)
  have cc := Lib.hid (level_at s k0 k1 k2 k3 now (day + more) c · hf ec)
  have cd := Lib.hid (level_at s k0 k1 k2 k3 now (now / 8640) 0 · hf ed)
  have Hb := Lib.hid hf.1
  clear ea eb ec ed hf2 hf
  go_enter Try.func8, Try.ntmps8
  go_wp2_with (first | (go_at_call 25; (with_reducible refine (kept_of (checkRef_is _ _ _ _ _ _ _ Hb.out) (by assumption)).mono ?_); rintro e w1 ⟨rfl, hk, g0, g1, g2, g3, g4⟩) | (go_at_call 26; (with_reducible refine (kept_of (ca.out _) (by assumption)).mono ?_); rintro e w1 ⟨rfl, hk, g0, g1, g2, g3, g4⟩) | (go_at_call 26; (with_reducible refine (kept_of (cb.out _) (by assumption)).mono ?_); rintro e w1 ⟨rfl, hk, g0, g1, g2, g3, g4⟩) | (go_at_call 26; (with_reducible refine (kept_of (cc.out _) (by assumption)).mono ?_); rintro e w1 ⟨rfl, hk, g0, g1, g2, g3, g4⟩) | (go_at_call 26; (with_reducible refine (kept_of (cd.out _) (by assumption)).mono ?_); rintro e w1 ⟨rfl, hk, g0, g1, g2, g3, g4⟩) | (go_at_call 28; (with_reducible refine (kept_of (awake_is _) (by assumption)).mono ?_); rintro e w1 ⟨rfl, hk, g0, g1, g2, g3, g4⟩))
  go_ret
  exact ⟨rfl, hk.1⟩

theorem calRises_walk (s k0 k1 k2 k3 now later day more : Int) (w : World) :
    Calls Try.prog 8 #[.agg #[.int .i64 s, .int .i64 k0, .int .i64 k1, .int .i64 k2, .int .i64 k3], .int .i64 now, .int .i64 later, .int .i64 day, .int .i64 more] w fun e w' => e = .returned (.bool true) ∧ Below w.heap.size w w' := by
  by_cases h : checkI s k0 k1 k2 k3 = false ∨ now < 0 ∨ 1099511627776 < now ∨ later < 0 ∨ (0 ≤ now ∧ now ≤ 1099511627776 ∧ 1099511627776 - now < later) ∨ day < 0 ∨ 1099511627776 < day ∨ more < 0 ∨ 1099511627776 < more
  · exact calRises_bad s k0 k1 k2 k3 now later day more _ w rfl h
  · have hc : checkI s k0 k1 k2 k3 = true := by cases hc : checkI s k0 k1 k2 k3 <;> simp_all
    exact calRises_good s k0 k1 k2 k3 now later day more w ⟨hc, by omega, by omega⟩ (by omega) (by omega) (by omega) (by omega) (by omega) (by omega)
end Go.Proofs.Ytkeepinbfgepmaa
