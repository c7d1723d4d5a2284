/- The law on levels: what its call does. -/
import Derived.Test.YtkeepinbfgepmaaCalH
namespace Go.Proofs.Ytkeepinbfgepmaa
open Go.RowKit
set_option linter.unusedSimpArgs false

theorem valid_of {s k0 k1 k2 k3 : Int} (h : checkI s k0 k1 k2 k3 = true) : (1 ≤ k0 ∧ k0 ≤ 100000) ∧ (1 ≤ k1 ∧ k1 ≤ 100000) ∧ (1 ≤ k2 ∧ k2 ≤ 100000) ∧ (1 ≤ k3 ∧ k3 ≤ 100000) ∧ k0 ≤ k1 ∧ k1 ≤ k2 ∧ k2 ≤ k3 := by
  unfold checkI at h
  simp at h
  omega
theorem keep_range {k0 k1 k2 k3 : Int} (l : Int) (h0 : 1 ≤ k0 ∧ k0 ≤ 100000) (h1 : 1 ≤ k1 ∧ k1 ≤ 100000) (h2 : 1 ≤ k2 ∧ k2 ≤ 100000) (h3 : 1 ≤ k3 ∧ k3 ≤ 100000) : 1 ≤ keepOf k0 k1 k2 k3 l ∧ keepOf k0 k1 k2 k3 l ≤ 100000 := by
  unfold keepOf
  (repeat' split) <;> omega

theorem calLevels_bad (s k0 k1 k2 k3 now day l : Int) (b : Bool) (w : World) (hb : checkI s k0 k1 k2 k3 = b) (hbad : b = false ∨ now < 0 ∨ 1099511627776 < now) :
    Calls Try.prog 7 #[.agg #[.int .i64 s, .int .i64 k0, .int .i64 k1, .int .i64 k2, .int .i64 k3], .int .i64 now, .int .i64 day, .int .i64 l] w fun e w' => e = .returned (.bool true) ∧ Below w.heap.size w w' := by
  have hk := keepConf_start w s k0 k1 k2 k3
  obtain ⟨x0, e0⟩ : ∃ x, horI (keepOf k0 k1 k2 k3 0) now = x := ⟨_, rfl⟩
  obtain ⟨x1, e1⟩ : ∃ x, horI (keepOf k0 k1 k2 k3 1) now = x := ⟨_, rfl⟩
  obtain ⟨x2, e2⟩ : ∃ x, horI (keepOf k0 k1 k2 k3 2) now = x := ⟨_, rfl⟩
  obtain ⟨x3, e3⟩ : ∃ x, horI (keepOf k0 k1 k2 k3 3) now = x := ⟨_, rfl⟩
  have E0 := Lib.hid e0
  have E1 := Lib.hid e1
  have E2 := Lib.hid e2
  have E3 := Lib.hid e3
  clear e0 e1 e2 e3
  obtain ⟨t, et⟩ : ∃ t, timesI day = t := ⟨_, rfl⟩
  have Et := Lib.hid et
  clear et
  obtain ⟨x, ex⟩ : ∃ x, horI (keepOf k0 k1 k2 k3 l) now = x := ⟨_, rfl⟩
  have Ex := Lib.hid ex
  clear ex
  have Hb := Lib.hid hb
  clear hb
  rcases hbad with rfl | h | h
  · go_enter Try.func7, Try.ntmps7
    go_wp2_with (first | (go_at_call 25; (with_reducible refine (kept_of (checkRef_is _ _ _ _ _ _ _ Hb.out) (by assumption)).mono ?_); rintro e w1 ⟨rfl, hk, g0, g1, g2, g3, g4⟩) | (go_at_call 26; (with_reducible refine (kept_of (level_is s k0 k1 k2 k3 now day x0 x1 x2 x3 t _ E0 E1 E2 E3 Et) (by assumption)).mono ?_); rintro e w1 ⟨rfl, hk, g0, g1, g2, g3, g4⟩) | (go_at_call 27; (with_reducible refine (kept_of (horizon_is s k0 k1 k2 k3 now l x _ Ex.out) (by assumption)).mono ?_); rintro e w1 ⟨rfl, hk, g0, g1, g2, g3, g4⟩) | (go_at_call 28; (with_reducible refine (kept_of (awake_is _) (by assumption)).mono ?_); rintro e w1 ⟨rfl, hk, g0, g1, g2, g3, g4⟩))
    go_ret
    exact ⟨rfl, hk.1⟩
  · cases b
    · go_enter Try.func7, Try.ntmps7
      go_wp2_with (first | (go_at_call 25; (with_reducible refine (kept_of (checkRef_is _ _ _ _ _ _ _ Hb.out) (by assumption)).mono ?_); rintro e w1 ⟨rfl, hk, g0, g1, g2, g3, g4⟩) | (go_at_call 26; (with_reducible refine (kept_of (level_is s k0 k1 k2 k3 now day x0 x1 x2 x3 t _ E0 E1 E2 E3 Et) (by assumption)).mono ?_); rintro e w1 ⟨rfl, hk, g0, g1, g2, g3, g4⟩) | (go_at_call 27; (with_reducible refine (kept_of (horizon_is s k0 k1 k2 k3 now l x _ Ex.out) (by assumption)).mono ?_); rintro e w1 ⟨rfl, hk, g0, g1, g2, g3, g4⟩) | (go_at_call 28; (with_reducible refine (kept_of (awake_is _) (by assumption)).mono ?_); rintro e w1 ⟨rfl, hk, g0, g1, g2, g3, g4⟩))
      go_ret
      exact ⟨rfl, hk.1⟩
    · go_enter Try.func7, Try.ntmps7
      go_wp2_with (first | (go_at_call 25; (with_reducible refine (kept_of (checkRef_is _ _ _ _ _ _ _ Hb.out) (by assumption)).mono ?_); rintro e w1 ⟨rfl, hk, g0, g1, g2, g3, g4⟩) | (go_at_call 26; (with_reducible refine (kept_of (level_is s k0 k1 k2 k3 now day x0 x1 x2 x3 t _ E0 E1 E2 E3 Et) (by assumption)).mono ?_); rintro e w1 ⟨rfl, hk, g0, g1, g2, g3, g4⟩) | (go_at_call 27; (with_reducible refine (kept_of (horizon_is s k0 k1 k2 k3 now l x _ Ex.out) (by assumption)).mono ?_); rintro e w1 ⟨rfl, hk, g0, g1, g2, g3, g4⟩) | (go_at_call 28; (with_reducible refine (kept_of (awake_is _) (by assumption)).mono ?_); rintro e w1 ⟨rfl, hk, g0, g1, g2, g3, g4⟩))
      go_ret
      exact ⟨rfl, hk.1⟩
  · cases b
    · go_enter Try.func7, Try.ntmps7
      go_wp2_with (first | (go_at_call 25; (with_reducible refine (kept_of (checkRef_is _ _ _ _ _ _ _ Hb.out) (by assumption)).mono ?_); rintro e w1 ⟨rfl, hk, g0, g1, g2, g3, g4⟩) | (go_at_call 26; (with_reducible refine (kept_of (level_is s k0 k1 k2 k3 now day x0 x1 x2 x3 t _ E0 E1 E2 E3 Et) (by assumption)).mono ?_); rintro e w1 ⟨rfl, hk, g0, g1, g2, g3, g4⟩) | (go_at_call 27; (with_reducible refine (kept_of (horizon_is s k0 k1 k2 k3 now l x _ Ex.out) (by assumption)).mono ?_); rintro e w1 ⟨rfl, hk, g0, g1, g2, g3, g4⟩) | (go_at_call 28; (with_reducible refine (kept_of (awake_is _) (by assumption)).mono ?_); rintro e w1 ⟨rfl, hk, g0, g1, g2, g3, g4⟩))
      go_ret
      exact ⟨rfl, hk.1⟩
    · go_enter Try.func7, Try.ntmps7
      go_wp2_with (first | (go_at_call 25; (with_reducible refine (kept_of (checkRef_is _ _ _ _ _ _ _ Hb.out) (by assumption)).mono ?_); rintro e w1 ⟨rfl, hk, g0, g1, g2, g3, g4⟩) | (go_at_call 26; (with_reducible refine (kept_of (level_is s k0 k1 k2 k3 now day x0 x1 x2 x3 t _ E0 E1 E2 E3 Et) (by assumption)).mono ?_); rintro e w1 ⟨rfl, hk, g0, g1, g2, g3, g4⟩) | (go_at_call 27; (with_reducible refine (kept_of (horizon_is s k0 k1 k2 k3 now l x _ Ex.out) (by assumption)).mono ?_); rintro e w1 ⟨rfl, hk, g0, g1, g2, g3, g4⟩) | (go_at_call 28; (with_reducible refine (kept_of (awake_is _) (by assumption)).mono ?_); rintro e w1 ⟨rfl, hk, g0, g1, g2, g3, g4⟩))
      go_ret
      exact ⟨rfl, hk.1⟩

theorem calLevels_good (s k0 k1 k2 k3 now day l : Int) (w : World) (hb : checkI s k0 k1 k2 k3 = true) (hn : 0 ≤ now) (hn1 : now ≤ 1099511627776) :
    Calls Try.prog 7 #[.agg #[.int .i64 s, .int .i64 k0, .int .i64 k1, .int .i64 k2, .int .i64 k3], .int .i64 now, .int .i64 day, .int .i64 l] w fun e w' => e = .returned (.bool true) ∧ Below w.heap.size w w' := by
  have hk := keepConf_start w s k0 k1 k2 k3
  obtain ⟨v0, v1, v2, v3, v4, v5, v6⟩ := valid_of hb
  obtain ⟨y0, z00, z01, z02⟩ := hor_eq k0 now hn hn1 v0.1 v0.2
  obtain ⟨y1, z10, z11, z12⟩ := hor_eq k1 now hn hn1 v1.1 v1.2
  obtain ⟨y2, z20, z21, z22⟩ := hor_eq k2 now hn hn1 v2.1 v2.2
  obtain ⟨y3, z30, z31, z32⟩ := hor_eq k3 now hn hn1 v3.1 v3.2
  have hl := lev_eq (horRefI k0 now) (horRefI k1 now) (horRefI k2 now) (horRefI k3 now) day ⟨z00, by omega, z02⟩ ⟨z10, by omega, z12⟩ ⟨z20, by omega, z22⟩ ⟨z30, by omega, z32⟩
  have hlr := keep_range l v0 v1 v2 v3
  obtain ⟨yl, _, _, _⟩ := hor_eq (keepOf k0 k1 k2 k3 l) now hn hn1 hlr.1 hlr.2
  obtain ⟨x0, e0⟩ : ∃ x, horRefI k0 now = x := ⟨_, rfl⟩
  obtain ⟨x1, e1⟩ : ∃ x, horRefI k1 now = x := ⟨_, rfl⟩
  obtain ⟨x2, e2⟩ : ∃ x, horRefI k2 now = x := ⟨_, rfl⟩
  obtain ⟨x3, e3⟩ : ∃ x, horRefI k3 now = x := ⟨_, rfl⟩
  obtain ⟨x, ex⟩ : ∃ x, horRefI (keepOf k0 k1 k2 k3 l) now = x := ⟨_, rfl⟩
  rw [ex] at yl
  rw [e0] at y0 z00 z01 z02 hl
  rw [e1] at y1 z10 z11 z12 hl
  rw [e2] at y2 z20 z21 z22 hl
  rw [e3] at y3 z30 z31 z32 hl
  obtain ⟨t, et⟩ : ∃ t, timesI day = t := ⟨_, rfl⟩
  rw [et] at hl
  obtain ⟨r, er⟩ : ∃ r, levI x0 x1 x2 x3 t = r := ⟨_, rfl⟩
  rw [er] at hl
  have cl := (level_is s k0 k1 k2 k3 now day x0 x1 x2 x3 t · (Lib.hid y0) (Lib.hid y1) (Lib.hid y2) (Lib.hid y3) (Lib.hid et))
  rw [er] at cl
  have cr := (levelRef_is s k0 k1 k2 k3 now day x0 x1 x2 x3 · hn hn1 v0 v1 v2 v3 (Lib.hid e0) (Lib.hid e1) (Lib.hid e2) (Lib.hid e3) z00 z10 z20 z30 (by omega) (by omega) (by omega) (by omega))
  rw [← hl] at cr
  have ch := (horizon_is s k0 k1 k2 k3 now l x · yl)
  have chr := (horizonRef_any s k0 k1 k2 k3 now l · hn hn1 hlr.1 hlr.2)
  rw [ex] at chr
  have Cl := Lib.hid cl
  have Cr := Lib.hid cr
  have Ch := Lib.hid ch
  have Chr := Lib.hid chr
  have Hb := Lib.hid hb
  clear cl cr ch chr hb hl er et ex e0 e1 e2 e3 y0 y1 y2 y3 yl z00 z01 z02 z10 z11 z12 z20 z21 z22 z30 z31 z32 hlr v0 v1 v2 v3 v4 v5 v6
  go_enter Try.func7, Try.ntmps7
  go_wp2_with (first | (go_at_call 25; (with_reducible refine (kept_of (checkRef_is _ _ _ _ _ _ _ Hb.out) (by assumption)).mono ?_); rintro e w1 ⟨rfl, hk, g0, g1, g2, g3, g4⟩))
  replace hk := hk.drew
  obtain ⟨g0, g1, g2, g3, g4⟩ := hk.2.2
  go_region_held3 (fun w' => w'.cell? ⟨w.heap.size, 0, none⟩ = some (.int .i64 s) ∧ w'.cell? ⟨w.heap.size, 1, none⟩ = some (.int .i64 k0) ∧ w'.cell? ⟨w.heap.size, 2, none⟩ = some (.int .i64 k1) ∧ w'.cell? ⟨w.heap.size, 3, none⟩ = some (.int .i64 k2) ∧ w'.cell? ⟨w.heap.size, 4, none⟩ = some (.int .i64 k3) ∧ KeepConf w w' s k0 k1 k2 k3)
    (first | exact ⟨by assumption, by assumption, by assumption, by assumption, by assumption, by assumption⟩)
    (first | (go_at_call 26; (with_reducible refine (kept_of (Cl.out _) (by assumption)).mono ?_); rintro e w1 ⟨rfl, hk, g0, g1, g2, g3, g4⟩) | (go_at_call 30; (with_reducible refine (kept_of (Cr.out _) (by assumption)).mono ?_); rintro e w1 ⟨rfl, hk, g0, g1, g2, g3, g4⟩) | (go_at_call 27; (with_reducible refine (kept_of (Ch.out _) (by assumption)).mono ?_); rintro e w1 ⟨rfl, hk, g0, g1, g2, g3, g4⟩) | (go_at_call 29; (with_reducible refine (kept_of (Chr.out _) (by assumption)).mono ?_); rintro e w1 ⟨rfl, hk, g0, g1, g2, g3, g4⟩) | (go_at_call 28; (with_reducible refine (kept_of (awake_is _) (by assumption)).mono ?_); rintro e w1 ⟨rfl, hk, g0, g1, g2, g3, g4⟩))
  rename_i hS
  go_wp2
  go_ret
  exact ⟨rfl, hS.2.2.2.2.2.1⟩

theorem calLevels_walk (s k0 k1 k2 k3 now day l : Int) (w : World) :
    Calls Try.prog 7 #[.agg #[.int .i64 s, .int .i64 k0, .int .i64 k1, .int .i64 k2, .int .i64 k3], .int .i64 now, .int .i64 day, .int .i64 l] w fun e w' => e = .returned (.bool true) ∧ Below w.heap.size w w' := by
  by_cases h : checkI s k0 k1 k2 k3 = false ∨ now < 0 ∨ 1099511627776 < now
  · exact calLevels_bad s k0 k1 k2 k3 now day l _ w rfl h
  · exact calLevels_good s k0 k1 k2 k3 now day l w (by cases hc : checkI s k0 k1 k2 k3 <;> simp_all) (by omega) (by omega)
end Go.Proofs.Ytkeepinbfgepmaa
