/- Contracts of the calendar's levels, the program's and the document's. -/
import Derived.Test.YtkeepinbfgepmaaCalB
import Derived.Handy
namespace Go.Proofs.Ytkeepinbfgepmaa
open Go.RowKit
theorem horizon_is (s k0 k1 k2 k3 now l x : Int) (w : World) (h : horI (keepOf k0 k1 k2 k3 l) now = x) :
    Calls Try.prog 27 #[.agg #[.int .i64 s, .int .i64 k0, .int .i64 k1, .int .i64 k2, .int .i64 k3], .int .i64 now, .int .i64 l] w fun e w' => e = .returned (.int .i64 x) ∧ Below w.heap.size w w' := by
  rw [← h]; exact horizon_any s k0 k1 k2 k3 now l w
theorem times_is (d x : Int) (w : World) (h : timesI d = x) : Calls Try.prog 43 #[.int .i64 d] w fun e w' => e = .returned (.int .i64 x) ∧ w = w' := by
  rw [← h]; exact times_any d w
def levI (x0 x1 x2 x3 t : Int) : Int := if x0 ≤ t then 0 else if x1 ≤ t then 1 else if x2 ≤ t then 2 else if x3 ≤ t then 3 else 4

/-- w is w0 with new blocks; the first of them holds the config -/
def KeepConf (w0 w : World) (s k0 k1 k2 k3 : Int) : Prop :=
  Below w0.heap.size w0 w ∧ w0.heap.size < w.heap.size ∧ w.cell? ⟨w0.heap.size, 0, none⟩ = some (.int .i64 s) ∧ w.cell? ⟨w0.heap.size, 1, none⟩ = some (.int .i64 k0) ∧ w.cell? ⟨w0.heap.size, 2, none⟩ = some (.int .i64 k1) ∧ w.cell? ⟨w0.heap.size, 3, none⟩ = some (.int .i64 k2) ∧ w.cell? ⟨w0.heap.size, 4, none⟩ = some (.int .i64 k3)
theorem keepConf_start (w : World) (s k0 k1 k2 k3 : Int) : KeepConf w (w.alloc (.cells #[.int .i64 s, .int .i64 k0, .int .i64 k1, .int .i64 k2, .int .i64 k3] 41)) s k0 k1 k2 k3 :=
  ⟨(Below.refl _ _).alloc (Nat.le_refl _) _, by simp, by go_simp, by go_simp, by go_simp, by go_simp, by go_simp⟩
theorem KeepConf.step {w0 w w' : World} {s k0 k1 k2 k3 : Int} (h : KeepConf w0 w s k0 k1 k2 k3) (hb : Below w.heap.size w w') : KeepConf w0 w' s k0 k1 k2 k3 := by
  obtain ⟨h0, h1, h2, h3, h4, h5, h6⟩ := h
  have hs := hb.size
  exact ⟨h0.trans (hb.mono (by omega)), by omega, (hb.cell (p := ⟨w0.heap.size, 0, none⟩) h1).trans h2, (hb.cell (p := ⟨w0.heap.size, 1, none⟩) h1).trans h3, (hb.cell (p := ⟨w0.heap.size, 2, none⟩) h1).trans h4, (hb.cell (p := ⟨w0.heap.size, 3, none⟩) h1).trans h5, (hb.cell (p := ⟨w0.heap.size, 4, none⟩) h1).trans h6⟩
theorem horizon_kept (s k0 k1 k2 k3 now l x : Int) (w w0 : World) (h : horI (keepOf k0 k1 k2 k3 l) now = x) (hk : KeepConf w0 w s k0 k1 k2 k3) :
    Calls Try.prog 27 #[.agg #[.int .i64 s, .int .i64 k0, .int .i64 k1, .int .i64 k2, .int .i64 k3], .int .i64 now, .int .i64 l] w fun e w' => e = .returned (.int .i64 x) ∧ KeepConf w0 w' s k0 k1 k2 k3 ∧
      w'.cell? ⟨w0.heap.size, 0, none⟩ = some (.int .i64 s) ∧ w'.cell? ⟨w0.heap.size, 1, none⟩ = some (.int .i64 k0) ∧ w'.cell? ⟨w0.heap.size, 2, none⟩ = some (.int .i64 k1) ∧ w'.cell? ⟨w0.heap.size, 3, none⟩ = some (.int .i64 k2) ∧ w'.cell? ⟨w0.heap.size, 4, none⟩ = some (.int .i64 k3) :=
  (horizon_is s k0 k1 k2 k3 now l x w h).mono fun _ _ ⟨he, hb⟩ => ⟨he, hk.step hb, (hk.step hb).2.2⟩

theorem level_is (s k0 k1 k2 k3 now day x0 x1 x2 x3 t : Int) (w : World) (h0 : Hid (horI (keepOf k0 k1 k2 k3 0) now = x0)) (h1 : Hid (horI (keepOf k0 k1 k2 k3 1) now = x1)) (h2 : Hid (horI (keepOf k0 k1 k2 k3 2) now = x2)) (h3 : Hid (horI (keepOf k0 k1 k2 k3 3) now = x3)) (ht : Hid (timesI day = t)) :
    Calls Try.prog 26 #[.agg #[.int .i64 s, .int .i64 k0, .int .i64 k1, .int .i64 k2, .int .i64 k3], .int .i64 now, .int .i64 day] w fun e w' => e = .returned (.int .i64 (levI x0 x1 x2 x3 t)) ∧ Below w.heap.size w w' := by
  have hk0 := keepConf_start w s k0 k1 k2 k3
  go_enter Try.func26, Try.ntmps26
  go_wp2
  go_step3
  go_wp2
  go_step3
  go_wp2
  refine wp_loop_rounds 5 ?_
  rw [rounds_succ]
  go_wp2_with (first | (go_at_call 27; (with_reducible refine (horizon_kept _ _ _ _ _ _ 0 x0 _ w h0.out (by assumption)).mono ?_); rintro e w1 ⟨rfl, hk, g0, g1, g2, g3, g4⟩) | (go_at_call 43; (with_reducible refine (times_is _ _ _ ht.out).mono ?_); rintro e w' ⟨rfl, rfl⟩))
  · rw [Exit.noGoto_ret]
    go_ret
    exact ⟨ret_i (by unfold levI; rw [if_pos (by omega)]), hk.1⟩
  rw [rounds_succ]
  go_wp2_with (first | (go_at_call 27; (with_reducible refine (horizon_kept _ _ _ _ _ _ 1 x1 _ w h1.out (by assumption)).mono ?_); rintro e w1 ⟨rfl, hk, g0, g1, g2, g3, g4⟩) | (go_at_call 43; (with_reducible refine (times_is _ _ _ ht.out).mono ?_); rintro e w' ⟨rfl, rfl⟩))
  · rw [Exit.noGoto_ret]
    go_ret
    exact ⟨ret_i (by unfold levI; rw [if_neg (by omega), if_pos (by omega)]), hk.1⟩
  rw [rounds_succ]
  go_wp2_with (first | (go_at_call 27; (with_reducible refine (horizon_kept _ _ _ _ _ _ 2 x2 _ w h2.out (by assumption)).mono ?_); rintro e w1 ⟨rfl, hk, g0, g1, g2, g3, g4⟩) | (go_at_call 43; (with_reducible refine (times_is _ _ _ ht.out).mono ?_); rintro e w' ⟨rfl, rfl⟩))
  · rw [Exit.noGoto_ret]
    go_ret
    exact ⟨ret_i (by unfold levI; rw [if_neg (by omega), if_neg (by omega), if_pos (by omega)]), hk.1⟩
  rw [rounds_succ]
  go_wp2_with (first | (go_at_call 27; (with_reducible refine (horizon_kept _ _ _ _ _ _ 3 x3 _ w h3.out (by assumption)).mono ?_); rintro e w1 ⟨rfl, hk, g0, g1, g2, g3, g4⟩) | (go_at_call 43; (with_reducible refine (times_is _ _ _ ht.out).mono ?_); rintro e w' ⟨rfl, rfl⟩))
  · rw [Exit.noGoto_ret]
    go_ret
    exact ⟨ret_i (by unfold levI; rw [if_neg (by omega), if_neg (by omega), if_neg (by omega), if_pos (by omega)]), hk.1⟩
  rw [rounds_succ]
  go_wp2
  rw [Exit.noGoto_ret]
  go_ret
  exact ⟨ret_i (by unfold levI; rw [if_neg (by omega), if_neg (by omega), if_neg (by omega), if_neg (by omega)]), hk.1⟩

theorem horizonRef_kept (s k0 k1 k2 k3 now l k x : Int) (w w0 : World) (ek : keepOf k0 k1 k2 k3 l = k) (hn : 0 ≤ now) (hn1 : now ≤ 1099511627776) (hkb : 1 ≤ k ∧ k ≤ 100000) (h : horRefI k now = x) (hk : KeepConf w0 w s k0 k1 k2 k3) :
    Calls Try.prog 29 #[.agg #[.int .i64 s, .int .i64 k0, .int .i64 k1, .int .i64 k2, .int .i64 k3], .int .i64 now, .int .i64 l] w fun e w' => e = .returned (.int .i64 x) ∧ KeepConf w0 w' s k0 k1 k2 k3 ∧
      w'.cell? ⟨w0.heap.size, 0, none⟩ = some (.int .i64 s) ∧ w'.cell? ⟨w0.heap.size, 1, none⟩ = some (.int .i64 k0) ∧ w'.cell? ⟨w0.heap.size, 2, none⟩ = some (.int .i64 k1) ∧ w'.cell? ⟨w0.heap.size, 3, none⟩ = some (.int .i64 k2) ∧ w'.cell? ⟨w0.heap.size, 4, none⟩ = some (.int .i64 k3) := by
  subst ek
  rw [← h]
  exact (horizonRef_any s k0 k1 k2 k3 now l w hn hn1 hkb.1 hkb.2).mono fun _ _ ⟨he, hb⟩ => ⟨he, hk.step hb, (hk.step hb).2.2⟩

theorem levelRef_is (s k0 k1 k2 k3 now day x0 x1 x2 x3 : Int) (w : World) (hn : 0 ≤ now) (hn1 : now ≤ 1099511627776) (b0 : 1 ≤ k0 ∧ k0 ≤ 100000) (b1 : 1 ≤ k1 ∧ k1 ≤ 100000) (b2 : 1 ≤ k2 ∧ k2 ≤ 100000) (b3 : 1 ≤ k3 ∧ k3 ≤ 100000)
    (h0 : Hid (horRefI k0 now = x0)) (h1 : Hid (horRefI k1 now = x1)) (h2 : Hid (horRefI k2 now = x2)) (h3 : Hid (horRefI k3 now = x3))
    (p0 : 0 ≤ x0) (p1 : 0 ≤ x1) (p2 : 0 ≤ x2) (p3 : 0 ≤ x3) (q0 : x0 ≤ 1099511627776) (q1 : x1 ≤ 1099511627776) (q2 : x2 ≤ 1099511627776) (q3 : x3 ≤ 1099511627776) :
    Calls Try.prog 30 #[.agg #[.int .i64 s, .int .i64 k0, .int .i64 k1, .int .i64 k2, .int .i64 k3], .int .i64 now, .int .i64 day] w fun e w' => e = .returned (.int .i64 (levI (x0 / 8640) (x1 / 8640) (x2 / 8640) (x3 / 8640) day)) ∧ Below w.heap.size w w' := by
  have hk0 := keepConf_start w s k0 k1 k2 k3
  go_enter Try.func30, Try.ntmps30
  go_wp2
  refine wp_loop_rounds 5 ?_
  rw [rounds_succ]
  go_wp2_with (go_at_call 29; (with_reducible refine (horizonRef_kept _ _ _ _ _ _ 0 k0 x0 _ w rfl hn hn1 b0 h0.out (by assumption)).mono ?_); rintro e w1 ⟨rfl, hk, g0, g1, g2, g3, g4⟩)
  · go_ret
    exact ⟨ret_i (by unfold levI; rw [if_pos (by omega)]), hk.1⟩
  rw [rounds_succ]
  go_wp2_with (go_at_call 29; (with_reducible refine (horizonRef_kept _ _ _ _ _ _ 1 k1 x1 _ w rfl hn hn1 b1 h1.out (by assumption)).mono ?_); rintro e w1 ⟨rfl, hk, g0, g1, g2, g3, g4⟩)
  · go_ret
    exact ⟨ret_i (by unfold levI; rw [if_neg (by omega), if_pos (by omega)]), hk.1⟩
  rw [rounds_succ]
  go_wp2_with (go_at_call 29; (with_reducible refine (horizonRef_kept _ _ _ _ _ _ 2 k2 x2 _ w rfl hn hn1 b2 h2.out (by assumption)).mono ?_); rintro e w1 ⟨rfl, hk, g0, g1, g2, g3, g4⟩)
  · go_ret
    exact ⟨ret_i (by unfold levI; rw [if_neg (by omega), if_neg (by omega), if_pos (by omega)]), hk.1⟩
  rw [rounds_succ]
  go_wp2_with (go_at_call 29; (with_reducible refine (horizonRef_kept _ _ _ _ _ _ 3 k3 x3 _ w rfl hn hn1 b3 h3.out (by assumption)).mono ?_); rintro e w1 ⟨rfl, hk, g0, g1, g2, g3, g4⟩)
  · go_ret
    exact ⟨ret_i (by unfold levI; rw [if_neg (by omega), if_neg (by omega), if_neg (by omega), if_pos (by omega)]), hk.1⟩
  rw [rounds_succ]
  go_wp2
  go_ret
  exact ⟨ret_i (by unfold levI; rw [if_neg (by omega), if_neg (by omega), if_neg (by omega), if_neg (by omega)]), hk.1⟩
end Go.Proofs.Ytkeepinbfgepmaa
