/- The law on checks: what its call does; contracts that keep the config which lies in the first new block. -/
import Derived.Test.YtkeepinbfgepmaaCalF
import Derived.Deep.RegionHeld3
namespace Go.Proofs.Ytkeepinbfgepmaa
open Go.RowKit
set_option linter.unusedSimpArgs false

theorem kept_of {f : FuncId} {args : Array Value} {e0 : Ending} {w w0 : World} {s k0 k1 k2 k3 : Int} (hc : Calls Try.prog f args w fun e w' => e = e0 ∧ Below w.heap.size w w') (hk : KeepConf w0 w s k0 k1 k2 k3) :
    Calls Try.prog f args w fun e w' => e = e0 ∧ KeepConf w0 w' s k0 k1 k2 k3 ∧ w'.cell? ⟨w0.heap.size, 0, none⟩ = some (.int .i64 s) ∧ w'.cell? ⟨w0.heap.size, 1, none⟩ = some (.int .i64 k0) ∧ w'.cell? ⟨w0.heap.size, 2, none⟩ = some (.int .i64 k1) ∧ w'.cell? ⟨w0.heap.size, 3, none⟩ = some (.int .i64 k2) ∧ w'.cell? ⟨w0.heap.size, 4, none⟩ = some (.int .i64 k3) :=
  hc.mono fun _ _ ⟨he, hb⟩ => ⟨he, hk.step hb, (hk.step hb).2.2⟩
theorem below_drew' {B : Nat} {w W : World} (h : Below B w W) : Below B w W.drew := ⟨h.os, h.tape, h.output, h.size, h.block⟩
theorem KeepConf.drew {w0 w : World} {s k0 k1 k2 k3 : Int} (h : KeepConf w0 w s k0 k1 k2 k3) : KeepConf w0 w.drew s k0 k1 k2 k3 := ⟨below_drew' h.1, h.2⟩
theorem same_below {f : FuncId} {args : Array Value} {e0 : Ending} {w : World} (hc : Calls Try.prog f args w fun e w' => e = e0 ∧ w = w') : Calls Try.prog f args w fun e w' => e = e0 ∧ Below w.heap.size w w' :=
  hc.mono fun _ _ ⟨he, hb⟩ => ⟨he, hb ▸ Below.refl _ _⟩
theorem check_is (s k0 k1 k2 k3 : Int) (b : Bool) (w : World) (h : checkI s k0 k1 k2 k3 = b) :
    Calls Try.prog 36 #[.agg #[.int .i64 s, .int .i64 k0, .int .i64 k1, .int .i64 k2, .int .i64 k3]] w fun e w' => e = .returned (.bool b) ∧ Below w.heap.size w w' := by
  subst h
  exact check_any s k0 k1 k2 k3 w
theorem checkRef_is (s k0 k1 k2 k3 : Int) (b : Bool) (w : World) (h : checkI s k0 k1 k2 k3 = b) :
    Calls Try.prog 25 #[.agg #[.int .i64 s, .int .i64 k0, .int .i64 k1, .int .i64 k2, .int .i64 k3]] w fun e w' => e = .returned (.bool b) ∧ Below w.heap.size w w' := by
  subst h
  exact checkRef_any s k0 k1 k2 k3 w
theorem awake_is (w : World) : Calls Try.prog 28 #[] w fun e w' => e = .returned (.bool true) ∧ Below w.heap.size w w' := awake_from w w (Below.refl _ _)

theorem calChecks_walk (s k0 k1 k2 k3 l : Int) (w : World) :
    Calls Try.prog 14 #[.agg #[.int .i64 s, .int .i64 k0, .int .i64 k1, .int .i64 k2, .int .i64 k3], .int .i64 l] w fun e w' => e = .returned (.bool true) ∧ Below w.heap.size w w' := by
  have hk := keepConf_start w s k0 k1 k2 k3
  obtain ⟨b, hb⟩ : ∃ b, checkI s k0 k1 k2 k3 = b := ⟨_, rfl⟩
  obtain ⟨r, hr⟩ : ∃ r, resI l = r := ⟨_, rfl⟩
  have Hb := Lib.hid hb
  have Hr := Lib.hid hr
  clear hb hr
  go_enter Try.func14, Try.ntmps14
  go_wp2
  obtain ⟨wa, hwa⟩ : ∃ wa, w.alloc (.cells #[.int .i64 s, .int .i64 k0, .int .i64 k1, .int .i64 k2, .int .i64 k3] 41) = wa := ⟨_, rfl⟩
  rw [hwa] at hk ⊢
  clear hwa
  replace hk := hk.drew
  obtain ⟨g0, g1, g2, g3, g4⟩ := hk.2.2
  go_region_held3 (fun w' => w'.cell? ⟨w.heap.size, 0, none⟩ = some (.int .i64 s) ∧ w'.cell? ⟨w.heap.size, 1, none⟩ = some (.int .i64 k0) ∧ w'.cell? ⟨w.heap.size, 2, none⟩ = some (.int .i64 k1) ∧ w'.cell? ⟨w.heap.size, 3, none⟩ = some (.int .i64 k2) ∧ w'.cell? ⟨w.heap.size, 4, none⟩ = some (.int .i64 k3) ∧ KeepConf w w' s k0 k1 k2 k3)
    (first | exact ⟨by assumption, by assumption, by assumption, by assumption, by assumption, by assumption⟩)
    (first | (go_at_call 36; (with_reducible refine (kept_of (check_is _ _ _ _ _ b _ Hb.out) (by assumption)).mono ?_); rintro e w1 ⟨rfl, hk, g0, g1, g2, g3, g4⟩) | (go_at_call 25; (with_reducible refine (kept_of (checkRef_is _ _ _ _ _ b _ Hb.out) (by assumption)).mono ?_); rintro e w1 ⟨rfl, hk, g0, g1, g2, g3, g4⟩) | (go_at_call 33; (with_reducible refine (kept_of (res_is l r _ Hr.out) (by assumption)).mono ?_); rintro e w1 ⟨rfl, hk, g0, g1, g2, g3, g4⟩) | (go_at_call 37; (with_reducible refine (kept_of (same_below (resRef_is l r _ Hr.out)) (by assumption)).mono ?_); rintro e w1 ⟨rfl, hk, g0, g1, g2, g3, g4⟩) | (go_at_call 28; (with_reducible refine (kept_of (awake_is _) (by assumption)).mono ?_); rintro e w1 ⟨rfl, hk, g0, g1, g2, g3, g4⟩))
  rename_i hS
  go_wp2
  go_ret
  exact ⟨rfl, hS.2.2.2.2.2.1⟩
end Go.Proofs.Ytkeepinbfgepmaa
