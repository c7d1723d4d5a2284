/- The laws on rounding down, on the coarsest level, on checks: what each call does. -/
import Derived.Test.YtkeepinbfgepmaaCalC
import Derived.Test.YtkeepinbfgepmaaCalE
namespace Go.Proofs.Ytkeepinbfgepmaa
open Go.RowKit
set_option linter.unusedSimpArgs false

theorem floorI_facts (a l : Int) (h0 : -9223372036854775808 ≤ a) (h1 : a ≤ 9223372036854775807) :
    (-9223372036854775808 ≤ floorI a l ∧ floorI a l ≤ 9223372036854775807) ∧ floorI (floorI a l) l = floorI a l := by
  unfold floorI
  rcases resI_cases l with ⟨_, h⟩ | ⟨_, h⟩ | ⟨_, h⟩ | ⟨_, h⟩ | ⟨_, h⟩ <;> rw [h] <;> simp <;> (try split) <;> omega

theorem floor_from (a l x : Int) (w w0 : World) (h : floorI a l = x) (h0 : -9223372036854775808 ≤ a) (h1 : a ≤ 9223372036854775807) (hk : Below w0.heap.size w0 w) :
    Calls Try.prog 34 #[.int .i64 a, .int .i64 l] w fun e w' => e = .returned (.int .i64 x) ∧ Below w0.heap.size w0 w' := by
  subst h
  exact (floor_any a l w h0 h1).mono fun _ _ ⟨he, hb⟩ => ⟨he, hk.trans (hb.mono hk.size)⟩
theorem floorRef_from (a l x : Int) (w : World) (h : floorI a l = x) (h0 : -9223372036854775808 ≤ a) (h1 : a ≤ 9223372036854775807) :
    Calls Try.prog 35 #[.int .i64 a, .int .i64 l] w fun e w' => e = .returned (.int .i64 x) ∧ w = w' := by
  subst h
  exact floorRef_any a l w h0 h1

theorem calFloors_walk (a l : Int) (w : World) (h0 : -9223372036854775808 ≤ a) (h1 : a ≤ 9223372036854775807) :
    Calls Try.prog 12 #[.int .i64 a, .int .i64 l] w fun e w' => e = .returned (.bool true) ∧ Below w.heap.size w w' := by
  obtain ⟨hf, hi⟩ := floorI_facts a l h0 h1
  obtain ⟨x, hx⟩ : ∃ x, floorI a l = x := ⟨_, rfl⟩
  rw [hx] at hi hf
  have Hx := Lib.hid hx
  have Hi := Lib.hid hi
  clear hx hi
  obtain ⟨hf0, hf1⟩ := hf
  have hk := Below.refl w.heap.size w
  go_enter Try.func12, Try.ntmps12
  go_wp2_with (first | (go_at_call 34; (with_reducible refine (floor_from a l x _ w Hx.out h0 h1 (by assumption)).mono ?_); rintro e w1 ⟨rfl, hb⟩) | (go_at_call 34; (with_reducible refine (floor_from x l x _ w Hi.out hf0 hf1 (by assumption)).mono ?_); rintro e w1 ⟨rfl, hb⟩) | (go_at_call 35; (with_reducible refine (floorRef_from a l x _ Hx.out h0 h1).mono ?_); rintro e w1 ⟨rfl, rfl⟩) | (go_at_call 28; (with_reducible refine (awake_from _ w (by assumption)).mono ?_); rintro e w1 ⟨rfl, hb⟩))
  go_ret
  exact ⟨rfl, by assumption⟩

theorem place_any (v n : Int) (w : World) (hn : 1 ≤ n) (hn1 : n ≤ 4611686018427387904) : Calls Try.prog 21 #[.int .i64 v, .int .i64 n] w fun e w' => e = .returned (.int .i64 (v % n)) ∧ w = w' := by
  have hz : (n == 0) = false := by simp; omega
  rcases tmod_cases v n hn with ⟨t1, t2, t3⟩ | ⟨t1, t2, t3⟩
  all_goals
    have T := Lib.hid t2
    clear t2
    go_enter Try.func21, Try.ntmps21
    go_wp2
    go_ret
    exact ⟨ret_i (by rw [T.out]), rfl⟩
theorem place_is (v n x : Int) (w : World) (h : v % n = x) (hn : 1 ≤ n) (hn1 : n ≤ 4611686018427387904) : Calls Try.prog 21 #[.int .i64 v, .int .i64 n] w fun e w' => e = .returned (.int .i64 x) ∧ w = w' := by
  subst h; exact place_any v n w hn hn1

theorem nests_plain (at_ lo hi r s : Int) (h0 : 0 ≤ at_) (hl : 0 ≤ lo) (hlh : lo ≤ hi) (hh : hi < 4) (hr : resI lo = r) (hs : resI hi = s) :
    ∃ f g, floorI at_ hi = f ∧ floorI at_ lo = g ∧ floorI g hi = f ∧ f ≤ at_ ∧ at_ - f < s ∧ 0 ≤ f ∧ 0 ≤ g ∧ g ≤ at_ ∧ s % r = 0 ∧ 1 ≤ r ∧ r ≤ 8640 ∧ s ≤ 8640 ∧ 1 ≤ s := by
  refine ⟨_, _, rfl, rfl, ?_⟩
  unfold floorI
  subst hr hs
  rcases resI_cases lo with ⟨a, h⟩ | ⟨a, h⟩ | ⟨a, h⟩ | ⟨a, h⟩ | ⟨a, h⟩ <;> rcases resI_cases hi with ⟨b, k⟩ | ⟨b, k⟩ | ⟨b, k⟩ | ⟨b, k⟩ | ⟨b, k⟩ <;> (try omega) <;> rw [h, k] <;> simp <;> (repeat' split) <;> omega

theorem calNests_walk (a x y : Int) (w : World) :
    Calls Try.prog 13 #[.int .i64 a, .int .i64 x, .int .i64 y] w fun e w' => e = .returned (.bool true) ∧ Below w.heap.size w w' := by
  have hk := Below.refl w.heap.size w
  by_cases c0 : a < 0
  · go_enter Try.func13, Try.ntmps13
    go_wp2_with (go_at_call 28; (with_reducible refine (awake_from _ w (by assumption)).mono ?_); rintro e w1 ⟨rfl, hb⟩)
    go_ret
    exact ⟨rfl, by assumption⟩
  by_cases c1 : 1099511627776 < a
  · go_enter Try.func13, Try.ntmps13
    go_wp2_with (go_at_call 28; (with_reducible refine (awake_from _ w (by assumption)).mono ?_); rintro e w1 ⟨rfl, hb⟩)
    go_ret
    exact ⟨rfl, by assumption⟩
  obtain ⟨p, hp⟩ : ∃ p, x % 4 = p := ⟨_, rfl⟩
  obtain ⟨q, hq⟩ : ∃ q, y % 4 = q := ⟨_, rfl⟩
  have p0 : 0 ≤ p ∧ p < 4 := by omega
  have q0 : 0 ≤ q ∧ q < 4 := by omega
  have Hp := Lib.hid hp
  have Hq := Lib.hid hq
  clear hp hq
  rcases (by omega : p < q ∨ p = q ∨ q < p) with c2 | c2 | c2
  · obtain ⟨r, hr⟩ : ∃ r, resI p = r := ⟨_, rfl⟩
    obtain ⟨s, hs⟩ : ∃ s, resI q = s := ⟨_, rfl⟩
    obtain ⟨f, g, e1, e2, e3, b1, b2, b3, b4, b5, b6, b7, b8, b9, b10⟩ := nests_plain a p q r s (by omega) p0.1 (by omega) q0.2 hr hs
    have E1 := Lib.hid e1
    have E2 := Lib.hid e2
    have E3 := Lib.hid e3
    have Er := Lib.hid hr
    have Es := Lib.hid hs
    clear e1 e2 e3 hr hs
    go_enter Try.func13, Try.ntmps13
    go_wp2_with (first | (go_at_call 21; (with_reducible refine (place_is x 4 p _ Hp.out (by omega) (by omega)).mono ?_); rintro e w1 ⟨rfl, rfl⟩) | (go_at_call 21; (with_reducible refine (place_is y 4 q _ Hq.out (by omega) (by omega)).mono ?_); rintro e w1 ⟨rfl, rfl⟩) | (go_at_call 34; (with_reducible refine (floor_from a q f _ w E1.out (by omega) (by omega) (by assumption)).mono ?_); rintro e w1 ⟨rfl, hb⟩) | (go_at_call 34; (with_reducible refine (floor_from a p g _ w E2.out (by omega) (by omega) (by assumption)).mono ?_); rintro e w1 ⟨rfl, hb⟩) | (go_at_call 34; (with_reducible refine (floor_from g q f _ w E3.out (by omega) (by omega) (by assumption)).mono ?_); rintro e w1 ⟨rfl, hb⟩) | (go_at_call 33; (with_reducible refine (res_from q s _ w Es.out (by assumption)).mono ?_); rintro e w1 ⟨rfl, hb⟩) | (go_at_call 33; (with_reducible refine (res_from p r _ w Er.out (by assumption)).mono ?_); rintro e w1 ⟨rfl, hb⟩) | (go_at_call 28; (with_reducible refine (awake_from _ w (by assumption)).mono ?_); rintro e w1 ⟨rfl, hb⟩))
    go_ret
    exact ⟨rfl, by assumption⟩
  · subst c2
    obtain ⟨r, hr⟩ : ∃ r, resI p = r := ⟨_, rfl⟩
    obtain ⟨s, hs⟩ : ∃ s, resI p = s := ⟨_, rfl⟩
    obtain ⟨f, g, e1, e2, e3, b1, b2, b3, b4, b5, b6, b7, b8, b9, b10⟩ := nests_plain a p p r s (by omega) p0.1 (by omega) p0.2 hr hs
    have ers : s = r := hs.symm.trans hr
    have efg : g = f := e2.symm.trans e1
    subst efg
    subst ers
    clear e1 hr
    have E1 := Lib.hid e2
    have E3 := Lib.hid e3
    have Es := Lib.hid hs
    clear e2 e3 hs
    go_enter Try.func13, Try.ntmps13
    go_wp2_with (first | (go_at_call 21; (with_reducible refine (place_is x 4 p _ Hp.out (by omega) (by omega)).mono ?_); rintro e w1 ⟨rfl, rfl⟩) | (go_at_call 21; (with_reducible refine (place_is y 4 p _ Hq.out (by omega) (by omega)).mono ?_); rintro e w1 ⟨rfl, rfl⟩) | (go_at_call 34; (with_reducible refine (floor_from a p g _ w E1.out (by omega) (by omega) (by assumption)).mono ?_); rintro e w1 ⟨rfl, hb⟩) | (go_at_call 34; (with_reducible refine (floor_from g p g _ w E3.out (by omega) (by omega) (by assumption)).mono ?_); rintro e w1 ⟨rfl, hb⟩) | (go_at_call 33; (with_reducible refine (res_from p s _ w Es.out (by assumption)).mono ?_); rintro e w1 ⟨rfl, hb⟩) | (go_at_call 28; (with_reducible refine (awake_from _ w (by assumption)).mono ?_); rintro e w1 ⟨rfl, hb⟩))
    go_ret
    exact ⟨rfl, by assumption⟩
  · obtain ⟨r, hr⟩ : ∃ r, resI q = r := ⟨_, rfl⟩
    obtain ⟨s, hs⟩ : ∃ s, resI p = s := ⟨_, rfl⟩
    obtain ⟨f, g, e1, e2, e3, b1, b2, b3, b4, b5, b6, b7, b8, b9, b10⟩ := nests_plain a q p r s (by omega) q0.1 (by omega) p0.2 hr hs
    have E1 := Lib.hid e1
    have E2 := Lib.hid e2
    have E3 := Lib.hid e3
    have Er := Lib.hid hr
    have Es := Lib.hid hs
    clear e1 e2 e3 hr hs
    go_enter Try.func13, Try.ntmps13
    go_wp2_with (first | (go_at_call 21; (with_reducible refine (place_is x 4 p _ Hp.out (by omega) (by omega)).mono ?_); rintro e w1 ⟨rfl, rfl⟩) | (go_at_call 21; (with_reducible refine (place_is y 4 q _ Hq.out (by omega) (by omega)).mono ?_); rintro e w1 ⟨rfl, rfl⟩) | (go_at_call 34; (with_reducible refine (floor_from a p f _ w E1.out (by omega) (by omega) (by assumption)).mono ?_); rintro e w1 ⟨rfl, hb⟩) | (go_at_call 34; (with_reducible refine (floor_from a q g _ w E2.out (by omega) (by omega) (by assumption)).mono ?_); rintro e w1 ⟨rfl, hb⟩) | (go_at_call 34; (with_reducible refine (floor_from g p f _ w E3.out (by omega) (by omega) (by assumption)).mono ?_); rintro e w1 ⟨rfl, hb⟩) | (go_at_call 33; (with_reducible refine (res_from p s _ w Es.out (by assumption)).mono ?_); rintro e w1 ⟨rfl, hb⟩) | (go_at_call 33; (with_reducible refine (res_from q r _ w Er.out (by assumption)).mono ?_); rintro e w1 ⟨rfl, hb⟩) | (go_at_call 28; (with_reducible refine (awake_from _ w (by assumption)).mono ?_); rintro e w1 ⟨rfl, hb⟩))
    go_ret
    exact ⟨rfl, by assumption⟩
end Go.Proofs.Ytkeepinbfgepmaa
