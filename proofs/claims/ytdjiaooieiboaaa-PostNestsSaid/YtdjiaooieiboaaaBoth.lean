/- Own text: both: an iterator that tells what is wanted is found to. -/
import Derived.Test.YtdjiaooieiboaaaIterI
namespace Go.Proofs.Ytdjiaooieiboaaa
open Go Go.RowKit Go.Shelf Go.Proofs.YtdjiaooieiboaaaW.PrintWords Go.Proofs.Ytdjiaooieiboaaa.PAll

theorem place24 (v n : Int) (h1 : 1 ≤ n) (h2 : n ≤ 1000000) : ∃ p : Int, 0 ≤ p ∧ p < n ∧ ∀ w : World, Calls Try.prog 24 #[.int .i64 v, .int .i64 n] w fun e w' => e = .returned (.int .i64 p) ∧ Below w.heap.size w w' := by
  have hlt := Int.tmod_lt_of_pos v (show 0 < n by omega)
  have hgt : -n < Int.tmod v n := by
    have h := Int.tmod_lt_of_pos (-v) (show 0 < n by omega)
    rw [Int.neg_tmod] at h; omega
  refine ⟨if Int.tmod v n < 0 then Int.tmod v n + n else Int.tmod v n, by split <;> omega, by split <;> omega, fun w => ?_⟩
  refine (varvelaw00_Place.calls v n _ w ?_).mono fun _ _ h => ⟨h.1, h.2.below⟩
  unfold varvelaw00_Place.f
  rw [if_neg (by omega)]
  split
  · rw [show wrap64 (Int.tmod v n + n) = Int.tmod v n + n by unfold wrap64; omega]
  · rfl

/-- a list told from the world wa on -/
def ToldL (wa : World) (N : Nat) (xs : List Int) (e : Ending) (w' : World) : Prop := ∃ A c, e = .returned (.slice A N c) ∧ N ≤ c ∧ ReadsOf (Value.int .i64) 0 w' A N xs ∧ Below wa.heap.size wa w'
theorem collect_from (wa w : World) (gf : Nat) (lb : Array Value) (xs : List Int) (m : Int) (N : Nat) (hb : Below wa.heap.size wa w) (hT : IT wa gf lb xs) (hN : N = min m.toNat xs.length) :
    Calls Try.prog 25 #[.func (.func gf) #[] lb, .int .i64 m] w (ToldL wa N (xs.take N)) := by
  have ht : xs.take m.toNat = xs.take N := by
    rw [hN]
    by_cases h : m.toNat ≤ xs.length
    · rw [Nat.min_eq_left h]
    · rw [Nat.min_eq_right (by omega), List.take_of_length_le (by omega), List.take_of_length_le (by omega)]
  have hl : (xs.take N).length = N := by rw [List.length_take]; omega
  refine (collect25 w gf lb xs m (hT.below hb)).mono ?_
  rintro e w' ⟨A, c, rfl, h1, h2⟩
  rw [ht] at h1
  have h3 := h1.2
  have h4 := h1.1
  rw [hl] at h3 h4
  exact ⟨A, c, by rw [ht, hl], h4, h3, hb.trans (h2.mono hb.size)⟩
theorem same_told (wa w : World) (A0 : Option Addr) (c0 : Nat) (A1 : Option Addr) (c1 n N : Nat) (xs : List Int) (hb : Below wa.heap.size wa w) (h1 : N ≤ c0) (h0 : ReadsOf (Value.int .i64) 0 w A0 N (xs.take N)) (h2 : ReadsOf (Value.int .i64) 0 wa A1 n xs) (h3 : (n : Int) ≤ (c1 : Int)) (hN : N ≤ n) (hn : n ≤ 100000) :
    Calls Try.prog 11 #[.slice A0 N c0, .slice A1 N c1] w fun e w' => e = .returned (.bool true) ∧ Below wa.heap.size wa w' := by
  have h4 := (h2.below hb).take_ N hN
  have hl : (xs.take N).length = N := h4.1
  have h := same_any w A0 A1 c0 c1 (xs.take N) (xs.take N) (by omega) ⟨by rw [hl]; omega, by rw [hl]; exact h0⟩ ⟨by rw [hl]; omega, by rw [hl]; exact h4⟩
  rw [hl] at h
  refine h.mono ?_
  rintro e w' ⟨he, h⟩
  exact ⟨by rw [he]; simp, hb.trans (h.mono hb.size)⟩

theorem min_left (a b : Int) (h : a ≤ b) (ats : Array TypeId) (ty : TypeId) : Builtin.min_ ats ty #[.int .i64 a, .int .i64 b] = pure (.int .i64 a) := by
  rw [Go.Proofs.YtdjiaooieiboaaaW.PrintMore.min_two, Go.Proofs.YtdjiaooieiboaaaW.PrintMore.min2_int, if_neg (by omega)]; simp
theorem min_right (a b : Int) (h : b < a) (ats : Array TypeId) (ty : TypeId) : Builtin.min_ ats ty #[.int .i64 a, .int .i64 b] = pure (.int .i64 b) := by
  rw [Go.Proofs.YtdjiaooieiboaaaW.PrintMore.min_two, Go.Proofs.YtdjiaooieiboaaaW.PrintMore.min2_int, if_pos h]; simp

set_option maxRecDepth 100000 in
set_option maxHeartbeats 6000000 in
theorem both16 (w : World) (gf : Nat) (lb : Array Value) (A : Option Addr) (c : Nat) (xs : List Int) (most : Int) (hT : IT w gf lb xs) (hA : SL w A c xs) (hl : xs.length ≤ 10000) :
    Calls Try.prog 16 #[.func (.func gf) #[] lb, .slice A xs.length c, .int .i64 most] w fun e w' => e = .returned (.bool true) ∧ Below w.heap.size w w' := by
  obtain ⟨p, hp0, hp1, hpl⟩ := place24 most 12 (by decide) (by decide)
  obtain ⟨n, hn⟩ : ∃ n, xs.length = n := ⟨_, rfl⟩
  have hR := hA.2
  have hc := hA.1
  rw [hn] at hl hc hR ⊢
  have Hn := Lib.hid hn
  clear hn hA
  go_enter Try.func16, Try.ntmps16
  go_wp2_with (go_at_call 24; (with_reducible refine (hpl _).mono ?_); rintro e wa ⟨rfl, hb0⟩)
  have hTa := hT.below hb0
  have hRa := hR.below hb0
  have hwk : IntKind.i64.wrap ((n : Int) + 2) = (n : Int) + 2 := IntWalk.i64_in _ (by omega)
  have Hwk := Lib.hid hwk
  have hkeep : Below wa.heap.size wa wa.drew := below_drew (Below.refl _ _)
  have hq0 : (0 : Int) ≤ 1 + p := by omega
  have hkc : (n : Int) ≤ (c : Int) := by omega
  have hall : w.heap.size ≤ wa.heap.size := hb0.size
  clear hwk
  by_cases hq : 1 + p ≤ n
  · have hqc : 1 + p ≤ (c : Int) := by omega
    obtain ⟨adw, rfl, hcw2⟩ := hRa.2.2 (by omega)
    clear hcw2
    have Hra := Lib.hid hRa
    clear hRa hR hpl
    have hmin := min_left (1 + p) (n : Int) hq
    go_region_held3 (fun _ => True) (trivial) (first | (go_at_call 25; (with_reducible refine (collect_from wa _ gf lb xs (1 + p) (1 + p).toNat (by assumption) hTa (by have := Hn.out; omega)).mono ?_); rintro e w2 ⟨A2, c2, rfl, hc2, hr2, hb2⟩) | (go_at_call 25; (with_reducible refine (collect_from wa _ gf lb xs (IntKind.i64.wrap (↑n + 2)) n (by assumption) hTa (by rw [Hwk.out, Hn.out]; omega)).mono ?_); rintro e w3 ⟨A3, c3, rfl, hc3, hr3, hb3⟩) | (go_at_call 11; (with_reducible refine (same_told wa _ A2 c2 _ c n (1 + p).toNat xs (by assumption) (by assumption) (by assumption) Hra.out hkc (by omega) (by omega)).mono ?_); rintro e wd ⟨rfl, hb4⟩) | (go_at_call 11; (with_reducible refine (same_told wa _ A3 c3 _ c n n xs (by assumption) (by assumption) (by assumption) Hra.out hkc (by omega) (by omega)).mono ?_); rintro e wd ⟨rfl, hb5⟩))
    all_goals
      go_wp2
      go_ret
      exact ⟨rfl, hb0.trans (Below.mono (by assumption) hall)⟩
  · by_cases hk0 : 0 < n
    · obtain ⟨adw, rfl, hcw2⟩ := hRa.2.2 (by omega)
      clear hcw2
      have Hra := Lib.hid hRa
      clear hRa hR hpl
      have hmin := min_right (1 + p) (n : Int) (by omega)
      go_region_held3 (fun _ => True) (trivial) (first | (go_at_call 25; (with_reducible refine (collect_from wa _ gf lb xs (1 + p) n (by assumption) hTa (by have := Hn.out; omega)).mono ?_); rintro e w2 ⟨A2, c2, rfl, hc2, hr2, hb2⟩) | (go_at_call 25; (with_reducible refine (collect_from wa _ gf lb xs (IntKind.i64.wrap (↑n + 2)) n (by assumption) hTa (by rw [Hwk.out, Hn.out]; omega)).mono ?_); rintro e w3 ⟨A3, c3, rfl, hc3, hr3, hb3⟩) | (go_at_call 11; (with_reducible refine (same_told wa _ A2 c2 _ c n n xs (by assumption) (by assumption) (by assumption) Hra.out hkc (by omega) (by omega)).mono ?_); rintro e wd ⟨rfl, hb4⟩) | (go_at_call 11; (with_reducible refine (same_told wa _ A3 c3 _ c n n xs (by assumption) (by assumption) (by assumption) Hra.out hkc (by omega) (by omega)).mono ?_); rintro e wd ⟨rfl, hb5⟩))
      all_goals
        go_wp2
        go_ret
        exact ⟨rfl, hb0.trans (Below.mono (by assumption) hall)⟩
    · have e0 : n = 0 := by omega
      subst e0
      have Hra := Lib.hid hRa
      clear hRa hR hpl
      cases A with
      | none =>
        have hmin := min_right (1 + p) 0 (by omega)
        go_region_held3 (fun _ => True) (trivial) (first | (go_at_call 25; (with_reducible refine (collect_from wa _ gf lb xs (1 + p) 0 (by assumption) hTa (by have := Hn.out; omega)).mono ?_); rintro e w2 ⟨A2, c2, rfl, hc2, hr2, hb2⟩) | (go_at_call 25; (with_reducible refine (collect_from wa _ gf lb xs (IntKind.i64.wrap 2) 0 (by assumption) hTa (by rw [Hn.out]; simp)).mono ?_); rintro e w3 ⟨A3, c3, rfl, hc3, hr3, hb3⟩) | (go_at_call 11; (with_reducible refine (same_told wa _ A2 c2 _ c 0 0 xs (by assumption) (by assumption) (by assumption) Hra.out hkc (by omega) (by omega)).mono ?_); rintro e wd ⟨rfl, hb4⟩) | (go_at_call 11; (with_reducible refine (same_told wa _ A3 c3 _ c 0 0 xs (by assumption) (by assumption) (by assumption) Hra.out hkc (by omega) (by omega)).mono ?_); rintro e wd ⟨rfl, hb5⟩))
        all_goals
          go_wp2
          go_ret
          exact ⟨rfl, hb0.trans (Below.mono (by assumption) hall)⟩
      | some adw =>
        have hmin := min_right (1 + p) 0 (by omega)
        go_region_held3 (fun _ => True) (trivial) (first | (go_at_call 25; (with_reducible refine (collect_from wa _ gf lb xs (1 + p) 0 (by assumption) hTa (by have := Hn.out; omega)).mono ?_); rintro e w2 ⟨A2, c2, rfl, hc2, hr2, hb2⟩) | (go_at_call 25; (with_reducible refine (collect_from wa _ gf lb xs (IntKind.i64.wrap 2) 0 (by assumption) hTa (by rw [Hn.out]; simp)).mono ?_); rintro e w3 ⟨A3, c3, rfl, hc3, hr3, hb3⟩) | (go_at_call 11; (with_reducible refine (same_told wa _ A2 c2 _ c 0 0 xs (by assumption) (by assumption) (by assumption) Hra.out hkc (by omega) (by omega)).mono ?_); rintro e wd ⟨rfl, hb4⟩) | (go_at_call 11; (with_reducible refine (same_told wa _ A3 c3 _ c 0 0 xs (by assumption) (by assumption) (by assumption) Hra.out hkc (by omega) (by omega)).mono ?_); rintro e wd ⟨rfl, hb5⟩))
        all_goals
          go_wp2
          go_ret
          exact ⟨rfl, hb0.trans (Below.mono (by assumption) hall)⟩
end Go.Proofs.Ytdjiaooieiboaaa
