/- Own text: what is told first, so many. -/
import Derived.Test.YtdjiaooieiboaaaFacts
import Derived.Test.YtdjiaooieiboaaaAwake
import Derived.Test.YtdjiaooieiboaaaBoth
namespace Go.Proofs.Ytdjiaooieiboaaa
open Go Go.RowKit Go.Shelf Go.Proofs.YtdjiaooieiboaaaW.PrintWords Go.Proofs.Ytdjiaooieiboaaa.PAll

theorem max_left (a b : Int) (h : b ≤ a) (ats : Array TypeId) (ty : TypeId) : Builtin.max_ ats ty #[.int .i64 a, .int .i64 b] = pure (.int .i64 a) := by
  rw [Go.Proofs.YtdjiaooieiboaaaW.PrintMore.max_two, Go.Proofs.YtdjiaooieiboaaaW.PrintMore.max2_int, if_neg (by omega)]; simp
theorem max_right (a b : Int) (h : a < b) (ats : Array TypeId) (ty : TypeId) : Builtin.max_ ats ty #[.int .i64 a, .int .i64 b] = pure (.int .i64 b) := by
  rw [Go.Proofs.YtdjiaooieiboaaaW.PrintMore.max_two, Go.Proofs.YtdjiaooieiboaaaW.PrintMore.max2_int, if_pos h]; simp
theorem ints_at (wa w : World) (A : Option Addr) (c n : Nat) (l : List Int) (hn : l.length = n) (hb : Below wa.heap.size wa w) (hl : n ≤ 100000) (hc : n ≤ c) (hA : ReadsOf (Value.int .i64) 0 wa A n l) :
    Calls Try.prog 14 #[.slice A n c] w fun e w' => ∃ A' c', e = .returned (.slice A' n c') ∧ SL w' A' c' l ∧ Below wa.heap.size wa w' := by
  subst hn
  exact (ints14 w A c l hl ⟨hc, hA.below hb⟩).mono fun _ _ ⟨A', c', h1, h2, h3⟩ => ⟨A', c', h1, h2, below_step hb h3⟩
theorem from_at (wa w : World) (A : Option Addr) (c n : Nat) (l : List Int) (hn : l.length = n) (hu : Up l) (hb : Below wa.heap.size wa w) (hl : n ≤ 8000) (hA : SL w A c l) :
    Calls Try.prog 13 #[.slice A n c] w fun e w' => ∃ gf lb, e = .returned (.func (.func gf) #[] lb) ∧ IT w' gf lb l ∧ Below wa.heap.size wa w' := by
  subst hn
  exact (from13' w A c l l (from_eq hu) hl hA).mono fun _ _ ⟨gf, lb, h1, h2, h3⟩ => ⟨gf, lb, h1, h2, below_step hb h3⟩
theorem list_at (wa w : World) (gf : Nat) (lb : Array Value) (xs : List Int) (m : Int) (N : Nat) (hb : Below wa.heap.size wa w) (hT : IT w gf lb xs) (hN : N = min m.toNat xs.length) :
    Calls Try.prog 12 #[.func (.func gf) #[] lb, .int .i64 m] w (ToldL wa N (xs.take N)) := by
  have ht : xs.take m.toNat = xs.take N := by
    rw [hN]
    by_cases h : m.toNat ≤ xs.length
    · rw [Nat.min_eq_left h]
    · rw [Nat.min_eq_right (by omega), List.take_of_length_le (by omega), List.take_of_length_le (by omega)]
  have hl : (xs.take N).length = N := by rw [List.length_take]; omega
  refine (list12 w gf lb xs m hT).mono ?_
  rintro e w' ⟨A, c, rfl, h1, h2⟩
  rw [ht] at h1
  have h3 := h1.2
  have h4 := h1.1
  rw [hl] at h3 h4
  exact ⟨A, c, by rw [ht, hl], h4, h3, below_step hb h2⟩
theorem awake_at (wa w : World) (hb : Below wa.heap.size wa w) : Calls Try.prog 10 #[] w fun e w' => e = .returned (.bool true) ∧ Below wa.heap.size wa w' :=
  (awake10 w).mono fun _ _ h => ⟨h.1, below_step hb h.2⟩

set_option maxRecDepth 100000 in
set_option maxHeartbeats 8000000 in
theorem postLists_walk (Al : Option Addr) (cl : Nat) (l : List Int) (most : Int) (w : World) (hl : SL w Al cl l) (ml : l.length ≤ 9223372036854775807) :
    Calls Try.prog 3 #[.slice Al l.length cl, .int .i64 most] w fun e w' => e = .returned (.bool true) ∧ Below w.heap.size w w' := by
  by_cases h2 : 200 < l.length
  · go_enter Try.func3, Try.ntmps3
    go_wp2_with fail
    (with_reducible refine (awake10 w).mono ?_)
    rintro e w1 ⟨rfl, b1⟩
    go_wp2_with fail
    go_ret
    exact ⟨rfl, b1⟩
  · cases hq : rises l with
    | false =>
      have Hq := Lib.hid hq
      clear hq
      go_enter Try.func3, Try.ntmps3
      go_wp2_with fail
      (with_reducible refine (rises9' w Al cl l false Hq.out (by omega) hl).mono ?_)
      rintro e w1 ⟨rfl, b1⟩
      go_wp2_with fail
      (with_reducible refine (awake10 w1).mono ?_)
      rintro e w2 ⟨rfl, b2⟩
      go_wp2_with fail
      go_ret
      exact ⟨rfl, below_step b1 b2⟩
    | true =>
      have Hq := Lib.hid hq
      have Hu := Lib.hid ((up_iff l).1 hq)
      clear hq
      obtain ⟨n, hn⟩ : ∃ n, l.length = n := ⟨_, rfl⟩
      have hR := hl.2
      have hc := hl.1
      have hr9 := rises9' w Al cl l true Hq.out (by omega) hl
      rw [hn] at h2 hc hR hr9 ml ⊢
      have Hn := Lib.hid hn
      have Hr9 := Lib.hid hr9
      clear hn hl hr9
      have hkc : (n : Int) ≤ (cl : Int) := by omega
      by_cases hm0 : most ≤ 0
      · have hmin := min_left most (n : Int) (by omega)
        have hmax := max_left 0 most hm0
        have ht := Lib.hid (show min most.toNat l.length = 0 from by omega)
        cases Al with
        | none =>
          have HR := Lib.hid hR
          clear hR
          go_enter Try.func3, Try.ntmps3
          go_wp2_with fail
          (with_reducible refine Hr9.out.mono ?_)
          rintro e wa ⟨rfl, b1⟩
          have HRa := Lib.hid (HR.out.below b1)
          have hkeep : Below wa.heap.size wa wa.drew := below_drew (Below.refl _ _)
          go_wp2
          go_region_held3 (fun _ => True) (trivial) (first | (go_at_call 14; (with_reducible refine (ints_at wa _ none cl n l Hn.out (by assumption) (by omega) (by omega) HRa.out).mono ?_); rintro e w2 ⟨A2, c2, rfl, hs2, hb2⟩) | (go_at_call 13; (with_reducible refine (from_at wa _ A2 c2 n l Hn.out Hu.out (by assumption) (by omega) hs2).mono ?_); rintro e w3 ⟨gf, lb, rfl, ht3, hb3⟩) | (go_at_call 12; (with_reducible refine (list_at wa _ gf lb l most 0 (by assumption) ht3 (by have := Hn.out; omega)).mono ?_); rintro e w4 ⟨A4, c4, rfl, hc4, hr4, hb4⟩) | (go_at_call 11; (with_reducible refine (same_told wa _ A4 c4 none cl n 0 l (by assumption) hc4 hr4 HRa.out hkc (by omega) (by omega)).mono ?_); rintro e w5 ⟨rfl, hb5⟩) | (go_at_call 10; (with_reducible refine (awake_at wa _ (by assumption)).mono ?_); rintro e w6 ⟨rfl, hb6⟩))
          all_goals
            go_wp2
            go_ret
            exact ⟨rfl, below_step b1 (by assumption)⟩
        | some ad =>
          have HR := Lib.hid hR
          clear hR
          go_enter Try.func3, Try.ntmps3
          go_wp2_with fail
          (with_reducible refine Hr9.out.mono ?_)
          rintro e wa ⟨rfl, b1⟩
          have HRa := Lib.hid (HR.out.below b1)
          have hkeep : Below wa.heap.size wa wa.drew := below_drew (Below.refl _ _)
          go_wp2
          go_region_held3 (fun _ => True) (trivial) (first | (go_at_call 14; (with_reducible refine (ints_at wa _ (some ad) cl n l Hn.out (by assumption) (by omega) (by omega) HRa.out).mono ?_); rintro e w2 ⟨A2, c2, rfl, hs2, hb2⟩) | (go_at_call 13; (with_reducible refine (from_at wa _ A2 c2 n l Hn.out Hu.out (by assumption) (by omega) hs2).mono ?_); rintro e w3 ⟨gf, lb, rfl, ht3, hb3⟩) | (go_at_call 12; (with_reducible refine (list_at wa _ gf lb l most 0 (by assumption) ht3 (by have := Hn.out; omega)).mono ?_); rintro e w4 ⟨A4, c4, rfl, hc4, hr4, hb4⟩) | (go_at_call 11; (with_reducible refine (same_told wa _ A4 c4 (some ad) cl n 0 l (by assumption) hc4 hr4 HRa.out hkc (by omega) (by omega)).mono ?_); rintro e w5 ⟨rfl, hb5⟩) | (go_at_call 10; (with_reducible refine (awake_at wa _ (by assumption)).mono ?_); rintro e w6 ⟨rfl, hb6⟩))
          all_goals
            go_wp2
            go_ret
            exact ⟨rfl, below_step b1 (by assumption)⟩
      · by_cases hmn : most ≤ n
        · have hmin := min_left most (n : Int) hmn
          have hmax := max_right 0 most (by omega)
          have hmc : most ≤ (cl : Int) := by omega
          have hm0' : 0 ≤ most := by omega
          obtain ⟨ad, rfl, -⟩ := hR.2.2 (by omega)
          have HR := Lib.hid hR
          clear hR
          go_enter Try.func3, Try.ntmps3
          go_wp2_with fail
          (with_reducible refine Hr9.out.mono ?_)
          rintro e wa ⟨rfl, b1⟩
          have HRa := Lib.hid (HR.out.below b1)
          have hkeep : Below wa.heap.size wa wa.drew := below_drew (Below.refl _ _)
          go_wp2
          go_region_held3 (fun _ => True) (trivial) (first | (go_at_call 14; (with_reducible refine (ints_at wa _ (some ad) cl n l Hn.out (by assumption) (by omega) (by omega) HRa.out).mono ?_); rintro e w2 ⟨A2, c2, rfl, hs2, hb2⟩) | (go_at_call 13; (with_reducible refine (from_at wa _ A2 c2 n l Hn.out Hu.out (by assumption) (by omega) hs2).mono ?_); rintro e w3 ⟨gf, lb, rfl, ht3, hb3⟩) | (go_at_call 12; (with_reducible refine (list_at wa _ gf lb l most most.toNat (by assumption) ht3 (by have := Hn.out; omega)).mono ?_); rintro e w4 ⟨A4, c4, rfl, hc4, hr4, hb4⟩) | (go_at_call 11; (with_reducible refine (same_told wa _ A4 c4 (some ad) cl n most.toNat l (by assumption) hc4 hr4 HRa.out hkc (by omega) (by omega)).mono ?_); rintro e w5 ⟨rfl, hb5⟩) | (go_at_call 10; (with_reducible refine (awake_at wa _ (by assumption)).mono ?_); rintro e w6 ⟨rfl, hb6⟩))
          all_goals
            go_wp2
            go_ret
            exact ⟨rfl, below_step b1 (by assumption)⟩
        · by_cases hn0 : 0 < n
          · have hmin := min_right most (n : Int) (by omega)
            have hmax := max_right 0 (n : Int) (by omega)
            obtain ⟨ad, rfl, -⟩ := hR.2.2 hn0
            have HR := Lib.hid hR
            clear hR
            go_enter Try.func3, Try.ntmps3
            go_wp2_with fail
            (with_reducible refine Hr9.out.mono ?_)
            rintro e wa ⟨rfl, b1⟩
            have HRa := Lib.hid (HR.out.below b1)
            have hkeep : Below wa.heap.size wa wa.drew := below_drew (Below.refl _ _)
            go_wp2
            go_region_held3 (fun _ => True) (trivial) (first | (go_at_call 14; (with_reducible refine (ints_at wa _ (some ad) cl n l Hn.out (by assumption) (by omega) (by omega) HRa.out).mono ?_); rintro e w2 ⟨A2, c2, rfl, hs2, hb2⟩) | (go_at_call 13; (with_reducible refine (from_at wa _ A2 c2 n l Hn.out Hu.out (by assumption) (by omega) hs2).mono ?_); rintro e w3 ⟨gf, lb, rfl, ht3, hb3⟩) | (go_at_call 12; (with_reducible refine (list_at wa _ gf lb l most n (by assumption) ht3 (by have := Hn.out; omega)).mono ?_); rintro e w4 ⟨A4, c4, rfl, hc4, hr4, hb4⟩) | (go_at_call 11; (with_reducible refine (same_told wa _ A4 c4 (some ad) cl n n l (by assumption) hc4 hr4 HRa.out hkc (by omega) (by omega)).mono ?_); rintro e w5 ⟨rfl, hb5⟩) | (go_at_call 10; (with_reducible refine (awake_at wa _ (by assumption)).mono ?_); rintro e w6 ⟨rfl, hb6⟩))
            all_goals
              go_wp2
              go_ret
              exact ⟨rfl, below_step b1 (by assumption)⟩
          · obtain rfl : n = 0 := by omega
            have hmin := min_right most 0 (by omega)
            have hmax := max_left 0 0 (by omega)
            cases Al with
            | none =>
              have HR := Lib.hid hR
              clear hR
              go_enter Try.func3, Try.ntmps3
              go_wp2_with fail
              (with_reducible refine Hr9.out.mono ?_)
              rintro e wa ⟨rfl, b1⟩
              have HRa := Lib.hid (HR.out.below b1)
              have hkeep : Below wa.heap.size wa wa.drew := below_drew (Below.refl _ _)
              go_wp2
              go_region_held3 (fun _ => True) (trivial) (first | (go_at_call 14; (with_reducible refine (ints_at wa _ none cl 0 l Hn.out (by assumption) (by omega) (by omega) HRa.out).mono ?_); rintro e w2 ⟨A2, c2, rfl, hs2, hb2⟩) | (go_at_call 13; (with_reducible refine (from_at wa _ A2 c2 0 l Hn.out Hu.out (by assumption) (by omega) hs2).mono ?_); rintro e w3 ⟨gf, lb, rfl, ht3, hb3⟩) | (go_at_call 12; (with_reducible refine (list_at wa _ gf lb l most 0 (by assumption) ht3 (by have := Hn.out; omega)).mono ?_); rintro e w4 ⟨A4, c4, rfl, hc4, hr4, hb4⟩) | (go_at_call 11; (with_reducible refine (same_told wa _ A4 c4 none cl 0 0 l (by assumption) hc4 hr4 HRa.out hkc (by omega) (by omega)).mono ?_); rintro e w5 ⟨rfl, hb5⟩) | (go_at_call 10; (with_reducible refine (awake_at wa _ (by assumption)).mono ?_); rintro e w6 ⟨rfl, hb6⟩))
              all_goals
                go_wp2
                go_ret
                exact ⟨rfl, below_step b1 (by assumption)⟩
            | some ad =>
              have HR := Lib.hid hR
              clear hR
              go_enter Try.func3, Try.ntmps3
              go_wp2_with fail
              (with_reducible refine Hr9.out.mono ?_)
              rintro e wa ⟨rfl, b1⟩
              have HRa := Lib.hid (HR.out.below b1)
              have hkeep : Below wa.heap.size wa wa.drew := below_drew (Below.refl _ _)
              go_wp2
              go_region_held3 (fun _ => True) (trivial) (first | (go_at_call 14; (with_reducible refine (ints_at wa _ (some ad) cl 0 l Hn.out (by assumption) (by omega) (by omega) HRa.out).mono ?_); rintro e w2 ⟨A2, c2, rfl, hs2, hb2⟩) | (go_at_call 13; (with_reducible refine (from_at wa _ A2 c2 0 l Hn.out Hu.out (by assumption) (by omega) hs2).mono ?_); rintro e w3 ⟨gf, lb, rfl, ht3, hb3⟩) | (go_at_call 12; (with_reducible refine (list_at wa _ gf lb l most 0 (by assumption) ht3 (by have := Hn.out; omega)).mono ?_); rintro e w4 ⟨A4, c4, rfl, hc4, hr4, hb4⟩) | (go_at_call 11; (with_reducible refine (same_told wa _ A4 c4 (some ad) cl 0 0 l (by assumption) hc4 hr4 HRa.out hkc (by omega) (by omega)).mono ?_); rintro e w5 ⟨rfl, hb5⟩) | (go_at_call 10; (with_reducible refine (awake_at wa _ (by assumption)).mono ?_); rintro e w6 ⟨rfl, hb6⟩))
              all_goals
                go_wp2
                go_ret
                exact ⟨rfl, below_step b1 (by assumption)⟩
end Go.Proofs.Ytdjiaooieiboaaa
