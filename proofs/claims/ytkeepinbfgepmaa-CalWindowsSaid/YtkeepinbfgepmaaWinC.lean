/- The law on windows: what its call does. -/
import Derived.Test.YtkeepinbfgepmaaWinB
import Derived.ChangeKeysEq
namespace Go.Proofs.Ytkeepinbfgepmaa.Win
open Go.RowKit Go.Proofs.Ytkeepinbfgepmaa Go.Proofs.YtkeepinbfgepmaaW.PrintWords

theorem neq_two (x y : Int) (w : World) : (binOp .neq 57 (.agg #[.int .i64 x, .int .i64 y]) (.agg #[.int .i64 x, .int .i64 y])).run Try.prog w = .ok (.bool false) w := by
  have hi3 : (Try.prog.info? 3).map (fun i => (i.zero, i.size, i.bytes)) = some (some (.int .i64 0), 1, 8) := by kernel_rfl
  obtain ⟨i0, hi, hz0, hz1, hz2⟩ := info_parts hi3
  have hc : Try.prog.cellsOf 3 = 1 := by kernel_rfl
  have hpk : Try.prog.plainKey 3 = true := by kernel_rfl
  have hs : List.range 2 = [0, 1] := rfl
  have p0 := run_part_plain (w := w) hpk (xs := #[.int .i64 x, .int .i64 y]) (off := 0) rfl
  have p1 := run_part_plain (w := w) hpk (xs := #[.int .i64 x, .int .i64 y]) (off := 1) rfl
  have q0 : ∀ (d : Nat) (z : Int), (Op.equalIn (d + 1) 3 (.int .i64 z) (.int .i64 z)).run Try.prog w = .ok true w := by
    intro d z
    simp [Op.equalIn, run_underlying Try.underlying3]
  have q : ∀ z : Int, (Op.equalIn 9999 3 (.int .i64 z) (.int .i64 z)).run Try.prog w = .ok true w := fun z => q0 9998 z
  clear q0
  have e : (Op.equalIn 10000 57 (.agg #[.int .i64 x, .int .i64 y]) (.agg #[.int .i64 x, .int .i64 y])).run Try.prog w = .ok true w := by
    rw [run_equalIn_array w 9999 _ _ Try.underlying57 hi, hs, hc]
    simp [Op.eqItems, p0, p1, q]
  simp only [binOp]
  simp [Op.equal, Op.maxDepth, e]

theorem wins_get (s t : Int) : ∀ (N k : Nat), k < N → (wins s t N)[k]? = some (s + k * t, s + k * t + t)
  | 0, k, h => by omega
  | N + 1, k, h => by
    simp only [wins]
    by_cases e : k < N
    · rw [List.getElem?_append_left (by rw [wins_len]; exact e)]
      exact wins_get s t N k e
    · obtain rfl : k = N := by omega
      rw [List.getElem?_append_right (by rw [wins_len]; exact Nat.le_refl _), wins_len]
      simp

/-- a window that is read: its two cells -/
theorem win_cells {w : World} {A : Option Addr} {N : Nat} {s t : Int} (h : ReadsRow Two 2 w A N (wins s t N)) (k : Nat) (hk : k < N) :
    ∃ ad, A = some ad ∧ w.cell? (ad.add (k * 2)) = some (.int .i64 (s + k * t)) ∧ w.cell? (ad.add (k * 2 + 1)) = some (.int .i64 (s + k * t + t)) := by
  obtain ⟨ad, e, hc⟩ := h.2.2 (by omega)
  obtain ⟨c, _, hr, hcell⟩ := hc k _ (wins_get s t N k hk)
  unfold Two at hr
  subst hr
  exact ⟨ad, e, hcell 0 _ rfl, hcell 1 _ rfl⟩

/-- what a gathering call hands back: the first N windows -/
def ToldN (wa : World) (s t : Int) (N : Nat) (e : Ending) (w' : World) : Prop :=
  ∃ A c, e = .returned (.slice A N c) ∧ N ≤ c ∧ ReadsRow Two 2 w' A N (wins s t N) ∧ Below wa.heap.size wa w'
theorem gather_N (w wa : World) (m s t n : Int) (e N : Nat) (hm : 1 ≤ m) (hs : -9223372036854775808 ≤ s ∧ s ≤ 9223372036854775807) (hb : Below wa.heap.size wa w)
    (hx : (Good s t n ∧ N = (min m n).toNat) ∨ (¬ Good s t n ∧ N = 0))
    (c0 : wa.cell? ⟨e, 0, none⟩ = some (.int .i64 s)) (c1 : wa.cell? ⟨e + 1, 0, none⟩ = some (.int .i64 t)) (c2 : wa.cell? ⟨e + 2, 0, none⟩ = some (.int .i64 n)) :
    Calls Try.prog 40 #[.func (.func 46) #[] #[.pointer (some ⟨e + 1, 0, none⟩), .pointer (some ⟨e + 2, 0, none⟩), .pointer (some ⟨e, 0, none⟩)], .int .i64 m] w (ToldN wa s t N) := by
  refine (gather_any w wa m s t n e (wins s t N) hm hs hb ?_ c0 c1 c2).mono ?_
  · rcases hx with ⟨h, rfl⟩ | ⟨h, rfl⟩
    · exact .inl ⟨h, rfl⟩
    · exact .inr ⟨h, rfl⟩
  · rintro e w' ⟨A, c, h1, h2, h3, h4⟩
    rw [wins_len] at h1 h2 h3
    exact ⟨A, c, h1, h2, h3, h4⟩

theorem three_new (w : World) (s t n : Int) :
    (((w.alloc (.cells #[.int .i64 s] 3)).alloc (.cells #[.int .i64 t] 3)).alloc (.cells #[.int .i64 n] 3)).cell? ⟨w.heap.size, 0, none⟩ = some (.int .i64 s) ∧
    (((w.alloc (.cells #[.int .i64 s] 3)).alloc (.cells #[.int .i64 t] 3)).alloc (.cells #[.int .i64 n] 3)).cell? ⟨w.heap.size + 1, 0, none⟩ = some (.int .i64 t) ∧
    (((w.alloc (.cells #[.int .i64 s] 3)).alloc (.cells #[.int .i64 t] 3)).alloc (.cells #[.int .i64 n] 3)).cell? ⟨w.heap.size + 2, 0, none⟩ = some (.int .i64 n) ∧
    Below w.heap.size w (((w.alloc (.cells #[.int .i64 s] 3)).alloc (.cells #[.int .i64 t] 3)).alloc (.cells #[.int .i64 n] 3)) :=
  ⟨by go_simp, by go_simp, by go_simp, (((Below.refl _ _).alloc (Nat.le_refl _) _).alloc (by simp) _).alloc (by simp; omega) _⟩

set_option maxHeartbeats 2000000 in
theorem calWindows_good (s t n most : Int) (w : World) (hg : Good s t n) (hs : -9223372036854775808 ≤ s ∧ s ≤ 9223372036854775807) :
    Calls Try.prog 15 #[.int .i64 s, .int .i64 t, .int .i64 n, .int .i64 most] w fun e w' => e = .returned (.bool true) ∧ Below w.heap.size w w' := by
  have hp0 := Int.emod_nonneg most (show (30 : Int) ≠ 0 by omega)
  have hp1 := Int.emod_lt_of_pos most (show (0 : Int) < 30 by omega)
  obtain ⟨p, hp⟩ : ∃ p, most % 30 = p := ⟨_, rfl⟩
  rw [hp] at hp0 hp1
  have Hp := Lib.hid hp
  have Hg := Lib.hid hg
  have hg' := hg
  obtain ⟨g1, g2, g3, g4, g5⟩ := hg'
  have hn40 : n ≤ 1099511627776 := by have h := Int.ediv_le_self (b := t) (show 0 ≤ 1099511627776 - s by omega); omega
  clear hp hg g5
  go_enter Try.func15, Try.ntmps15
  go_wp2_with (first | (go_at_call 38; (with_reducible refine (ref_good s t n _ Hg.out).mono ?_); rintro e w1 ⟨rfl, rfl⟩) | (go_at_call 39; (with_reducible refine (windows_any s t n _).mono ?_); rintro e w1 ⟨rfl, rfl⟩))
  obtain ⟨wa, hwa⟩ : ∃ wa, ((w.alloc (.cells #[.int .i64 s] 3)).alloc (.cells #[.int .i64 t] 3)).alloc (.cells #[.int .i64 n] 3) = wa := ⟨_, rfl⟩
  obtain ⟨c0, c1, c2, hbw⟩ := three_new w s t n
  rw [hwa] at c0 c1 c2 hbw
  have hbs := hbw.size
  have hk := Below.refl wa.heap.size wa
  rw [hwa]
  clear hwa
  refine wp_loop_rounds 3 ?_
  rw [rounds_succ]
  obtain ⟨N, hN, hNc⟩ : ∃ N : Nat, (N : Int) = min (1 + p) n ∧ ((1 + p ≤ n ∧ (N : Int) = 1 + p) ∨ (n < 1 + p ∧ (N : Int) = n)) := ⟨(min (1 + p) n).toNat, by omega, by omega⟩
  obtain ⟨M, hM, hMc⟩ : ∃ M : Nat, (M : Int) = min 200 n ∧ ((200 ≤ n ∧ (M : Int) = 200) ∨ (n < 200 ∧ (M : Int) = n)) := ⟨(min 200 n).toNat, by omega, by omega⟩
  have HN := Lib.hid hN
  have HM := Lib.hid hM
  clear hN hM
  rcases hNc with ⟨n1, n2⟩ | ⟨n1, n2⟩ <;> rcases hMc with ⟨m1, m2⟩ | ⟨m1, m2⟩
  all_goals try (exfalso; omega)
  all_goals
    have n3 := Int.le_of_eq n2
    have n4 := Int.le_of_eq n2.symm
    have m3 := Int.le_of_eq m2
    have m4 := Int.le_of_eq m2.symm
    clear n2 m2
    go_wp2_with (first | (go_at_call 21; (with_reducible refine (place_is most 30 p _ Hp.out (by omega) (by omega)).mono ?_); rintro e w1 ⟨rfl, rfl⟩) | (go_at_call 40; (with_reducible refine (gather_N _ wa (1 + p) s t n w.heap.size N (by omega) hs (by assumption) (.inl ⟨Hg.out, by have := HN.out; omega⟩) c0 c1 c2).mono ?_); rintro e w1 ⟨A, c, rfl, hc, hr, hb⟩; have Hr := Lib.hid hr; clear hr))
    go_loop [14] (fun i => ∃ k : Nat, k ≤ N ∧ i = .int .i64 k) (fun i => N - (intOf i).toNat)
    case atStart => exact ⟨0, by omega, rfl⟩
    case round =>
      obtain ⟨k, hkN, rfl⟩ := hrel
      by_cases hlt : k < N
      · obtain ⟨ad, rfl, e1, e2⟩ := win_cells Hr.out k hlt
        rw [add_field ad (k * 2) 1 (by omega)] at e2
        obtain ⟨b1, b2⟩ := good_bound Hg.out k (by omega)
        have b3 := good_bound Hg.out (k + 1) (by omega)
        have b4 : ((k + 1 : Nat) : Int) * t = (k : Int) * t + t := by rw [Int.natCast_add, Int.add_mul]; simp
        have b5 : (k : Int) * t + t ≤ 1099511627776 - s := by omega
        clear b3 b4
        have hneq := fun w => neq_two (s + ↑k * t) (s + ↑k * t + t) w
        go_wp2
        go_round
        case rel => exact ⟨k + 1, by omega, by go_num⟩
        case measure => simp [intOf]; omega
      · go_wp2
        rw [rounds_succ]

        go_wp2_with (first | (go_at_call 21; (with_reducible refine (place_is most 30 p _ Hp.out (by omega) (by omega)).mono ?_); rintro e w1 ⟨rfl, rfl⟩) | (go_at_call 40; (with_reducible refine (gather_N _ wa 200 s t n w.heap.size M (by omega) hs (by assumption) (.inl ⟨Hg.out, by have := HM.out; omega⟩) c0 c1 c2).mono ?_); rintro e w1 ⟨A, c, rfl, hc, hr, hb⟩; have Hr := Lib.hid hr; clear hr))
        go_loop [14] (fun i => ∃ k : Nat, k ≤ M ∧ i = .int .i64 k) (fun i => M - (intOf i).toNat)
        case atStart => exact ⟨0, by omega, rfl⟩
        case round =>
          obtain ⟨k, hkN, rfl⟩ := hrel
          by_cases hlt : k < M
          · obtain ⟨ad, rfl, e1, e2⟩ := win_cells Hr.out k hlt
            rw [add_field ad (k * 2) 1 (by omega)] at e2
            obtain ⟨b1, b2⟩ := good_bound Hg.out k (by omega)
            have b3 := good_bound Hg.out (k + 1) (by omega)
            have b4 : ((k + 1 : Nat) : Int) * t = (k : Int) * t + t := by rw [Int.natCast_add, Int.add_mul]; simp
            have b5 : (k : Int) * t + t ≤ 1099511627776 - s := by omega
            clear b3 b4
            have hneq := fun w => neq_two (s + ↑k * t) (s + ↑k * t + t) w
            go_wp2
            go_round
            case rel => exact ⟨k + 1, by omega, by go_num⟩
            case measure => simp [intOf]; omega
          · go_wp2
            rw [rounds_succ]
            go_wp2_with (go_at_call 28; (with_reducible refine (awake_from _ wa (by assumption)).mono ?_); rintro e w1 ⟨rfl, hb⟩)
            go_ret
            exact ⟨rfl, hbw.trans (Below.mono (by assumption) hbs)⟩

set_option maxHeartbeats 1000000 in
theorem calWindows_bad (s t n most : Int) (w : World) (hg : ¬ Good s t n) (hs : -9223372036854775808 ≤ s ∧ s ≤ 9223372036854775807) :
    Calls Try.prog 15 #[.int .i64 s, .int .i64 t, .int .i64 n, .int .i64 most] w fun e w' => e = .returned (.bool true) ∧ Below w.heap.size w w' := by
  have hp0 := Int.emod_nonneg most (show (30 : Int) ≠ 0 by omega)
  have hp1 := Int.emod_lt_of_pos most (show (0 : Int) < 30 by omega)
  obtain ⟨p, hp⟩ : ∃ p, most % 30 = p := ⟨_, rfl⟩
  rw [hp] at hp0 hp1
  have Hp := Lib.hid hp
  have Hg := Lib.hid hg
  clear hp hg
  go_enter Try.func15, Try.ntmps15
  go_wp2_with (first | (go_at_call 38; (with_reducible refine (ref_bad s t n _ Hg.out).mono ?_); rintro e w1 ⟨rfl, rfl⟩) | (go_at_call 39; (with_reducible refine (windows_any s t n _).mono ?_); rintro e w1 ⟨rfl, rfl⟩))
  obtain ⟨wa, hwa⟩ : ∃ wa, ((w.alloc (.cells #[.int .i64 s] 3)).alloc (.cells #[.int .i64 t] 3)).alloc (.cells #[.int .i64 n] 3) = wa := ⟨_, rfl⟩
  obtain ⟨c0, c1, c2, hbw⟩ := three_new w s t n
  rw [hwa] at c0 c1 c2 hbw
  have hbs := hbw.size
  have hk := Below.refl wa.heap.size wa
  rw [hwa]
  clear hwa
  refine wp_loop_rounds 3 ?_
  rw [rounds_succ]
  go_wp2_with (first | (go_at_call 21; (with_reducible refine (place_is most 30 p _ Hp.out (by omega) (by omega)).mono ?_); rintro e w1 ⟨rfl, rfl⟩) | (go_at_call 40; (with_reducible refine (gather_N _ wa (1 + p) s t n w.heap.size 0 (by omega) hs (by assumption) (.inr ⟨Hg.out, rfl⟩) c0 c1 c2).mono ?_); rintro e w1 ⟨A, c, rfl, hc, hr, hb⟩; clear hr))
  refine wp_loop_rounds 1 ?_
  rw [rounds_succ]
  go_wp2
  rw [rounds_succ]
  go_wp2_with (first | (go_at_call 21; (with_reducible refine (place_is most 30 p _ Hp.out (by omega) (by omega)).mono ?_); rintro e w1 ⟨rfl, rfl⟩) | (go_at_call 40; (with_reducible refine (gather_N _ wa 200 s t n w.heap.size 0 (by omega) hs (by assumption) (.inr ⟨Hg.out, rfl⟩) c0 c1 c2).mono ?_); rintro e w1 ⟨A, c, rfl, hc, hr, hb⟩; clear hr))
  refine wp_loop_rounds 1 ?_
  rw [rounds_succ]
  go_wp2
  rw [rounds_succ]
  go_wp2_with (go_at_call 28; (with_reducible refine (awake_from _ wa (by assumption)).mono ?_); rintro e w1 ⟨rfl, hb⟩)
  go_ret
  exact ⟨rfl, hbw.trans (Below.mono (by assumption) hbs)⟩

theorem calWindows_walk (s t n most : Int) (w : World) (h0 : -9223372036854775808 ≤ s) (h1 : s ≤ 9223372036854775807) :
    Calls Try.prog 15 #[.int .i64 s, .int .i64 t, .int .i64 n, .int .i64 most] w fun e w' => e = .returned (.bool true) ∧ Below w.heap.size w w' := by
  by_cases h : Good s t n
  · exact calWindows_good s t n most w h ⟨h0, h1⟩
  · exact calWindows_bad s t n most w h ⟨h0, h1⟩
end Go.Proofs.Ytkeepinbfgepmaa.Win
