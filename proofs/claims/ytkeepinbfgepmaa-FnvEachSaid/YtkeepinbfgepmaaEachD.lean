/- The law on the iterator over hashes: what its call does. -/
import Derived.Test.YtkeepinbfgepmaaEachC
import Derived.Deep.RegionWith
namespace Go.Proofs.Ytkeepinbfgepmaa.Each
open Go.RowKit Go.Proofs.Ytkeepinbfgepmaa Go.Proofs.Ytkeepinbfgepmaa.PFnvEach Go.Proofs.YtkeepinbfgepmaaW.PrintWords Go.Proofs.YtkeepinbfgepmaaW.PrintLast

theorem same_l0 (xs : List Int) (hs : xs.length ≤ 9223372036854775806) : ∀ (d k : Nat) (i : Int), 0 ≤ i → i + d = xs.length → d < k → varvelaw00_SameNums.l0 k xs xs i = some true
  | 0, k, i, h0, hd, hk => by
    obtain ⟨k, rfl⟩ : ∃ m, k = m + 1 := ⟨k - 1, by omega⟩
    simp only [varvelaw00_SameNums.l0]
    rw [if_neg (by omega)]
  | d + 1, k, i, h0, hd, hk => by
    obtain ⟨k, rfl⟩ : ∃ m, k = m + 1 := ⟨k - 1, by omega⟩
    simp only [varvelaw00_SameNums.l0]
    rw [if_pos (by omega), if_pos h0, if_pos (by omega), if_pos trivial]
    rw [show wrap64 (i + 1) = i + 1 from by unfold wrap64; omega]
    exact same_l0 xs hs d k _ (by omega) (by omega) (by omega)
theorem same_any (A0 : Option Addr) (c0 : Nat) (A1 : Option Addr) (c1 : Nat) (xs : List Int) (w : World) (hs : xs.length ≤ 9223372036854775806) (h0 : ReadsOf (Value.int .u64) 0 w A0 xs.length xs) (h1 : xs.length ≤ c0) (h2 : ReadsOf (Value.int .u64) 0 w A1 xs.length xs) (h3 : xs.length ≤ c1) :
    Calls Try.prog 23 #[.slice A0 xs.length c0, .slice A1 xs.length c1] w fun e w' => e = .returned (.bool true) ∧ Drawn0 w w' :=
  varvelaw00_SameNums.calls (xs.length + 1) A0 c0 xs A1 c1 xs true w (Kd.C_of_reads h0) h1 (Kd.C_of_reads h2) h3 (by unfold varvelaw00_SameNums.f; rw [if_pos rfl]; exact same_l0 xs hs xs.length _ _ (by omega) (by omega) (by omega))

theorem awake_any (w : World) : Calls Try.prog 20 #[] w fun e w' => e = .returned (.bool true) ∧ Drawn0 w w' := by
  refine varvelaw06_awake.calls 3 true w ?_
  unfold varvelaw06_awake.f fnv_Of.f fnv_More.f
  rw [more_l0 ⟨#[]⟩ (by decide) 0 3 _ 0 (by omega) rfl (by omega)]
  rw [more_l0 ⟨#[97]⟩ (by decide) 1 3 _ 0 (by omega) rfl (by omega)]
  simp only [Option.bind_some]
  rw [FnvPlain.go_a, if_pos (FnvPlain.go_none _ _)]
  rfl

theorem hashes_take (ss : List ByteArray) (k : Nat) (h : k < ss.length) : (ss.take (k + 1)).map hashOf = (ss.take k).map hashOf ++ [hashOf (ss.getD k ByteArray.empty)] := by
  rw [List.map_take, List.map_take]; exact take_snoc_hash ss k h

/-- what a gathering call hands back, told from the world wa on -/
def Told (wa : World) (N : Nat) (xs : List Int) (e : Ending) (w' : World) : Prop :=
  ∃ A c, e = .returned (.slice A N c) ∧ N ≤ c ∧ ReadsOf (Value.int .u64) 0 w' A N xs ∧ Below wa.heap.size wa w'
theorem hashes_from (wa w : World) (m : Int) (A : Option Addr) (n c e : Nat) (ss : List ByteArray) (N : Nat) (hb : Below wa.heap.size wa w) (hm : 1 ≤ m) (hcell : wa.cell? ⟨e, 0, none⟩ = some (.slice A n c)) (hr : Texts wa A n ss)
    (hn : n * 16 ≤ 140737488351232) (hsz : ∀ i, i < n → (ss.getD i ByteArray.empty).size ≤ 140737488351232) (hN : N = min m.toNat n) :
    Calls Try.prog 24 #[.func (.func 41) #[] #[.pointer (some ⟨e, 0, none⟩)], .int .i64 m] w (Told wa N ((ss.map hashOf).take N)) := by
  have hl : ((ss.map hashOf).take m.toNat).length = N := by simp [hr.1]; omega
  have ht : (ss.map hashOf).take N = (ss.map hashOf).take m.toNat := by
    rw [hN]
    by_cases h : m.toNat ≤ n
    · rw [Nat.min_eq_left h]
    · rw [Nat.min_eq_right (by omega), List.take_of_length_le (by simp [hr.1]), List.take_of_length_le (by simp [hr.1]; omega)]
  refine (hashes_any w m A n c e ss hm (pw_cell_below hb hcell) (hr.below hb) hn hsz).mono ?_
  rintro e w' ⟨A1, c1, rfl, h1, h2, h3⟩
  obtain ⟨A2, c2, h4, h5, h6⟩ := own_reads_of_le (enc := .int .u64) (d := 0) h2
  rw [hl] at h1 h2 h4 h5 h6
  injection h4 with h41 h42 h43
  subst h41 h43
  rw [ht]
  exact ⟨A1, c1, by rw [hl], h1, h6, hb.trans (h3.mono hb.size)⟩

theorem same_told (wa w : World) (A0 : Option Addr) (c0 : Nat) (A1 : Option Addr) (c1 n N : Nat) (xs : List Int) (hb : Below wa.heap.size wa w) (h1 : N ≤ c0) (h0 : ReadsOf (Value.int .u64) 0 w A0 N (xs.take N)) (h2 : ReadsOf (Value.int .u64) 0 wa A1 n xs) (h3 : (n : Int) ≤ (c1 : Int)) (hN : N ≤ n) (hn : n ≤ 140737488351232) :
    Calls Try.prog 23 #[.slice A0 N c0, .slice A1 N c1] w fun e w' => e = .returned (.bool true) ∧ Below wa.heap.size wa w' := by
  have h4 := (h2.below hb).take_ N hN
  have hl : (xs.take N).length = N := h4.1
  have h := same_any A0 c0 A1 c1 (xs.take N) w (by rw [hl]; omega) (by rw [hl]; exact h0) (by rw [hl]; exact h1) (by rw [hl]; exact h4) (by rw [hl]; omega)
  rw [hl] at h
  refine h.mono ?_
  rintro e w' ⟨he, ⟨⟨d, rfl⟩⟩⟩
  exact ⟨he, below_drewN hb d⟩
theorem awake_told (wa w : World) (hb : Below wa.heap.size wa w) : Calls Try.prog 20 #[] w fun e w' => e = .returned (.bool true) ∧ Below wa.heap.size wa w' :=
  (awake_any w).mono fun e w' ⟨he, ⟨⟨d, hd⟩⟩⟩ => ⟨he, by rw [hd]; exact below_drewN hb d⟩

theorem info9 : (Try.prog.info? 9).map (fun i => (i.zero, i.size, i.bytes)) = some (some (.string ByteArray.empty), 1, 16) := by kernel_rfl

set_option maxHeartbeats 6000000 in
theorem fnvEach_walk (A : Option Addr) (n c : Nat) (most : Int) (ss : List ByteArray) (w : World) (hr : Texts w A n ss) (hnc : n ≤ c) (hn : n * 16 ≤ 140737488351232) (hsz : ∀ i, i < n → (ss.getD i ByteArray.empty).size ≤ 140737488351232) :
    Calls Try.prog 6 #[.slice A n c, .int .i64 most] w fun e w' => e = .returned (.bool true) ∧ Below w.heap.size w w' := by
  have hlen := hr.1
  go_enter Try.func6, Try.ntmps6
  go_wp2
  go_slots
  go_loopw [5, 6] (fun v i wr => ∃ k : Nat, k ≤ n ∧ i = .int .i64 k ∧ wr.ownsRow w.heap.size 22 1 v ((ss.take k).map hashOf).length (encs (.int .u64) ((ss.take k).map hashOf)) ∧ Below w.heap.size w wr) (fun _ i _ => n - (intOf i).toNat)
  case atStart => exact ⟨0, Nat.zero_le _, rfl, own_nil _ _ _ _, Below.refl _ _⟩
  case round =>
    obtain ⟨k, hk, rfl, hown, hbel⟩ := hrel
    by_cases hlt : k < n
    · obtain ⟨ad, rfl, hx0⟩ := hr.at_ k hlt
      have hx := pw_cell_below hbel hx0
      have hz := hsz k hlt
      have hts := hashes_take ss k (by omega)
      obtain ⟨x, ex⟩ : ∃ x, ss.getD k ByteArray.empty = x := ⟨_, rfl⟩
      rw [ex] at hx hz hts
      have Hts := Lib.hid hts
      have hlk : ((ss.take k).map hashOf).length = k := by simp; omega
      obtain ⟨xs, exs⟩ : ∃ xs, (ss.take k).map hashOf = xs := ⟨_, rfl⟩
      rw [exs] at hlk hown
      have Hxs := Lib.hid exs
      have Hlk := Lib.hid hlk
      clear hts ex exs hlk hx0 hr hsz
      go_wp2_with fail
      refine (ofRef_any x _ hz).mono ?_
      rintro e wd ⟨rfl, ⟨⟨nd, rfl⟩⟩⟩
      have hown2 := pw_own_below hown (below_drewN (Below.refl _ _) nd)
      have hbel2 := below_drewN hbel nd
      go_wp2_with (at_builtin; refine print_append_of (w0 := w) (W := wr.drewN nd) (.int .u64) w.heap.size rfl (.tmp 15) (.tmp 21) 32 22 (.int .u64 0) 8 rfl Try.underlying32 info22 rfl (by decide) _ xs (hashOf x) rfl rfl rfl hown2 hbel2 ?_ ?_ ?_)
      · have h1 := hbel.size
        exact h1
      · rw [Hlk.out]; omega
      intro v1 w1 hown1 hbel1 hg hat
      have Hown1 := Lib.hid hown1
      clear hown1 hg hat hown2 hown
      go_wp2
      go_roundw
      case rel => exact ⟨k + 1, by omega, by go_num, by rw [Hts.out, Hxs.out, List.length_append]; exact Hown1.out, hbel1⟩
      case measure => simp [intOf]; omega
    · have ek : k = n := by omega
      subst ek
      have et : ss.take k = ss := List.take_of_length_le (by omega)
      rw [et] at hown
      have h1 := hbel.size
      have hss : Texts wr A k ss := hr.below hbel
      obtain ⟨Aw, cw, rfl, hcw, hrw⟩ := own_reads_of_le (enc := .int .u64) (d := 0) hown
      have hmost0 := Int.emod_nonneg most (show (20 : Int) ≠ 0 by omega)
      have hmost1 := Int.emod_lt_of_pos most (show (0 : Int) < 20 by omega)
      obtain ⟨p, hp⟩ : ∃ p, most % 20 = p := ⟨_, rfl⟩
      rw [hp] at hmost0 hmost1
      have Hp := Lib.hid hp
      have Hrw := Lib.hid hrw
      have Hss := Lib.hid hss
      have Hsz := Lib.hid hsz
      have hlm : (ss.map hashOf).length = k := by simp; omega
      have Hlm := Lib.hid hlm
      have Hr := Lib.hid hr
      clear hown hrw hss hp et hsz hr hlm
      go_wp2_with (first | (at_builtin; refine print_append_row_of (w0 := wr) (W := wr) .string ByteArray.empty wr.heap.size rfl (.const (.slice none 0 0)) (.tmp 23) 31 9 (.string ByteArray.empty) 16 rfl Try.underlying31 info9 rfl (by decide) (fun _ => rfl) _ [] ss A k c rfl rfl (own_nil _ _ _ _) Hss.out (Below.refl _ _) (Nat.le_refl _) ?_ ?_))
      · simp; omega
      intro v1 w1 hown1 hbel1 hg hat
      have hlss : k = ss.length := hlen.symm
      obtain ⟨A1, c1, rfl, hc1, hr1⟩ := own_reads_of_le (enc := Value.string) (d := ByteArray.empty) (xs := ss) (by simpa [hlen] using hown1)
      have hc2 : k ≤ c1 := by omega
      have hr2 : Texts w1 A1 k ss := hr1
      have hs1 := hbel1.size
      have hbw := hbel.trans (hbel1.mono h1)
      have hs2 := hbw.size
      have Hr1 := Lib.hid hr2
      have Hss2 := Lib.hid hlss
      clear hown1 hg hat hr1 hr2 hlss hbel
      go_wp2_with (first | (go_at_call 22; (with_reducible refine (each_any A1 k c1 _).mono ?_); rintro e w2 ⟨rfl, rfl⟩) | (go_at_call 21; (with_reducible refine (place_is most 20 p _ Hp.out (by omega) (by omega)).mono ?_); rintro e w2 ⟨rfl, rfl⟩))
      obtain ⟨wa, hwa⟩ : ∃ wa, w1.alloc (.cells #[.slice A1 k c1] 31) = wa := ⟨_, rfl⟩
      have hcell : wa.cell? ⟨w1.heap.size, 0, none⟩ = some (.slice A1 k c1) := by
        rw [← hwa]; simp
      have hwb : Below w1.heap.size w1 wa := by rw [← hwa]; exact (Below.refl _ _).alloc (Nat.le_refl _) _
      have hta : Texts wa A1 k ss := Hr1.out.below hwb
      have hna : ReadsOf (Value.int .u64) 0 wa Aw k (ss.map hashOf) := by
        have h := (Hrw.out.below hbel1).below hwb
        rw [Hlm.out] at h
        exact h
      have hsw := hwb.size
      have hbwa : Below w.heap.size w wa := hbw.trans (hwb.mono (by omega))
      have Hcell := Lib.hid hcell
      have Hta := Lib.hid hta
      have Hna := Lib.hid hna
      rw [hwa]
      have hkeep : Below wa.heap.size wa wa.drew := below_drew (Below.refl _ _)
      clear hwa hcell hta hna hbw hwb
      have hp0 : (0 : Int) ≤ 1 + p := by omega
      have hkc : (k : Int) ≤ (cw : Int) := by have := Hlm.out; omega
      have hall : w.heap.size ≤ wa.heap.size := by omega
      have hwk : IntKind.i64.wrap ((k : Int) + 1) = (k : Int) + 1 := IntWalk.i64_in _ (by omega)
      have Hwk := Lib.hid hwk
      clear hwk
      by_cases hq : 1 + p ≤ k
      · have hqc : 1 + p ≤ (cw : Int) := by omega
        obtain ⟨adw, rfl, hcw2⟩ := Hna.out.2.2 (by omega)
        clear hcw2
        go_region_with (first | (go_at_call 24; (with_reducible refine (hashes_from wa _ (1 + p) A1 k c1 w1.heap.size ss (1 + p).toNat (by assumption) (by omega) Hcell.out Hta.out hn Hsz.out (by have := Hss2.out; omega)).mono ?_); rintro e w2 ⟨A2, c2, rfl, hc2, hr2, hb2⟩) | (go_at_call 24; (with_reducible refine (hashes_from wa _ (IntKind.i64.wrap (↑k + 1)) A1 k c1 w1.heap.size ss k (by assumption) (by rw [Hwk.out]; omega) Hcell.out Hta.out hn Hsz.out (by rw [Hwk.out]; omega)).mono ?_); rintro e w3 ⟨A3, c3, rfl, hc3, hr3, hb3⟩) | (go_at_call 23; (with_reducible refine (same_told wa _ A2 c2 _ cw k (1 + p).toNat (ss.map hashOf) (by assumption) (by assumption) (by assumption) Hna.out hkc (by omega) (by omega)).mono ?_); rintro e wd ⟨rfl, hb4⟩) | (go_at_call 23; (with_reducible refine (same_told wa _ A3 c3 _ cw k k (ss.map hashOf) (by assumption) (by assumption) (by assumption) Hna.out hkc (by omega) (by omega)).mono ?_); rintro e wd ⟨rfl, hb5⟩) | (go_at_call 20; (with_reducible refine (awake_told wa _ (by assumption)).mono ?_); rintro e wd ⟨rfl, hb6⟩))
        all_goals
          go_wp2
          go_ret
          exact ⟨rfl, hbwa.trans (Below.mono (by assumption) hall)⟩
      · by_cases hk0 : 0 < k
        · obtain ⟨adw, rfl, hcw2⟩ := Hna.out.2.2 (by omega)
          clear hcw2
          go_region_with (first | (go_at_call 24; (with_reducible refine (hashes_from wa _ (1 + p) A1 k c1 w1.heap.size ss k (by assumption) (by omega) Hcell.out Hta.out hn Hsz.out (by have := Hss2.out; omega)).mono ?_); rintro e w2 ⟨A2, c2, rfl, hc2, hr2, hb2⟩) | (go_at_call 24; (with_reducible refine (hashes_from wa _ (IntKind.i64.wrap (↑k + 1)) A1 k c1 w1.heap.size ss k (by assumption) (by rw [Hwk.out]; omega) Hcell.out Hta.out hn Hsz.out (by rw [Hwk.out]; omega)).mono ?_); rintro e w3 ⟨A3, c3, rfl, hc3, hr3, hb3⟩) | (go_at_call 23; (with_reducible refine (same_told wa _ A2 c2 _ cw k k (ss.map hashOf) (by assumption) (by assumption) (by assumption) Hna.out hkc (by omega) (by omega)).mono ?_); rintro e wd ⟨rfl, hb4⟩) | (go_at_call 23; (with_reducible refine (same_told wa _ A3 c3 _ cw k k (ss.map hashOf) (by assumption) (by assumption) (by assumption) Hna.out hkc (by omega) (by omega)).mono ?_); rintro e wd ⟨rfl, hb5⟩) | (go_at_call 20; (with_reducible refine (awake_told wa _ (by assumption)).mono ?_); rintro e wd ⟨rfl, hb6⟩))
          all_goals
            go_wp2
            go_ret
            exact ⟨rfl, hbwa.trans (Below.mono (by assumption) hall)⟩
        · have e0 : k = 0 := by omega
          subst e0
          cases Aw with
          | none =>
            go_region_with (first | (go_at_call 24; (with_reducible refine (hashes_from wa _ (1 + p) A1 0 c1 w1.heap.size ss 0 (by assumption) (by omega) Hcell.out Hta.out hn Hsz.out (by have := Hss2.out; omega)).mono ?_); rintro e w2 ⟨A2, c2, rfl, hc2, hr2, hb2⟩) | (go_at_call 24; (with_reducible refine (hashes_from wa _ (IntKind.i64.wrap 1) A1 0 c1 w1.heap.size ss 0 (by assumption) (by decide) Hcell.out Hta.out hn Hsz.out (by simp)).mono ?_); rintro e w3 ⟨A3, c3, rfl, hc3, hr3, hb3⟩) | (go_at_call 23; (with_reducible refine (same_told wa _ A2 c2 _ cw 0 0 (ss.map hashOf) (by assumption) (by assumption) (by assumption) Hna.out hkc (by omega) (by omega)).mono ?_); rintro e wd ⟨rfl, hb4⟩) | (go_at_call 23; (with_reducible refine (same_told wa _ A3 c3 _ cw 0 0 (ss.map hashOf) (by assumption) (by assumption) (by assumption) Hna.out hkc (by omega) (by omega)).mono ?_); rintro e wd ⟨rfl, hb5⟩) | (go_at_call 20; (with_reducible refine (awake_told wa _ (by assumption)).mono ?_); rintro e wd ⟨rfl, hb6⟩))
            all_goals
              go_wp2
              go_ret
              exact ⟨rfl, hbwa.trans (Below.mono (by assumption) hall)⟩
          | some adw =>
            go_region_with (first | (go_at_call 24; (with_reducible refine (hashes_from wa _ (1 + p) A1 0 c1 w1.heap.size ss 0 (by assumption) (by omega) Hcell.out Hta.out hn Hsz.out (by have := Hss2.out; omega)).mono ?_); rintro e w2 ⟨A2, c2, rfl, hc2, hr2, hb2⟩) | (go_at_call 24; (with_reducible refine (hashes_from wa _ (IntKind.i64.wrap 1) A1 0 c1 w1.heap.size ss 0 (by assumption) (by decide) Hcell.out Hta.out hn Hsz.out (by simp)).mono ?_); rintro e w3 ⟨A3, c3, rfl, hc3, hr3, hb3⟩) | (go_at_call 23; (with_reducible refine (same_told wa _ A2 c2 _ cw 0 0 (ss.map hashOf) (by assumption) (by assumption) (by assumption) Hna.out hkc (by omega) (by omega)).mono ?_); rintro e wd ⟨rfl, hb4⟩) | (go_at_call 23; (with_reducible refine (same_told wa _ A3 c3 _ cw 0 0 (ss.map hashOf) (by assumption) (by assumption) (by assumption) Hna.out hkc (by omega) (by omega)).mono ?_); rintro e wd ⟨rfl, hb5⟩) | (go_at_call 20; (with_reducible refine (awake_told wa _ (by assumption)).mono ?_); rintro e wd ⟨rfl, hb6⟩))
            all_goals
              go_wp2
              go_ret
              exact ⟨rfl, hbwa.trans (Below.mono (by assumption) hall)⟩
end Go.Proofs.Ytkeepinbfgepmaa.Each
