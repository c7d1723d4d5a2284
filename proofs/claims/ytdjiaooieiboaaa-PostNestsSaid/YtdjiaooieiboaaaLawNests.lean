/- Own text: what is in at least k is in at least k - 1; in all of them is in each. -/
import Derived.Test.YtdjiaooieiboaaaFacts
import Derived.Test.YtdjiaooieiboaaaAwake
import Derived.Test.YtdjiaooieiboaaaBoth
import Derived.Test.YtdjiaooieiboaaaLists
namespace Go.Proofs.Ytdjiaooieiboaaa
open Go Go.RowKit Go.Shelf Go.Proofs.YtdjiaooieiboaaaW.PrintWords Go.Proofs.Ytdjiaooieiboaaa.PAll
theorem SL.of {w : World} {A : Option Addr} {c : Nat} {l : List Int} (h1 : l.length ≤ c) (h2 : ReadsOf (Value.int .i64) 0 w A l.length l) : SL w A c l := ⟨h1, h2⟩
set_option maxRecDepth 100000 in
set_option maxHeartbeats 8000000 in
theorem postNests_walk (A : Option Addr) (c : Nat) (ls : List (List Int)) (k : Int) (w : World) (hr : RL w (.slice A ls.length c) ls) (hL : ls.length ≤ 9223372036854775807) (hlen : ∀ l ∈ ls, l.length ≤ 9223372036854775807) :
    Calls Try.prog 6 #[.slice A ls.length c, .int .i64 k] w fun e w' => e = .returned (.bool true) ∧ Below w.heap.size w w' := by
  have Hlen := Lib.hid hlen
  clear hlen
  by_cases hok : okL ls
  · obtain ⟨h10, hl⟩ := hok
    have Hok := Lib.hid (show okL ls from ⟨h10, hl⟩)
    have Hl := Lib.hid hl
    clear hl
    by_cases h0 : ls.length = 0
    · have H0 := Lib.hid h0
      clear h0
      have Hls := Lib.hid (List.eq_nil_of_length_eq_zero H0.out)
      go_enter Try.func6, Try.ntmps6
      go_wp2_with fail
      (with_reducible refine (lists_ok w A c ls Hok.out hr).mono ?_)
      rintro e w1 ⟨A1, c1, rfl, h1, b1⟩
      rw [H0.out]
      go_wp2_with fail
      (with_reducible refine (awake10 w1).mono ?_)
      rintro e w2 ⟨rfl, b2⟩
      go_wp2_with fail
      go_ret
      exact ⟨rfl, below_step b1 b2⟩
    · have hpos : 0 < ls.length := by omega
      have hz : decide ((ls.length : Int) = 0) = false := decide_eq_false (by omega)
      have hz2 : ((ls.length : Int) == 0) = false := by rw [beq_eq_false_iff_ne]; omega
      clear h0
      go_enter Try.func6, Try.ntmps6
      go_wp2_with fail
      (with_reducible refine (lists_ok w A c ls Hok.out hr).mono ?_)
      rintro e w1 ⟨A1, c1, rfl, h1, b1⟩
      obtain ⟨A1', c1', e1, hlc1, hrd⟩ := id h1
      cases e1
      obtain ⟨ad, -, rfl, -⟩ := id (hrd 0 hpos)
      have Hrd := Lib.hid hrd
      clear hrd
      go_wp2
      go_loopw [7] (fun i wr => ∃ p : Nat, i = .int .i64 p ∧ p ≤ ls.length ∧ Hid (∀ j, j < p → rises (ls.getD j []) = true) ∧ Below w1.heap.size w1 wr)
        (fun i _ => ls.length - (intOf i).toNat)
      case atStart => exact ⟨0, rfl, Nat.zero_le _, Lib.hid (fun j h => by omega), Below.refl _ _⟩
      case round =>
        obtain ⟨p, rfl, hp, hrise, hB⟩ := hrel
        by_cases hlt : p < ls.length
        · obtain ⟨ad', vi, e', hcv, A2, c2, rfl, hlc2, hri⟩ := Hrd.out p hlt
          cases e'
          have hcv := pw_cell_below hB hcv
          have hmem : ls.getD p [] ∈ ls := by simp [List.getD_eq_getElem?_getD, hlt]
          have hpl := Hl.out _ hmem
          obtain ⟨l, el⟩ : ∃ l, ls.getD p [] = l := ⟨_, rfl⟩
          rw [el] at hcv hlc2 hri hpl hmem
          have El := Lib.hid el
          clear el
          cases hv : rises l with
          | false =>
            have Hv := Lib.hid hv
            clear hv
            go_wp2_with fail
            (with_reducible refine (rises9' wr A2 c2 l false Hv.out (by omega) (SL.of hlc2 (hri.below hB))).mono ?_)
            rintro e w2 ⟨rfl, b2⟩
            go_wp2_with fail
            (with_reducible refine (awake10 w2).mono ?_)
            rintro e w3 ⟨rfl, b3⟩
            go_wp2_with fail
            go_ret
            exact ⟨rfl, below_step b1 (below_step (below_step hB b2) b3)⟩
          | true =>
            have Hv := Lib.hid hv
            clear hv
            go_wp2_with fail
            (with_reducible refine (rises9' wr A2 c2 l true Hv.out (by omega) (SL.of hlc2 (hri.below hB))).mono ?_)
            rintro e w2 ⟨rfl, b2⟩
            go_wp2_with fail
            go_roundw
            case rel =>
              refine ⟨p + 1, by go_num, by omega, Lib.hid ?_, below_step hB b2⟩
              intro j hj
              by_cases e : j = p
              · subst e; rw [El.out]; exact Hv.out
              · exact hrise.out j (by omega)
            case measure => simp [intOf]; omega
        · obtain rfl : p = ls.length := by omega
          have Hup := Lib.hid (show ∀ l ∈ ls, Up l from fun l hl => by
            obtain ⟨i, hi, e⟩ := List.getElem_of_mem hl
            have := hrise.out i hi
            rw [List.getD_eq_getElem?_getD, List.getElem?_eq_getElem hi, Option.getD_some, e] at this
            exact (up_iff l).1 this)
          obtain ⟨q, hq0, hq1, hqc⟩ := place24 k (ls.length : Int) (by omega) (by omega)
          have Hqc := Lib.hid hqc
          have hb : ls.length * 100 ≤ 10 * 100 := Nat.mul_le_mul_right _ h10
          obtain ⟨ra, ea⟩ : ∃ r, mostL ls (1 + q) = r := ⟨_, rfl⟩
          obtain ⟨rb, eb⟩ : ∃ r, mostL ls (1 + q - 1) = r := ⟨_, rfl⟩
          obtain ⟨rc, ec⟩ : ∃ r, mostL ls (ls.length : Int) = r := ⟨_, rfl⟩
          have la : ra.length ≤ 1000 := by rw [← ea]; exact Nat.le_trans (mostL_len _ _ 100 Hl.out) hb
          have lb : rb.length ≤ 1000 := by rw [← eb]; exact Nat.le_trans (mostL_len _ _ 100 Hl.out) hb
          have lc : rc.length ≤ 1000 := by rw [← ec]; exact Nat.le_trans (mostL_len _ _ 100 Hl.out) hb
          have Ea := Lib.hid ea
          have Eb := Lib.hid eb
          have Ec := Lib.hid ec
          have Ra := Lib.hid (show rises ra = true from rises_up (ea ▸ mostL_up _ _))
          have Hover := Lib.hid (nest_over ls)
          have Heach := Lib.hid (show ∀ l ∈ ls, lessL rc l = [] from fun l hl => by rw [← Ec.out]; exact nest_all Hup.out hl)
          clear ea eb ec hqc hb
          go_wp2_with fail
          (with_reducible refine (Hqc.out wr).mono ?_)
          rintro e w2 ⟨rfl, b2⟩
          have hc2 := below_step hB b2
          go_wp2_with fail
          (with_reducible refine (most17' w2 (some ad) c1 ls (1 + q) ra Ea.out (by omega) Hl.out (h1.below hc2)).mono ?_)
          rintro e w3 ⟨g3, lb3, rfl, t3, b3⟩
          have hc3 := below_step hc2 b3
          go_wp2_with fail
          (with_reducible refine (list12' w3 g3 lb3 ra 10000 (by omega) t3).mono ?_)
          rintro e w4 ⟨A4, c4, rfl, h4, b4⟩
          have hc4 := below_step hc3 b4
          go_wp2_with fail
          (with_reducible refine (most17' w4 (some ad) c1 ls (1 + q - 1) rb Eb.out (by omega) Hl.out (h1.below hc4)).mono ?_)
          rintro e w5 ⟨g5, lb5, rfl, t5, b5⟩
          have hc5 := below_step hc4 b5
          go_wp2_with fail
          (with_reducible refine (list12' w5 g5 lb5 rb 10000 (by omega) t5).mono ?_)
          rintro e w6 ⟨A6, c6, rfl, h6, b6⟩
          have hc6 := below_step hc5 b6
          by_cases hq : 1 + q > 1
          · have Hless := Lib.hid (show lessL ra rb = [] from by rw [← Ea.out, ← Eb.out]; exact nest_less Hup.out (1 + q) (by omega))
            go_wp2_with fail
            (with_reducible refine (less22' w6 A4 A6 c4 c6 ra rb [] Hless.out (by omega) (by omega) (h4.below (below_step b5 b6)) h6).mono ?_)
            rintro e w7 ⟨g7, lb7, rfl, t7, b7⟩
            have hc7 := below_step hc6 b7
            go_wp2_with fail
            (with_reducible refine (list12' w7 g7 lb7 [] 10 (by simp) t7).mono ?_)
            rintro e w8 ⟨A8, c8, rfl, h8, b8⟩
            have hc8 := below_step hc7 b8
            go_wp2_with fail
            (with_reducible refine (most17' w8 (some ad) c1 ls (ls.length : Int) rc Ec.out (by omega) Hl.out (h1.below hc8)).mono ?_)
            rintro e w9 ⟨g9, lb9, rfl, t9, b9⟩
            have hc9 := below_step hc8 b9
            go_wp2_with fail
            (with_reducible refine (list12' w9 g9 lb9 rc 10000 (by omega) t9).mono ?_)
            rintro e w10 ⟨A10, c10, rfl, h10_, b10⟩
            have hc10 := below_step hc9 b10
            have h4_ := h4.below (below_step (below_step (below_step (below_step (below_step b5 b6) b7) b8) b9) b10)
            go_wp2
            go_loopw [12] (fun i wr => ∃ p : Nat, i = .int .i64 p ∧ p ≤ ls.length ∧ Below w10.heap.size w10 wr)
              (fun i _ => ls.length - (intOf i).toNat)
            case atStart => exact ⟨0, rfl, Nat.zero_le _, Below.refl _ _⟩
            case round =>
              obtain ⟨p, rfl, hp, hB2⟩ := hrel
              have hcr := below_step hc10 hB2
              by_cases hlt : p < ls.length
              · obtain ⟨ad', vi, e', hcv, A2, c2, rfl, hlc2, hri⟩ := Hrd.out p hlt
                cases e'
                have hcv := pw_cell_below hcr hcv
                have hmem : ls.getD p [] ∈ ls := by simp [List.getD_eq_getElem?_getD, hlt]
                have hpl := Hl.out _ hmem
                obtain ⟨l, el⟩ : ∃ l, ls.getD p [] = l := ⟨_, rfl⟩
                rw [el] at hcv hlc2 hri hpl hmem
                have Hle := Lib.hid (Heach.out l hmem)
                clear el
                go_wp2_with fail
                (with_reducible refine (less22' wr A10 A2 c10 c2 rc l [] Hle.out (by omega) (by omega) (h10_.below hB2) (SL.of hlc2 (hri.below hcr))).mono ?_)
                rintro e w11 ⟨g11, lb11, rfl, t11, b11⟩
                go_wp2_with fail
                (with_reducible refine (list12' w11 g11 lb11 [] 10 (by simp) t11).mono ?_)
                rintro e w12 ⟨A12, c12, rfl, h12, b12⟩
                go_wp2_with fail
                go_roundw
                case rel => exact ⟨p + 1, by go_num, by omega, below_step (below_step hB2 b11) b12⟩
                case measure => simp [intOf]; omega
              · obtain rfl : p = ls.length := by omega
                go_wp2_with fail
                (with_reducible refine (rises20' wr A4 c4 ra true Ra.out (by omega) (h4_.below hB2)).mono ?_)
                rintro e w11 ⟨rfl, b11⟩
                have hc11 := below_step hcr b11
                go_wp2_with fail
                (with_reducible refine (most17' w11 (some ad) c1 ls ((ls.length : Int) + 1) [] Hover.out (by omega) Hl.out (h1.below hc11)).mono ?_)
                rintro e w12 ⟨g12, lb12, rfl, t12, b12⟩
                go_wp2_with fail
                (with_reducible refine (list12' w12 g12 lb12 [] 10 (by simp) t12).mono ?_)
                rintro e w13 ⟨A13, c13, rfl, h13, b13⟩
                go_wp2_with fail
                (with_reducible refine (awake10 w13).mono ?_)
                rintro e w14 ⟨rfl, b14⟩
                go_wp2_with fail
                go_ret
                exact ⟨rfl, below_step b1 (below_step (below_step (below_step hc11 b12) b13) b14)⟩
          · go_wp2_with fail
            (with_reducible refine (most17' w6 (some ad) c1 ls (ls.length : Int) rc Ec.out (by omega) Hl.out (h1.below hc6)).mono ?_)
            rintro e w9 ⟨g9, lb9, rfl, t9, b9⟩
            have hc9 := below_step hc6 b9
            go_wp2_with fail
            (with_reducible refine (list12' w9 g9 lb9 rc 10000 (by omega) t9).mono ?_)
            rintro e w10 ⟨A10, c10, rfl, h10_, b10⟩
            have hc10 := below_step hc9 b10
            have h4_ := h4.below (below_step (below_step (below_step b5 b6) b9) b10)
            go_wp2
            go_loopw [12] (fun i wr => ∃ p : Nat, i = .int .i64 p ∧ p ≤ ls.length ∧ Below w10.heap.size w10 wr)
              (fun i _ => ls.length - (intOf i).toNat)
            case atStart => exact ⟨0, rfl, Nat.zero_le _, Below.refl _ _⟩
            case round =>
              obtain ⟨p, rfl, hp, hB2⟩ := hrel
              have hcr := below_step hc10 hB2
              by_cases hlt : p < ls.length
              · obtain ⟨ad', vi, e', hcv, A2, c2, rfl, hlc2, hri⟩ := Hrd.out p hlt
                cases e'
                have hcv := pw_cell_below hcr hcv
                have hmem : ls.getD p [] ∈ ls := by simp [List.getD_eq_getElem?_getD, hlt]
                have hpl := Hl.out _ hmem
                obtain ⟨l, el⟩ : ∃ l, ls.getD p [] = l := ⟨_, rfl⟩
                rw [el] at hcv hlc2 hri hpl hmem
                have Hle := Lib.hid (Heach.out l hmem)
                clear el
                go_wp2_with fail
                (with_reducible refine (less22' wr A10 A2 c10 c2 rc l [] Hle.out (by omega) (by omega) (h10_.below hB2) (SL.of hlc2 (hri.below hcr))).mono ?_)
                rintro e w11 ⟨g11, lb11, rfl, t11, b11⟩
                go_wp2_with fail
                (with_reducible refine (list12' w11 g11 lb11 [] 10 (by simp) t11).mono ?_)
                rintro e w12 ⟨A12, c12, rfl, h12, b12⟩
                go_wp2_with fail
                go_roundw
                case rel => exact ⟨p + 1, by go_num, by omega, below_step (below_step hB2 b11) b12⟩
                case measure => simp [intOf]; omega
              · obtain rfl : p = ls.length := by omega
                go_wp2_with fail
                (with_reducible refine (rises20' wr A4 c4 ra true Ra.out (by omega) (h4_.below hB2)).mono ?_)
                rintro e w11 ⟨rfl, b11⟩
                have hc11 := below_step hcr b11
                go_wp2_with fail
                (with_reducible refine (most17' w11 (some ad) c1 ls ((ls.length : Int) + 1) [] Hover.out (by omega) Hl.out (h1.below hc11)).mono ?_)
                rintro e w12 ⟨g12, lb12, rfl, t12, b12⟩
                go_wp2_with fail
                (with_reducible refine (list12' w12 g12 lb12 [] 10 (by simp) t12).mono ?_)
                rintro e w13 ⟨A13, c13, rfl, h13, b13⟩
                go_wp2_with fail
                (with_reducible refine (awake10 w13).mono ?_)
                rintro e w14 ⟨rfl, b14⟩
                go_wp2_with fail
                go_ret
                exact ⟨rfl, below_step b1 (below_step (below_step (below_step hc11 b12) b13) b14)⟩
  · have Hok := Lib.hid hok
    clear hok
    go_enter Try.func6, Try.ntmps6
    go_wp2_with fail
    (with_reducible refine (lists_no w A c ls Hok.out hL Hlen.out hr).mono ?_)
    rintro e w1 ⟨rfl, b1⟩
    go_wp2_with fail
    (with_reducible refine (awake10 w1).mono ?_)
    rintro e w3 ⟨rfl, b3⟩
    go_wp2_with fail
    go_ret
    exact ⟨rfl, below_step b1 b3⟩
end Go.Proofs.Ytdjiaooieiboaaa
