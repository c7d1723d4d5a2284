/- Own text: the document's own Check of a set, walked: it answers chkS. -/
import Derived.Test.YteafilojjdfllaaLabChk
namespace Go.Proofs.Yteafilojjdfllaa
open Go Go.RowKit Go.Proofs.YteafilojjdfllaaW.PrintWords Go.Proofs.YteafilojjdfllaaW.PrintLast Go.Proofs.YteafilojjdfllaaW.PrintMore Go.Proofs.Yteafilojjdfllaa.PAll
set_option linter.unusedSimpArgs false

theorem name64d (w : World) (s : ByteArray) (v : Bool) (hv : nameB s = v) (hs : s.size ≤ 140737488351232) : Calls Try.prog 64 #[.string s] w fun e w' => e = .returned (.bool v) ∧ ∃ m, w' = w.drewN m :=
  (varveref11_Name.calls (s.size + 2) s v w (hv ▸ varveref11_Name.val s hs _ (Nat.le_refl _))).mono fun _ _ ⟨he, n, hn⟩ => ⟨he, n, hn⟩
theorem getD_lab {l : List S68} {j : Nat} (hj : j < l.length) : l.getD j z68 ∈ l := by
  rw [List.getD_eq_getElem?_getD, List.getElem?_eq_getElem hj]; exact List.getElem_mem hj
set_option maxRecDepth 100000 in
set_option maxHeartbeats 8000000 in
/-- varveref11.Check. -/
theorem check58 (w : World) (l : List S68) (A : Option Addr) (c : Nat) (hl : l.length ≤ 4000000000000000000) (hs : ∀ x ∈ l, x.f0.size ≤ 140737488351232) (hC : Kd.C k68 w A l.length l) :
    Calls Try.prog 58 #[.slice A l.length c] w fun e w' => e = .returned (.bool (chkS l)) ∧ Below w.heap.size w w' := by
  have HC := Lib.hid hC
  have HS := Lib.hid hs
  clear hC hs
  obtain ⟨v, hv⟩ : ∃ v, chkS l = v := ⟨_, rfl⟩
  rw [hv]
  have HV := Lib.hid hv
  clear hv
  go_enter Try.func58, Try.ntmps58
  go_wp2
  go_loopw [3] (fun u3 wr => ∃ (j : Nat), u3 = .int .i64 j ∧ j ≤ l.length ∧ Hid (∀ i, i < j → goodAt l i = true) ∧ Below w.heap.size w wr)
    (fun u3 _ => l.length - (intOf u3).toNat)
  case atStart => exact ⟨0, rfl, Nat.zero_le _, Lib.hid (fun i hi => absurd hi (Nat.not_lt_zero i)), Below.refl _ _⟩
  case round =>
    obtain ⟨j, rfl, hj, HG, hB⟩ := hrel
    by_cases hlt : j < l.length
    · obtain ⟨ad, rfl, a0, a1⟩ := at_lab (Kd.C_below HC.out hB) j hlt
      have hsx := HS.out _ (getD_lab hlt)
      obtain ⟨x, ex⟩ : ∃ x, l.getD j z68 = x := ⟨_, rfl⟩
      rw [ex] at a0 a1 hsx
      have Hex := Lib.hid ex
      clear ex
      cases hn : nameB x.f0 with
        | false =>
          have HN := Lib.hid hn
          have hbad : v = false := HV.out ▸ chkS_bad hlt (by unfold goodAt; rw [Hex.out]; unfold okS; rw [HN.out]; rfl)
          subst hbad
          clear hn
          go_wp2
          go_quiet (first | (go_at_call 64; exact Calls.quiet_of (name64d _ x.f0 false HN.out hsx)))
          go_wp2
          go_ret
          exact ⟨rfl, by repeat (first | exact hB | apply pw_below_drewN | apply below_drew)⟩
        | true =>
          have HN := Lib.hid hn
          clear hn
          by_cases s1 : (x.f1.size : Int) < 1
          · have d1 : decide ((x.f1.size : Int) < 1) = true := decide_eq_true s1
            have hbad : v = false := HV.out ▸ chkS_bad hlt (by unfold goodAt; rw [Hex.out]; unfold okS; rw [decide_eq_false (by omega)]; simp)
            subst hbad
            go_wp2
            go_quiet (first | (go_at_call 64; exact Calls.quiet_of (name64d _ x.f0 true HN.out hsx)))
            go_wp2
            go_ret
            exact ⟨rfl, by repeat (first | exact hB | apply pw_below_drewN | apply below_drew)⟩
          · have d1 : decide ((x.f1.size : Int) < 1) = false := decide_eq_false s1
            by_cases s2 : (x.f1.size : Int) > 64
            · have d2 : decide (64 < (x.f1.size : Int)) = true := decide_eq_true s2
              have hbad : v = false := HV.out ▸ chkS_bad hlt (by unfold goodAt; rw [Hex.out]; unfold okS; rw [decide_eq_false (by omega)]; simp)
              subst hbad
              go_wp2
              go_quiet (first | (go_at_call 64; exact Calls.quiet_of (name64d _ x.f0 true HN.out hsx)))
              go_wp2
              go_ret
              exact ⟨rfl, by repeat (first | exact hB | apply pw_below_drewN | apply below_drew)⟩
            · have d2 : decide (64 < (x.f1.size : Int)) = false := decide_eq_false s2
              have Hok := Lib.hid (show okS x = true from by unfold okS; rw [HN.out, decide_eq_true (by omega)]; rfl)
              by_cases j0 : j = 0
              · have J0 := Lib.hid j0
                clear j0
                go_wp2
                have d3 : decide ((0 : Int) < (j : Int)) = false := decide_eq_false (by have := J0.out; omega)
                have d4 : decide (0 < j) = false := decide_eq_false (by have := J0.out; omega)
                go_quiet (first | (go_at_call 64; exact Calls.quiet_of (name64d _ x.f0 true HN.out hsx)))
                clear d3 d4
                go_wp2
                go_roundw
                case rel => exact ⟨j + 1, by go_num, by omega, Lib.hid (good_step HG.out (by unfold goodAt; rw [Hex.out, Hok.out, decide_eq_true J0.out]; rfl)), by repeat (first | exact hB | apply pw_below_drewN | apply below_drew)⟩
                case measure => simp [intOf]; omega
              · have d3 : decide ((0 : Int) < (j : Int)) = true := decide_eq_true (by omega)
                have d4 : decide (0 < j) = true := decide_eq_true (by omega)
                obtain ⟨ad', e', p0, -⟩ := at_lab (Kd.C_below HC.out hB) (j - 1) (by omega)
                cases e'
                obtain ⟨p, ep⟩ : ∃ p, l.getD (j - 1) z68 = p := ⟨_, rfl⟩
                rw [ep] at p0
                have Hep := Lib.hid ep
                clear ep
                have hj1 : 1 ≤ (j : Int) := by omega
                have hj2 : (j : Int) - 1 < (l.length : Int) := by omega
                have J0 := Lib.hid j0
                clear j0
                cases ho : ltN p x with
                  | false =>
                    have hq := bl_f (show Op.bytesLess p.f0.toList x.f0.toList = false from by rw [ltN_less]; exact ho)
                    have Ho := Lib.hid ho
                    clear ho
                    have hbad : v = false := HV.out ▸ chkS_bad hlt (by unfold goodAt; rw [Hex.out, Hep.out, Ho.out, decide_eq_false J0.out, Bool.or_self, Bool.and_false])
                    subst hbad
                    go_wp2
                    go_quiet (first | (go_at_call 64; exact Calls.quiet_of (name64d _ x.f0 true HN.out hsx)))
                    go_wp2
                    go_ret
                    exact ⟨rfl, by repeat (first | exact hB | apply pw_below_drewN | apply below_drew)⟩
                  | true =>
                    have hq := bl_t (show Op.bytesLess p.f0.toList x.f0.toList = true from by rw [ltN_less]; exact ho)
                    have Ho := Lib.hid ho
                    clear ho
                    go_wp2
                    go_quiet (first | (go_at_call 64; exact Calls.quiet_of (name64d _ x.f0 true HN.out hsx)))
                    go_wp2
                    go_roundw
                    case rel => exact ⟨j + 1, by go_num, by omega, Lib.hid (good_step HG.out (by unfold goodAt; rw [Hex.out, Hep.out, Hok.out, Ho.out, Bool.or_true, Bool.and_self])), by repeat (first | exact hB | apply pw_below_drewN | apply below_drew)⟩
                    case measure => simp [intOf]; omega
    · obtain rfl : j = l.length := by omega
      by_cases h1 : (l.length : Int) < 1
      · have hbad : v = false := HV.out ▸ (by cases hc : chkS l; rfl; have := (chkS_iff l).1 hc; omega)
        subst hbad
        go_wp2
        go_ret
        exact ⟨by simp [*], hB⟩
      · by_cases h8 : (l.length : Int) > 8
        · have hbad : v = false := HV.out ▸ (by cases hc : chkS l; rfl; have := (chkS_iff l).1 hc; omega)
          subst hbad
          go_wp2
          go_ret
          exact ⟨by simp [*], hB⟩
        · have hgood : v = true := HV.out ▸ (chkS_iff l).2 ⟨⟨by omega, by omega⟩, HG.out⟩
          subst hgood
          go_wp2
          go_ret
          exact ⟨by simp [*], hB⟩
end Go.Proofs.Yteafilojjdfllaa
