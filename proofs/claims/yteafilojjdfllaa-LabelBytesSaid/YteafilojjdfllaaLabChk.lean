/- Own text: LabChk, LabChkR, laid into one text. -/
import Derived.Test.YteafilojjdfllaaSortP
import Derived.Test.YteafilojjdfllaaVals
import Derived.Lib.Hide
namespace Go.Proofs.Yteafilojjdfllaa
section
open Go Go.RowKit Go.Proofs.YteafilojjdfllaaW.PrintWords Go.Proofs.YteafilojjdfllaaW.PrintLast Go.Proofs.YteafilojjdfllaaW.PrintMore Go.Proofs.Yteafilojjdfllaa.PAll
set_option linter.unusedSimpArgs false

theorem bless : ∀ (a b : List UInt8), Op.bytesLess a b = decide (Lib.compareBytes a b < 0)
  | [], [] => rfl
  | _ :: _, [] => by simp [Op.bytesLess, Lib.compareBytes]
  | [], _ :: _ => by simp [Op.bytesLess, Lib.compareBytes]
  | x :: a, y :: b => by
    have ih := bless a b
    unfold Op.bytesLess Lib.compareBytes
    by_cases h : x < y
    · simp [h]
    · by_cases h2 : y < x
      · have hne : ¬ x = y := fun e => by subst e; exact h h2
        simp [h, h2, hne]
      · have e : x = y := UInt8.toNat_inj.1 (by rw [UInt8.lt_iff_toNat_lt] at h h2; omega)
        subst e
        simp [h, ih]
theorem ltN_less (x y : S68) : Op.bytesLess x.f0.toList y.f0.toList = ltN x y := by
  rw [bless, ByteArray.toList_eq, ByteArray.toList_eq]; rfl
/-- what the j-th label must be -/
def goodAt (l : List S68) (j : Nat) : Bool := okS (l.getD j z68) && (decide (j = 0) || ltN (l.getD (j - 1) z68) (l.getD j z68))
theorem rises_at : ∀ (l : List S68), risesN l = true ↔ ∀ j, 0 < j → j < l.length → ltN (l.getD (j - 1) z68) (l.getD j z68) = true
  | [] => by simp [risesN]
  | [a] => by simp [risesN]; intro j h1 h2; omega
  | a :: b :: l => by
    have ih := rises_at (b :: l)
    unfold risesN
    rw [Bool.and_eq_true, ih]
    constructor
    · rintro ⟨h1, h2⟩ j hj hl
      match j, hj with
      | 1, _ => simpa using h1
      | j + 2, _ => have := h2 (j + 1) (by omega) (by simpa using hl); simpa using this
    · intro h
      refine ⟨by simpa using h 1 (by omega) (by simp), fun j hj hl => ?_⟩
      obtain ⟨j, rfl⟩ : ∃ q, j = q + 1 := ⟨j - 1, by omega⟩
      have := h (j + 2) (by omega) (by simpa using hl)
      simpa using this
theorem chkS_iff (l : List S68) : chkS l = true ↔ (1 ≤ l.length ∧ l.length ≤ 8) ∧ ∀ j, j < l.length → goodAt l j = true := by
  unfold chkS
  rw [Bool.and_eq_true, Bool.and_eq_true, decide_eq_true_iff, List.all_eq_true, rises_at]
  unfold goodAt
  constructor
  · rintro ⟨⟨h1, h2⟩, h3⟩
    refine ⟨h1, fun j hj => ?_⟩
    rw [Bool.and_eq_true]
    refine ⟨h2 _ ?_, ?_⟩
    · rw [List.getD_eq_getElem?_getD, List.getElem?_eq_getElem hj]; exact List.getElem_mem hj
    · by_cases h0 : j = 0
      · simp [h0]
      · rw [h3 j (by omega) hj, Bool.or_true]
  · rintro ⟨h1, h2⟩
    refine ⟨⟨h1, fun x hx => ?_⟩, fun j h0 hj => ?_⟩
    · obtain ⟨j, hj, rfl⟩ := List.mem_iff_getElem.1 hx
      have := h2 j hj
      rw [Bool.and_eq_true, List.getD_eq_getElem?_getD, List.getElem?_eq_getElem hj] at this
      exact this.1
    · have := h2 j hj
      rw [Bool.and_eq_true, show decide (j = 0) = false from decide_eq_false (by omega), Bool.false_or] at this
      exact this.2
theorem chkS_bad {l : List S68} {j : Nat} (hj : j < l.length) (h : goodAt l j = false) : chkS l = false := by
  cases hc : chkS l with
  | false => rfl
  | true => have := ((chkS_iff l).1 hc).2 j hj; rw [h] at this; cases this
theorem good_step {l : List S68} {j : Nat} (h : ∀ i, i < j → goodAt l i = true) (hj : goodAt l j = true) : ∀ i, i < j + 1 → goodAt l i = true := fun i hi =>
  (Nat.lt_or_ge i j).elim (h i) (fun hge => by obtain rfl : i = j := by omega
                                               exact hj)
theorem name63d (w : World) (s : ByteArray) (v : Bool) (hv : nameB s = v) : Calls Try.prog 63 #[.string s] w fun e w' => e = .returned (.bool v) ∧ ∃ m, w' = w.drewN m :=
  (label_Name.calls 40 s v w (hv ▸ label_Name.val s _ (Nat.le_refl _))).mono fun _ _ ⟨he, n, hn⟩ => ⟨he, n, hn⟩
theorem at_lab {w : World} {A : Option Addr} {l : List S68} (h : Kd.C k68 w A l.length l) (j : Nat) (hj : j < l.length) : ∃ ad, A = some ad ∧ w.cell? (ad.add (j * 2)) = some (.string (l.getD j z68).f0) ∧ w.cell? ⟨(ad.add (j * 2)).block, (ad.add (j * 2)).off + 1, none⟩ = some (.string (l.getD j z68).f1) := by
  obtain ⟨ad, rfl, a0, a1⟩ := at_T68 h (j : Int) (by omega) (by omega)
  simp only [Int.toNat_natCast, show rd_T68 l (j : Int) = l.getD j z68 by simp [rd_T68]] at a0 a1
  exact ⟨ad, rfl, a0, a1⟩
set_option maxRecDepth 100000 in
set_option maxHeartbeats 8000000 in
/-- label.Check. -/
theorem check62 (w : World) (l : List S68) (A : Option Addr) (c : Nat) (hC : Kd.C k68 w A l.length l) :
    Calls Try.prog 62 #[.slice A l.length c] w fun e w' => e = .returned (.bool (chkS l)) ∧ Below w.heap.size w w' := by
  have HC := Lib.hid hC
  clear hC
  by_cases h1 : (l.length : Int) < 1
  · rw [show chkS l = false from by cases hc : chkS l; rfl; have := (chkS_iff l).1 hc; omega]
    go_enter Try.func62, Try.ntmps62
    go_wp2
    go_ret
    exact ⟨rfl, Below.refl _ _⟩
  · by_cases h8 : (l.length : Int) > 8
    · rw [show chkS l = false from by cases hc : chkS l; rfl; have := (chkS_iff l).1 hc; omega]
      go_enter Try.func62, Try.ntmps62
      go_wp2
      go_ret
      exact ⟨rfl, Below.refl _ _⟩
    · obtain ⟨v, hv⟩ : ∃ v, chkS l = v := ⟨_, rfl⟩
      rw [hv]
      have HV := Lib.hid hv
      clear hv
      go_enter Try.func62, Try.ntmps62
      go_wp2
      go_loopw [3, 4, 15] (fun _ _ u15 wr => ∃ (j : Nat), u15 = .int .i64 j ∧ j ≤ l.length ∧ Hid (∀ i, i < j → goodAt l i = true) ∧ Below w.heap.size w wr)
        (fun _ _ u15 _ => l.length - (intOf u15).toNat)
      case atStart => exact ⟨0, rfl, Nat.zero_le _, Lib.hid (fun i hi => absurd hi (Nat.not_lt_zero i)), Below.refl _ _⟩
      case round =>
        obtain ⟨j, rfl, hj, HG, hB⟩ := hrel
        by_cases hlt : j < l.length
        · obtain ⟨ad, rfl, a0, a1⟩ := at_lab (Kd.C_below HC.out hB) j hlt
          obtain ⟨x, ex⟩ : ∃ x, l.getD j z68 = x := ⟨_, rfl⟩
          rw [ex] at a0 a1
          have Hex := Lib.hid ex
          clear ex
          obtain ⟨V, eV⟩ : ∃ V, V = wr.alloc (.cells #[.string x.f0, .string x.f1] 68) := ⟨_, rfl⟩
          have hBV : Below wr.heap.size wr V := eV ▸ below_alloc (Below.refl _ _) _
          have hX : V.heap[wr.heap.size]? = some (.cells #[.string x.f0, .string x.f1] 68 (0, 0)) := by rw [eV]; exact blk_new wr _
          have hBw := Lib.hid (below_step hB hBV)
          have b0 : V.cell? ⟨wr.heap.size, 0, none⟩ = some (.string x.f0) := blk_cell hX 0
          have b1 : V.cell? ⟨wr.heap.size, 1, none⟩ = some (.string x.f1) := blk_cell hX 1
          cases hn : nameB x.f0 with
            | false =>
              have HN := Lib.hid hn
              have hbad : v = false := HV.out ▸ chkS_bad hlt (by unfold goodAt; rw [Hex.out]; unfold okS; rw [HN.out]; rfl)
              subst hbad
              clear hn
              go_wp2
              rw [← eV]
              clear eV a0 a1
              go_quiet (first | (go_at_call 63; exact Calls.quiet_of (name63d _ x.f0 false HN.out)))
              go_wp2
              go_ret
              exact ⟨rfl, by repeat (first | exact hBw.out | apply pw_below_drewN | apply below_drew)⟩
            | true =>
              have HN := Lib.hid hn
              clear hn
              by_cases s1 : (x.f1.size : Int) < 1
              · have d1 : decide ((x.f1.size : Int) < 1) = true := decide_eq_true s1
                have hbad : v = false := HV.out ▸ chkS_bad hlt (by unfold goodAt; rw [Hex.out]; unfold okS; rw [decide_eq_false (by omega)]; simp)
                subst hbad
                go_wp2
                rw [← eV]
                clear eV a0 a1
                go_quiet (first | (go_at_call 63; exact Calls.quiet_of (name63d _ x.f0 true HN.out)))
                go_wp2
                go_ret
                exact ⟨rfl, by repeat (first | exact hBw.out | apply pw_below_drewN | apply below_drew)⟩
              · have d1 : decide ((x.f1.size : Int) < 1) = false := decide_eq_false s1
                by_cases s2 : (x.f1.size : Int) > 64
                · have d2 : decide (64 < (x.f1.size : Int)) = true := decide_eq_true s2
                  have hbad : v = false := HV.out ▸ chkS_bad hlt (by unfold goodAt; rw [Hex.out]; unfold okS; rw [decide_eq_false (by omega)]; simp)
                  subst hbad
                  go_wp2
                  rw [← eV]
                  clear eV a0 a1
                  go_quiet (first | (go_at_call 63; exact Calls.quiet_of (name63d _ x.f0 true HN.out)))
                  go_wp2
                  go_ret
                  exact ⟨rfl, by repeat (first | exact hBw.out | apply pw_below_drewN | apply below_drew)⟩
                · have d2 : decide (64 < (x.f1.size : Int)) = false := decide_eq_false s2
                  have Hok := Lib.hid (show okS x = true from by unfold okS; rw [HN.out, decide_eq_true (by omega)]; rfl)
                  by_cases j0 : j = 0
                  · have J0 := Lib.hid j0
                    clear j0
                    go_wp2
                    rw [← eV]
                    clear eV a0 a1
                    have d3 : decide ((0 : Int) < (j : Int)) = false := decide_eq_false (by have := J0.out; omega)
                    have d4 : decide (0 < j) = false := decide_eq_false (by have := J0.out; omega)
                    go_quiet (first | (go_at_call 63; exact Calls.quiet_of (name63d _ x.f0 true HN.out)))
                    clear d3 d4
                    go_wp2
                    go_roundw
                    case rel => exact ⟨j + 1, by go_num, by omega, Lib.hid (good_step HG.out (by unfold goodAt; rw [Hex.out, Hok.out, decide_eq_true J0.out]; rfl)), by repeat (first | exact hBw.out | apply pw_below_drewN | apply below_drew)⟩
                    case measure => simp [intOf]; omega
                  · have d3 : decide ((0 : Int) < (j : Int)) = true := decide_eq_true (by omega)
                    have d4 : decide (0 < j) = true := decide_eq_true (by omega)
                    obtain ⟨ad', e', p0, -⟩ := at_lab (Kd.C_below HC.out hBw.out) (j - 1) (by omega)
                    cases e'
                    obtain ⟨p, ep⟩ : ∃ p, l.getD (j - 1) z68 = p := ⟨_, rfl⟩
                    rw [ep] at p0
                    have Hep := Lib.hid ep
                    clear ep
                    have hj1 : 1 ≤ (j : Int) := by omega
                    have hj2 : (j : Int) - 1 < (l.length : Int) := by omega
                    have J0 := Lib.hid j0
                    clear j0
                    cases ho : ltN p x with
                      | false =>
                        have hq := bl_f (show Op.bytesLess p.f0.toList x.f0.toList = false from by rw [ltN_less]; exact ho)
                        have Ho := Lib.hid ho
                        clear ho
                        have hbad : v = false := HV.out ▸ chkS_bad hlt (by unfold goodAt; rw [Hex.out, Hep.out, Ho.out, decide_eq_false J0.out, Bool.or_self, Bool.and_false])
                        subst hbad
                        go_wp2
                        rw [← eV]
                        clear eV a0 a1
                        go_quiet (first | (go_at_call 63; exact Calls.quiet_of (name63d _ x.f0 true HN.out)))
                        go_wp2
                        go_ret
                        exact ⟨rfl, by repeat (first | exact hBw.out | apply pw_below_drewN | apply below_drew)⟩
                      | true =>
                        have hq := bl_t (show Op.bytesLess p.f0.toList x.f0.toList = true from by rw [ltN_less]; exact ho)
                        have Ho := Lib.hid ho
                        clear ho
                        go_wp2
                        rw [← eV]
                        clear eV a0 a1
                        go_quiet (first | (go_at_call 63; exact Calls.quiet_of (name63d _ x.f0 true HN.out)))
                        go_wp2
                        go_roundw
                        case rel => exact ⟨j + 1, by go_num, by omega, Lib.hid (good_step HG.out (by unfold goodAt; rw [Hex.out, Hep.out, Hok.out, Ho.out, Bool.or_true, Bool.and_self])), by repeat (first | exact hBw.out | apply pw_below_drewN | apply below_drew)⟩
                        case measure => simp [intOf]; omega
        · obtain rfl : j = l.length := by omega
          have hgood : v = true := HV.out ▸ (chkS_iff l).2 ⟨⟨by omega, by omega⟩, HG.out⟩
          subst hgood
          go_wp2
          go_ret
          exact ⟨rfl, hB⟩
end
section
open Go Go.RowKit Go.Proofs.YteafilojjdfllaaW.PrintWords Go.Proofs.YteafilojjdfllaaW.PrintLast Go.Proofs.YteafilojjdfllaaW.PrintMore Go.Proofs.Yteafilojjdfllaa.PAll
set_option linter.unusedSimpArgs false

theorem name64d (w : World) (s : ByteArray) (v : Bool) (hv : nameB s = v) (hs : s.size ≤ 140737488351232) : Calls Try.prog 64 #[.string s] w fun e w' => e = .returned (.bool v) ∧ ∃ m, w' = w.drewN m :=
  (varveref11_Name.calls (s.size + 2) s v w (hv ▸ varveref11_Name.val s hs _ (Nat.le_refl _))).mono fun _ _ ⟨he, n, hn⟩ => ⟨he, n, hn⟩
theorem getD_lab {l : List S68} {j : Nat} (hj : j < l.length) : l.getD j z68 ∈ l := by
  rw [List.getD_eq_getElem?_getD, List.getElem?_eq_getElem hj]; exact List.getElem_mem hj
set_option maxRecDepth 100000 in
set_option maxHeartbeats 8000000 in
/-- varveref11.Check. -/
theorem check58 (w : World) (l : List S68) (A : Option Addr) (c : Nat) (hl : l.length ≤ 4000000000000000000) (hs : ∀ x ∈ l, x.f0.size ≤ 140737488351232) (hC : Kd.C k68 w A l.length l) :
    Calls Try.prog 58 #[.slice A l.length c] w fun e w' => e = .returned (.bool (chkS l)) ∧ Below w.heap.size w w' := by
  have HC := Lib.hid hC
  have HS := Lib.hid hs
  clear hC hs
  obtain ⟨v, hv⟩ : ∃ v, chkS l = v := ⟨_, rfl⟩
  rw [hv]
  have HV := Lib.hid hv
  clear hv
  go_enter Try.func58, Try.ntmps58
  go_wp2
  go_loopw [3] (fun u3 wr => ∃ (j : Nat), u3 = .int .i64 j ∧ j ≤ l.length ∧ Hid (∀ i, i < j → goodAt l i = true) ∧ Below w.heap.size w wr)
    (fun u3 _ => l.length - (intOf u3).toNat)
  case atStart => exact ⟨0, rfl, Nat.zero_le _, Lib.hid (fun i hi => absurd hi (Nat.not_lt_zero i)), Below.refl _ _⟩
  case round =>
    obtain ⟨j, rfl, hj, HG, hB⟩ := hrel
    by_cases hlt : j < l.length
    · obtain ⟨ad, rfl, a0, a1⟩ := at_lab (Kd.C_below HC.out hB) j hlt
      have hsx := HS.out _ (getD_lab hlt)
      obtain ⟨x, ex⟩ : ∃ x, l.getD j z68 = x := ⟨_, rfl⟩
      rw [ex] at a0 a1 hsx
      have Hex := Lib.hid ex
      clear ex
      cases hn : nameB x.f0 with
        | false =>
          have HN := Lib.hid hn
          have hbad : v = false := HV.out ▸ chkS_bad hlt (by unfold goodAt; rw [Hex.out]; unfold okS; rw [HN.out]; rfl)
          subst hbad
          clear hn
          go_wp2
          go_quiet (first | (go_at_call 64; exact Calls.quiet_of (name64d _ x.f0 false HN.out hsx)))
          go_wp2
          go_ret
          exact ⟨rfl, by repeat (first | exact hB | apply pw_below_drewN | apply below_drew)⟩
        | true =>
          have HN := Lib.hid hn
          clear hn
          by_cases s1 : (x.f1.size : Int) < 1
          · have d1 : decide ((x.f1.size : Int) < 1) = true := decide_eq_true s1
            have hbad : v = false := HV.out ▸ chkS_bad hlt (by unfold goodAt; rw [Hex.out]; unfold okS; rw [decide_eq_false (by omega)]; simp)
            subst hbad
            go_wp2
            go_quiet (first | (go_at_call 64; exact Calls.quiet_of (name64d _ x.f0 true HN.out hsx)))
            go_wp2
            go_ret
            exact ⟨rfl, by repeat (first | exact hB | apply pw_below_drewN | apply below_drew)⟩
          · have d1 : decide ((x.f1.size : Int) < 1) = false := decide_eq_false s1
            by_cases s2 : (x.f1.size : Int) > 64
            · have d2 : decide (64 < (x.f1.size : Int)) = true := decide_eq_true s2
              have hbad : v = false := HV.out ▸ chkS_bad hlt (by unfold goodAt; rw [Hex.out]; unfold okS; rw [decide_eq_false (by omega)]; simp)
              subst hbad
              go_wp2
              go_quiet (first | (go_at_call 64; exact Calls.quiet_of (name64d _ x.f0 true HN.out hsx)))
              go_wp2
              go_ret
              exact ⟨rfl, by repeat (first | exact hB | apply pw_below_drewN | apply below_drew)⟩
            · have d2 : decide (64 < (x.f1.size : Int)) = false := decide_eq_false s2
              have Hok := Lib.hid (show okS x = true from by unfold okS; rw [HN.out, decide_eq_true (by omega)]; rfl)
              by_cases j0 : j = 0
              · have J0 := Lib.hid j0
                clear j0
                go_wp2
                have d3 : decide ((0 : Int) < (j : Int)) = false := decide_eq_false (by have := J0.out; omega)
                have d4 : decide (0 < j) = false := decide_eq_false (by have := J0.out; omega)
                go_quiet (first | (go_at_call 64; exact Calls.quiet_of (name64d _ x.f0 true HN.out hsx)))
                clear d3 d4
                go_wp2
                go_roundw
                case rel => exact ⟨j + 1, by go_num, by omega, Lib.hid (good_step HG.out (by unfold goodAt; rw [Hex.out, Hok.out, decide_eq_true J0.out]; rfl)), by repeat (first | exact hB | apply pw_below_drewN | apply below_drew)⟩
                case measure => simp [intOf]; omega
              · have d3 : decide ((0 : Int) < (j : Int)) = true := decide_eq_true (by omega)
                have d4 : decide (0 < j) = true := decide_eq_true (by omega)
                obtain ⟨ad', e', p0, -⟩ := at_lab (Kd.C_below HC.out hB) (j - 1) (by omega)
                cases e'
                obtain ⟨p, ep⟩ : ∃ p, l.getD (j - 1) z68 = p := ⟨_, rfl⟩
                rw [ep] at p0
                have Hep := Lib.hid ep
                clear ep
                have hj1 : 1 ≤ (j : Int) := by omega
                have hj2 : (j : Int) - 1 < (l.length : Int) := by omega
                have J0 := Lib.hid j0
                clear j0
                cases ho : ltN p x with
                  | false =>
                    have hq := bl_f (show Op.bytesLess p.f0.toList x.f0.toList = false from by rw [ltN_less]; exact ho)
                    have Ho := Lib.hid ho
                    clear ho
                    have hbad : v = false := HV.out ▸ chkS_bad hlt (by unfold goodAt; rw [Hex.out, Hep.out, Ho.out, decide_eq_false J0.out, Bool.or_self, Bool.and_false])
                    subst hbad
                    go_wp2
                    go_quiet (first | (go_at_call 64; exact Calls.quiet_of (name64d _ x.f0 true HN.out hsx)))
                    go_wp2
                    go_ret
                    exact ⟨rfl, by repeat (first | exact hB | apply pw_below_drewN | apply below_drew)⟩
                  | true =>
                    have hq := bl_t (show Op.bytesLess p.f0.toList x.f0.toList = true from by rw [ltN_less]; exact ho)
                    have Ho := Lib.hid ho
                    clear ho
                    go_wp2
                    go_quiet (first | (go_at_call 64; exact Calls.quiet_of (name64d _ x.f0 true HN.out hsx)))
                    go_wp2
                    go_roundw
                    case rel => exact ⟨j + 1, by go_num, by omega, Lib.hid (good_step HG.out (by unfold goodAt; rw [Hex.out, Hep.out, Hok.out, Ho.out, Bool.or_true, Bool.and_self])), by repeat (first | exact hB | apply pw_below_drewN | apply below_drew)⟩
                    case measure => simp [intOf]; omega
    · obtain rfl : j = l.length := by omega
      by_cases h1 : (l.length : Int) < 1
      · have hbad : v = false := HV.out ▸ (by cases hc : chkS l; rfl; have := (chkS_iff l).1 hc; omega)
        subst hbad
        go_wp2
        go_ret
        exact ⟨by simp [*], hB⟩
      · by_cases h8 : (l.length : Int) > 8
        · have hbad : v = false := HV.out ▸ (by cases hc : chkS l; rfl; have := (chkS_iff l).1 hc; omega)
          subst hbad
          go_wp2
          go_ret
          exact ⟨by simp [*], hB⟩
        · have hgood : v = true := HV.out ▸ (chkS_iff l).2 ⟨⟨by omega, by omega⟩, HG.out⟩
          subst hgood
          go_wp2
          go_ret
          exact ⟨by simp [*], hB⟩
end
end Go.Proofs.Yteafilojjdfllaa
