/- Own text: the document's Cmp, walked: it answers cmpS. -/
import Derived.Test.YteafilojjdfllaaLabCmp
namespace Go.Proofs.Yteafilojjdfllaa
open Go Go.RowKit Go.Proofs.YteafilojjdfllaaW.PrintWords Go.Proofs.YteafilojjdfllaaW.PrintLast Go.Proofs.YteafilojjdfllaaW.PrintMore Go.Proofs.Yteafilojjdfllaa.PAll

set_option maxRecDepth 100000 in
set_option maxHeartbeats 4000000 in
/-- the document's order of texts. -/
theorem texts124 (w : World) (a b : ByteArray) (v : Int) (hv : cbB a b = v) : Calls Try.prog 124 #[.string a, .string b] w fun e w' => e = .returned (.int .i64 v) ∧ ∃ m, w' = w.drewN m := by
  unfold cbB at hv
  have hl : Op.bytesLess a.toList b.toList = decide (v < 0) := by rw [bless, ByteArray.toList_eq, ByteArray.toList_eq, hv]
  rcases cmpT_tri a.data.toList b.data.toList with h | h | h <;> rw [hv] at h <;> subst h
  · have h1 : Op.bytesLess a.toList b.toList = true := hl
    clear hl hv
    go_enter Try.func124, Try.ntmps124
    go_wp2
    go_ret
    exact ⟨rfl, 0, rfl⟩
  · have h1 : Op.bytesLess a.toList b.toList = false := hl
    have h2 : (a.toList == b.toList) = true := by rw [ByteArray.toList_eq, ByteArray.toList_eq, cmpT_eq hv]; exact beq_self_eq_true _
    clear hl hv
    go_enter Try.func124, Try.ntmps124
    go_wp2
    go_ret
    exact ⟨rfl, 0, rfl⟩
  · have h1 : Op.bytesLess a.toList b.toList = false := hl
    have h2 : (a.toList == b.toList) = false := beq_eq_false_iff_ne.2 (fun e => by rw [ByteArray.toList_eq, ByteArray.toList_eq] at e; rw [e, cmpT_refl] at hv; exact absurd hv (by decide))
    clear hl hv
    go_enter Try.func124, Try.ntmps124
    go_wp2
    go_ret
    exact ⟨rfl, 0, rfl⟩

set_option maxRecDepth 100000 in
set_option maxHeartbeats 8000000 in
/-- the document's Cmp. -/
theorem cmp78 (w : World) (a b : List S68) (A : Option Addr) (c : Nat) (B : Option Addr) (d : Nat) (v : Int) (ha : a.length ≤ 4000000000000000000) (_hb : b.length ≤ 4000000000000000000) (hC : Kd.C k68 w A a.length a) (hD : Kd.C k68 w B b.length b) (hv : cmpS a b = v) :
    Calls Try.prog 78 #[.slice A a.length c, .slice B b.length d] w fun e w' => e = .returned (.int .i64 v) ∧ Below w.heap.size w w' := by
  have HC := Lib.hid hC
  have HD := Lib.hid hD
  have HV := Lib.hid hv
  clear hC hD hv
  go_enter Try.func78, Try.ntmps78
  go_wp2
  go_loopw [5, 6, 7] (fun u5 _ _ wr => ∃ (j : Nat), u5 = .int .i64 j ∧ j ≤ a.length ∧ j ≤ b.length ∧ Hid (cmpS (a.drop j) (b.drop j) = v) ∧ Below w.heap.size w wr)
    (fun u5 _ _ _ => a.length - (intOf u5).toNat)
  case atStart => exact ⟨0, rfl, Nat.zero_le _, Nat.zero_le _, HV, Below.refl _ _⟩
  case round =>
    obtain ⟨j, rfl, hj, hjb, HJ, hB⟩ := hrel
    by_cases hlt : j < a.length
    · by_cases hltb : j < b.length
      · obtain ⟨ad, rfl, a0, a1⟩ := at_lab (Kd.C_below HC.out hB) j hlt
        obtain ⟨bd, rfl, p0, p1⟩ := at_lab (Kd.C_below HD.out hB) j hltb
        have Hst := Lib.hid (HJ.out.symm.trans (cmpS_drop hlt hltb))
        obtain ⟨x, ex⟩ : ∃ x, a.getD j z68 = x := ⟨_, rfl⟩
        obtain ⟨y, ey⟩ : ∃ y, b.getD j z68 = y := ⟨_, rfl⟩
        rw [ex] at a0 a1 Hst
        rw [ey] at p0 p1 Hst
        clear ex ey
        rw [cmp1_cb] at Hst
        obtain ⟨r, hr⟩ : ∃ r, cbB x.f0 y.f0 = r := ⟨_, rfl⟩
        obtain ⟨s, hs⟩ : ∃ s, cbB x.f1 y.f1 = s := ⟨_, rfl⟩
        rw [hr, hs] at Hst
        have HR := Lib.hid hr
        have HS := Lib.hid hs
        clear hr hs
        go_wp2
        go_quiet (first | (go_at_call 124; exact Calls.quiet_of (texts124 _ _ _ r HR.out)))
        obtain ⟨W, eW⟩ : ∃ W, W = wr.drewN nq := ⟨_, rfl⟩
        have hBW : Below w.heap.size w W := eW ▸ pw_below_drewN hB _
        have a2 : W.cell? ⟨(ad.add (j * 2)).block, (ad.add (j * 2)).off + 1, none⟩ = some (.string x.f1) := by rw [eW]; exact a1
        have p2 : W.cell? ⟨(bd.add (j * 2)).block, (bd.add (j * 2)).off + 1, none⟩ = some (.string y.f1) := by rw [eW]; exact p1
        rw [← eW]
        clear eW a0 a1 p0 p1
        by_cases r0 : r = 0
        · subst r0
          rw [if_neg (show ¬ ((0 : Int) ≠ 0) by decide)] at Hst
          go_wp2
          go_quiet (first | (go_at_call 124; exact Calls.quiet_of (texts124 _ _ _ s HS.out)))
          by_cases s0 : s = 0
          · subst s0
            have Hn := Lib.hid (Hst.out.trans (if_neg (by decide)))
            go_wp2
            go_roundw
            case rel => exact ⟨j + 1, by go_num, by omega, by omega, Lib.hid Hn.out.symm, by repeat (first | exact hBW | apply pw_below_drewN | apply below_drew)⟩
            case measure => simp [intOf]; omega
          · have Hn := Lib.hid (Hst.out.trans (if_pos s0))
            go_wp2
            go_ret
            exact ⟨by first | (rw [Hn.out]; done) | (rw [Hn.out]; rfl), by repeat (first | exact hBW | apply pw_below_drewN | apply below_drew)⟩
        · rw [if_pos r0] at Hst
          have Hn := Lib.hid (Hst.out.trans (if_pos r0))
          go_wp2
          go_ret
          exact ⟨by first | (rw [Hn.out]; done) | (rw [Hn.out]; rfl), by repeat (first | exact hBW | apply pw_below_drewN | apply below_drew)⟩
      · have He := Lib.hid (HJ.out.symm.trans (cmpS_endB hlt (by omega)))
        go_wp2
        go_ret
        exact ⟨by first | (rw [He.out]; done) | (rw [He.out]; rfl), hB⟩
    · obtain rfl : j = a.length := by omega
      by_cases hltb : a.length < b.length
      · have He := Lib.hid (HJ.out.symm.trans (cmpS_endA rfl hltb))
        go_wp2
        go_ret
        exact ⟨by first | (rw [He.out]; done) | (rw [He.out]; rfl), hB⟩
      · have He := Lib.hid (HJ.out.symm.trans (cmpS_endAB rfl (by omega)))
        go_wp2
        go_ret
        exact ⟨by first | (rw [He.out]; done) | (rw [He.out]; rfl), hB⟩
end Go.Proofs.Yteafilojjdfllaa
