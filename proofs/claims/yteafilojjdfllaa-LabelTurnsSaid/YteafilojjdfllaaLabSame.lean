/- Own text: SameLabels of any two lists. -/
import Derived.Test.YteafilojjdfllaaLabChk
namespace Go.Proofs.Yteafilojjdfllaa
open Go Go.RowKit Go.Proofs.YteafilojjdfllaaW.PrintWords Go.Proofs.YteafilojjdfllaaW.PrintLast Go.Proofs.YteafilojjdfllaaW.PrintMore Go.Proofs.Yteafilojjdfllaa.PAll
set_option linter.unusedVariables false

theorem ba_toList {a b : ByteArray} (h : a.toList = b.toList) : a = b := by
  rw [ByteArray.toList_eq, ByteArray.toList_eq] at h
  exact ba_extC h
theorem lab_ext {x y : S68} (h0 : x.f0 = y.f0) (h1 : x.f1 = y.f1) : x = y := by
  cases x; cases y
  simp only at h0 h1
  subst h0 h1
  rfl
theorem take_same {a b : List S68} {j : Nat} (ha : j < a.length) (hb : j < b.length) (h : a.take j = b.take j) (hx : a.getD j z68 = b.getD j z68) : a.take (j + 1) = b.take (j + 1) := by
  rw [List.take_succ_eq_append_getElem ha, List.take_succ_eq_append_getElem hb, h]
  simp only [List.getD_eq_getElem?_getD, List.getElem?_eq_getElem ha, List.getElem?_eq_getElem hb, Option.getD_some] at hx
  rw [hx]
set_option maxRecDepth 100000 in
set_option maxHeartbeats 4000000 in
theorem same67g (w : World) (a b : List S68) (A : Option Addr) (c : Nat) (B : Option Addr) (d : Nat) (v : Bool) (hv : v = true ↔ a = b) (hl : a.length ≤ 4000000000000000000) (hlb : b.length ≤ 4000000000000000000)
    (hC : Kd.C k68 w A a.length a) (hD : Kd.C k68 w B b.length b) :
    Calls Try.prog 67 #[.slice A a.length c, .slice B b.length d] w fun e w' => e = .returned (.bool v) ∧ Below w.heap.size w w' := by
  have HC := Lib.hid hC
  have HD := Lib.hid hD
  have HV := Lib.hid hv
  clear hC hD hv
  by_cases hq : a.length = b.length
  · have HQ := Lib.hid hq
    have q1 : ((a.length : Int) == (b.length : Int)) = true := beq_iff_eq.2 (by omega)
    have q2 : (a.length == b.length) = true := beq_iff_eq.2 hq
    have q3 : ((a.length : Int) != (b.length : Int)) = false := by simp [bne, q1]
    have q4 : (a.length != b.length) = false := by simp [bne, q2]
    clear hq
    go_enter Try.func67, Try.ntmps67
    go_wp2
    go_loopw [5] (fun u5 wr => ∃ (j : Nat), u5 = .int .i64 j ∧ j ≤ a.length ∧ Hid (a.take j = b.take j) ∧ Below w.heap.size w wr)
      (fun u5 _ => a.length - (intOf u5).toNat)
    case atStart => exact ⟨0, rfl, Nat.zero_le _, Lib.hid rfl, Below.refl _ _⟩
    case round =>
      obtain ⟨j, rfl, hj, HT, hB⟩ := hrel
      by_cases hlt : j < a.length
      · have hltb : j < b.length := by have := HQ.out; omega
        obtain ⟨ad, rfl, a0, a1⟩ := at_lab (Kd.C_below HC.out hB) j hlt
        obtain ⟨bd, rfl, b0, b1⟩ := at_lab (Kd.C_below HD.out hB) j hltb
        obtain ⟨x, ex⟩ : ∃ x, a.getD j z68 = x := ⟨_, rfl⟩
        obtain ⟨y, ey⟩ : ∃ y, b.getD j z68 = y := ⟨_, rfl⟩
        rw [ex] at a0 a1
        rw [ey] at b0 b1
        have EX := Lib.hid ex
        have EY := Lib.hid ey
        clear ex ey
        by_cases e0 : x.f0.toList = y.f0.toList
        · have f0 : (x.f0.toList == y.f0.toList) = true := beq_iff_eq.2 e0
          by_cases e1 : x.f1.toList = y.f1.toList
          · have f1 : (x.f1.toList == y.f1.toList) = true := beq_iff_eq.2 e1
            have HT2 := Lib.hid (take_same hlt hltb HT.out (by rw [EX.out, EY.out]; exact lab_ext (ba_toList e0) (ba_toList e1)))
            clear e0 e1
            go_wp2
            repeat (go_quiet (fail); try go_wp2)
            go_roundw
            case rel => exact ⟨j + 1, by go_num, by omega, HT2, by repeat (first | exact hB | apply pw_below_drewN | apply below_drew)⟩
            case measure => simp [intOf]; omega
          · have f1 : (x.f1.toList == y.f1.toList) = false := beq_eq_false_iff_ne.2 e1
            have hne : v = false := by
              cases v
              · rfl
              · exact absurd (congrArg (fun l => (l.getD j z68).f1.toList) (HV.out.1 rfl)) (by simp only [EX.out, EY.out]; exact e1)
            subst hne
            clear e0 e1
            go_wp2
            repeat (go_quiet (fail); try go_wp2)
            go_ret
            exact ⟨rfl, by repeat (first | exact hB | apply pw_below_drewN | apply below_drew)⟩
        · have f0 : (x.f0.toList == y.f0.toList) = false := beq_eq_false_iff_ne.2 e0
          have hne : v = false := by
            cases v
            · rfl
            · exact absurd (congrArg (fun l => (l.getD j z68).f0.toList) (HV.out.1 rfl)) (by simp only [EX.out, EY.out]; exact e0)
          subst hne
          clear e0
          go_wp2
          repeat (go_quiet (fail); try go_wp2)
          go_ret
          exact ⟨rfl, by repeat (first | exact hB | apply pw_below_drewN | apply below_drew)⟩
      · obtain rfl : j = a.length := by omega
        have ht : v = true := HV.out.2 (by
          have h := HT.out
          rw [List.take_length, HQ.out, List.take_length] at h
          exact h)
        subst ht
        go_wp2
        go_ret
        exact ⟨rfl, hB⟩
  · have hne : v = false := by
      cases v
      · rfl
      · exact absurd (congrArg List.length (HV.out.1 rfl)) hq
    subst hne
    have q1 : ((a.length : Int) == (b.length : Int)) = false := beq_eq_false_iff_ne.2 (by omega)
    have q2 : (a.length == b.length) = false := beq_eq_false_iff_ne.2 hq
    have q3 : ((a.length : Int) != (b.length : Int)) = true := by simp [bne, q1]
    have q4 : (a.length != b.length) = true := by simp [bne, q2]
    clear hq
    go_enter Try.func67, Try.ntmps67
    go_wp2
    go_ret
    exact ⟨rfl, Below.refl _ _⟩
end Go.Proofs.Yteafilojjdfllaa
