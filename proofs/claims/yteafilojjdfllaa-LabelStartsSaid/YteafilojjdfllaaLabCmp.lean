/- Own text: label.Cmp, walked: it answers cmpS. -/
import Derived.Test.YteafilojjdfllaaShelf
import Derived.Test.YteafilojjdfllaaLabChk
import Derived.Lib.Hide
namespace Go.Proofs.Yteafilojjdfllaa
open Go Go.RowKit Go.Proofs.YteafilojjdfllaaW.PrintWords Go.Proofs.YteafilojjdfllaaW.PrintLast Go.Proofs.YteafilojjdfllaaW.PrintMore Go.Proofs.Yteafilojjdfllaa.PAll

def cbB (a b : ByteArray) : Int := Lib.compareBytes a.data.toList b.data.toList
theorem cmp1_cb (x y : S68) : cmp1 x y = if cbB x.f0 y.f0 ≠ 0 then cbB x.f0 y.f0 else cbB x.f1 y.f1 := rfl
theorem cmpS_drop {a b : List S68} {j : Nat} (ha : j < a.length) (hb : j < b.length) : cmpS (a.drop j) (b.drop j) = if cmp1 (a.getD j z68) (b.getD j z68) ≠ 0 then cmp1 (a.getD j z68) (b.getD j z68) else cmpS (a.drop (j + 1)) (b.drop (j + 1)) := by
  rw [List.drop_eq_getElem_cons ha, List.drop_eq_getElem_cons hb, cmpS, List.getD_eq_getElem?_getD, List.getElem?_eq_getElem ha, List.getD_eq_getElem?_getD, List.getElem?_eq_getElem hb]
  rfl
theorem cmpS_endB {a b : List S68} {j : Nat} (ha : j < a.length) (hb : j = b.length) : cmpS (a.drop j) (b.drop j) = 1 := by
  rw [List.drop_eq_getElem_cons ha, List.drop_of_length_le (by omega : b.length ≤ j), cmpS]
theorem cmpS_endA {a b : List S68} {j : Nat} (ha : j = a.length) (hb : j < b.length) : cmpS (a.drop j) (b.drop j) = -1 := by
  rw [List.drop_of_length_le (by omega : a.length ≤ j), List.drop_eq_getElem_cons hb, cmpS]
theorem cmpS_endAB {a b : List S68} {j : Nat} (ha : j = a.length) (hb : j = b.length) : cmpS (a.drop j) (b.drop j) = 0 := by
  rw [List.drop_of_length_le (by omega : a.length ≤ j), List.drop_of_length_le (by omega : b.length ≤ j), cmpS]

set_option maxRecDepth 100000 in
set_option maxHeartbeats 4000000 in
/-- label.Cmp$1. -/
theorem cmp123 (w : World) (x y : S68) (v : Int) (hv : cmp1 x y = v) :
    Calls Try.prog 123 #[.agg #[.string x.f0, .string x.f1], .agg #[.string y.f0, .string y.f1]] w fun e w' => e = .returned (.int .i64 v) ∧ Below w.heap.size w w' := by
  have hX : ((w.alloc (.cells #[.string x.f0, .string x.f1] 68)).alloc (.cells #[.string y.f0, .string y.f1] 68)).heap[w.heap.size]? = some (.cells #[.string x.f0, .string x.f1] 68 (0, 0)) := (Below.heap_alloc _ _ _ (by simp)).trans (blk_new w _)
  have hY := blk_new (w.alloc (.cells #[.string x.f0, .string x.f1] 68)) (.cells #[.string y.f0, .string y.f1] 68)
  rw [World.size_alloc] at hY
  have x0 := blk_cell hX 0
  have x1 := blk_cell hX 1
  have y0 := blk_cell hY 0
  have y1 := blk_cell hY 1
  simp only [List.getElem?_toArray, List.getElem?_cons_zero, List.getElem?_cons_succ] at x0 x1 y0 y1
  clear hX hY
  have HB := Lib.hid (below_alloc (below_alloc (Below.refl w.heap.size w) (.cells #[.string x.f0, .string x.f1] 68)) (.cells #[.string y.f0, .string y.f1] 68))
  rw [cmp1_cb] at hv
  obtain ⟨c, hc⟩ : ∃ c, cbB x.f0 y.f0 = c := ⟨_, rfl⟩
  have hcb : Lib.compareBytes x.f0.data.toList y.f0.data.toList = c := hc
  rw [hc] at hv
  have HCB := Lib.hid hcb
  clear hcb hc
  by_cases c0 : c = 0
  · subst c0
    rw [if_neg (by decide)] at hv
    have HV := Lib.hid (show Lib.compareBytes x.f1.data.toList y.f1.data.toList = v from hv)
    clear hv
    go_enter Try.func123, Try.ntmps123
    go_wp2_with fail
    (with_reducible refine (Try.strings_Compare _ _ _).mono ?_)
    rw [HCB.out]
    rintro e w1 ⟨rfl, rfl⟩
    go_wp2_with fail
    (with_reducible refine (Try.strings_Compare _ _ _).mono ?_)
    rw [HV.out]
    rintro e w1 ⟨rfl, rfl⟩
    go_wp2_with fail
    go_ret
    exact ⟨rfl, HB.out⟩
  · rw [if_pos c0] at hv
    subst hv
    go_enter Try.func123, Try.ntmps123
    go_wp2_with fail
    (with_reducible refine (Try.strings_Compare _ _ _).mono ?_)
    rw [HCB.out]
    rintro e w1 ⟨rfl, rfl⟩
    go_wp2_with fail
    go_ret
    exact ⟨rfl, HB.out⟩

set_option maxRecDepth 100000 in
set_option maxHeartbeats 8000000 in
/-- slices.CompareFunc over labels. -/
theorem cmp122 (w : World) (a b : List S68) (A : Option Addr) (c : Nat) (B : Option Addr) (d : Nat) (v : Int) (ha : a.length ≤ 4000000000000000000) (_hb : b.length ≤ 4000000000000000000) (hC : Kd.C k68 w A a.length a) (hD : Kd.C k68 w B b.length b) (hv : cmpS a b = v) :
    Calls Try.prog 122 #[.slice A a.length c, .slice B b.length d, .func (.func 123) #[] #[]] w fun e w' => e = .returned (.int .i64 v) ∧ Below w.heap.size w w' := by
  have HC := Lib.hid hC
  have HD := Lib.hid hD
  have HV := Lib.hid hv
  clear hC hD hv
  go_enter Try.func122, Try.ntmps122
  go_wp2
  go_loopw [7, 8, 9, 10, 13] (fun _ _ _ _ u13 wr => ∃ (j : Nat), u13 = .int .i64 j ∧ j ≤ a.length ∧ j ≤ b.length ∧ Hid (cmpS (a.drop j) (b.drop j) = v) ∧ Below w.heap.size w wr)
    (fun _ _ _ _ u13 _ => a.length - (intOf u13).toNat)
  case atStart => exact ⟨0, rfl, Nat.zero_le _, Nat.zero_le _, HV, Below.refl _ _⟩
  case round =>
    obtain ⟨j, rfl, hj, hjb, HJ, hB⟩ := hrel
    by_cases hlt : j < a.length
    · obtain ⟨ad, rfl, a0, a1⟩ := at_lab (Kd.C_below HC.out hB) j hlt
      by_cases hltb : j < b.length
      · obtain ⟨bd, rfl, p0, p1⟩ := at_lab (Kd.C_below HD.out hB) j hltb
        have Hst := Lib.hid (HJ.out.symm.trans (cmpS_drop hlt hltb))
        obtain ⟨x, ex⟩ : ∃ x, a.getD j z68 = x := ⟨_, rfl⟩
        obtain ⟨y, ey⟩ : ∃ y, b.getD j z68 = y := ⟨_, rfl⟩
        rw [ex] at a0 a1 Hst
        rw [ey] at p0 p1 Hst
        clear ex ey
        have q0 := pw_cell_below (below_alloc (Below.refl wr.heap.size wr) (.cells #[.string x.f0, .string x.f1] 68)) p0
        have q1 := pw_cell_below (below_alloc (Below.refl wr.heap.size wr) (.cells #[.string x.f0, .string x.f1] 68)) p1
        have hBV2 := below_alloc (below_alloc (Below.refl wr.heap.size wr) (.cells #[.string x.f0, .string x.f1] 68)) (.cells #[.string y.f0, .string y.f1] 68)
        have hX : ((wr.alloc (.cells #[.string x.f0, .string x.f1] 68)).alloc (.cells #[.string y.f0, .string y.f1] 68)).heap[wr.heap.size]? = some (.cells #[.string x.f0, .string x.f1] 68 (0, 0)) := (Below.heap_alloc _ _ _ (by simp)).trans (blk_new wr _)
        have hY := blk_new (wr.alloc (.cells #[.string x.f0, .string x.f1] 68)) (.cells #[.string y.f0, .string y.f1] 68)
        rw [World.size_alloc] at hY
        have x0 := blk_cell hX 0
        have x1 := blk_cell hX 1
        have y0 := blk_cell hY 0
        have y1 := blk_cell hY 1
        simp only [List.getElem?_toArray, List.getElem?_cons_zero, List.getElem?_cons_succ] at x0 x1 y0 y1
        clear hX hY
        have HBw := Lib.hid (below_step hB hBV2)
        clear hBV2
        obtain ⟨r, hr⟩ : ∃ r, cmp1 x y = r := ⟨_, rfl⟩
        rw [hr] at Hst
        have HR := Lib.hid hr
        clear hr
        go_wp2_with fail
        (with_reducible refine (cmp123 _ x y r HR.out).mono ?_)
        rintro e w5 ⟨rfl, hb5⟩
        have HB5 := Lib.hid (below_step HBw.out hb5)
        by_cases r0 : r = 0
        · subst r0
          have Hn := Lib.hid (Hst.out.trans (if_neg (by decide)))
          go_wp2
          go_roundw
          case rel => exact ⟨j + 1, by go_num, by omega, by omega, Lib.hid Hn.out.symm, HB5.out⟩
          case measure => simp [intOf]; omega
        · have Hn := Lib.hid (Hst.out.trans (if_pos r0))
          go_wp2
          go_ret
          exact ⟨by first | (rw [Hn.out]; done) | (rw [Hn.out]; rfl), HB5.out⟩
      · have He := Lib.hid (HJ.out.symm.trans (cmpS_endB hlt (by omega)))
        go_wp2
        go_ret
        exact ⟨by first | (rw [He.out]; done) | (rw [He.out]; rfl), by repeat (first | exact hB | apply below_alloc)⟩
    · obtain rfl : j = a.length := by omega
      by_cases hltb : a.length < b.length
      · have He := Lib.hid (HJ.out.symm.trans (cmpS_endA rfl hltb))
        go_wp2
        go_ret
        exact ⟨by first | (rw [He.out]; done) | (rw [He.out]; rfl), hB⟩
      · have He := Lib.hid (HJ.out.symm.trans (cmpS_endAB rfl (by omega)))
        go_wp2
        go_ret
        exact ⟨by first | (rw [He.out]; done) | (rw [He.out]; rfl), hB⟩

set_option maxRecDepth 100000 in
set_option maxHeartbeats 4000000 in
/-- label.Cmp. -/
theorem cmp77 (w : World) (a b : List S68) (A : Option Addr) (c : Nat) (B : Option Addr) (d : Nat) (v : Int) (ha : a.length ≤ 4000000000000000000) (hb : b.length ≤ 4000000000000000000) (hC : Kd.C k68 w A a.length a) (hD : Kd.C k68 w B b.length b) (hv : cmpS a b = v) :
    Calls Try.prog 77 #[.slice A a.length c, .slice B b.length d] w fun e w' => e = .returned (.int .i64 v) ∧ Below w.heap.size w w' := by
  have h := Lib.hid (cmp122 w a b A c B d v ha hb hC hD hv)
  clear hC hD hv
  go_enter Try.func77, Try.ntmps77
  go_wp2_with fail
  (with_reducible refine h.out.mono ?_)
  rintro e w1 ⟨rfl, hb1⟩
  go_wp2
  go_ret
  exact ⟨rfl, hb1⟩

end Go.Proofs.Yteafilojjdfllaa
