/- Own text: the law LabelBroken, walked (written by wip/genbroken.py). -/
import Derived.Test.YteafilojjdfllaaLabKit
import Derived.Test.YteafilojjdfllaaLabSame
import Derived.Test.YteafilojjdfllaaParse84
import Derived.Test.YteafilojjdfllaaAwakeL
namespace Go.Proofs.Yteafilojjdfllaa
open Go Go.RowKit Go.Proofs.YteafilojjdfllaaW.PrintWords Go.Proofs.YteafilojjdfllaaW.PrintLast Go.Proofs.YteafilojjdfllaaW.PrintMore Go.Proofs.Yteafilojjdfllaa.PAll
set_option linter.unusedVariables false
set_option linter.unusedSimpArgs false

theorem ok9_name {l : List S68} (h : chkS l = true) : ∀ x ∈ l, nameB x.f0 = true := fun x hx => by
  have := chk_ok9 h x hx
  unfold okS at this
  rw [Bool.and_eq_true] at this
  exact this.1
theorem textB_inj {a b : List S68} (ha : chkS a = true) (hb : chkS b = true) (h : textB a = textB b) : a = b := by
  refine textS_inj a b (ok9_name ha) (ok9_name hb) ?_
  unfold textB at h
  have := congrArg (fun s : ByteArray => s.data.toList) h
  simpa using this
theorem same_text {m l : List S68} {v : Bool} {X t : ByteArray} (hm : chkS m = true) (hl : chkS l = true) (hv : v = true ↔ m = l) (hX : textB m = X) (ht : textB l = t) : (v == (X.toList == t.toList)) = true := by
  rw [beq_iff_eq, Bool.eq_iff_iff, hv, beq_iff_eq, ← hX, ← ht]
  constructor
  · rintro rfl; rfl
  · intro h
    exact textB_inj hm hl (ba_toList h)
theorem text_some {l : List S68} (h : chkS l = true) : 1 ≤ (textB l).size ∧ (textB l).size ≤ 4000 := by
  have hn := (chkS_iff l).1 h
  have h1 := textS_len l (chk_ok9 h) (chk_len9 h)
  have hs : (textB l).size = (textS l).length := by unfold textB; simp [ByteArray.size]
  rw [hs]
  refine ⟨?_, h1⟩
  cases l with
  | nil => simp at hn
  | cons x l =>
    cases l with
    | nil => show 1 ≤ (labL x).length; unfold labL; simp; omega
    | cons y l => show 1 ≤ (labL x ++ 44 :: _).length; simp; omega
set_option maxRecDepth 100000 in
set_option maxHeartbeats 8000000 in
/-- Place. -/
theorem place46b (w : World) (a n : Int) (h0 : 0 < n) (h1 : n ≤ 4611686018427387904) :
    Calls Try.prog 46 #[.int .i64 a, .int .i64 n] w fun e w' => ∃ i : Nat, e = .returned (.int .i64 (i : Int)) ∧ (i : Int) < n ∧ Below w.heap.size w w' := by
  have c3b0 : (n == 0) = false := beq_eq_false_iff_ne.mpr (by omega)
  have c3b1 : (n != 0) = true := bne_iff_ne.mpr (by omega)
  have hlt := Int.tmod_lt_of_pos a h0
  have hge : -n < Int.tmod a n := by have := Int.lt_tmod_of_pos a h0; omega
  by_cases c4 : (Int.tmod a n) < 0
  · have hx : wrap64 (Int.tmod a n + n) = Int.tmod a n + n := by unfold wrap64; omega
    obtain ⟨i, hi⟩ : ∃ i : Nat, Int.tmod a n + n = (i : Int) := ⟨(Int.tmod a n + n).toNat, by omega⟩
    go_enter Try.func46, Try.ntmps46
    go_wp2
    go_ret
    exact ⟨i, by simp [*], by omega, by repeat (first | exact Below.refl _ _ | apply below_drew)⟩
  · obtain ⟨i, hi⟩ : ∃ i : Nat, Int.tmod a n = (i : Int) := ⟨(Int.tmod a n).toNat, by omega⟩
    go_enter Try.func46, Try.ntmps46
    go_wp2
    go_ret
    exact ⟨i, by simp [*], by omega, by repeat (first | exact Below.refl _ _ | apply below_drew)⟩

set_option maxRecDepth 100000 in
set_option maxHeartbeats 16000000 in
theorem labelBroken_walk (w : World) (l : List S68) (A : Option Addr) (c : Nat) (at_ : Int) (s : ByteArray) (hc : l.length ≤ c) (hC : Kd.C k68 w A l.length l) (hl : l.length * 32 ≤ 140737488351232) (hs : ∀ x ∈ l, x.f0.size ≤ 140737488351232 ∧ x.f1.size ≤ 140737488351232) :
    Calls Try.prog 26 #[.slice A l.length c, .int .i64 at_, .string s] w fun e w' => e = .returned (.bool true) ∧ Below w.heap.size w w' := by
  have hl4 : l.length ≤ 4000000000000000000 := by omega
  have HS := Lib.hid (fun x hx => (hs x hx).1 : ∀ x ∈ l, x.f0.size ≤ 140737488351232)
  have HC := Lib.hid hC
  clear hC hs
  go_enter Try.func26, Try.ntmps26
  go_wp2_with fail
  (with_reducible refine (check58 _ l A c hl4 HS.out HC.out).mono ?_)
  rintro e w1 ⟨rfl, hB1⟩
  cases hv : chkS l with
  | false =>
    go_wp2_with fail
    (with_reducible refine (awake68 _).mono ?_)
    rintro e w2 ⟨rfl, hb2⟩
    go_wp2
    go_ret
    exact ⟨rfl, below_step hB1 hb2⟩
  | true =>
    have HV := Lib.hid hv
    clear hv
    by_cases h100 : (s.size : Int) > 100
    · go_wp2_with fail
      (with_reducible refine (awake68 _).mono ?_)
      rintro e w2 ⟨rfl, hb2⟩
      go_wp2
      go_ret
      exact ⟨rfl, below_step hB1 hb2⟩
    · go_wp2_with fail
      (with_reducible refine (Lb.list56 _ A c l (by omega) hc (Kd.C_below HC.out hB1)).mono ?_)
      rintro e w2 ⟨B, d, rfl, hLF, hb2⟩
      have HD := Lib.hid hLF.now.2
      have hB2 := below_step hB1 hb2
      clear hLF hb2
      obtain ⟨t, ht⟩ : ∃ t, textB l = t := ⟨_, rfl⟩
      obtain ⟨ht1, ht2⟩ := text_some HV.out
      rw [ht] at ht1 ht2
      have HT := Lib.hid ht
      clear ht
      go_wp2_with fail
      (with_reducible refine (text79 _ l B d (chk_len9 HV.out) (chk_ok9 HV.out) HD.out).mono ?_)
      rintro e w3 ⟨rfl, hb3⟩
      have hB3 := below_step hB2 hb3
      rw [HT.out]
      go_wp2_with fail
      (with_reducible refine (place46b _ at_ _ (by omega) (by omega)).mono ?_)
      rintro e w4 ⟨k, rfl, hk, hb4⟩
      have HB4 := Lib.hid (below_step hB3 hb4)
      have hkt : k ≤ t.size := by omega
      clear hb3 hb4 hB1 hB2 hB3 hk
      go_wp2
      go_loopw [9, 10, 11, 12] (fun u9 _ _ _ wr => ∃ (j : Nat), u9 = .int .i64 j ∧ j ≤ 2 ∧ Below w.heap.size w wr)
        (fun u9 _ _ _ _ => 2 - (intOf u9).toNat)
      case atStart => exact ⟨0, rfl, Nat.zero_le _, HB4.out⟩
      case round =>
        obtain ⟨j, rfl, hj, hB⟩ := hrel
        by_cases hlt : j < 2
        · by_cases j1 : j = 1
          · subst j1
            obtain ⟨X, hXe⟩ : ∃ X, t ++ s = X := ⟨_, rfl⟩
            have hX9 : X.size ≤ 1000000000 := by rw [← hXe, ByteArray.size_append]; omega
            have A1 : Op.stringOp .add t s = pure (.string X) := add_to (by rw [← hXe]; simp) (by simp; omega)
            clear hXe
            go_wp2_with fail
            (with_reducible refine (parse84 _ X hX9).mono ?_)
            unfold ParsePost
            rintro e w5 ⟨(⟨hpn, rfl⟩ | ⟨m, E, f, hpm, rfl, hf, hE⟩), hb5⟩
            · have HB5 := Lib.hid (below_step hB hb5)
              clear hpn hb5
              go_wp2
              go_roundw
              case rel => exact ⟨2, by first | rfl | go_num, by omega, HB5.out⟩
              case measure => simp [intOf] <;> omega
            · obtain ⟨hcm, htm⟩ := parse_sound hpm
              have HB5 := Lib.hid (below_step hB hb5)
              have HE := Lib.hid hE
              have HCm := Lib.hid hcm
              have HTm := Lib.hid htm
              clear hpm hE hcm htm hb5
              go_wp2_with fail
              (with_reducible refine (text79 _ m E f (chk_len9 HCm.out) (chk_ok9 HCm.out) HE.out).mono ?_)
              rintro e w6 ⟨rfl, hb6⟩
              have HB6 := Lib.hid (below_step HB5.out hb6)
              have HE6 := Lib.hid (Kd.C_below HE.out hb6)
              clear hb6
              rw [HTm.out]
              obtain ⟨v, hv⟩ : ∃ v : Bool, v = true ↔ m = l := (Classical.em (m = l)).elim (fun h => ⟨true, by simp [h]⟩) (fun h => ⟨false, by simp [h]⟩)
              have HVm := Lib.hid hv
              have e0 : (v == (X.toList == t.toList)) = true := same_text HCm.out HV.out hv HTm.out HT.out
              clear hv
              have eX : (X.toList != X.toList) = false := by simp
              have hm4 : m.length ≤ 4000000000000000000 := by have := chk_len9 HCm.out; omega
              go_wp2_with fail
              (with_reducible refine (same67g _ m l E f A c v HVm.out hm4 hl4 HE6.out (Kd.C_below HC.out HB6.out)).mono ?_)
              rintro e w7 ⟨rfl, hb7⟩
              have HB7 := Lib.hid (below_step HB6.out hb7)
              go_wp2
              go_roundw
              case rel => exact ⟨2, by first | rfl | go_num, by omega, HB7.out⟩
              case measure => simp [intOf] <;> omega
          · obtain rfl : j = 0 := by omega
            obtain ⟨X, hXe⟩ : ∃ X, t.extract 0 k = X := ⟨_, rfl⟩
            have hX9 : X.size ≤ 1000000000 := by rw [← hXe]; simp; omega
            clear j1
            go_wp2_with fail
            clear hXe
            skip
            (with_reducible refine (parse84 _ X hX9).mono ?_)
            unfold ParsePost
            rintro e w5 ⟨(⟨hpn, rfl⟩ | ⟨m, E, f, hpm, rfl, hf, hE⟩), hb5⟩
            · have HB5 := Lib.hid (below_step hB hb5)
              clear hpn hb5
              go_wp2
              go_roundw
              case rel => exact ⟨1, by first | rfl | go_num, by omega, HB5.out⟩
              case measure => simp [intOf] <;> omega
            · obtain ⟨hcm, htm⟩ := parse_sound hpm
              have HB5 := Lib.hid (below_step hB hb5)
              have HE := Lib.hid hE
              have HCm := Lib.hid hcm
              have HTm := Lib.hid htm
              clear hpm hE hcm htm hb5
              go_wp2_with fail
              (with_reducible refine (text79 _ m E f (chk_len9 HCm.out) (chk_ok9 HCm.out) HE.out).mono ?_)
              rintro e w6 ⟨rfl, hb6⟩
              have HB6 := Lib.hid (below_step HB5.out hb6)
              have HE6 := Lib.hid (Kd.C_below HE.out hb6)
              clear hb6
              rw [HTm.out]
              obtain ⟨v, hv⟩ : ∃ v : Bool, v = true ↔ m = l := (Classical.em (m = l)).elim (fun h => ⟨true, by simp [h]⟩) (fun h => ⟨false, by simp [h]⟩)
              have HVm := Lib.hid hv
              have e0 : (v == (X.toList == t.toList)) = true := same_text HCm.out HV.out hv HTm.out HT.out
              clear hv
              have eX : (X.toList != X.toList) = false := by simp
              have hm4 : m.length ≤ 4000000000000000000 := by have := chk_len9 HCm.out; omega
              go_wp2_with fail
              (with_reducible refine (same67g _ m l E f A c v HVm.out hm4 hl4 HE6.out (Kd.C_below HC.out HB6.out)).mono ?_)
              rintro e w7 ⟨rfl, hb7⟩
              have HB7 := Lib.hid (below_step HB6.out hb7)
              go_wp2
              go_roundw
              case rel => exact ⟨1, by first | rfl | go_num, by omega, HB7.out⟩
              case measure => simp [intOf] <;> omega
        · obtain rfl : j = 2 := by omega
          go_wp2_with fail
          (with_reducible refine (awake68 _).mono ?_)
          rintro e w5 ⟨rfl, hb5⟩
          go_wp2
          go_ret
          exact ⟨rfl, below_step hB hb5⟩
end Go.Proofs.Yteafilojjdfllaa
