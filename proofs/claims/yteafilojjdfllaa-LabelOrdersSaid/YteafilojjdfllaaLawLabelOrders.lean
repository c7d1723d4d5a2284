/- Own text: the law LabelOrders, walked (written by wip/genord.py). -/
import Derived.Test.YteafilojjdfllaaLabCmp
import Derived.Test.YteafilojjdfllaaLabChkR
import Derived.Test.YteafilojjdfllaaAwakeL
namespace Go.Proofs.Yteafilojjdfllaa
open Go Go.RowKit Go.Proofs.YteafilojjdfllaaW.PrintWords Go.Proofs.YteafilojjdfllaaW.PrintLast Go.Proofs.YteafilojjdfllaaW.PrintMore Go.Proofs.Yteafilojjdfllaa.PAll

theorem chk_len {l : List S68} (h : chkS l = true) : l.length ≤ 9 := by
  unfold chkS at h
  simp only [Bool.and_eq_true, decide_eq_true_iff] at h
  omega
theorem chk_ok {l : List S68} (h : chkS l = true) : ∀ x ∈ l, okS x = true := by
  unfold chkS at h
  simp only [Bool.and_eq_true, List.all_eq_true] at h
  exact h.1.2
theorem ok_name {x : S68} (h : okS x = true) : nameB x.f0 = true := by
  unfold okS at h
  rw [Bool.and_eq_true] at h
  exact h.1
theorem text_cmp {a b : List S68} (ha : chkS a = true) (hb : chkS b = true) : ((cmpS a b == 0) == ((textB a).toList == (textB b).toList)) = true := by
  have h : (cmpS a b == 0) = ((textB a).toList == (textB b).toList) := by
    rw [Bool.eq_iff_iff, beq_iff_eq, beq_iff_eq]
    constructor
    · intro h
      rw [cmpS_eq h]
    · intro h
      have ht : textS a = textS b := by
        unfold textB at h
        rw [ByteArray.toList_eq, ByteArray.toList_eq] at h
        exact h
      rw [textS_inj a b (fun x hx => ok_name (chk_ok ha x hx)) (fun x hx => ok_name (chk_ok hb x hx)) ht]
      exact cmpS_refl b
  rw [h]; exact beq_self_eq_true _

set_option maxRecDepth 100000 in
set_option maxHeartbeats 16000000 in
theorem labelOrders_walk (w : World) (a b e3 : List S68) (A : Option Addr) (c : Nat) (B : Option Addr) (d : Nat) (E : Option Addr) (f : Nat) (hC : Kd.C k68 w A a.length a) (hD : Kd.C k68 w B b.length b) (hE : Kd.C k68 w E e3.length e3) (hla : a.length * 32 ≤ 140737488351232) (hlb : b.length * 32 ≤ 140737488351232) (hle : e3.length * 32 ≤ 140737488351232) (hs : ∀ x ∈ a, x.f0.size ≤ 140737488351232 ∧ x.f1.size ≤ 140737488351232) (ht : ∀ x ∈ b, x.f0.size ≤ 140737488351232 ∧ x.f1.size ≤ 140737488351232) :
    Calls Try.prog 21 #[.slice A a.length c, .slice B b.length d, .slice E e3.length f] w fun e w' => e = .returned (.bool true) ∧ Below w.heap.size w w' := by
  have ha4 : a.length ≤ 4000000000000000000 := by omega
  have hb4 : b.length ≤ 4000000000000000000 := by omega
  have he4 : e3.length ≤ 4000000000000000000 := by omega
  have hCa := Lib.hid hC
  have hDb := Lib.hid hD
  have hEe := Lib.hid hE
  have HS := Lib.hid (fun x hx => (hs x hx).1 : ∀ x ∈ a, x.f0.size ≤ 140737488351232)
  have HT := Lib.hid (fun x hx => (ht x hx).1 : ∀ x ∈ b, x.f0.size ≤ 140737488351232)
  clear hC hD hE hs ht
  have hle3 := cmpS_le a b e3
  obtain ⟨p, hp⟩ : ∃ p, cmpS a b = p := ⟨_, rfl⟩
  obtain ⟨q, hq⟩ : ∃ q, cmpS b e3 = q := ⟨_, rfl⟩
  obtain ⟨r, hr⟩ : ∃ r, cmpS a e3 = r := ⟨_, rfl⟩
  rw [hp, hq, hr] at hle3
  have HP := Lib.hid hp
  have HQ := Lib.hid hq
  have HR := Lib.hid hr
  have HL := Lib.hid hle3
  clear hp hq hr hle3
  go_enter Try.func21, Try.ntmps21
  go_wp2_with fail
  (with_reducible refine (cmp77 _ a b A c B d p ha4 hb4 hCa.out hDb.out HP.out).mono ?_)
  rintro e w1 ⟨rfl, hB1⟩
  by_cases p0 : p ≤ 0
  · go_wp2_with fail
    (with_reducible refine (cmp77 _ b e3 B d E f q hb4 he4 (Kd.C_below hDb.out hB1) (Kd.C_below hEe.out hB1) HQ.out).mono ?_)
    rintro e w2 ⟨rfl, hb2⟩
    have hB2 := below_step hB1 hb2
    by_cases q0 : q ≤ 0
    · have r0 := HL.out p0 q0
      go_wp2_with fail
      (with_reducible refine (cmp77 _ a e3 A c E f r ha4 he4 (Kd.C_below hCa.out hB2) (Kd.C_below hEe.out hB2) HR.out).mono ?_)
      rintro e w3 ⟨rfl, hb3⟩
      have hB3 := below_step hB2 hb3
      go_wp2_with fail
      (with_reducible refine (check58 _ a A c ha4 HS.out (Kd.C_below hCa.out hB3)).mono ?_)
      rintro e y1 ⟨rfl, gb1⟩
      have gB1 := below_step hB3 gb1
      cases hv : chkS a with
      | false =>
        clear hv
        go_wp2_with fail
        (with_reducible refine (awake68 _).mono ?_)
        rintro e y2 ⟨rfl, gb2⟩
        go_wp2
        go_ret
        exact ⟨rfl, below_step gB1 gb2⟩
      | true =>
        have HVa := Lib.hid hv
        clear hv
        go_wp2_with fail
        (with_reducible refine (check58 _ b B d hb4 HT.out (Kd.C_below hDb.out gB1)).mono ?_)
        rintro e y2 ⟨rfl, gb2⟩
        have gB2 := below_step gB1 gb2
        cases hv : chkS b with
        | false =>
          clear hv
          go_wp2_with fail
          (with_reducible refine (awake68 _).mono ?_)
          rintro e y3 ⟨rfl, gb3⟩
          go_wp2
          go_ret
          exact ⟨rfl, below_step gB2 gb3⟩
        | true =>
          have HVb := Lib.hid hv
          clear hv
          have e0 := text_cmp HVa.out HVb.out
          rw [HP.out] at e0
          obtain ⟨ta, hta⟩ : ∃ t, textB a = t := ⟨_, rfl⟩
          obtain ⟨tb, htb⟩ : ∃ t, textB b = t := ⟨_, rfl⟩
          rw [hta, htb] at e0
          have HTa := Lib.hid hta
          have HTb := Lib.hid htb
          clear hta htb
          go_wp2_with fail
          (with_reducible refine (cmp77 _ a b A c B d p ha4 hb4 (Kd.C_below hCa.out gB2) (Kd.C_below hDb.out gB2) HP.out).mono ?_)
          rintro e y3 ⟨rfl, gb3⟩
          have gB3 := below_step gB2 gb3
          go_wp2_with fail
          (with_reducible refine (text79 _ a A c (chk_len HVa.out) (chk_ok HVa.out) (Kd.C_below hCa.out gB3)).mono ?_)
          rintro e y4 ⟨rfl, gb4⟩
          have gB4 := below_step gB3 gb4
          rw [HTa.out]
          go_wp2_with fail
          (with_reducible refine (text79 _ b B d (chk_len HVb.out) (chk_ok HVb.out) (Kd.C_below hDb.out gB4)).mono ?_)
          rintro e y5 ⟨rfl, gb5⟩
          have gB5 := below_step gB4 gb5
          rw [HTb.out]
          go_wp2_with fail
          (with_reducible refine (awake68 _).mono ?_)
          rintro e y6 ⟨rfl, gb6⟩
          go_wp2
          go_ret
          exact ⟨rfl, below_step gB5 gb6⟩
    ·
      go_wp2_with fail
      (with_reducible refine (check58 _ a A c ha4 HS.out (Kd.C_below hCa.out hB2)).mono ?_)
      rintro e y1 ⟨rfl, gb1⟩
      have gB1 := below_step hB2 gb1
      cases hv : chkS a with
      | false =>
        clear hv
        go_wp2_with fail
        (with_reducible refine (awake68 _).mono ?_)
        rintro e y2 ⟨rfl, gb2⟩
        go_wp2
        go_ret
        exact ⟨rfl, below_step gB1 gb2⟩
      | true =>
        have HVa := Lib.hid hv
        clear hv
        go_wp2_with fail
        (with_reducible refine (check58 _ b B d hb4 HT.out (Kd.C_below hDb.out gB1)).mono ?_)
        rintro e y2 ⟨rfl, gb2⟩
        have gB2 := below_step gB1 gb2
        cases hv : chkS b with
        | false =>
          clear hv
          go_wp2_with fail
          (with_reducible refine (awake68 _).mono ?_)
          rintro e y3 ⟨rfl, gb3⟩
          go_wp2
          go_ret
          exact ⟨rfl, below_step gB2 gb3⟩
        | true =>
          have HVb := Lib.hid hv
          clear hv
          have e0 := text_cmp HVa.out HVb.out
          rw [HP.out] at e0
          obtain ⟨ta, hta⟩ : ∃ t, textB a = t := ⟨_, rfl⟩
          obtain ⟨tb, htb⟩ : ∃ t, textB b = t := ⟨_, rfl⟩
          rw [hta, htb] at e0
          have HTa := Lib.hid hta
          have HTb := Lib.hid htb
          clear hta htb
          go_wp2_with fail
          (with_reducible refine (cmp77 _ a b A c B d p ha4 hb4 (Kd.C_below hCa.out gB2) (Kd.C_below hDb.out gB2) HP.out).mono ?_)
          rintro e y3 ⟨rfl, gb3⟩
          have gB3 := below_step gB2 gb3
          go_wp2_with fail
          (with_reducible refine (text79 _ a A c (chk_len HVa.out) (chk_ok HVa.out) (Kd.C_below hCa.out gB3)).mono ?_)
          rintro e y4 ⟨rfl, gb4⟩
          have gB4 := below_step gB3 gb4
          rw [HTa.out]
          go_wp2_with fail
          (with_reducible refine (text79 _ b B d (chk_len HVb.out) (chk_ok HVb.out) (Kd.C_below hDb.out gB4)).mono ?_)
          rintro e y5 ⟨rfl, gb5⟩
          have gB5 := below_step gB4 gb5
          rw [HTb.out]
          go_wp2_with fail
          (with_reducible refine (awake68 _).mono ?_)
          rintro e y6 ⟨rfl, gb6⟩
          go_wp2
          go_ret
          exact ⟨rfl, below_step gB5 gb6⟩
  ·
    go_wp2_with fail
    (with_reducible refine (check58 _ a A c ha4 HS.out (Kd.C_below hCa.out hB1)).mono ?_)
    rintro e y1 ⟨rfl, gb1⟩
    have gB1 := below_step hB1 gb1
    cases hv : chkS a with
    | false =>
      clear hv
      go_wp2_with fail
      (with_reducible refine (awake68 _).mono ?_)
      rintro e y2 ⟨rfl, gb2⟩
      go_wp2
      go_ret
      exact ⟨rfl, below_step gB1 gb2⟩
    | true =>
      have HVa := Lib.hid hv
      clear hv
      go_wp2_with fail
      (with_reducible refine (check58 _ b B d hb4 HT.out (Kd.C_below hDb.out gB1)).mono ?_)
      rintro e y2 ⟨rfl, gb2⟩
      have gB2 := below_step gB1 gb2
      cases hv : chkS b with
      | false =>
        clear hv
        go_wp2_with fail
        (with_reducible refine (awake68 _).mono ?_)
        rintro e y3 ⟨rfl, gb3⟩
        go_wp2
        go_ret
        exact ⟨rfl, below_step gB2 gb3⟩
      | true =>
        have HVb := Lib.hid hv
        clear hv
        have e0 := text_cmp HVa.out HVb.out
        rw [HP.out] at e0
        obtain ⟨ta, hta⟩ : ∃ t, textB a = t := ⟨_, rfl⟩
        obtain ⟨tb, htb⟩ : ∃ t, textB b = t := ⟨_, rfl⟩
        rw [hta, htb] at e0
        have HTa := Lib.hid hta
        have HTb := Lib.hid htb
        clear hta htb
        go_wp2_with fail
        (with_reducible refine (cmp77 _ a b A c B d p ha4 hb4 (Kd.C_below hCa.out gB2) (Kd.C_below hDb.out gB2) HP.out).mono ?_)
        rintro e y3 ⟨rfl, gb3⟩
        have gB3 := below_step gB2 gb3
        go_wp2_with fail
        (with_reducible refine (text79 _ a A c (chk_len HVa.out) (chk_ok HVa.out) (Kd.C_below hCa.out gB3)).mono ?_)
        rintro e y4 ⟨rfl, gb4⟩
        have gB4 := below_step gB3 gb4
        rw [HTa.out]
        go_wp2_with fail
        (with_reducible refine (text79 _ b B d (chk_len HVb.out) (chk_ok HVb.out) (Kd.C_below hDb.out gB4)).mono ?_)
        rintro e y5 ⟨rfl, gb5⟩
        have gB5 := below_step gB4 gb5
        rw [HTb.out]
        go_wp2_with fail
        (with_reducible refine (awake68 _).mono ?_)
        rintro e y6 ⟨rfl, gb6⟩
        go_wp2
        go_ret
        exact ⟨rfl, below_step gB5 gb6⟩
end Go.Proofs.Yteafilojjdfllaa
