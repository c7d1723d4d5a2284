/- Own text: the law LabelTexts, walked. -/
import Derived.Test.YteafilojjdfllaaLabKit
import Derived.Test.YteafilojjdfllaaParse84
import Derived.Test.YteafilojjdfllaaQuotR
import Derived.Test.YteafilojjdfllaaAwakeL
namespace Go.Proofs.Yteafilojjdfllaa
open Go Go.RowKit Go.Proofs.YteafilojjdfllaaW.PrintWords Go.Proofs.YteafilojjdfllaaW.PrintLast Go.Proofs.YteafilojjdfllaaW.PrintMore Go.Proofs.Yteafilojjdfllaa.PAll
set_option linter.unusedVariables false

theorem textB_size {l : List S68} (h : chkS l = true) : (textB l).size ≤ 1000000000 := by
  have h1 := textS_len l (chk_ok9 h) (chk_len9 h)
  have hs : (textB l).size = (textS l).length := by unfold textB; simp [ByteArray.size]
  omega
theorem parse84t (w : World) (l : List S68) (h : chkS l = true) (t : ByteArray) (ht : textB l = t) :
    Calls Try.prog 84 #[.string t] w fun e w' => (∃ A c, e = .returned (.tuple #[.slice A l.length c, .int .i64 0]) ∧ l.length ≤ c ∧ Kd.C k68 w' A l.length l) ∧ Below w.heap.size w w' := by
  subst ht
  refine (parse84 w (textB l) (textB_size h)).mono ?_
  rintro e w' ⟨hp, hb⟩
  refine ⟨?_, hb⟩
  rcases hp with ⟨hn, _⟩ | ⟨m, A, c, hm, he, hc, hC⟩
  · rw [parse_text h] at hn; cases hn
  · rw [parse_text h] at hm; cases hm
    exact ⟨A, c, he, hc, hC⟩
set_option maxRecDepth 100000 in
set_option maxHeartbeats 8000000 in
theorem labelTexts_walk (w : World) (l : List S68) (A : Option Addr) (c : Nat) (hc : l.length ≤ c) (hC : Kd.C k68 w A l.length l) (hl : l.length * 32 ≤ 140737488351232) (hs : ∀ x ∈ l, x.f0.size ≤ 140737488351232 ∧ x.f1.size ≤ 140737488351232) :
    Calls Try.prog 24 #[.slice A l.length c] w fun e w' => e = .returned (.bool true) ∧ Below w.heap.size w w' := by
  have hl4 : l.length ≤ 4000000000000000000 := by omega
  have HS := Lib.hid (fun x hx => (hs x hx).1 : ∀ x ∈ l, x.f0.size ≤ 140737488351232)
  have HC := Lib.hid hC
  clear hC hs
  go_enter Try.func24, Try.ntmps24
  go_wp2_with fail
  (with_reducible refine (check58 _ l A c hl4 HS.out HC.out).mono ?_)
  rintro e w1 ⟨rfl, hB1⟩
  cases hv : chkS l with
  | false =>
    go_wp2_with fail
    (with_reducible refine (awake68 _).mono ?_)
    rintro e w2 ⟨rfl, hb2⟩
    go_wp2
    go_ret
    exact ⟨rfl, below_step hB1 hb2⟩
  | true =>
    have HV := Lib.hid hv
    clear hv
    obtain ⟨t, ht⟩ : ∃ t, textB l = t := ⟨_, rfl⟩
    have HT := Lib.hid ht
    clear ht
    have e0 : (t.toList == t.toList) = true := beq_self_eq_true _
    go_wp2_with fail
    (with_reducible refine (Lb.list56 _ A c l (by omega) hc (Kd.C_below HC.out hB1)).mono ?_)
    rintro e w2 ⟨B, d, rfl, hLF, hb2⟩
    have HD := Lib.hid hLF.now.2
    have hB2 := below_step hB1 hb2
    clear hLF hb2
    go_wp2_with fail
    (with_reducible refine (text79 _ l B d (chk_len9 HV.out) (chk_ok9 HV.out) HD.out).mono ?_)
    rintro e w3 ⟨rfl, hb3⟩
    have hB3 := below_step hB2 hb3
    rw [HT.out]
    go_wp2_with fail
    (with_reducible refine (parse84t _ l HV.out t HT.out).mono ?_)
    rintro e w4 ⟨⟨E, f, rfl, hf, hE⟩, hb4⟩
    have hB4 := below_step hB3 hb4
    have HE := Lib.hid hE
    clear hE
    go_wp2_with fail
    (with_reducible refine (text85 _ l A c (chk_len9 HV.out) (chk_ok9 HV.out) (Kd.C_below HC.out hB4)).mono ?_)
    rintro e w5 ⟨rfl, hb5⟩
    have hB5 := below_step hB4 hb5
    rw [HT.out]
    go_wp2_with fail
    (with_reducible refine (Lb.sameLab67 _ l E f A c hl4 (Kd.C_below HE.out hb5) (Kd.C_below HC.out hB5)).mono ?_)
    rintro e w6 ⟨rfl, hb6⟩
    have hB6 := below_step hB5 hb6
    go_wp2_with fail
    (with_reducible refine (awake68 _).mono ?_)
    rintro e w7 ⟨rfl, hb7⟩
    go_wp2
    go_ret
    exact ⟨rfl, below_step hB6 hb7⟩
end Go.Proofs.Yteafilojjdfllaa
