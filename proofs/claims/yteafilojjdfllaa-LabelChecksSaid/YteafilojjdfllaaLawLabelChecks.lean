/- Own text: the law LabelChecks, walked. -/
import Derived.Test.YteafilojjdfllaaLabKit
import Derived.Test.YteafilojjdfllaaAwakeL
namespace Go.Proofs.Yteafilojjdfllaa
open Go Go.RowKit Go.Proofs.YteafilojjdfllaaW.PrintWords Go.Proofs.YteafilojjdfllaaW.PrintLast Go.Proofs.YteafilojjdfllaaW.PrintMore Go.Proofs.Yteafilojjdfllaa.PAll

set_option maxRecDepth 100000 in
set_option maxHeartbeats 8000000 in
theorem labelChecks_walk (w : World) (l : List S68) (A : Option Addr) (c : Nat) (n : ByteArray) (hc : l.length ≤ c) (hC : Kd.C k68 w A l.length l) (hl : l.length * 32 ≤ 140737488351232) (hs : ∀ x ∈ l, x.f0.size ≤ 140737488351232 ∧ x.f1.size ≤ 140737488351232) (hn : n.size ≤ 140737488351232) :
    Calls Try.prog 15 #[.slice A l.length c, .string n] w fun e w' => e = .returned (.bool true) ∧ Below w.heap.size w w' := by
  have hl4 : l.length ≤ 4000000000000000000 := by omega
  have HS := Lib.hid (fun x hx => (hs x hx).1 : ∀ x ∈ l, x.f0.size ≤ 140737488351232)
  have HC := Lib.hid hC
  clear hC hs
  obtain ⟨v1, hv1⟩ : ∃ v, chkS l = v := ⟨_, rfl⟩
  obtain ⟨v2, hv2⟩ : ∃ v, nameB n = v := ⟨_, rfl⟩
  obtain ⟨v3, hv3⟩ : ∃ v, Lb.valueL n l = v := ⟨_, rfl⟩
  have HV1 := Lib.hid hv1
  have HV2 := Lib.hid hv2
  have HV3 := Lib.hid hv3
  clear hv1 hv2 hv3
  have e1 : (v1 == v1) = true := beq_self_eq_true _
  have e2 : (v2 == v2) = true := beq_self_eq_true _
  have e3 : (v3.toList == v3.toList) = true := beq_self_eq_true _
  go_enter Try.func15, Try.ntmps15
  go_wp2_with fail
  (with_reducible refine (Lb.list56 _ A c l (by omega) hc HC.out).mono ?_)
  rintro e w1 ⟨B, d, rfl, hLF, hB1⟩
  obtain ⟨hd, hD⟩ := hLF.now
  have HD := Lib.hid hD
  clear hLF hD
  go_wp2_with fail
  (with_reducible refine (check62 _ l B d HD.out).mono ?_)
  rintro e w2 ⟨rfl, hb2⟩
  have hB2 := below_step hB1 hb2
  have HD2 := Lib.hid (Kd.C_below HD.out hb2)
  rw [HV1.out]
  go_wp2_with fail
  (with_reducible refine (check58 _ l A c hl4 HS.out (Kd.C_below HC.out hB2)).mono ?_)
  rintro e w3 ⟨rfl, hb3⟩
  have hB3 := below_step hB2 hb3
  have HD3 := Lib.hid (Kd.C_below HD2.out hb3)
  rw [HV1.out]
  go_wp2_with fail
  (with_reducible refine (name63d _ n v2 HV2.out).mono ?_)
  rintro e w4 ⟨rfl, m4, rfl⟩
  go_wp2_with fail
  (with_reducible refine (name64d _ n v2 HV2.out hn).mono ?_)
  rintro e w5 ⟨rfl, m5, rfl⟩
  have hB5 : Below w.heap.size w (w3.drewN (m4 + m5)) := pw_below_drewN hB3 _
  have HD5 := Lib.hid (Kd.C_below HD3.out (pw_below_drewN (Below.refl _ _) _ : Below w3.heap.size w3 (w3.drewN (m4 + m5))))
  go_wp2_with fail
  (with_reducible refine (Lb.value65 _ l n B d hl4 hd HD5.out).mono ?_)
  rintro e w6 ⟨rfl, hb6⟩
  have hB6 := below_step hB5 hb6
  have HD6 := Lib.hid (Kd.C_below HD5.out hb6)
  rw [HV3.out]
  go_wp2_with fail
  (with_reducible refine (Lb.value66 _ l n A c hl4 hc (Kd.C_below HC.out hB6)).mono ?_)
  rintro e w7 ⟨rfl, m7, rfl⟩
  rw [HV3.out]
  have hB7 : Below w.heap.size w (w6.drewN m7) := pw_below_drewN hB6 _
  have HD7 := Lib.hid (Kd.C_below HD6.out (pw_below_drewN (Below.refl _ _) _ : Below w6.heap.size w6 (w6.drewN m7)))
  go_wp2_with fail
  (with_reducible refine (Lb.sameLab67 _ l B d A c hl4 HD7.out (Kd.C_below HC.out hB7)).mono ?_)
  rintro e w8 ⟨rfl, hb8⟩
  have hB8 := below_step hB7 hb8
  go_wp2_with fail
  (with_reducible refine (awake68 _).mono ?_)
  rintro e w9 ⟨rfl, hb9⟩
  go_wp2
  go_ret
  exact ⟨rfl, below_step hB8 hb9⟩
end Go.Proofs.Yteafilojjdfllaa
