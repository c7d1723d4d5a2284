/- Own text: the law LabelCmps, walked (written by wip/gencmps.py). -/
import Derived.Test.YteafilojjdfllaaLabKit
import Derived.Test.YteafilojjdfllaaLabCmpR
import Derived.Test.YteafilojjdfllaaAwakeL
namespace Go.Proofs.Yteafilojjdfllaa
open Go Go.RowKit Go.Proofs.YteafilojjdfllaaW.PrintWords Go.Proofs.YteafilojjdfllaaW.PrintLast Go.Proofs.YteafilojjdfllaaW.PrintMore Go.Proofs.Yteafilojjdfllaa.PAll

set_option maxRecDepth 100000 in
set_option maxHeartbeats 8000000 in
theorem labelCmps_walk (w : World) (a b : List S68) (A : Option Addr) (c : Nat) (B : Option Addr) (d : Nat) (hc : a.length ≤ c) (hd : b.length ≤ d) (hC : Kd.C k68 w A a.length a) (hD : Kd.C k68 w B b.length b) (hla : a.length * 32 ≤ 140737488351232) (hlb : b.length * 32 ≤ 140737488351232) :
    Calls Try.prog 20 #[.slice A a.length c, .slice B b.length d] w fun e w' => e = .returned (.bool true) ∧ Below w.heap.size w w' := by
  have ha4 : a.length ≤ 4000000000000000000 := by omega
  have hb4 : b.length ≤ 4000000000000000000 := by omega
  have hCa := Lib.hid hC
  have hDb := Lib.hid hD
  clear hC hD
  have hs := Lib.hid (cmpS_refl a)
  have hn := cmpS_neg a b
  rcases cmpS_tri a b with h | h | h <;> rw [h] at hn <;> have H := Lib.hid h <;> have HN := Lib.hid hn <;> clear h hn
  · go_enter Try.func20, Try.ntmps20
    go_wp2_with fail
    (with_reducible refine (Lb.list56 _ A c a (by omega) hc hCa.out).mono ?_)
    rintro e w1 ⟨A1, c1, rfl, hLF, hB1⟩
    have HF1 := Lib.hid hLF.now.2
    clear hLF
    go_wp2_with fail
    (with_reducible refine (Lb.list56 _ B d b (by omega) hd (Kd.C_below hDb.out hB1)).mono ?_)
    rintro e w2 ⟨B1, d1, rfl, hLF2, hb2⟩
    have HF2 := Lib.hid hLF2.now.2
    have HF1' := Lib.hid (Kd.C_below HF1.out hb2)
    have hB2 := below_step hB1 hb2
    clear hLF2 hb2
    go_wp2_with fail
    (with_reducible refine (cmp77 _ a b A1 c1 B1 d1 (-1) ha4 hb4 HF1'.out HF2.out H.out).mono ?_)
    rintro e w3 ⟨rfl, hb3⟩
    have hB3 := below_step hB2 hb3
    go_wp2_with fail
    (with_reducible refine (cmp78 _ a b A c B d (-1) ha4 hb4 (Kd.C_below hCa.out hB3) (Kd.C_below hDb.out hB3) H.out).mono ?_)
    rintro e w4 ⟨rfl, hb4'⟩
    have hB4 := below_step hB3 hb4'
    go_wp2_with fail
    (with_reducible refine (cmp77 _ b a B d A c 1 hb4 ha4 (Kd.C_below hDb.out hB4) (Kd.C_below hCa.out hB4) (HN.out.trans (by decide))).mono ?_)
    rintro e w5 ⟨rfl, hb5⟩
    have hB5 := below_step hB4 hb5
    go_wp2_with fail
    (with_reducible refine (cmp77 _ a a A c A c 0 ha4 ha4 (Kd.C_below hCa.out hB5) (Kd.C_below hCa.out hB5) hs.out).mono ?_)
    rintro e w6 ⟨rfl, hb6⟩
    have hB6 := below_step hB5 hb6
    go_wp2_with fail
    (with_reducible refine (awake68 _).mono ?_)
    rintro e w7 ⟨rfl, hb7⟩
    go_wp2
    go_ret
    exact ⟨rfl, below_step hB6 hb7⟩
  · go_enter Try.func20, Try.ntmps20
    go_wp2_with fail
    (with_reducible refine (Lb.list56 _ A c a (by omega) hc hCa.out).mono ?_)
    rintro e w1 ⟨A1, c1, rfl, hLF, hB1⟩
    have HF1 := Lib.hid hLF.now.2
    clear hLF
    go_wp2_with fail
    (with_reducible refine (Lb.list56 _ B d b (by omega) hd (Kd.C_below hDb.out hB1)).mono ?_)
    rintro e w2 ⟨B1, d1, rfl, hLF2, hb2⟩
    have HF2 := Lib.hid hLF2.now.2
    have HF1' := Lib.hid (Kd.C_below HF1.out hb2)
    have hB2 := below_step hB1 hb2
    clear hLF2 hb2
    go_wp2_with fail
    (with_reducible refine (cmp77 _ a b A1 c1 B1 d1 0 ha4 hb4 HF1'.out HF2.out H.out).mono ?_)
    rintro e w3 ⟨rfl, hb3⟩
    have hB3 := below_step hB2 hb3
    go_wp2_with fail
    (with_reducible refine (cmp78 _ a b A c B d 0 ha4 hb4 (Kd.C_below hCa.out hB3) (Kd.C_below hDb.out hB3) H.out).mono ?_)
    rintro e w4 ⟨rfl, hb4'⟩
    have hB4 := below_step hB3 hb4'
    go_wp2_with fail
    (with_reducible refine (cmp77 _ b a B d A c 0 hb4 ha4 (Kd.C_below hDb.out hB4) (Kd.C_below hCa.out hB4) (HN.out.trans (by decide))).mono ?_)
    rintro e w5 ⟨rfl, hb5⟩
    have hB5 := below_step hB4 hb5
    go_wp2_with fail
    (with_reducible refine (cmp77 _ a a A c A c 0 ha4 ha4 (Kd.C_below hCa.out hB5) (Kd.C_below hCa.out hB5) hs.out).mono ?_)
    rintro e w6 ⟨rfl, hb6⟩
    have hB6 := below_step hB5 hb6
    go_wp2_with fail
    (with_reducible refine (awake68 _).mono ?_)
    rintro e w7 ⟨rfl, hb7⟩
    go_wp2
    go_ret
    exact ⟨rfl, below_step hB6 hb7⟩
  · go_enter Try.func20, Try.ntmps20
    go_wp2_with fail
    (with_reducible refine (Lb.list56 _ A c a (by omega) hc hCa.out).mono ?_)
    rintro e w1 ⟨A1, c1, rfl, hLF, hB1⟩
    have HF1 := Lib.hid hLF.now.2
    clear hLF
    go_wp2_with fail
    (with_reducible refine (Lb.list56 _ B d b (by omega) hd (Kd.C_below hDb.out hB1)).mono ?_)
    rintro e w2 ⟨B1, d1, rfl, hLF2, hb2⟩
    have HF2 := Lib.hid hLF2.now.2
    have HF1' := Lib.hid (Kd.C_below HF1.out hb2)
    have hB2 := below_step hB1 hb2
    clear hLF2 hb2
    go_wp2_with fail
    (with_reducible refine (cmp77 _ a b A1 c1 B1 d1 1 ha4 hb4 HF1'.out HF2.out H.out).mono ?_)
    rintro e w3 ⟨rfl, hb3⟩
    have hB3 := below_step hB2 hb3
    go_wp2_with fail
    (with_reducible refine (cmp78 _ a b A c B d 1 ha4 hb4 (Kd.C_below hCa.out hB3) (Kd.C_below hDb.out hB3) H.out).mono ?_)
    rintro e w4 ⟨rfl, hb4'⟩
    have hB4 := below_step hB3 hb4'
    go_wp2_with fail
    (with_reducible refine (cmp77 _ b a B d A c (-1) hb4 ha4 (Kd.C_below hDb.out hB4) (Kd.C_below hCa.out hB4) (HN.out.trans (by decide))).mono ?_)
    rintro e w5 ⟨rfl, hb5⟩
    have hB5 := below_step hB4 hb5
    go_wp2_with fail
    (with_reducible refine (cmp77 _ a a A c A c 0 ha4 ha4 (Kd.C_below hCa.out hB5) (Kd.C_below hCa.out hB5) hs.out).mono ?_)
    rintro e w6 ⟨rfl, hb6⟩
    have hB6 := below_step hB5 hb6
    go_wp2_with fail
    (with_reducible refine (awake68 _).mono ?_)
    rintro e w7 ⟨rfl, hb7⟩
    go_wp2
    go_ret
    exact ⟨rfl, below_step hB6 hb7⟩
end Go.Proofs.Yteafilojjdfllaa
