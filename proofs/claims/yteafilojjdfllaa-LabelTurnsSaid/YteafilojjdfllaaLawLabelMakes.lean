/- Own text: the law LabelMakes, walked. -/
import Derived.Test.YteafilojjdfllaaMakeR
import Derived.Test.YteafilojjdfllaaAwakeL
namespace Go.Proofs.Yteafilojjdfllaa
open Go Go.RowKit Go.Proofs.YteafilojjdfllaaW.PrintWords Go.Proofs.YteafilojjdfllaaW.PrintLast Go.Proofs.YteafilojjdfllaaW.PrintMore Go.Proofs.Yteafilojjdfllaa.PAll
set_option linter.unusedVariables false

theorem make69n (w : World) (l : List S68) (A : Option Addr) (c : Nat) (hl : l.length ≤ 1000) (hn : makeS l = none) (hC : Kd.C k68 w A l.length l) :
    Calls Try.prog 69 #[.slice A l.length c] w fun e w' => e = .returned (.tuple #[.slice none 0 0, .int .i64 5]) ∧ Below w.heap.size w w' := by
  have h := make69 w l A c hl hC
  rw [hn] at h
  exact h
theorem make69y (w : World) (l x : List S68) (A : Option Addr) (c : Nat) (hl : l.length ≤ 1000) (hn : makeS l = some x) (hC : Kd.C k68 w A l.length l) :
    Calls Try.prog 69 #[.slice A l.length c] w fun e w' => (∃ B d, e = .returned (.tuple #[.slice B x.length d, .int .i64 0]) ∧ x.length ≤ d ∧ Kd.C k68 w' B x.length x) ∧ Below w.heap.size w w' := by
  have h := make69 w l A c hl hC
  rw [hn] at h
  exact h
theorem make70n (w : World) (l : List S68) (A : Option Addr) (c : Nat) (hl : l.length ≤ 1000000) (hS : ∀ x ∈ l, x.f0.size ≤ 140737488351232) (hn : makeS l = none) (hC : Kd.C k68 w A l.length l) :
    Calls Try.prog 70 #[.slice A l.length c] w fun e w' => e = .returned (.tuple #[.slice none 0 0, .bool false]) ∧ Below w.heap.size w w' := by
  have h := make70 w l A c hl hS hC
  rw [hn] at h
  exact h
theorem make70y (w : World) (l x : List S68) (A : Option Addr) (c : Nat) (hl : l.length ≤ 1000000) (hS : ∀ x ∈ l, x.f0.size ≤ 140737488351232) (hn : makeS l = some x) (hC : Kd.C k68 w A l.length l) :
    Calls Try.prog 70 #[.slice A l.length c] w fun e w' => (∃ B d, e = .returned (.tuple #[.slice B x.length d, .bool true]) ∧ x.length ≤ d ∧ Kd.C k68 w' B x.length x) ∧ Below w.heap.size w w' := by
  have h := make70 w l A c hl hS hC
  rw [hn] at h
  exact h
set_option maxRecDepth 100000 in
set_option maxHeartbeats 8000000 in
theorem labelMakes_walk (w : World) (l : List S68) (A : Option Addr) (c : Nat) (hc : l.length ≤ c) (hC : Kd.C k68 w A l.length l) (hl : l.length * 32 ≤ 140737488351232) (hs : ∀ x ∈ l, x.f0.size ≤ 140737488351232 ∧ x.f1.size ≤ 140737488351232) :
    Calls Try.prog 16 #[.slice A l.length c] w fun e w' => e = .returned (.bool true) ∧ Below w.heap.size w w' := by
  have HS := Lib.hid (fun x hx => (hs x hx).1 : ∀ x ∈ l, x.f0.size ≤ 140737488351232)
  have HC := Lib.hid hC
  clear hC hs
  by_cases h100 : l.length ≤ 100
  · have d1 : ¬ (100 : Int) < (l.length : Int) := by omega
    have hl4 : l.length ≤ 4000000000000000000 := by omega
    cases hm : makeS l with
    | none =>
      have HM := Lib.hid hm
      clear hm
      go_enter Try.func16, Try.ntmps16
      go_wp2_with fail
      (with_reducible refine (Lb.list56 _ A c l (by omega) hc HC.out).mono ?_)
      rintro e w1 ⟨B, d, rfl, hLF, hB1⟩
      have HD := Lib.hid hLF.now.2
      clear hLF
      go_wp2_with fail
      (with_reducible refine (make69n _ l B d (by omega) HM.out HD.out).mono ?_)
      rintro e w2 ⟨rfl, hb2⟩
      have hB2 := below_step hB1 hb2
      go_wp2_with fail
      (with_reducible refine (make70n _ l A c (by omega) HS.out HM.out (Kd.C_below HC.out hB2)).mono ?_)
      rintro e w3 ⟨rfl, hb3⟩
      have hB3 := below_step hB2 hb3
      have hD3 := Kd.C_below (Kd.C_below HD.out hb2) hb3
      go_wp2_with fail
      (with_reducible refine (Lb.sameLab67 _ l B d A c hl4 hD3 (Kd.C_below HC.out hB3)).mono ?_)
      rintro e w4 ⟨rfl, hb4⟩
      have hB4 := below_step hB3 hb4
      go_wp2_with fail
      (with_reducible refine (awake68 _).mono ?_)
      rintro e w5 ⟨rfl, hb5⟩
      go_wp2
      go_ret
      exact ⟨rfl, below_step hB4 hb5⟩
    | some x =>
      have HM := Lib.hid hm
      have hx8 : x.length ≤ 9 := by have := (chkS_iff x).1 (chk_make hm); omega
      have hx4 : x.length ≤ 4000000000000000000 := by omega
      clear hm
      go_enter Try.func16, Try.ntmps16
      go_wp2_with fail
      (with_reducible refine (Lb.list56 _ A c l (by omega) hc HC.out).mono ?_)
      rintro e w1 ⟨B, d, rfl, hLF, hB1⟩
      have HD := Lib.hid hLF.now.2
      clear hLF
      go_wp2_with fail
      (with_reducible refine (make69y _ l x B d (by omega) HM.out HD.out).mono ?_)
      rintro e w2 ⟨⟨E, f, rfl, hf, hE⟩, hb2⟩
      have HE := Lib.hid hE
      clear hE
      have hB2 := below_step hB1 hb2
      go_wp2_with fail
      (with_reducible refine (make70y _ l x A c (by omega) HS.out HM.out (Kd.C_below HC.out hB2)).mono ?_)
      rintro e w3 ⟨⟨G, g, rfl, hg, hG⟩, hb3⟩
      have HG := Lib.hid hG
      clear hG
      have hB3 := below_step hB2 hb3
      have HD3 := Lib.hid (Kd.C_below (Kd.C_below HD.out hb2) hb3)
      go_wp2_with fail
      (with_reducible refine (Lb.sameLab67 _ x E f G g hx4 (Kd.C_below HE.out hb3) HG.out).mono ?_)
      rintro e w4 ⟨rfl, hb4⟩
      have hB4 := below_step hB3 hb4
      go_wp2_with fail
      (with_reducible refine (Lb.sameLab67 _ l B d A c hl4 (Kd.C_below HD3.out hb4) (Kd.C_below HC.out hB4)).mono ?_)
      rintro e w5 ⟨rfl, hb5⟩
      have hB5 := below_step hB4 hb5
      go_wp2_with fail
      (with_reducible refine (awake68 _).mono ?_)
      rintro e w6 ⟨rfl, hb6⟩
      go_wp2
      go_ret
      exact ⟨rfl, below_step hB5 hb6⟩
  · have d1 : (100 : Int) < (l.length : Int) := by omega
    go_enter Try.func16, Try.ntmps16
    go_wp2_with fail
    (with_reducible refine (awake68 _).mono ?_)
    rintro e w2 ⟨rfl, hb2⟩
    go_wp2
    go_ret
    exact ⟨rfl, hb2⟩
end Go.Proofs.Yteafilojjdfllaa
