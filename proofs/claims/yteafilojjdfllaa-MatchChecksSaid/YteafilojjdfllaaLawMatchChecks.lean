/- Own text: the law MatchChecks, walked. -/
import Derived.Test.YteafilojjdfllaaMLawA
namespace Go.Proofs.Yteafilojjdfllaa
open Go Go.RowKit Go.Proofs.YteafilojjdfllaaW.PrintWords Go.Proofs.YteafilojjdfllaaW.PrintLast Go.Proofs.YteafilojjdfllaaW.PrintMore Go.Proofs.Yteafilojjdfllaa.PAll
set_option linter.unusedSimpArgs false

set_option maxRecDepth 100000 in
set_option maxHeartbeats 4000000 in
theorem matchChecks_walk (w : World) (m : S25) (A3 : Option Addr) (c3 : Nat) (A4 : Option Addr) (c4 : Nat) (hM : MC w m A3 c3 A4 c4) :
    Calls Try.prog 9 #[.agg #[.int .i64 m.f0, .string m.f1, .string m.f2, .slice A3 m.f3.length c3, .slice A4 m.f4.length c4]] w fun e w' => e = .returned (.bool true) ∧ Below w.heap.size w w' := by
  have hK0 := KM.new w m (.slice A3 m.f3.length c3) (.slice A4 m.f4.length c4)
  go_enter Try.func9, Try.ntmps9
  go_wp2_with fail
  (with_reducible refine (m31 hK0 hM).mono ?_)
  rintro e w1 ⟨⟨v, rfl, htn⟩, hk, -, e0, e1, e2, e3, e4⟩
  clear hK0
  cases v with
  | false =>
    go_wp2_with fail
    (with_reducible refine (m52 hk).mono ?_)
    rintro e w9 ⟨rfl, hk, -⟩
    go_wp2_with fail
    go_ret
    exact ⟨rfl, hk.bel⟩
  | true =>
    have HT := Lib.hid (htn rfl)
    clear htn
    replace hk := hk.drew
    obtain ⟨e0, e1, e2, e3, e4⟩ := hk.cells
    cases hc : chkB m with
    | false =>
      have HC := Lib.hid hc
      clear hc
      go_wp2_with fail
      go_region_held3 (fun w' => w'.cell? ⟨w.heap.size, 0, none⟩ = some (.int .i64 m.f0) ∧ w'.cell? ⟨w.heap.size, 1, none⟩ = some (.string m.f1) ∧ w'.cell? ⟨w.heap.size, 2, none⟩ = some (.string m.f2) ∧ w'.cell? ⟨w.heap.size, 3, none⟩ = some (.slice A3 m.f3.length c3) ∧ w'.cell? ⟨w.heap.size, 4, none⟩ = some (.slice A4 m.f4.length c4) ∧ KM w w' m (.slice A3 m.f3.length c3) (.slice A4 m.f4.length c4))
        (first | exact ⟨by assumption, by assumption, by assumption, by assumption, by assumption, by assumption⟩)
        (first | (go_at_call 54; (with_reducible refine (m54 (by assumption) HT.out hM).mono ?_); rintro e w54 ⟨⟨D3, d3, D4, d4, rfl, hMC⟩, hk, hb54, e0, e1, e2, e3, e4⟩) | (go_at_call 53; (with_reducible refine (m53 HC.out (by assumption) hMC).mono ?_); rintro e w53 ⟨rfl, hk, hb53, e0, e1, e2, e3, e4⟩) | (go_at_call 36; (with_reducible refine (m36 HC.out (by assumption) HT.out hM).mono ?_); rintro e w36 ⟨rfl, hk, hb36, e0, e1, e2, e3, e4⟩) | (go_at_call 52; (with_reducible refine (m52 (by assumption)).mono ?_); rintro e w52 ⟨rfl, hk, hb52, e0, e1, e2, e3, e4⟩))
      rename_i hS
      have hbel := hS.2.2.2.2.2.bel
      clear hS
      go_wp2_with fail
      go_ret
      exact ⟨rfl, hbel⟩
    | true =>
      have HC := Lib.hid hc
      clear hc
      go_wp2_with fail
      go_region_held3 (fun w' => w'.cell? ⟨w.heap.size, 0, none⟩ = some (.int .i64 m.f0) ∧ w'.cell? ⟨w.heap.size, 1, none⟩ = some (.string m.f1) ∧ w'.cell? ⟨w.heap.size, 2, none⟩ = some (.string m.f2) ∧ w'.cell? ⟨w.heap.size, 3, none⟩ = some (.slice A3 m.f3.length c3) ∧ w'.cell? ⟨w.heap.size, 4, none⟩ = some (.slice A4 m.f4.length c4) ∧ KM w w' m (.slice A3 m.f3.length c3) (.slice A4 m.f4.length c4))
        (first | exact ⟨by assumption, by assumption, by assumption, by assumption, by assumption, by assumption⟩)
        (first | (go_at_call 54; (with_reducible refine (m54 (by assumption) HT.out hM).mono ?_); rintro e w54 ⟨⟨D3, d3, D4, d4, rfl, hMC⟩, hk, hb54, e0, e1, e2, e3, e4⟩) | (go_at_call 53; (with_reducible refine (m53 HC.out (by assumption) hMC).mono ?_); rintro e w53 ⟨rfl, hk, hb53, e0, e1, e2, e3, e4⟩) | (go_at_call 36; (with_reducible refine (m36 HC.out (by assumption) HT.out hM).mono ?_); rintro e w36 ⟨rfl, hk, hb36, e0, e1, e2, e3, e4⟩) | (go_at_call 52; (with_reducible refine (m52 (by assumption)).mono ?_); rintro e w52 ⟨rfl, hk, hb52, e0, e1, e2, e3, e4⟩))
      rename_i hS
      have hbel := hS.2.2.2.2.2.bel
      clear hS
      go_wp2_with fail
      go_ret
      exact ⟨rfl, hbel⟩
end Go.Proofs.Yteafilojjdfllaa
