/- Own text: the law MatchEvals, walked. -/
import Derived.Test.YteafilojjdfllaaMLawA
import Derived.Test.YteafilojjdfllaaEvalR
namespace Go.Proofs.Yteafilojjdfllaa
open Go Go.RowKit Go.Proofs.YteafilojjdfllaaW.PrintWords Go.Proofs.YteafilojjdfllaaW.PrintLast Go.Proofs.YteafilojjdfllaaW.PrintMore Go.Proofs.Yteafilojjdfllaa.PAll
set_option linter.unusedSimpArgs false

section
variable {w W : World} {m : S25} {A3 A4 : Option Addr} {c3 c4 : Nat}
theorem m57 {v : Bool} {A1 : Option Addr} {c1 : Nat} {l : List S68} (hv : evalM l m = v) (h : KM w W m (.slice A3 m.f3.length c3) (.slice A4 m.f4.length c4)) (ht : tinyP 0 m) (hok : chkB m = true) (hM : MC w m A3 c3 A4 c4) (hl : l.length ≤ 1000) (h1 : l.length ≤ c1) (g1 : Kd.C k68 w A1 l.length l) :
    Calls Try.prog 57 #[.agg #[.int .i64 m.f0, .string m.f1, .string m.f2, .slice A3 m.f3.length c3, .slice A4 m.f4.length c4], .slice A1 l.length c1] W fun e W' => e = .returned (.bool v) ∧ KMP w W m (.slice A3 m.f3.length c3) (.slice A4 m.f4.length c4) W' := by
  obtain ⟨q1, q2, q3, q4⟩ := hM.below h.1
  exact h.calls (reval57 W m A3 c3 A4 c4 A1 c1 l v hv (by have := ht.2.2.2; omega) (chk_def.1 hok).1 (by omega) q1 q2 q3 q4 h1 (Kd.C_below g1 h.1))
end
set_option maxRecDepth 100000 in
set_option maxHeartbeats 4000000 in
theorem matchEvals_walk (w : World) (m : S25) (A3 : Option Addr) (c3 : Nat) (A4 : Option Addr) (c4 : Nat) (A1 : Option Addr) (c1 : Nat) (l : List S68) (hM : MC w m A3 c3 A4 c4) (hlc : l.length ≤ c1) (hC : Kd.C k68 w A1 l.length l) :
    Calls Try.prog 10 #[.agg #[.int .i64 m.f0, .string m.f1, .string m.f2, .slice A3 m.f3.length c3, .slice A4 m.f4.length c4], .slice A1 l.length c1] w fun e w' => e = .returned (.bool true) ∧ Below w.heap.size w w' := by
  have hK0 := KM.new w m (.slice A3 m.f3.length c3) (.slice A4 m.f4.length c4)
  go_enter Try.func10, Try.ntmps10
  go_wp2_with fail
  (with_reducible refine (m31 hK0 hM).mono ?_)
  rintro e w1 ⟨⟨v, rfl, htn⟩, hk, -, e0, e1, e2, e3, e4⟩
  clear hK0
  cases v with
  | false =>
    go_wp2_with fail
    (with_reducible refine (m52 hk).mono ?_)
    rintro e w9 ⟨rfl, hk, -⟩
    go_wp2_with fail
    go_ret
    exact ⟨rfl, hk.bel⟩
  | true =>
    have HT := Lib.hid (htn rfl)
    clear htn
    cases hc : chkB m with
    | false =>
      have HC := Lib.hid hc
      clear hc
      go_wp2_with fail
      (with_reducible refine (m36 HC.out hk HT.out hM).mono ?_)
      rintro e w2 ⟨rfl, hk, -, e0, e1, e2, e3, e4⟩
      go_wp2_with fail
      (with_reducible refine (m52 hk).mono ?_)
      rintro e w9 ⟨rfl, hk, -⟩
      go_wp2_with fail
      go_ret
      exact ⟨rfl, hk.bel⟩
    | true =>
      have HC := Lib.hid hc
      clear hc
      go_wp2_with fail
      (with_reducible refine (m36 HC.out hk HT.out hM).mono ?_)
      rintro e w2 ⟨rfl, hk, -, e0, e1, e2, e3, e4⟩
      by_cases hlen : (l.length : Int) > 100
      · go_wp2_with fail
        (with_reducible refine (m52 hk).mono ?_)
        rintro e w9 ⟨rfl, hk, -⟩
        go_wp2_with fail
        go_ret
        exact ⟨rfl, hk.bel⟩
      · have hl : l.length ≤ 100 := by omega
        replace hk := hk.drew
        obtain ⟨e0, e1, e2, e3, e4⟩ := hk.cells
        cases hv : evalM l m with
        | false =>
          have HE := Lib.hid hv
          have HV := Lib.hid (show evalB l m = false by unfold evalB; rw [HC.out, hv]; rfl)
          clear hv
          go_wp2_with fail
          go_region_held3 (fun w' => w'.cell? ⟨w.heap.size, 0, none⟩ = some (.int .i64 m.f0) ∧ w'.cell? ⟨w.heap.size, 1, none⟩ = some (.string m.f1) ∧ w'.cell? ⟨w.heap.size, 2, none⟩ = some (.string m.f2) ∧ w'.cell? ⟨w.heap.size, 3, none⟩ = some (.slice A3 m.f3.length c3) ∧ w'.cell? ⟨w.heap.size, 4, none⟩ = some (.slice A4 m.f4.length c4) ∧ KM w w' m (.slice A3 m.f3.length c3) (.slice A4 m.f4.length c4))
            (first | exact ⟨by assumption, by assumption, by assumption, by assumption, by assumption, by assumption⟩)
            (first | (go_at_call 54; (with_reducible refine (m54 (by assumption) HT.out hM).mono ?_); rintro e w54 ⟨⟨D3, d3, D4, d4, rfl, hMC⟩, hk, hb54, e0, e1, e2, e3, e4⟩) | (go_at_call 56; (with_reducible refine (m56 (by assumption) hl hlc hC).mono ?_); rintro e w56 ⟨⟨D, d, rfl, hld, hCD⟩, hk, hb56, e0, e1, e2, e3, e4⟩) | (go_at_call 55; (with_reducible refine (m55 HV.out (by assumption) HT.out (hMC.below (by assumption)) (by omega) hld hCD).mono ?_); rintro e w55 ⟨rfl, hk, hb55, e0, e1, e2, e3, e4⟩) | (go_at_call 57; (with_reducible refine (m57 HE.out (by assumption) HT.out HC.out hM (by omega) hlc hC).mono ?_); rintro e w57 ⟨rfl, hk, hb57, e0, e1, e2, e3, e4⟩) | (go_at_call 52; (with_reducible refine (m52 (by assumption)).mono ?_); rintro e w52 ⟨rfl, hk, hb52, e0, e1, e2, e3, e4⟩))
          rename_i hS
          have hbel := hS.2.2.2.2.2.bel
          clear hS
          go_wp2_with fail
          go_ret
          exact ⟨rfl, hbel⟩
        | true =>
          have HE := Lib.hid hv
          have HV := Lib.hid (show evalB l m = true by unfold evalB; rw [HC.out, hv]; rfl)
          clear hv
          go_wp2_with fail
          go_region_held3 (fun w' => w'.cell? ⟨w.heap.size, 0, none⟩ = some (.int .i64 m.f0) ∧ w'.cell? ⟨w.heap.size, 1, none⟩ = some (.string m.f1) ∧ w'.cell? ⟨w.heap.size, 2, none⟩ = some (.string m.f2) ∧ w'.cell? ⟨w.heap.size, 3, none⟩ = some (.slice A3 m.f3.length c3) ∧ w'.cell? ⟨w.heap.size, 4, none⟩ = some (.slice A4 m.f4.length c4) ∧ KM w w' m (.slice A3 m.f3.length c3) (.slice A4 m.f4.length c4))
            (first | exact ⟨by assumption, by assumption, by assumption, by assumption, by assumption, by assumption⟩)
            (first | (go_at_call 54; (with_reducible refine (m54 (by assumption) HT.out hM).mono ?_); rintro e w54 ⟨⟨D3, d3, D4, d4, rfl, hMC⟩, hk, hb54, e0, e1, e2, e3, e4⟩) | (go_at_call 56; (with_reducible refine (m56 (by assumption) hl hlc hC).mono ?_); rintro e w56 ⟨⟨D, d, rfl, hld, hCD⟩, hk, hb56, e0, e1, e2, e3, e4⟩) | (go_at_call 55; (with_reducible refine (m55 HV.out (by assumption) HT.out (hMC.below (by assumption)) (by omega) hld hCD).mono ?_); rintro e w55 ⟨rfl, hk, hb55, e0, e1, e2, e3, e4⟩) | (go_at_call 57; (with_reducible refine (m57 HE.out (by assumption) HT.out HC.out hM (by omega) hlc hC).mono ?_); rintro e w57 ⟨rfl, hk, hb57, e0, e1, e2, e3, e4⟩) | (go_at_call 52; (with_reducible refine (m52 (by assumption)).mono ?_); rintro e w52 ⟨rfl, hk, hb52, e0, e1, e2, e3, e4⟩))
          rename_i hS
          have hbel := hS.2.2.2.2.2.bel
          clear hS
          go_wp2_with fail
          go_ret
          exact ⟨rfl, hbel⟩
end Go.Proofs.Yteafilojjdfllaa
