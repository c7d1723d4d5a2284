/- Own text: the law MatchSame, walked. -/
import Derived.Test.YteafilojjdfllaaMSame
namespace Go.Proofs.Yteafilojjdfllaa
open Go Go.RowKit Go.Proofs.YteafilojjdfllaaW.PrintWords Go.Proofs.YteafilojjdfllaaW.PrintLast Go.Proofs.YteafilojjdfllaaW.PrintMore Go.Proofs.Yteafilojjdfllaa.PAll
set_option linter.unusedSimpArgs false

set_option maxRecDepth 100000 in
set_option maxHeartbeats 8000000 in
theorem matchSame_walk (w : World) (m n : S25) (A3 : Option Addr) (c3 : Nat) (A4 : Option Addr) (c4 : Nat) (B3 : Option Addr) (b3 : Nat) (B4 : Option Addr) (b4 : Nat) (hM : MC w m A3 c3 A4 c4) (hN : MC w n B3 b3 B4 b4) :
    Calls Try.prog 14 #[.agg #[.int .i64 m.f0, .string m.f1, .string m.f2, .slice A3 m.f3.length c3, .slice A4 m.f4.length c4], .agg #[.int .i64 n.f0, .string n.f1, .string n.f2, .slice B3 n.f3.length b3, .slice B4 n.f4.length b4]] w fun e w' => e = .returned (.bool true) ∧ Below w.heap.size w w' := by
  have hk := K2.new w m n (.slice A3 m.f3.length c3) (.slice A4 m.f4.length c4) (.slice B3 n.f3.length b3) (.slice B4 n.f4.length b4)
  go_enter Try.func14, Try.ntmps14
  go_wp2_with fail
  (with_reducible refine (t31 hk hM).mono ?_)
  rintro e w' ⟨⟨v, rfl, htn⟩, hk, -, ⟨e0, e1, e2, e3, e4⟩, g0, g1, g2, g3, g4⟩
  cases v with
  | false =>
    go_wp2_with fail
    (with_reducible refine (t52 hk).mono ?_)
    rintro e w9 ⟨rfl, hk, -⟩
    go_wp2_with fail
    go_ret
    exact ⟨rfl, hk.bel⟩
  | true =>
    have HT := Lib.hid (htn rfl)
    clear htn
    go_wp2_with fail
    (with_reducible refine (t31' hk hN).mono ?_)
    rintro e w' ⟨⟨v, rfl, htn⟩, hk, -, ⟨e0, e1, e2, e3, e4⟩, g0, g1, g2, g3, g4⟩
    cases v with
    | false =>
      go_wp2_with fail
      (with_reducible refine (t52 hk).mono ?_)
      rintro e w9 ⟨rfl, hk, -⟩
      go_wp2_with fail
      go_ret
      exact ⟨rfl, hk.bel⟩
    | true =>
      have HU := Lib.hid (htn rfl)
      clear htn
      cases hc : chkB m with
      | false =>
        have HC := Lib.hid hc
        clear hc
        go_wp2_with fail
        (with_reducible refine (t36 HC.out hk HT.out hM).mono ?_)
        rintro e w' ⟨rfl, hk, -, ⟨e0, e1, e2, e3, e4⟩, g0, g1, g2, g3, g4⟩
        go_wp2_with fail
        (with_reducible refine (t52 hk).mono ?_)
        rintro e w9 ⟨rfl, hk, -⟩
        go_wp2_with fail
        go_ret
        exact ⟨rfl, hk.bel⟩
      | true =>
        have HC := Lib.hid hc
        clear hc
        go_wp2_with fail
        (with_reducible refine (t36 HC.out hk HT.out hM).mono ?_)
        rintro e w' ⟨rfl, hk, -, ⟨e0, e1, e2, e3, e4⟩, g0, g1, g2, g3, g4⟩
        cases hd : chkB n with
        | false =>
          have HD := Lib.hid hd
          clear hd
          go_wp2_with fail
          (with_reducible refine (t36' HD.out hk HU.out hN).mono ?_)
          rintro e w' ⟨rfl, hk, -, ⟨e0, e1, e2, e3, e4⟩, g0, g1, g2, g3, g4⟩
          go_wp2_with fail
          (with_reducible refine (t52 hk).mono ?_)
          rintro e w9 ⟨rfl, hk, -⟩
          go_wp2_with fail
          go_ret
          exact ⟨rfl, hk.bel⟩
        | true =>
          have HD := Lib.hid hd
          clear hd
          go_wp2_with fail
          (with_reducible refine (t36' HD.out hk HU.out hN).mono ?_)
          rintro e w' ⟨rfl, hk, -, ⟨e0, e1, e2, e3, e4⟩, g0, g1, g2, g3, g4⟩
          replace hk := hk.drew
          have hq1 := hk.2.1
          have hq2 := hk.2.2
          obtain ⟨e0, e1, e2, e3, e4⟩ := hq1.cells
          obtain ⟨g0, g1, g2, g3, g4⟩ := hq2.cells
          by_cases hs : m = n
          · have HV := Lib.hid (show (sameB m n) = true from by exact (same_iff _ m n (Nat.le_refl _)).2 hs)
            have hR := Lib.hid (show sameB m m = true from (same_iff _ m m (Nat.le_refl _)).2 rfl)
            have hte : ((tB m).toList == (tB n).toList) = true := by rw [hs]; exact beq_self_eq_true _
            clear hs
            go_wp2_with fail
            go_region_held3 (fun w' => w'.cell? ⟨w.heap.size, 0, none⟩ = some (.int .i64 m.f0) ∧ w'.cell? ⟨w.heap.size, 1, none⟩ = some (.string m.f1) ∧ w'.cell? ⟨w.heap.size, 2, none⟩ = some (.string m.f2) ∧ w'.cell? ⟨w.heap.size, 3, none⟩ = some (.slice A3 m.f3.length c3) ∧ w'.cell? ⟨w.heap.size, 4, none⟩ = some (.slice A4 m.f4.length c4) ∧ w'.cell? ⟨w.heap.size + 1, 0, none⟩ = some (.int .i64 n.f0) ∧ w'.cell? ⟨w.heap.size + 1, 1, none⟩ = some (.string n.f1) ∧ w'.cell? ⟨w.heap.size + 1, 2, none⟩ = some (.string n.f2) ∧ w'.cell? ⟨w.heap.size + 1, 3, none⟩ = some (.slice B3 n.f3.length b3) ∧ w'.cell? ⟨w.heap.size + 1, 4, none⟩ = some (.slice B4 n.f4.length b4) ∧ K2 w w' m n (.slice A3 m.f3.length c3) (.slice A4 m.f4.length c4) (.slice B3 n.f3.length b3) (.slice B4 n.f4.length b4))
              (first | exact ⟨by assumption, by assumption, by assumption, by assumption, by assumption, by assumption, by assumption, by assumption, by assumption, by assumption, by assumption⟩)
              (first | (go_at_call 60; (with_reducible refine (t60 HV.out HC.out HD.out (by assumption) HT.out HU.out hM hN).mono ?_); rintro e w60 ⟨rfl, hk, hb60, ⟨e0, e1, e2, e3, e4⟩, g0, g1, g2, g3, g4⟩) | (go_at_call 61; (with_reducible refine (t61 HC.out (by assumption) hM).mono ?_); rintro e w61 ⟨rfl, hk, hb61, ⟨e0, e1, e2, e3, e4⟩, g0, g1, g2, g3, g4⟩) | (go_at_call 61; (with_reducible refine (t61' HD.out (by assumption) hN).mono ?_); rintro e w61 ⟨rfl, hk, hb61, ⟨e0, e1, e2, e3, e4⟩, g0, g1, g2, g3, g4⟩) | (go_at_call 54; (with_reducible refine (t54 (by assumption) HT.out hM).mono ?_); rintro e w54 ⟨⟨D3, d3, D4, d4, rfl, hMC⟩, hk, hb54, ⟨e0, e1, e2, e3, e4⟩, g0, g1, g2, g3, g4⟩) | (go_at_call 60; (with_reducible refine (t60s hR.out HC.out (by assumption) HT.out hM hMC).mono ?_); rintro e w60 ⟨rfl, hk, hb60, ⟨e0, e1, e2, e3, e4⟩, g0, g1, g2, g3, g4⟩) | (go_at_call 52; (with_reducible refine (t52 (by assumption)).mono ?_); rintro e w52 ⟨rfl, hk, hb52, ⟨e0, e1, e2, e3, e4⟩, g0, g1, g2, g3, g4⟩))
            rename_i hS
            have hbel := hS.2.2.2.2.2.2.2.2.2.2.bel
            clear hS
            go_wp2_with fail
            go_ret
            exact ⟨rfl, hbel⟩
          · have HV := Lib.hid (show (sameB m n) = false from by rw [← Bool.not_eq_true]; exact fun h => hs ((same_iff _ m n (Nat.le_refl _)).1 h))
            have hR := Lib.hid (show sameB m m = true from (same_iff _ m m (Nat.le_refl _)).2 rfl)
            have hte : ((tB m).toList == (tB n).toList) = false := by rw [beq_eq_false_iff_ne]; exact fun h => hs (tB_inj (chk_def.1 HC.out).1 (chk_def.1 HD.out).1 (toList_iff.1 h))
            clear hs
            go_wp2_with fail
            go_region_held3 (fun w' => w'.cell? ⟨w.heap.size, 0, none⟩ = some (.int .i64 m.f0) ∧ w'.cell? ⟨w.heap.size, 1, none⟩ = some (.string m.f1) ∧ w'.cell? ⟨w.heap.size, 2, none⟩ = some (.string m.f2) ∧ w'.cell? ⟨w.heap.size, 3, none⟩ = some (.slice A3 m.f3.length c3) ∧ w'.cell? ⟨w.heap.size, 4, none⟩ = some (.slice A4 m.f4.length c4) ∧ w'.cell? ⟨w.heap.size + 1, 0, none⟩ = some (.int .i64 n.f0) ∧ w'.cell? ⟨w.heap.size + 1, 1, none⟩ = some (.string n.f1) ∧ w'.cell? ⟨w.heap.size + 1, 2, none⟩ = some (.string n.f2) ∧ w'.cell? ⟨w.heap.size + 1, 3, none⟩ = some (.slice B3 n.f3.length b3) ∧ w'.cell? ⟨w.heap.size + 1, 4, none⟩ = some (.slice B4 n.f4.length b4) ∧ K2 w w' m n (.slice A3 m.f3.length c3) (.slice A4 m.f4.length c4) (.slice B3 n.f3.length b3) (.slice B4 n.f4.length b4))
              (first | exact ⟨by assumption, by assumption, by assumption, by assumption, by assumption, by assumption, by assumption, by assumption, by assumption, by assumption, by assumption⟩)
              (first | (go_at_call 60; (with_reducible refine (t60 HV.out HC.out HD.out (by assumption) HT.out HU.out hM hN).mono ?_); rintro e w60 ⟨rfl, hk, hb60, ⟨e0, e1, e2, e3, e4⟩, g0, g1, g2, g3, g4⟩) | (go_at_call 61; (with_reducible refine (t61 HC.out (by assumption) hM).mono ?_); rintro e w61 ⟨rfl, hk, hb61, ⟨e0, e1, e2, e3, e4⟩, g0, g1, g2, g3, g4⟩) | (go_at_call 61; (with_reducible refine (t61' HD.out (by assumption) hN).mono ?_); rintro e w61 ⟨rfl, hk, hb61, ⟨e0, e1, e2, e3, e4⟩, g0, g1, g2, g3, g4⟩) | (go_at_call 54; (with_reducible refine (t54 (by assumption) HT.out hM).mono ?_); rintro e w54 ⟨⟨D3, d3, D4, d4, rfl, hMC⟩, hk, hb54, ⟨e0, e1, e2, e3, e4⟩, g0, g1, g2, g3, g4⟩) | (go_at_call 60; (with_reducible refine (t60s hR.out HC.out (by assumption) HT.out hM hMC).mono ?_); rintro e w60 ⟨rfl, hk, hb60, ⟨e0, e1, e2, e3, e4⟩, g0, g1, g2, g3, g4⟩) | (go_at_call 52; (with_reducible refine (t52 (by assumption)).mono ?_); rintro e w52 ⟨rfl, hk, hb52, ⟨e0, e1, e2, e3, e4⟩, g0, g1, g2, g3, g4⟩))
            rename_i hS
            have hbel := hS.2.2.2.2.2.2.2.2.2.2.bel
            clear hS
            go_wp2_with fail
            go_ret
            exact ⟨rfl, hbel⟩
end Go.Proofs.Yteafilojjdfllaa
