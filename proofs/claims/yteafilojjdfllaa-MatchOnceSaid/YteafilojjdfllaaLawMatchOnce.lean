/- Own text: the law MatchOnce, walked. -/
import Derived.Test.YteafilojjdfllaaMLawA
import Derived.Test.YteafilojjdfllaaTxtN
namespace Go.Proofs.Yteafilojjdfllaa
open Go Go.RowKit Go.Proofs.YteafilojjdfllaaW.PrintWords Go.Proofs.YteafilojjdfllaaW.PrintLast Go.Proofs.YteafilojjdfllaaW.PrintMore Go.Proofs.Yteafilojjdfllaa.PAll
set_option linter.unusedSimpArgs false

theorem names59 (W : World) (m : S25) (A3 : Option Addr) (c3 : Nat) (A4 : Option Addr) (c4 : Nat) (s : ByteArray) (v : Bool) (hv : namesB s m = v) (h1000 : nodesM m ≤ 1000) (hM : MC W m A3 c3 A4 c4) :
    Calls Try.prog 59 #[.agg #[.int .i64 m.f0, .string m.f1, .string m.f2, .slice A3 m.f3.length c3, .slice A4 m.f4.length c4], .string s] W fun e W' => e = .returned (.bool v) ∧ Below W.heap.size W W' :=
  varvelaw12_names.calls (30 + 3 * nodesM m) m.f0 m.f1 m.f2 A3 c3 m.f3 A4 c4 m.f4 s v W hM.2.1 hM.1 hM.2.2.2 hM.2.2.1 (hv ▸ names_val s _ m (Nat.le_refl _) h1000 _ (Nat.le_refl _))
theorem m59 {w W : World} {m : S25} {A3 A4 : Option Addr} {c3 c4 : Nat} {s : ByteArray} {v : Bool} (hv : namesB s m = v) (h : KM w W m (.slice A3 m.f3.length c3) (.slice A4 m.f4.length c4)) (ht : tinyP 0 m) (hM : MC w m A3 c3 A4 c4) :
    Calls Try.prog 59 #[.agg #[.int .i64 m.f0, .string m.f1, .string m.f2, .slice A3 m.f3.length c3, .slice A4 m.f4.length c4], .string s] W fun e W' => e = .returned (.bool v) ∧ KMP w W m (.slice A3 m.f3.length c3) (.slice A4 m.f4.length c4) W' := h.calls (names59 W m A3 c3 A4 c4 s v hv (by have := ht.2.2.2; omega) (hM.below h.1))
set_option maxRecDepth 100000 in
set_option maxHeartbeats 2000000 in
theorem list56R (w : World) (A : Option Addr) (c : Nat) (xs : List S68) (hl : xs.length * 32 ≤ 140737488355328) (_hc : xs.length ≤ c) (hC : Kd.C k68 w A xs.length xs) :
    Calls Try.prog 56 #[.slice A xs.length c] w fun e w' => ∃ D d, e = .returned (.slice D xs.length d) ∧ k68.R 68 w' w.heap.size (fun k => w.heap.size ≤ k) (.slice D xs.length d) xs ∧ Below w.heap.size w w' := by
  have HC := Lib.hid hC
  clear hC
  go_enter Try.func56, Try.ntmps56
  go_wp2_with (at_builtin; refine Kd.R_append_rows k68 (Rr := Kd.K k68 w) (w0 := w) (W := w) w.heap.size rfl (.const (.slice none 0 0)) (.tmp 3) 28 68 (.agg #[.string ⟨#[]⟩, .string ⟨#[]⟩]) 32 rfl Try.underlying28 infoL rfl (by decide) (by decide) (.slice none 0 0) [] xs A xs.length c (fun k => w.heap.size ≤ k) (fun k => w.heap.size ≤ k) rfl rfl (Kd.R_nil _ _ _ _ _) HC.out (fun x cs h => by rw [k68_open h]; exact k68_mkM _ _ _ x) (fun k hk => ⟨hk, by simp [Value.ownBlock]⟩) (fun k hk => hk) (Below.refl _ _) (Nat.le_refl _) (by simpa using hl) ?_; intro v1 w1 hown1 hbel1 hg1 hat1; rw [List.nil_append] at hown1; obtain ⟨Av, cv, rfl⟩ := Kd.R_slice hown1; have HO := Lib.hid hown1; clear hown1)
  go_ret
  exact ⟨Av, cv, rfl, HO.out, hbel1⟩
set_option maxRecDepth 100000 in
set_option maxHeartbeats 8000000 in
theorem matchOnce_walk (w : World) (m : S25) (A3 : Option Addr) (c3 : Nat) (A4 : Option Addr) (c4 : Nat) (A1 : Option Addr) (c1 : Nat) (l : List S68) (s : ByteArray) (hM : MC w m A3 c3 A4 c4) (hlc : l.length ≤ c1) (hC : Kd.C k68 w A1 l.length l) :
    Calls Try.prog 13 #[.agg #[.int .i64 m.f0, .string m.f1, .string m.f2, .slice A3 m.f3.length c3, .slice A4 m.f4.length c4], .slice A1 l.length c1, .string s] w fun e w' => e = .returned (.bool true) ∧ Below w.heap.size w w' := by
  have hK0 := KM.new w m (.slice A3 m.f3.length c3) (.slice A4 m.f4.length c4)
  go_enter Try.func13, Try.ntmps13
  go_wp2_with fail
  (with_reducible refine (m31 hK0 hM).mono ?_)
  rintro e w1 ⟨⟨v, rfl, htn⟩, hk, -, e0, e1, e2, e3, e4⟩
  clear hK0
  cases v with
  | false =>
    go_wp2_with fail
    (with_reducible refine (m52 hk).mono ?_)
    rintro e w9 ⟨rfl, hk, -⟩
    go_wp2_with fail
    go_ret
    exact ⟨rfl, hk.bel⟩
  | true =>
    have HT := Lib.hid (htn rfl)
    clear htn
    cases hc : chkB m with
    | false =>
      have HC := Lib.hid hc
      clear hc
      go_wp2_with fail
      (with_reducible refine (m36 HC.out hk HT.out hM).mono ?_)
      rintro e w2 ⟨rfl, hk, -, e0, e1, e2, e3, e4⟩
      go_wp2_with fail
      (with_reducible refine (m52 hk).mono ?_)
      rintro e w9 ⟨rfl, hk, -⟩
      go_wp2_with fail
      go_ret
      exact ⟨rfl, hk.bel⟩
    | true =>
      have HC := Lib.hid hc
      clear hc
      go_wp2_with fail
      (with_reducible refine (m36 HC.out hk HT.out hM).mono ?_)
      rintro e w2 ⟨rfl, hk, -, e0, e1, e2, e3, e4⟩
      by_cases hlen : (l.length : Int) > 50
      · go_wp2_with fail
        (with_reducible refine (m52 hk).mono ?_)
        rintro e w9 ⟨rfl, hk, -⟩
        go_wp2_with fail
        go_ret
        exact ⟨rfl, hk.bel⟩
      · have hl : l.length ≤ 50 := by omega
        cases hs : s.toList.isEmpty with
        | true =>
          go_wp2_with fail
          (with_reducible refine (m52 hk).mono ?_)
          rintro e w9 ⟨rfl, hk, -⟩
          go_wp2_with fail
          go_ret
          exact ⟨rfl, hk.bel⟩
        | false =>
          by_cases hs64 : (s.size : Int) > 64
          · go_wp2_with fail
            (with_reducible refine (m52 hk).mono ?_)
            rintro e w9 ⟨rfl, hk, -⟩
            go_wp2_with fail
            go_ret
            exact ⟨rfl, hk.bel⟩
          · cases hnm : namesB ⟨#[113, 113]⟩ m with
            | true =>
              have HN := Lib.hid hnm
              clear hnm
              go_wp2_with fail
              (with_reducible refine (m59 HN.out hk HT.out hM).mono ?_)
              rintro e w3 ⟨rfl, hk, -, e0, e1, e2, e3, e4⟩
              go_wp2_with fail
              (with_reducible refine (m52 hk).mono ?_)
              rintro e w9 ⟨rfl, hk, -⟩
              go_wp2_with fail
              go_ret
              exact ⟨rfl, hk.bel⟩
            | false =>
              have HN := Lib.hid hnm
              clear hnm
              go_wp2_with fail
              (with_reducible refine (m59 HN.out hk HT.out hM).mono ?_)
              rintro e w3 ⟨rfl, hk, -, e0, e1, e2, e3, e4⟩
              have hkb := hk
              have Hone := Lib.hid (show evalB (l ++ [⟨⟨#[113, 113]⟩, s⟩]) m = evalB l m from by unfold evalB; rw [eval_once ⟨#[113, 113]⟩ s l _ m (Nat.le_refl _) HN.out])
              go_wp2_with fail
              obtain ⟨lx, elx⟩ : ∃ lx, l ++ [(⟨⟨#[113, 113]⟩, s⟩ : S68)] = lx := ⟨_, rfl⟩
              have hlx : lx.length ≤ 51 := by rw [← elx]; simp; omega
              have hF56 := list56R w3 A1 c1 l (by omega) hlc (Kd.C_below hC hk.1)
              (with_reducible refine hF56.mono ?_)
              rintro e w4 ⟨D, d, rfl, hR, hb4⟩
              have hk4 := hk.step hb4
              have HR := Lib.hid (Kd.R_N hR)
              clear hR hF56 hk
              go_wp2_with (at_builtin; refine Kd.N_append k68 (w0 := w3) (W := w4) w3.heap.size rfl (.tmp 36) (.tmp 39) 28 68 (.agg #[.string ⟨#[]⟩, .string ⟨#[]⟩]) 32 rfl Try.underlying28 infoL rfl (by decide) (by decide) (.slice D l.length d) l ⟨⟨#[113, 113]⟩, s⟩ [.string ⟨#[113, 113]⟩, .string s] (fun k => w3.heap.size ≤ k) (fun _ => False) rfl rfl (fun W' _ => k68_one W' ⟨⟨#[113, 113]⟩, s⟩) (fun _ h => h.elim) (fun k hk => by have := hb4.size; omega) HR.out hb4 hb4.size (by omega) ?_; intro v1 w5 hN5 hB5 hg5 hat5; rw [elx] at hN5; obtain ⟨D2, d2, rfl, hd2, hC2⟩ := Kd.N_reads hN5; have hk := (hkb.step hB5).drew)
              obtain ⟨e0, e1, e2, e3, e4⟩ := hk.cells
              obtain ⟨v, hv⟩ : ∃ v, evalB l m = v := ⟨_, rfl⟩
              have HV := Lib.hid hv
              have HW := Lib.hid (show evalB lx m = v from by rw [← elx, Hone.out, hv])
              have HL2 := Lib.hid hC2
              clear hN5 hC2 hv elx
              cases v with
              | false =>
                go_wp2_with fail
                go_region_held3 (fun w' => w'.cell? ⟨w.heap.size, 0, none⟩ = some (.int .i64 m.f0) ∧ w'.cell? ⟨w.heap.size, 1, none⟩ = some (.string m.f1) ∧ w'.cell? ⟨w.heap.size, 2, none⟩ = some (.string m.f2) ∧ w'.cell? ⟨w.heap.size, 3, none⟩ = some (.slice A3 m.f3.length c3) ∧ w'.cell? ⟨w.heap.size, 4, none⟩ = some (.slice A4 m.f4.length c4) ∧ KM w w' m (.slice A3 m.f3.length c3) (.slice A4 m.f4.length c4))
                  (first | exact ⟨by assumption, by assumption, by assumption, by assumption, by assumption, by assumption⟩)
                  (first | (go_at_call 54; (with_reducible refine (m54 (by assumption) HT.out hM).mono ?_); rintro e w54 ⟨⟨D3, d3, D4, d4, rfl, hMC⟩, hk, hb54, e0, e1, e2, e3, e4⟩) | (go_at_call 55; (with_reducible refine (m55 HW.out (by assumption) HT.out hMC (by omega) hd2 (Kd.C_below (Kd.C_below HL2.out (below_drew (Below.refl _ _))) (by assumption))).mono ?_); rintro e w55 ⟨rfl, hk, hb55, e0, e1, e2, e3, e4⟩) | (go_at_call 56; (with_reducible refine (m56 (by assumption) (by omega) hlc hC).mono ?_); rintro e w56 ⟨⟨E, d5, rfl, hld, hCE⟩, hk, hb56, e0, e1, e2, e3, e4⟩) | (go_at_call 55; (with_reducible refine (m55 HV.out (by assumption) HT.out (hMC.below (by assumption)) (by omega) hld hCE).mono ?_); rintro e w55 ⟨rfl, hk, hb55, e0, e1, e2, e3, e4⟩) | (go_at_call 52; (with_reducible refine (m52 (by assumption)).mono ?_); rintro e w52 ⟨rfl, hk, hb52, e0, e1, e2, e3, e4⟩))
                rename_i hS
                have hbel := hS.2.2.2.2.2.bel
                clear hS
                go_wp2_with fail
                go_ret
                exact ⟨rfl, hbel⟩
              | true =>
                go_wp2_with fail
                go_region_held3 (fun w' => w'.cell? ⟨w.heap.size, 0, none⟩ = some (.int .i64 m.f0) ∧ w'.cell? ⟨w.heap.size, 1, none⟩ = some (.string m.f1) ∧ w'.cell? ⟨w.heap.size, 2, none⟩ = some (.string m.f2) ∧ w'.cell? ⟨w.heap.size, 3, none⟩ = some (.slice A3 m.f3.length c3) ∧ w'.cell? ⟨w.heap.size, 4, none⟩ = some (.slice A4 m.f4.length c4) ∧ KM w w' m (.slice A3 m.f3.length c3) (.slice A4 m.f4.length c4))
                  (first | exact ⟨by assumption, by assumption, by assumption, by assumption, by assumption, by assumption⟩)
                  (first | (go_at_call 54; (with_reducible refine (m54 (by assumption) HT.out hM).mono ?_); rintro e w54 ⟨⟨D3, d3, D4, d4, rfl, hMC⟩, hk, hb54, e0, e1, e2, e3, e4⟩) | (go_at_call 55; (with_reducible refine (m55 HW.out (by assumption) HT.out hMC (by omega) hd2 (Kd.C_below (Kd.C_below HL2.out (below_drew (Below.refl _ _))) (by assumption))).mono ?_); rintro e w55 ⟨rfl, hk, hb55, e0, e1, e2, e3, e4⟩) | (go_at_call 56; (with_reducible refine (m56 (by assumption) (by omega) hlc hC).mono ?_); rintro e w56 ⟨⟨E, d5, rfl, hld, hCE⟩, hk, hb56, e0, e1, e2, e3, e4⟩) | (go_at_call 55; (with_reducible refine (m55 HV.out (by assumption) HT.out (hMC.below (by assumption)) (by omega) hld hCE).mono ?_); rintro e w55 ⟨rfl, hk, hb55, e0, e1, e2, e3, e4⟩) | (go_at_call 52; (with_reducible refine (m52 (by assumption)).mono ?_); rintro e w52 ⟨rfl, hk, hb52, e0, e1, e2, e3, e4⟩))
                rename_i hS
                have hbel := hS.2.2.2.2.2.bel
                clear hS
                go_wp2_with fail
                go_ret
                exact ⟨rfl, hbel⟩
end Go.Proofs.Yteafilojjdfllaa
