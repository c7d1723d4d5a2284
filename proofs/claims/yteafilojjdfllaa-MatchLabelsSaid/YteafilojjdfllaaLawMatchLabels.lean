/- Own text: the law MatchLabels, walked. -/
import Derived.Test.YteafilojjdfllaaLabOne
import Derived.Test.YteafilojjdfllaaAwakeM
import Derived.Test.YteafilojjdfllaaLists
namespace Go.Proofs.Yteafilojjdfllaa
open Go Go.RowKit Go.Proofs.YteafilojjdfllaaW.PrintWords Go.Proofs.YteafilojjdfllaaW.PrintLast Go.Proofs.YteafilojjdfllaaW.PrintMore Go.Proofs.Yteafilojjdfllaa.PAll
set_option linter.unusedSimpArgs false
set_option linter.unusedVariables false
attribute [local go_sem] min2_int min_two

theorem leaf_mc (W : World) (op : Int) (n p : ByteArray) : MC W ⟨op, n, p, [], []⟩ none 0 none 0 := ⟨Nat.le_refl _, Kd.C_nil _ _, Nat.le_refl _, Kd.C_nil _ _⟩
theorem leafEval (W : World) (op : Int) (n v p : ByteArray) (A : Option Addr) (b : Bool) (hv : evalB [⟨n, v⟩] ⟨op, n, p, [], []⟩ = b) (hC : Kd.C k68 W A 1 [⟨n, v⟩]) :
    Calls Try.prog 55 #[.agg #[.int .i64 op, .string n, .string p, .slice none 0 0, .slice none 0 0], .slice A 1 1] W fun e W' => e = .returned (.bool b) ∧ Below W.heap.size W W' :=
  Eval55 W ⟨op, n, p, [], []⟩ none 0 none 0 A 1 [⟨n, v⟩] b hv (by simp [nodesM, nodesL]) (leaf_mc W op n p) (by simp) (by simp) hC
theorem among_mc (W : World) (n : ByteArray) (vs : List ByteArray) (A : Option Addr) (c : Nat) (hc : vs.length ≤ c) (hC : Kd.string.C W A vs.length vs) : MC W ⟨4, n, ⟨#[]⟩, vs, []⟩ A c none 0 := ⟨hc, hC, Nat.le_refl _, Kd.C_nil _ _⟩
theorem amongCheck (W : World) (n : ByteArray) (vs : List ByteArray) (A : Option Addr) (c : Nat) (hn : n.size ≤ 140737488351232) (hz : ∀ u ∈ vs, u.size ≤ 140737488351232) (hc : vs.length ≤ c) (hC : Kd.string.C W A vs.length vs) (b : Bool) (hb : chkB ⟨4, n, ⟨#[]⟩, vs, []⟩ = b) :
    Calls Try.prog 36 #[.agg #[.int .i64 4, .string n, .string ⟨#[]⟩, .slice A vs.length c, .slice none 0 0]] W fun e W' => e = .returned (.bool b) ∧ Below W.heap.size W W' :=
  check36v W ⟨4, n, ⟨#[]⟩, vs, []⟩ A c none 0 b hb ((boundM_mk _).2 ⟨hn, (by decide : (⟨#[]⟩ : ByteArray).size ≤ 140737488351232), hz, trivial⟩) (among_mc W n vs A c hc hC)
theorem amongEval (W : World) (n v : ByteArray) (vs : List ByteArray) (A : Option Addr) (c : Nat) (B : Option Addr) (h : chkB ⟨4, n, ⟨#[]⟩, vs, []⟩ = true) (hc : vs.length ≤ c) (hC : Kd.string.C W A vs.length vs) (hL : Kd.C k68 W B 1 [⟨n, v⟩]) :
    Calls Try.prog 55 #[.agg #[.int .i64 4, .string n, .string ⟨#[]⟩, .slice A vs.length c, .slice none 0 0], .slice B 1 1] W fun e W' => e = .returned (.bool (vs.any (fun u => decide (u.toList = v.toList)))) ∧ Below W.heap.size W W' :=
  Eval55 W ⟨4, n, ⟨#[]⟩, vs, []⟩ A c none 0 B 1 [⟨n, v⟩] _ (eval_among n v vs h) (by simp [nodesM, nodesL]) (among_mc W n vs A c hc hC) (by simp) (by simp) hL
/-- the matcher's box -/
abbrev BoxA (W : World) (g : Nat) (n : ByteArray) (v3 : Value) : Prop := W.heap[g]? = some (.cells #[.int .i64 4, .string n, .string ⟨#[]⟩, v3, .slice none 0 0] 25 (0, 0))
theorem BoxA.all {W : World} {g : Nat} {n : ByteArray} {v3 : Value} (h : BoxA W g n v3) : W.cell? ⟨g, 0, none⟩ = some (.int .i64 4) ∧ W.cell? ⟨g, 1, none⟩ = some (.string n) ∧ W.cell? ⟨g, 2, none⟩ = some (.string ⟨#[]⟩) ∧ W.cell? ⟨g, 3, none⟩ = some v3 ∧ W.cell? ⟨g, 4, none⟩ = some (.slice none 0 0) :=
  ⟨blk_cell h 0, blk_cell h 1, blk_cell h 2, blk_cell h 3, blk_cell h 4⟩
theorem take_one {α : Type} (xs : List α) (z : α) (j : Nat) (h : j < xs.length) : xs.take (j + 1) = xs.take j ++ [xs.getD j z] := by
  rw [List.take_succ_eq_append_getElem h]; simp [List.getD_eq_getElem?_getD, h]
theorem beq_eq_dec (a b : List UInt8) : (a == b) = decide (a = b) := by rw [Bool.eq_iff_iff, beq_iff_eq, decide_eq_true_iff]
theorem read_append {w w' : World} {vs : List ByteArray} {v1 : Value} (h : Kd.R Kd.string 9 w' w.heap.size (fun k => w.heap.size ≤ k) v1 ([] ++ vs)) : ∃ A c, vs.length ≤ c ∧ v1 = .slice A vs.length c ∧ Kd.string.C w' A vs.length vs := by
  obtain ⟨A, c, hv, hc, hC⟩ := Kd.R_reads h
  rw [List.nil_append] at hv hc hC
  exact ⟨A, c, hc, hv, hC⟩
set_option maxRecDepth 100000 in
set_option maxHeartbeats 8000000 in
theorem matchLabels_walk (w : World) (n v p : ByteArray) (vs : List ByteArray) (A3 : Option Addr) (c3 : Nat) (hn : n.size ≤ 140737488351232) (hp : p.size ≤ 140737488351232) (hc3 : vs.length ≤ c3) (hC : Kd.string.C w A3 vs.length vs) (hvz : ∀ u ∈ vs, u.size ≤ 140737488351232) :
    Calls Try.prog 12 #[.string n, .string v, .string p, .slice A3 vs.length c3] w fun e w' => e = .returned (.bool true) ∧ Below w.heap.size w w' := by
  have HC := Lib.hid hC
  have HZ := Lib.hid hvz
  clear hC hvz
  obtain ⟨V, eV⟩ : ∃ V, w.alloc (.cells #[.string n, .string v] 68) = V := ⟨_, rfl⟩
  have hX : V.heap[w.heap.size]? = some (.cells #[.string n, .string v] 68 (0, 0)) := eV ▸ blk_new w _
  have hB0 : Below w.heap.size w V := eV ▸ below_alloc (Below.refl _ _) _
  have hL := Lib.hid (C_one' hX (k68_mk V (⟨n, v⟩ : S68)))
  obtain ⟨vl, hvl⟩ : ∃ vl, labOne n v = vl := ⟨_, rfl⟩
  have hcon := Lib.hid (check58one V n v (some ⟨w.heap.size, 0, none⟩) 1 hn (by decide) hL.out)
  rw [hvl] at hcon
  have HVL := Lib.hid hvl
  clear hvl hX
  go_enter Try.func12, Try.ntmps12
  go_wp2_with fail
  clear eV
  (with_reducible refine (hcon.out).mono ?_)
  clear hcon
  rintro e w1 ⟨rfl, hB1⟩
  have hB1' := below_step hB0 hB1
  cases vl with
  | false =>
    go_wp2_with fail
    (with_reducible refine (awake52 _).mono ?_)
    rintro e w2 ⟨rfl, hB2⟩
    go_wp2
    go_ret
    exact ⟨rfl, below_step hB1' hB2⟩
  | true =>
    by_cases h64 : (p.size : Int) > 64
    · go_wp2_with fail
      (with_reducible refine (awake52 _).mono ?_)
      rintro e w2 ⟨rfl, hB2⟩
      go_wp2
      go_ret
      exact ⟨rfl, below_step hB1' hB2⟩
    · by_cases h10 : (vs.length : Int) > 10
      · go_wp2_with fail
        (with_reducible refine (awake52 _).mono ?_)
        rintro e w2 ⟨rfl, hB2⟩
        go_wp2
        go_ret
        exact ⟨rfl, below_step hB1' hB2⟩
      · have hnB : nameB n = true := by
          have h := HVL.out
          unfold labOne at h
          rw [Bool.and_eq_true] at h
          exact h.1
        obtain ⟨q, hq⟩ : ∃ q, (v.toList == p.toList) = q := ⟨_, rfl⟩
        have hq2 : (p.toList == v.toList) = q := by rw [← hq, Bool.eq_iff_iff, beq_iff_eq, beq_iff_eq]; exact eq_comm
        have E1 := Lib.hid ((eval_is n v p hnB (by omega)).trans hq)
        have E2 := Lib.hid ((eval_isnt n v p hnB (by omega)).trans (show (v.toList != p.toList) = !q by rw [bne, hq]))
        obtain ⟨b, hb⟩ : ∃ b, prefB v p = b := ⟨_, rfl⟩
        have E3 := Lib.hid ((eval_begins n v p hnB (by omega)).trans hb)
        have HB := Lib.hid hb
        have HNB := Lib.hid hnB
        clear hb hnB
        go_wp2_with fail
        (with_reducible refine (leafEval _ 1 n v p _ q E1.out (Kd.C_below hL.out hB1)).mono ?_)
        rintro e w2 ⟨rfl, hB2⟩
        have hB2' := below_step hB1' hB2
        go_wp2_with fail
        (with_reducible refine (leafEval _ 2 n v p _ (!q) E2.out (Kd.C_below (Kd.C_below hL.out hB1) hB2)).mono ?_)
        rintro e w3 ⟨rfl, hB3⟩
        have hB3' := below_step hB2' hB3
        go_wp2_with fail
        (with_reducible refine (leafEval _ 3 n v p _ b E3.out (Kd.C_below (Kd.C_below (Kd.C_below hL.out hB1) hB2) hB3)).mono ?_)
        rintro e w4 ⟨rfl, hB4⟩
        have hB4' := below_step hB3' hB4
        have HC4 := Lib.hid (Kd.C_below HC.out hB4')
        have hL4 := Lib.hid (Kd.C_below (Kd.C_below (Kd.C_below (Kd.C_below hL.out hB1) hB2) hB3) hB4)
        clear hB1 hB2 hB3 hB4 hB1' hB2' hB3' hq hL E1 E2 E3
        by_cases hle : p.size ≤ v.size
        · have hb2 : ((v.extract 0 p.size).toList == p.toList) = b := by
            have h := HB.out
            unfold prefB at h
            rw [decide_eq_true hle, Bool.true_and] at h
            exact h
          have hle2 : (p.size : Int) ≤ (v.size : Int) := by omega
          have hmin : (if (v.size : Int) < (p.size : Int) then (v.size : Int) else (p.size : Int)) = (p.size : Int) := if_neg (by omega)
          cases q <;> cases b
          all_goals
            go_wp2_with (at_builtin; refine Kd.R_append_rows Kd.string (Rr := Kd.K Kd.string w4) (w0 := w4) (W := w4) w4.heap.size rfl (.const (.slice none 0 0)) (.tmp 80) 22 9 (.string ByteArray.empty) 16 rfl Try.underlying22 infoS rfl (by decide) (by decide) (.slice none 0 0) [] vs A3 vs.length c3 (fun k => w4.heap.size ≤ k) (fun k => w4.heap.size ≤ k) rfl rfl (Kd.R_nil _ _ _ _ _) HC4.out (fun x cs h => h) (fun k hk => ⟨hk, by simp [Value.ownBlock]⟩) (fun k hk => hk) (Below.refl _ _) (Nat.le_refl _) (by simp; omega) ?_; intro v1 w5 hown1 hbel1 hg1 hat1; obtain ⟨Av, cv, hcv, rfl, hAv⟩ := read_append hown1; have HAv := Lib.hid hAv; clear hAv hown1 hg1 hat1)
            obtain ⟨W5, e5⟩ : ∃ W5, w5.alloc (.cells #[.int .i64 4, .string n, .string ⟨#[]⟩, .slice Av vs.length cv, .slice none 0 0] 25) = W5 := ⟨_, rfl⟩
            have hX : BoxA W5 w5.heap.size n (.slice Av vs.length cv) := by rw [← e5]; exact blk_new w5 _
            have hB5 : Below w.heap.size w W5 := by rw [← e5]; exact below_alloc (below_step hB4' hbel1) _
            have HA5 := Lib.hid (show Kd.string.C W5 Av vs.length vs by rw [← e5]; exact Kd.C_alloc HAv.out _)
            have hL5 := Lib.hid (show Kd.C k68 W5 (some ⟨w.heap.size, 0, none⟩) 1 [⟨n, v⟩] by rw [← e5]; exact Kd.C_alloc (Kd.C_below hL4.out hbel1) _)
            try rw [e5]
            obtain ⟨g5, eg5⟩ : ∃ g5, w5.heap.size = g5 := ⟨_, rfl⟩
            rw [eg5] at hX ⊢
            clear e5 hbel1 HAv eg5
            obtain ⟨vm, hvm⟩ : ∃ vm, chkB ⟨4, n, ⟨#[]⟩, vs, []⟩ = vm := ⟨_, rfl⟩
            have HVM := Lib.hid hvm
            clear hvm
            (with_reducible refine (amongCheck _ n vs Av cv hn HZ.out hcv HA5.out vm HVM.out).mono ?_)
            rintro e w6 ⟨rfl, hB6⟩
            have hB6' := below_step hB5 hB6
            cases vm with
            | false =>
              go_wp2_with fail
              (with_reducible refine (awake52 _).mono ?_)
              rintro e w7 ⟨rfl, hB7⟩
              go_wp2
              go_ret
              exact ⟨rfl, below_step hB6' hB7⟩
            | true =>
              have hX6 := blk_below hX hB6
              have HA6 := Lib.hid (Kd.C_below HA5.out hB6)
              have hL6 := Lib.hid (Kd.C_below hL5.out hB6)
              clear hX HA5 hL5 hB5 hB4' hL4 HC4
              go_wp2
              go_loopw [14, 15] (fun u14 u15 wr => ∃ (j : Nat), u15 = .int .i64 j ∧ j ≤ vs.length ∧ u14 = .bool ((vs.take j).any (fun u => decide (u.toList = v.toList))) ∧ Below w6.heap.size w6 wr)
                (fun _ u15 _ => vs.length - (intOf u15).toNat)
              case atStart => exact ⟨0, rfl, Nat.zero_le _, by simp, by repeat (first | exact Below.refl _ _ | apply below_drew)⟩
              case round =>
                obtain ⟨j, rfl, hj, rfl, hBj⟩ := hrel
                by_cases hlt : j < vs.length
                · obtain ⟨ad, eA, k0⟩ := Kd.at_string (Kd.C_below HC.out (below_step hB6' hBj)) (j : Int) (by omega) (by omega)
                  subst eA
                  simp only [Int.toNat_natCast, rdOf_nat] at k0
                  have Htk := Lib.hid (take_one vs ByteArray.empty j hlt)
                  obtain ⟨u, eu⟩ : ∃ u, vs.getD j ByteArray.empty = u := ⟨_, rfl⟩
                  rw [eu] at k0 Htk
                  clear eu
                  obtain ⟨y, hy⟩ : ∃ y, (vs.take j).any (fun u => decide (u.toList = v.toList)) = y := ⟨_, rfl⟩
                  rw [hy]
                  have HY := Lib.hid hy
                  clear hy
                  obtain ⟨x, hx⟩ : ∃ x, (u.toList == v.toList) = x := ⟨_, rfl⟩
                  have HXd := Lib.hid (show decide (u.toList = v.toList) = x by rw [← hx]; exact (beq_eq_dec _ _).symm)
                  cases y <;> cases x
                  all_goals
                    go_wp2
                    go_roundw
                    case rel => exact ⟨j + 1, by go_num, by omega, by rw [Htk.out, List.any_append, HY.out, List.any_cons, List.any_nil, HXd.out]; rfl, by repeat (first | exact hBj | apply below_drew)⟩
                    case measure => simp [intOf]; omega
                · obtain rfl : j = vs.length := by omega
                  rw [List.take_length]
                  obtain ⟨y, hy⟩ : ∃ y, vs.any (fun u => decide (u.toList = v.toList)) = y := ⟨_, rfl⟩
                  rw [hy]
                  have hcon := Lib.hid (amongEval wr n v vs Av cv (some ⟨w.heap.size, 0, none⟩) HVM.out hcv (Kd.C_below HA6.out hBj) (Kd.C_below hL6.out hBj))
                  rw [hy] at hcon
                  clear hy
                  obtain ⟨a0, a1, a2, a3, a4⟩ := BoxA.all (blk_below hX6 hBj)
                  cases y
                  all_goals
                    go_wp2_with fail
                    (with_reducible refine (hcon.out).mono ?_)
                    rintro e w8 ⟨rfl, hB8⟩
                    go_wp2_with fail
                    (with_reducible refine (awake52 _).mono ?_)
                    rintro e w9 ⟨rfl, hB9⟩
                    go_wp2
                    go_ret
                    exact ⟨rfl, below_step (below_step (below_step hB6' hBj) hB8) hB9⟩
        · have hbF : b = false := by
            have h := HB.out
            unfold prefB at h
            rw [decide_eq_false hle, Bool.false_and] at h
            exact h.symm
          subst hbF
          have hle2 : ¬ (p.size : Int) ≤ (v.size : Int) := by omega
          cases q
          all_goals
            go_wp2_with (at_builtin; refine Kd.R_append_rows Kd.string (Rr := Kd.K Kd.string w4) (w0 := w4) (W := w4) w4.heap.size rfl (.const (.slice none 0 0)) (.tmp 80) 22 9 (.string ByteArray.empty) 16 rfl Try.underlying22 infoS rfl (by decide) (by decide) (.slice none 0 0) [] vs A3 vs.length c3 (fun k => w4.heap.size ≤ k) (fun k => w4.heap.size ≤ k) rfl rfl (Kd.R_nil _ _ _ _ _) HC4.out (fun x cs h => h) (fun k hk => ⟨hk, by simp [Value.ownBlock]⟩) (fun k hk => hk) (Below.refl _ _) (Nat.le_refl _) (by simp; omega) ?_; intro v1 w5 hown1 hbel1 hg1 hat1; obtain ⟨Av, cv, hcv, rfl, hAv⟩ := read_append hown1; have HAv := Lib.hid hAv; clear hAv hown1 hg1 hat1)
            obtain ⟨W5, e5⟩ : ∃ W5, w5.alloc (.cells #[.int .i64 4, .string n, .string ⟨#[]⟩, .slice Av vs.length cv, .slice none 0 0] 25) = W5 := ⟨_, rfl⟩
            have hX : BoxA W5 w5.heap.size n (.slice Av vs.length cv) := by rw [← e5]; exact blk_new w5 _
            have hB5 : Below w.heap.size w W5 := by rw [← e5]; exact below_alloc (below_step hB4' hbel1) _
            have HA5 := Lib.hid (show Kd.string.C W5 Av vs.length vs by rw [← e5]; exact Kd.C_alloc HAv.out _)
            have hL5 := Lib.hid (show Kd.C k68 W5 (some ⟨w.heap.size, 0, none⟩) 1 [⟨n, v⟩] by rw [← e5]; exact Kd.C_alloc (Kd.C_below hL4.out hbel1) _)
            try rw [e5]
            obtain ⟨g5, eg5⟩ : ∃ g5, w5.heap.size = g5 := ⟨_, rfl⟩
            rw [eg5] at hX ⊢
            clear e5 hbel1 HAv eg5
            obtain ⟨vm, hvm⟩ : ∃ vm, chkB ⟨4, n, ⟨#[]⟩, vs, []⟩ = vm := ⟨_, rfl⟩
            have HVM := Lib.hid hvm
            clear hvm
            (with_reducible refine (amongCheck _ n vs Av cv hn HZ.out hcv HA5.out vm HVM.out).mono ?_)
            rintro e w6 ⟨rfl, hB6⟩
            have hB6' := below_step hB5 hB6
            cases vm with
            | false =>
              go_wp2_with fail
              (with_reducible refine (awake52 _).mono ?_)
              rintro e w7 ⟨rfl, hB7⟩
              go_wp2
              go_ret
              exact ⟨rfl, below_step hB6' hB7⟩
            | true =>
              have hX6 := blk_below hX hB6
              have HA6 := Lib.hid (Kd.C_below HA5.out hB6)
              have hL6 := Lib.hid (Kd.C_below hL5.out hB6)
              clear hX HA5 hL5 hB5 hB4' hL4 HC4
              go_wp2
              go_loopw [14, 15] (fun u14 u15 wr => ∃ (j : Nat), u15 = .int .i64 j ∧ j ≤ vs.length ∧ u14 = .bool ((vs.take j).any (fun u => decide (u.toList = v.toList))) ∧ Below w6.heap.size w6 wr)
                (fun _ u15 _ => vs.length - (intOf u15).toNat)
              case atStart => exact ⟨0, rfl, Nat.zero_le _, by simp, by repeat (first | exact Below.refl _ _ | apply below_drew)⟩
              case round =>
                obtain ⟨j, rfl, hj, rfl, hBj⟩ := hrel
                by_cases hlt : j < vs.length
                · obtain ⟨ad, eA, k0⟩ := Kd.at_string (Kd.C_below HC.out (below_step hB6' hBj)) (j : Int) (by omega) (by omega)
                  subst eA
                  simp only [Int.toNat_natCast, rdOf_nat] at k0
                  have Htk := Lib.hid (take_one vs ByteArray.empty j hlt)
                  obtain ⟨u, eu⟩ : ∃ u, vs.getD j ByteArray.empty = u := ⟨_, rfl⟩
                  rw [eu] at k0 Htk
                  clear eu
                  obtain ⟨y, hy⟩ : ∃ y, (vs.take j).any (fun u => decide (u.toList = v.toList)) = y := ⟨_, rfl⟩
                  rw [hy]
                  have HY := Lib.hid hy
                  clear hy
                  obtain ⟨x, hx⟩ : ∃ x, (u.toList == v.toList) = x := ⟨_, rfl⟩
                  have HXd := Lib.hid (show decide (u.toList = v.toList) = x by rw [← hx]; exact (beq_eq_dec _ _).symm)
                  cases y <;> cases x
                  all_goals
                    go_wp2
                    go_roundw
                    case rel => exact ⟨j + 1, by go_num, by omega, by rw [Htk.out, List.any_append, HY.out, List.any_cons, List.any_nil, HXd.out]; rfl, by repeat (first | exact hBj | apply below_drew)⟩
                    case measure => simp [intOf]; omega
                · obtain rfl : j = vs.length := by omega
                  rw [List.take_length]
                  obtain ⟨y, hy⟩ : ∃ y, vs.any (fun u => decide (u.toList = v.toList)) = y := ⟨_, rfl⟩
                  rw [hy]
                  have hcon := Lib.hid (amongEval wr n v vs Av cv (some ⟨w.heap.size, 0, none⟩) HVM.out hcv (Kd.C_below HA6.out hBj) (Kd.C_below hL6.out hBj))
                  rw [hy] at hcon
                  clear hy
                  obtain ⟨a0, a1, a2, a3, a4⟩ := BoxA.all (blk_below hX6 hBj)
                  cases y
                  all_goals
                    go_wp2_with fail
                    (with_reducible refine (hcon.out).mono ?_)
                    rintro e w8 ⟨rfl, hB8⟩
                    go_wp2_with fail
                    (with_reducible refine (awake52 _).mono ?_)
                    rintro e w9 ⟨rfl, hB9⟩
                    go_wp2
                    go_ret
                    exact ⟨rfl, below_step (below_step (below_step hB6' hBj) hB8) hB9⟩
end Go.Proofs.Yteafilojjdfllaa
