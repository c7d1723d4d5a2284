/- Own text: the law TombDone, walked. -/
import Derived.Test.YteafilojjdfllaaPruneA
import Derived.Test.YteafilojjdfllaaTombE
namespace Go.Proofs.Yteafilojjdfllaa
open Go Go.RowKit Go.Proofs.YteafilojjdfllaaW.PrintWords Go.Proofs.YteafilojjdfllaaW.PrintLast Go.Proofs.YteafilojjdfllaaW.PrintMore Go.Proofs.Yteafilojjdfllaa.PAll
set_option linter.unusedVariables false
set_option linter.unusedSimpArgs false

def mB (d done : Int) : S58 := ⟨0, 0, d, 0, 0, done, 0⟩
abbrev Box58 (W : World) (g : Nat) (d done : Int) : Prop := W.heap[g]? = some (.cells #[.int .i64 0, .int .i64 0, .int .i64 d, .int .i64 0, .int .i64 0, .int .i64 done, .int .i64 0] 58 (0, 0))
theorem box58_new (W : World) (d done : Int) : Box58 (W.alloc (.cells #[.int .i64 0, .int .i64 0, .int .i64 d, .int .i64 0, .int .i64 0, .int .i64 done, .int .i64 0] 58)) W.heap.size d done := blk_new W _
theorem box58_newd (W : World) (d done : Int) : Box58 (W.alloc (.cells #[.int .i64 0, .int .i64 0, .int .i64 d, .int .i64 0, .int .i64 0, .int .i64 done, .int .i64 0] 58)).drew W.heap.size d done := blk_new W _
theorem Box58.below {w W : World} {g : Nat} {d done : Int} (h : Box58 w g d done) (hb : Below w.heap.size w W) : Box58 W g d done := blk_below h hb
theorem C_m {W : World} {g : Nat} {d done : Int} (h : Box58 W g d done) : Kd.C k58 W (some ⟨g, 0, none⟩) 1 [mB d done] := C_one h (k58_mk W (mB d done))
theorem pruneOne (w : World) (l : List S27) (B : Option Addr) (c : Nat) (g : Nat) (d done : Int) (P : List S27) (hP : pruneB l [mB d done] = P) (hl : l.length ≤ 1000) (hok : okT l) (hc : l.length ≤ c) (hD : Kd.C k27 w B l.length l) (hb : Box58 w g d done) :
    Calls Try.prog 50 #[.slice B l.length c, .slice (some ⟨g, 0, none⟩) 1 1] w (Made k27 P w) :=
  hP ▸ Prune50 w l B c [mB d done] (some ⟨g, 0, none⟩) 1 hl (by simp) hok hc hD (C_m hb)
theorem pruneNone (w : World) (l : List S27) (B : Option Addr) (c : Nat) (hl : l.length ≤ 1000) (hok : okT l) (hc : l.length ≤ c) (hD : Kd.C k27 w B l.length l) :
    Calls Try.prog 50 #[.slice B l.length c, .slice none 0 0] w fun e w' => (∃ E ce, e = .returned (.slice E 0 ce)) ∧ Below w.heap.size w w' := by
  refine (Prune50 w l B c [] none 0 hl (by simp) hok hc hD (Kd.C_nil _ _)).mono ?_
  rintro e w' hM
  obtain ⟨D, d, rfl, _, _, hB⟩ := hM.C
  rw [show pruneB l [] = [] by simp [pruneB]]
  exact ⟨⟨D, d, rfl⟩, hB⟩
theorem need47 (w : World) (l : List S27) (B : Option Addr) (c : Nat) (d done : Int) (v : Bool) (hv : l.any (needB (mB d done)) = v) (hl : l.length ≤ 1000) (hc : l.length ≤ c) (hC : Kd.C k27 w B l.length l) :
    Calls Try.prog 47 #[.agg #[.int .i64 0, .int .i64 0, .int .i64 d, .int .i64 0, .int .i64 0, .int .i64 done, .int .i64 0], .slice B l.length c] w fun e w' => e = .returned (.bool v) ∧ Below w.heap.size w w' :=
  Needs47 w (mB d done) B c l v hv hl hc hC
theorem prune_any (l : List S27) (m : S58) : l.any (needB m) = decide (0 < (pruneB l [m]).length) := by
  unfold pruneB
  induction l with
  | nil => rfl
  | cons t l ih =>
    rw [List.any_cons, List.filter_cons]
    cases h : needB m t <;> simp [h, ih]
theorem prune_one (l : List S27) (t : S27) (m : S58) : pruneB (l ++ [t]) [m] = pruneB l [m] ++ (if needB m t then [t] else []) := by
  rw [prune_snoc]; simp
theorem prune_at (l : List S27) (m : S58) (i : Nat) (hi : i < l.length) (h : needB m (l.getD i z27) = true) : (pruneB (l.take i) [m]).length < (pruneB l [m]).length ∧ (pruneB l [m]).getD (pruneB (l.take i) [m]).length z27 = l.getD i z27 := by
  have e : l = l.take i ++ (l.getD i z27 :: l.drop (i + 1)) := by
    have h1 := List.take_append_drop i l
    rw [List.drop_eq_getElem_cons hi] at h1
    rw [List.getD_eq_getElem?_getD, List.getElem?_eq_getElem hi]
    exact h1.symm
  have e2 : pruneB l [m] = pruneB (l.take i) [m] ++ l.getD i z27 :: pruneB (l.drop (i + 1)) [m] := by
    conv => lhs; rw [e]
    unfold pruneB
    rw [List.filter_append, List.filter_cons, if_pos (by simpa using h)]
  rw [e2]
  constructor
  · rw [List.length_append, List.length_cons]; omega
  · simp [List.getD_eq_getElem?_getD]
theorem need_def (t : S27) (d done : Int) (h0 : 0 ≤ d) (h1 : d < 1000) : needB (mB d done) t = decide (t.f0 > done ∧ t.f2 < t.f3 ∧ t.f2 < (d + 1) * 8640 ∧ t.f3 > d * 8640) := by
  unfold needB meetB mB
  simp only
  rw [← Bool.decide_and, decide_eq_decide]
  omega
set_option maxRecDepth 100000 in
set_option maxHeartbeats 8000000 in
theorem tombDone_walk (w : World) (l : List S27) (B : Option Addr) (c : Nat) (day done : Int) (hc : l.length ≤ c) (hD : Kd.C k27 w B l.length l) :
    Calls Try.prog 8 #[.slice B l.length c, .int .i64 day, .int .i64 done] w fun e w' => e = .returned (.bool true) ∧ Below w.heap.size w w' := by
  have HD := Lib.hid hD
  clear hD
  go_enter Try.func8, Try.ntmps8
  go_wp2_with fail
  (with_reducible refine (small40 _ l B c HD.out).mono ?_)
  rintro e w1 ⟨⟨v, rfl, hok⟩, hB1⟩
  cases v with
  | false =>
    clear hok
    go_wp2_with fail
    (with_reducible refine (awake32 _).mono ?_)
    rintro e w2 ⟨rfl, hB2⟩
    go_wp2
    go_ret
    exact ⟨rfl, below_step hB1 hB2⟩
  | true =>
    obtain ⟨hl40, hOK⟩ := hok rfl
    have HOK := Lib.hid hOK
    clear hok hOK
    have hl1000 : l.length ≤ 1000 := by omega
    have hHT := Lib.hid HOK.out.tiny
    go_wp2_with fail
    (with_reducible refine (place46 _ day _ (by decide) (by decide)).mono ?_)
    rintro e w2 ⟨d, rfl, hd, hB2⟩
    have hd1 : (d : Int) < 1000 := hd
    have HB2 := Lib.hid (below_step hB1 hB2)
    clear hd hB1 hB2
    obtain ⟨V, eV⟩ : ∃ V, V = w2.alloc (.cells #[.int .i64 0, .int .i64 0, .int .i64 d, .int .i64 0, .int .i64 0, .int .i64 done, .int .i64 0] 58) := ⟨_, rfl⟩
    have hX : Box58 V w2.heap.size d done := by rw [eV]; exact blk_new w2 _
    have HBV := Lib.hid (show Below w.heap.size w V from by rw [eV]; exact below_alloc HB2.out _)
    have HDV := Lib.hid (Kd.C_below HD.out HBV.out)
    have hltV : w2.heap.size < V.heap.size := blk_lt hX
    obtain ⟨P, hP⟩ : ∃ P, pruneB l [mB d done] = P := ⟨_, rfl⟩
    have hPl : P.length ≤ 1000 := by rw [← hP]; exact Nat.le_trans (prune_len _ _) hl1000
    have HP := Lib.hid hP
    clear hP
    go_wp2_with fail
    rw [← eV]
    clear eV
    have m0 := blk_cell hX 0
    have m1 := blk_cell hX 1
    have m2 := blk_cell hX 2
    have m3 := blk_cell hX 3
    have m4 := blk_cell hX 4
    have m5 := blk_cell hX 5
    have m6 := blk_cell hX 6
    simp only [List.getElem?_toArray, List.getElem?_cons_zero, List.getElem?_cons_succ] at m0 m1 m2 m3 m4 m5 m6
    have g0 := fun W (hb : Below V.heap.size V W) => pw_cell_below hb m0
    have g1 := fun W (hb : Below V.heap.size V W) => pw_cell_below hb m1
    have g2 := fun W (hb : Below V.heap.size V W) => pw_cell_below hb m2
    have g3 := fun W (hb : Below V.heap.size V W) => pw_cell_below hb m3
    have g4 := fun W (hb : Below V.heap.size V W) => pw_cell_below hb m4
    have g5 := fun W (hb : Below V.heap.size V W) => pw_cell_below hb m5
    have g6 := fun W (hb : Below V.heap.size V W) => pw_cell_below hb m6
    clear m0 m1 m2 m3 m4 m5 m6
    have hb0 : Below V.heap.size V V.drew := below_drew (Below.refl _ _)
    go_region_with (first
      | (go_at_call 42; first
        | ((with_reducible refine (tombs42 _ l B c hHT.out hl1000 (Kd.C_below HDV.out (below_drew (Below.refl _ _)))).mono ?_); rintro e w5 hM5; obtain ⟨D, dd, rfl, hd5, hC5, hb5⟩ := hM5.C; clear hM5; have HC5 := Lib.hid hC5; have HB5 := Lib.hid (below_step (below_drew (Below.refl V.heap.size V)) hb5); have hbl := HB5.out; clear hC5)
        | ((with_reducible refine (tombs42 _ l B c hHT.out hl1000 (Kd.C_below HDV.out (below_drew (below_alloc (Below.refl _ _) _)))).mono ?_); rintro e w5 hM5; obtain ⟨D, dd, rfl, hd5, hC5, hb5⟩ := hM5.C; clear hM5; have HC5 := Lib.hid hC5; have HB5 := Lib.hid (below_step (below_drew (below_alloc (Below.refl V.heap.size V) _)) hb5); have hbl := HB5.out; clear hC5))
      | (go_at_call 50; first
        | ((with_reducible refine (pruneOne _ l D dd _ d done P HP.out hl1000 HOK.out hd5 (Kd.C_alloc HC5.out _) (box58_new _ _ _)).mono ?_); rintro e w6 hM6; obtain ⟨E, ee, rfl, hd6, hC6, hb6⟩ := hM6.C; clear hM6; have HC6 := Lib.hid hC6; have HB6 := Lib.hid (below_step (below_alloc HB5.out _) hb6); clear hC6)
        | ((with_reducible refine (pruneOne _ l D dd _ d done P HP.out hl1000 HOK.out hd5 HC5.out (Box58.below (box58_newd _ _ _) hb5)).mono ?_); rintro e w6 hM6; obtain ⟨E, ee, rfl, hd6, hC6, hb6⟩ := hM6.C; clear hM6; have HC6 := Lib.hid hC6; have HB6 := Lib.hid (below_step HB5.out hb6); clear hC6)))
    all_goals
      clear HC5 HB5 hd5 hb5 hb6 hbl
      obtain ⟨v, hv⟩ : ∃ v, l.any (needB (mB d done)) = v := ⟨_, rfl⟩
      have hv2 : decide (0 < P.length) = v := by rw [← hv, prune_any, HP.out]
      have hv3 : decide ((0 : Int) < (P.length : Int)) = v := by rw [← hv2, decide_eq_decide]; omega
      have HV := Lib.hid hv
      clear hv
      have e0 : (v != v) = false := by cases v <;> rfl
      have f0 := fun W (hb : Below w6.heap.size w6 W) => g0 W (below_step HB6.out hb)
      have f1 := fun W (hb : Below w6.heap.size w6 W) => g1 W (below_step HB6.out hb)
      have f2 := fun W (hb : Below w6.heap.size w6 W) => g2 W (below_step HB6.out hb)
      have f3 := fun W (hb : Below w6.heap.size w6 W) => g3 W (below_step HB6.out hb)
      have f4 := fun W (hb : Below w6.heap.size w6 W) => g4 W (below_step HB6.out hb)
      have f5 := fun W (hb : Below w6.heap.size w6 W) => g5 W (below_step HB6.out hb)
      have f6 := fun W (hb : Below w6.heap.size w6 W) => g6 W (below_step HB6.out hb)
      clear g0 g1 g2 g3 g4 g5 g6
      have HD6 := Lib.hid (Kd.C_below HDV.out HB6.out)
      go_wp2
      go_region_held3 (fun w' => Below w6.heap.size w6 w')
        (first | exact below_drew (Below.refl _ _) | exact below_step (by assumption) hb5)
        (first
          | (go_at_call 42; (with_reducible refine (tombs42 _ l B c hHT.out hl1000 (Kd.C_below HD6.out (by assumption))).mono ?_); rintro e w5 hM5; obtain ⟨D, dd, rfl, hd5, hC5, hb5⟩ := hM5.C; clear hM5)
          | (go_at_call 47; (with_reducible refine (need47 _ l D dd d done v HV.out hl1000 hd5 (by first | exact hC5 | exact Kd.C_below hC5 hb5)).mono ?_); rintro e w5 ⟨rfl, hb5⟩))
      rename_i hS
      clear f0 f1 f2 f3 f4 f5 f6 hv2 hv3 e0
      have hd0 : (0 : Int) ≤ (d : Int) := by omega
      go_wp2
      go_loopw [10, 11, 12] (fun u10 u11 _ wr => ∃ (i K : Nat), u10 = .int .i64 K ∧ u11 = .int .i64 i ∧ i ≤ l.length ∧ K ≤ i ∧ Hid (K = (pruneB (l.take i) [mB d done]).length) ∧ Below w6.heap.size w6 wr)
        (fun _ u11 _ _ => l.length - (intOf u11).toNat)
      case atStart => exact ⟨0, 0, rfl, rfl, Nat.zero_le _, Nat.le_refl _, Lib.hid (by simp [pruneB]), hS⟩
      case round =>
        obtain ⟨i, K, rfl, rfl, hi, hKi, HK, hB⟩ := hrel
        by_cases hlt : i < l.length
        · obtain ⟨ad, A3, a3, A4, a4, rfl, k0, k1, k2, k3, k4, k5, k6, k7, l3, g3, l4, g4⟩ := at_T27 (Kd.C_below HD6.out hB) (i : Int) (by omega) (by omega)
          simp only [Int.toNat_natCast, show rd_T27 l (i : Int) = l.getD i z27 by simp [rd_T27]] at k0 k6 k7
          clear k1 k2 k3 k4 k5 l3 g3 l4 g4
          have Htk := Lib.hid (take_snoc l z27 i hlt)
          have Hat := Lib.hid (prune_at l (mB d done) i hlt)
          obtain ⟨t, et⟩ : ∃ t, l.getD i z27 = t := ⟨_, rfl⟩
          rw [et] at k0 k6 k7 Htk Hat
          clear et
          by_cases c1 : t.f0 > done
          · have d1 : decide (t.f0 > done) = true := decide_eq_true c1
            have d1' : decide (done < t.f0) = true := d1
            by_cases c2 : t.f2 < t.f3
            · have d2 : decide (t.f2 < t.f3) = true := decide_eq_true c2
              by_cases c3 : t.f2 < ((d : Int) + 1) * 8640
              · have d3 : decide (t.f2 < ((d : Int) + 1) * 8640) = true := decide_eq_true c3
                by_cases c4 : (d : Int) * 8640 < t.f3
                · have d4 : decide ((d : Int) * 8640 < t.f3) = true := decide_eq_true c4
                  have HYes := Lib.hid (show needB (mB d done) t = true from by rw [need_def t d done hd0 hd1]; exact decide_eq_true ⟨c1, c2, c3, c4⟩)
                  obtain ⟨hK1, hK2⟩ := Hat.out HYes.out
                  rw [HP.out, ← HK.out] at hK1 hK2
                  obtain ⟨ad2, X3, x3, X4, x4, eX, q0, -⟩ := at_T27 (Kd.C_below HC6.out hB) (K : Int) (by omega) (by omega)
                  subst eX
                  simp only [Int.toNat_natCast, show rd_T27 P (K : Int) = P.getD K z27 by simp [rd_T27]] at q0
                  rw [hK2] at q0
                  have HK1 := Lib.hid hK1
                  clear hK2
                  have e1 : (t.f0 == t.f0) = true := beq_self_eq_true _
                  have d5 : decide ((P.length : Int) ≤ (K : Int)) = false := decide_eq_false (by omega)
                  have d6 : decide (P.length ≤ K) = false := decide_eq_false (by omega)
                  go_wp2
                  go_quiet (fail)
                  go_wp2
                  go_quiet (fail)
                  go_wp2
                  go_roundw
                  case rel => exact ⟨i + 1, K + 1, by go_num, by go_num, by omega, by omega, Lib.hid (by rw [Htk.out, prune_one, HYes.out, if_pos rfl, List.length_append, ← HK.out]; rfl), by repeat (first | exact hB | apply pw_below_drewN | apply below_drew)⟩
                  case measure => simp [intOf]; omega
                · have d4 : decide ((d : Int) * 8640 < t.f3) = false := decide_eq_false c4
                  have HNo := Lib.hid (show needB (mB d done) t = false from by rw [need_def t d done hd0 hd1]; exact decide_eq_false (by omega))
                  go_wp2
                  go_quiet (fail)
                  go_wp2
                  go_roundw
                  case rel => exact ⟨i + 1, K, rfl, by go_num, by omega, by omega, Lib.hid (by rw [Htk.out, prune_one, HNo.out, if_neg (by decide), List.append_nil, ← HK.out]), by repeat (first | exact hB | apply pw_below_drewN | apply below_drew)⟩
                  case measure => simp [intOf]; omega
              · have d3 : decide (t.f2 < ((d : Int) + 1) * 8640) = false := decide_eq_false c3
                have HNo := Lib.hid (show needB (mB d done) t = false from by rw [need_def t d done hd0 hd1]; exact decide_eq_false (by omega))
                go_wp2
                go_quiet (fail)
                go_wp2
                go_roundw
                case rel => exact ⟨i + 1, K, rfl, by go_num, by omega, by omega, Lib.hid (by rw [Htk.out, prune_one, HNo.out, if_neg (by decide), List.append_nil, ← HK.out]), by repeat (first | exact hB | apply pw_below_drewN | apply below_drew)⟩
                case measure => simp [intOf]; omega
            · have d2 : decide (t.f2 < t.f3) = false := decide_eq_false c2
              have HNo := Lib.hid (show needB (mB d done) t = false from by rw [need_def t d done hd0 hd1]; exact decide_eq_false (by omega))
              go_wp2
              go_quiet (fail)
              go_wp2
              go_roundw
              case rel => exact ⟨i + 1, K, rfl, by go_num, by omega, by omega, Lib.hid (by rw [Htk.out, prune_one, HNo.out, if_neg (by decide), List.append_nil, ← HK.out]), by repeat (first | exact hB | apply pw_below_drewN | apply below_drew)⟩
              case measure => simp [intOf]; omega
          · have d1 : decide (t.f0 > done) = false := decide_eq_false c1
            have d1' : decide (done < t.f0) = false := d1
            have HNo := Lib.hid (show needB (mB d done) t = false from by rw [need_def t d done hd0 hd1]; exact decide_eq_false (by omega))
            go_wp2
            go_quiet (fail)
            go_wp2
            go_roundw
            case rel => exact ⟨i + 1, K, rfl, by go_num, by omega, by omega, Lib.hid (by rw [Htk.out, prune_one, HNo.out, if_neg (by decide), List.append_nil, ← HK.out]), by repeat (first | exact hB | apply pw_below_drewN | apply below_drew)⟩
            case measure => simp [intOf]; omega
        · obtain rfl : i = l.length := by omega
          have hKP : K = P.length := by have := HK.out; rwa [List.take_length, HP.out] at this
          subst hKP
          have HBw := Lib.hid (below_step (below_step HBV.out HB6.out) hB)
          go_wp2_with fail
          (with_reducible refine (tombs42 _ l B c hHT.out hl1000 (Kd.C_below HD.out HBw.out)).mono ?_)
          rintro e w7 hM7
          obtain ⟨D7, d7, rfl, hd7, hC7, hb7⟩ := hM7.C
          clear hM7
          have HB7 := Lib.hid (below_step HBw.out hb7)
          go_wp2_with fail
          (with_reducible refine (pruneNone _ l D7 d7 hl1000 HOK.out hd7 hC7).mono ?_)
          rintro e w8 ⟨⟨E8, e8, rfl⟩, hb8⟩
          have HB8 := Lib.hid (below_step HB7.out hb8)
          go_wp2_with fail
          (with_reducible refine (awake32 _).mono ?_)
          rintro e w9 ⟨rfl, hb9⟩
          go_wp2
          go_ret
          exact ⟨rfl, below_step HB8.out hb9⟩
end Go.Proofs.Yteafilojjdfllaa
