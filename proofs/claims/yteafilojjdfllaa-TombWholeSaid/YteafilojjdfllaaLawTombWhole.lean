/- Own text: the law TombWhole, walked. -/
import Derived.Test.YteafilojjdfllaaApp
namespace Go.Proofs.Yteafilojjdfllaa
set_option linter.unusedSimpArgs false
set_option linter.unusedVariables false
open Go Go.RowKit Go.Proofs.YteafilojjdfllaaW.PrintWords Go.Proofs.YteafilojjdfllaaW.PrintLast Go.Proofs.YteafilojjdfllaaW.PrintMore Go.Proofs.Yteafilojjdfllaa.PAll

/-- the matcher that takes nothing -/
def m6 : S25 := ⟨6, ⟨#[]⟩, ⟨#[]⟩, [], []⟩
def wholeT (s : Int) : S27 := ⟨s, z25, 0, 1099511634240⟩
def noneT (s : Int) : S27 := ⟨s, m6, 0, 1099511634240⟩
theorem whole_ok (s : Int) (h1 : 1 ≤ s) (h2 : s ≤ 1099511627776) : tombB s 0 1099511634240 z25 = true := by
  unfold tombB
  rw [decide_eq_true ⟨h1, h2⟩, show alignB 0 1099511634240 = true by kernel_rfl, show chkB z25 = true by kernel_rfl]
  rfl
theorem none_ok (s : Int) (h1 : 1 ≤ s) (h2 : s ≤ 1099511627776) : tombB s 0 1099511634240 m6 = true := by
  unfold tombB
  rw [decide_eq_true ⟨h1, h2⟩, show alignB 0 1099511634240 = true by kernel_rfl, show chkB m6 = true by kernel_rfl]
  rfl
theorem eval_z25 (l : List S68) : evalB l z25 = true := by
  unfold evalB
  rw [show chkB z25 = true by kernel_rfl, Bool.true_and]
  unfold z25
  unfold evalM
  simp
theorem eval_m6 (l : List S68) : evalB l m6 = false := by
  unfold evalB
  rw [show chkB m6 = true by kernel_rfl, Bool.true_and]
  unfold m6
  unfold evalM
  simp [evalL]
theorem apply_whole (rows : List S37) (s : Int) (h : ∀ r ∈ rows, 0 ≤ r.f1 ∧ r.f1 < 1099511627776) : applyB rows [wholeT s] (s - 1) = [] := by
  unfold applyB
  rw [List.filter_eq_nil_iff]
  intro r hr
  obtain ⟨h0, h1⟩ := h r hr
  have : hitB [wholeT s] (s - 1) r = true := by
    unfold hitB coverB wholeT
    simp only [List.any_cons, List.any_nil, Bool.or_false]
    rw [eval_z25, decide_eq_true (by omega), decide_eq_true (by omega), decide_eq_true (by omega)]
    rfl
  rw [this]; simp
theorem apply_noneT (rows : List S37) (s : Int) : applyB rows [noneT s] 0 = rows := by
  unfold applyB
  rw [List.filter_eq_self]
  intro r _
  have : hitB [noneT s] 0 r = false := by
    unfold hitB coverB noneT
    simp only [List.any_cons, List.any_nil, Bool.or_false]
    rw [eval_m6]
    simp
  rw [this]; rfl
theorem BoxT.alloc {W : World} {g : Nat} {s o : Int} {t1 t2 : ByteArray} {v3 v4 : Value} {a b : Int} (h : BoxT W g s o t1 t2 v3 v4 a b) (ob : Obj) : BoxT (W.alloc ob) g s o t1 t2 v3 v4 a b := blk_alloc h ob
theorem m6_mc (w : World) : MC w m6 none 0 none 0 := ⟨Nat.le_refl _, Kd.C_nil _ _, Nat.le_refl _, Kd.C_nil _ _⟩
/-- the two tombs' boxes -/
abbrev Box7 (W : World) (g : Nat) (s : Int) : Prop := BoxT W g s 0 ⟨#[]⟩ ⟨#[]⟩ (.slice none 0 0) (.slice none 0 0) 0 1099511634240
abbrev Box8 (W : World) (g : Nat) (s : Int) : Prop := BoxT W g s 6 ⟨#[]⟩ ⟨#[]⟩ (.slice none 0 0) (.slice none 0 0) 0 1099511634240
theorem box7_new (W : World) (s : Int) : Box7 (W.alloc (.cells #[.int .i64 s, .int .i64 0, .string ⟨#[]⟩, .string ⟨#[]⟩, .slice none 0 0, .slice none 0 0, .int .i64 0, .int .i64 1099511634240] 27)) W.heap.size s := blk_new W _
theorem box8_new (W : World) (s : Int) : Box8 (W.alloc (.cells #[.int .i64 s, .int .i64 6, .string ⟨#[]⟩, .string ⟨#[]⟩, .slice none 0 0, .slice none 0 0, .int .i64 0, .int .i64 1099511634240] 27)) W.heap.size s := blk_new W _
theorem whole_k (w : World) (s : Int) : k27.K w (wholeT s) [.int .i64 s, .int .i64 0, .string ⟨#[]⟩, .string ⟨#[]⟩, .slice none 0 0, .slice none 0 0, .int .i64 0, .int .i64 1099511634240] := k27_mk w (wholeT s) (Nat.le_refl _) (Kd.C_nil _ _) (Nat.le_refl _) (Kd.C_nil _ _)
theorem none_k (w : World) (s : Int) : k27.K w (noneT s) [.int .i64 s, .int .i64 6, .string ⟨#[]⟩, .string ⟨#[]⟩, .slice none 0 0, .slice none 0 0, .int .i64 0, .int .i64 1099511634240] := k27_mk w (noneT s) (Nat.le_refl _) (Kd.C_nil _ _) (Nat.le_refl _) (Kd.C_nil _ _)
theorem wholeCheck (w : World) (s : Int) (h1 : 1 ≤ s) (h2 : s ≤ 1099511627776) : Calls Try.prog 33 #[.agg #[.int .i64 s, .int .i64 0, .string ⟨#[]⟩, .string ⟨#[]⟩, .slice none 0 0, .slice none 0 0, .int .i64 0, .int .i64 1099511634240]] w fun e w' => e = .returned (.bool true) ∧ Below w.heap.size w w' := by
  have h := tombCheck33 w s 0 1099511634240 z25 none 0 none 0 (ex_mc w)
  rw [whole_ok s h1 h2] at h
  exact h
theorem noneCheck (w : World) (s : Int) (h1 : 1 ≤ s) (h2 : s ≤ 1099511627776) : Calls Try.prog 33 #[.agg #[.int .i64 s, .int .i64 6, .string ⟨#[]⟩, .string ⟨#[]⟩, .slice none 0 0, .slice none 0 0, .int .i64 0, .int .i64 1099511634240]] w fun e w' => e = .returned (.bool true) ∧ Below w.heap.size w w' := by
  have h := tombCheck33 w s 0 1099511634240 m6 none 0 none 0 (m6_mc w)
  rw [none_ok s h1 h2] at h
  exact h
section
variable (w : World) (rows : List S37) (D : Option Addr) (d g : Nat) (s : Int) (hr : rows.length ≤ 1000) (hp : ∀ r ∈ rows, RowSz r) (hC : Kd.C k37 w D rows.length rows)
include hr hp hC
theorem apply1 (ha : ∀ r ∈ rows, 0 ≤ r.f1 ∧ r.f1 < 1099511627776) (hg : Box7 w g s) :
    Calls Try.prog 44 #[.slice D rows.length d, .slice (some ⟨g, 0, none⟩) 1 1, .int .i64 (s - 1)] w fun e w' => (∃ E c, e = .returned (.slice E 0 c)) ∧ Below w.heap.size w w' := by
  have h := Apply44n w rows D d [wholeT s] (some ⟨g, 0, none⟩) 1 1 (s - 1) hr (by simp) hp (by intro t ht; rw [List.mem_singleton.1 ht]; exact (by decide : nodesM z25 ≤ 1000)) hC (C_one hg (whole_k w s)) rfl
  rw [apply_whole rows s ha] at h
  exact h.mono fun e w' ⟨⟨E, c, he, _, _⟩, hb⟩ => ⟨⟨E, c, he⟩, hb⟩
theorem apply2 (hg : Box8 w g s) :
    Calls Try.prog 44 #[.slice D rows.length d, .slice (some ⟨g, 0, none⟩) 1 1, .int .i64 0] w (Made k37 rows w) := by
  have h := Apply44n w rows D d [noneT s] (some ⟨g, 0, none⟩) 1 1 0 hr (by simp) hp (by intro t ht; rw [List.mem_singleton.1 ht]; exact (by decide : nodesM m6 ≤ 1000)) hC (C_one hg (none_k w s)) rfl
  rw [apply_noneT rows s] at h
  exact h
theorem apply3 (hg : Box7 w g s) :
    Calls Try.prog 44 #[.slice D rows.length d, .slice (some ⟨g, 0, none⟩) 1 1, .int .i64 s] w (Made k37 rows w) := by
  have h := Apply44n w rows D d [wholeT s] (some ⟨g, 0, none⟩) 1 1 s hr (by simp) hp (by intro t ht; rw [List.mem_singleton.1 ht]; exact (by decide : nodesM z25 ≤ 1000)) hC (C_one hg (whole_k w s)) rfl
  rw [apply_none (by intro t ht; rw [List.mem_singleton.1 ht]; exact Int.le_refl _)] at h
  exact h
end
noncomputable def tabW13 : Bool × List (List Nat × List Nat) := rtab .any (opsOf Try.f6 13)
theorem tabW13_eq : rtab .any (opsOf Try.f6 13) = tabW13 := rfl
set_option maxRecDepth 100000 in
set_option maxHeartbeats 8000000 in
theorem tombWhole_walk (w : World) (rows : List S37) (A : Option Addr) (c : Nat) (a1 : Int) (hp : ∀ r ∈ rows, RowSz r)
    (hC : Kd.C k37 w A rows.length rows) :
    Calls Try.prog 6 #[.slice A rows.length c, .int .i64 a1] w fun e w' => e = .returned (.bool true) ∧ Below w.heap.size w w' := by
  have HC := Lib.hid hC
  have HP := Lib.hid hp
  clear hC hp
  by_cases hn : (rows.length : Int) > 30
  · go_enter Try.func6, Try.ntmps6
    go_wp2_with fail
    (with_reducible refine (awake32 _).mono ?_)
    rintro e w2 ⟨rfl, hB2⟩
    go_wp2
    go_ret
    exact ⟨rfl, hB2⟩
  · have hr40 : rows.length ≤ 1000 := by omega
    go_enter Try.func6, Try.ntmps6
    go_wp2
    go_loopw [5] (fun u5 wr => ∃ (j : Nat), u5 = .int .i64 j ∧ j ≤ rows.length ∧ (∀ r ∈ rows.take j, 0 ≤ r.f1 ∧ r.f1 < 1099511627776) ∧ Below w.heap.size w wr)
      (fun u5 _ => rows.length - (intOf u5).toNat)
    case atStart => exact ⟨0, rfl, Nat.zero_le _, by simp, by repeat (first | exact Below.refl _ _ | apply pw_below_drewN | apply below_drew)⟩
    case round =>
      obtain ⟨j, rfl, hj, hall, hB⟩ := hrel
      by_cases hlt : j < rows.length
      · obtain ⟨ad, A0, c0, A2, c2, A3, c3, rfl, k0, k1, k2, k3, k4, k5, k6, k7, l0, g0, l2, g2, l3, g3⟩ := at_T37 (Kd.C_below HC.out hB) (j : Int) (by omega) (by omega)
        simp only [Int.toNat_natCast, show rd_T37 rows (j : Int) = rows.getD j z37 by simp [rd_T37]] at k1
        clear k0 k2 k3 k4 k5 k6 k7 l0 g0 l2 g2 l3 g3
        have Htk := Lib.hid (take_snoc rows z37 j hlt)
        obtain ⟨x, ex⟩ : ∃ x, rows.getD j z37 = x := ⟨_, rfl⟩
        rw [ex] at k1 Htk
        clear ex
        have Hall := Lib.hid hall
        clear hall
        by_cases h0 : x.f1 < 0
        · go_wp2_with fail
          (with_reducible refine (awake32 _).mono ?_)
          rintro e w2 ⟨rfl, hB2⟩
          go_wp2
          go_ret
          exact ⟨rfl, below_step hB hB2⟩
        · by_cases h1 : x.f1 < 1099511627776
          · go_wp2
            go_roundw
            case rel =>
              refine ⟨j + 1, by go_num, by omega, ?_, by repeat (first | exact hB | apply pw_below_drewN | apply below_drew)⟩
              rw [Htk.out]
              intro y hy
              rcases List.mem_append.1 hy with hy | hy
              · exact Hall.out y hy
              · rw [List.mem_singleton.1 hy]; omega
            case measure => simp [intOf]; omega
          · go_wp2_with fail
            (with_reducible refine (awake32 _).mono ?_)
            rintro e w2 ⟨rfl, hB2⟩
            go_wp2
            go_ret
            exact ⟨rfl, below_step hB hB2⟩
      · obtain rfl : j = rows.length := by omega
        rw [List.take_length] at hall
        have Hall := Lib.hid hall
        clear hall
        go_wp2_with fail
        (with_reducible refine (place46 _ a1 1099511627776 (by omega) (by omega)).mono ?_)
        rintro e w2 ⟨i, rfl, hi, hB2⟩
        have hB2' := below_step hB hB2
        have hw1 : wrap64 (1 + (i : Int)) = 1 + (i : Int) := by unfold wrap64; omega
        go_wp2_with fail
        obtain ⟨s, es⟩ : ∃ s : Int, 1 + (i : Int) = s := ⟨_, rfl⟩
        obtain ⟨g7, eg⟩ : ∃ g7 : Nat, w2.heap.size = g7 := ⟨_, rfl⟩
        have hs1 : 1 ≤ s := by omega
        have hs2 : s ≤ 1099511627776 := by omega
        have hw2 : wrap64 (s - 1) = s - 1 := by unfold wrap64; omega
        have hw3 : IntKind.i64.wrap (s - 1) = s - 1 := by rw [i64_w]; exact hw2
        rw [es, eg]
        obtain ⟨V0, eV0⟩ : ∃ V0, w2.alloc (.cells #[.int .i64 s, .int .i64 0, .string ⟨#[]⟩, .string ⟨#[]⟩, .slice none 0 0, .slice none 0 0, .int .i64 0, .int .i64 1099511634240] 27) = V0 := ⟨_, rfl⟩
        have hX70 : Box7 V0 g7 s := by rw [← eV0, ← eg]; exact blk_new w2 _
        have hs0 : V0.heap.size = g7 + 1 := by rw [← eV0, ← eg]; simp
        have hB0 : Below w.heap.size w V0 := by rw [← eV0]; exact below_alloc hB2' _
        rw [eV0]
        obtain ⟨V, eV⟩ : ∃ V, V0.alloc (.cells #[.int .i64 s, .int .i64 6, .string ⟨#[]⟩, .string ⟨#[]⟩, .slice none 0 0, .slice none 0 0, .int .i64 0, .int .i64 1099511634240] 27) = V := ⟨_, rfl⟩
        have hX7 : Box7 V g7 s := by rw [← eV]; exact hX70.alloc _
        have hX8 : Box8 V (g7 + 1) s := by rw [← eV, ← hs0]; exact blk_new V0 _
        have hBt : Below w.heap.size w V := by rw [← eV]; exact below_alloc hB0 _
        rw [eV]
        clear eV eV0 hX70 hB0 hs0 eg es hB2' hB2 hB hw1 hi
        (with_reducible refine (wholeCheck _ s hs1 hs2).mono ?_)
        rintro e W5 ⟨rfl, hB5⟩
        replace hX7 : Box7 W5 g7 s := BoxT.below hX7 hB5
        replace hX8 : Box8 W5 (g7 + 1) s := BoxT.below hX8 hB5
        replace hBt := below_step hBt hB5
        clear hB5
        obtain ⟨a0, a1, a2, a3, a4, a5, a6, a7⟩ := hX7.all; obtain ⟨b0, b1, b2, b3, b4, b5, b6, b7⟩ := hX8.all
        go_wp2_with fail
        (with_reducible refine (noneCheck _ s hs1 hs2).mono ?_)
        clear a0 a1 a2 a3 a4 a5 a6 a7 b0 b1 b2 b3 b4 b5 b6 b7
        rintro e W5 ⟨rfl, hB5⟩
        replace hX7 : Box7 W5 g7 s := BoxT.below hX7 hB5
        replace hX8 : Box8 W5 (g7 + 1) s := BoxT.below hX8 hB5
        replace hBt := below_step hBt hB5
        clear hB5
        obtain ⟨a0, a1, a2, a3, a4, a5, a6, a7⟩ := hX7.all; obtain ⟨b0, b1, b2, b3, b4, b5, b6, b7⟩ := hX8.all
        go_wp2_with fail
        have hS0 : Box7 W5.drew g7 s ∧ Box8 W5.drew (g7 + 1) s ∧ Below w.heap.size w W5.drew := ⟨hX7, hX8, below_drew hBt⟩
        clear a0 a1 a2 a3 a4 a5 a6 a7 b0 b1 b2 b3 b4 b5 b6 b7 hX7 hX8 hBt
        refine start_ (n := 32) (S := fun w' => Box7 w' g7 s ∧ Box8 w' (g7 + 1) s ∧ Below w.heap.size w w') (ds := []) #[false, false, false, false, false, false, false, false, false, false, false, false, false, false, false, false, false, false, false, false, false, false, false, false, false, false, false, false, false, false, false, false] (by kernel_rfl) rfl rfl hS0 (fun hHeld => ?_)
        clear hS0
        generalize W5.drew = W at hHeld ⊢
        refine with_tab (T := tabW13) tabW13_eq (fun HT_ => ?_)
        refine pure_ (i := 0) (N := some 50) (v := ?_) (a' := ?_) #[true, false, false, false, false, false, false, false, false, false, false, false, false, false, false, false, false, false, false, false, false, false, false, false, false, false, false, false, false, false, false, false] rfl rfl (any_of HT_.out (by kernel_rfl)) (fun _ _ _ h => h) (Or.inl ⟨by rfl, ?_⟩) ?_ ?_
        rotate_left
        · intro w'
          go_simp
          with_reducible rfl
        rotate_left
        · simp only [Act.put, List.setIfInBounds_toArray, List.set_cons_zero, List.set_cons_succ, i64_w, i32_w]
          rfl
        refine take_ (i := 2) (N := some 52) (v := ?_) (a' := ?_) #[true, false, true, false, false, false, false, false, false, false, false, false, false, false, false, false, false, false, false, false, false, false, false, false, false, false, false, false, false, false, false, false] rfl rfl (take_of HT_.out (by kernel_rfl)) (fun _ _ _ h => h) (Or.inl ⟨by rfl, ?_⟩) hHeld ?_ ?_
        rotate_left
        · rintro w' ⟨s7, s8, -⟩
          obtain ⟨a0, a1, a2, a3, a4, a5, a6, a7⟩ := s7.all
          obtain ⟨b0, b1, b2, b3, b4, b5, b6, b7⟩ := s8.all
          go_simp
          with_reducible rfl
        rotate_left
        · simp only [Act.put, List.setIfInBounds_toArray, List.set_cons_zero, List.set_cons_succ, i64_w, i32_w]
          rfl
        refine pure_ (i := 4) (N := some 54) (v := ?_) (a' := ?_) #[true, false, true, false, true, false, false, false, false, false, false, false, false, false, false, false, false, false, false, false, false, false, false, false, false, false, false, false, false, false, false, false] rfl rfl (any_of HT_.out (by kernel_rfl)) (fun _ _ _ h => h) (Or.inl ⟨by rfl, ?_⟩) ?_ ?_
        rotate_left
        · intro w'
          go_simp
          with_reducible rfl
        rotate_left
        · simp only [Act.put, List.setIfInBounds_toArray, List.set_cons_zero, List.set_cons_succ, i64_w, i32_w]
          rfl
        refine pure_ (i := 5) (N := some 55) (v := ?_) (a' := ?_) #[true, false, true, false, true, true, false, false, false, false, false, false, false, false, false, false, false, false, false, false, false, false, false, false, false, false, false, false, false, false, false, false] rfl rfl (any_of HT_.out (by kernel_rfl)) (fun _ _ _ h => h) (Or.inl ⟨by rfl, ?_⟩) ?_ ?_
        rotate_left
        · intro w'
          go_simp
          with_reducible rfl
        rotate_left
        · simp only [Act.put, List.setIfInBounds_toArray, List.set_cons_zero, List.set_cons_succ, i64_w, i32_w]
          rfl
        refine join_ (σ := Option Addr × Nat × Nat) 26 #[true, true, true, true, true, true, false, false, false, false, false, false, false, false, false, false, false, false, false, false, false, false, false, false, false, false, false, false, false, false, false, false] (fun q => [(51, .slice q.1 rows.length q.2.1), (53, .slice (some ⟨q.2.2, 0, none⟩) 1 1)]) (fun q w' => (Box7 w' g7 s ∧ Box8 w' (g7 + 1) s ∧ Below w.heap.size w w') ∧ Kd.C k37 w' q.1 rows.length rows ∧ Box7 w' q.2.2 s) ?_ (fun hJ => ?_)
        rotate_left
        · obtain ⟨q7, q8, qB⟩ := id hHeld
          refine two_ (i := 1) (j := 3) (Ni := some 51) (Nj := some 53) #[true, true, true, false, true, true, false, false, false, false, false, false, false, false, false, false, false, false, false, false, false, false, false, false, false, false, false, false, false, false, false, false] #[true, false, true, true, true, true, false, false, false, false, false, false, false, false, false, false, false, false, false, false, false, false, false, false, false, false, false, false, false, false, false, false] rfl rfl rfl rfl (two_of HT_.out (by kernel_rfl)) (by decide) (by decide) (fun K hK => ?_) (fun K hK => ?_)
          · refine goes_ Try.func41 (by kernel_rfl) rfl #[.slice A rows.length c] (by rfl) rfl rfl (by (try simp only [List.map_toArray, List.map_cons, List.map_nil]); first | done | rfl) ?_
            (with_reducible refine (rows41 _ rows A c HP.out hr40 (Kd.C_below HC.out qB)).mono ?_)
            rintro e W5 hM5
            obtain ⟨D, d, rfl, hd, hC5, hB5⟩ := hM5.C
            clear hM5
            refine ⟨_, rfl, ?_⟩
            refine hK.out _ _ ⟨BoxT.below q7 hB5, BoxT.below q8 hB5, below_step qB hB5⟩ (fun hHeld => ?_)
            clear hK K q7 q8 qB
            obtain ⟨q7, q8, qB⟩ := id hHeld
            simp only [Act.put, List.setIfInBounds_toArray, List.set_cons_zero, List.set_cons_succ]
            refine one_ (i := 3) (N := some 53) #[true, true, true, true, true, true, false, false, false, false, false, false, false, false, false, false, false, false, false, false, false, false, false, false, false, false, false, false, false, false, false, false] rfl rfl (one_of HT_.out (by kernel_rfl)) (by decide) (fun K hK => ?_)
            go_simp
            refine hK.out _ _ ⟨q7.alloc _, q8.alloc _, below_alloc qB _⟩ (fun hHeld => ?_)
            exact norm_ (by simp only [putAll, Act.put, List.setIfInBounds_toArray, List.set_cons_zero, List.set_cons_succ]) (hJ (D, d, W5.heap.size) _ ⟨hHeld, Kd.C_alloc hC5 _, box7_new _ _⟩)
          · go_simp
            refine hK.out _ _ ⟨q7.alloc _, q8.alloc _, below_alloc qB _⟩ (fun hHeld => ?_)
            clear hK K
            have hgn := box7_new W s
            generalize W.alloc _ = W1 at hHeld hgn ⊢
            clear q7 q8 qB
            obtain ⟨q7, q8, qB⟩ := id hHeld
            refine one_ (i := 1) (N := some 51) #[true, true, true, true, true, true, false, false, false, false, false, false, false, false, false, false, false, false, false, false, false, false, false, false, false, false, false, false, false, false, false, false] rfl rfl (one_of HT_.out (by kernel_rfl)) (by decide) (fun K hK => ?_)
            refine goes_ Try.func41 (by kernel_rfl) rfl #[.slice A rows.length c] (by rfl) rfl rfl (by (try simp only [List.map_toArray, List.map_cons, List.map_nil]); first | done | rfl) ?_
            (with_reducible refine (rows41 _ rows A c HP.out hr40 (Kd.C_below HC.out qB)).mono ?_)
            rintro e W5 hM5
            obtain ⟨D, d, rfl, hd, hC5, hB5⟩ := hM5.C
            clear hM5
            refine ⟨_, rfl, ?_⟩
            refine hK.out _ _ ⟨BoxT.below q7 hB5, BoxT.below q8 hB5, below_step qB hB5⟩ (fun hHeld => ?_)
            exact norm_ (by simp only [putAll, Act.put, List.setIfInBounds_toArray, List.set_cons_zero, List.set_cons_succ]) (hJ (D, d, W.heap.size) _ ⟨hHeld, hC5, BoxT.below hgn hB5⟩)
        clear hHeld
        rintro ⟨D, d, g⟩ W ⟨hHeld, hC5, hg⟩
        simp only at hC5 hg
        simp only [putAll, Act.put, List.setIfInBounds_toArray, List.set_cons_zero, List.set_cons_succ]
        obtain ⟨q7, q8, qB⟩ := id hHeld
        refine one_ (i := 6) (N := some 56) #[true, true, true, true, true, true, true, false, false, false, false, false, false, false, false, false, false, false, false, false, false, false, false, false, false, false, false, false, false, false, false, false] rfl rfl (one_of HT_.out (by kernel_rfl)) (by decide) (fun K hK => ?_)
        refine goes_ Try.func44 (by kernel_rfl) rfl #[.slice D rows.length d, .slice (some ⟨g, 0, none⟩) 1 1, .int .i64 (s - 1)] (by rfl) rfl rfl (by (try simp only [List.map_toArray, List.map_cons, List.map_nil]); first | done | rfl) ?_
        (with_reducible refine (apply1 _ rows D d g s hr40 HP.out hC5 Hall.out hg).mono ?_)
        rintro e W5 ⟨⟨E, ce, rfl⟩, hB5⟩
        refine ⟨_, rfl, ?_⟩
        refine hK.out _ _ ⟨BoxT.below q7 hB5, BoxT.below q8 hB5, below_step qB hB5⟩ (fun hHeld => ?_)
        clear hK K
        skip
        simp only [Act.put, List.setIfInBounds_toArray, List.set_cons_zero, List.set_cons_succ]
        clear hC5 hg hB5 q7 q8 qB
        rename World => W
        refine pure_ (i := 7) (N := some 57) (v := ?_) (a' := ?_) #[true, true, true, true, true, true, true, true, false, false, false, false, false, false, false, false, false, false, false, false, false, false, false, false, false, false, false, false, false, false, false, false] rfl rfl (any_of HT_.out (by kernel_rfl)) (fun _ _ _ h => h) (Or.inl ⟨by rfl, ?_⟩) ?_ ?_
        rotate_left
        · intro w'
          go_simp
          with_reducible rfl
        rotate_left
        · simp only [Act.put, List.setIfInBounds_toArray, List.set_cons_zero, List.set_cons_succ, i64_w, i32_w]
          rfl
        refine pure_ (i := 8) (N := some 58) (v := ?_) (a' := ?_) #[true, true, true, true, true, true, true, true, true, false, false, false, false, false, false, false, false, false, false, false, false, false, false, false, false, false, false, false, false, false, false, false] rfl rfl (any_of HT_.out (by kernel_rfl)) (fun _ _ _ h => h) (Or.inl ⟨by rfl, ?_⟩) ?_ ?_
        rotate_left
        · intro w'
          go_simp
          with_reducible rfl
        rotate_left
        · simp only [Act.put, List.setIfInBounds_toArray, List.set_cons_zero, List.set_cons_succ, i64_w, i32_w]
          rfl
        refine pure_ (i := 9) (N := some 59) (v := ?_) (a' := ?_) #[true, true, true, true, true, true, true, true, true, true, false, false, false, false, false, false, false, false, false, false, false, false, false, false, false, false, false, false, false, false, false, false] rfl rfl (any_of HT_.out (by kernel_rfl)) (fun _ _ _ h => h) (Or.inl ⟨by rfl, ?_⟩) ?_ ?_
        rotate_left
        · intro w'
          go_simp
          with_reducible rfl
        rotate_left
        · simp only [Act.put, List.setIfInBounds_toArray, List.set_cons_zero, List.set_cons_succ, i64_w, i32_w]
          rfl
        refine pure_ (i := 10) (N := some 60) (v := ?_) (a' := ?_) #[true, true, true, true, true, true, true, true, true, true, true, false, false, false, false, false, false, false, false, false, false, false, false, false, false, false, false, false, false, false, false, false] rfl rfl (any_of HT_.out (by kernel_rfl)) (fun _ _ _ h => h) (Or.inl ⟨by rfl, ?_⟩) ?_ ?_
        rotate_left
        · intro w'
          go_simp
          with_reducible rfl
        rotate_left
        · simp only [Act.put, List.setIfInBounds_toArray, List.set_cons_zero, List.set_cons_succ, i64_w, i32_w]
          rfl
        refine pure_ (i := 15) (N := some 65) (v := ?_) (a' := ?_) #[true, true, true, true, true, true, true, true, true, true, true, false, false, false, false, true, false, false, false, false, false, false, false, false, false, false, false, false, false, false, false, false] rfl rfl (any_of HT_.out (by kernel_rfl)) (fun _ _ _ h => h) (Or.inl ⟨by rfl, ?_⟩) ?_ ?_
        rotate_left
        · intro w'
          go_simp
          with_reducible rfl
        rotate_left
        · simp only [Act.put, List.setIfInBounds_toArray, List.set_cons_zero, List.set_cons_succ, i64_w, i32_w]
          rfl
        refine take_ (i := 12) (N := some 62) (v := ?_) (a' := ?_) #[true, true, true, true, true, true, true, true, true, true, true, false, true, false, false, true, false, false, false, false, false, false, false, false, false, false, false, false, false, false, false, false] rfl rfl (take_of HT_.out (by kernel_rfl)) (fun _ _ _ h => h) (Or.inl ⟨by rfl, ?_⟩) hHeld ?_ ?_
        rotate_left
        · rintro w' ⟨s7, s8, -⟩
          obtain ⟨a0, a1, a2, a3, a4, a5, a6, a7⟩ := s7.all
          obtain ⟨b0, b1, b2, b3, b4, b5, b6, b7⟩ := s8.all
          go_simp
          with_reducible rfl
        rotate_left
        · simp only [Act.put, List.setIfInBounds_toArray, List.set_cons_zero, List.set_cons_succ, i64_w, i32_w]
          rfl
        refine join_ (σ := Option Addr × Nat × Nat) 17 #[true, true, true, true, true, true, true, true, true, true, true, true, true, true, false, true, false, false, false, false, false, false, false, false, false, false, false, false, false, false, false, false] (fun q => [(61, .slice q.1 rows.length q.2.1), (63, .slice (some ⟨q.2.2, 0, none⟩) 1 1)]) (fun q w' => (Box7 w' g7 s ∧ Box8 w' (g7 + 1) s ∧ Below w.heap.size w w') ∧ Kd.C k37 w' q.1 rows.length rows ∧ Box8 w' q.2.2 s) ?_ (fun hJ => ?_)
        rotate_left
        · obtain ⟨q7, q8, qB⟩ := id hHeld
          refine two_ (i := 11) (j := 13) (Ni := some 61) (Nj := some 63) #[true, true, true, true, true, true, true, true, true, true, true, true, true, false, false, true, false, false, false, false, false, false, false, false, false, false, false, false, false, false, false, false] #[true, true, true, true, true, true, true, true, true, true, true, false, true, true, false, true, false, false, false, false, false, false, false, false, false, false, false, false, false, false, false, false] rfl rfl rfl rfl (two_of HT_.out (by kernel_rfl)) (by decide) (by decide) (fun K hK => ?_) (fun K hK => ?_)
          · refine goes_ Try.func41 (by kernel_rfl) rfl #[.slice A rows.length c] (by rfl) rfl rfl (by (try simp only [List.map_toArray, List.map_cons, List.map_nil]); first | done | rfl) ?_
            (with_reducible refine (rows41 _ rows A c HP.out hr40 (Kd.C_below HC.out qB)).mono ?_)
            rintro e W5 hM5
            obtain ⟨D, d, rfl, hd, hC5, hB5⟩ := hM5.C
            clear hM5
            refine ⟨_, rfl, ?_⟩
            refine hK.out _ _ ⟨BoxT.below q7 hB5, BoxT.below q8 hB5, below_step qB hB5⟩ (fun hHeld => ?_)
            clear hK K q7 q8 qB
            obtain ⟨q7, q8, qB⟩ := id hHeld
            simp only [Act.put, List.setIfInBounds_toArray, List.set_cons_zero, List.set_cons_succ]
            refine one_ (i := 13) (N := some 63) #[true, true, true, true, true, true, true, true, true, true, true, true, true, true, false, true, false, false, false, false, false, false, false, false, false, false, false, false, false, false, false, false] rfl rfl (one_of HT_.out (by kernel_rfl)) (by decide) (fun K hK => ?_)
            go_simp
            refine hK.out _ _ ⟨q7.alloc _, q8.alloc _, below_alloc qB _⟩ (fun hHeld => ?_)
            exact norm_ (by simp only [putAll, Act.put, List.setIfInBounds_toArray, List.set_cons_zero, List.set_cons_succ]) (hJ (D, d, W5.heap.size) _ ⟨hHeld, Kd.C_alloc hC5 _, box8_new _ _⟩)
          · go_simp
            refine hK.out _ _ ⟨q7.alloc _, q8.alloc _, below_alloc qB _⟩ (fun hHeld => ?_)
            clear hK K
            have hgn := box8_new W s
            generalize W.alloc _ = W1 at hHeld hgn ⊢
            clear q7 q8 qB
            obtain ⟨q7, q8, qB⟩ := id hHeld
            refine one_ (i := 11) (N := some 61) #[true, true, true, true, true, true, true, true, true, true, true, true, true, true, false, true, false, false, false, false, false, false, false, false, false, false, false, false, false, false, false, false] rfl rfl (one_of HT_.out (by kernel_rfl)) (by decide) (fun K hK => ?_)
            refine goes_ Try.func41 (by kernel_rfl) rfl #[.slice A rows.length c] (by rfl) rfl rfl (by (try simp only [List.map_toArray, List.map_cons, List.map_nil]); first | done | rfl) ?_
            (with_reducible refine (rows41 _ rows A c HP.out hr40 (Kd.C_below HC.out qB)).mono ?_)
            rintro e W5 hM5
            obtain ⟨D, d, rfl, hd, hC5, hB5⟩ := hM5.C
            clear hM5
            refine ⟨_, rfl, ?_⟩
            refine hK.out _ _ ⟨BoxT.below q7 hB5, BoxT.below q8 hB5, below_step qB hB5⟩ (fun hHeld => ?_)
            exact norm_ (by simp only [putAll, Act.put, List.setIfInBounds_toArray, List.set_cons_zero, List.set_cons_succ]) (hJ (D, d, W.heap.size) _ ⟨hHeld, hC5, BoxT.below hgn hB5⟩)
        clear hHeld
        rintro ⟨D, d, g⟩ W ⟨hHeld, hC5, hg⟩
        simp only at hC5 hg
        simp only [putAll, Act.put, List.setIfInBounds_toArray, List.set_cons_zero, List.set_cons_succ]
        obtain ⟨q7, q8, qB⟩ := id hHeld
        refine one_ (i := 14) (N := some 64) #[true, true, true, true, true, true, true, true, true, true, true, true, true, true, true, true, false, false, false, false, false, false, false, false, false, false, false, false, false, false, false, false] rfl rfl (one_of HT_.out (by kernel_rfl)) (by decide) (fun K hK => ?_)
        refine goes_ Try.func44 (by kernel_rfl) rfl #[.slice D rows.length d, .slice (some ⟨g, 0, none⟩) 1 1, .int .i64 0] (by rfl) rfl rfl (by (try simp only [List.map_toArray, List.map_cons, List.map_nil]); first | done | rfl) ?_
        (with_reducible refine (apply2 _ rows D d g s hr40 HP.out hC5 hg).mono ?_)
        rintro e W5 hM5
        obtain ⟨D, d, rfl, hd, hC5, hB5⟩ := hM5.C
        clear hM5
        refine ⟨_, rfl, ?_⟩
        refine hK.out _ _ ⟨BoxT.below q7 hB5, BoxT.below q8 hB5, below_step qB hB5⟩ (fun hHeld => ?_)
        clear hK K
        skip
        simp only [Act.put, List.setIfInBounds_toArray, List.set_cons_zero, List.set_cons_succ]
        clear hB5 q7 q8 qB
        obtain ⟨q7, q8, qB⟩ := id hHeld
        refine one_ (i := 16) (N := some 66) #[true, true, true, true, true, true, true, true, true, true, true, true, true, true, true, true, true, false, false, false, false, false, false, false, false, false, false, false, false, false, false, false] rfl rfl (one_of HT_.out (by kernel_rfl)) (by decide) (fun K hK => ?_)
        refine goes_ Try.func43 (by kernel_rfl) rfl #[.slice D rows.length d, .slice A rows.length c] (by rfl) rfl rfl (by (try simp only [List.map_toArray, List.map_cons, List.map_nil]); first | done | rfl) ?_
        (with_reducible refine (sameRows43 _ rows D d A c hr40 HP.out hC5 (Kd.C_below HC.out qB)).mono ?_)
        rintro e W5 ⟨rfl, hB5⟩
        refine ⟨_, rfl, ?_⟩
        refine hK.out _ _ ⟨BoxT.below q7 hB5, BoxT.below q8 hB5, below_step qB hB5⟩ (fun hHeld => ?_)
        clear hK K
        skip
        simp only [Act.put, List.setIfInBounds_toArray, List.set_cons_zero, List.set_cons_succ]
        clear hC5 hB5 q7 q8 qB
        rename World => W
        refine pure_ (i := 17) (N := some 67) (v := ?_) (a' := ?_) #[true, true, true, true, true, true, true, true, true, true, true, true, true, true, true, true, true, true, false, false, false, false, false, false, false, false, false, false, false, false, false, false] rfl rfl (any_of HT_.out (by kernel_rfl)) (fun _ _ _ h => h) (Or.inl ⟨by rfl, ?_⟩) ?_ ?_
        rotate_left
        · intro w'
          go_simp
          with_reducible rfl
        rotate_left
        · simp only [Act.put, List.setIfInBounds_toArray, List.set_cons_zero, List.set_cons_succ, i64_w, i32_w]
          rfl
        refine pure_ (i := 18) (N := some 68) (v := ?_) (a' := ?_) #[true, true, true, true, true, true, true, true, true, true, true, true, true, true, true, true, true, true, true, false, false, false, false, false, false, false, false, false, false, false, false, false] rfl rfl (any_of HT_.out (by kernel_rfl)) (fun _ _ _ h => h) (Or.inl ⟨by rfl, ?_⟩) ?_ ?_
        rotate_left
        · intro w'
          go_simp
          with_reducible rfl
        rotate_left
        · simp only [Act.put, List.setIfInBounds_toArray, List.set_cons_zero, List.set_cons_succ, i64_w, i32_w]
          rfl
        refine pure_ (i := 19) (N := some 69) (v := ?_) (a' := ?_) #[true, true, true, true, true, true, true, true, true, true, true, true, true, true, true, true, true, true, true, true, false, false, false, false, false, false, false, false, false, false, false, false] rfl rfl (any_of HT_.out (by kernel_rfl)) (fun _ _ _ h => h) (Or.inl ⟨by rfl, ?_⟩) ?_ ?_
        rotate_left
        · intro w'
          go_simp
          with_reducible rfl
        rotate_left
        · simp only [Act.put, List.setIfInBounds_toArray, List.set_cons_zero, List.set_cons_succ, i64_w, i32_w]
          rfl
        refine pure_ (i := 23) (N := some 73) (v := ?_) (a' := ?_) #[true, true, true, true, true, true, true, true, true, true, true, true, true, true, true, true, true, true, true, true, false, false, false, true, false, false, false, false, false, false, false, false] rfl rfl (any_of HT_.out (by kernel_rfl)) (fun _ _ _ h => h) (Or.inl ⟨by rfl, ?_⟩) ?_ ?_
        rotate_left
        · intro w'
          go_simp
          with_reducible rfl
        rotate_left
        · simp only [Act.put, List.setIfInBounds_toArray, List.set_cons_zero, List.set_cons_succ, i64_w, i32_w]
          rfl
        refine pure_ (i := 25) (N := some 75) (v := ?_) (a' := ?_) #[true, true, true, true, true, true, true, true, true, true, true, true, true, true, true, true, true, true, true, true, false, false, false, true, false, true, false, false, false, false, false, false] rfl rfl (any_of HT_.out (by kernel_rfl)) (fun _ _ _ h => h) (Or.inl ⟨by rfl, ?_⟩) ?_ ?_
        rotate_left
        · intro w'
          go_simp
          with_reducible rfl
        rotate_left
        · simp only [Act.put, List.setIfInBounds_toArray, List.set_cons_zero, List.set_cons_succ, i64_w, i32_w]
          rfl
        refine take_ (i := 21) (N := some 71) (v := ?_) (a' := ?_) #[true, true, true, true, true, true, true, true, true, true, true, true, true, true, true, true, true, true, true, true, false, true, false, true, false, true, false, false, false, false, false, false] rfl rfl (take_of HT_.out (by kernel_rfl)) (fun _ _ _ h => h) (Or.inl ⟨by rfl, ?_⟩) hHeld ?_ ?_
        rotate_left
        · rintro w' ⟨s7, s8, -⟩
          obtain ⟨a0, a1, a2, a3, a4, a5, a6, a7⟩ := s7.all
          obtain ⟨b0, b1, b2, b3, b4, b5, b6, b7⟩ := s8.all
          go_simp
          with_reducible rfl
        rotate_left
        · simp only [Act.put, List.setIfInBounds_toArray, List.set_cons_zero, List.set_cons_succ, i64_w, i32_w]
          rfl
        refine join_ (σ := Option Addr × Nat × Nat) 7 #[true, true, true, true, true, true, true, true, true, true, true, true, true, true, true, true, true, true, true, true, true, true, true, true, false, true, false, false, false, false, false, false] (fun q => [(70, .slice q.1 rows.length q.2.1), (72, .slice (some ⟨q.2.2, 0, none⟩) 1 1)]) (fun q w' => (Box7 w' g7 s ∧ Box8 w' (g7 + 1) s ∧ Below w.heap.size w w') ∧ Kd.C k37 w' q.1 rows.length rows ∧ Box7 w' q.2.2 s) ?_ (fun hJ => ?_)
        rotate_left
        · obtain ⟨q7, q8, qB⟩ := id hHeld
          refine two_ (i := 20) (j := 22) (Ni := some 70) (Nj := some 72) #[true, true, true, true, true, true, true, true, true, true, true, true, true, true, true, true, true, true, true, true, true, true, false, true, false, true, false, false, false, false, false, false] #[true, true, true, true, true, true, true, true, true, true, true, true, true, true, true, true, true, true, true, true, false, true, true, true, false, true, false, false, false, false, false, false] rfl rfl rfl rfl (two_of HT_.out (by kernel_rfl)) (by decide) (by decide) (fun K hK => ?_) (fun K hK => ?_)
          · refine goes_ Try.func41 (by kernel_rfl) rfl #[.slice A rows.length c] (by rfl) rfl rfl (by (try simp only [List.map_toArray, List.map_cons, List.map_nil]); first | done | rfl) ?_
            (with_reducible refine (rows41 _ rows A c HP.out hr40 (Kd.C_below HC.out qB)).mono ?_)
            rintro e W5 hM5
            obtain ⟨D, d, rfl, hd, hC5, hB5⟩ := hM5.C
            clear hM5
            refine ⟨_, rfl, ?_⟩
            refine hK.out _ _ ⟨BoxT.below q7 hB5, BoxT.below q8 hB5, below_step qB hB5⟩ (fun hHeld => ?_)
            clear hK K q7 q8 qB
            obtain ⟨q7, q8, qB⟩ := id hHeld
            simp only [Act.put, List.setIfInBounds_toArray, List.set_cons_zero, List.set_cons_succ]
            refine one_ (i := 22) (N := some 72) #[true, true, true, true, true, true, true, true, true, true, true, true, true, true, true, true, true, true, true, true, true, true, true, true, false, true, false, false, false, false, false, false] rfl rfl (one_of HT_.out (by kernel_rfl)) (by decide) (fun K hK => ?_)
            go_simp
            refine hK.out _ _ ⟨q7.alloc _, q8.alloc _, below_alloc qB _⟩ (fun hHeld => ?_)
            exact norm_ (by simp only [putAll, Act.put, List.setIfInBounds_toArray, List.set_cons_zero, List.set_cons_succ]) (hJ (D, d, W5.heap.size) _ ⟨hHeld, Kd.C_alloc hC5 _, box7_new _ _⟩)
          · go_simp
            refine hK.out _ _ ⟨q7.alloc _, q8.alloc _, below_alloc qB _⟩ (fun hHeld => ?_)
            clear hK K
            have hgn := box7_new W s
            generalize W.alloc _ = W1 at hHeld hgn ⊢
            clear q7 q8 qB
            obtain ⟨q7, q8, qB⟩ := id hHeld
            refine one_ (i := 20) (N := some 70) #[true, true, true, true, true, true, true, true, true, true, true, true, true, true, true, true, true, true, true, true, true, true, true, true, false, true, false, false, false, false, false, false] rfl rfl (one_of HT_.out (by kernel_rfl)) (by decide) (fun K hK => ?_)
            refine goes_ Try.func41 (by kernel_rfl) rfl #[.slice A rows.length c] (by rfl) rfl rfl (by (try simp only [List.map_toArray, List.map_cons, List.map_nil]); first | done | rfl) ?_
            (with_reducible refine (rows41 _ rows A c HP.out hr40 (Kd.C_below HC.out qB)).mono ?_)
            rintro e W5 hM5
            obtain ⟨D, d, rfl, hd, hC5, hB5⟩ := hM5.C
            clear hM5
            refine ⟨_, rfl, ?_⟩
            refine hK.out _ _ ⟨BoxT.below q7 hB5, BoxT.below q8 hB5, below_step qB hB5⟩ (fun hHeld => ?_)
            exact norm_ (by simp only [putAll, Act.put, List.setIfInBounds_toArray, List.set_cons_zero, List.set_cons_succ]) (hJ (D, d, W.heap.size) _ ⟨hHeld, hC5, BoxT.below hgn hB5⟩)
        clear hHeld
        rintro ⟨D, d, g⟩ W ⟨hHeld, hC5, hg⟩
        simp only at hC5 hg
        simp only [putAll, Act.put, List.setIfInBounds_toArray, List.set_cons_zero, List.set_cons_succ]
        obtain ⟨q7, q8, qB⟩ := id hHeld
        refine one_ (i := 24) (N := some 74) #[true, true, true, true, true, true, true, true, true, true, true, true, true, true, true, true, true, true, true, true, true, true, true, true, true, true, false, false, false, false, false, false] rfl rfl (one_of HT_.out (by kernel_rfl)) (by decide) (fun K hK => ?_)
        refine goes_ Try.func44 (by kernel_rfl) rfl #[.slice D rows.length d, .slice (some ⟨g, 0, none⟩) 1 1, .int .i64 s] (by rfl) rfl rfl (by (try simp only [List.map_toArray, List.map_cons, List.map_nil]); first | done | rfl) ?_
        (with_reducible refine (apply3 _ rows D d g s hr40 HP.out hC5 hg).mono ?_)
        rintro e W5 hM5
        obtain ⟨D, d, rfl, hd, hC5, hB5⟩ := hM5.C
        clear hM5
        refine ⟨_, rfl, ?_⟩
        refine hK.out _ _ ⟨BoxT.below q7 hB5, BoxT.below q8 hB5, below_step qB hB5⟩ (fun hHeld => ?_)
        clear hK K
        skip
        simp only [Act.put, List.setIfInBounds_toArray, List.set_cons_zero, List.set_cons_succ]
        clear hB5 q7 q8 qB
        obtain ⟨q7, q8, qB⟩ := id hHeld
        refine one_ (i := 26) (N := some 76) #[true, true, true, true, true, true, true, true, true, true, true, true, true, true, true, true, true, true, true, true, true, true, true, true, true, true, true, false, false, false, false, false] rfl rfl (one_of HT_.out (by kernel_rfl)) (by decide) (fun K hK => ?_)
        refine goes_ Try.func43 (by kernel_rfl) rfl #[.slice D rows.length d, .slice A rows.length c] (by rfl) rfl rfl (by (try simp only [List.map_toArray, List.map_cons, List.map_nil]); first | done | rfl) ?_
        (with_reducible refine (sameRows43 _ rows D d A c hr40 HP.out hC5 (Kd.C_below HC.out qB)).mono ?_)
        rintro e W5 ⟨rfl, hB5⟩
        refine ⟨_, rfl, ?_⟩
        refine hK.out _ _ ⟨BoxT.below q7 hB5, BoxT.below q8 hB5, below_step qB hB5⟩ (fun hHeld => ?_)
        clear hK K
        skip
        simp only [Act.put, List.setIfInBounds_toArray, List.set_cons_zero, List.set_cons_succ]
        clear hC5 hB5 q7 q8 qB
        refine pure_ (i := 27) (N := some 77) (v := ?_) (a' := ?_) #[true, true, true, true, true, true, true, true, true, true, true, true, true, true, true, true, true, true, true, true, true, true, true, true, true, true, true, true, false, false, false, false] rfl rfl (any_of HT_.out (by kernel_rfl)) (fun _ _ _ h => h) (Or.inl ⟨by rfl, ?_⟩) ?_ ?_
        rotate_left
        · intro w'
          go_simp
          with_reducible rfl
        rotate_left
        · simp only [Act.put, List.setIfInBounds_toArray, List.set_cons_zero, List.set_cons_succ, i64_w, i32_w]
          rfl
        refine pure_ (i := 28) (N := some 78) (v := ?_) (a' := ?_) #[true, true, true, true, true, true, true, true, true, true, true, true, true, true, true, true, true, true, true, true, true, true, true, true, true, true, true, true, true, false, false, false] rfl rfl (any_of HT_.out (by kernel_rfl)) (fun _ _ _ h => h) (Or.inl ⟨by rfl, ?_⟩) ?_ ?_
        rotate_left
        · intro w'
          go_simp
          with_reducible rfl
        rotate_left
        · simp only [Act.put, List.setIfInBounds_toArray, List.set_cons_zero, List.set_cons_succ, i64_w, i32_w]
          rfl
        obtain ⟨q7, q8, qB⟩ := id hHeld
        refine one_ (i := 29) (N := some 79) #[true, true, true, true, true, true, true, true, true, true, true, true, true, true, true, true, true, true, true, true, true, true, true, true, true, true, true, true, true, true, false, false] rfl rfl (one_of HT_.out (by kernel_rfl)) (by decide) (fun K hK => ?_)
        refine goes_ Try.func32 (by kernel_rfl) rfl #[] (by rfl) rfl rfl (by (try simp only [List.map_toArray, List.map_cons, List.map_nil]); first | done | rfl) ?_
        (with_reducible refine (awake32 _).mono ?_)
        rintro e W5 ⟨rfl, hB5⟩
        refine ⟨_, rfl, ?_⟩
        refine hK.out _ _ ⟨BoxT.below q7 hB5, BoxT.below q8 hB5, below_step qB hB5⟩ (fun hHeld => ?_)
        clear hK K
        skip
        simp only [Act.put, List.setIfInBounds_toArray, List.set_cons_zero, List.set_cons_succ]
        refine pure_ (i := 30) (N := some 80) (v := ?_) (a' := ?_) #[true, true, true, true, true, true, true, true, true, true, true, true, true, true, true, true, true, true, true, true, true, true, true, true, true, true, true, true, true, true, true, false] rfl rfl (any_of HT_.out (by kernel_rfl)) (fun _ _ _ h => h) (Or.inl ⟨by rfl, ?_⟩) ?_ ?_
        rotate_left
        · intro w'
          go_simp
          with_reducible rfl
        rotate_left
        · simp only [Act.put, List.setIfInBounds_toArray, List.set_cons_zero, List.set_cons_succ, i64_w, i32_w]
          rfl
        refine pure_ (i := 31) (N := some 4) (v := ?_) (a' := ?_) #[true, true, true, true, true, true, true, true, true, true, true, true, true, true, true, true, true, true, true, true, true, true, true, true, true, true, true, true, true, true, true, true] rfl rfl (any_of HT_.out (by kernel_rfl)) (fun _ _ _ h => h) (Or.inl ⟨by rfl, ?_⟩) ?_ ?_
        rotate_left
        · intro w'
          go_simp
          with_reducible rfl
        rotate_left
        · simp only [Act.put, List.setIfInBounds_toArray, List.set_cons_zero, List.set_cons_succ, i64_w, i32_w]
          rfl
        refine done_ (done_of HT_.out (by kernel_rfl)) ?_
        have hBt := hHeld.2.2
        go_wp2
        go_ret
        exact ⟨rfl, hBt⟩
end Go.Proofs.Yteafilojjdfllaa
