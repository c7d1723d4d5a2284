/- Own text: the law TombOrder, walked. -/
import Derived.Test.YteafilojjdfllaaApp
namespace Go.Proofs.Yteafilojjdfllaa
open Go Go.RowKit Go.Proofs.YteafilojjdfllaaW.PrintWords Go.Proofs.YteafilojjdfllaaW.PrintLast Go.Proofs.YteafilojjdfllaaW.PrintMore Go.Proofs.Yteafilojjdfllaa.PAll
attribute [local go_sem] max2_int max_two

theorem info27s : ∃ i, Try.prog.info? 27 = some i ∧ i.size = 8 := by
  have h := info27r
  cases hi : Try.prog.info? 27 with
  | none => rw [hi] at h; cases h
  | some i => rw [hi] at h; simp only [Option.map_some, Option.some.injEq, Prod.mk.injEq] at h; exact ⟨i, rfl, h.2.1⟩
set_option maxRecDepth 100000 in
set_option maxHeartbeats 8000000 in
theorem tombOrder_walk (w : World) (rows : List S37) (A : Option Addr) (c : Nat) (l : List S27) (B : Option Addr) (d : Nat) (at_ done : Int) (hp : ∀ r ∈ rows, RowSz r)
    (hC : Kd.C k37 w A rows.length rows) (hd : l.length ≤ d) (hD : Kd.C k27 w B l.length l) :
    Calls Try.prog 5 #[.slice A rows.length c, .slice B l.length d, .int .i64 at_, .int .i64 done] w fun e w' => e = .returned (.bool true) ∧ Below w.heap.size w w' := by
  have HC := Lib.hid hC
  have HD := Lib.hid hD
  have HP := Lib.hid hp
  clear hC hD hp
  go_enter Try.func5, Try.ntmps5
  go_wp2_with fail
  (with_reducible refine (small40 _ l B d HD.out).mono ?_)
  rintro e w1 ⟨⟨v, rfl, hok⟩, hB1⟩
  cases v with
  | false =>
    clear hok
    go_wp2_with fail
    (with_reducible refine (awake32 _).mono ?_)
    rintro e w2 ⟨rfl, hB2⟩
    go_wp2
    go_ret
    exact ⟨rfl, below_step hB1 hB2⟩
  | true =>
    obtain ⟨hl40, hOK⟩ := hok rfl
    have HOK := Lib.hid hOK
    clear hok hOK
    by_cases hn : (rows.length : Int) > 30
    · go_wp2_with fail
      (with_reducible refine (awake32 _).mono ?_)
      rintro e w2 ⟨rfl, hB2⟩
      go_wp2
      go_ret
      exact ⟨rfl, below_step hB1 hB2⟩
    · have hr40 : rows.length ≤ 1000 := by omega
      have hl1000 : l.length ≤ 1000 := by omega
      have hw1 : wrap64 ((l.length : Int) + 1) = (l.length : Int) + 1 := by unfold wrap64; omega
      go_wp2_with fail
      (with_reducible refine (place46 _ at_ _ (by omega) (by omega)).mono ?_)
      rintro e w2 ⟨i, rfl, hi, hB2⟩
      have hi' : i ≤ l.length := by omega
      have hB2' := below_step hB1 hB2
      obtain ⟨i27, hi27, hs27⟩ := info27s
      have s1 := cut_from (P := Try.prog) 45 27 .i64 Try.underlying45 hi27 8 hs27 B l.length d (i : Int) (by omega) (by omega)
      have s2 := cut_to (P := Try.prog) 45 27 .i64 Try.underlying45 hi27 B l.length d (i : Int) (by omega) (by omega) hd
      simp only [Int.toNat_natCast] at s1 s2
      have hDr : Kd.C k27 w (if d = i then B else B.map (·.add (i * 8))) (l.drop i).length (l.drop i) := Kd.C_drop HD.out hi' hd
      obtain ⟨B', eB'⟩ : ∃ B', (if d = i then B else B.map (·.add (i * 8))) = B' := ⟨_, rfl⟩
      rw [eB'] at s1 hDr
      clear eB'
      have HDr := Lib.hid hDr
      clear hDr
      have hlenD : (l.drop i).length = l.length - i := List.length_drop
      have hlenT : (l.take i).length = i := by rw [List.length_take]; omega
      have hnD : ∀ t ∈ l.drop i, nodesM t.f1 ≤ 1000 := fun t ht => HOK.out.nodes t (List.mem_of_mem_drop ht)
      have hnT : ∀ t ∈ l.take i, nodesM t.f1 ≤ 1000 := fun t ht => HOK.out.nodes t (List.mem_of_mem_take ht)
      have HND := Lib.hid hnD
      have HNT := Lib.hid hnT
      clear hnD hnT
      have hlenA : (applyB rows (l.drop i) done).length ≤ 1000 := Nat.le_trans apply_len hr40
      go_wp2_with fail
      go_region_with (first
        | (go_at_call 41; (with_reducible refine (rows41 _ rows A c HP.out hr40 (Kd.C_below HC.out (below_drew hB2'))).mono ?_); rintro e w4 hM4; obtain ⟨D4, d4, rfl, hd4, hC4, hB4⟩ := hM4.C; clear hM4; have hB4' := below_step (below_drew hB2') hB4)
        | (go_at_call 44; first
          | ((with_reducible refine (Apply44n _ rows D4 d4 (l.drop i) _ _ _ done hr40 (by omega) HP.out HND.out hC4 (Kd.C_below HDr.out hB4') hlenD.symm).mono ?_); rintro e w5 hM5; obtain ⟨D5, d5, rfl, hd5, hC5, hB5⟩ := hM5.C; clear hM5; have hB5' := below_step hB4' hB5)
          | ((with_reducible refine (Apply44n _ _ D5 d5 (l.take i) _ _ _ done hlenA (by omega) (apply_sz HP.out) HNT.out hC5 (Kd.C_below (Kd.C_take HD.out hi') hB5') hlenT.symm).mono ?_); rintro e w6 hM6; rw [apply_apply] at hM6; obtain ⟨D6, d6, rfl, hd6, hC6, hB6⟩ := hM6.C; clear hM6; have hB6' := below_step hB5' hB6)))
      go_wp2_with fail
      (with_reducible refine (rows41 _ rows A c HP.out hr40 (Kd.C_below HC.out hB6')).mono ?_)
      rintro e w7 hM7
      obtain ⟨D7, d7, rfl, hd7, hC7, hB7⟩ := hM7.C
      clear hM7
      have hB7' := below_step hB6' hB7
      go_wp2_with fail
      (with_reducible refine (Apply44 _ rows D7 d7 l B d done hr40 hl1000 HP.out HOK.out.nodes hC7 (Kd.C_below HD.out hB7')).mono ?_)
      rintro e w8 hM8
      obtain ⟨D8, d8, rfl, hd8, hC8, hB8⟩ := hM8.C
      clear hM8
      have hB8' := below_step hB7' hB8
      have hlenB : (applyB rows l done).length ≤ 1000 := Nat.le_trans apply_len hr40
      go_wp2_with fail
      (with_reducible refine (sameRows43 _ _ D6 d6 D8 d8 hlenB (apply_sz HP.out) (Kd.C_below (Kd.C_below hC6 hB7) hB8) hC8).mono ?_)
      rintro e w9 ⟨rfl, hB9⟩
      have hB9' := below_step hB8' hB9
      clear hC4 hC5 hC6 hC7 hC8 hB4 hB5 hB6 hB7 hB8 hB9 hB4' hB5' hB6' hB7' hB8' hB2 hB1 hd4 hd5 hd6 hd7 hd8 s1 s2 hlenD hlenT HND HNT HDr hlenA hlenB
      go_wp2
      go_loopw [11, 12] (fun u11 u12 wr => ∃ (j : Nat) (mx : Int), u11 = .int .i64 mx ∧ u12 = .int .i64 j ∧ j ≤ l.length ∧ (∀ t ∈ l.take j, t.f0 ≤ mx) ∧ Below w.heap.size w wr)
        (fun _ u12 _ => l.length - (intOf u12).toNat)
      case atStart => exact ⟨0, done, rfl, rfl, Nat.zero_le _, by simp, by repeat (first | exact hB9' | apply pw_below_drewN | apply below_drew)⟩
      case round =>
        obtain ⟨j, mx, rfl, rfl, hj, hall, hB⟩ := hrel
        by_cases hlt : j < l.length
        · obtain ⟨ad, B3, e3, B4, e4, rfl, k0, k1, k2, k3, k4, k5, k6, k7, l3', g3', l4', g4'⟩ := at_T27 (Kd.C_below HD.out hB) (j : Int) (by omega) (by omega)
          simp only [Int.toNat_natCast, show rd_T27 l (j : Int) = l.getD j z27 by simp [rd_T27]] at k0
          clear k1 k2 k3 k4 k5 k6 k7 l3' g3' l4' g4'
          have Htk := Lib.hid (take_snoc l z27 j hlt)
          obtain ⟨t, et⟩ : ∃ t, l.getD j z27 = t := ⟨_, rfl⟩
          rw [et] at k0 Htk
          clear et
          have Hall := Lib.hid hall
          clear hall
          go_wp2
          go_roundw
          case rel =>
            refine ⟨j + 1, max mx t.f0, by first | rfl | go_num, by go_num, by omega, ?_, by repeat (first | exact hB | apply pw_below_drewN | apply below_drew)⟩
            rw [Htk.out]
            intro y hy
            rcases List.mem_append.1 hy with hy | hy
            · have := Hall.out y hy; omega
            · rw [List.mem_singleton.1 hy]; omega
          case measure => simp [intOf]; omega
        · obtain rfl : j = l.length := by omega
          rw [List.take_length] at hall
          have Hall := Lib.hid hall
          clear hall
          go_wp2_with fail
          (with_reducible refine (rows41 _ rows A c HP.out hr40 (Kd.C_below HC.out hB)).mono ?_)
          rintro e w7 hM7
          obtain ⟨D7, d7, rfl, hd7, hC7, hB7⟩ := hM7.C
          clear hM7
          have hB7' := below_step hB hB7
          go_wp2_with fail
          (with_reducible refine (Apply44 _ rows D7 d7 l _ d mx hr40 hl1000 HP.out HOK.out.nodes hC7 (Kd.C_below HD.out hB7')).mono ?_)
          rintro e w8 hM8
          rw [apply_none Hall.out] at hM8
          obtain ⟨D8, d8, rfl, hd8, hC8, hB8⟩ := hM8.C
          clear hM8
          have hB8' := below_step hB7' hB8
          go_wp2_with fail
          (with_reducible refine (sameRows43 _ rows D8 d8 A c hr40 HP.out hC8 (Kd.C_below HC.out hB8')).mono ?_)
          rintro e w9 ⟨rfl, hB9⟩
          have hB9' := below_step hB8' hB9
          go_wp2_with fail
          (with_reducible refine (awake32 _).mono ?_)
          rintro e w10 ⟨rfl, hB10⟩
          go_wp2
          go_ret
          exact ⟨rfl, below_step hB9' hB10⟩
end Go.Proofs.Yteafilojjdfllaa
