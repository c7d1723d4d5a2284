/- Own text: RefCov, RefApply, laid into one text. -/
import Derived.Test.YteafilojjdfllaaTombB
import Derived.Test.YteafilojjdfllaaEvalR
import Derived.Test.YteafilojjdfllaaApp
namespace Go.Proofs.Yteafilojjdfllaa
section
open Go Go.RowKit Go.Proofs.YteafilojjdfllaaW.PrintWords Go.Proofs.YteafilojjdfllaaW.PrintLast Go.Proofs.YteafilojjdfllaaW.PrintMore Go.Proofs.Yteafilojjdfllaa.PAll

set_option maxRecDepth 100000 in
set_option maxHeartbeats 4000000 in
/-- varveref19.Covers, of a matcher that may be. -/
theorem refCovers39 (w : World) (t : S27) (r : S37) (A3 : Option Addr) (c3 : Nat) (A4 : Option Addr) (c4 : Nat) (A1 : Option Addr) (c1 : Nat) (A5 : Option Addr) (c5 : Nat) (A6 : Option Addr) (c6 : Nat) (v : Bool) (hv : coverB t r = v) (h1000 : nodesM t.f1 ≤ 1000) (hok : chkB t.f1 = true) (hM : MC w t.f1 A3 c3 A4 c4) (hl : r.f0.length ≤ 4000000000000000000) (h1 : r.f0.length ≤ c1) (g1 : Kd.C k68 w A1 r.f0.length r.f0) (h5 : r.f2.f0.length ≤ c5) (g5 : Kd.C k181 w A5 r.f2.f0.length r.f2.f0) (h6 : r.f2.f1.length ≤ c6) (g6 : Kd.C (Kd.int .u64) w A6 r.f2.f1.length r.f2.f1) :
    Calls Try.prog 39 #[.agg #[.int .i64 t.f0, .int .i64 t.f1.f0, .string t.f1.f1, .string t.f1.f2, .slice A3 t.f1.f3.length c3, .slice A4 t.f1.f4.length c4, .int .i64 t.f2, .int .i64 t.f3], .agg #[.slice A1 r.f0.length c1, .int .i64 r.f1, .slice A5 r.f2.f0.length c5, .slice A6 r.f2.f1.length c6, .int .u64 r.f2.f2.f0, .int .u64 r.f2.f2.f1, .int .u64 r.f2.f2.f2, .int .u64 r.f2.f2.f3]] w fun e w' => e = .returned (.bool v) ∧ Below w.heap.size w w' := by
  obtain ⟨s, m, a, b⟩ := t
  obtain ⟨l, at_, ⟨bs, hs, ⟨u0, u1, u2, u3⟩⟩⟩ := r
  simp only at h1000 hok hM hl h1 g1 h5 g5 h6 g6 ⊢
  clear h5 g5 h6 g6
  have hvv : evalB l m = evalM l m := by unfold evalB; rw [hok, Bool.true_and]
  have hokM := (chk_def.1 hok).1
  unfold coverB at hv
  simp only at hv
  rw [hvv] at hv
  have hB0 : Below w.heap.size w ((w.alloc (.cells #[.int .i64 s, .int .i64 m.f0, .string m.f1, .string m.f2, .slice A3 m.f3.length c3, .slice A4 m.f4.length c4, .int .i64 a, .int .i64 b] 27)).alloc (.cells #[.slice A1 l.length c1, .int .i64 at_, .slice A5 bs.length c5, .slice A6 hs.length c6, .int .u64 u0, .int .u64 u1, .int .u64 u2, .int .u64 u3] 37)) := below_alloc (below_alloc (Below.refl _ _) _) _
  obtain ⟨q1, q2, q3, q4⟩ := hM.below hB0
  have G1 := Lib.hid (Kd.C_below g1 hB0)
  clear g1
  by_cases h2 : a ≤ at_
  · by_cases h3 : at_ < b
    · rw [decide_eq_true h2, decide_eq_true h3, Bool.true_and, Bool.true_and] at hv
      have Hv := Lib.hid hv
      clear hv
      go_enter Try.func39, Try.ntmps39
      go_wp2_with fail
      (with_reducible refine (reval57 _ m A3 c3 A4 c4 A1 c1 l v Hv.out h1000 hokM hl q1 q2 q3 q4 h1 G1.out).mono ?_)
      rintro e w1 ⟨rfl, hb1⟩
      go_wp2_with fail
      go_ret
      exact ⟨rfl, below_step hB0 hb1⟩
    · rw [decide_eq_false h3, Bool.and_false, Bool.false_and] at hv
      subst hv
      go_enter Try.func39, Try.ntmps39
      go_wp2_with fail
      go_ret
      exact ⟨rfl, hB0⟩
  · rw [decide_eq_false h2, Bool.false_and, Bool.false_and] at hv
    subst hv
    go_enter Try.func39, Try.ntmps39
    go_wp2_with fail
    go_ret
    exact ⟨rfl, hB0⟩

end
section
open Go Go.RowKit Go.Proofs.YteafilojjdfllaaW.PrintWords Go.Proofs.YteafilojjdfllaaW.PrintLast Go.Proofs.YteafilojjdfllaaW.PrintMore Go.Proofs.Yteafilojjdfllaa.PAll

theorem okT.chk {l : List S27} (h : okT l) : ∀ x ∈ l, chkB x.f1 = true := fun t ht => (h t ht).2
theorem heap68 : Kd.Heap k68 := Kd.heap_iso _ (Kd.heap_pair Kd.heap_string Kd.heap_string)
theorem heap181 : Kd.Heap k181 := Kd.heap_iso _ (Kd.heap_pair (Kd.heap_int .i64) (Kd.heap_int .u64))
theorem F_old {α : Type} {d : Kd α} (hd : Kd.Heap d) {w W : World} {A : Option Addr} {n : Nat} {xs : List α} (hC : d.C w A n xs) (hB : Below w.heap.size w W) : Kd.F d W (fun k => k < w.heap.size) A n xs :=
  fun _ hW => hd.C (fun k hk => (hW k hk (Nat.lt_of_lt_of_le hk hB.size)).trans (hB.block k hk)) hC
theorem cell_old {w W : World} (hB : Below w.heap.size w W) {a : Addr} {v : Value} (h : w.cell? a = some v) : W.cell? a = some v := Kd.cell_heap (fun k hk => hB.block k hk) h
set_option maxRecDepth 100000 in
set_option maxHeartbeats 8000000 in
theorem refApply45 (w : World) (rows : List S37) (A : Option Addr) (c : Nat) (l : List S27) (B : Option Addr) (d : Nat) (done : Int) (hr : rows.length ≤ 1000) (hl : l.length ≤ 1000) (hp : ∀ r ∈ rows, RowSz r) (hok : okT l)
    (hC : Kd.C k37 w A rows.length rows) (hD : Kd.C k27 w B l.length l) :
    Calls Try.prog 45 #[.slice A rows.length c, .slice B l.length d, .int .i64 done] w (Made k37 (applyB rows l done) w) := by
  have HC := Lib.hid hC
  have HD := Lib.hid hD
  have HP := Lib.hid hp
  have HN := Lib.hid hok
  clear hC hD hp hok
  go_enter Try.func45, Try.ntmps45
  go_wp2
  go_loopw [7, 8] (fun u7 u8 wr => ∃ (j : Nat), u8 = .int .i64 j ∧ j ≤ rows.length ∧ Kd.N k37 37 wr w.heap.size (fun _ => True) u7 (applyB (rows.take j) l done) ∧ Below w.heap.size w wr)
    (fun _ u8 _ => rows.length - (intOf u8).toNat)
  case atStart => exact ⟨0, rfl, Nat.zero_le _, by simpa [applyB] using Kd.N_nil k37 37 w w.heap.size (fun _ => True), Below.refl _ _⟩
  case round =>
    obtain ⟨j, rfl, hj, hN, hB⟩ := hrel
    by_cases hlt : j < rows.length
    · obtain ⟨ad, A0, c0, A2, c2, A3, c3, eA, k0, k1, k2, k3, k4, k5, k6, k7, l0, g0, l2, g2, l3, g3⟩ := at_T37 HC.out (j : Int) (by omega) (by omega)
      subst eA
      simp only [Int.toNat_natCast, show rd_T37 rows (j : Int) = rows.getD j z37 by simp [rd_T37]] at k0 k1 k2 k3 k4 k5 k6 k7 l0 g0 l2 g2 l3 g3
      have Htake := Lib.hid (take_snoc rows z37 j hlt)
      have Hx := Lib.hid (HP.out _ (getD_mem rows z37 j hlt))
      obtain ⟨x, ex⟩ : ∃ x, rows.getD j z37 = x := ⟨_, rfl⟩
      rw [ex] at k0 k1 k2 k3 k4 k5 k6 k7 l0 g0 l2 g2 l3 g3 Htake Hx
      clear ex
      obtain ⟨z1, z2, z3⟩ := Hx.out
      have hK := And.intro k0 (And.intro k1 (And.intro k2 (And.intro k3 (And.intro k4 (And.intro k5 (And.intro k6 k7))))))
      have HK := Lib.hid hK
      clear hK k0 k1 k2 k3 k4 k5 k6 k7
      have G0 := Lib.hid g0
      have G2 := Lib.hid g2
      have G3 := Lib.hid g3
      clear g0 g2 g3
      obtain ⟨Au, cu, rfl⟩ := Kd.N_slice hN
      have HNN := Lib.hid hN
      clear hN
      rename World => wo
      go_wp2
      go_loopw [9, 10] (fun u9 u10 wr => ∃ (i : Nat), u10 = .int .i64 i ∧ i ≤ l.length ∧ u9 = .bool (!hitB (l.take i) done x) ∧ Below wo.heap.size wo wr)
        (fun _ u10 _ => l.length - (intOf u10).toNat)
      case atStart => exact ⟨0, rfl, Nat.zero_le _, by simp [hitB], by repeat (first | exact Below.refl _ _ | apply pw_below_drewN | apply below_drew)⟩
      case round =>
        obtain ⟨i, rfl, hi, rfl, hBi⟩ := hrel
        have hBw := below_step hB hBi
        by_cases hlt2 : i < l.length
        · obtain ⟨ad2, B3, e3, B4, e4, eB, k0, k1, k2, k3, k4, k5, k6, k7, l3', g3', l4', g4'⟩ := at_T27 (Kd.C_below HD.out hBw) (i : Int) (by omega) (by omega)
          subst eB
          simp only [Int.toNat_natCast, show rd_T27 l (i : Int) = l.getD i z27 by simp [rd_T27]] at k0 k1 k2 k3 k4 k5 k6 k7 l3' g3' l4' g4'
          have Htk := Lib.hid (take_snoc l z27 i hlt2)
          have hmem := getD_mem l z27 i hlt2
          obtain ⟨t, et⟩ : ∃ t, l.getD i z27 = t := ⟨_, rfl⟩
          rw [et] at k0 k1 k2 k3 k4 k5 k6 k7 l3' g3' l4' g4' Htk hmem
          clear et
          have Hmem := Lib.hid hmem
          clear hmem
          have hn1 := HN.out.nodes t Hmem.out
          have hok1 := HN.out.chk t Hmem.out
          obtain ⟨r0, r1, r2, r3, r4, r5, r6, r7⟩ := HK.out
          replace r0 := cell_old hBw r0
          replace r1 := cell_old hBw r1
          replace r2 := cell_old hBw r2
          replace r3 := cell_old hBw r3
          replace r4 := cell_old hBw r4
          replace r5 := cell_old hBw r5
          replace r6 := cell_old hBw r6
          replace r7 := cell_old hBw r7
          have hM := Lib.hid (show MC wr t.f1 B3 e3 B4 e4 from ⟨l3', g3', l4', g4'⟩)
          clear l3' g3' l4' g4'
          by_cases hgt : t.f0 > done
          · have hd1 : decide (t.f0 > done) = true := decide_eq_true hgt
            have hd2 : decide (done < t.f0) = true := hd1
            cases hv : coverB t x with
            | true =>
              have HV := Lib.hid hv
              clear hv
              go_wp2_with fail
              go_region_held3 (fun w' => w'.cell? (ad2.add (i * 8)) = some (.int .i64 t.f0) ∧ w'.cell? ⟨(ad2.add (i * 8)).block, (ad2.add (i * 8)).off + 1, none⟩ = some (.int .i64 t.f1.f0) ∧ w'.cell? ⟨(ad2.add (i * 8)).block, (ad2.add (i * 8)).off + 2, none⟩ = some (.string t.f1.f1) ∧ w'.cell? ⟨(ad2.add (i * 8)).block, (ad2.add (i * 8)).off + 3, none⟩ = some (.string t.f1.f2) ∧ w'.cell? ⟨(ad2.add (i * 8)).block, (ad2.add (i * 8)).off + 4, none⟩ = some (.slice B3 t.f1.f3.length e3) ∧ w'.cell? ⟨(ad2.add (i * 8)).block, (ad2.add (i * 8)).off + 5, none⟩ = some (.slice B4 t.f1.f4.length e4) ∧ w'.cell? ⟨(ad2.add (i * 8)).block, (ad2.add (i * 8)).off + 6, none⟩ = some (.int .i64 t.f2) ∧ w'.cell? ⟨(ad2.add (i * 8)).block, (ad2.add (i * 8)).off + 7, none⟩ = some (.int .i64 t.f3) ∧ w'.cell? (ad.add (j * 8)) = some (.slice A0 x.f0.length c0) ∧ w'.cell? ⟨(ad.add (j * 8)).block, (ad.add (j * 8)).off + 1, none⟩ = some (.int .i64 x.f1) ∧ w'.cell? ⟨(ad.add (j * 8)).block, (ad.add (j * 8)).off + 2, none⟩ = some (.slice A2 x.f2.f0.length c2) ∧ w'.cell? ⟨(ad.add (j * 8)).block, (ad.add (j * 8)).off + 3, none⟩ = some (.slice A3 x.f2.f1.length c3) ∧ w'.cell? ⟨(ad.add (j * 8)).block, (ad.add (j * 8)).off + 4, none⟩ = some (.int .u64 x.f2.f2.f0) ∧ w'.cell? ⟨(ad.add (j * 8)).block, (ad.add (j * 8)).off + 5, none⟩ = some (.int .u64 x.f2.f2.f1) ∧ w'.cell? ⟨(ad.add (j * 8)).block, (ad.add (j * 8)).off + 6, none⟩ = some (.int .u64 x.f2.f2.f2) ∧ w'.cell? ⟨(ad.add (j * 8)).block, (ad.add (j * 8)).off + 7, none⟩ = some (.int .u64 x.f2.f2.f3) ∧ Below wo.heap.size wo w')
                (first | exact ⟨k0, k1, k2, k3, k4, k5, k6, k7, r0, r1, r2, r3, r4, r5, r6, r7, below_drew hBi⟩ | exact ⟨cell_old hb5 k0, cell_old hb5 k1, cell_old hb5 k2, cell_old hb5 k3, cell_old hb5 k4, cell_old hb5 k5, cell_old hb5 k6, cell_old hb5 k7, cell_old hb5 r0, cell_old hb5 r1, cell_old hb5 r2, cell_old hb5 r3, cell_old hb5 r4, cell_old hb5 r5, cell_old hb5 r6, cell_old hb5 r7, below_step (below_drew hBi) hb5⟩)
                (first | (go_at_call 39; (with_reducible refine (refCovers39 _ t x B3 e3 B4 e4 A0 c0 A2 c2 A3 c3 true HV.out hn1 hok1 (hM.out.below (below_drew (Below.refl _ _))) (by omega) l0 (Kd.C_below G0.out (below_drew hBw)) l2 (Kd.C_below G2.out (below_drew hBw)) l3 (Kd.C_below G3.out (below_drew hBw))).mono ?_); rintro e w5 ⟨rfl, hb5⟩))
              rename_i hS
              have hbel := hS.2.2.2.2.2.2.2.2.2.2.2.2.2.2.2.2
              clear hS
              go_wp2
              go_roundw
              case rel => exact ⟨i + 1, by go_num, by omega, by rw [Htk.out, hit_snoc, HV.out, hd1, Bool.and_self, Bool.or_true]; rfl, hbel⟩
              case measure => simp [intOf]; omega
            | false =>
              have HV := Lib.hid hv
              clear hv
              go_wp2_with fail
              go_region_held3 (fun w' => w'.cell? (ad2.add (i * 8)) = some (.int .i64 t.f0) ∧ w'.cell? ⟨(ad2.add (i * 8)).block, (ad2.add (i * 8)).off + 1, none⟩ = some (.int .i64 t.f1.f0) ∧ w'.cell? ⟨(ad2.add (i * 8)).block, (ad2.add (i * 8)).off + 2, none⟩ = some (.string t.f1.f1) ∧ w'.cell? ⟨(ad2.add (i * 8)).block, (ad2.add (i * 8)).off + 3, none⟩ = some (.string t.f1.f2) ∧ w'.cell? ⟨(ad2.add (i * 8)).block, (ad2.add (i * 8)).off + 4, none⟩ = some (.slice B3 t.f1.f3.length e3) ∧ w'.cell? ⟨(ad2.add (i * 8)).block, (ad2.add (i * 8)).off + 5, none⟩ = some (.slice B4 t.f1.f4.length e4) ∧ w'.cell? ⟨(ad2.add (i * 8)).block, (ad2.add (i * 8)).off + 6, none⟩ = some (.int .i64 t.f2) ∧ w'.cell? ⟨(ad2.add (i * 8)).block, (ad2.add (i * 8)).off + 7, none⟩ = some (.int .i64 t.f3) ∧ w'.cell? (ad.add (j * 8)) = some (.slice A0 x.f0.length c0) ∧ w'.cell? ⟨(ad.add (j * 8)).block, (ad.add (j * 8)).off + 1, none⟩ = some (.int .i64 x.f1) ∧ w'.cell? ⟨(ad.add (j * 8)).block, (ad.add (j * 8)).off + 2, none⟩ = some (.slice A2 x.f2.f0.length c2) ∧ w'.cell? ⟨(ad.add (j * 8)).block, (ad.add (j * 8)).off + 3, none⟩ = some (.slice A3 x.f2.f1.length c3) ∧ w'.cell? ⟨(ad.add (j * 8)).block, (ad.add (j * 8)).off + 4, none⟩ = some (.int .u64 x.f2.f2.f0) ∧ w'.cell? ⟨(ad.add (j * 8)).block, (ad.add (j * 8)).off + 5, none⟩ = some (.int .u64 x.f2.f2.f1) ∧ w'.cell? ⟨(ad.add (j * 8)).block, (ad.add (j * 8)).off + 6, none⟩ = some (.int .u64 x.f2.f2.f2) ∧ w'.cell? ⟨(ad.add (j * 8)).block, (ad.add (j * 8)).off + 7, none⟩ = some (.int .u64 x.f2.f2.f3) ∧ Below wo.heap.size wo w')
                (first | exact ⟨k0, k1, k2, k3, k4, k5, k6, k7, r0, r1, r2, r3, r4, r5, r6, r7, below_drew hBi⟩ | exact ⟨cell_old hb5 k0, cell_old hb5 k1, cell_old hb5 k2, cell_old hb5 k3, cell_old hb5 k4, cell_old hb5 k5, cell_old hb5 k6, cell_old hb5 k7, cell_old hb5 r0, cell_old hb5 r1, cell_old hb5 r2, cell_old hb5 r3, cell_old hb5 r4, cell_old hb5 r5, cell_old hb5 r6, cell_old hb5 r7, below_step (below_drew hBi) hb5⟩)
                (first | (go_at_call 39; (with_reducible refine (refCovers39 _ t x B3 e3 B4 e4 A0 c0 A2 c2 A3 c3 false HV.out hn1 hok1 (hM.out.below (below_drew (Below.refl _ _))) (by omega) l0 (Kd.C_below G0.out (below_drew hBw)) l2 (Kd.C_below G2.out (below_drew hBw)) l3 (Kd.C_below G3.out (below_drew hBw))).mono ?_); rintro e w5 ⟨rfl, hb5⟩))
              rename_i hS
              have hbel := hS.2.2.2.2.2.2.2.2.2.2.2.2.2.2.2.2
              clear hS
              go_wp2
              go_roundw
              case rel => exact ⟨i + 1, by go_num, by omega, by rw [Htk.out, hit_snoc, HV.out, Bool.and_false, Bool.or_false], hbel⟩
              case measure => simp [intOf]; omega
          · have hd1 : decide (t.f0 > done) = false := decide_eq_false hgt
            have hd2 : decide (done < t.f0) = false := hd1
            go_wp2_with fail
            go_quiet (fail)
            go_wp2
            go_roundw
            case rel => exact ⟨i + 1, by go_num, by omega, by rw [Htk.out, hit_snoc, hd1, Bool.false_and, Bool.or_false], by repeat (first | exact hBi | apply pw_below_drewN | apply below_drew)⟩
            case measure => simp [intOf]; omega
        · obtain rfl : i = l.length := by omega
          rw [List.take_length]
          have hlen : (applyB (rows.take j) l done).length ≤ 1000 := Nat.le_trans (List.length_filter_le _ _) (by simp; omega)
          cases hh : hitB l done x with
          | true =>
            have Hh := Lib.hid hh
            clear hh
            go_wp2
            exact ⟨⟨j + 1, by go_num, by omega, by rw [Htake.out, apply_snoc, Hh.out, if_pos rfl, List.append_nil]; exact Kd.N_below HNN.out hBi, hBw⟩, by simp [intOf]; omega⟩
          | false =>
            have Hh := Lib.hid hh
            clear hh
            have HNi := Lib.hid (Kd.N_below HNN.out hBi)
            have HFK := Lib.hid (k37_mkF wr (fun k => k < w.heap.size) x l0 (F_old heap68 G0.out hBw) l2 (F_old heap181 G2.out hBw) l3 (F_old (Kd.heap_int .u64) G3.out hBw))
            obtain ⟨r0, r1, r2, r3, r4, r5, r6, r7⟩ := HK.out
            replace r0 := cell_old hBw r0
            replace r1 := cell_old hBw r1
            replace r2 := cell_old hBw r2
            replace r3 := cell_old hBw r3
            replace r4 := cell_old hBw r4
            replace r5 := cell_old hBw r5
            replace r6 := cell_old hBw r6
            replace r7 := cell_old hBw r7
            go_wp2_with (at_builtin; refine Kd.N_append k37 (w0 := w) (W := wr) w.heap.size rfl (.tmp 42) (.tmp 47) 44 37 (.agg #[.slice none 0 0, .int .i64 0, .slice none 0 0, .slice none 0 0, .int .u64 0, .int .u64 0, .int .u64 0, .int .u64 0]) 112 rfl Try.underlying44 info37r rfl (by decide) (by decide) (.slice Au (applyB (rows.take j) l done).length cu) (applyB (rows.take j) l done) x [.slice A0 x.f0.length c0, .int .i64 x.f1, .slice A2 x.f2.f0.length c2, .slice A3 x.f2.f1.length c3, .int .u64 x.f2.f2.f0, .int .u64 x.f2.f2.f1, .int .u64 x.f2.f2.f2, .int .u64 x.f2.f2.f3] (fun _ => True) (fun k => k < w.heap.size) rfl rfl HFK.out (fun k hk => ⟨trivial, fun e => by have := Kd.N_base HNi.out k e.symm; omega⟩) (fun k hk => trivial) HNi.out hBw hBw.size (by omega) ?_; intro v1 w2 hN2 hB2 hg2 hat2)
            exact ⟨⟨j + 1, by go_num, by omega, by rw [Htake.out, apply_snoc, Hh.out, if_neg (by decide)]; exact hN2, hB2⟩, by simp [intOf]; omega⟩
    · obtain rfl : j = rows.length := by omega
      rw [List.take_length] at hN
      obtain ⟨D, e, rfl, hd, hD⟩ := Kd.N_reads hN
      go_wp2
      go_ret
      exact ⟨⟨D, e, rfl, hd, hD⟩, hB⟩
end
end Go.Proofs.Yteafilojjdfllaa
