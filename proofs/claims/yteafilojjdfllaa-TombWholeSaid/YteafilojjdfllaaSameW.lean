/- Own text: rows held against rows of the same content: SameLabels, Same, SameRow, SameRows. -/
import Derived.Test.YteafilojjdfllaaRT
namespace Go.Proofs.Yteafilojjdfllaa
open Go Go.RowKit Go.Proofs.YteafilojjdfllaaW.PrintWords Go.Proofs.YteafilojjdfllaaW.PrintLast Go.Proofs.YteafilojjdfllaaW.PrintMore Go.Proofs.Yteafilojjdfllaa.PAll
set_option linter.unusedSimpArgs false

set_option maxRecDepth 100000 in
set_option maxHeartbeats 4000000 in
theorem sameLab67 (w : World) (l : List S68) (A : Option Addr) (c : Nat) (B : Option Addr) (d : Nat) (hl : l.length ≤ 4000000000000000000)
    (hC : Kd.C k68 w A l.length l) (hD : Kd.C k68 w B l.length l) :
    Calls Try.prog 67 #[.slice A l.length c, .slice B l.length d] w fun e w' => e = .returned (.bool true) ∧ Below w.heap.size w w' := by
  have HC := Lib.hid hC
  have HD := Lib.hid hD
  clear hC hD
  have hq : (l.length == l.length) = true := beq_self_eq_true _
  go_enter Try.func67, Try.ntmps67
  go_wp2
  go_loopw [5] (fun u5 wr => ∃ (j : Nat), u5 = .int .i64 j ∧ j ≤ l.length ∧ Below w.heap.size w wr)
    (fun u5 _ => l.length - (intOf u5).toNat)
  case atStart => exact ⟨0, rfl, Nat.zero_le _, by repeat (first | exact Below.refl _ _ | apply pw_below_drewN | apply below_drew)⟩
  case round =>
    obtain ⟨j, rfl, hj, hB⟩ := hrel
    by_cases hlt : j < l.length
    · obtain ⟨ad, rfl, a0, a1⟩ := at_T68 (Kd.C_below HC.out hB) (j : Int) (by omega) (by omega)
      obtain ⟨ad2, rfl, b0, b1⟩ := at_T68 (Kd.C_below HD.out hB) (j : Int) (by omega) (by omega)
      simp only [Int.toNat_natCast] at a0 a1 b0 b1
      go_wp2
      repeat (go_quiet (fail); try go_wp2)
      go_roundw
      case rel => exact ⟨j + 1, by go_num, by omega, by repeat (first | exact hB | apply pw_below_drewN | apply below_drew)⟩
      case measure => simp [intOf]; omega
    · obtain rfl : j = l.length := by omega
      go_wp2
      go_ret
      exact ⟨rfl, by repeat (first | exact hB | apply pw_below_drewN | apply below_drew)⟩

/-- a sketch's box -/
abbrev BoxS (w : World) (g : Nat) (v0 v1 : Value) (u0 u1 u2 u3 : Int) : Prop := w.heap[g]? = some (.cells #[v0, v1, .int .u64 u0, .int .u64 u1, .int .u64 u2, .int .u64 u3] 35 (0, 0))
theorem BoxS.all {w : World} {g : Nat} {v0 v1 : Value} {u0 u1 u2 u3 : Int} (h : BoxS w g v0 v1 u0 u1 u2 u3) :
    w.cell? ⟨g, 0, none⟩ = some v0 ∧ w.cell? ⟨g, 1, none⟩ = some v1 ∧ w.cell? ⟨g, 2, none⟩ = some (.int .u64 u0) ∧ w.cell? ⟨g, 3, none⟩ = some (.int .u64 u1) ∧ w.cell? ⟨g, 4, none⟩ = some (.int .u64 u2) ∧ w.cell? ⟨g, 5, none⟩ = some (.int .u64 u3) :=
  ⟨blk_cell h 0, blk_cell h 1, blk_cell h 2, blk_cell h 3, blk_cell h 4, blk_cell h 5⟩
set_option maxRecDepth 100000 in
set_option maxHeartbeats 8000000 in
theorem sameSk152 (w : World) (x : S35) (A0 : Option Addr) (c0 : Nat) (A1 : Option Addr) (c1 : Nat) (B0 : Option Addr) (d0 : Nat) (B1 : Option Addr) (d1 : Nat) (hl0 : x.f0.length ≤ 4000000000000000000) (hl1 : x.f1.length ≤ 4000000000000000000)
    (g0 : Kd.C k181 w A0 x.f0.length x.f0) (g1 : Kd.C (Kd.int .u64) w A1 x.f1.length x.f1) (q0 : Kd.C k181 w B0 x.f0.length x.f0) (q1 : Kd.C (Kd.int .u64) w B1 x.f1.length x.f1) :
    Calls Try.prog 152 #[.agg #[.slice A0 x.f0.length c0, .slice A1 x.f1.length c1, .int .u64 x.f2.f0, .int .u64 x.f2.f1, .int .u64 x.f2.f2, .int .u64 x.f2.f3], .agg #[.slice B0 x.f0.length d0, .slice B1 x.f1.length d1, .int .u64 x.f2.f0, .int .u64 x.f2.f1, .int .u64 x.f2.f2, .int .u64 x.f2.f3]] w fun e w' => e = .returned (.bool true) ∧ Below w.heap.size w w' := by
  obtain ⟨bs, hs, ⟨u0, u1, u2, u3⟩⟩ := x
  simp only at hl0 hl1 g0 g1 q0 q1 ⊢
  obtain ⟨V0, eV0⟩ : ∃ V0, V0 = w.alloc (.cells #[.slice A0 bs.length c0, .slice A1 hs.length c1, .int .u64 u0, .int .u64 u1, .int .u64 u2, .int .u64 u3] 35) := ⟨_, rfl⟩
  obtain ⟨V, eV⟩ : ∃ V, V = V0.alloc (.cells #[.slice B0 bs.length d0, .slice B1 hs.length d1, .int .u64 u0, .int .u64 u1, .int .u64 u2, .int .u64 u3] 35) := ⟨_, rfl⟩
  have hs0 : V0.heap.size = w.heap.size + 1 := by rw [eV0]; simp
  have hB0 : Below w.heap.size w V := by rw [eV, eV0]; exact below_alloc (below_alloc (Below.refl _ _) _) _
  have hX : BoxS V w.heap.size (.slice A0 bs.length c0) (.slice A1 hs.length c1) u0 u1 u2 u3 := by rw [eV]; exact blk_alloc (by rw [eV0]; exact blk_new w _) _
  have hY : BoxS V (w.heap.size + 1) (.slice B0 bs.length d0) (.slice B1 hs.length d1) u0 u1 u2 u3 := by rw [eV, ← hs0]; exact blk_new V0 _
  have G0 := Lib.hid g0
  have G1 := Lib.hid g1
  have Q0 := Lib.hid q0
  have Q1 := Lib.hid q1
  clear g0 g1 q0 q1
  go_enter Try.func152, Try.ntmps152
  go_wp2
  rw [← eV0, ← eV]
  clear eV eV0 hs0
  obtain ⟨a0, a1, a2, a3, a4, a5⟩ := hX.all
  obtain ⟨b0, b1, b2, b3, b4, b5⟩ := hY.all
  go_loopw [5] (fun u5 wr => ∃ (j : Nat), u5 = .int .i64 j ∧ j ≤ bs.length ∧ Below V.heap.size V wr)
    (fun u5 _ => bs.length - (intOf u5).toNat)
  case atStart => exact ⟨0, rfl, Nat.zero_le _, by repeat (first | exact Below.refl _ _ | apply pw_below_drewN | apply below_drew)⟩
  case round =>
    obtain ⟨j, rfl, hj, hB⟩ := hrel
    clear a0 a1 a2 a3 a4 a5 b0 b1 b2 b3 b4 b5
    obtain ⟨a0, a1, a2, a3, a4, a5⟩ := BoxS.all (blk_below hX hB)
    obtain ⟨b0, b1, b2, b3, b4, b5⟩ := BoxS.all (blk_below hY hB)
    by_cases hlt : j < bs.length
    · obtain ⟨ad, rfl, k0, k1⟩ := at_T181 (Kd.C_below (Kd.C_below G0.out hB0) hB) (j : Int) (by omega) (by omega)
      obtain ⟨ad2, rfl, m0, m1⟩ := at_T181 (Kd.C_below (Kd.C_below Q0.out hB0) hB) (j : Int) (by omega) (by omega)
      simp only [Int.toNat_natCast] at k0 k1 m0 m1
      go_wp2
      repeat (go_quiet (fail); try go_wp2)
      go_roundw
      case rel => exact ⟨j + 1, by go_num, by omega, by repeat (first | exact hB | apply pw_below_drewN | apply below_drew)⟩
      case measure => simp [intOf]; omega
    · obtain rfl : j = bs.length := by omega
      go_wp2
      go_loopw [6] (fun u6 wr => ∃ (i : Nat), u6 = .int .i64 i ∧ i ≤ hs.length ∧ Below V.heap.size V wr)
        (fun u6 _ => hs.length - (intOf u6).toNat)
      case atStart => exact ⟨0, rfl, Nat.zero_le _, by repeat (first | exact hB | apply pw_below_drewN | apply below_drew)⟩
      case round =>
        obtain ⟨i, rfl, hi, hBi⟩ := hrel
        clear a0 a1 a2 a3 a4 a5 b0 b1 b2 b3 b4 b5
        obtain ⟨a0, a1, a2, a3, a4, a5⟩ := BoxS.all (blk_below hX hBi)
        obtain ⟨b0, b1, b2, b3, b4, b5⟩ := BoxS.all (blk_below hY hBi)
        by_cases hlt2 : i < hs.length
        · obtain ⟨ad, rfl, k0⟩ := Kd.at_int (Kd.C_below (Kd.C_below G1.out hB0) hBi) (i : Int) (by omega) (by omega)
          obtain ⟨ad2, rfl, m0⟩ := Kd.at_int (Kd.C_below (Kd.C_below Q1.out hB0) hBi) (i : Int) (by omega) (by omega)
          simp only [Int.toNat_natCast] at k0 m0
          go_wp2
          repeat (go_quiet (fail); try go_wp2)
          go_roundw
          case rel => exact ⟨i + 1, by go_num, by omega, by repeat (first | exact hBi | apply pw_below_drewN | apply below_drew)⟩
          case measure => simp [intOf]; omega
        · obtain rfl : i = hs.length := by omega
          go_wp2
          go_ret
          exact ⟨rfl, below_step hB0 (by repeat (first | exact hBi | apply pw_below_drewN | apply below_drew))⟩

set_option maxRecDepth 100000 in
set_option maxHeartbeats 8000000 in
theorem sameRow101 (w : World) (x : S37) (A0 : Option Addr) (c0 : Nat) (A2 : Option Addr) (c2 : Nat) (A3 : Option Addr) (c3 : Nat) (B0 : Option Addr) (d0 : Nat) (B2 : Option Addr) (d2 : Nat) (B3 : Option Addr) (d3 : Nat) (hz : RowSz x)
    (g0 : Kd.C k68 w A0 x.f0.length x.f0) (g2 : Kd.C k181 w A2 x.f2.f0.length x.f2.f0) (g3 : Kd.C (Kd.int .u64) w A3 x.f2.f1.length x.f2.f1) (q0 : Kd.C k68 w B0 x.f0.length x.f0) (q2 : Kd.C k181 w B2 x.f2.f0.length x.f2.f0) (q3 : Kd.C (Kd.int .u64) w B3 x.f2.f1.length x.f2.f1) :
    Calls Try.prog 101 #[.agg #[.slice A0 x.f0.length c0, .int .i64 x.f1, .slice A2 x.f2.f0.length c2, .slice A3 x.f2.f1.length c3, .int .u64 x.f2.f2.f0, .int .u64 x.f2.f2.f1, .int .u64 x.f2.f2.f2, .int .u64 x.f2.f2.f3], .agg #[.slice B0 x.f0.length d0, .int .i64 x.f1, .slice B2 x.f2.f0.length d2, .slice B3 x.f2.f1.length d3, .int .u64 x.f2.f2.f0, .int .u64 x.f2.f2.f1, .int .u64 x.f2.f2.f2, .int .u64 x.f2.f2.f3]] w fun e w' => e = .returned (.bool true) ∧ Below w.heap.size w w' := by
  obtain ⟨l, at_, y⟩ := x
  obtain ⟨z0, z2, z3⟩ := hz
  simp only at z0 z2 z3 g0 g2 g3 q0 q2 q3 ⊢
  obtain ⟨V0, eV0⟩ : ∃ V0, V0 = w.alloc (.cells #[.slice A0 l.length c0, .int .i64 at_, .slice A2 y.f0.length c2, .slice A3 y.f1.length c3, .int .u64 y.f2.f0, .int .u64 y.f2.f1, .int .u64 y.f2.f2, .int .u64 y.f2.f3] 37) := ⟨_, rfl⟩
  obtain ⟨V, eV⟩ : ∃ V, V = V0.alloc (.cells #[.slice B0 l.length d0, .int .i64 at_, .slice B2 y.f0.length d2, .slice B3 y.f1.length d3, .int .u64 y.f2.f0, .int .u64 y.f2.f1, .int .u64 y.f2.f2, .int .u64 y.f2.f3] 37) := ⟨_, rfl⟩
  have hs0 : V0.heap.size = w.heap.size + 1 := by rw [eV0]; simp
  have hB0 : Below w.heap.size w V := by rw [eV, eV0]; exact below_alloc (below_alloc (Below.refl _ _) _) _
  have hX : BoxR V w.heap.size (.slice A0 l.length c0) at_ (.slice A2 y.f0.length c2) (.slice A3 y.f1.length c3) y.f2.f0 y.f2.f1 y.f2.f2 y.f2.f3 := by rw [eV]; exact blk_alloc (by rw [eV0]; exact blk_new w _) _
  have hY : BoxR V (w.heap.size + 1) (.slice B0 l.length d0) at_ (.slice B2 y.f0.length d2) (.slice B3 y.f1.length d3) y.f2.f0 y.f2.f1 y.f2.f2 y.f2.f3 := by rw [eV, ← hs0]; exact blk_new V0 _
  have G0 := Lib.hid g0
  have G2 := Lib.hid g2
  have G3 := Lib.hid g3
  have Q0 := Lib.hid q0
  have Q2 := Lib.hid q2
  have Q3 := Lib.hid q3
  clear g0 g2 g3 q0 q2 q3
  have hq : (at_ == at_) = true := beq_self_eq_true _
  go_enter Try.func101, Try.ntmps101
  go_wp2_with fail
  rw [← eV0, ← eV]
  clear eV eV0 hs0
  (with_reducible refine (sameLab67 _ l A0 c0 B0 d0 (by omega) (Kd.C_below G0.out hB0) (Kd.C_below Q0.out hB0)).mono ?_)
  rintro e w1 ⟨rfl, hB1⟩
  have hB1' := below_step hB0 hB1
  obtain ⟨a0, a1, a2, a3, a4, a5, a6, a7⟩ := BoxR.all (blk_below hX hB1)
  obtain ⟨b0, b1, b2, b3, b4, b5, b6, b7⟩ := BoxR.all (blk_below hY hB1)
  go_wp2_with fail
  (with_reducible refine (sameSk152 _ y A2 c2 A3 c3 B2 d2 B3 d3 (by omega) (by omega) (Kd.C_below G2.out hB1') (Kd.C_below G3.out hB1') (Kd.C_below Q2.out hB1') (Kd.C_below Q3.out hB1')).mono ?_)
  rintro e w2 ⟨rfl, hB2⟩
  go_wp2
  go_ret
  exact ⟨rfl, below_step hB1' hB2⟩

set_option maxRecDepth 100000 in
set_option maxHeartbeats 8000000 in
theorem sameRows43 (w : World) (rows : List S37) (A : Option Addr) (c : Nat) (B : Option Addr) (d : Nat) (hr : rows.length ≤ 1000) (hp : ∀ r ∈ rows, RowSz r)
    (hC : Kd.C k37 w A rows.length rows) (hD : Kd.C k37 w B rows.length rows) :
    Calls Try.prog 43 #[.slice A rows.length c, .slice B rows.length d] w fun e w' => e = .returned (.bool true) ∧ Below w.heap.size w w' := by
  have HC := Lib.hid hC
  have HD := Lib.hid hD
  have HP := Lib.hid hp
  clear hC hD hp
  go_enter Try.func43, Try.ntmps43
  go_wp2
  go_loopw [5] (fun u5 wr => ∃ (j : Nat), u5 = .int .i64 j ∧ j ≤ rows.length ∧ Below w.heap.size w wr)
    (fun u5 _ => rows.length - (intOf u5).toNat)
  case atStart => exact ⟨0, rfl, Nat.zero_le _, by repeat (first | exact Below.refl _ _ | apply pw_below_drewN | apply below_drew)⟩
  case round =>
    obtain ⟨j, rfl, hj, hB⟩ := hrel
    by_cases hlt : j < rows.length
    · obtain ⟨ad, A0, c0, A2, c2, A3, c3, rfl, k0, k1, k2, k3, k4, k5, k6, k7, l0, g0, l2, g2, l3, g3⟩ := at_T37 (Kd.C_below HC.out hB) (j : Int) (by omega) (by omega)
      obtain ⟨ad2, B0, d0, B2, d2, B3, d3, rfl, m0, m1, m2, m3, m4, m5, m6, m7, n0, q0, n2, q2, n3, q3⟩ := at_T37 (Kd.C_below HD.out hB) (j : Int) (by omega) (by omega)
      simp only [Int.toNat_natCast, show rd_T37 rows (j : Int) = rows.getD j z37 by simp [rd_T37]] at k0 k1 k2 k3 k4 k5 k6 k7 g0 g2 g3 m0 m1 m2 m3 m4 m5 m6 m7 q0 q2 q3
      have Hx := Lib.hid (HP.out _ (getD_mem rows z37 j hlt))
      obtain ⟨x, ex⟩ : ∃ x, rows.getD j z37 = x := ⟨_, rfl⟩
      rw [ex] at k0 k1 k2 k3 k4 k5 k6 k7 g0 g2 g3 m0 m1 m2 m3 m4 m5 m6 m7 q0 q2 q3 Hx
      clear ex l0 l2 l3 n0 n2 n3
      have G0 := Lib.hid (Kd.C_below g0 (below_drew (Below.refl wr.heap.size wr)))
      have G2 := Lib.hid (Kd.C_below g2 (below_drew (Below.refl wr.heap.size wr)))
      have G3 := Lib.hid (Kd.C_below g3 (below_drew (Below.refl wr.heap.size wr)))
      have Q0 := Lib.hid (Kd.C_below q0 (below_drew (Below.refl wr.heap.size wr)))
      have Q2 := Lib.hid (Kd.C_below q2 (below_drew (Below.refl wr.heap.size wr)))
      have Q3 := Lib.hid (Kd.C_below q3 (below_drew (Below.refl wr.heap.size wr)))
      clear g0 g2 g3 q0 q2 q3
      go_wp2
      go_region_with ((go_at_call 101; (with_reducible refine (sameRow101 _ x A0 c0 A2 c2 A3 c3 B0 d0 B2 d2 B3 d3 Hx.out G0.out G2.out G3.out Q0.out Q2.out Q3.out).mono ?_); rintro e w5 ⟨rfl, hB5⟩))
      all_goals
        go_wp2
        go_roundw
        case rel => exact ⟨j + 1, by go_num, by omega, below_step (below_drew hB) hB5⟩
        case measure => simp [intOf]; omega
    · obtain rfl : j = rows.length := by omega
      go_wp2
      go_ret
      exact ⟨rfl, by repeat (first | exact hB | apply pw_below_drewN | apply below_drew)⟩
end Go.Proofs.Yteafilojjdfllaa
