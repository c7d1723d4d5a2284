/- Own text: the law TombPrunes, walked. -/
import Derived.Test.YteafilojjdfllaaPruneA
import Derived.Test.YteafilojjdfllaaTombE
namespace Go.Proofs.Yteafilojjdfllaa
open Go Go.RowKit Go.Proofs.YteafilojjdfllaaW.PrintWords Go.Proofs.YteafilojjdfllaaW.PrintLast Go.Proofs.YteafilojjdfllaaW.PrintMore Go.Proofs.Yteafilojjdfllaa.PAll

theorem info58r : (Try.prog.info? 58).map (fun i => (i.zero, i.size, i.bytes)) = some (some (.agg #[.int .i64 0, .int .i64 0, .int .i64 0, .int .i64 0, .int .i64 0, .int .i64 0, .int .i64 0]), 7, 56) := by kernel_rfl
set_option maxRecDepth 100000 in
set_option maxHeartbeats 8000000 in
theorem tombPrunes_walk (w : World) (l : List S27) (B : Option Addr) (d : Nat) (bs : List S58) (A : Option Addr) (c : Nat) (hd : l.length ≤ d) (hD : Kd.C k27 w B l.length l) (hc : bs.length ≤ c) (hC : Kd.C k58 w A bs.length bs) :
    Calls Try.prog 7 #[.slice B l.length d, .slice A bs.length c] w fun e w' => e = .returned (.bool true) ∧ Below w.heap.size w w' := by
  have HC := Lib.hid hC
  have HD := Lib.hid hD
  clear hC hD
  go_enter Try.func7, Try.ntmps7
  go_wp2_with fail
  (with_reducible refine (small40 _ l B d HD.out).mono ?_)
  rintro e w1 ⟨⟨v, rfl, hok⟩, hB1⟩
  cases v with
  | false =>
    clear hok
    go_wp2_with fail
    (with_reducible refine (awake32 _).mono ?_)
    rintro e w2 ⟨rfl, hB2⟩
    go_wp2
    go_ret
    exact ⟨rfl, below_step hB1 hB2⟩
  | true =>
    obtain ⟨hl40, hOK⟩ := hok rfl
    have HOK := Lib.hid hOK
    clear hok hOK
    by_cases hn : (bs.length : Int) > 40
    · go_wp2_with fail
      (with_reducible refine (awake32 _).mono ?_)
      rintro e w2 ⟨rfl, hB2⟩
      go_wp2
      go_ret
      exact ⟨rfl, below_step hB1 hB2⟩
    · have hb40 : bs.length ≤ 1000 := by omega
      have hl1000 : l.length ≤ 1000 := by omega
      have hHT := Lib.hid HOK.out.tiny
      go_wp2
      go_loopw [5] (fun u5 wr => ∃ (j : Nat), u5 = .int .i64 j ∧ j ≤ bs.length ∧ Below w.heap.size w wr)
        (fun u5 _ => bs.length - (intOf u5).toNat)
      case atStart => exact ⟨0, rfl, Nat.zero_le _, hB1⟩
      case round =>
        obtain ⟨j, rfl, hj, hB⟩ := hrel
        by_cases hlt : j < bs.length
        · obtain ⟨ad, rfl, k0, k1, k2, k3, k4, k5, k6⟩ := at_T58 (Kd.C_below HC.out hB) (j : Int) (by omega) (by omega)
          simp only [Int.toNat_natCast, show rd_T58 bs (j : Int) = bs.getD j z58 by simp [rd_T58]] at k0 k1 k2 k3 k4 k5 k6
          obtain ⟨m, em⟩ : ∃ m, bs.getD j z58 = m := ⟨_, rfl⟩
          rw [em] at k0 k1 k2 k3 k4 k5 k6
          clear em
          obtain ⟨v, hv⟩ : ∃ v, l.any (needB m) = v := ⟨_, rfl⟩
          have HV := Lib.hid hv
          clear hv
          have e0 : (v != v) = false := by cases v <;> rfl
          have g0 := fun W (hb : Below wr.heap.size wr W) => pw_cell_below hb k0
          have g1 := fun W (hb : Below wr.heap.size wr W) => pw_cell_below hb k1
          have g2 := fun W (hb : Below wr.heap.size wr W) => pw_cell_below hb k2
          have g3 := fun W (hb : Below wr.heap.size wr W) => pw_cell_below hb k3
          have g4 := fun W (hb : Below wr.heap.size wr W) => pw_cell_below hb k4
          have g5 := fun W (hb : Below wr.heap.size wr W) => pw_cell_below hb k5
          have g6 := fun W (hb : Below wr.heap.size wr W) => pw_cell_below hb k6
          clear k0 k1 k2 k3 k4 k5 k6
          have HDr := Lib.hid (Kd.C_below HD.out hB)
          go_wp2
          go_region_held3 (fun w' => Below wr.heap.size wr w')
            (first | exact below_drew (Below.refl _ _) | exact below_step (by assumption) hb5)
            (first
              | (go_at_call 42; (with_reducible refine (tombs42 _ l B d hHT.out hl1000 (Kd.C_below HDr.out (by assumption))).mono ?_); rintro e w5 hM5; obtain ⟨D, dd, rfl, hd5, hC5, hb5⟩ := hM5.C; clear hM5)
              | (go_at_call 48; (with_reducible refine (rNeeds48 _ m B d l v HV.out hl1000 hd (Kd.C_below HDr.out (by assumption))).mono ?_); rintro e w5 ⟨rfl, hb5⟩)
              | (go_at_call 47; (with_reducible refine (Needs47 _ m D dd l v HV.out hl1000 hd5 (by first | exact hC5 | exact Kd.C_below hC5 hb5)).mono ?_); rintro e w5 ⟨rfl, hb5⟩))
          rename_i hS
          go_wp2
          go_roundw
          case rel => exact ⟨j + 1, by go_num, by omega, below_step hB hS⟩
          case measure => simp [intOf]; omega
        · obtain rfl : j = bs.length := by omega
          have HBr := Lib.hid hB
          go_wp2_with fail
          (with_reducible refine (tombs42 _ l B d hHT.out hl1000 (Kd.C_below HD.out HBr.out)).mono ?_)
          rintro e w2 hM2
          obtain ⟨D2, d2, rfl, hd2, hC2, hB2⟩ := hM2.C
          clear hM2
          have HB2 := Lib.hid (below_step HBr.out hB2)
          have HC2 := Lib.hid hC2
          have HCb := Lib.hid (Kd.C_below HC.out HB2.out)
          have hlp : (pruneB l bs).length ≤ 1000 := Nat.le_trans (prune_len _ _) hl1000
          have hokp := Lib.hid (show okT (pruneB l bs) from fun t ht => HOK.out t (prune_mem ht))
          go_wp2_with (at_builtin; refine Kd.R_append_rows k58 (Rr := Kd.K k58 w2) (w0 := w2) (W := w2) w2.heap.size rfl (.const (.slice none 0 0)) (.tmp 37) 55 58 (.agg #[.int .i64 0, .int .i64 0, .int .i64 0, .int .i64 0, .int .i64 0, .int .i64 0, .int .i64 0]) 56 rfl Try.underlying55 info58r rfl (by decide) (by decide) (.slice none 0 0) [] bs A bs.length c (fun k => w2.heap.size ≤ k) (fun k => w2.heap.size ≤ k) rfl rfl (Kd.R_nil _ _ _ _ _) HCb.out (fun x cs h => by rw [k58_open h]; exact k58_mkM _ _ _ x) (fun k hk => ⟨hk, by simp [Value.ownBlock]⟩) (fun k hk => hk) (Below.refl _ _) (Nat.le_refl _) (by simp; omega) ?_; intro v1 w3 hown1 hbel1 hg1 hat1; rw [List.nil_append] at hown1; obtain ⟨Av, cv, rfl, hcv, hCv⟩ := Kd.R_reads hown1; clear hown1 hg1 hat1)
          (with_reducible refine (Prune50 _ l D2 d2 bs Av cv hl1000 hb40 HOK.out hd2 (Kd.C_below HC2.out hbel1) hCv).mono ?_)
          rintro e w4 hM4
          obtain ⟨D4, d4, rfl, hd4, hC4, hB4⟩ := hM4.C
          clear hM4
          have HB4 := Lib.hid (below_step (below_step HB2.out hbel1) hB4)
          have HC4 := Lib.hid hC4
          clear hC4 hCv
          go_wp2_with fail
          (with_reducible refine (rPrune51 _ l B d bs A c hl1000 hb40 hd hc (Kd.C_below HD.out HB4.out) (Kd.C_below HC.out HB4.out)).mono ?_)
          rintro e w5 hM5
          obtain ⟨D5, d5, rfl, hd5, hC5, hB5⟩ := hM5.C
          clear hM5
          have HB5 := Lib.hid (below_step HB4.out hB5)
          have HC5 := Lib.hid hC5
          clear hC5
          go_wp2_with fail
          (with_reducible refine (same49 _ (pruneB l bs) D4 d4 D5 d5 hlp hokp.out (Kd.C_below HC4.out hB5) HC5.out).mono ?_)
          rintro e w6 ⟨rfl, hB6⟩
          have HB6 := Lib.hid (below_step HB5.out hB6)
          go_wp2_with fail
          (with_reducible refine (awake32 _).mono ?_)
          rintro e w7 ⟨rfl, hB7⟩
          go_wp2
          go_ret
          exact ⟨rfl, below_step HB6.out hB7⟩
end Go.Proofs.Yteafilojjdfllaa
