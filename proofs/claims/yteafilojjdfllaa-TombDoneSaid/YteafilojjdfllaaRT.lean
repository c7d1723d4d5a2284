/- Own text: RT, Small, laid into one text. -/
import Derived.Test.YteafilojjdfllaaTombC
namespace Go.Proofs.Yteafilojjdfllaa
section
open Go Go.RowKit Go.Proofs.YteafilojjdfllaaW.PrintWords Go.Proofs.YteafilojjdfllaaW.PrintLast Go.Proofs.YteafilojjdfllaaW.PrintMore Go.Proofs.Yteafilojjdfllaa.PAll

/-- a row's sizes -/
def RowSz (r : S37) : Prop := r.f0.length * 32 ≤ 140737488351232 ∧ r.f2.f0.length * 16 ≤ 140737488351232 ∧ r.f2.f1.length * 8 ≤ 140737488351232
theorem take_snoc {α : Type} (xs : List α) (z : α) (j : Nat) (h : j < xs.length) : xs.take (j + 1) = xs.take j ++ [xs.getD j z] := by
  rw [List.take_succ_eq_append_getElem h]; simp [List.getD_eq_getElem?_getD, h]
theorem getD_mem {α : Type} (xs : List α) (z : α) (j : Nat) (h : j < xs.length) : xs.getD j z ∈ xs := by simp [List.getD_eq_getElem?_getD, h]
/-- a list in memory, as the laws need it -/
def Made {α : Type} (d : Kd α) (xs : List α) (w : World) (e : Ending) (w' : World) : Prop :=
  (∃ D c, e = .returned (.slice D xs.length c) ∧ xs.length ≤ c ∧ d.C w' D xs.length xs) ∧ Below w.heap.size w w'

theorem info27r : (Try.prog.info? 27).map (fun i => (i.zero, i.size, i.bytes)) = some (some (.agg #[.int .i64 0, .int .i64 0, .string ⟨#[]⟩, .string ⟨#[]⟩, .slice none 0 0, .slice none 0 0, .int .i64 0, .int .i64 0]), 8, 112) := by kernel_rfl
set_option maxRecDepth 100000 in
set_option maxHeartbeats 4000000 in
/-- varvelaw00.Tombs. -/
theorem tombs42 (w : World) (xs : List S27) (A : Option Addr) (c : Nat) (hp : ∀ x ∈ xs, tinyP 0 x.f1) (hl : xs.length ≤ 1000) (hC : Kd.C k27 w A xs.length xs) :
    Calls Try.prog 42 #[.slice A xs.length c] w (Made k27 xs w) := by
  have HC := Lib.hid hC
  have HP := Lib.hid hp
  clear hC hp
  go_enter Try.func42, Try.ntmps42
  go_wp2
  go_loopw [3, 4] (fun u3 u4 wr => ∃ (j : Nat), u4 = .int .i64 j ∧ j ≤ xs.length ∧ Kd.N k27 27 wr w.heap.size (fun k => w.heap.size ≤ k) u3 (xs.take j) ∧ Below w.heap.size w wr)
    (fun _ u4 _ => xs.length - (intOf u4).toNat)
  case atStart => exact ⟨0, rfl, Nat.zero_le _, by simpa using Kd.N_nil k27 27 w w.heap.size (fun k => w.heap.size ≤ k), Below.refl _ _⟩
  case round =>
    obtain ⟨j, rfl, hj, hN, hB⟩ := hrel
    have hjl : (xs.take j).length = j := by simp; omega
    by_cases hlt : j < xs.length
    · obtain ⟨ad, B3, e3, B4, e4, rfl, k0, k1, k2, k3, k4, k5, k6, k7, l3, g3, l4, g4⟩ := at_T27 (Kd.C_below HC.out hB) (j : Int) (by omega) (by omega)
      simp only [Int.toNat_natCast, show rd_T27 xs (j : Int) = xs.getD j z27 by simp [rd_T27]] at k0 k1 k2 k3 k4 k5 k6 k7 l3 g3 l4 g4
      have Htake := Lib.hid (take_snoc xs z27 j hlt)
      have Hx := Lib.hid (HP.out _ (getD_mem xs z27 j hlt))
      obtain ⟨x, ex⟩ : ∃ x, xs.getD j z27 = x := ⟨_, rfl⟩
      rw [ex] at k0 k1 k2 k3 k4 k5 k6 k7 l3 g3 l4 g4 Htake Hx
      clear ex
      have hMC : MC wr x.f1 B3 e3 B4 e4 := ⟨l3, g3, l4, g4⟩
      obtain ⟨Au, cu, rfl⟩ := Kd.N_slice hN
      rw [hjl] at hN ⊢
      have HN := Lib.hid hN
      have hNlt := Kd.N_lt hN
      have HNlt := Lib.hid hNlt
      clear hN hNlt
      go_wp2_with (first | (go_at_call 34; (with_reducible refine (tomb34 _ x.f0 x.f2 x.f3 x.f1 B3 e3 B4 e4 Hx.out hMC).mono ?_); rintro e w5 ⟨cs, rfl, hFK, hB5⟩; obtain ⟨D3, d3, D4, d4, rfl, -, -, -, -⟩ := k27_open (Kd.FK_now hFK); have HFK := Lib.hid hFK; clear hFK) | (at_builtin; refine Kd.N_append k27 (w0 := w) (W := w5) w.heap.size rfl (.tmp 11) (.tmp 17) 45 27 (.agg #[.int .i64 0, .int .i64 0, .string ⟨#[]⟩, .string ⟨#[]⟩, .slice none 0 0, .slice none 0 0, .int .i64 0, .int .i64 0]) 112 rfl Try.underlying45 info27r rfl (by decide) (by decide) (.slice Au j cu) (xs.take j) x [.int .i64 x.f0, .int .i64 x.f1.f0, .string x.f1.f1, .string x.f1.f2, .slice D3 x.f1.f3.length d3, .slice D4 x.f1.f4.length d4, .int .i64 x.f2, .int .i64 x.f3] (fun k => w.heap.size ≤ k) (fun b => wr.heap.size ≤ b ∧ b < w5.heap.size) rfl rfl HFK.out (fun k hk => ⟨by have := hB.size; omega, fun e => by have := HNlt.out k e.symm; omega⟩) (fun k hk => by have := hB.size; have := hB5.size; omega) (Kd.N_below HN.out hB5) (below_step hB hB5) (by have := hB.size; have := hB5.size; omega) (by omega) ?_; intro v1 w2 hN2 hB2 hg2 hat2))
      go_roundw
      case rel => exact ⟨j + 1, by go_num, by omega, by rw [Htake.out]; exact hN2, hB2⟩
      case measure => simp [intOf]; omega
    · obtain rfl : j = xs.length := by omega
      rw [List.take_length] at hN
      obtain ⟨D, d, rfl, hd, hD⟩ := Kd.N_reads hN
      go_wp2
      go_ret
      exact ⟨⟨D, d, rfl, hd, hD⟩, hB⟩

end
section
open Go Go.RowKit Go.Proofs.YteafilojjdfllaaW.PrintWords Go.Proofs.YteafilojjdfllaaW.PrintLast Go.Proofs.YteafilojjdfllaaW.PrintMore Go.Proofs.Yteafilojjdfllaa.PAll

def okT (l : List S27) : Prop := ∀ t ∈ l, tinyP 0 t.f1 ∧ chkB t.f1 = true
set_option maxRecDepth 100000 in
set_option maxHeartbeats 4000000 in
/-- varvelaw19.small. -/
theorem small40 (w : World) (xs : List S27) (A : Option Addr) (c : Nat) (hC : Kd.C k27 w A xs.length xs) :
    Calls Try.prog 40 #[.slice A xs.length c] w fun e w' => (∃ v : Bool, e = .returned (.bool v) ∧ (v = true → xs.length ≤ 40 ∧ okT xs)) ∧ Below w.heap.size w w' := by
  have HC := Lib.hid hC
  clear hC
  by_cases hlen : (xs.length : Int) > 40
  · go_enter Try.func40, Try.ntmps40
    go_wp2
    go_ret
    exact ⟨⟨false, rfl, fun h => by cases h⟩, Below.refl _ _⟩
  · have hl : xs.length ≤ 40 := by omega
    go_enter Try.func40, Try.ntmps40
    go_wp2
    go_loopw [3] (fun u3 wr => ∃ (j : Nat), u3 = .int .i64 j ∧ j ≤ xs.length ∧ (∀ i, i < j → tinyP 0 (xs.getD i z27).f1 ∧ chkB (xs.getD i z27).f1 = true) ∧ Below w.heap.size w wr)
      (fun u3 _ => xs.length - (intOf u3).toNat)
    case atStart => exact ⟨0, rfl, Nat.zero_le _, fun i hi => absurd hi (Nat.not_lt_zero i), Below.refl _ _⟩
    case round =>
      obtain ⟨j, rfl, hj, hdone, hB⟩ := hrel
      have Hdone := Lib.hid hdone
      clear hdone
      by_cases hlt : j < xs.length
      · obtain ⟨ad, B3, e3, B4, e4, rfl, k0, k1, k2, k3, k4, k5, k6, k7, l3, g3, l4, g4⟩ := at_T27 HC.out (j : Int) (by omega) (by omega)
        simp only [Int.toNat_natCast, show rd_T27 xs (j : Int) = xs.getD j z27 by simp [rd_T27]] at k0 k1 k2 k3 k4 k5 k6 k7 l3 g3 l4 g4
        have hMC : MC w (xs.getD j z27).f1 B3 e3 B4 e4 := ⟨l3, g3, l4, g4⟩
        obtain ⟨x, ex⟩ : ∃ x, xs.getD j z27 = x := ⟨_, rfl⟩
        have Hex := Lib.hid ex
        rw [ex] at k1 k2 k3 k4 k5 hMC
        clear ex k0 k6 k7 l3 g3 l4 g4
        have k1 := pw_cell_below hB k1
        have k2 := pw_cell_below hB k2
        have k3 := pw_cell_below hB k3
        have k4 := pw_cell_below hB k4
        have k5 := pw_cell_below hB k5
        go_wp2_with fail
        (with_reducible refine (tiny31 _ x.f1 B3 e3 B4 e4 (hMC.below hB)).mono ?_)
        rintro e w1 ⟨v, rfl, hb1, htn⟩
        cases v with
        | false =>
          go_wp2_with fail
          go_ret
          exact ⟨⟨false, rfl, fun h => by cases h⟩, below_step hB hb1⟩
        | true =>
          have HT := Lib.hid (htn rfl)
          have hbd := HT.out.2.1
          have k1 := pw_cell_below hb1 k1
          have k2 := pw_cell_below hb1 k2
          have k3 := pw_cell_below hb1 k3
          have k4 := pw_cell_below hb1 k4
          have k5 := pw_cell_below hb1 k5
          cases hc : chkB x.f1 with
          | false =>
            have Hc := Lib.hid hc
            clear hc htn
            go_wp2_with fail
            (with_reducible refine (check36v _ x.f1 B3 e3 B4 e4 false Hc.out hbd (hMC.below (below_step hB hb1))).mono ?_)
            rintro e w2 ⟨rfl, hb2⟩
            go_wp2_with fail
            go_ret
            exact ⟨⟨false, rfl, fun h => by cases h⟩, below_step (below_step hB hb1) hb2⟩
          | true =>
            have Hc := Lib.hid hc
            clear hc htn
            go_wp2_with fail
            (with_reducible refine (check36v _ x.f1 B3 e3 B4 e4 true Hc.out hbd (hMC.below (below_step hB hb1))).mono ?_)
            rintro e w2 ⟨rfl, hb2⟩
            go_wp2_with fail
            go_roundw
            case rel =>
              refine ⟨j + 1, by go_num, by omega, fun i hi => ?_, below_step (below_step hB hb1) hb2⟩
              rcases Nat.lt_or_ge i j with h | h
              · exact Hdone.out i h
              · obtain rfl : i = j := by omega
                rw [Hex.out]
                exact ⟨HT.out, Hc.out⟩
            case measure => simp [intOf]; omega
      · obtain rfl : j = xs.length := by omega
        go_wp2
        go_ret
        refine ⟨⟨true, rfl, fun _ => ⟨hl, fun t ht => ?_⟩⟩, hB⟩
        obtain ⟨i, hi, rfl⟩ := List.mem_iff_getElem.1 ht
        have := Hdone.out i hi
        simpa [List.getD_eq_getElem?_getD, hi] using this
end
end Go.Proofs.Yteafilojjdfllaa
