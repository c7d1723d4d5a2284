/- Own text: tomb.Prune; the document's Prune; matchers and tombs of the same content. -/
import Derived.Test.YteafilojjdfllaaRT
import Derived.Test.YteafilojjdfllaaPAllx8b
import Derived.Test.YteafilojjdfllaaPAllx15
import Derived.Test.YteafilojjdfllaaOwn
import Derived.Test.YteafilojjdfllaaTombD
import Derived.Test.YteafilojjdfllaaPAllx17
namespace Go.Proofs.Yteafilojjdfllaa
open Go Go.RowKit Go.Proofs.YteafilojjdfllaaW.PrintWords Go.Proofs.YteafilojjdfllaaW.PrintLast Go.Proofs.YteafilojjdfllaaW.PrintMore Go.Proofs.Yteafilojjdfllaa.PAll

def meetB (t : S27) (day : Int) : Bool := decide (0 ≤ day ∧ day ≤ 127258290 ∧ t.f2 < t.f3 ∧ t.f2 < (day + 1) * 8640 ∧ t.f3 > day * 8640)
/-- does a block need a tomb? -/
def needB (m : S58) (t : S27) : Bool := decide (t.f0 > m.f5) && meetB t m.f2
theorem meets_val (t : S27) (day : Int) : tomb_meets.f t.f0 t.f1.f0 t.f1.f1 t.f1.f2 t.f1.f3 t.f1.f4 t.f2 t.f3 day = some (meetB t day) := by
 unfold tomb_meets.f meetB
 by_cases h1 : day < 0
 ·rw [if_pos h1, decide_eq_false (by omega)]
 ·rw [if_neg h1]
  by_cases h2 : day > 127258290
  ·rw [if_pos h2, decide_eq_false (by omega)]
  ·rw [if_neg h2]
   by_cases h3 : t.f2 ≥ t.f3
   ·rw [if_pos h3, decide_eq_false (by omega)]
   ·have e1 : wrap64 ((wrap64 (day + 1)) * 8640) = (day + 1) * 8640 := by unfold wrap64; omega
    have e2 : wrap64 (day * 8640) = day * 8640 := by unfold wrap64; omega
    rw [if_neg h3, e1, e2]
    by_cases h4 : t.f2 < (day + 1) * 8640
    ·rw [if_pos h4]
     congr 1
     rw [decide_eq_decide]; omega
    ·rw [if_neg h4, decide_eq_false (by omega)]
theorem rneeds_val (m : S58) (t : S27) : varveref19_needs.f m.f0 m.f1 m.f2 m.f3 m.f4 m.f5 m.f6 t.f0 t.f1.f0 t.f1.f1 t.f1.f2 t.f1.f3 t.f1.f4 t.f2 t.f3 = some (needB m t) := by
 unfold varveref19_needs.f needB meetB
 by_cases h0 : t.f0 ≤ m.f5
 ·rw [if_pos h0, decide_eq_false (show ¬ t.f0 > m.f5 by omega), Bool.false_and]
 ·rw [if_neg h0, decide_eq_true (show t.f0 > m.f5 by omega), Bool.true_and]
  by_cases h1 : m.f2 < 0
  ·rw [if_pos h1, decide_eq_false (by omega)]
  ·rw [if_neg h1]
   by_cases h2 : m.f2 > 127258290
   ·rw [if_pos h2, decide_eq_false (by omega)]
   ·rw [if_neg h2]
    have e1 : wrap64 ((wrap64 (m.f2 + 1)) * 8640) = (m.f2 + 1) * 8640 := by unfold wrap64; omega
    have e2 : wrap64 (m.f2 * 8640) = m.f2 * 8640 := by unfold wrap64; omega
    by_cases h3 : t.f2 < t.f3
    ·rw [if_pos h3, e1, e2]
     by_cases h4 : t.f2 < (m.f2 + 1) * 8640
     ·rw [if_pos h4]
      congr 1
      rw [decide_eq_decide]; omega
     ·rw [if_neg h4, decide_eq_false (by omega)]
    ·rw [if_neg h3, decide_eq_false (by omega)]
theorem drop_T27 (l : List S27) (i : Nat) (h : i < l.length) : l.drop i = rd_T27 l (i : Int) :: l.drop (i + 1) := by
 rw [List.drop_eq_getElem_cons h]
 simp [rd_T27, List.getD_eq_getElem?_getD, h]
theorem needs_l0 (m : S58) (l : List S27) (hl : l.length ≤ 1000000) : ∀ (d i k : Nat), i ≤ l.length → l.length ≤ i + d → d < k → tomb_Needs.l0 k l (l.length : Int) (i : Int) m.f0 m.f1 m.f2 m.f3 m.f4 m.f5 m.f6 = some ((l.drop i).any (needB m))
 | d, i, 0, _, _, h => by omega
 | d, i, k + 1, hi, hd, hk => by
  simp only [tomb_Needs.l0, w64s i (by omega)]
  by_cases hlt : i < l.length
  ·have ih := needs_l0 m l hl (d - 1) (i + 1) k (by omega) (by omega) (by omega)
   rw [if_pos (by omega), if_pos (by omega), if_pos (by omega), drop_T27 l i hlt, List.any_cons, ih]
   generalize rd_T27 l (i : Int) = t
   rw [meets_val]
   unfold needB
   by_cases h0 : t.f0 > m.f5
   ·rw [if_pos h0, decide_eq_true h0, Bool.true_and, Option.bind_some]
    cases meetB t m.f2 <;> simp
   ·rw [if_neg h0, decide_eq_false h0, Bool.false_and, Bool.false_or]
  ·rw [if_neg (by omega), List.drop_of_length_le (by omega)]; rfl
theorem Needs47 (w : World) (m : S58) (A : Option Addr) (c : Nat) (l : List S27) (v : Bool) (hv : l.any (needB m) = v) (hl : l.length ≤ 1000) (hc : l.length ≤ c) (hC : Kd.C k27 w A l.length l) :
  Calls Try.prog 47 #[.agg #[.int .i64 m.f0, .int .i64 m.f1, .int .i64 m.f2, .int .i64 m.f3, .int .i64 m.f4, .int .i64 m.f5, .int .i64 m.f6], .slice A l.length c] w fun e w' => e = .returned (.bool v) ∧ Below w.heap.size w w' :=
 tomb_Needs.calls (l.length + 1) m.f0 m.f1 m.f2 m.f3 m.f4 m.f5 m.f6 A c l v w hC hc (hv ▸ by
  have := needs_l0 m l (by omega) l.length 0 (l.length + 1) (by omega) (by omega) (by omega)
  simpa [tomb_Needs.f] using this)
theorem rneeds_l0 (m : S58) (l : List S27) (hl : l.length ≤ 1000000) : ∀ (d i k : Nat), i ≤ l.length → l.length ≤ i + d → d < k → varveref19_Needs.l0 k l (i : Int) m.f0 m.f1 m.f2 m.f3 m.f4 m.f5 m.f6 = some ((l.drop i).any (needB m))
 | d, i, 0, _, _, h => by omega
 | d, i, k + 1, hi, hd, hk => by
  simp only [varveref19_Needs.l0, w64s i (by omega)]
  by_cases hlt : i < l.length
  ·have ih := rneeds_l0 m l hl (d - 1) (i + 1) k (by omega) (by omega) (by omega)
   rw [if_pos (by omega), if_pos (by omega), drop_T27 l i hlt, List.any_cons, ih]
   generalize rd_T27 l (i : Int) = t
   rw [rneeds_val, Option.bind_some]
   cases needB m t <;> simp
  ·rw [if_neg (by omega), List.drop_of_length_le (by omega)]; rfl
theorem rNeeds48 (w : World) (m : S58) (A : Option Addr) (c : Nat) (l : List S27) (v : Bool) (hv : l.any (needB m) = v) (hl : l.length ≤ 1000) (hc : l.length ≤ c) (hC : Kd.C k27 w A l.length l) :
  Calls Try.prog 48 #[.agg #[.int .i64 m.f0, .int .i64 m.f1, .int .i64 m.f2, .int .i64 m.f3, .int .i64 m.f4, .int .i64 m.f5, .int .i64 m.f6], .slice A l.length c] w fun e w' => e = .returned (.bool v) ∧ Below w.heap.size w w' :=
 varveref19_Needs.calls (l.length + 1) m.f0 m.f1 m.f2 m.f3 m.f4 m.f5 m.f6 A c l v w hC hc (hv ▸ by
  have := rneeds_l0 m l (by omega) l.length 0 (l.length + 1) (by omega) (by omega) (by omega)
  simpa [varveref19_Needs.f] using this)
/-- the tombs that some block needs -/
def pruneB (l : List S27) (bs : List S58) : List S27 := l.filter (fun t => bs.any (fun m => needB m t))
theorem prune_snoc (l : List S27) (t : S27) (bs : List S58) : pruneB (l ++ [t]) bs = pruneB l bs ++ (if bs.any (fun m => needB m t) then [t] else []) := by
 unfold pruneB
 rw [List.filter_append]
 cases h : bs.any (fun m => needB m t) <;> simp [h]
theorem prune_len (l : List S27) (bs : List S58) : (pruneB l bs).length ≤ l.length := List.length_filter_le _ _
theorem prune_mem {l : List S27} {bs : List S58} {t : S27} (h : t ∈ pruneB l bs) : t ∈ l := (List.mem_filter.1 h).1

theorem info27t : ∃ i, Try.prog.info? 27 = some i ∧ i.size = 8 := by
 have h := info27r
 cases hi : Try.prog.info? 27 with
 | none => rw [hi] at h; cases h
 | some i => rw [hi] at h; simp only [Option.map_some, Option.some.injEq, Prod.mk.injEq] at h; exact ⟨i, rfl, h.2.1⟩
/-- one tomb cut out of a list -/
theorem cut_one {w : World} {l : List S27} {B : Option Addr} {d i : Nat} (h1000 : l.length ≤ 1000) (hi : i < l.length) (hd : l.length ≤ d) (hC : Kd.C k27 w B l.length l) :
  ∃ B' d', (∀ W : World, (Instr.slice 45 (.slice B l.length d) (some (.int .i64 (i : Int))) (some (.int .i64 (IntKind.i64.wrap ((i : Int) + 1)))) none).run Try.prog W = .ok (.slice B' 1 d') W) ∧ 1 ≤ d' ∧ Kd.C k27 w B' 1 [l.getD i z27] := by
 obtain ⟨i27, hi27, hs27⟩ := info27t
 have s1 := cut_mid (P := Try.prog) 45 27 .i64 .i64 Try.underlying45 hi27 8 hs27 B l.length d (i : Int) ((i : Int) + 1) (by omega) (by omega) (by omega) hd
 have e1 : ((i : Int) + 1).toNat = i + 1 := by omega
 rw [Int.toNat_natCast, e1, show i + 1 - i = 1 by omega] at s1
 have h := Kd.C_mid (lo := i) (hi := i + 1) hC (by omega) (by omega) hd
 have e2 : (l.take (i + 1)).drop i = [l.getD i z27] := by
  rw [List.take_succ_eq_append_getElem hi, List.drop_append_of_le_length (by rw [List.length_take]; omega), List.drop_of_length_le (by rw [List.length_take]; omega)]
  simp [List.getD_eq_getElem?_getD, hi]
 rw [e2] at h
 have ew : IntKind.i64.wrap ((i : Int) + 1) = (i : Int) + 1 := by rw [IntKind.wrap_i64]; omega
 rw [ew]
 exact ⟨_, _, s1, by omega, h⟩
theorem MF.FK {W : World} {S : Nat → Prop} {t : S27} {A3 : Option Addr} {c3 : Nat} {A4 : Option Addr} {c4 : Nat} (h : MF W S t.f1 A3 c3 A4 c4) (hS : ∀ b, S b → b < W.heap.size) : Kd.FK k27 W S t [.int .i64 t.f0, .int .i64 t.f1.f0, .string t.f1.f1, .string t.f1.f2, .slice A3 t.f1.f3.length c3, .slice A4 t.f1.f4.length c4, .int .i64 t.f2, .int .i64 t.f3] := by
 intro X hX
 obtain ⟨h1, h2, h3, h4⟩ := h X (fun b hb => hX b hb (hS b hb))
 exact k27_mk X t h1 h2 h3 h4
theorem any_snoc {α : Type} (l : List α) (x : α) (p : α → Bool) : (l ++ [x]).any p = (l.any p || p x) := by simp
theorem prune_hit {l : List S58} {m : S58} {t : S27} (hm : m ∈ l) (h : needB m t = true) : l.any (fun m => needB m t) = true := by
 rw [List.any_eq_true]; exact ⟨m, hm, h⟩
theorem need1 (w : World) (m : S58) (A : Option Addr) (c : Nat) (t : S27) (v : Bool) (hv : needB m t = v) (hc : 1 ≤ c) (hC : Kd.C k27 w A 1 [t]) :
  Calls Try.prog 47 #[.agg #[.int .i64 m.f0, .int .i64 m.f1, .int .i64 m.f2, .int .i64 m.f3, .int .i64 m.f4, .int .i64 m.f5, .int .i64 m.f6], .slice A 1 c] w fun e w' => e = .returned (.bool v) ∧ Below w.heap.size w w' :=
 Needs47 w m A c [t] v (by simp [hv]) (by simp) hc hC
set_option maxRecDepth 100000 in
set_option maxHeartbeats 8000000 in
/-- tomb.Prune. -/
theorem Prune50 (w : World) (l : List S27) (B : Option Addr) (d : Nat) (bs : List S58) (A : Option Addr) (c : Nat) (hl : l.length ≤ 1000) (hb : bs.length ≤ 1000) (hok : okT l) (hd : l.length ≤ d)
  (hD : Kd.C k27 w B l.length l) (hC : Kd.C k58 w A bs.length bs) :
  Calls Try.prog 50 #[.slice B l.length d, .slice A bs.length c] w (Made k27 (pruneB l bs) w) := by
 have HC := Lib.hid hC
 have HD := Lib.hid hD
 have HN := Lib.hid hok
 clear hC hD hok
 go_enter Try.func50, Try.ntmps50
 go_wp2
 go_step3
 go_wp2
 go_step3
 go_wp2
 go_loopw [5, 6, 7, 12] (fun u5 _ _ u12 wr => ∃ (j : Nat), u12 = .int .i64 j ∧ j ≤ l.length ∧ Kd.N k27 27 wr w.heap.size (fun k => w.heap.size ≤ k) u5 (pruneB (l.take j) bs) ∧ Below w.heap.size w wr)
  (fun _ _ _ u12 _ => l.length - (intOf u12).toNat)
 case atStart => exact ⟨0, rfl, Nat.zero_le _, by simpa [pruneB] using Kd.N_nil k27 27 w w.heap.size (fun k => w.heap.size ≤ k), Below.refl _ _⟩
 case round =>
  obtain ⟨j, rfl, hj, hN, hB⟩ := hrel
  by_cases hlt : j < l.length
  ·obtain ⟨ad, B3, e3, B4, e4, rfl, k0, k1, k2, k3, k4, k5, k6, k7, l3, g3, l4, g4⟩ := at_T27 (Kd.C_below HD.out hB) (j : Int) (by omega) (by omega)
   simp only [Int.toNat_natCast, show rd_T27 l (j : Int) = l.getD j z27 by simp [rd_T27]] at k0 k1 k2 k3 k4 k5 k6 k7 l3 g3 l4 g4
   have Htake := Lib.hid (take_snoc l z27 j hlt)
   have Hx := Lib.hid (HN.out _ (getD_mem l z27 j hlt))
   obtain ⟨D', d', s1, hd', hCt⟩ := cut_one hl hlt hd HD.out
   obtain ⟨t, et⟩ : ∃ t, l.getD j z27 = t := ⟨_, rfl⟩
   rw [et] at k0 k1 k2 k3 k4 k5 k6 k7 l3 g3 l4 g4 Htake Hx hCt
   clear et
   have HCt := Lib.hid hCt
   have HM := Lib.hid (show MC wr t.f1 B3 e3 B4 e4 from ⟨l3, g3, l4, g4⟩)
   clear hCt l3 g3 l4 g4
   obtain ⟨Au, cu, rfl⟩ := Kd.N_slice hN
   have HNN := Lib.hid hN
   have HNlt := Lib.hid (Kd.N_lt hN)
   clear hN
   have hlen : (pruneB (l.take j) bs).length ≤ 1000 := Nat.le_trans (prune_len _ _) (by simp; omega)
   rename World => wo
   go_wp2
   obtain ⟨V, eV⟩ : ∃ V, wo.alloc (.cells #[.int .i64 t.f0, .int .i64 t.f1.f0, .string t.f1.f1, .string t.f1.f2, .slice B3 t.f1.f3.length e3, .slice B4 t.f1.f4.length e4, .int .i64 t.f2, .int .i64 t.f3] 27) = V := ⟨_, rfl⟩
   have hR0 : BoxT V wo.heap.size t.f0 t.f1.f0 t.f1.f1 t.f1.f2 (.slice B3 t.f1.f3.length e3) (.slice B4 t.f1.f4.length e4) t.f2 t.f3 := eV ▸ blk_new wo _
   have hBV : Below wo.heap.size wo V := eV ▸ below_alloc (Below.refl _ _) _
   have hsV : V.heap.size = wo.heap.size + 1 := by rw [← eV]; simp
   rw [eV]
   clear eV k0 k1 k2 k3 k4 k5 k6 k7
   go_loopw [5, 9, 19] (fun u5 _ u19 wr => ∃ (i : Nat), u5 = .slice Au (pruneB (l.take j) bs).length cu ∧ u19 = .int .i64 i ∧ i ≤ bs.length ∧ Hid ((bs.take i).any (fun m => needB m t) = false) ∧ Below V.heap.size V wr)
    (fun _ _ u19 _ => bs.length - (intOf u19).toNat)
   case atStart => exact ⟨0, rfl, rfl, Nat.zero_le _, Lib.hid (by simp), Below.refl _ _⟩
   case round =>
    obtain ⟨i, rfl, rfl, hi, HNo, hBi⟩ := hrel
    have hBw := below_step (below_step hB hBV) hBi
    by_cases hlt2 : i < bs.length
    ·obtain ⟨ad2, rfl, k0, k1, k2, k3, k4, k5, k6⟩ := at_T58 (Kd.C_below HC.out hBw) (i : Int) (by omega) (by omega)
     simp only [Int.toNat_natCast, show rd_T58 bs (i : Int) = bs.getD i z58 by simp [rd_T58]] at k0 k1 k2 k3 k4 k5 k6
     have Htk := Lib.hid (take_snoc bs z58 i hlt2)
     have Hmem := Lib.hid (getD_mem bs z58 i hlt2)
     obtain ⟨m, em⟩ : ∃ m, bs.getD i z58 = m := ⟨_, rfl⟩
     rw [em] at k0 k1 k2 k3 k4 k5 k6 Htk Hmem
     clear em
     obtain ⟨U, eU⟩ : ∃ U, wr.alloc (.cells #[.int .i64 m.f0, .int .i64 m.f1, .int .i64 m.f2, .int .i64 m.f3, .int .i64 m.f4, .int .i64 m.f5, .int .i64 m.f6] 58) = U := ⟨_, rfl⟩
     have hBU : Below wr.heap.size wr U := eU ▸ below_alloc (Below.refl _ _) _
     have hX : U.heap[wr.heap.size]? = some (.cells #[.int .i64 m.f0, .int .i64 m.f1, .int .i64 m.f2, .int .i64 m.f3, .int .i64 m.f4, .int .i64 m.f5, .int .i64 m.f6] 58 (0, 0)) := eU ▸ blk_new wr _
     have m0 := blk_cell hX 0
     have m1 := blk_cell hX 1
     have m2 := blk_cell hX 2
     have m3 := blk_cell hX 3
     have m4 := blk_cell hX 4
     have m5 := blk_cell hX 5
     have m6 := blk_cell hX 6
     simp only [List.getElem?_toArray, List.getElem?_cons_zero, List.getElem?_cons_succ] at m0 m1 m2 m3 m4 m5 m6
     clear hX
     have HBU := Lib.hid (below_step hBi hBU)
     have HBUw := Lib.hid (below_step hBw hBU)
     go_wp2
     clear eU k0 k1 k2 k3 k4 k5 k6 hBU
     cases hv : needB m t with
     | true =>
      have HV := Lib.hid hv
      have HHit := Lib.hid (prune_hit Hmem.out hv)
      clear hv
      go_region_with ((go_at_call 47; (with_reducible refine (need1 _ m D' d' t true HV.out hd' (Kd.C_below HCt.out (below_drew HBUw.out))).mono ?_); rintro e w5 ⟨rfl, hb5⟩))
      have HB5V := Lib.hid (below_step (below_drew HBU.out) hb5)
      have HB5w := Lib.hid (below_step (below_drew HBUw.out) hb5)
      have hR5 := hR0.below HB5V.out
      have hlt5 := blk_lt hR5
      have HM5 := Lib.hid ((HM.out.below hBV).below HB5V.out)
      obtain ⟨r0, r1, r2, r3, r4, r5, r6, r7⟩ := hR5.all
      clear hb5 m0 m1 m2 m3 m4 m5 m6 s1
      go_wp2_with fail
      (with_reducible refine (Own105 _ t.f1 B3 e3 B4 e4 Hx.out.1 Hx.out.2 HM5.out).mono ?_)
      rintro e w6 ⟨D3, f3, D4, f4, rfl, hMF, hb6⟩
      have HMF := Lib.hid hMF
      clear hMF r0 r1 r2 r3 r4 r5 r6 r7
      have hR6 := hR5.below hb6
      have hs6 := hb6.size
      have HB6w := Lib.hid (below_step HB5w.out hb6)
      have HB6o := Lib.hid (below_step (below_step hBV HB5V.out) hb6)
      have z1 := blk_frozen hR6 1
      have z2 := blk_frozen hR6 2
      have z3 := blk_frozen hR6 3
      have z4 := blk_frozen hR6 4
      have z5 := blk_frozen hR6 5
      have hX7 := blk_set (blk_set (blk_set (blk_set (blk_set hR6 1 (.int .i64 t.f1.f0)) 2 (.string t.f1.f1)) 3 (.string t.f1.f2)) 4 (.slice D3 t.f1.f3.length f3)) 5 (.slice D4 t.f1.f4.length f4)
      simp at hX7
      have y0 := blk_cell hX7 0
      have y1 := blk_cell hX7 1
      have y2 := blk_cell hX7 2
      have y3 := blk_cell hX7 3
      have y4 := blk_cell hX7 4
      have y5 := blk_cell hX7 5
      have y6 := blk_cell hX7 6
      have y7 := blk_cell hX7 7
      simp only [List.getElem?_toArray, List.getElem?_cons_zero, List.getElem?_cons_succ] at y0 y1 y2 y3 y4 y5 y6 y7
      have HK7 := Lib.hid (show ∀ q, q ≠ wo.heap.size → (((((w6.setCell ⟨wo.heap.size, 1, none⟩ (.int .i64 t.f1.f0)).setCell ⟨wo.heap.size, 2, none⟩ (.string t.f1.f1)).setCell ⟨wo.heap.size, 3, none⟩ (.string t.f1.f2)).setCell ⟨wo.heap.size, 4, none⟩ (.slice D3 t.f1.f3.length f3)).setCell ⟨wo.heap.size, 5, none⟩ (.slice D4 t.f1.f4.length f4)).heap[q]? = w6.heap[q]? from fun q hq => by
       rw [Below.heap_setCell _ _ _ q (by simpa using hq), Below.heap_setCell _ _ _ q (by simpa using hq), Below.heap_setCell _ _ _ q (by simpa using hq), Below.heap_setCell _ _ _ q (by simpa using hq), Below.heap_setCell _ _ _ q (by simpa using hq)])
      have HS7 := Lib.hid (show (((((w6.setCell ⟨wo.heap.size, 1, none⟩ (.int .i64 t.f1.f0)).setCell ⟨wo.heap.size, 2, none⟩ (.string t.f1.f1)).setCell ⟨wo.heap.size, 3, none⟩ (.string t.f1.f2)).setCell ⟨wo.heap.size, 4, none⟩ (.slice D3 t.f1.f3.length f3)).setCell ⟨wo.heap.size, 5, none⟩ (.slice D4 t.f1.f4.length f4)).heap.size = w6.heap.size by simp)
      have hwo := hB.size
      have HB7 := Lib.hid (((((HB6w.out.setCell (p := ⟨wo.heap.size, 1, none⟩) (by simpa using hwo) (.int .i64 t.f1.f0)).setCell (p := ⟨wo.heap.size, 2, none⟩) (by simpa using hwo) (.string t.f1.f1)).setCell (p := ⟨wo.heap.size, 3, none⟩) (by simpa using hwo) (.string t.f1.f2)).setCell (p := ⟨wo.heap.size, 4, none⟩) (by simpa using hwo) (.slice D3 t.f1.f3.length f3)).setCell (p := ⟨wo.heap.size, 5, none⟩) (by simpa using hwo) (.slice D4 t.f1.f4.length f4))
      have HFK := Lib.hid (MF.FK (t := t) (HMF.out.move (Y := (((((w6.setCell ⟨wo.heap.size, 1, none⟩ (.int .i64 t.f1.f0)).setCell ⟨wo.heap.size, 2, none⟩ (.string t.f1.f1)).setCell ⟨wo.heap.size, 3, none⟩ (.string t.f1.f2)).setCell ⟨wo.heap.size, 4, none⟩ (.slice D3 t.f1.f3.length f3)).setCell ⟨wo.heap.size, 5, none⟩ (.slice D4 t.f1.f4.length f4))) (T := fun q => w5.heap.size ≤ q ∧ q < w6.heap.size) (fun q hq => ⟨hq, HK7.out q (by have := hq.1; omega)⟩)) (fun q hq => by have := hq.2; have := HS7.out; omega))
      have HN7 := Lib.hid (Kd.N_below HNN.out (w1 := (((((w6.setCell ⟨wo.heap.size, 1, none⟩ (.int .i64 t.f1.f0)).setCell ⟨wo.heap.size, 2, none⟩ (.string t.f1.f1)).setCell ⟨wo.heap.size, 3, none⟩ (.string t.f1.f2)).setCell ⟨wo.heap.size, 4, none⟩ (.slice D3 t.f1.f3.length f3)).setCell ⟨wo.heap.size, 5, none⟩ (.slice D4 t.f1.f4.length f4))) (((((HB6o.out.setCell (p := ⟨wo.heap.size, 1, none⟩) (Nat.le_refl _) (.int .i64 t.f1.f0)).setCell (p := ⟨wo.heap.size, 2, none⟩) (Nat.le_refl _) (.string t.f1.f1)).setCell (p := ⟨wo.heap.size, 3, none⟩) (Nat.le_refl _) (.string t.f1.f2)).setCell (p := ⟨wo.heap.size, 4, none⟩) (Nat.le_refl _) (.slice D3 t.f1.f3.length f3)).setCell (p := ⟨wo.heap.size, 5, none⟩) (Nat.le_refl _) (.slice D4 t.f1.f4.length f4)))
      obtain ⟨r0, r1, r2, r3, r4, r5, r6, r7⟩ := hR6.all
      have hB6s := HB6o.out.size
      have hB5s := HB5w.out.size
      go_wp2_with (at_builtin; refine Kd.N_append k27 (w0 := w) (W := (((((w6.setCell ⟨wo.heap.size, 1, none⟩ (.int .i64 t.f1.f0)).setCell ⟨wo.heap.size, 2, none⟩ (.string t.f1.f1)).setCell ⟨wo.heap.size, 3, none⟩ (.string t.f1.f2)).setCell ⟨wo.heap.size, 4, none⟩ (.slice D3 t.f1.f3.length f3)).setCell ⟨wo.heap.size, 5, none⟩ (.slice D4 t.f1.f4.length f4))) w.heap.size rfl (.tmp 34) (.tmp 36) 45 27 (.agg #[.int .i64 0, .int .i64 0, .string ⟨#[]⟩, .string ⟨#[]⟩, .slice none 0 0, .slice none 0 0, .int .i64 0, .int .i64 0]) 112 rfl Try.underlying45 info27r rfl (by decide) (by decide) (.slice Au (pruneB (l.take j) bs).length cu) (pruneB (l.take j) bs) t [.int .i64 t.f0, .int .i64 t.f1.f0, .string t.f1.f1, .string t.f1.f2, .slice D3 t.f1.f3.length f3, .slice D4 t.f1.f4.length f4, .int .i64 t.f2, .int .i64 t.f3] (fun k => w.heap.size ≤ k) (fun q => w5.heap.size ≤ q ∧ q < w6.heap.size) rfl (by rw [HS7.out]; first | rfl | simp) HFK.out (fun k hk => ⟨by omega, fun e => by have := HNlt.out k e.symm; omega⟩) (fun k hk => by rw [HS7.out] at hk; omega) HN7.out HB7.out (by rw [HS7.out]; omega) (by omega) ?_; intro v1 w2 hN2 hB2 hg2 hat2)
      exact ⟨⟨j + 1, by go_num, by omega, by rw [Htake.out, prune_snoc, HHit.out, if_pos rfl]; exact hN2, hB2⟩, by simp [intOf]; omega⟩
     | false =>
      have HV := Lib.hid hv
      clear hv
      go_region_with ((go_at_call 47; (with_reducible refine (need1 _ m D' d' t false HV.out hd' (Kd.C_below HCt.out (below_drew HBUw.out))).mono ?_); rintro e w5 ⟨rfl, hb5⟩))
      go_wp2
      go_roundw
      case rel => exact ⟨i + 1, rfl, by go_num, by omega, Lib.hid (by rw [Htk.out, any_snoc, HNo.out, HV.out]; rfl), below_step (below_drew HBU.out) hb5⟩
      case measure => simp [intOf]; omega
    ·obtain rfl : i = bs.length := by omega
     have HNo' := Lib.hid (show bs.any (fun m => needB m t) = false from by have := HNo.out; rwa [List.take_length] at this)
     go_wp2
     go_roundw
     case rel => exact ⟨j + 1, by go_num, by omega, by rw [Htake.out, prune_snoc, HNo'.out, if_neg (by decide), List.append_nil]; exact Kd.N_below HNN.out (below_step hBV hBi), hBw⟩
     case measure => simp [intOf]; omega
  ·obtain rfl : j = l.length := by omega
   rw [List.take_length] at hN
   obtain ⟨D, e, rfl, hd, hD⟩ := Kd.N_reads hN
   go_wp2
   rw [Exit.noGoto_ret]
   go_ret
   exact ⟨⟨D, e, rfl, hd, hD⟩, hB⟩

theorem heap25 : Kd.Heap k25 := Kd.heap_fix (fun _ hd => Kd.heap_iso _ (Kd.heap_pair (Kd.heap_int .i64) (Kd.heap_pair Kd.heap_string (Kd.heap_pair Kd.heap_string (Kd.heap_pair (Kd.heap_slice 9 Kd.heap_string) (Kd.heap_slice 25 hd))))))
theorem heap27 : Kd.Heap k27 := Kd.heap_iso _ (Kd.heap_pair (Kd.heap_int .i64) (Kd.heap_pair heap25 (Kd.heap_pair (Kd.heap_int .i64) (Kd.heap_int .i64))))
theorem V_old27 {w : World} {B : Option Addr} {d : Nat} {l : List S27} (hd : l.length ≤ d) (hD : Kd.C k27 w B l.length l) : Kd.V k27 27 w w.heap.size (fun k => k < w.heap.size) (.slice B l.length d) l :=
 ⟨B, d, rfl, hd, fun _ hW => heap27.C (fun k hk => hW k hk hk) hD⟩
theorem drop_T58 (l : List S58) (i : Nat) (h : i < l.length) : l.drop i = rd_T58 l (i : Int) :: l.drop (i + 1) := by
 rw [List.drop_eq_getElem_cons h]
 simp [rd_T58, List.getD_eq_getElem?_getD, h]
theorem eta27 (t : S27) : (⟨t.f0, (⟨t.f1.f0, t.f1.f1, t.f1.f2, t.f1.f3, t.f1.f4⟩ : S25), t.f2, t.f3⟩ : S27) = t := by
 obtain ⟨a, ⟨o, n, v, vs, ks⟩, b, c⟩ := t; rfl
theorem rprune_l1 (l : List S27) (bs : List S58) (hb : bs.length ≤ 1000) (j : Nat) (hj : j < l.length) (hl : l.length ≤ 1000) (x : List S27) (hx : x.length ≤ 1000) : ∀ (d i k : Nat) (b : Bool), i ≤ bs.length → bs.length ≤ i + d → varveref19_Prune.l1 (k + d + 1) l bs x (j : Int) b (i : Int) =
   varveref19_Prune.l0 (k + d - (bs.length - i)) l bs (if b || (bs.drop i).any (fun m => needB m (rd_T27 l (j : Int))) then x ++ [rd_T27 l (j : Int)] else x) ((j + 1 : Nat) : Int)
 | d, i, k, b, hi, hd => by
  rw [varveref19_Prune.l1]
  by_cases hlt : i < bs.length
  ·obtain ⟨d, rfl⟩ : ∃ q, d = q + 1 := ⟨d - 1, by omega⟩
   have ih := rprune_l1 l bs hb j hj hl x hx d (i + 1) k
   rw [if_pos (by omega), w64s i (by omega), drop_T58 bs i hlt, List.any_cons]
   cases b with
   | true =>
    rw [if_pos rfl, show k + (d + 1) = k + d + 1 by omega, ih true (by omega) (by omega), show k + d + 1 - (bs.length - i) = k + d - (bs.length - (i + 1)) by omega]
    simp
   | false =>
    rw [if_neg (by decide), if_pos (by omega), if_pos (by omega), if_pos (by omega), rneeds_val, Option.bind_some, show k + (d + 1) = k + d + 1 by omega, ih _ (by omega) (by omega), show k + d + 1 - (bs.length - i) = k + d - (bs.length - (i + 1)) by omega]
    simp
  ·obtain rfl : i = bs.length := by omega
   rw [if_neg (by omega), w64s j (by omega), List.drop_of_length_le (Nat.le_refl _), List.any_nil, Bool.or_false, Nat.sub_self, Nat.sub_zero]
   cases b with
   | true => rw [if_pos rfl, if_pos (by omega), if_pos (by omega), if_pos (by omega), if_pos rfl, eta27 (rd_T27 l (j : Int))]
   | false => rfl
theorem rprune_l0 (l : List S27) (bs : List S58) (hb : bs.length ≤ 1000) (hl : l.length ≤ 1000) : ∀ (q j k : Nat) (x : List S27), j ≤ l.length → l.length ≤ j + q → (q + 1) * (bs.length + 3) ≤ k → x.length ≤ j → varveref19_Prune.l0 k l bs x (j : Int) = some (x ++ pruneB (l.drop j) bs)
 | q, j, 0, x, _, _, h, _ => by have : 0 < (q + 1) * (bs.length + 3) := Nat.mul_pos (by omega) (by omega); omega
 | q, j, k + 1, x, hj, hq, hk, hx => by
  rw [varveref19_Prune.l0]
  by_cases hlt : j < l.length
  ·obtain ⟨q, rfl⟩ : ∃ r, q = r + 1 := ⟨q - 1, by omega⟩
   rw [Nat.add_mul, Nat.one_mul] at hk
   rw [if_pos (by omega)]
   obtain ⟨k', rfl⟩ : ∃ r, k = r + bs.length + 1 := ⟨k - bs.length - 1, by omega⟩
   have h1 := rprune_l1 l bs hb j hlt hl x (by omega) bs.length 0 k' false (by omega) (by omega)
   rw [show ((0 : Nat) : Int) = 0 from rfl, List.drop_zero, Bool.false_or] at h1
   rw [h1, show k' + bs.length - (bs.length - 0) = k' by omega, rprune_l0 l bs hb hl q (j + 1) k' _ (by omega) (by omega) (by omega) (by split <;> first | omega | (simp; omega)), drop_T27 l j hlt]
   unfold pruneB
   rw [List.filter_cons]
   by_cases hh : bs.any (fun m => needB m (rd_T27 l (j : Int))) = true
   ·rw [if_pos hh, if_pos hh]; simp
   ·rw [if_neg hh, if_neg hh]
  ·rw [if_neg (by omega), List.drop_of_length_le (by omega)]
   simp [pruneB]
theorem rPrune51 (w : World) (l : List S27) (B : Option Addr) (d : Nat) (bs : List S58) (A : Option Addr) (c : Nat) (hl : l.length ≤ 1000) (hb : bs.length ≤ 1000) (hd : l.length ≤ d) (hc : bs.length ≤ c)
  (hD : Kd.C k27 w B l.length l) (hC : Kd.C k58 w A bs.length bs) :
  Calls Try.prog 51 #[.slice B l.length d, .slice A bs.length c] w (Made k27 (pruneB l bs) w) := by
 have h := rprune_l0 l bs hb hl l.length 0 ((l.length + 1) * (bs.length + 3)) [] (by omega) (by omega) (Nat.le_refl _) (by simp)
 refine (varveref19_Prune.calls _ (fun k => k < w.heap.size) B d l A c bs (pruneB l bs) w (V_old27 hd hD) hC hc (by simpa [varveref19_Prune.f] using h)).mono ?_
 rintro e w' ⟨v, rfl, hN, hB⟩
 obtain ⟨D, c', rfl, hd', hD'⟩ := Kd.N_reads hN
 exact ⟨⟨D, c', rfl, hd', hD'⟩, hB⟩
/-! ### matchers of the same content -/
set_option maxRecDepth 100000 in
set_option maxHeartbeats 8000000 in
theorem same90 : ∀ (N : Nat) (m : S25), nodesM m ≤ N → nodesM m ≤ 1000 → m.f3.length ≤ 1000 → wideM m → ∀ (A3 : Option Addr) (c3 : Nat) (A4 : Option Addr) (c4 : Nat) (B3 : Option Addr) (d3 : Nat) (B4 : Option Addr) (d4 : Nat) (w : World), MC w m A3 c3 A4 c4 → MC w m B3 d3 B4 d4 →
  Calls Try.prog 90 #[.agg #[.int .i64 m.f0, .string m.f1, .string m.f2, .slice A3 m.f3.length c3, .slice A4 m.f4.length c4], .agg #[.int .i64 m.f0, .string m.f1, .string m.f2, .slice B3 m.f3.length d3, .slice B4 m.f4.length d4]] w fun e w' => e = .returned (.bool true) ∧ Below w.heap.size w w' := by
 intro N
 induction N with
 | zero => intro m h; rw [nodesM_mk] at h; omega
 | succ N ih =>
  rintro ⟨op, t1, t2, vs, ks⟩ hN h1000 hv1000 hw
  have IH := Lib.hid ih
  clear ih
  intro A3 c3 A4 c4 B3 d3 B4 d4 w hM hM'
  obtain ⟨hw1, hw2⟩ := (wideM_mk _).1 hw
  simp only at hw1 hv1000 hM hM'
  have Hw2 := Lib.hid hw2
  have hks : ks.length ≤ 1000 := by have := len_nodes ks; rw [nodesM_mk] at h1000; simp only at h1000; omega
  obtain ⟨V0, eV0⟩ : ∃ V0, V0 = w.alloc (.cells #[.int .i64 op, .string t1, .string t2, .slice A3 vs.length c3, .slice A4 ks.length c4] 25) := ⟨_, rfl⟩
  obtain ⟨V, eV⟩ : ∃ V, V = V0.alloc (.cells #[.int .i64 op, .string t1, .string t2, .slice B3 vs.length d3, .slice B4 ks.length d4] 25) := ⟨_, rfl⟩
  have hs0 : V0.heap.size = w.heap.size + 1 := by rw [eV0]; simp
  have hB0 : Below w.heap.size w V := by rw [eV, eV0]; exact below_alloc (below_alloc (Below.refl _ _) _) _
  have hX : BoxM V w.heap.size op t1 t2 (.slice A3 vs.length c3) (.slice A4 ks.length c4) := by rw [eV]; exact blk_alloc (by rw [eV0]; exact blk_new w _) _
  have hY : BoxM V (w.heap.size + 1) op t1 t2 (.slice B3 vs.length d3) (.slice B4 ks.length d4) := by rw [eV, ← hs0]; exact blk_new V0 _
  have HM := Lib.hid hM
  have HM' := Lib.hid hM'
  clear hM hM' hw hw2
  have hq : (op == op) = true := beq_self_eq_true _
  have x0 := hX.c0
  have x1 := hX.c1
  have x2 := hX.c2
  have x3 := hX.c3
  have x4 := hX.c4
  have y0 := hY.c0
  have y1 := hY.c1
  have y2 := hY.c2
  have y3 := hY.c3
  have y4 := hY.c4
  go_enter Try.func90, Try.ntmps90
  go_wp2_with fail
  rw [← eV0, ← eV]
  clear eV eV0 hs0
  go_loopw [5] (fun u5 wr => ∃ (j : Nat), u5 = .int .i64 j ∧ j ≤ vs.length ∧ Below V.heap.size V wr)
   (fun u5 _ => vs.length - (intOf u5).toNat)
  case atStart => exact ⟨0, rfl, Nat.zero_le _, Below.refl _ _⟩
  case round =>
   obtain ⟨j, rfl, hj, hB⟩ := hrel
   clear x0 x1 x2 x3 x4 y0 y1 y2 y3 y4
   have x3 := (hX.below hB).c3
   have x4 := (hX.below hB).c4
   have y3 := (hY.below hB).c3
   have y4 := (hY.below hB).c4
   by_cases hlt : j < vs.length
   ·obtain ⟨ad, rfl, a0⟩ := Kd.at_string (Kd.C_below (Kd.C_below HM.out.2.1 hB0) hB) (j : Int) (by omega) (by show (j : Int) < (vs.length : Int); omega)
    obtain ⟨ad2, rfl, b0⟩ := Kd.at_string (Kd.C_below (Kd.C_below HM'.out.2.1 hB0) hB) (j : Int) (by omega) (by show (j : Int) < (vs.length : Int); omega)
    simp only [Int.toNat_natCast] at a0 b0
    go_wp2
    go_quiet (fail)
    go_wp2
    go_roundw
    case rel => exact ⟨j + 1, by go_num, by omega, by repeat (first | exact hB | apply pw_below_drewN | apply below_drew)⟩
    case measure => simp [intOf]; omega
   ·obtain rfl : j = vs.length := by omega
    rename World => wo
    go_wp2
    go_loopw [6] (fun u6 wr => ∃ (i : Nat), u6 = .int .i64 i ∧ i ≤ ks.length ∧ Below V.heap.size V wr)
     (fun u6 _ => ks.length - (intOf u6).toNat)
    case atStart => exact ⟨0, rfl, Nat.zero_le _, hB⟩
    case round =>
     obtain ⟨i, rfl, hi, hBi⟩ := hrel
     clear x3 x4 y3 y4
     have x4 := (hX.below hBi).c4
     have y4 := (hY.below hBi).c4
     by_cases hlt2 : i < ks.length
     ·obtain ⟨ad, F3, e3, F4, e4, rfl, hMk, k0, k1, k2, k3, k4⟩ := ((HM.out.below hB0).below hBi).kid i hlt2
      obtain ⟨ad2, G3, g3, G4, g4, rfl, hMq, q0, q1, q2, q3, q4⟩ := ((HM'.out.below hB0).below hBi).kid i hlt2
      simp only at hMk hMq k0 k1 k2 k3 k4 q0 q1 q2 q3 q4
      have hmem : ks.getD i z25 ∈ ks := by simp [List.getD_eq_getElem?_getD, hlt2]
      have hsmall := nodes_lt ⟨op, t1, t2, vs, ks⟩ _ hmem
      have Hwk := Lib.hid (wideL_at Hw2.out hlt2)
      obtain ⟨kid, ek⟩ : ∃ kid, ks.getD i z25 = kid := ⟨_, rfl⟩
      rw [ek] at hMk hMq k0 k1 k2 k3 k4 q0 q1 q2 q3 q4 hsmall Hwk
      clear ek hmem
      have HMk := Lib.hid (hMk.below (below_drew (Below.refl _ _)))
      have HMq := Lib.hid (hMq.below (below_drew (Below.refl _ _)))
      clear hMk hMq
      have hv1 : kid.f3.length ≤ 1000 := by have := ((wideM_mk _).1 Hwk.out).1; omega
      go_wp2
      go_region_held3 (fun w' => w'.cell? ⟨w.heap.size, 4, none⟩ = some (.slice (some ad) ks.length c4) ∧ w'.cell? ⟨w.heap.size + 1, 4, none⟩ = some (.slice (some ad2) ks.length d4) ∧ w'.cell? (ad.add (i * 5)) = some (.int .i64 kid.f0) ∧ w'.cell? ⟨(ad.add (i * 5)).block, (ad.add (i * 5)).off + 1, none⟩ = some (.string kid.f1) ∧ w'.cell? ⟨(ad.add (i * 5)).block, (ad.add (i * 5)).off + 2, none⟩ = some (.string kid.f2) ∧ w'.cell? ⟨(ad.add (i * 5)).block, (ad.add (i * 5)).off + 3, none⟩ = some (.slice F3 kid.f3.length e3) ∧ w'.cell? ⟨(ad.add (i * 5)).block, (ad.add (i * 5)).off + 4, none⟩ = some (.slice F4 kid.f4.length e4) ∧ w'.cell? (ad2.add (i * 5)) = some (.int .i64 kid.f0) ∧ w'.cell? ⟨(ad2.add (i * 5)).block, (ad2.add (i * 5)).off + 1, none⟩ = some (.string kid.f1) ∧ w'.cell? ⟨(ad2.add (i * 5)).block, (ad2.add (i * 5)).off + 2, none⟩ = some (.string kid.f2) ∧ w'.cell? ⟨(ad2.add (i * 5)).block, (ad2.add (i * 5)).off + 3, none⟩ = some (.slice G3 kid.f3.length g3) ∧ w'.cell? ⟨(ad2.add (i * 5)).block, (ad2.add (i * 5)).off + 4, none⟩ = some (.slice G4 kid.f4.length g4) ∧ Below V.heap.size V w')
       (first | exact ⟨x4, y4, k0, k1, k2, k3, k4, q0, q1, q2, q3, q4, below_drew hBi⟩ | exact ⟨pw_cell_below hb5 x4, pw_cell_below hb5 y4, pw_cell_below hb5 k0, pw_cell_below hb5 k1, pw_cell_below hb5 k2, pw_cell_below hb5 k3, pw_cell_below hb5 k4, pw_cell_below hb5 q0, pw_cell_below hb5 q1, pw_cell_below hb5 q2, pw_cell_below hb5 q3, pw_cell_below hb5 q4, below_step (below_drew hBi) hb5⟩)
       (first | (go_at_call 90; (with_reducible refine (IH.out kid (by omega) (by omega) hv1 Hwk.out F3 e3 F4 e4 G3 g3 G4 g4 _ HMk.out HMq.out).mono ?_); rintro e w5 ⟨rfl, hb5⟩))
      rename_i hS
      have hbel := hS.2.2.2.2.2.2.2.2.2.2.2.2
      clear hS
      go_wp2
      go_roundw
      case rel => exact ⟨i + 1, by go_num, by omega, hbel⟩
      case measure => simp [intOf]; omega
     ·obtain rfl : i = ks.length := by omega
      go_wp2
      go_ret
      exact ⟨rfl, below_step hB0 hBi⟩
set_option maxRecDepth 100000 in
set_option maxHeartbeats 8000000 in
/-- varvelaw19.same, of two lists of the same tombs. -/
theorem same49 (w : World) (l : List S27) (A : Option Addr) (c : Nat) (B : Option Addr) (d : Nat) (hl : l.length ≤ 1000) (hok : okT l) (hC : Kd.C k27 w A l.length l) (hD : Kd.C k27 w B l.length l) :
  Calls Try.prog 49 #[.slice A l.length c, .slice B l.length d] w fun e w' => e = .returned (.bool true) ∧ Below w.heap.size w w' := by
 have HC := Lib.hid hC
 have HD := Lib.hid hD
 have HN := Lib.hid hok
 clear hC hD hok
 go_enter Try.func49, Try.ntmps49
 go_wp2
 go_loopw [5] (fun u5 wr => ∃ (j : Nat), u5 = .int .i64 j ∧ j ≤ l.length ∧ Below w.heap.size w wr)
  (fun u5 _ => l.length - (intOf u5).toNat)
 case atStart => exact ⟨0, rfl, Nat.zero_le _, Below.refl _ _⟩
 case round =>
  obtain ⟨j, rfl, hj, hB⟩ := hrel
  by_cases hlt : j < l.length
  ·obtain ⟨ad, A3, a3, A4, a4, rfl, k0, k1, k2, k3, k4, k5, k6, k7, l3, g3, l4, g4⟩ := at_T27 (Kd.C_below HC.out hB) (j : Int) (by omega) (by omega)
   obtain ⟨ad2, B3, b3, B4, b4, rfl, q0, q1, q2, q3, q4, q5, q6, q7, n3, h3, n4, h4⟩ := at_T27 (Kd.C_below HD.out hB) (j : Int) (by omega) (by omega)
   simp only [Int.toNat_natCast, show rd_T27 l (j : Int) = l.getD j z27 by simp [rd_T27]] at k0 k1 k2 k3 k4 k5 k6 k7 l3 g3 l4 g4 q0 q1 q2 q3 q4 q5 q6 q7 n3 h3 n4 h4
   have Hx := Lib.hid (HN.out _ (getD_mem l z27 j hlt))
   obtain ⟨t, et⟩ : ∃ t, l.getD j z27 = t := ⟨_, rfl⟩
   rw [et] at k0 k1 k2 k3 k4 k5 k6 k7 l3 g3 l4 g4 q0 q1 q2 q3 q4 q5 q6 q7 n3 h3 n4 h4 Hx
   clear et
   have HM := Lib.hid (MC.below (show MC wr t.f1 A3 a3 A4 a4 from ⟨l3, g3, l4, g4⟩) (below_drew (Below.refl _ _)))
   have HM' := Lib.hid (MC.below (show MC wr t.f1 B3 b3 B4 b4 from ⟨n3, h3, n4, h4⟩) (below_drew (Below.refl _ _)))
   clear l3 g3 l4 g4 n3 h3 n4 h4
   have hv1 : t.f1.f3.length ≤ 1000 := by have := ((wideM_mk _).1 Hx.out.1.2.2.1).1; omega
   have hn1 : nodesM t.f1 ≤ 1000 := by have := Hx.out.1.2.2.2; omega
   have HW := Lib.hid (show wideM t.f1 from Hx.out.1.2.2.1)
   have e0 : (t.f0 == t.f0) = true := beq_self_eq_true _
   have e2 : (t.f2 == t.f2) = true := beq_self_eq_true _
   have e3 : (t.f3 == t.f3) = true := beq_self_eq_true _
   go_wp2
   go_region_held3 (fun w' => w'.cell? (ad.add (j * 8)) = some (.int .i64 t.f0) ∧ w'.cell? ⟨(ad.add (j * 8)).block, (ad.add (j * 8)).off + 1, none⟩ = some (.int .i64 t.f1.f0) ∧ w'.cell? ⟨(ad.add (j * 8)).block, (ad.add (j * 8)).off + 2, none⟩ = some (.string t.f1.f1) ∧ w'.cell? ⟨(ad.add (j * 8)).block, (ad.add (j * 8)).off + 3, none⟩ = some (.string t.f1.f2) ∧ w'.cell? ⟨(ad.add (j * 8)).block, (ad.add (j * 8)).off + 4, none⟩ = some (.slice A3 t.f1.f3.length a3) ∧ w'.cell? ⟨(ad.add (j * 8)).block, (ad.add (j * 8)).off + 5, none⟩ = some (.slice A4 t.f1.f4.length a4) ∧ w'.cell? ⟨(ad.add (j * 8)).block, (ad.add (j * 8)).off + 6, none⟩ = some (.int .i64 t.f2) ∧ w'.cell? ⟨(ad.add (j * 8)).block, (ad.add (j * 8)).off + 7, none⟩ = some (.int .i64 t.f3) ∧ w'.cell? (ad2.add (j * 8)) = some (.int .i64 t.f0) ∧ w'.cell? ⟨(ad2.add (j * 8)).block, (ad2.add (j * 8)).off + 1, none⟩ = some (.int .i64 t.f1.f0) ∧ w'.cell? ⟨(ad2.add (j * 8)).block, (ad2.add (j * 8)).off + 2, none⟩ = some (.string t.f1.f1) ∧ w'.cell? ⟨(ad2.add (j * 8)).block, (ad2.add (j * 8)).off + 3, none⟩ = some (.string t.f1.f2) ∧ w'.cell? ⟨(ad2.add (j * 8)).block, (ad2.add (j * 8)).off + 4, none⟩ = some (.slice B3 t.f1.f3.length b3) ∧ w'.cell? ⟨(ad2.add (j * 8)).block, (ad2.add (j * 8)).off + 5, none⟩ = some (.slice B4 t.f1.f4.length b4) ∧ w'.cell? ⟨(ad2.add (j * 8)).block, (ad2.add (j * 8)).off + 6, none⟩ = some (.int .i64 t.f2) ∧ w'.cell? ⟨(ad2.add (j * 8)).block, (ad2.add (j * 8)).off + 7, none⟩ = some (.int .i64 t.f3) ∧ Below w.heap.size w w')
    (first | exact ⟨k0, k1, k2, k3, k4, k5, k6, k7, q0, q1, q2, q3, q4, q5, q6, q7, below_drew hB⟩ | exact ⟨pw_cell_below hb5 k0, pw_cell_below hb5 k1, pw_cell_below hb5 k2, pw_cell_below hb5 k3, pw_cell_below hb5 k4, pw_cell_below hb5 k5, pw_cell_below hb5 k6, pw_cell_below hb5 k7, pw_cell_below hb5 q0, pw_cell_below hb5 q1, pw_cell_below hb5 q2, pw_cell_below hb5 q3, pw_cell_below hb5 q4, pw_cell_below hb5 q5, pw_cell_below hb5 q6, pw_cell_below hb5 q7, below_step (below_drew hB) hb5⟩)
    (first | (go_at_call 90; (with_reducible refine (same90 (nodesM t.f1) t.f1 (Nat.le_refl _) hn1 hv1 HW.out A3 a3 A4 a4 B3 b3 B4 b4 _ HM.out HM'.out).mono ?_); rintro e w5 ⟨rfl, hb5⟩))
   rename_i hS
   have hbel := hS.2.2.2.2.2.2.2.2.2.2.2.2.2.2.2.2
   clear hS
   go_wp2
   go_roundw
   case rel => exact ⟨j + 1, by go_num, by omega, hbel⟩
   case measure => simp [intOf]; omega
  ·obtain rfl : j = l.length := by omega
   go_wp2
   go_ret
   exact ⟨rfl, hB⟩
end Go.Proofs.Yteafilojjdfllaa
