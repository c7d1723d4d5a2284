/- A part of the proof of MatchTexts. No condition. -/
import Derived.Lib.Join
import Derived.Shelf.Strings.OnBuilder
import Derived.Shelf.Small.Strs
import Derived.Shelf.Strings.Search1
import Derived.Test.YteafilojjdfllaaProg
import Derived.Lib.LazyBuf
import Derived.Lib.Bytealg
import Derived.Scope
import Derived.WalkMore
import Derived.Lib.Hide
import Derived.Test.YteafilojjdfllaaZMatchTextsB
section
namespace Go.Proofs.Yteafilojjdfllaa.PAll
open Go.RowKit Go.Proofs.YteafilojjdfllaaW.PrintWords Go.Proofs.YteafilojjdfllaaW.PrintLast Go.Proofs.YteafilojjdfllaaW.PrintMore
attribute [local go_sem] max2_int min2_int max_two min_two max_three min_three max_four min_four   -- for this text's walks alone
set_option linter.unusedVariables false
set_option linter.unusedSimpArgs false
mutual
def match_eval.l0 : Nat → ByteArray → List ByteArray → Int → Int → Option (Bool)
 | 0, _, _, _, _ => none
 | k + 1, x5, x40, x41, x42 => if x42 < x41 then (if 0 ≤ x42 then (if x42 < (x40.length : Int) then (if (rdOf ByteArray.empty x40 x42).toList = x5.toList then (some true) else (match_eval.l0 k x5 x40 x41 (wrap64 (x42 + 1)))) else (none)) else (none)) else (some false)
def match_eval.l1 : Nat → List (S68) → Bool → List (S25) → Int → Int → Option (Bool)
 | 0, _, _, _, _, _ => none
 | k + 1, x1, x8, x63, x64, x65 => if x65 < x64 then (if 0 ≤ x65 then (if x65 < (x63.length : Int) then ((match_eval.f k ((rd_T25 x63 x65).f0) ((rd_T25 x63 x65).f1) ((rd_T25 x63 x65).f2) ((rd_T25 x63 x65).f3) ((rd_T25 x63 x65).f4) x1).bind fun t130 => (if (t130 == x8) = true then (some x8) else (match_eval.l1 k x1 x8 x63 x64 (wrap64 (x65 + 1))))) else (none)) else (none)) else (some (!x8))
def match_eval.f : Nat → Int → ByteArray → ByteArray → List ByteArray → List (S25) → List (S68) → Option (Bool)
 | 0, _, _, _, _, _, _ => none
 | k + 1, a0_0, a0_1, a0_2, l0_3, l0_4, l1 => (label_Value.f k l1 a0_1).bind fun t123 => (if a0_0 = 0 then (some true) else (if a0_0 = 1 then (some (t123.toList == a0_2.toList)) else (if a0_0 = 2 then (some (t123.toList != a0_2.toList)) else (if a0_0 = 3 then ((strings_HasPrefix.f t123 a0_2).bind fun t124 => (some t124)) else (if a0_0 = 4 then (match_eval.l0 k t123 l0_3 (l0_3.length : Int) 0) else (if a0_0 = 7 then (if 0 < (l0_4.length : Int) then ((match_eval.f k ((rd_T25 l0_4 0).f0) ((rd_T25 l0_4 0).f1) ((rd_T25 l0_4 0).f2) ((rd_T25 l0_4 0).f3) ((rd_T25 l0_4 0).f4) l1).bind fun t127 => (some (!t127))) else (none)) else (match_eval.l1 k l1 (a0_0 == 6) l0_4 (l0_4.length : Int) 0)))))))
end
theorem match_eval.mono_l : ∀ k, (∀ y0 y1 y2 y3 y4 y5, LeO (match_eval.f k y0 y1 y2 y3 y4 y5) (match_eval.f (k + 1) y0 y1 y2 y3 y4 y5)) ∧ (∀ y0 y1 y2 y3, LeO (match_eval.l0 k y0 y1 y2 y3) (match_eval.l0 (k + 1) y0 y1 y2 y3)) ∧ (∀ y0 y1 y2 y3 y4, LeO (match_eval.l1 k y0 y1 y2 y3 y4) (match_eval.l1 (k + 1) y0 y1 y2 y3 y4))
 | 0 => ⟨fun _ _ _ _ _ _ r h => by simp [match_eval.f] at h, fun _ _ _ _ r h => by simp [match_eval.l0] at h, fun _ _ _ _ _ r h => by simp [match_eval.l1] at h⟩
 | k + 1 => by
  obtain ⟨ih0, ih1, ih2⟩ := match_eval.mono_l k
  refine ⟨?_, ?_, ?_⟩
  ·intro y0 y1 y2 y3 y4 y5
   unfold match_eval.f
   repeat' first
   | (with_reducible exact ih0 _ _ _ _ _ _)
   | (with_reducible exact ih1 _ _ _ _)
   | (with_reducible exact ih2 _ _ _ _ _)
   | (with_reducible exact label_Value.mono _ _ _)
   | (with_reducible exact LeO.refl _)
   | (with_reducible exact LeO.none _)
   | (with_reducible refine LeO.ite ?_ ?_)
   | (with_reducible refine LeO.bind ?_ (fun _ => ?_))
   | exact ih0 _ _ _ _ _ _
   | exact ih1 _ _ _ _
   | exact ih2 _ _ _ _ _
   | exact label_Value.mono _ _ _
   | exact LeO.none _
   | refine LeO.ite ?_ ?_
   | refine LeO.bind ?_ (fun _ => ?_)
  ·intro y0 y1 y2 y3
   unfold match_eval.l0
   repeat' first
   | (with_reducible exact ih0 _ _ _ _ _ _)
   | (with_reducible exact ih1 _ _ _ _)
   | (with_reducible exact ih2 _ _ _ _ _)
   | (with_reducible exact label_Value.mono _ _ _)
   | (with_reducible exact LeO.refl _)
   | (with_reducible exact LeO.none _)
   | (with_reducible refine LeO.ite ?_ ?_)
   | (with_reducible refine LeO.bind ?_ (fun _ => ?_))
   | exact ih0 _ _ _ _ _ _
   | exact ih1 _ _ _ _
   | exact ih2 _ _ _ _ _
   | exact label_Value.mono _ _ _
   | exact LeO.none _
   | refine LeO.ite ?_ ?_
   | refine LeO.bind ?_ (fun _ => ?_)
  ·intro y0 y1 y2 y3 y4
   unfold match_eval.l1
   repeat' first
   | (with_reducible exact ih0 _ _ _ _ _ _)
   | (with_reducible exact ih1 _ _ _ _)
   | (with_reducible exact ih2 _ _ _ _ _)
   | (with_reducible exact label_Value.mono _ _ _)
   | (with_reducible exact LeO.refl _)
   | (with_reducible exact LeO.none _)
   | (with_reducible refine LeO.ite ?_ ?_)
   | (with_reducible refine LeO.bind ?_ (fun _ => ?_))
   | exact ih0 _ _ _ _ _ _
   | exact ih1 _ _ _ _
   | exact ih2 _ _ _ _ _
   | exact label_Value.mono _ _ _
   | exact LeO.none _
   | refine LeO.ite ?_ ?_
   | refine LeO.bind ?_ (fun _ => ?_)
theorem match_eval.mono : ∀ a0 a1 a2 a3 a4 a5 k, LeO (match_eval.f k a0 a1 a2 a3 a4 a5) (match_eval.f (k + 1) a0 a1 a2 a3 a4 a5) := by
 intro a0 a1 a2 a3 a4 a5 k
 obtain ⟨ih0, ih1, ih2⟩ := match_eval.mono_l k
 exact ih0 a0 a1 a2 a3 a4 a5
set_option maxHeartbeats 8000000 in
set_option maxRecDepth 100000 in
theorem match_eval.calls (k : Nat) : ∀ (a0_0 : Int) (a0_1 : ByteArray) (a0_2 : ByteArray) (A0_3 : Option Addr) (c0_3 : Nat) (l0_3 : List ByteArray) (A0_4 : Option Addr) (c0_4 : Nat) (l0_4 : List (S25)) (A1 : Option Addr) (c1 : Nat) (l1 : List (S68)) (r : Bool) (w : World) (hr0_3 : Kd.C Kd.string w A0_3 l0_3.length l0_3) (hc0_3 : l0_3.length ≤ c0_3) (hr0_4 : Kd.C k25 w A0_4 l0_4.length l0_4) (hc0_4 : l0_4.length ≤ c0_4) (hr1 : Kd.C k68 w A1 l1.length l1) (hc1 : l1.length ≤ c1) (h : match_eval.f k a0_0 a0_1 a0_2 l0_3 l0_4 l1 = some r),
  Calls Try.prog 108 #[.agg #[.int .i64 a0_0, .string a0_1, .string a0_2, .slice A0_3 l0_3.length c0_3, .slice A0_4 l0_4.length c0_4], .slice A1 l1.length c1] w fun e w' => e = .returned (.bool r) ∧ Below w.heap.size w w' := by
 induction k using Nat.strongRecOn with
 | _ k ih =>
 intro a0_0 a0_1 a0_2 A0_3 c0_3 l0_3 A0_4 c0_4 l0_4 A1 c1 l1 r w hr0_3 hc0_3 hr0_4 hc0_4 hr1 hc1 h
 cases k with
 | zero => exact absurd h (by simp [match_eval.f])
 | succ k =>
 simp only [match_eval.f] at h
 have hu25 := Try.underlying25
 have HR0_3 := Aside0.mk hr0_3
 have HC0_3 := Aside0.mk hc0_3
 clear hr0_3 hc0_3
 have HR0_4 := Aside0.mk hr0_4
 have HC0_4 := Aside0.mk hc0_4
 clear hr0_4 hc0_4
 have HR1 := Aside0.mk hr1
 have HC1 := Aside0.mk hc1
 clear hr1 hc1
 have HB := Aside0.mk (Below.refl w.heap.size w)
 have H : ((label_Value.f k l1 a0_1).bind fun t123 => (if a0_0 = 0 then (some true) else (if a0_0 = 1 then (some (t123.toList == a0_2.toList)) else (if a0_0 = 2 then (some (t123.toList != a0_2.toList)) else (if a0_0 = 3 then ((strings_HasPrefix.f t123 a0_2).bind fun t124 => (some t124)) else (if a0_0 = 4 then (match_eval.l0 k t123 l0_3 (l0_3.length : Int) 0) else (if a0_0 = 7 then (if 0 < (l0_4.length : Int) then ((match_eval.f k ((rd_T25 l0_4 0).f0) ((rd_T25 l0_4 0).f1) ((rd_T25 l0_4 0).f2) ((rd_T25 l0_4 0).f3) ((rd_T25 l0_4 0).f4) l1).bind fun t127 => (some (!t127))) else (none)) else (match_eval.l1 k l1 (a0_0 == 6) l0_4 (l0_4.length : Int) 0)))))))) = some r := h
 clear h
 replace H := Option.bind_eq_some_iff.mp H
 obtain ⟨t123, A30, H⟩ := H
 replace H : (if a0_0 = 0 then (some true) else (if a0_0 = 1 then (some (t123.toList == a0_2.toList)) else (if a0_0 = 2 then (some (t123.toList != a0_2.toList)) else (if a0_0 = 3 then ((strings_HasPrefix.f t123 a0_2).bind fun t124 => (some t124)) else (if a0_0 = 4 then (match_eval.l0 k t123 l0_3 (l0_3.length : Int) 0) else (if a0_0 = 7 then (if 0 < (l0_4.length : Int) then ((match_eval.f k ((rd_T25 l0_4 0).f0) ((rd_T25 l0_4 0).f1) ((rd_T25 l0_4 0).f2) ((rd_T25 l0_4 0).f3) ((rd_T25 l0_4 0).f4) l1).bind fun t127 => (some (!t127))) else (none)) else (match_eval.l1 k l1 (a0_0 == 6) l0_4 (l0_4.length : Int) 0))))))) = some r := H
 have A3 := Aside0.mk A30
 clear A30
 by_cases c4 : a0_0 = 0
 ·rw [if_pos c4] at H
  have c4b0 : (a0_0 == 0) = true := beq_iff_eq.mpr c4
  have c4b1 : (a0_0 != 0) = false := bne_eq_false_iff_eq.mpr c4
  clear c4
  obtain rfl := Option.some.inj H
  go_enter Try.func108, Try.ntmps108
  go_wp2_with (first | ((with_reducible refine gate_dst (N := 2) rfl ?_); refine box_event ?hg (N := 2) ?hd (cs := #[.int .i64 a0_0, .string a0_1, .string a0_2, .slice A0_3 l0_3.length c0_3, .slice A0_4 l0_4.length c0_4]) (t := 25) ?hr ?_; (case hd => rfl); (case hg => rfl); (case hr => first | (go_simp; done) | (go_simp; rfl)); intro gb122 hg w5 hbox hb; have n0_ := Aside0.mk (below_step (by repeat (first | (with_reducible first | exact HB.out | apply below_alloc | apply pw_below_drewN | apply below_drew1) | exact HB.out)) hb); have n1_ := Aside0.mk (hbox); have n2_ := Aside0.mk ((by rw [hg]; exact (below_size (by repeat (first | (with_reducible first | exact HB.out | apply below_alloc | apply pw_below_drewN | apply below_drew1) | exact HB.out))) : w.heap.size ≤ gb122)); have n3_ := Aside0.mk ((by rw [hg]; exact (below_size (by repeat (first | (with_reducible first | exact HB.out | apply below_alloc | apply pw_below_drewN | apply below_drew1) | exact HB.out))) : w.heap.size ≤ gb122)); clear HB; have HB := n0_; have BK122 := n1_; have GW122 := n2_; have GE122 := n3_; clear n0_ n1_ n2_ n3_; clear hb hbox hg; have hcz6_0 : w5.cell? ⟨gb122, 0, none⟩ = some (.int .i64 a0_0) := (blk_cell BK122.out 0).trans rfl; have hcz6_1 : w5.cell? ⟨gb122, 1, none⟩ = some (.string a0_1) := (blk_cell BK122.out 1).trans rfl; have hcz6_2 : w5.cell? ⟨gb122, 2, none⟩ = some (.string a0_2) := (blk_cell BK122.out 2).trans rfl; have hcz6_3 : w5.cell? ⟨gb122, 3, none⟩ = some (.slice A0_3 l0_3.length c0_3) := (blk_cell BK122.out 3).trans rfl; have hcz6_4 : w5.cell? ⟨gb122, 4, none⟩ = some (.slice A0_4 l0_4.length c0_4) := (blk_cell BK122.out 4).trans rfl; have hfz6_0 := blk_frozen BK122.out 0; have hfz6_1 := blk_frozen BK122.out 1; have hfz6_2 := blk_frozen BK122.out 2; have hfz6_3 := blk_frozen BK122.out 3; have hfz6_4 := blk_frozen BK122.out 4) | ((with_reducible refine gate_callee (f := 65) rfl ?_); refine goesL_ (some 14) rfl rfl Try.func65 (by kernel_rfl) rfl #[.slice A1 l1.length c1, .string a0_1] rfl (by (try simp only [List.map_toArray, List.map_cons, List.map_nil]); first | done | rfl | (simp only [List.length_drop, List.length_take]; rfl)) ?_; (with_reducible refine (label_Value.calls k _ _ l1 a0_1 t123 _ ?side1 ?side2 A3.out).mono ?_); (case side1 => repeat (first | exact (Kd.C_below HR1.out HB.out) | (with_reducible refine Kd.C_alloc ?_ _) | (with_reducible refine Kd.C_drewN ?_ _) | (with_reducible refine Kd.C_drew ?_))); (case side2 => exact HC1.out); rintro e w7 ⟨rfl, hb⟩; refine ⟨_, rfl, ?_⟩; have n0_ := Aside0.mk (blk_below (g := gb122) (o := .cells #[.int .i64 a0_0, .string a0_1, .string a0_2, .slice A0_3 l0_3.length c0_3, .slice A0_4 l0_4.length c0_4] 25 (0, 0)) (by (with_reducible repeat (first | refine blk_drewN ?_ _ | refine blk_drew ?_ | refine blk_alloc ?_ _)); exact BK122.out) hb); have n1_ := Aside0.mk (below_step (by repeat (first | (with_reducible first | exact HB.out | apply below_alloc | apply pw_below_drewN | apply below_drew1 | refine below_set ?_ GE122.out) | exact HB.out)) hb); clear BK122; clear HB; have BK122 := n0_; have HB := n1_; clear n0_ n1_; (try clear hb); (try clear hb2); (try clear hk); (try clear hi); have hcz8_0 : w7.cell? ⟨gb122, 0, none⟩ = some (.int .i64 a0_0) := (blk_cell BK122.out 0).trans rfl; have hcz8_1 : w7.cell? ⟨gb122, 1, none⟩ = some (.string a0_1) := (blk_cell BK122.out 1).trans rfl; have hcz8_2 : w7.cell? ⟨gb122, 2, none⟩ = some (.string a0_2) := (blk_cell BK122.out 2).trans rfl; have hcz8_3 : w7.cell? ⟨gb122, 3, none⟩ = some (.slice A0_3 l0_3.length c0_3) := (blk_cell BK122.out 3).trans rfl; have hcz8_4 : w7.cell? ⟨gb122, 4, none⟩ = some (.slice A0_4 l0_4.length c0_4) := (blk_cell BK122.out 4).trans rfl; have hfz8_0 := blk_frozen BK122.out 0; have hfz8_1 := blk_frozen BK122.out 1; have hfz8_2 := blk_frozen BK122.out 2; have hfz8_3 := blk_frozen BK122.out 3; have hfz8_4 := blk_frozen BK122.out 4))
  go_ret
  exact ⟨by first | rfl | (simp [errW_none, errW_some] <;> rfl) | (simp [*, errW_none, errW_some] <;> rfl), by repeat (first | (with_reducible first | exact HB.out | apply below_alloc | apply pw_below_drewN | apply below_drew1 | refine below_set ?_ GE122.out) | exact HB.out)⟩
 ·rw [if_neg c4] at H
  have c4b0 : (a0_0 == 0) = false := beq_eq_false_iff_ne.mpr c4
  have c4b1 : (a0_0 != 0) = true := bne_iff_ne.mpr c4
  by_cases c9 : a0_0 = 1
  ·rw [if_pos c9] at H
   have c9b0 : (a0_0 == 1) = true := beq_iff_eq.mpr c9
   have c9b1 : (a0_0 != 1) = false := bne_eq_false_iff_eq.mpr c9
   clear c9
   obtain rfl := Option.some.inj H
   go_enter Try.func108, Try.ntmps108
   go_wp2_with (first | ((with_reducible refine gate_dst (N := 2) rfl ?_); refine box_event ?hg (N := 2) ?hd (cs := #[.int .i64 a0_0, .string a0_1, .string a0_2, .slice A0_3 l0_3.length c0_3, .slice A0_4 l0_4.length c0_4]) (t := 25) ?hr ?_; (case hd => rfl); (case hg => rfl); (case hr => first | (go_simp; done) | (go_simp; rfl)); intro gb122 hg w10 hbox hb; have n0_ := Aside0.mk (below_step (by repeat (first | (with_reducible first | exact HB.out | apply below_alloc | apply pw_below_drewN | apply below_drew1) | exact HB.out)) hb); have n1_ := Aside0.mk (hbox); have n2_ := Aside0.mk ((by rw [hg]; exact (below_size (by repeat (first | (with_reducible first | exact HB.out | apply below_alloc | apply pw_below_drewN | apply below_drew1) | exact HB.out))) : w.heap.size ≤ gb122)); have n3_ := Aside0.mk ((by rw [hg]; exact (below_size (by repeat (first | (with_reducible first | exact HB.out | apply below_alloc | apply pw_below_drewN | apply below_drew1) | exact HB.out))) : w.heap.size ≤ gb122)); clear HB; have HB := n0_; have BK122 := n1_; have GW122 := n2_; have GE122 := n3_; clear n0_ n1_ n2_ n3_; clear hb hbox hg; have hcz11_0 : w10.cell? ⟨gb122, 0, none⟩ = some (.int .i64 a0_0) := (blk_cell BK122.out 0).trans rfl; have hcz11_1 : w10.cell? ⟨gb122, 1, none⟩ = some (.string a0_1) := (blk_cell BK122.out 1).trans rfl; have hcz11_2 : w10.cell? ⟨gb122, 2, none⟩ = some (.string a0_2) := (blk_cell BK122.out 2).trans rfl; have hcz11_3 : w10.cell? ⟨gb122, 3, none⟩ = some (.slice A0_3 l0_3.length c0_3) := (blk_cell BK122.out 3).trans rfl; have hcz11_4 : w10.cell? ⟨gb122, 4, none⟩ = some (.slice A0_4 l0_4.length c0_4) := (blk_cell BK122.out 4).trans rfl; have hfz11_0 := blk_frozen BK122.out 0; have hfz11_1 := blk_frozen BK122.out 1; have hfz11_2 := blk_frozen BK122.out 2; have hfz11_3 := blk_frozen BK122.out 3; have hfz11_4 := blk_frozen BK122.out 4) | ((with_reducible refine gate_callee (f := 65) rfl ?_); refine goesL_ (some 14) rfl rfl Try.func65 (by kernel_rfl) rfl #[.slice A1 l1.length c1, .string a0_1] rfl (by (try simp only [List.map_toArray, List.map_cons, List.map_nil]); first | done | rfl | (simp only [List.length_drop, List.length_take]; rfl)) ?_; (with_reducible refine (label_Value.calls k _ _ l1 a0_1 t123 _ ?side1 ?side2 A3.out).mono ?_); (case side1 => repeat (first | exact (Kd.C_below HR1.out HB.out) | (with_reducible refine Kd.C_alloc ?_ _) | (with_reducible refine Kd.C_drewN ?_ _) | (with_reducible refine Kd.C_drew ?_))); (case side2 => exact HC1.out); rintro e w12 ⟨rfl, hb⟩; refine ⟨_, rfl, ?_⟩; have n0_ := Aside0.mk (blk_below (g := gb122) (o := .cells #[.int .i64 a0_0, .string a0_1, .string a0_2, .slice A0_3 l0_3.length c0_3, .slice A0_4 l0_4.length c0_4] 25 (0, 0)) (by (with_reducible repeat (first | refine blk_drewN ?_ _ | refine blk_drew ?_ | refine blk_alloc ?_ _)); exact BK122.out) hb); have n1_ := Aside0.mk (below_step (by repeat (first | (with_reducible first | exact HB.out | apply below_alloc | apply pw_below_drewN | apply below_drew1 | refine below_set ?_ GE122.out) | exact HB.out)) hb); clear BK122; clear HB; have BK122 := n0_; have HB := n1_; clear n0_ n1_; (try clear hb); (try clear hb2); (try clear hk); (try clear hi); have hcz13_0 : w12.cell? ⟨gb122, 0, none⟩ = some (.int .i64 a0_0) := (blk_cell BK122.out 0).trans rfl; have hcz13_1 : w12.cell? ⟨gb122, 1, none⟩ = some (.string a0_1) := (blk_cell BK122.out 1).trans rfl; have hcz13_2 : w12.cell? ⟨gb122, 2, none⟩ = some (.string a0_2) := (blk_cell BK122.out 2).trans rfl; have hcz13_3 : w12.cell? ⟨gb122, 3, none⟩ = some (.slice A0_3 l0_3.length c0_3) := (blk_cell BK122.out 3).trans rfl; have hcz13_4 : w12.cell? ⟨gb122, 4, none⟩ = some (.slice A0_4 l0_4.length c0_4) := (blk_cell BK122.out 4).trans rfl; have hfz13_0 := blk_frozen BK122.out 0; have hfz13_1 := blk_frozen BK122.out 1; have hfz13_2 := blk_frozen BK122.out 2; have hfz13_3 := blk_frozen BK122.out 3; have hfz13_4 := blk_frozen BK122.out 4))
   go_ret
   exact ⟨by first | rfl | (simp [errW_none, errW_some] <;> rfl) | (simp [*, errW_none, errW_some] <;> rfl), by repeat (first | (with_reducible first | exact HB.out | apply below_alloc | apply pw_below_drewN | apply below_drew1 | refine below_set ?_ GE122.out) | exact HB.out)⟩
  ·rw [if_neg c9] at H
   have c9b0 : (a0_0 == 1) = false := beq_eq_false_iff_ne.mpr c9
   have c9b1 : (a0_0 != 1) = true := bne_iff_ne.mpr c9
   by_cases c14 : a0_0 = 2
   ·rw [if_pos c14] at H
    have c14b0 : (a0_0 == 2) = true := beq_iff_eq.mpr c14
    have c14b1 : (a0_0 != 2) = false := bne_eq_false_iff_eq.mpr c14
    clear c14
    obtain rfl := Option.some.inj H
    go_enter Try.func108, Try.ntmps108
    go_wp2_with (first | ((with_reducible refine gate_dst (N := 2) rfl ?_); refine box_event ?hg (N := 2) ?hd (cs := #[.int .i64 a0_0, .string a0_1, .string a0_2, .slice A0_3 l0_3.length c0_3, .slice A0_4 l0_4.length c0_4]) (t := 25) ?hr ?_; (case hd => rfl); (case hg => rfl); (case hr => first | (go_simp; done) | (go_simp; rfl)); intro gb122 hg w15 hbox hb; have n0_ := Aside0.mk (below_step (by repeat (first | (with_reducible first | exact HB.out | apply below_alloc | apply pw_below_drewN | apply below_drew1) | exact HB.out)) hb); have n1_ := Aside0.mk (hbox); have n2_ := Aside0.mk ((by rw [hg]; exact (below_size (by repeat (first | (with_reducible first | exact HB.out | apply below_alloc | apply pw_below_drewN | apply below_drew1) | exact HB.out))) : w.heap.size ≤ gb122)); have n3_ := Aside0.mk ((by rw [hg]; exact (below_size (by repeat (first | (with_reducible first | exact HB.out | apply below_alloc | apply pw_below_drewN | apply below_drew1) | exact HB.out))) : w.heap.size ≤ gb122)); clear HB; have HB := n0_; have BK122 := n1_; have GW122 := n2_; have GE122 := n3_; clear n0_ n1_ n2_ n3_; clear hb hbox hg; have hcz16_0 : w15.cell? ⟨gb122, 0, none⟩ = some (.int .i64 a0_0) := (blk_cell BK122.out 0).trans rfl; have hcz16_1 : w15.cell? ⟨gb122, 1, none⟩ = some (.string a0_1) := (blk_cell BK122.out 1).trans rfl; have hcz16_2 : w15.cell? ⟨gb122, 2, none⟩ = some (.string a0_2) := (blk_cell BK122.out 2).trans rfl; have hcz16_3 : w15.cell? ⟨gb122, 3, none⟩ = some (.slice A0_3 l0_3.length c0_3) := (blk_cell BK122.out 3).trans rfl; have hcz16_4 : w15.cell? ⟨gb122, 4, none⟩ = some (.slice A0_4 l0_4.length c0_4) := (blk_cell BK122.out 4).trans rfl; have hfz16_0 := blk_frozen BK122.out 0; have hfz16_1 := blk_frozen BK122.out 1; have hfz16_2 := blk_frozen BK122.out 2; have hfz16_3 := blk_frozen BK122.out 3; have hfz16_4 := blk_frozen BK122.out 4) | ((with_reducible refine gate_callee (f := 65) rfl ?_); refine goesL_ (some 14) rfl rfl Try.func65 (by kernel_rfl) rfl #[.slice A1 l1.length c1, .string a0_1] rfl (by (try simp only [List.map_toArray, List.map_cons, List.map_nil]); first | done | rfl | (simp only [List.length_drop, List.length_take]; rfl)) ?_; (with_reducible refine (label_Value.calls k _ _ l1 a0_1 t123 _ ?side1 ?side2 A3.out).mono ?_); (case side1 => repeat (first | exact (Kd.C_below HR1.out HB.out) | (with_reducible refine Kd.C_alloc ?_ _) | (with_reducible refine Kd.C_drewN ?_ _) | (with_reducible refine Kd.C_drew ?_))); (case side2 => exact HC1.out); rintro e w17 ⟨rfl, hb⟩; refine ⟨_, rfl, ?_⟩; have n0_ := Aside0.mk (blk_below (g := gb122) (o := .cells #[.int .i64 a0_0, .string a0_1, .string a0_2, .slice A0_3 l0_3.length c0_3, .slice A0_4 l0_4.length c0_4] 25 (0, 0)) (by (with_reducible repeat (first | refine blk_drewN ?_ _ | refine blk_drew ?_ | refine blk_alloc ?_ _)); exact BK122.out) hb); have n1_ := Aside0.mk (below_step (by repeat (first | (with_reducible first | exact HB.out | apply below_alloc | apply pw_below_drewN | apply below_drew1 | refine below_set ?_ GE122.out) | exact HB.out)) hb); clear BK122; clear HB; have BK122 := n0_; have HB := n1_; clear n0_ n1_; (try clear hb); (try clear hb2); (try clear hk); (try clear hi); have hcz18_0 : w17.cell? ⟨gb122, 0, none⟩ = some (.int .i64 a0_0) := (blk_cell BK122.out 0).trans rfl; have hcz18_1 : w17.cell? ⟨gb122, 1, none⟩ = some (.string a0_1) := (blk_cell BK122.out 1).trans rfl; have hcz18_2 : w17.cell? ⟨gb122, 2, none⟩ = some (.string a0_2) := (blk_cell BK122.out 2).trans rfl; have hcz18_3 : w17.cell? ⟨gb122, 3, none⟩ = some (.slice A0_3 l0_3.length c0_3) := (blk_cell BK122.out 3).trans rfl; have hcz18_4 : w17.cell? ⟨gb122, 4, none⟩ = some (.slice A0_4 l0_4.length c0_4) := (blk_cell BK122.out 4).trans rfl; have hfz18_0 := blk_frozen BK122.out 0; have hfz18_1 := blk_frozen BK122.out 1; have hfz18_2 := blk_frozen BK122.out 2; have hfz18_3 := blk_frozen BK122.out 3; have hfz18_4 := blk_frozen BK122.out 4))
    go_ret
    exact ⟨by first | rfl | (simp [errW_none, errW_some] <;> rfl) | (simp [*, errW_none, errW_some] <;> rfl), by repeat (first | (with_reducible first | exact HB.out | apply below_alloc | apply pw_below_drewN | apply below_drew1 | refine below_set ?_ GE122.out) | exact HB.out)⟩
   ·rw [if_neg c14] at H
    have c14b0 : (a0_0 == 2) = false := beq_eq_false_iff_ne.mpr c14
    have c14b1 : (a0_0 != 2) = true := bne_iff_ne.mpr c14
    by_cases c19 : a0_0 = 3
    ·rw [if_pos c19] at H
     have c19b0 : (a0_0 == 3) = true := beq_iff_eq.mpr c19
     have c19b1 : (a0_0 != 3) = false := bne_eq_false_iff_eq.mpr c19
     clear c19
     replace H := Option.bind_eq_some_iff.mp H
     obtain ⟨t124, A200, H⟩ := H
     replace H : (some t124) = some r := H
     have A20 := Aside0.mk A200
     clear A200
     obtain rfl := Option.some.inj H
     go_enter Try.func108, Try.ntmps108
     go_wp2_with (first | ((with_reducible refine gate_dst (N := 2) rfl ?_); refine box_event ?hg (N := 2) ?hd (cs := #[.int .i64 a0_0, .string a0_1, .string a0_2, .slice A0_3 l0_3.length c0_3, .slice A0_4 l0_4.length c0_4]) (t := 25) ?hr ?_; (case hd => rfl); (case hg => rfl); (case hr => first | (go_simp; done) | (go_simp; rfl)); intro gb122 hg w21 hbox hb; have n0_ := Aside0.mk (below_step (by repeat (first | (with_reducible first | exact HB.out | apply below_alloc | apply pw_below_drewN | apply below_drew1) | exact HB.out)) hb); have n1_ := Aside0.mk (hbox); have n2_ := Aside0.mk ((by rw [hg]; exact (below_size (by repeat (first | (with_reducible first | exact HB.out | apply below_alloc | apply pw_below_drewN | apply below_drew1) | exact HB.out))) : w.heap.size ≤ gb122)); have n3_ := Aside0.mk ((by rw [hg]; exact (below_size (by repeat (first | (with_reducible first | exact HB.out | apply below_alloc | apply pw_below_drewN | apply below_drew1) | exact HB.out))) : w.heap.size ≤ gb122)); clear HB; have HB := n0_; have BK122 := n1_; have GW122 := n2_; have GE122 := n3_; clear n0_ n1_ n2_ n3_; clear hb hbox hg; have hcz22_0 : w21.cell? ⟨gb122, 0, none⟩ = some (.int .i64 a0_0) := (blk_cell BK122.out 0).trans rfl; have hcz22_1 : w21.cell? ⟨gb122, 1, none⟩ = some (.string a0_1) := (blk_cell BK122.out 1).trans rfl; have hcz22_2 : w21.cell? ⟨gb122, 2, none⟩ = some (.string a0_2) := (blk_cell BK122.out 2).trans rfl; have hcz22_3 : w21.cell? ⟨gb122, 3, none⟩ = some (.slice A0_3 l0_3.length c0_3) := (blk_cell BK122.out 3).trans rfl; have hcz22_4 : w21.cell? ⟨gb122, 4, none⟩ = some (.slice A0_4 l0_4.length c0_4) := (blk_cell BK122.out 4).trans rfl; have hfz22_0 := blk_frozen BK122.out 0; have hfz22_1 := blk_frozen BK122.out 1; have hfz22_2 := blk_frozen BK122.out 2; have hfz22_3 := blk_frozen BK122.out 3; have hfz22_4 := blk_frozen BK122.out 4) | ((with_reducible refine gate_callee (f := 65) rfl ?_); refine goesL_ (some 14) rfl rfl Try.func65 (by kernel_rfl) rfl #[.slice A1 l1.length c1, .string a0_1] rfl (by (try simp only [List.map_toArray, List.map_cons, List.map_nil]); first | done | rfl | (simp only [List.length_drop, List.length_take]; rfl)) ?_; (with_reducible refine (label_Value.calls k _ _ l1 a0_1 t123 _ ?side1 ?side2 A3.out).mono ?_); (case side1 => repeat (first | exact (Kd.C_below HR1.out HB.out) | (with_reducible refine Kd.C_alloc ?_ _) | (with_reducible refine Kd.C_drewN ?_ _) | (with_reducible refine Kd.C_drew ?_))); (case side2 => exact HC1.out); rintro e w23 ⟨rfl, hb⟩; refine ⟨_, rfl, ?_⟩; have n0_ := Aside0.mk (blk_below (g := gb122) (o := .cells #[.int .i64 a0_0, .string a0_1, .string a0_2, .slice A0_3 l0_3.length c0_3, .slice A0_4 l0_4.length c0_4] 25 (0, 0)) (by (with_reducible repeat (first | refine blk_drewN ?_ _ | refine blk_drew ?_ | refine blk_alloc ?_ _)); exact BK122.out) hb); have n1_ := Aside0.mk (below_step (by repeat (first | (with_reducible first | exact HB.out | apply below_alloc | apply pw_below_drewN | apply below_drew1 | refine below_set ?_ GE122.out) | exact HB.out)) hb); clear BK122; clear HB; have BK122 := n0_; have HB := n1_; clear n0_ n1_; (try clear hb); (try clear hb2); (try clear hk); (try clear hi); have hcz24_0 : w23.cell? ⟨gb122, 0, none⟩ = some (.int .i64 a0_0) := (blk_cell BK122.out 0).trans rfl; have hcz24_1 : w23.cell? ⟨gb122, 1, none⟩ = some (.string a0_1) := (blk_cell BK122.out 1).trans rfl; have hcz24_2 : w23.cell? ⟨gb122, 2, none⟩ = some (.string a0_2) := (blk_cell BK122.out 2).trans rfl; have hcz24_3 : w23.cell? ⟨gb122, 3, none⟩ = some (.slice A0_3 l0_3.length c0_3) := (blk_cell BK122.out 3).trans rfl; have hcz24_4 : w23.cell? ⟨gb122, 4, none⟩ = some (.slice A0_4 l0_4.length c0_4) := (blk_cell BK122.out 4).trans rfl; have hfz24_0 := blk_frozen BK122.out 0; have hfz24_1 := blk_frozen BK122.out 1; have hfz24_2 := blk_frozen BK122.out 2; have hfz24_3 := blk_frozen BK122.out 3; have hfz24_4 := blk_frozen BK122.out 4) | ((with_reducible refine gate_callee (f := 158) rfl ?_); refine goesL_ (some 36) rfl rfl Try.func158 (by kernel_rfl) rfl #[.string t123, .string a0_2] rfl (by (try simp only [List.map_toArray, List.map_cons, List.map_nil]); first | done | rfl | (simp only [List.length_drop, List.length_take]; rfl)) ?_; (with_reducible refine (strings_HasPrefix.calls t123 a0_2 t124 _ A20.out).mono ?_); rintro e w' ⟨rfl, ⟨nd, rfl⟩⟩; refine ⟨_, rfl, ?_⟩))
     go_ret
     exact ⟨by first | rfl | (simp [errW_none, errW_some] <;> rfl) | (simp [*, errW_none, errW_some] <;> rfl), by repeat (first | (with_reducible first | exact HB.out | apply below_alloc | apply pw_below_drewN | apply below_drew1 | refine below_set ?_ GE122.out) | exact HB.out)⟩
    ·rw [if_neg c19] at H
     have c19b0 : (a0_0 == 3) = false := beq_eq_false_iff_ne.mpr c19
     have c19b1 : (a0_0 != 3) = true := bne_iff_ne.mpr c19
     by_cases c25 : a0_0 = 4
     ·rw [if_pos c25] at H
      have c25b0 : (a0_0 == 4) = true := beq_iff_eq.mpr c25
      have c25b1 : (a0_0 != 4) = false := bne_eq_false_iff_eq.mpr c25
      clear c25
      have H' := Aside0.mk H
      clear H
      go_enter Try.func108, Try.ntmps108
      go_wp2_with (first | ((with_reducible refine gate_dst (N := 2) rfl ?_); refine box_event ?hg (N := 2) ?hd (cs := #[.int .i64 a0_0, .string a0_1, .string a0_2, .slice A0_3 l0_3.length c0_3, .slice A0_4 l0_4.length c0_4]) (t := 25) ?hr ?_; (case hd => rfl); (case hg => rfl); (case hr => first | (go_simp; done) | (go_simp; rfl)); intro gb122 hg w26 hbox hb; have n0_ := Aside0.mk (below_step (by repeat (first | (with_reducible first | exact HB.out | apply below_alloc | apply pw_below_drewN | apply below_drew1) | exact HB.out)) hb); have n1_ := Aside0.mk (hbox); have n2_ := Aside0.mk ((by rw [hg]; exact (below_size (by repeat (first | (with_reducible first | exact HB.out | apply below_alloc | apply pw_below_drewN | apply below_drew1) | exact HB.out))) : w.heap.size ≤ gb122)); have n3_ := Aside0.mk ((by rw [hg]; exact (below_size (by repeat (first | (with_reducible first | exact HB.out | apply below_alloc | apply pw_below_drewN | apply below_drew1) | exact HB.out))) : w.heap.size ≤ gb122)); clear HB; have HB := n0_; have BK122 := n1_; have GW122 := n2_; have GE122 := n3_; clear n0_ n1_ n2_ n3_; clear hb hbox hg; have hcz27_0 : w26.cell? ⟨gb122, 0, none⟩ = some (.int .i64 a0_0) := (blk_cell BK122.out 0).trans rfl; have hcz27_1 : w26.cell? ⟨gb122, 1, none⟩ = some (.string a0_1) := (blk_cell BK122.out 1).trans rfl; have hcz27_2 : w26.cell? ⟨gb122, 2, none⟩ = some (.string a0_2) := (blk_cell BK122.out 2).trans rfl; have hcz27_3 : w26.cell? ⟨gb122, 3, none⟩ = some (.slice A0_3 l0_3.length c0_3) := (blk_cell BK122.out 3).trans rfl; have hcz27_4 : w26.cell? ⟨gb122, 4, none⟩ = some (.slice A0_4 l0_4.length c0_4) := (blk_cell BK122.out 4).trans rfl; have hfz27_0 := blk_frozen BK122.out 0; have hfz27_1 := blk_frozen BK122.out 1; have hfz27_2 := blk_frozen BK122.out 2; have hfz27_3 := blk_frozen BK122.out 3; have hfz27_4 := blk_frozen BK122.out 4) | ((with_reducible refine gate_callee (f := 65) rfl ?_); refine goesL_ (some 14) rfl rfl Try.func65 (by kernel_rfl) rfl #[.slice A1 l1.length c1, .string a0_1] rfl (by (try simp only [List.map_toArray, List.map_cons, List.map_nil]); first | done | rfl | (simp only [List.length_drop, List.length_take]; rfl)) ?_; (with_reducible refine (label_Value.calls k _ _ l1 a0_1 t123 _ ?side1 ?side2 A3.out).mono ?_); (case side1 => repeat (first | exact (Kd.C_below HR1.out HB.out) | (with_reducible refine Kd.C_alloc ?_ _) | (with_reducible refine Kd.C_drewN ?_ _) | (with_reducible refine Kd.C_drew ?_))); (case side2 => exact HC1.out); rintro e w28 ⟨rfl, hb⟩; refine ⟨_, rfl, ?_⟩; have n0_ := Aside0.mk (blk_below (g := gb122) (o := .cells #[.int .i64 a0_0, .string a0_1, .string a0_2, .slice A0_3 l0_3.length c0_3, .slice A0_4 l0_4.length c0_4] 25 (0, 0)) (by (with_reducible repeat (first | refine blk_drewN ?_ _ | refine blk_drew ?_ | refine blk_alloc ?_ _)); exact BK122.out) hb); have n1_ := Aside0.mk (below_step (by repeat (first | (with_reducible first | exact HB.out | apply below_alloc | apply pw_below_drewN | apply below_drew1 | refine below_set ?_ GE122.out) | exact HB.out)) hb); clear BK122; clear HB; have BK122 := n0_; have HB := n1_; clear n0_ n1_; (try clear hb); (try clear hb2); (try clear hk); (try clear hi); have hcz29_0 : w28.cell? ⟨gb122, 0, none⟩ = some (.int .i64 a0_0) := (blk_cell BK122.out 0).trans rfl; have hcz29_1 : w28.cell? ⟨gb122, 1, none⟩ = some (.string a0_1) := (blk_cell BK122.out 1).trans rfl; have hcz29_2 : w28.cell? ⟨gb122, 2, none⟩ = some (.string a0_2) := (blk_cell BK122.out 2).trans rfl; have hcz29_3 : w28.cell? ⟨gb122, 3, none⟩ = some (.slice A0_3 l0_3.length c0_3) := (blk_cell BK122.out 3).trans rfl; have hcz29_4 : w28.cell? ⟨gb122, 4, none⟩ = some (.slice A0_4 l0_4.length c0_4) := (blk_cell BK122.out 4).trans rfl; have hfz29_0 := blk_frozen BK122.out 0; have hfz29_1 := blk_frozen BK122.out 1; have hfz29_2 := blk_frozen BK122.out 2; have hfz29_3 := blk_frozen BK122.out 3; have hfz29_4 := blk_frozen BK122.out 4))
      go_loopg [42] k (fun kq v42 w' => ∃ (x42_1 : Int), v42 = .int .i64 x42_1 ∧ Aside0 (match_eval.l0 kq t123 l0_3 (l0_3.length : Int) x42_1 = some r) ∧ Aside0 (kq ≤ k) ∧ Aside0 (w'.heap[gb122]? = some (.cells #[.int .i64 a0_0, .string a0_1, .string a0_2, (.slice A0_3 l0_3.length c0_3), (.slice A0_4 l0_4.length c0_4)] 25 (0, 0))) ∧ Aside0 (Below w.heap.size w w'))
      case atStart => exact ⟨(0), (by first | rfl | (simp; done) | (simp [*]; done)), H', ⟨Nat.le_refl _⟩, ⟨by (with_reducible repeat (first | refine blk_drewN ?_ _ | refine blk_drew ?_ | refine blk_alloc ?_ _)); exact BK122.out⟩, ⟨by repeat (first | (with_reducible first | exact HB.out | apply below_alloc | apply pw_below_drewN | apply below_drew1 | refine below_set ?_ GE122.out) | exact HB.out)⟩⟩
      case round =>
       clear H'
       try clear c1
       try clear c2
       try clear p2
       try clear c4
       try clear c4b0
       try clear c4b1
       try clear c6
       try clear c9
       try clear c9b0
       try clear c9b1
       try clear c10
       try clear c14
       try clear c14b0
       try clear c14b1
       try clear c15
       try clear c19
       try clear c19b0
       try clear c19b1
       try clear c25
       try clear c25b0
       try clear c25b1
       try clear hcz11_0
       try clear hcz11_1
       try clear hcz11_2
       try clear hcz11_3
       try clear hcz11_4
       try clear hcz13_0
       try clear hcz13_1
       try clear hcz13_2
       try clear hcz13_3
       try clear hcz13_4
       try clear hcz16_0
       try clear hcz16_1
       try clear hcz16_2
       try clear hcz16_3
       try clear hcz16_4
       try clear hcz18_0
       try clear hcz18_1
       try clear hcz18_2
       try clear hcz18_3
       try clear hcz18_4
       try clear hcz22_0
       try clear hcz22_1
       try clear hcz22_2
       try clear hcz22_3
       try clear hcz22_4
       try clear hcz24_0
       try clear hcz24_1
       try clear hcz24_2
       try clear hcz24_3
       try clear hcz24_4
       try clear hcz27_0
       try clear hcz27_1
       try clear hcz27_2
       try clear hcz27_3
       try clear hcz27_4
       try clear hcz29_0
       try clear hcz29_1
       try clear hcz29_2
       try clear hcz29_3
       try clear hcz29_4
       try clear hcz6_0
       try clear hcz6_1
       try clear hcz6_2
       try clear hcz6_3
       try clear hcz6_4
       try clear hcz8_0
       try clear hcz8_1
       try clear hcz8_2
       try clear hcz8_3
       try clear hcz8_4
       try clear hfz11_0
       try clear hfz11_1
       try clear hfz11_2
       try clear hfz11_3
       try clear hfz11_4
       try clear hfz13_0
       try clear hfz13_1
       try clear hfz13_2
       try clear hfz13_3
       try clear hfz13_4
       try clear hfz16_0
       try clear hfz16_1
       try clear hfz16_2
       try clear hfz16_3
       try clear hfz16_4
       try clear hfz18_0
       try clear hfz18_1
       try clear hfz18_2
       try clear hfz18_3
       try clear hfz18_4
       try clear hfz22_0
       try clear hfz22_1
       try clear hfz22_2
       try clear hfz22_3
       try clear hfz22_4
       try clear hfz24_0
       try clear hfz24_1
       try clear hfz24_2
       try clear hfz24_3
       try clear hfz24_4
       try clear hfz27_0
       try clear hfz27_1
       try clear hfz27_2
       try clear hfz27_3
       try clear hfz27_4
       try clear hfz29_0
       try clear hfz29_1
       try clear hfz29_2
       try clear hfz29_3
       try clear hfz29_4
       try clear hfz6_0
       try clear hfz6_1
       try clear hfz6_2
       try clear hfz6_3
       try clear hfz6_4
       try clear hfz8_0
       try clear hfz8_1
       try clear hfz8_2
       try clear hfz8_3
       try clear hfz8_4
       obtain ⟨x42_1, rfl, HA, HK1, BK122, HB⟩ := hrel
       cases gk with
       | zero => exact absurd HA.out (by simp [match_eval.l0])
       | succ k1 =>
        have H := HA.out
        clear HA
        simp only [match_eval.l0] at H
        by_cases c30 : x42_1 < (l0_3.length : Int)
        ·rw [if_pos c30] at H
         have c30b0 : decide (x42_1 < (l0_3.length : Int)) = true := decide_eq_true c30
         clear c30
         by_cases c31 : 0 ≤ x42_1
         ·rw [if_pos c31] at H
          have c31b0 : decide (0 ≤ x42_1) = true := decide_eq_true c31
          clear c31
          by_cases c32 : x42_1 < (l0_3.length : Int)
          ·rw [if_pos c32] at H
           have c32b0 : decide (x42_1 < (l0_3.length : Int)) = true := decide_eq_true c32
           clear c32
           by_cases c33 : (rdOf ByteArray.empty l0_3 x42_1).toList = t123.toList
           ·rw [if_pos c33] at H
            have c33b0 : ((rdOf ByteArray.empty l0_3 x42_1).toList == t123.toList) = true := beq_iff_eq.mpr c33
            have c33b1 : ((rdOf ByteArray.empty l0_3 x42_1).toList != t123.toList) = false := bne_eq_false_iff_eq.mpr c33
            clear c33
            obtain rfl := Option.some.inj H
            have p125 : 0 ≤ (x42_1 : Int) := of_decide_eq_true (by first | (with_reducible assumption) | assumption)
            have q125 : x42_1 < (l0_3.length : Int) := of_decide_eq_true (by first | (with_reducible assumption) | assumption)
            obtain ⟨ad125, e125, hx125_0⟩ := Kd.at_string HR0_3.out x42_1 p125 q125
            cases e125
            replace hx125_0 := (HB.out.cell (World.block_lt_of_cell? w _ hx125_0)).trans hx125_0
            replace p125 := eq_true p125
            replace q125 := eq_true q125
            go_wp2
            go_ret
            exact ⟨by first | rfl | (simp [errW_none, errW_some] <;> rfl) | (simp [*, errW_none, errW_some] <;> rfl), by repeat (first | (with_reducible first | exact HB.out | apply below_alloc | apply pw_below_drewN | apply below_drew1 | refine below_set ?_ GE122.out) | exact HB.out)⟩
           ·rw [if_neg c33] at H
            have c33b0 : ((rdOf ByteArray.empty l0_3 x42_1).toList == t123.toList) = false := beq_eq_false_iff_ne.mpr c33
            have c33b1 : ((rdOf ByteArray.empty l0_3 x42_1).toList != t123.toList) = true := bne_iff_ne.mpr c33
            have H' := Aside0.mk H
            clear H
            have p125 : 0 ≤ (x42_1 : Int) := of_decide_eq_true (by first | (with_reducible assumption) | assumption)
            have q125 : x42_1 < (l0_3.length : Int) := of_decide_eq_true (by first | (with_reducible assumption) | assumption)
            obtain ⟨ad125, e125, hx125_0⟩ := Kd.at_string HR0_3.out x42_1 p125 q125
            cases e125
            replace hx125_0 := (HB.out.cell (World.block_lt_of_cell? w _ hx125_0)).trans hx125_0
            replace p125 := eq_true p125
            replace q125 := eq_true q125
            go_wp2
            go_roundg k1
            case measure => have := HK1.out; omega
            case rel => exact ⟨(wrap64 (x42_1 + 1)), (by first | rfl | (simp; done) | (simp [*]; done)), H', ⟨by have := HK1.out; omega⟩, ⟨by (with_reducible repeat (first | refine blk_drewN ?_ _ | refine blk_drew ?_ | refine blk_alloc ?_ _)); exact BK122.out⟩, ⟨by repeat (first | (with_reducible first | exact HB.out | apply below_alloc | apply pw_below_drewN | apply below_drew1 | refine below_set ?_ GE122.out) | exact HB.out)⟩⟩
          ·rw [if_neg c32] at H
           exact absurd H (by simp)
         ·rw [if_neg c31] at H
          exact absurd H (by simp)
        ·rw [if_neg c30] at H
         have c30b0 : decide (x42_1 < (l0_3.length : Int)) = false := decide_eq_false c30
         clear c30
         obtain rfl := Option.some.inj H
         go_wp2
         go_ret
         exact ⟨by first | rfl | (simp [errW_none, errW_some] <;> rfl) | (simp [*, errW_none, errW_some] <;> rfl), by repeat (first | (with_reducible first | exact HB.out | apply below_alloc | apply pw_below_drewN | apply below_drew1 | refine below_set ?_ GE122.out) | exact HB.out)⟩
     ·rw [if_neg c25] at H
      have c25b0 : (a0_0 == 4) = false := beq_eq_false_iff_ne.mpr c25
      have c25b1 : (a0_0 != 4) = true := bne_iff_ne.mpr c25
      by_cases c34 : a0_0 = 7
      ·rw [if_pos c34] at H
       have c34b0 : (a0_0 == 7) = true := beq_iff_eq.mpr c34
       have c34b1 : (a0_0 != 7) = false := bne_eq_false_iff_eq.mpr c34
       clear c34
       by_cases c35 : 0 < (l0_4.length : Int)
       ·rw [if_pos c35] at H
        have c35b0 : decide (0 < (l0_4.length : Int)) = true := decide_eq_true c35
        have c35b1 : decide (0 < l0_4.length) = true := decide_eq_true (by omega)
        clear c35
        replace H := Option.bind_eq_some_iff.mp H
        obtain ⟨t127, A360, H⟩ := H
        replace H : (some (!t127)) = some r := H
        have A36 := Aside0.mk A360
        clear A360
        obtain rfl := Option.some.inj H
        go_enter Try.func108, Try.ntmps108
        go_wp2_with (first | ((with_reducible refine gate_dst (N := 2) rfl ?_); refine box_event ?hg (N := 2) ?hd (cs := #[.int .i64 a0_0, .string a0_1, .string a0_2, .slice A0_3 l0_3.length c0_3, .slice A0_4 l0_4.length c0_4]) (t := 25) ?hr ?_; (case hd => rfl); (case hg => rfl); (case hr => first | (go_simp; done) | (go_simp; rfl)); intro gb122 hg w37 hbox hb; have n0_ := Aside0.mk (below_step (by repeat (first | (with_reducible first | exact HB.out | apply below_alloc | apply pw_below_drewN | apply below_drew1) | exact HB.out)) hb); have n1_ := Aside0.mk (hbox); have n2_ := Aside0.mk ((by rw [hg]; exact (below_size (by repeat (first | (with_reducible first | exact HB.out | apply below_alloc | apply pw_below_drewN | apply below_drew1) | exact HB.out))) : w.heap.size ≤ gb122)); have n3_ := Aside0.mk ((by rw [hg]; exact (below_size (by repeat (first | (with_reducible first | exact HB.out | apply below_alloc | apply pw_below_drewN | apply below_drew1) | exact HB.out))) : w.heap.size ≤ gb122)); clear HB; have HB := n0_; have BK122 := n1_; have GW122 := n2_; have GE122 := n3_; clear n0_ n1_ n2_ n3_; clear hb hbox hg; have hcz38_0 : w37.cell? ⟨gb122, 0, none⟩ = some (.int .i64 a0_0) := (blk_cell BK122.out 0).trans rfl; have hcz38_1 : w37.cell? ⟨gb122, 1, none⟩ = some (.string a0_1) := (blk_cell BK122.out 1).trans rfl; have hcz38_2 : w37.cell? ⟨gb122, 2, none⟩ = some (.string a0_2) := (blk_cell BK122.out 2).trans rfl; have hcz38_3 : w37.cell? ⟨gb122, 3, none⟩ = some (.slice A0_3 l0_3.length c0_3) := (blk_cell BK122.out 3).trans rfl; have hcz38_4 : w37.cell? ⟨gb122, 4, none⟩ = some (.slice A0_4 l0_4.length c0_4) := (blk_cell BK122.out 4).trans rfl; have hfz38_0 := blk_frozen BK122.out 0; have hfz38_1 := blk_frozen BK122.out 1; have hfz38_2 := blk_frozen BK122.out 2; have hfz38_3 := blk_frozen BK122.out 3; have hfz38_4 := blk_frozen BK122.out 4) | ((with_reducible refine gate_callee (f := 65) rfl ?_); refine goesL_ (some 14) rfl rfl Try.func65 (by kernel_rfl) rfl #[.slice A1 l1.length c1, .string a0_1] rfl (by (try simp only [List.map_toArray, List.map_cons, List.map_nil]); first | done | rfl | (simp only [List.length_drop, List.length_take]; rfl)) ?_; (with_reducible refine (label_Value.calls k _ _ l1 a0_1 t123 _ ?side1 ?side2 A3.out).mono ?_); (case side1 => repeat (first | exact (Kd.C_below HR1.out HB.out) | (with_reducible refine Kd.C_alloc ?_ _) | (with_reducible refine Kd.C_drewN ?_ _) | (with_reducible refine Kd.C_drew ?_))); (case side2 => exact HC1.out); rintro e w39 ⟨rfl, hb⟩; refine ⟨_, rfl, ?_⟩; have n0_ := Aside0.mk (blk_below (g := gb122) (o := .cells #[.int .i64 a0_0, .string a0_1, .string a0_2, .slice A0_3 l0_3.length c0_3, .slice A0_4 l0_4.length c0_4] 25 (0, 0)) (by (with_reducible repeat (first | refine blk_drewN ?_ _ | refine blk_drew ?_ | refine blk_alloc ?_ _)); exact BK122.out) hb); have n1_ := Aside0.mk (below_step (by repeat (first | (with_reducible first | exact HB.out | apply below_alloc | apply pw_below_drewN | apply below_drew1 | refine below_set ?_ GE122.out) | exact HB.out)) hb); clear BK122; clear HB; have BK122 := n0_; have HB := n1_; clear n0_ n1_; (try clear hb); (try clear hb2); (try clear hk); (try clear hi); have hcz40_0 : w39.cell? ⟨gb122, 0, none⟩ = some (.int .i64 a0_0) := (blk_cell BK122.out 0).trans rfl; have hcz40_1 : w39.cell? ⟨gb122, 1, none⟩ = some (.string a0_1) := (blk_cell BK122.out 1).trans rfl; have hcz40_2 : w39.cell? ⟨gb122, 2, none⟩ = some (.string a0_2) := (blk_cell BK122.out 2).trans rfl; have hcz40_3 : w39.cell? ⟨gb122, 3, none⟩ = some (.slice A0_3 l0_3.length c0_3) := (blk_cell BK122.out 3).trans rfl; have hcz40_4 : w39.cell? ⟨gb122, 4, none⟩ = some (.slice A0_4 l0_4.length c0_4) := (blk_cell BK122.out 4).trans rfl; have hfz40_0 := blk_frozen BK122.out 0; have hfz40_1 := blk_frozen BK122.out 1; have hfz40_2 := blk_frozen BK122.out 2; have hfz40_3 := blk_frozen BK122.out 3; have hfz40_4 := blk_frozen BK122.out 4; have p126 : 0 ≤ (0 : Int) := (by omega); have q126 : 0 < (l0_4.length : Int) := of_decide_eq_true (by first | (with_reducible assumption) | assumption); obtain ⟨ad126, A126_3, c126_3, A126_4, c126_4, e126, hx126_0, hx126_1, hx126_2, hx126_3, hx126_4, hl126_3, hi126_3, hl126_4, hi126_4⟩ := at_T25 HR0_4.out 0 p126 q126; cases e126; have qi126 : (0 < l0_4.length) = True := eq_true (by omega); (try rw [show ((0 : Int)).toNat = 0 from rfl] at hx126_0); (try rw [show 0 * 5 = 0 from rfl] at hx126_0); (try rw [Addr.add_zero'] at hx126_0); (try rw [show ((0 : Int)).toNat = 0 from rfl] at hx126_1); (try rw [show 0 * 5 = 0 from rfl] at hx126_1); (try rw [Addr.add_zero'] at hx126_1); (try rw [show ((0 : Int)).toNat = 0 from rfl] at hx126_2); (try rw [show 0 * 5 = 0 from rfl] at hx126_2); (try rw [Addr.add_zero'] at hx126_2); (try rw [show ((0 : Int)).toNat = 0 from rfl] at hx126_3); (try rw [show 0 * 5 = 0 from rfl] at hx126_3); (try rw [Addr.add_zero'] at hx126_3); (try rw [show ((0 : Int)).toNat = 0 from rfl] at hx126_4); (try rw [show 0 * 5 = 0 from rfl] at hx126_4); (try rw [Addr.add_zero'] at hx126_4); replace hx126_0 := (HB.out.cell (World.block_lt_of_cell? w _ hx126_0)).trans hx126_0; replace hx126_1 := (HB.out.cell (World.block_lt_of_cell? w _ hx126_1)).trans hx126_1; replace hx126_2 := (HB.out.cell (World.block_lt_of_cell? w _ hx126_2)).trans hx126_2; replace hx126_3 := (HB.out.cell (World.block_lt_of_cell? w _ hx126_3)).trans hx126_3; replace hx126_4 := (HB.out.cell (World.block_lt_of_cell? w _ hx126_4)).trans hx126_4; have HR126_3 := Aside0.mk hi126_3; have HC126_3 := Aside0.mk hl126_3; clear hi126_3 hl126_3; have HR126_4 := Aside0.mk hi126_4; have HC126_4 := Aside0.mk hl126_4; clear hi126_4 hl126_4; replace p126 := eq_true p126; replace q126 := eq_true q126) | ((with_reducible refine gate_callee (f := 108) rfl ?_); refine goesL_ (some 57) rfl rfl Try.func108 (by kernel_rfl) rfl #[.agg #[.int .i64 ((rd_T25 l0_4 0).f0), .string ((rd_T25 l0_4 0).f1), .string ((rd_T25 l0_4 0).f2), .slice A126_3 ((rd_T25 l0_4 0).f3).length c126_3, .slice A126_4 ((rd_T25 l0_4 0).f4).length c126_4], .slice A1 l1.length c1] rfl (by (try simp only [List.map_toArray, List.map_cons, List.map_nil]); first | done | rfl | (simp only [List.length_drop, List.length_take]; rfl)) ?_; (with_reducible refine (ih k (by omega) ((rd_T25 l0_4 0).f0) ((rd_T25 l0_4 0).f1) ((rd_T25 l0_4 0).f2) _ _ ((rd_T25 l0_4 0).f3) _ _ ((rd_T25 l0_4 0).f4) _ _ l1 t127 _ ?side1 ?side2 ?side3 ?side4 ?side5 ?side6 A36.out).mono ?_); (case side1 => repeat (first | exact (Kd.C_below HR126_3.out HB.out) | (with_reducible refine Kd.C_alloc ?_ _) | (with_reducible refine Kd.C_drewN ?_ _) | (with_reducible refine Kd.C_drew ?_))); (case side2 => exact HC126_3.out); (case side3 => repeat (first | exact (Kd.C_below HR126_4.out HB.out) | (with_reducible refine Kd.C_alloc ?_ _) | (with_reducible refine Kd.C_drewN ?_ _) | (with_reducible refine Kd.C_drew ?_))); (case side4 => exact HC126_4.out); (case side5 => repeat (first | exact (Kd.C_below HR1.out HB.out) | (with_reducible refine Kd.C_alloc ?_ _) | (with_reducible refine Kd.C_drewN ?_ _) | (with_reducible refine Kd.C_drew ?_))); (case side6 => exact HC1.out); rintro e w41 ⟨rfl, hb⟩; refine ⟨_, rfl, ?_⟩; have n0_ := Aside0.mk (blk_below (g := gb122) (o := .cells #[.int .i64 a0_0, .string a0_1, .string a0_2, .slice A0_3 l0_3.length c0_3, .slice (some ad126) l0_4.length c0_4] 25 (0, 0)) (by (with_reducible repeat (first | refine blk_drewN ?_ _ | refine blk_drew ?_ | refine blk_alloc ?_ _)); exact BK122.out) hb); have n1_ := Aside0.mk (below_step (by repeat (first | (with_reducible first | exact HB.out | apply below_alloc | apply pw_below_drewN | apply below_drew1 | refine below_set ?_ GE122.out) | exact HB.out)) hb); clear BK122; clear HB; have BK122 := n0_; have HB := n1_; clear n0_ n1_; (try clear hb); (try clear hb2); (try clear hk); (try clear hi)))
        go_ret
        exact ⟨by first | rfl | (simp [errW_none, errW_some] <;> rfl) | (simp [*, errW_none, errW_some] <;> rfl), by repeat (first | (with_reducible first | exact HB.out | apply below_alloc | apply pw_below_drewN | apply below_drew1 | refine below_set ?_ GE122.out) | exact HB.out)⟩
       ·rw [if_neg c35] at H
        exact absurd H (by simp)
      ·rw [if_neg c34] at H
       have c34b0 : (a0_0 == 7) = false := beq_eq_false_iff_ne.mpr c34
       have c34b1 : (a0_0 != 7) = true := bne_iff_ne.mpr c34
       have H' := Aside0.mk H
       clear H
       go_enter Try.func108, Try.ntmps108
       go_wp2_with (first | ((with_reducible refine gate_dst (N := 2) rfl ?_); refine box_event ?hg (N := 2) ?hd (cs := #[.int .i64 a0_0, .string a0_1, .string a0_2, .slice A0_3 l0_3.length c0_3, .slice A0_4 l0_4.length c0_4]) (t := 25) ?hr ?_; (case hd => rfl); (case hg => rfl); (case hr => first | (go_simp; done) | (go_simp; rfl)); intro gb122 hg w42 hbox hb; have n0_ := Aside0.mk (below_step (by repeat (first | (with_reducible first | exact HB.out | apply below_alloc | apply pw_below_drewN | apply below_drew1) | exact HB.out)) hb); have n1_ := Aside0.mk (hbox); have n2_ := Aside0.mk ((by rw [hg]; exact (below_size (by repeat (first | (with_reducible first | exact HB.out | apply below_alloc | apply pw_below_drewN | apply below_drew1) | exact HB.out))) : w.heap.size ≤ gb122)); have n3_ := Aside0.mk ((by rw [hg]; exact (below_size (by repeat (first | (with_reducible first | exact HB.out | apply below_alloc | apply pw_below_drewN | apply below_drew1) | exact HB.out))) : w.heap.size ≤ gb122)); clear HB; have HB := n0_; have BK122 := n1_; have GW122 := n2_; have GE122 := n3_; clear n0_ n1_ n2_ n3_; clear hb hbox hg; have hcz43_0 : w42.cell? ⟨gb122, 0, none⟩ = some (.int .i64 a0_0) := (blk_cell BK122.out 0).trans rfl; have hcz43_1 : w42.cell? ⟨gb122, 1, none⟩ = some (.string a0_1) := (blk_cell BK122.out 1).trans rfl; have hcz43_2 : w42.cell? ⟨gb122, 2, none⟩ = some (.string a0_2) := (blk_cell BK122.out 2).trans rfl; have hcz43_3 : w42.cell? ⟨gb122, 3, none⟩ = some (.slice A0_3 l0_3.length c0_3) := (blk_cell BK122.out 3).trans rfl; have hcz43_4 : w42.cell? ⟨gb122, 4, none⟩ = some (.slice A0_4 l0_4.length c0_4) := (blk_cell BK122.out 4).trans rfl; have hfz43_0 := blk_frozen BK122.out 0; have hfz43_1 := blk_frozen BK122.out 1; have hfz43_2 := blk_frozen BK122.out 2; have hfz43_3 := blk_frozen BK122.out 3; have hfz43_4 := blk_frozen BK122.out 4) | ((with_reducible refine gate_callee (f := 65) rfl ?_); refine goesL_ (some 14) rfl rfl Try.func65 (by kernel_rfl) rfl #[.slice A1 l1.length c1, .string a0_1] rfl (by (try simp only [List.map_toArray, List.map_cons, List.map_nil]); first | done | rfl | (simp only [List.length_drop, List.length_take]; rfl)) ?_; (with_reducible refine (label_Value.calls k _ _ l1 a0_1 t123 _ ?side1 ?side2 A3.out).mono ?_); (case side1 => repeat (first | exact (Kd.C_below HR1.out HB.out) | (with_reducible refine Kd.C_alloc ?_ _) | (with_reducible refine Kd.C_drewN ?_ _) | (with_reducible refine Kd.C_drew ?_))); (case side2 => exact HC1.out); rintro e w44 ⟨rfl, hb⟩; refine ⟨_, rfl, ?_⟩; have n0_ := Aside0.mk (blk_below (g := gb122) (o := .cells #[.int .i64 a0_0, .string a0_1, .string a0_2, .slice A0_3 l0_3.length c0_3, .slice A0_4 l0_4.length c0_4] 25 (0, 0)) (by (with_reducible repeat (first | refine blk_drewN ?_ _ | refine blk_drew ?_ | refine blk_alloc ?_ _)); exact BK122.out) hb); have n1_ := Aside0.mk (below_step (by repeat (first | (with_reducible first | exact HB.out | apply below_alloc | apply pw_below_drewN | apply below_drew1 | refine below_set ?_ GE122.out) | exact HB.out)) hb); clear BK122; clear HB; have BK122 := n0_; have HB := n1_; clear n0_ n1_; (try clear hb); (try clear hb2); (try clear hk); (try clear hi); have hcz45_0 : w44.cell? ⟨gb122, 0, none⟩ = some (.int .i64 a0_0) := (blk_cell BK122.out 0).trans rfl; have hcz45_1 : w44.cell? ⟨gb122, 1, none⟩ = some (.string a0_1) := (blk_cell BK122.out 1).trans rfl; have hcz45_2 : w44.cell? ⟨gb122, 2, none⟩ = some (.string a0_2) := (blk_cell BK122.out 2).trans rfl; have hcz45_3 : w44.cell? ⟨gb122, 3, none⟩ = some (.slice A0_3 l0_3.length c0_3) := (blk_cell BK122.out 3).trans rfl; have hcz45_4 : w44.cell? ⟨gb122, 4, none⟩ = some (.slice A0_4 l0_4.length c0_4) := (blk_cell BK122.out 4).trans rfl; have hfz45_0 := blk_frozen BK122.out 0; have hfz45_1 := blk_frozen BK122.out 1; have hfz45_2 := blk_frozen BK122.out 2; have hfz45_3 := blk_frozen BK122.out 3; have hfz45_4 := blk_frozen BK122.out 4))
       go_loopg [65] k (fun kq v65 w' => ∃ (x65_1 : Int), v65 = .int .i64 x65_1 ∧ Aside0 (match_eval.l1 kq l1 (a0_0 == 6) l0_4 (l0_4.length : Int) x65_1 = some r) ∧ Aside0 (kq ≤ k) ∧ Aside0 (w'.heap[gb122]? = some (.cells #[.int .i64 a0_0, .string a0_1, .string a0_2, (.slice A0_3 l0_3.length c0_3), (.slice A0_4 l0_4.length c0_4)] 25 (0, 0))) ∧ Aside0 (Below w.heap.size w w'))
       case atStart => exact ⟨(0), (by first | rfl | (simp; done) | (simp [*]; done)), H', ⟨Nat.le_refl _⟩, ⟨by (with_reducible repeat (first | refine blk_drewN ?_ _ | refine blk_drew ?_ | refine blk_alloc ?_ _)); exact BK122.out⟩, ⟨by repeat (first | (with_reducible first | exact HB.out | apply below_alloc | apply pw_below_drewN | apply below_drew1 | refine below_set ?_ GE122.out) | exact HB.out)⟩⟩
       case round =>
        clear H'
        try clear c1
        try clear p1
        try clear q1
        try clear hx1
        try clear qi1
        try clear c2
        try clear p2
        try clear c3
        try clear c4
        try clear c4b0
        try clear c4b1
        try clear c6
        try clear p6
        try clear c9
        try clear c9b0
        try clear c9b1
        try clear c10
        try clear c12
        try clear p12
        try clear q12
        try clear hx12
        try clear qi12
        try clear c14
        try clear c14b0
        try clear c14b1
        try clear c15
        try clear c19
        try clear c19b0
        try clear c19b1
        try clear c25
        try clear c25b0
        try clear c25b1
        try clear c30
        try clear c30b0
        try clear c31
        try clear c31b0
        try clear c32
        try clear c32b0
        try clear c33
        try clear c33b0
        try clear c33b1
        try clear c34
        try clear c34b0
        try clear c34b1
        try clear c35
        try clear c35b0
        try clear c35b1
        try clear hcz11_0
        try clear hcz11_1
        try clear hcz11_2
        try clear hcz11_3
        try clear hcz11_4
        try clear hcz13_0
        try clear hcz13_1
        try clear hcz13_2
        try clear hcz13_3
        try clear hcz13_4
        try clear hcz16_0
        try clear hcz16_1
        try clear hcz16_2
        try clear hcz16_3
        try clear hcz16_4
        try clear hcz18_0
        try clear hcz18_1
        try clear hcz18_2
        try clear hcz18_3
        try clear hcz18_4
        try clear hcz22_0
        try clear hcz22_1
        try clear hcz22_2
        try clear hcz22_3
        try clear hcz22_4
        try clear hcz24_0
        try clear hcz24_1
        try clear hcz24_2
        try clear hcz24_3
        try clear hcz24_4
        try clear hcz27_0
        try clear hcz27_1
        try clear hcz27_2
        try clear hcz27_3
        try clear hcz27_4
        try clear hcz29_0
        try clear hcz29_1
        try clear hcz29_2
        try clear hcz29_3
        try clear hcz29_4
        try clear hcz38_0
        try clear hcz38_1
        try clear hcz38_2
        try clear hcz38_3
        try clear hcz38_4
        try clear hcz40_0
        try clear hcz40_1
        try clear hcz40_2
        try clear hcz40_3
        try clear hcz40_4
        try clear hcz43_0
        try clear hcz43_1
        try clear hcz43_2
        try clear hcz43_3
        try clear hcz43_4
        try clear hcz45_0
        try clear hcz45_1
        try clear hcz45_2
        try clear hcz45_3
        try clear hcz45_4
        try clear hcz6_0
        try clear hcz6_1
        try clear hcz6_2
        try clear hcz6_3
        try clear hcz6_4
        try clear hcz8_0
        try clear hcz8_1
        try clear hcz8_2
        try clear hcz8_3
        try clear hcz8_4
        try clear hfz11_0
        try clear hfz11_1
        try clear hfz11_2
        try clear hfz11_3
        try clear hfz11_4
        try clear hfz13_0
        try clear hfz13_1
        try clear hfz13_2
        try clear hfz13_3
        try clear hfz13_4
        try clear hfz16_0
        try clear hfz16_1
        try clear hfz16_2
        try clear hfz16_3
        try clear hfz16_4
        try clear hfz18_0
        try clear hfz18_1
        try clear hfz18_2
        try clear hfz18_3
        try clear hfz18_4
        try clear hfz22_0
        try clear hfz22_1
        try clear hfz22_2
        try clear hfz22_3
        try clear hfz22_4
        try clear hfz24_0
        try clear hfz24_1
        try clear hfz24_2
        try clear hfz24_3
        try clear hfz24_4
        try clear hfz27_0
        try clear hfz27_1
        try clear hfz27_2
        try clear hfz27_3
        try clear hfz27_4
        try clear hfz29_0
        try clear hfz29_1
        try clear hfz29_2
        try clear hfz29_3
        try clear hfz29_4
        try clear hfz38_0
        try clear hfz38_1
        try clear hfz38_2
        try clear hfz38_3
        try clear hfz38_4
        try clear hfz40_0
        try clear hfz40_1
        try clear hfz40_2
        try clear hfz40_3
        try clear hfz40_4
        try clear hfz43_0
        try clear hfz43_1
        try clear hfz43_2
        try clear hfz43_3
        try clear hfz43_4
        try clear hfz45_0
        try clear hfz45_1
        try clear hfz45_2
        try clear hfz45_3
        try clear hfz45_4
        try clear hfz6_0
        try clear hfz6_1
        try clear hfz6_2
        try clear hfz6_3
        try clear hfz6_4
        try clear hfz8_0
        try clear hfz8_1
        try clear hfz8_2
        try clear hfz8_3
        try clear hfz8_4
        try clear hx125_0
        try clear hx126_0
        try clear hx126_1
        try clear hx126_2
        try clear hx126_3
        try clear hx126_4
        try clear p125
        try clear p126
        try clear p2
        try clear q125
        try clear q126
        obtain ⟨x65_1, rfl, HA, HK1, BK122, HB⟩ := hrel
        cases gk with
        | zero => exact absurd HA.out (by simp [match_eval.l1])
        | succ k1 =>
         have H := HA.out
         clear HA
         simp only [match_eval.l1] at H
         by_cases c46 : x65_1 < (l0_4.length : Int)
         ·rw [if_pos c46] at H
          have c46b0 : decide (x65_1 < (l0_4.length : Int)) = true := decide_eq_true c46
          clear c46
          by_cases c47 : 0 ≤ x65_1
          ·rw [if_pos c47] at H
           have c47b0 : decide (0 ≤ x65_1) = true := decide_eq_true c47
           clear c47
           by_cases c48 : x65_1 < (l0_4.length : Int)
           ·rw [if_pos c48] at H
            have c48b0 : decide (x65_1 < (l0_4.length : Int)) = true := decide_eq_true c48
            clear c48
            replace H := Option.bind_eq_some_iff.mp H
            obtain ⟨t130, A490, H⟩ := H
            replace H : (if (t130 == (a0_0 == 6)) = true then (some (a0_0 == 6)) else (match_eval.l1 k1 l1 (a0_0 == 6) l0_4 (l0_4.length : Int) (wrap64 (x65_1 + 1)))) = some r := H
            have A49 := Aside0.mk A490
            clear A490
            by_cases c50 : (t130 == (a0_0 == 6)) = true
            ·rw [if_pos c50] at H
             have c50b0 : (t130 == (a0_0 == 6)) = true := c50
             (try (have c50b1 : decide (t130 = (a0_0 == 6)) = true := by simpa using c50))
             (try (have c50b2 : (t130 == (a0_0 == 6)) = true := by simpa using c50))
             clear c50
             obtain rfl := Option.some.inj H
             have p128 : 0 ≤ (x65_1 : Int) := of_decide_eq_true (by first | (with_reducible assumption) | assumption)
             have q128 : x65_1 < (l0_4.length : Int) := of_decide_eq_true (by first | (with_reducible assumption) | assumption)
             obtain ⟨ad128, A128_3, c128_3, A128_4, c128_4, e128, hx128_0, hx128_1, hx128_2, hx128_3, hx128_4, hl128_3, hi128_3, hl128_4, hi128_4⟩ := at_T25 HR0_4.out x65_1 p128 q128
             cases e128
             replace hx128_0 := (HB.out.cell (World.block_lt_of_cell? w _ hx128_0)).trans hx128_0
             replace hx128_1 := (HB.out.cell (World.block_lt_of_cell? w _ hx128_1)).trans hx128_1
             replace hx128_2 := (HB.out.cell (World.block_lt_of_cell? w _ hx128_2)).trans hx128_2
             replace hx128_3 := (HB.out.cell (World.block_lt_of_cell? w _ hx128_3)).trans hx128_3
             replace hx128_4 := (HB.out.cell (World.block_lt_of_cell? w _ hx128_4)).trans hx128_4
             have HR128_3 := Aside0.mk hi128_3
             have HC128_3 := Aside0.mk hl128_3
             clear hi128_3 hl128_3
             have HR128_4 := Aside0.mk hi128_4
             have HC128_4 := Aside0.mk hl128_4
             clear hi128_4 hl128_4
             replace p128 := eq_true p128
             replace q128 := eq_true q128
             go_wp2_with (first | ((with_reducible refine gate_dst (N := 10) rfl ?_); refine box_event ?hg (N := 10) ?hd (cs := #[.int .i64 0, .string (⟨#[]⟩ : ByteArray), .string (⟨#[]⟩ : ByteArray), .slice none 0 0, .slice none 0 0]) (t := 25) ?hr ?_; (case hd => rfl); (case hg => rfl); (case hr => first | (go_simp; done) | (go_simp; rfl)); intro gb129 hg w51 hbox hb; have n0_ := Aside0.mk (blk_below (g := gb122) (o := .cells #[.int .i64 a0_0, .string a0_1, .string a0_2, .slice A0_3 l0_3.length c0_3, .slice (some ad128) l0_4.length c0_4] 25 (0, 0)) (by (with_reducible repeat (first | refine blk_drewN ?_ _ | refine blk_drew ?_ | refine blk_alloc ?_ _)); exact BK122.out) hb); have n1_ := Aside0.mk (below_step (by repeat (first | (with_reducible first | exact HB.out | apply below_alloc | apply pw_below_drewN | apply below_drew1 | refine below_set ?_ GE122.out) | exact HB.out)) hb); have n2_ := Aside0.mk (hbox); have n3_ := Aside0.mk ((by rw [hg]; exact (below_size (by repeat (first | (with_reducible first | exact HB.out | apply below_alloc | apply pw_below_drewN | apply below_drew1 | refine below_set ?_ GE122.out) | exact HB.out))) : w.heap.size ≤ gb129)); have n4_ := Aside0.mk ((by rw [hg]; exact (below_size (by repeat (first | (with_reducible first | exact HB.out | apply below_alloc | apply pw_below_drewN | apply below_drew1 | refine below_set ?_ GE122.out) | exact HB.out))) : w.heap.size ≤ gb129)); have n5_ := Aside0.mk ((by rw [hg]; exact Nat.ne_of_lt (blk_lt (g := gb122) (o := .cells #[.int .i64 a0_0, .string a0_1, .string a0_2, .slice A0_3 l0_3.length c0_3, .slice (some ad128) l0_4.length c0_4] 25 (0, 0)) (by (with_reducible repeat (first | refine blk_drewN ?_ _ | refine blk_drew ?_ | refine blk_alloc ?_ _)); exact BK122.out)) : gb122 ≠ gb129)); have n6_ := Aside0.mk ((by rw [hg]; exact Nat.ne_of_gt (blk_lt (g := gb122) (o := .cells #[.int .i64 a0_0, .string a0_1, .string a0_2, .slice A0_3 l0_3.length c0_3, .slice (some ad128) l0_4.length c0_4] 25 (0, 0)) (by (with_reducible repeat (first | refine blk_drewN ?_ _ | refine blk_drew ?_ | refine blk_alloc ?_ _)); exact BK122.out)) : gb129 ≠ gb122)); clear BK122; clear HB; have BK122 := n0_; have HB := n1_; have BK129 := n2_; have GW129 := n3_; have GE129 := n4_; have NB122_129 := n5_; have NB129_122 := n6_; clear n0_ n1_ n2_ n3_ n4_ n5_ n6_; clear hb hbox hg; have hnb52 := NB129_122.out; have hnc52 := NB122_129.out; have hcz53_0 : w51.cell? ⟨gb129, 0, none⟩ = some (.int .i64 0) := (blk_cell BK129.out 0).trans rfl; have hcz53_1 : w51.cell? ⟨gb129, 1, none⟩ = some (.string (⟨#[]⟩ : ByteArray)) := (blk_cell BK129.out 1).trans rfl; have hcz53_2 : w51.cell? ⟨gb129, 2, none⟩ = some (.string (⟨#[]⟩ : ByteArray)) := (blk_cell BK129.out 2).trans rfl; have hcz53_3 : w51.cell? ⟨gb129, 3, none⟩ = some (.slice none 0 0) := (blk_cell BK129.out 3).trans rfl; have hcz53_4 : w51.cell? ⟨gb129, 4, none⟩ = some (.slice none 0 0) := (blk_cell BK129.out 4).trans rfl; have hfz53_0 := blk_frozen BK129.out 0; have hfz53_1 := blk_frozen BK129.out 1; have hfz53_2 := blk_frozen BK129.out 2; have hfz53_3 := blk_frozen BK129.out 3; have hfz53_4 := blk_frozen BK129.out 4) | ((with_reducible refine gate_callee (f := 108) rfl ?_); refine goesL_ (some 71) rfl rfl Try.func108 (by kernel_rfl) rfl #[.agg #[.int .i64 ((rd_T25 l0_4 x65_1).f0), .string ((rd_T25 l0_4 x65_1).f1), .string ((rd_T25 l0_4 x65_1).f2), .slice A128_3 ((rd_T25 l0_4 x65_1).f3).length c128_3, .slice A128_4 ((rd_T25 l0_4 x65_1).f4).length c128_4], .slice A1 l1.length c1] rfl (by (try simp only [List.map_toArray, List.map_cons, List.map_nil]); first | done | rfl | (simp only [List.length_drop, List.length_take]; rfl)) ?_; (with_reducible refine (ih k1 (by have := HK1.out; omega) ((rd_T25 l0_4 x65_1).f0) ((rd_T25 l0_4 x65_1).f1) ((rd_T25 l0_4 x65_1).f2) _ _ ((rd_T25 l0_4 x65_1).f3) _ _ ((rd_T25 l0_4 x65_1).f4) _ _ l1 t130 _ ?side1 ?side2 ?side3 ?side4 ?side5 ?side6 A49.out).mono ?_); (case side1 => exact Kd.C_below HR128_3.out (by repeat (first | (with_reducible first | exact HB.out | apply below_alloc | apply pw_below_drewN | apply below_drew1 | refine below_set ?_ GE122.out | refine below_set ?_ GE129.out) | exact HB.out))); (case side2 => exact HC128_3.out); (case side3 => exact Kd.C_below HR128_4.out (by repeat (first | (with_reducible first | exact HB.out | apply below_alloc | apply pw_below_drewN | apply below_drew1 | refine below_set ?_ GE122.out | refine below_set ?_ GE129.out) | exact HB.out))); (case side4 => exact HC128_4.out); (case side5 => exact Kd.C_below HR1.out (by repeat (first | (with_reducible first | exact HB.out | apply below_alloc | apply pw_below_drewN | apply below_drew1 | refine below_set ?_ GE122.out | refine below_set ?_ GE129.out) | exact HB.out))); (case side6 => exact HC1.out); rintro e w54 ⟨rfl, hb⟩; refine ⟨_, rfl, ?_⟩; have n0_ := Aside0.mk (blk_below (g := gb122) (o := .cells #[.int .i64 a0_0, .string a0_1, .string a0_2, .slice A0_3 l0_3.length c0_3, .slice (some ad128) l0_4.length c0_4] 25 (0, 0)) (by (with_reducible repeat (first | refine blk_drewN ?_ _ | refine blk_drew ?_ | refine blk_alloc ?_ _)); refine blk_far ?_ NB122_129.out _; (with_reducible repeat (first | refine blk_drewN ?_ _ | refine blk_drew ?_ | refine blk_alloc ?_ _)); refine blk_far ?_ NB122_129.out _; (with_reducible repeat (first | refine blk_drewN ?_ _ | refine blk_drew ?_ | refine blk_alloc ?_ _)); refine blk_far ?_ NB122_129.out _; (with_reducible repeat (first | refine blk_drewN ?_ _ | refine blk_drew ?_ | refine blk_alloc ?_ _)); refine blk_far ?_ NB122_129.out _; (with_reducible repeat (first | refine blk_drewN ?_ _ | refine blk_drew ?_ | refine blk_alloc ?_ _)); refine blk_far ?_ NB122_129.out _; (with_reducible repeat (first | refine blk_drewN ?_ _ | refine blk_drew ?_ | refine blk_alloc ?_ _)); exact BK122.out) hb); have n1_ := Aside0.mk (blk_below (g := gb129) (o := .cells #[.int .i64 ((rd_T25 l0_4 x65_1).f0), .string ((rd_T25 l0_4 x65_1).f1), .string ((rd_T25 l0_4 x65_1).f2), .slice A128_3 ((rd_T25 l0_4 x65_1).f3).length c128_3, .slice A128_4 ((rd_T25 l0_4 x65_1).f4).length c128_4] 25 (0, 0)) (by (with_reducible repeat (first | refine blk_drewN ?_ _ | refine blk_drew ?_ | refine blk_alloc ?_ _)); refine blk_put (cs := #[.int .i64 ((rd_T25 l0_4 x65_1).f0), .string ((rd_T25 l0_4 x65_1).f1), .string ((rd_T25 l0_4 x65_1).f2), .slice A128_3 ((rd_T25 l0_4 x65_1).f3).length c128_3, .slice none 0 0]) ?_ 4 _ rfl; (with_reducible repeat (first | refine blk_drewN ?_ _ | refine blk_drew ?_ | refine blk_alloc ?_ _)); refine blk_put (cs := #[.int .i64 ((rd_T25 l0_4 x65_1).f0), .string ((rd_T25 l0_4 x65_1).f1), .string ((rd_T25 l0_4 x65_1).f2), .slice none 0 0, .slice none 0 0]) ?_ 3 _ rfl; (with_reducible repeat (first | refine blk_drewN ?_ _ | refine blk_drew ?_ | refine blk_alloc ?_ _)); refine blk_put (cs := #[.int .i64 ((rd_T25 l0_4 x65_1).f0), .string ((rd_T25 l0_4 x65_1).f1), .string (⟨#[]⟩ : ByteArray), .slice none 0 0, .slice none 0 0]) ?_ 2 _ rfl; (with_reducible repeat (first | refine blk_drewN ?_ _ | refine blk_drew ?_ | refine blk_alloc ?_ _)); refine blk_put (cs := #[.int .i64 ((rd_T25 l0_4 x65_1).f0), .string (⟨#[]⟩ : ByteArray), .string (⟨#[]⟩ : ByteArray), .slice none 0 0, .slice none 0 0]) ?_ 1 _ rfl; (with_reducible repeat (first | refine blk_drewN ?_ _ | refine blk_drew ?_ | refine blk_alloc ?_ _)); refine blk_put (cs := #[.int .i64 0, .string (⟨#[]⟩ : ByteArray), .string (⟨#[]⟩ : ByteArray), .slice none 0 0, .slice none 0 0]) ?_ 0 _ rfl; (with_reducible repeat (first | refine blk_drewN ?_ _ | refine blk_drew ?_ | refine blk_alloc ?_ _)); exact BK129.out) hb); have n2_ := Aside0.mk (below_step (by repeat (first | (with_reducible first | exact HB.out | apply below_alloc | apply pw_below_drewN | apply below_drew1 | refine below_set ?_ GE122.out | refine below_set ?_ GE129.out) | exact HB.out)) hb); clear BK122; clear BK129; clear HB; have BK122 := n0_; have BK129 := n1_; have HB := n2_; clear n0_ n1_ n2_; (try clear hb); (try clear hb2); (try clear hk); (try clear hi)))
             go_ret
             exact ⟨by first | rfl | (simp [errW_none, errW_some] <;> rfl) | (simp [*, errW_none, errW_some] <;> rfl), by repeat (first | (with_reducible first | exact HB.out | apply below_alloc | apply pw_below_drewN | apply below_drew1 | refine below_set ?_ GE122.out | refine below_set ?_ GE129.out) | exact HB.out)⟩
            ·rw [if_neg c50] at H
             have c50b0 : (t130 == (a0_0 == 6)) = false := by simpa using c50
             (try (have c50b1 : decide (t130 = (a0_0 == 6)) = false := by simpa using c50))
             (try (have c50b2 : (t130 == (a0_0 == 6)) = false := by simpa using c50))
             (try (have c50b3 : ¬ (t130 = (a0_0 == 6)) := by simpa using c50))
             clear c50
             have H' := Aside0.mk H
             clear H
             have p128 : 0 ≤ (x65_1 : Int) := of_decide_eq_true (by first | (with_reducible assumption) | assumption)
             have q128 : x65_1 < (l0_4.length : Int) := of_decide_eq_true (by first | (with_reducible assumption) | assumption)
             obtain ⟨ad128, A128_3, c128_3, A128_4, c128_4, e128, hx128_0, hx128_1, hx128_2, hx128_3, hx128_4, hl128_3, hi128_3, hl128_4, hi128_4⟩ := at_T25 HR0_4.out x65_1 p128 q128
             cases e128
             replace hx128_0 := (HB.out.cell (World.block_lt_of_cell? w _ hx128_0)).trans hx128_0
             replace hx128_1 := (HB.out.cell (World.block_lt_of_cell? w _ hx128_1)).trans hx128_1
             replace hx128_2 := (HB.out.cell (World.block_lt_of_cell? w _ hx128_2)).trans hx128_2
             replace hx128_3 := (HB.out.cell (World.block_lt_of_cell? w _ hx128_3)).trans hx128_3
             replace hx128_4 := (HB.out.cell (World.block_lt_of_cell? w _ hx128_4)).trans hx128_4
             have HR128_3 := Aside0.mk hi128_3
             have HC128_3 := Aside0.mk hl128_3
             clear hi128_3 hl128_3
             have HR128_4 := Aside0.mk hi128_4
             have HC128_4 := Aside0.mk hl128_4
             clear hi128_4 hl128_4
             replace p128 := eq_true p128
             replace q128 := eq_true q128
             go_wp2_with (first | ((with_reducible refine gate_dst (N := 10) rfl ?_); refine box_event ?hg (N := 10) ?hd (cs := #[.int .i64 0, .string (⟨#[]⟩ : ByteArray), .string (⟨#[]⟩ : ByteArray), .slice none 0 0, .slice none 0 0]) (t := 25) ?hr ?_; (case hd => rfl); (case hg => rfl); (case hr => first | (go_simp; done) | (go_simp; rfl)); intro gb129 hg w55 hbox hb; have n0_ := Aside0.mk (blk_below (g := gb122) (o := .cells #[.int .i64 a0_0, .string a0_1, .string a0_2, .slice A0_3 l0_3.length c0_3, .slice (some ad128) l0_4.length c0_4] 25 (0, 0)) (by (with_reducible repeat (first | refine blk_drewN ?_ _ | refine blk_drew ?_ | refine blk_alloc ?_ _)); exact BK122.out) hb); have n1_ := Aside0.mk (below_step (by repeat (first | (with_reducible first | exact HB.out | apply below_alloc | apply pw_below_drewN | apply below_drew1 | refine below_set ?_ GE122.out) | exact HB.out)) hb); have n2_ := Aside0.mk (hbox); have n3_ := Aside0.mk ((by rw [hg]; exact (below_size (by repeat (first | (with_reducible first | exact HB.out | apply below_alloc | apply pw_below_drewN | apply below_drew1 | refine below_set ?_ GE122.out) | exact HB.out))) : w.heap.size ≤ gb129)); have n4_ := Aside0.mk ((by rw [hg]; exact (below_size (by repeat (first | (with_reducible first | exact HB.out | apply below_alloc | apply pw_below_drewN | apply below_drew1 | refine below_set ?_ GE122.out) | exact HB.out))) : w.heap.size ≤ gb129)); have n5_ := Aside0.mk ((by rw [hg]; exact Nat.ne_of_lt (blk_lt (g := gb122) (o := .cells #[.int .i64 a0_0, .string a0_1, .string a0_2, .slice A0_3 l0_3.length c0_3, .slice (some ad128) l0_4.length c0_4] 25 (0, 0)) (by (with_reducible repeat (first | refine blk_drewN ?_ _ | refine blk_drew ?_ | refine blk_alloc ?_ _)); exact BK122.out)) : gb122 ≠ gb129)); have n6_ := Aside0.mk ((by rw [hg]; exact Nat.ne_of_gt (blk_lt (g := gb122) (o := .cells #[.int .i64 a0_0, .string a0_1, .string a0_2, .slice A0_3 l0_3.length c0_3, .slice (some ad128) l0_4.length c0_4] 25 (0, 0)) (by (with_reducible repeat (first | refine blk_drewN ?_ _ | refine blk_drew ?_ | refine blk_alloc ?_ _)); exact BK122.out)) : gb129 ≠ gb122)); clear BK122; clear HB; have BK122 := n0_; have HB := n1_; have BK129 := n2_; have GW129 := n3_; have GE129 := n4_; have NB122_129 := n5_; have NB129_122 := n6_; clear n0_ n1_ n2_ n3_ n4_ n5_ n6_; clear hb hbox hg; have hnb56 := NB129_122.out; have hnc56 := NB122_129.out; have hcz57_0 : w55.cell? ⟨gb129, 0, none⟩ = some (.int .i64 0) := (blk_cell BK129.out 0).trans rfl; have hcz57_1 : w55.cell? ⟨gb129, 1, none⟩ = some (.string (⟨#[]⟩ : ByteArray)) := (blk_cell BK129.out 1).trans rfl; have hcz57_2 : w55.cell? ⟨gb129, 2, none⟩ = some (.string (⟨#[]⟩ : ByteArray)) := (blk_cell BK129.out 2).trans rfl; have hcz57_3 : w55.cell? ⟨gb129, 3, none⟩ = some (.slice none 0 0) := (blk_cell BK129.out 3).trans rfl; have hcz57_4 : w55.cell? ⟨gb129, 4, none⟩ = some (.slice none 0 0) := (blk_cell BK129.out 4).trans rfl; have hfz57_0 := blk_frozen BK129.out 0; have hfz57_1 := blk_frozen BK129.out 1; have hfz57_2 := blk_frozen BK129.out 2; have hfz57_3 := blk_frozen BK129.out 3; have hfz57_4 := blk_frozen BK129.out 4) | ((with_reducible refine gate_callee (f := 108) rfl ?_); refine goesL_ (some 71) rfl rfl Try.func108 (by kernel_rfl) rfl #[.agg #[.int .i64 ((rd_T25 l0_4 x65_1).f0), .string ((rd_T25 l0_4 x65_1).f1), .string ((rd_T25 l0_4 x65_1).f2), .slice A128_3 ((rd_T25 l0_4 x65_1).f3).length c128_3, .slice A128_4 ((rd_T25 l0_4 x65_1).f4).length c128_4], .slice A1 l1.length c1] rfl (by (try simp only [List.map_toArray, List.map_cons, List.map_nil]); first | done | rfl | (simp only [List.length_drop, List.length_take]; rfl)) ?_; (with_reducible refine (ih k1 (by have := HK1.out; omega) ((rd_T25 l0_4 x65_1).f0) ((rd_T25 l0_4 x65_1).f1) ((rd_T25 l0_4 x65_1).f2) _ _ ((rd_T25 l0_4 x65_1).f3) _ _ ((rd_T25 l0_4 x65_1).f4) _ _ l1 t130 _ ?side1 ?side2 ?side3 ?side4 ?side5 ?side6 A49.out).mono ?_); (case side1 => exact Kd.C_below HR128_3.out (by repeat (first | (with_reducible first | exact HB.out | apply below_alloc | apply pw_below_drewN | apply below_drew1 | refine below_set ?_ GE122.out | refine below_set ?_ GE129.out) | exact HB.out))); (case side2 => exact HC128_3.out); (case side3 => exact Kd.C_below HR128_4.out (by repeat (first | (with_reducible first | exact HB.out | apply below_alloc | apply pw_below_drewN | apply below_drew1 | refine below_set ?_ GE122.out | refine below_set ?_ GE129.out) | exact HB.out))); (case side4 => exact HC128_4.out); (case side5 => exact Kd.C_below HR1.out (by repeat (first | (with_reducible first | exact HB.out | apply below_alloc | apply pw_below_drewN | apply below_drew1 | refine below_set ?_ GE122.out | refine below_set ?_ GE129.out) | exact HB.out))); (case side6 => exact HC1.out); rintro e w58 ⟨rfl, hb⟩; refine ⟨_, rfl, ?_⟩; have n0_ := Aside0.mk (blk_below (g := gb122) (o := .cells #[.int .i64 a0_0, .string a0_1, .string a0_2, .slice A0_3 l0_3.length c0_3, .slice (some ad128) l0_4.length c0_4] 25 (0, 0)) (by (with_reducible repeat (first | refine blk_drewN ?_ _ | refine blk_drew ?_ | refine blk_alloc ?_ _)); refine blk_far ?_ NB122_129.out _; (with_reducible repeat (first | refine blk_drewN ?_ _ | refine blk_drew ?_ | refine blk_alloc ?_ _)); refine blk_far ?_ NB122_129.out _; (with_reducible repeat (first | refine blk_drewN ?_ _ | refine blk_drew ?_ | refine blk_alloc ?_ _)); refine blk_far ?_ NB122_129.out _; (with_reducible repeat (first | refine blk_drewN ?_ _ | refine blk_drew ?_ | refine blk_alloc ?_ _)); refine blk_far ?_ NB122_129.out _; (with_reducible repeat (first | refine blk_drewN ?_ _ | refine blk_drew ?_ | refine blk_alloc ?_ _)); refine blk_far ?_ NB122_129.out _; (with_reducible repeat (first | refine blk_drewN ?_ _ | refine blk_drew ?_ | refine blk_alloc ?_ _)); exact BK122.out) hb); have n1_ := Aside0.mk (blk_below (g := gb129) (o := .cells #[.int .i64 ((rd_T25 l0_4 x65_1).f0), .string ((rd_T25 l0_4 x65_1).f1), .string ((rd_T25 l0_4 x65_1).f2), .slice A128_3 ((rd_T25 l0_4 x65_1).f3).length c128_3, .slice A128_4 ((rd_T25 l0_4 x65_1).f4).length c128_4] 25 (0, 0)) (by (with_reducible repeat (first | refine blk_drewN ?_ _ | refine blk_drew ?_ | refine blk_alloc ?_ _)); refine blk_put (cs := #[.int .i64 ((rd_T25 l0_4 x65_1).f0), .string ((rd_T25 l0_4 x65_1).f1), .string ((rd_T25 l0_4 x65_1).f2), .slice A128_3 ((rd_T25 l0_4 x65_1).f3).length c128_3, .slice none 0 0]) ?_ 4 _ rfl; (with_reducible repeat (first | refine blk_drewN ?_ _ | refine blk_drew ?_ | refine blk_alloc ?_ _)); refine blk_put (cs := #[.int .i64 ((rd_T25 l0_4 x65_1).f0), .string ((rd_T25 l0_4 x65_1).f1), .string ((rd_T25 l0_4 x65_1).f2), .slice none 0 0, .slice none 0 0]) ?_ 3 _ rfl; (with_reducible repeat (first | refine blk_drewN ?_ _ | refine blk_drew ?_ | refine blk_alloc ?_ _)); refine blk_put (cs := #[.int .i64 ((rd_T25 l0_4 x65_1).f0), .string ((rd_T25 l0_4 x65_1).f1), .string (⟨#[]⟩ : ByteArray), .slice none 0 0, .slice none 0 0]) ?_ 2 _ rfl; (with_reducible repeat (first | refine blk_drewN ?_ _ | refine blk_drew ?_ | refine blk_alloc ?_ _)); refine blk_put (cs := #[.int .i64 ((rd_T25 l0_4 x65_1).f0), .string (⟨#[]⟩ : ByteArray), .string (⟨#[]⟩ : ByteArray), .slice none 0 0, .slice none 0 0]) ?_ 1 _ rfl; (with_reducible repeat (first | refine blk_drewN ?_ _ | refine blk_drew ?_ | refine blk_alloc ?_ _)); refine blk_put (cs := #[.int .i64 0, .string (⟨#[]⟩ : ByteArray), .string (⟨#[]⟩ : ByteArray), .slice none 0 0, .slice none 0 0]) ?_ 0 _ rfl; (with_reducible repeat (first | refine blk_drewN ?_ _ | refine blk_drew ?_ | refine blk_alloc ?_ _)); exact BK129.out) hb); have n2_ := Aside0.mk (below_step (by repeat (first | (with_reducible first | exact HB.out | apply below_alloc | apply pw_below_drewN | apply below_drew1 | refine below_set ?_ GE122.out | refine below_set ?_ GE129.out) | exact HB.out)) hb); clear BK122; clear BK129; clear HB; have BK122 := n0_; have BK129 := n1_; have HB := n2_; clear n0_ n1_ n2_; (try clear hb); (try clear hb2); (try clear hk); (try clear hi)))
             go_roundg k1
             case measure => have := HK1.out; omega
             case rel => exact ⟨(wrap64 (x65_1 + 1)), (by first | rfl | (simp; done) | (simp [*]; done)), H', ⟨by have := HK1.out; omega⟩, ⟨by (with_reducible repeat (first | refine blk_drewN ?_ _ | refine blk_drew ?_ | refine blk_alloc ?_ _)); exact BK122.out⟩, ⟨by repeat (first | (with_reducible first | exact HB.out | apply below_alloc | apply pw_below_drewN | apply below_drew1 | refine below_set ?_ GE122.out | refine below_set ?_ GE129.out) | exact HB.out)⟩⟩
           ·rw [if_neg c48] at H
            exact absurd H (by simp)
          ·rw [if_neg c47] at H
           exact absurd H (by simp)
         ·rw [if_neg c46] at H
          have c46b0 : decide (x65_1 < (l0_4.length : Int)) = false := decide_eq_false c46
          clear c46
          obtain rfl := Option.some.inj H
          go_wp2
          go_ret
          exact ⟨by first | rfl | (simp [errW_none, errW_some] <;> rfl) | (simp [*, errW_none, errW_some] <;> rfl), by repeat (first | (with_reducible first | exact HB.out | apply below_alloc | apply pw_below_drewN | apply below_drew1 | refine below_set ?_ GE122.out) | exact HB.out)⟩

-- NOT PRINTED: function 55 (match_Eval)

-- NOT PRINTED: function 37 (tomb_Covers)
end Go.Proofs.Yteafilojjdfllaa.PAll
end
section
namespace Go.Proofs.Yteafilojjdfllaa
open Go Go.RowKit Go.Proofs.YteafilojjdfllaaW.PrintWords Go.Proofs.Yteafilojjdfllaa.PAll
/-- a name's value -/
def valueL (n : ByteArray) : List S68 → ByteArray
 | [] => ⟨#[]⟩
 | x :: l => if x.f0.toList = n.toList then x.f1 else valueL n l
def prefB (t v : ByteArray) : Bool := decide (v.size ≤ t.size) && ((t.extract 0 v.size).toList == v.toList)
mutual
def evalM (l : List S68) : S25 → Bool
 | ⟨op, n, v, vs, ks⟩ =>
  if op = 0 then true else if op = 1 then (valueL n l).toList == v.toList else if op = 2 then (valueL n l).toList != v.toList
  else if op = 3 then prefB (valueL n l) v else if op = 4 then vs.any (fun u => decide (u.toList = (valueL n l).toList))
  else if op = 7 then !(evalF l ks) else evalL l (op == 6) ks
/-- the first kid -/
def evalF (l : List S68) : List S25 → Bool
 | [] => false
 | k :: _ => evalM l k
def evalL (l : List S68) (dec : Bool) : List S25 → Bool
 | [] => !dec
 | k :: ks => if evalM l k == dec then dec else evalL l dec ks
end
theorem ldrop (l : List S68) (i : Nat) (h : i < l.length) : l.drop i = l.getD i z68 :: l.drop (i + 1) := by
 rw [List.drop_eq_getElem_cons h, List.getD_eq_getElem?_getD, List.getElem?_eq_getElem h, Option.getD_some]
theorem rdT68_nat (l : List S68) (i : Nat) : rd_T68 l (i : Int) = l.getD i z68 := by simp [rd_T68]
theorem rdT25_nat (l : List S25) (i : Nat) : rd_T25 l (i : Int) = l.getD i z25 := by simp [rd_T25]
theorem kdrop (l : List S25) (i : Nat) (h : i < l.length) : l.drop i = l.getD i z25 :: l.drop (i + 1) := by
 rw [List.drop_eq_getElem_cons h, List.getD_eq_getElem?_getD, List.getElem?_eq_getElem h, Option.getD_some]
theorem value_l0 (l : List S68) (n : ByteArray) (hl : l.length ≤ 4000000000000000000) : ∀ (d i k : Nat), i ≤ l.length → l.length ≤ i + d → d < k → label_Value.l0 k n l (l.length : Int) (i : Int) = some (valueL n (l.drop i))
 | d, i, 0, _, _, h => by omega
 | d, i, k + 1, hi, hd, hk => by
  simp only [label_Value.l0, w64s i (by omega), rdT68_nat]
  by_cases hlt : i < l.length
  ·have ih := value_l0 l n hl (d - 1) (i + 1) k (by omega) (by omega) (by omega)
   rw [if_pos (by omega), if_pos (by omega), if_pos (by omega), ldrop l i hlt, valueL, ih]
   split <;> rfl
  ·rw [if_neg (by omega), List.drop_of_length_le (by omega), valueL]
theorem label_Value.val (l : List S68) (n : ByteArray) (hl : l.length ≤ 4000000000000000000) (k : Nat) (hk : l.length < k) : label_Value.f k l n = some (valueL n l) := by
 have := value_l0 l n hl l.length 0 k (by omega) (by omega) hk
 simpa [label_Value.f] using this
theorem any_l0 (x : ByteArray) (vs : List ByteArray) (hl : vs.length ≤ 1000) : ∀ (d i k : Nat), i ≤ vs.length → vs.length ≤ i + d → d < k → match_eval.l0 k x vs (vs.length : Int) (i : Int) = some ((vs.drop i).any (fun u => decide (u.toList = x.toList)))
 | d, i, 0, _, _, h => by omega
 | d, i, k + 1, hi, hd, hk => by
  simp only [match_eval.l0, w64s i (by omega), rdOf_nat]
  by_cases hlt : i < vs.length
  ·have ih := any_l0 x vs hl (d - 1) (i + 1) k (by omega) (by omega) (by omega)
   rw [if_pos (by omega), if_pos (by omega), if_pos (by omega), vdrop vs i hlt, List.any_cons, ih]
   by_cases e : (vs.getD i ByteArray.empty).toList = x.toList
   ·rw [if_pos e, decide_eq_true e, Bool.true_or]
   ·rw [if_neg e, decide_eq_false e, Bool.false_or]
  ·rw [if_neg (by omega), List.drop_of_length_le (by omega)]; rfl
theorem ok_vals {m : S25} (h : aloneB m = true) (h4 : m.f0 = 4) : m.f3.length ≤ 16 := by
 unfold aloneB at h
 rw [if_neg (by omega), if_neg (by omega), if_pos h4] at h
 simp only [Bool.and_eq_true] at h
 have := h.2
 unfold valuesB at this
 rw [Bool.and_eq_true, Bool.and_eq_true] at this
 exact (of_decide_eq_true this.1.1).2
theorem ok_kids {m : S25} (h : aloneB m = true) (h7 : m.f0 = 7) : m.f4.length = 1 := by
 unfold aloneB at h
 rw [if_neg (by omega), if_neg (by omega), if_neg (by omega), if_neg (by omega), if_pos h7] at h
 rw [Bool.and_eq_true] at h
 exact of_decide_eq_true h.2
theorem prefix_val (t v : ByteArray) : strings_HasPrefix.f t v = some (prefB t v) := by
 unfold strings_HasPrefix.f stringslite_HasPrefix.f prefB
 by_cases h : v.size ≤ t.size
 ·rw [if_pos (by omega), if_pos (by omega), if_pos (by omega), decide_eq_true h]
  simp
 ·rw [if_neg (by omega), decide_eq_false h]
  simp
theorem eval_kids (l : List S68) (dec : Bool) (ks : List S25) (hks : ks.length ≤ 1000) (F : Nat) (h : ∀ j, j < ks.length → ∀ k, F + 2 * nodesM (ks.getD j z25) ≤ k → match_eval.f k (ks.getD j z25).f0 (ks.getD j z25).f1 (ks.getD j z25).f2 (ks.getD j z25).f3 (ks.getD j z25).f4 l = some (evalM l (ks.getD j z25))) :
  ∀ (d i k : Nat), i ≤ ks.length → ks.length ≤ i + d → F + 2 * nodesL (ks.drop i) + 1 ≤ k → match_eval.l1 k l dec ks (ks.length : Int) (i : Int) = some (evalL l dec (ks.drop i))
 | d, i, 0, _, _, hk => by omega
 | d, i, k + 1, hi, hd, hk => by
  simp only [match_eval.l1, w64s i (by omega), rdT25_nat]
  by_cases hlt : i < ks.length
  ·rw [kdrop ks i hlt, nodesL] at hk
   have hp : 1 ≤ nodesM (ks.getD i z25) := by rw [nodesM_mk]; omega
   have ih := eval_kids l dec ks hks F h (d - 1) (i + 1) k (by omega) (by omega) (by omega)
   rw [if_pos (by omega), if_pos (by omega), if_pos (by omega), h i hlt k (by omega), Option.bind_some, kdrop ks i hlt, evalL, ih]
   cases evalM l (ks.getD i z25) <;> cases dec <;> rfl
  ·rw [if_neg (by omega), List.drop_of_length_le (by omega), evalL]
theorem okL_at : ∀ {ks : List S25} {j : Nat}, okL ks = true → j < ks.length → okM (ks.getD j z25) = true
 | k :: ks, 0, h, _ => by simp only [okL, Bool.and_eq_true] at h; exact h.1
 | k :: ks, j + 1, h, hj => by
  simp only [okL, Bool.and_eq_true] at h
  have := okL_at (j := j) h.2 (by simpa using hj)
  simpa using this
theorem lenL_nodes : ∀ (ks : List S25), ks.length ≤ nodesL ks
 | [] => by simp
 | k :: ks => by have := lenL_nodes ks; have h2 := nodesM_mk k; simp only [List.length_cons, nodesL]; omega
theorem eval_val (l : List S68) (hl : l.length ≤ 4000000000000000000) : ∀ (N : Nat) (m : S25), nodesM m ≤ N → nodesM m ≤ 1000 → okM m = true → ∀ k, l.length + 30 + 2 * nodesM m ≤ k → match_eval.f k m.f0 m.f1 m.f2 m.f3 m.f4 l = some (evalM l m) := by
 intro N
 induction N with
 | zero => intro m h; rw [nodesM_mk] at h; omega
 | succ N ih =>
  rintro ⟨op, n, v, vs, ks⟩ hN h1000 hok k hk
  obtain ⟨k, rfl⟩ : ∃ q, k = q + 1 := ⟨k - 1, by omega⟩
  rw [okM_mk, Bool.and_eq_true] at hok
  obtain ⟨ha, hks⟩ := hok
  have hn := nodesM_mk ⟨op, n, v, vs, ks⟩
  have hlk := lenL_nodes ks
  simp only at hn hks hlk ⊢
  have hkid : ∀ j, j < ks.length → ∀ k, l.length + 30 + 2 * nodesM (ks.getD j z25) ≤ k → match_eval.f k (ks.getD j z25).f0 (ks.getD j z25).f1 (ks.getD j z25).f2 (ks.getD j z25).f3 (ks.getD j z25).f4 l = some (evalM l (ks.getD j z25)) := fun j hj k hk => by
   have hmem : ks.getD j z25 ∈ ks := by simp [List.getD_eq_getElem?_getD, hj]
   have := nodes_lt ⟨op, n, v, vs, ks⟩ _ hmem
   exact ih _ (by omega) (by omega) (okL_at hks hj) k hk
  simp only [match_eval.f, label_Value.val l n hl k (by omega), Option.bind_some]
  unfold evalM
  by_cases e0 : op = 0
  ·rw [if_pos e0, if_pos e0]
  rw [if_neg e0, if_neg e0]
  by_cases e1 : op = 1
  ·rw [if_pos e1, if_pos e1]
  rw [if_neg e1, if_neg e1]
  by_cases e2 : op = 2
  ·rw [if_pos e2, if_pos e2]
  rw [if_neg e2, if_neg e2]
  by_cases e3 : op = 3
  ·rw [if_pos e3, if_pos e3, prefix_val, Option.bind_some]
  rw [if_neg e3, if_neg e3]
  by_cases e4 : op = 4
  ·rw [if_pos e4, if_pos e4]
   have h16 := ok_vals ha e4
   simp only at h16
   have := any_l0 (valueL n l) vs (by omega) vs.length 0 k (by omega) (by omega) (by omega)
   simpa using this
  rw [if_neg e4, if_neg e4]
  by_cases e7 : op = 7
  ·rw [if_pos e7, if_pos e7]
   have h1 := ok_kids ha e7
   simp only at h1
   have hk0 := hkid 0 (by omega)
   obtain ⟨kid, rfl⟩ : ∃ kid, ks = [kid] := by
    match ks, h1 with
    | [kid], _ => exact ⟨kid, rfl⟩
   simp only [List.length_singleton]
   have hr : rd_T25 [kid] 0 = kid := by simp [rd_T25]
   simp only [List.getD_cons_zero] at hk0
   rw [if_pos (by omega), hr, hk0 k (by simp only [nodesL] at hn; omega), Option.bind_some]
   rfl
  rw [if_neg e7, if_neg e7]
  have := eval_kids l (op == 6) ks (by omega) (l.length + 30) hkid ks.length 0 k (by omega) (by omega) (by rw [List.drop_zero]; omega)
  simpa using this
theorem eval108 (w : World) (m : S25) (A3 : Option Addr) (c3 : Nat) (A4 : Option Addr) (c4 : Nat) (A1 : Option Addr) (c1 : Nat) (l : List S68) (v : Bool) (hv : evalM l m = v) (h1000 : nodesM m ≤ 1000) (hok : okM m = true) (hl : l.length ≤ 4000000000000000000)
  (h3 : m.f3.length ≤ c3) (g3 : Kd.C Kd.string w A3 m.f3.length m.f3) (h4 : m.f4.length ≤ c4) (g4 : Kd.C k25 w A4 m.f4.length m.f4) (h1 : l.length ≤ c1) (g1 : Kd.C k68 w A1 l.length l) :
  Calls Try.prog 108 #[.agg #[.int .i64 m.f0, .string m.f1, .string m.f2, .slice A3 m.f3.length c3, .slice A4 m.f4.length c4], .slice A1 l.length c1] w fun e w' => e = .returned (.bool v) ∧ Below w.heap.size w w' :=
 match_eval.calls (l.length + 30 + 2 * nodesM m) m.f0 m.f1 m.f2 A3 c3 m.f3 A4 c4 m.f4 A1 c1 l v w g3 h3 g4 h4 g1 h1 (hv ▸ eval_val l hl _ m (Nat.le_refl _) h1000 hok _ (Nat.le_refl _))
end Go.Proofs.Yteafilojjdfllaa
end
section
namespace Go.Proofs.Yteafilojjdfllaa
open Go Go.Proofs.Yteafilojjdfllaa.PAll
/-- a digit's byte -/
def hexD (n : Nat) : UInt8 := if n < 10 then (48 + n).toUInt8 else (87 + n).toUInt8
/-- a byte between quotes -/
def encB (c : UInt8) : List UInt8 :=
 if c = 34 ∨ c = 92 then [92, c] else if c.toNat < 32 ∨ 127 ≤ c.toNat then [92, 120, hexD (c.toNat / 16), hexD (c.toNat % 16)] else [c]
/-- a value between quotes -/
def quoteL (l : List UInt8) : List UInt8 := 34 :: (l.flatMap encB ++ [34])
/-- with commas between -/
def commas : List (List UInt8) → List UInt8
 | [] => []
 | [x] => x
 | x :: y :: r => x ++ 44 :: commas (y :: r)
theorem commas_join (l : List (List UInt8)) : Lib.join l [44] = commas l := by
 match l with
 | [] => rfl
 | [x] => rw [Lib.join_one]; rfl
 | x :: y :: r =>
  have h := commas_join (y :: r)
  rw [Lib.join_cons] at h ⊢
  rw [commas, ← h]
  simp [Lib.joinTail]
/-- a text's own bytes -/
def quoteT (v : ByteArray) : List UInt8 := quoteL v.data.toList
theorem nameB_all {n : ByteArray} (h : nameB n = true) : n.data.toList.all nameC = true := by
 unfold nameB at h
 rw [Bool.and_eq_true] at h
 exact h.2
theorem nameB_cons {n : ByteArray} (h : nameB n = true) : ∃ c r, n.data.toList = c :: r ∧ nameC c = true := by
 have h2 := nameB_all h
 unfold nameB at h
 rw [Bool.and_eq_true, decide_eq_true_iff] at h
 have h1 : 1 ≤ n.data.toList.length := h.1.1
 match hl : n.data.toList, h1 with
 | c :: r, _ =>
  rw [hl, List.all_cons, Bool.and_eq_true] at h2
  exact ⟨c, r, rfl, h2.1⟩
theorem ba_nil {b : ByteArray} (h : b.toList = []) : b = ⟨#[]⟩ := by
 rw [ByteArray.toList_eq] at h
 cases b
 simp only at h
 rw [Array.toList_eq_nil_iff.1 h]
theorem len_nil {α : Type} {l : List α} (h : l.length = 0) : l = [] := List.length_eq_zero_iff.1 h
theorem encB_len (c : UInt8) : (encB c).length ≤ 4 := by
 unfold encB
 split
 ·simp
 ·split <;> simp
theorem encs_len : ∀ (l : List UInt8), (l.flatMap encB).length ≤ 4 * l.length
 | [] => by simp
 | c :: l => by have := encB_len c; have := encs_len l; simp only [List.flatMap_cons, List.length_append, List.length_cons]; omega
theorem quoteT_len (v : ByteArray) : (quoteT v).length ≤ 4 * v.size + 2 := by
 have h := encs_len v.data.toList
 have e : v.data.toList.length = v.size := by simp
 unfold quoteT quoteL
 simp only [List.length_cons, List.length_append, List.length_nil]
 omega
theorem commas_len : ∀ (l : List (List UInt8)), (commas l).length ≤ (l.map (fun x => x.length + 1)).sum
 | [] => by simp [commas]
 | [x] => by simp [commas]
 | x :: y :: r => by
  have := commas_len (y :: r)
  simp only [commas, List.length_append, List.length_cons, List.map_cons, List.sum_cons] at this ⊢
  omega
/-- what a matcher that may be looks like -/
theorem shape {m : S25} (h : okM m = true) :
  m = ⟨0, ⟨#[]⟩, ⟨#[]⟩, [], []⟩ ∨ (∃ op n v, (op = 1 ∨ op = 2 ∨ op = 3) ∧ nameB n = true ∧ m = ⟨op, n, v, [], []⟩) ∨ (∃ n vs, nameB n = true ∧ m = ⟨4, n, ⟨#[]⟩, vs, []⟩) ∨
   (∃ op ks, (op = 5 ∨ op = 6 ∨ op = 7) ∧ okL ks = true ∧ m = ⟨op, ⟨#[]⟩, ⟨#[]⟩, [], ks⟩) := by
 obtain ⟨op, n, v, vs, ks⟩ := m
 rw [okM_mk, Bool.and_eq_true] at h
 obtain ⟨h, hk⟩ := h
 simp only at hk
 unfold aloneB plainB at h
 by_cases e0 : op = 0
 ·rw [if_pos e0] at h
  simp only [Bool.and_eq_true, decide_eq_true_iff] at h
  obtain ⟨⟨h1, h2, h3⟩, h4⟩ := h
  left
  rw [e0, ba_nil h1, ba_nil h2, len_nil h3, len_nil h4]
 rw [if_neg e0] at h
 right
 by_cases e1 : op = 1 ∨ op = 2 ∨ op = 3
 ·rw [if_pos e1] at h
  simp only [Bool.and_eq_true, decide_eq_true_iff] at h
  obtain ⟨h1, _, h2, h3⟩ := h
  exact Or.inl ⟨op, n, v, e1, h1, by rw [len_nil h3, len_nil h2]⟩
 rw [if_neg e1] at h
 right
 by_cases e4 : op = 4
 ·rw [if_pos e4] at h
  simp only [Bool.and_eq_true, decide_eq_true_iff] at h
  obtain ⟨⟨h1, h2, h3⟩, h4⟩ := h
  exact Or.inl ⟨n, vs, h1, by rw [e4, ba_nil h3, len_nil h2]⟩
 rw [if_neg e4] at h
 right
 by_cases e5 : op = 5 ∨ op = 6
 ·rw [if_pos e5] at h
  simp only [decide_eq_true_iff] at h
  obtain ⟨h1, h2, h3⟩ := h
  exact ⟨op, ks, by omega, hk, by rw [ba_nil h1, ba_nil h2, len_nil h3]⟩
 rw [if_neg e5] at h
 by_cases e7 : op = 7
 ·rw [if_pos e7] at h
  simp only [Bool.and_eq_true, decide_eq_true_iff] at h
  obtain ⟨⟨h1, h2, h3⟩, h4⟩ := h
  exact ⟨op, ks, by omega, hk, by rw [ba_nil h1, ba_nil h2, len_nil h3]⟩
 rw [if_neg e7] at h
 cases h
theorem okL_mem : ∀ {ks : List S25} {k : S25}, okL ks = true → k ∈ ks → okM k = true
 | x :: ks, k, h, hk => by
  simp only [okL, Bool.and_eq_true] at h
  rcases List.mem_cons.1 hk with rfl | hk
  ·exact h.1
  ·exact okL_mem h.2 hk
end Go.Proofs.Yteafilojjdfllaa
end
section
namespace Go.Proofs.Yteafilojjdfllaa
open Go Go.Proofs.Yteafilojjdfllaa.PAll
mutual
/-- a matcher as a text -/
def textM : S25 → List UInt8
 | ⟨op, n, v, vs, ks⟩ =>
  if op = 0 then [42] else if op = 1 then n.data.toList ++ 61 :: quoteT v else if op = 2 then n.data.toList ++ 33 :: 61 :: quoteT v
  else if op = 3 then n.data.toList ++ 94 :: 61 :: quoteT v else if op = 4 then n.data.toList ++ 64 :: 40 :: (commas (vs.map quoteT) ++ [41])
  else (if op = 5 then 38 else if op = 6 then 124 else 33) :: 40 :: (commas (textsM ks) ++ [41])
def textsM : List S25 → List (List UInt8)
 | [] => []
 | k :: ks => textM k :: textsM ks
end
theorem textsM_map : ∀ (ks : List S25), textsM ks = ks.map textM
 | [] => rfl
 | k :: ks => by rw [textsM, textsM_map ks, List.map_cons]
theorem textM_mk (m : S25) : textM m = if m.f0 = 0 then [42] else if m.f0 = 1 then m.f1.data.toList ++ 61 :: quoteT m.f2 else if m.f0 = 2 then m.f1.data.toList ++ 33 :: 61 :: quoteT m.f2
  else if m.f0 = 3 then m.f1.data.toList ++ 94 :: 61 :: quoteT m.f2 else if m.f0 = 4 then m.f1.data.toList ++ 64 :: 40 :: (commas (m.f3.map quoteT) ++ [41])
  else (if m.f0 = 5 then 38 else if m.f0 = 6 then 124 else 33) :: 40 :: (commas (m.f4.map textM) ++ [41]) := by
 cases m; simp only [textM, textsM_map]
/-- the sign behind a name, and the rest -/
def textN (op : Int) (v : ByteArray) (vs : List ByteArray) : UInt8 × List UInt8 :=
 if op = 1 then (61, quoteT v) else if op = 2 then (33, 61 :: quoteT v) else if op = 3 then (94, 61 :: quoteT v) else (64, 40 :: (commas (vs.map quoteT) ++ [41]))
theorem text_0 : textM ⟨0, ⟨#[]⟩, ⟨#[]⟩, [], []⟩ = [42] := rfl
theorem text_n {op : Int} {n v : ByteArray} {vs : List ByteArray} (h : op = 1 ∨ op = 2 ∨ op = 3 ∨ op = 4) : textM ⟨op, n, v, vs, []⟩ = n.data.toList ++ (textN op v vs).1 :: (textN op v vs).2 := by
 rcases h with rfl | rfl | rfl | rfl <;> rfl
theorem text_k {op : Int} {ks : List S25} (h : op = 5 ∨ op = 6 ∨ op = 7) : textM ⟨op, ⟨#[]⟩, ⟨#[]⟩, [], ks⟩ = (if op = 5 then 38 else if op = 6 then 124 else 33) :: 40 :: (commas (ks.map textM) ++ [41]) := by
 rw [textM_mk]
 rcases h with rfl | rfl | rfl <;> rfl
theorem text_head {m : S25} (h : okM m = true) : ∃ c r, textM m = c :: r ∧ c ≠ 41 := by
 rcases shape h with rfl | ⟨op, n, v, ho, hn, rfl⟩ | ⟨n, vs, hn, rfl⟩ | ⟨op, ks, ho, hk, rfl⟩
 ·exact ⟨42, [], rfl, by decide⟩
 ·obtain ⟨c, r, e, hc⟩ := nameB_cons hn
  rw [text_n (by omega), e]
  exact ⟨c, _, rfl, fun h => by rw [h] at hc; cases hc⟩
 ·obtain ⟨c, r, e, hc⟩ := nameB_cons hn
  rw [text_n (by omega), e]
  exact ⟨c, _, rfl, fun h => by rw [h] at hc; cases hc⟩
 ·rw [text_k ho]
  refine ⟨_, _, rfl, ?_⟩
  rcases ho with rfl | rfl | rfl <;> decide
theorem values_len : ∀ (vs : List ByteArray), ((vs.map quoteT).map (fun x => x.length + 1)).sum ≤ 4 * sizes vs + 3 * vs.length
 | [] => by simp
 | v :: vs => by
  have := values_len vs
  have := quoteT_len v
  simp only [List.map_cons, List.sum_cons, sizes, List.length_cons]
  omega
theorem ok_vals16 {n v : ByteArray} {vs : List ByteArray} {ks : List S25} (h : okM ⟨4, n, v, vs, ks⟩ = true) : vs.length ≤ 16 := by
 rw [okM_mk, Bool.and_eq_true] at h
 have h1 := h.1
 unfold aloneB at h1
 rw [if_neg (show ¬ (4 : Int) = 0 by decide), if_neg (show ¬ ((4 : Int) = 1 ∨ (4 : Int) = 2 ∨ (4 : Int) = 3) by decide), if_pos rfl, Bool.and_eq_true] at h1
 have h2 := h1.2
 unfold valuesB at h2
 rw [Bool.and_eq_true, Bool.and_eq_true, decide_eq_true_iff] at h2
 exact h2.1.1.2
theorem textM_len : ∀ (N : Nat) (m : S25), nodesM m ≤ N → okM m = true → (textM m).length + 1 ≤ 4 * bytesM m + 60 * nodesM m := by
 intro N
 induction N with
 | zero => intro m h; rw [nodesM_mk] at h; omega
 | succ N ih =>
  intro m hN h
  rcases shape h with rfl | ⟨op, n, v, ho, hn, rfl⟩ | ⟨n, vs, hn, rfl⟩ | ⟨op, ks, ho, hk, rfl⟩
  ·rw [text_0, nodesM_mk]; simp only [List.length_cons, List.length_nil]; omega
  ·rw [text_n (by omega), nodesM_mk, bytesM_mk]
   have e : n.data.toList.length = n.size := by simp
   have q := quoteT_len v
   simp only [List.length_append, List.length_cons]
   have : (textN op v []).2.length ≤ 4 * v.size + 3 := by
    rcases ho with rfl | rfl | rfl <;> simp [textN] <;> omega
   omega
  ·have h16 := ok_vals16 h
   rw [text_n (by omega), nodesM_mk, bytesM_mk]
   have e : n.data.toList.length = n.size := by simp
   have q := values_len vs
   have c := commas_len (vs.map quoteT)
   have : (textN 4 ⟨#[]⟩ vs).2 = 40 :: (commas (vs.map quoteT) ++ [41]) := rfl
   rw [this]
   simp only [List.length_append, List.length_cons, List.length_nil]
   omega
  ·have kids : ∀ (l : List S25), (∀ k ∈ l, okM k = true ∧ nodesM k ≤ N) → ((l.map textM).map (fun x => x.length + 1)).sum ≤ 4 * bytesL l + 60 * nodesL l := by
    intro l
    induction l with
    | nil => intro _; simp
    | cons k l il =>
     intro hl
     have h1 := hl k (List.mem_cons_self ..)
     have := ih k h1.2 h1.1
     have := il (fun x hx => hl x (List.mem_cons_of_mem _ hx))
     simp only [List.map_cons, List.sum_cons, bytesL, nodesL]
     omega
   have := kids ks (fun k hk2 => ⟨okL_mem hk hk2, by have := nodes_lt ⟨op, ⟨#[]⟩, ⟨#[]⟩, [], ks⟩ k hk2; omega⟩)
   have c := commas_len (ks.map textM)
   rw [text_k ho, nodesM_mk, bytesM_mk]
   simp only [List.length_append, List.length_cons, List.length_nil]
   omega
end Go.Proofs.Yteafilojjdfllaa
end
section
namespace Go.Proofs.Yteafilojjdfllaa.PAll
open Go.RowKit Go.Proofs.YteafilojjdfllaaW.PrintWords Go.Proofs.YteafilojjdfllaaW.PrintLast Go.Proofs.YteafilojjdfllaaW.PrintMore
attribute [local go_sem] max2_int min2_int max_two min_two max_three min_three max_four min_four   -- for this text's walks alone
set_option linter.unusedVariables false
set_option linter.unusedSimpArgs false
mutual
def label_Quoted.l0 : Nat → ByteArray → List Int → Int → Int → Option (ByteArray)
 | 0, _, _, _, _ => none
 | k + 1, x0, x3, x8, x9 => if x9 < x8 then (if 0 ≤ x9 then (if x9 < (x0.size : Int) then (if (bt x0 x9) = 34 then (label_Quoted.j1 k x0 x3 (bt x0 x9) x8 x9 true) else (label_Quoted.j1 k x0 x3 (bt x0 x9) x8 x9 ((bt x0 x9) == 92))) else (none)) else (none)) else (if x3.length < 140737488355328 then (some (strOfNums (x3 ++ [34]))) else (none))
def label_Quoted.j1 : Nat → ByteArray → List Int → Int → Int → Int → Bool → Option (ByteArray)
 | 0, _, _, _, _, _, _ => none
 | k + 1, x0, x3, x5, x8, x9, x19 => if x19 = true then ((some (([92, x5] : List Int) : List Int)).bind fun y285 => (if x3.length + y285.length < 140737488355328 then (label_Quoted.l0 k x0 (x3 ++ y285) x8 (wrap64 (x9 + 1))) else (none))) else (if x5 < 32 then (if 0 ≤ (x5 / 16) then (if (x5 / 16) < 16 then (if 0 ≤ (Go.bits .and .u8 x5 15) then (if (Go.bits .and .u8 x5 15) < 16 then ((some (([92, 120, bt (⟨#[48, 49, 50, 51, 52, 53, 54, 55, 56, 57, 97, 98, 99, 100, 101, 102]⟩ : ByteArray) (x5 / 16), bt (⟨#[48, 49, 50, 51, 52, 53, 54, 55, 56, 57, 97, 98, 99, 100, 101, 102]⟩ : ByteArray) (Go.bits .and .u8 x5 15)] : List Int) : List Int)).bind fun y291 => (if x3.length + y291.length < 140737488355328 then (label_Quoted.l0 k x0 (x3 ++ y291) x8 (wrap64 (x9 + 1))) else (none))) else (none)) else (none)) else (none)) else (none)) else (if x5 ≥ 127 then (if 0 ≤ (x5 / 16) then (if (x5 / 16) < 16 then (if 0 ≤ (Go.bits .and .u8 x5 15) then (if (Go.bits .and .u8 x5 15) < 16 then ((some (([92, 120, bt (⟨#[48, 49, 50, 51, 52, 53, 54, 55, 56, 57, 97, 98, 99, 100, 101, 102]⟩ : ByteArray) (x5 / 16), bt (⟨#[48, 49, 50, 51, 52, 53, 54, 55, 56, 57, 97, 98, 99, 100, 101, 102]⟩ : ByteArray) (Go.bits .and .u8 x5 15)] : List Int) : List Int)).bind fun y297 => (if x3.length + y297.length < 140737488355328 then (label_Quoted.l0 k x0 (x3 ++ y297) x8 (wrap64 (x9 + 1))) else (none))) else (none)) else (none)) else (none)) else (none)) else (if x3.length < 140737488355328 then (label_Quoted.l0 k x0 (x3 ++ [x5]) x8 (wrap64 (x9 + 1))) else (none))))
end
def label_Quoted.f (k : Nat) (a0 : ByteArray) : Option (ByteArray) := label_Quoted.l0 k a0 (([34] : List Int)) (a0.size : Int) 0
theorem label_Quoted.mono_l : ∀ k, (∀ y0 y1 y2 y3, LeO (label_Quoted.l0 k y0 y1 y2 y3) (label_Quoted.l0 (k + 1) y0 y1 y2 y3)) ∧ (∀ y0 y1 y2 y3 y4 y5, LeO (label_Quoted.j1 k y0 y1 y2 y3 y4 y5) (label_Quoted.j1 (k + 1) y0 y1 y2 y3 y4 y5))
 | 0 => ⟨fun _ _ _ _ r h => by simp [label_Quoted.l0] at h, fun _ _ _ _ _ _ r h => by simp [label_Quoted.j1] at h⟩
 | k + 1 => by
  obtain ⟨ih0, ih1⟩ := label_Quoted.mono_l k
  refine ⟨?_, ?_⟩
  ·intro y0 y1 y2 y3
   unfold label_Quoted.l0
   repeat' first
   | (with_reducible exact ih0 _ _ _ _)
   | (with_reducible exact ih1 _ _ _ _ _ _)
   | (with_reducible exact LeO.refl _)
   | (with_reducible exact LeO.none _)
   | (with_reducible refine LeO.ite ?_ ?_)
   | (with_reducible refine LeO.bind ?_ (fun _ => ?_))
   | exact ih0 _ _ _ _
   | exact ih1 _ _ _ _ _ _
   | exact LeO.none _
   | refine LeO.ite ?_ ?_
   | refine LeO.bind ?_ (fun _ => ?_)
  ·intro y0 y1 y2 y3 y4 y5
   unfold label_Quoted.j1
   repeat' first
   | (with_reducible exact ih0 _ _ _ _)
   | (with_reducible exact ih1 _ _ _ _ _ _)
   | (with_reducible exact LeO.refl _)
   | (with_reducible exact LeO.none _)
   | (with_reducible refine LeO.ite ?_ ?_)
   | (with_reducible refine LeO.bind ?_ (fun _ => ?_))
   | exact ih0 _ _ _ _
   | exact ih1 _ _ _ _ _ _
   | exact LeO.none _
   | refine LeO.ite ?_ ?_
   | refine LeO.bind ?_ (fun _ => ?_)
theorem label_Quoted.mono : ∀ a0 k, LeO (label_Quoted.f k a0) (label_Quoted.f (k + 1) a0) := by
 intro a0 k
 obtain ⟨ih0, ih1⟩ := label_Quoted.mono_l k
 unfold label_Quoted.f
 repeat' first
   | (with_reducible exact ih0 _ _ _ _)
   | (with_reducible exact ih1 _ _ _ _ _ _)
   | (with_reducible exact LeO.refl _)
   | (with_reducible exact LeO.none _)
   | (with_reducible refine LeO.ite ?_ ?_)
   | (with_reducible refine LeO.bind ?_ (fun _ => ?_))
   | exact ih0 _ _ _ _
   | exact ih1 _ _ _ _ _ _
   | exact LeO.none _
   | refine LeO.ite ?_ ?_
   | refine LeO.bind ?_ (fun _ => ?_)
def label_Quoted.T10 : Bool × List (List Nat × List Nat) := (true, [([], []), ([], []), ([1], [1]), ([2], [2]), ([], []), ([4], [4]), ([5], [5]), ([3, 6], [3, 6]), ([0, 7], [0, 7]), ([8, 8, 0, 1, 2, 3, 4, 5, 6, 7, 8], [0, 8])])
def label_Quoted.B10 : List Nat := [0, 0, 2, 6, 0, 16, 48, 126, 255, 511]
theorem label_Quoted.tab10 : rtab .any (opsOf Try.f125 10) = label_Quoted.T10 := by kernel_rfl
theorem label_Quoted.bits10 : waitsOk label_Quoted.T10.2 label_Quoted.B10 = true := by kernel_rfl
set_option maxHeartbeats 8000000 in
set_option maxRecDepth 100000 in
theorem label_Quoted.calls (k : Nat) (a0 : ByteArray) (r : ByteArray) (w : World) (h : label_Quoted.f k a0 = some r) :
  Calls Try.prog 125 #[.string a0] w fun e w' => e = .returned (.string r) ∧ Below w.heap.size w w' := by
 have HB := Aside0.mk (Below.refl w.heap.size w)
 have H : (label_Quoted.l0 k a0 (([34] : List Int)) (a0.size : Int) 0) = some r := h
 clear h
 obtain ⟨y279, hy279⟩ : ∃ y_ : List Int, y_ = (([34] : List Int)) := ⟨_, rfl⟩
 replace H : (label_Quoted.l0 k a0 y279 (a0.size : Int) 0) = some r := by first | (rw [hy279]; with_reducible exact H) | (have H2_ := (Option.bind_some _ _).symm.trans H; rw [hy279]; with_reducible exact H2_) | (have H2_ := (Option.bind_some _ _).symm.trans H; with_reducible exact H2_) | with_reducible exact H | (rw [hy279]; exact H) | exact H
 have Ny279 := Aside0.mk hy279
 clear hy279
 have H' := Aside0.mk H
 clear H
 go_enter Try.func125, Try.ntmps125
 go_wp2_with (first | ((with_reducible refine gate_dst (N := 6) rfl ?_); refine Kd.R_lit (Kd.int .u8) _ 5 ?hg (N := 6) ?hd (xs := ([34] : List Int)) (inner := [.int .u8 34]) (ok := fun _ => True) (okp := fun _ => True) ?hr ?hp (fun _ hk => hk) trivial (Below.refl _ _) (Nat.le_refl _) (by simp) ?_; (case hd => rfl); (case hg => rfl); (case hr => first | (go_simp; done) | (go_simp; rfl)); (case hp => exact (Reps.one (show Kd.M (Kd.int .u8) _ _ _ 34 [.int .u8 34] from rfl) (Reps.none _ _))); intro v280 w2 ho3 hb hg_ hnew_; clear hg_ hnew_; (first | rw [← Ny279.out] at ho3 | (simp only [Int.reduceToNat] at ho3; rw [← Ny279.out] at ho3)); have n0_ := Aside0.mk (Kd.R_lower ho3 (below_size (by repeat (first | (with_reducible first | exact HB.out | apply below_alloc | apply pw_below_drewN | apply below_drew1) | exact HB.out)))); have n1_ := Aside0.mk (below_step (by repeat (first | (with_reducible first | exact HB.out | apply below_alloc | apply pw_below_drewN | apply below_drew1) | exact HB.out)) hb); clear HB; have HO281 := n0_; have HB := n1_; clear n0_ n1_; clear hb ho3))
 go_loopg [3, 9] k (fun kq v3 v9 w' => ∃ (x3_1 : List Int) (x9_1 : Int), v9 = .int .i64 x9_1 ∧ Aside0 (label_Quoted.l0 kq a0 x3_1 (a0.size : Int) x9_1 = some r) ∧ Aside0 (kq ≤ k) ∧ Aside0 (Kd.R (Kd.int .u8) 5 w' w.heap.size (fun _ => True) v3 x3_1) ∧ Aside0 (Below w.heap.size w w'))
 case atStart => exact ⟨(y279), (0), (by first | rfl | (simp; done) | (simp [*]; done)), H', ⟨Nat.le_refl _⟩, ⟨by (with_reducible repeat (first | apply Kd.R_alloc | apply Kd.R_drewN | apply Kd.R_drew)); exact HO281.out⟩, ⟨by repeat (first | (with_reducible first | exact HB.out | apply below_alloc | apply pw_below_drewN | apply below_drew1) | exact HB.out)⟩⟩
 case round =>
  clear H'
  try clear c1
  try clear p2
  obtain ⟨x3_1, x9_1, rfl, HA, HK1, HO_3, HB⟩ := hrel
  cases gk with
  | zero => exact absurd HA.out (by simp [label_Quoted.l0])
  | succ k1 =>
   have H := HA.out
   clear HA
   simp only [label_Quoted.l0] at H
   by_cases c4 : x9_1 < (a0.size : Int)
   ·rw [if_pos c4] at H
    have c4b0 : decide (x9_1 < (a0.size : Int)) = true := decide_eq_true c4
    clear c4
    by_cases c5 : 0 ≤ x9_1
    ·rw [if_pos c5] at H
     have c5b0 : decide (0 ≤ x9_1) = true := decide_eq_true c5
     clear c5
     by_cases c6 : x9_1 < (a0.size : Int)
     ·rw [if_pos c6] at H
      have c6b0 : decide (x9_1 < (a0.size : Int)) = true := decide_eq_true c6
      clear c6
      have HC8 := Aside0.mk H
      clear H
      have p7 : 0 ≤ (x9_1 : Int) := of_decide_eq_true (by first | (with_reducible assumption) | assumption)
      have q7 : x9_1 < (a0.size : Int) := of_decide_eq_true (by first | (with_reducible assumption) | assumption)
      have hx7 := bt_at a0 x9_1
      replace p7 := eq_true p7
      replace q7 := eq_true q7
      go_upto_region 7 with (fail)
      go_cut [19] (fun v19 wc => ∃ (kq : Nat) (x19_7 : Bool), v19 = .bool x19_7 ∧ Aside0 (label_Quoted.j1 kq a0 x3_1 (bt a0 x9_1) (a0.size : Int) x9_1 x19_7 = some r) ∧ Aside0 (kq ≤ k1) ∧ Aside0 (Kd.R (Kd.int .u8) 5 wc w.heap.size (fun _ => True) u3 x3_1) ∧ Aside0 (Below w.heap.size w wc))
      case first =>
       have H := HC8.out
       clear HC8
       by_cases c9 : (bt a0 x9_1) = 34
       ·rw [if_pos c9] at H
        have c9b0 : ((bt a0 x9_1) == 34) = true := beq_iff_eq.mpr c9
        have c9b1 : ((bt a0 x9_1) != 34) = false := bne_eq_false_iff_eq.mpr c9
        clear c9
        (first | rw [c9b0] | (simp only [i64_w, i32_w]; rw [c9b0]) | skip)
        have H' := Aside0.mk H
        clear H
        go_wp2
        go_meet
        case rel => exact ⟨_, (true), (by first | rfl | (simp; done) | (simp [*]; done)), H', ⟨by have := HK1.out; first | omega | exact Nat.le_refl _⟩, ⟨by (with_reducible repeat (first | apply Kd.R_alloc | apply Kd.R_drewN | apply Kd.R_drew)); exact HO_3.out⟩, ⟨by repeat (first | (with_reducible first | exact HB.out | apply below_alloc | apply pw_below_drewN | apply below_drew1) | exact HB.out)⟩⟩
       ·rw [if_neg c9] at H
        have c9b0 : ((bt a0 x9_1) == 34) = false := beq_eq_false_iff_ne.mpr c9
        have c9b1 : ((bt a0 x9_1) != 34) = true := bne_iff_ne.mpr c9
        (first | rw [c9b0] | (simp only [i64_w, i32_w]; rw [c9b0]) | skip)
        have H' := Aside0.mk H
        clear H
        go_wp2
        go_meet
        case rel => exact ⟨_, (((bt a0 x9_1) == 92)), (by first | rfl | (simp; done) | (simp [*]; done)), H', ⟨by have := HK1.out; first | omega | exact Nat.le_refl _⟩, ⟨by (with_reducible repeat (first | apply Kd.R_alloc | apply Kd.R_drewN | apply Kd.R_drew)); exact HO_3.out⟩, ⟨by repeat (first | (with_reducible first | exact HB.out | apply below_alloc | apply pw_below_drewN | apply below_drew1) | exact HB.out)⟩⟩
      case rest =>
       clear HC8
       try clear c1
       try clear p2
       try clear c4
       try clear c4b0
       try clear c5
       try clear c5b0
       try clear c6
       try clear c6b0
       try clear p7
       try clear q7
       try clear hx7
       try clear c9
       try clear c9b0
       try clear c9b1
       try clear p2
       try clear p7
       try clear q7
       obtain ⟨kq, x19_7, rfl, HA, HJ7, HO_3, HB⟩ := hcut
       cases kq with
       | zero => exact absurd HA.out (by simp [label_Quoted.j1])
       | succ kj7 =>
        have H := HA.out
        clear HA
        simp only [label_Quoted.j1] at H
        by_cases c10 : x19_7 = true
        ·subst c10
         have H1 : ((some (([92, (bt a0 x9_1)] : List Int) : List Int)).bind fun y285 => (if x3_1.length + y285.length < 140737488355328 then (label_Quoted.l0 kj7 a0 (x3_1 ++ y285) (a0.size : Int) (wrap64 (x9_1 + 1))) else (none))) = some r := by rw [if_pos rfl] at H; exact H
         clear H
         have H := H1
         clear H1
         obtain ⟨y285, hy285⟩ : ∃ y_ : List Int, y_ = (([92, (bt a0 x9_1)] : List Int)) := ⟨_, rfl⟩
         replace H : (if x3_1.length + y285.length < 140737488355328 then (label_Quoted.l0 kj7 a0 (x3_1 ++ y285) (a0.size : Int) (wrap64 (x9_1 + 1))) else (none)) = some r := by first | (rw [hy285]; with_reducible exact H) | (have H2_ := (Option.bind_some _ _).symm.trans H; rw [hy285]; with_reducible exact H2_) | (have H2_ := (Option.bind_some _ _).symm.trans H; with_reducible exact H2_) | with_reducible exact H | (rw [hy285]; exact H) | exact H
         have Ny285 := Aside0.mk hy285
         clear hy285
         by_cases c11 : x3_1.length + y285.length < 140737488355328
         ·rw [if_pos c11] at H
          have LMc11 := Aside0.mk c11
          clear c11
          obtain ⟨y288, hy288⟩ : ∃ y_ : List Int, y_ = (x3_1 ++ y285) := ⟨_, rfl⟩
          replace H : (label_Quoted.l0 kj7 a0 y288 (a0.size : Int) (wrap64 (x9_1 + 1))) = some r := by first | (rw [hy288]; with_reducible exact H) | (have H2_ := (Option.bind_some _ _).symm.trans H; rw [hy288]; with_reducible exact H2_) | (have H2_ := (Option.bind_some _ _).symm.trans H; with_reducible exact H2_) | with_reducible exact H | (rw [hy288]; exact H) | exact H
          have Ny288 := Aside0.mk hy288
          clear hy288
          have H' := Aside0.mk H
          clear H
          go_wp2_with (first | ((with_reducible refine gate_dst (N := 28) rfl ?_); refine Kd.R_lit (Kd.int .u8) _ 5 ?hg (N := 28) ?hd (xs := ([92, (bt a0 x9_1)] : List Int)) (inner := [.int .u8 92, .int .u8 (bt a0 x9_1)]) (ok := fun _ => True) (okp := fun _ => True) ?hr ?hp (fun _ hk => hk) trivial (Below.refl _ _) (Nat.le_refl _) (by simp) ?_; (case hd => rfl); (case hg => rfl); (case hr => first | (go_simp; done) | (go_simp; rfl)); (case hp => exact (Reps.one (show Kd.M (Kd.int .u8) _ _ _ 92 [.int .u8 92] from rfl) (Reps.one (show Kd.M (Kd.int .u8) _ _ _ (bt a0 x9_1) [.int .u8 (bt a0 x9_1)] from rfl) (Reps.none _ _)))); intro v286 w12 ho13 hb hg_ hnew_; clear hg_ hnew_; (first | rw [← Ny285.out] at ho13 | (simp only [Int.reduceToNat] at ho13; rw [← Ny285.out] at ho13)); have n0_ := Aside0.mk (Kd.R_elder' (by (with_reducible repeat (first | apply Kd.R_alloc | apply Kd.R_drewN | apply Kd.R_drew)); exact HO_3.out) (Kd.R_base ho13) hb); have n1_ := Aside0.mk (Kd.R_lower (Kd.R_new' ho13 (Kd.R_lt (by (with_reducible repeat (first | apply Kd.R_alloc | apply Kd.R_drewN | apply Kd.R_drew)); exact HO_3.out))) (below_size (by repeat (first | (with_reducible first | exact HB.out | apply below_alloc | apply pw_below_drewN | apply below_drew1) | exact HB.out)))); have n2_ := Aside0.mk (below_step (by repeat (first | (with_reducible first | exact HB.out | apply below_alloc | apply pw_below_drewN | apply below_drew1) | exact HB.out)) hb); clear HO_3; clear HB; have HO_3 := n0_; have HO287 := n1_; have HB := n2_; clear n0_ n1_ n2_; clear hb ho13; obtain ⟨Ao15, co15, eo15⟩ := Kd.R_slice HO287.out; subst eo15) | ((with_reducible refine gate_builtin (b := .append) (xs := #[.tmp 26, .tmp 28]) rfl ?_); at_builtin; refine Kd.R_append_rows (Kd.int .u8) (w0 := w) w.heap.size rfl (.tmp 26) (.tmp 28) 85 5 (.int .u8 0) 1 rfl Try.underlying85 info5 rfl (by decide) (by omega) u3 x3_1 y285 _ _ _ (fun k_ => some k_ ≠ (.slice Ao15 y285.length co15 : Value).ownBlock) (fun _ => False) rfl rfl ?aO ?aR (fun _ _ h => h) (fun _ h => h.elim) ?aF ?aB ?aS ?aL ?_; (case aR => repeat (first | exact (Kd.R_reads' HO287.out).2.2 | (with_reducible refine Kd.C_alloc ?_ _) | (with_reducible refine Kd.C_drewN ?_ _) | (with_reducible refine Kd.C_drew ?_))); (case aB => exact (by repeat (first | (with_reducible first | exact HB.out | apply below_alloc | apply pw_below_drewN | apply below_drew1) | exact HB.out))); (case aF => exact (fun k_ hk => Kd.fresh' (Kd.R_lt (by (with_reducible repeat (first | apply Kd.R_alloc | apply Kd.R_drewN | apply Kd.R_drew)); exact HO287.out)) k_ hk)); (case aO => exact (by (with_reducible repeat (first | apply Kd.R_alloc | apply Kd.R_drewN | apply Kd.R_drew)); exact Kd.R_mono HO_3.out (fun _ hk => hk.2))); (case aS => exact (below_size (by repeat (first | (with_reducible first | exact HB.out | apply below_alloc | apply pw_below_drewN | apply below_drew1) | exact HB.out)))); (case aL => have := LMc11.out; omega); intro v289 w14 ho hb hg hat; rw [← Ny288.out] at ho; have n0_ := Aside0.mk (Kd.R_after (ok := (fun _ => True)) (by (with_reducible repeat (first | apply Kd.R_alloc | apply Kd.R_drewN | apply Kd.R_drew)); exact HO287.out) hg hat); have n1_ := Aside0.mk (hb); have n2_ := Aside0.mk (ho); clear HO287; clear HB; clear HO_3; have HO287 := n0_; have HB := n1_; have HO290 := n2_; clear n0_ n1_ n2_; clear ho hb hg hat))
          go_roundg kj7
          case measure => have := HK1.out; have := HJ7.out; omega
          case rel => exact ⟨(y288), (wrap64 (x9_1 + 1)), (by first | rfl | (simp; done) | (simp [*]; done)), H', ⟨by have := HK1.out; have := HJ7.out; omega⟩, ⟨by (with_reducible repeat (first | apply Kd.R_alloc | apply Kd.R_drewN | apply Kd.R_drew)); exact Kd.R_mono HO290.out (fun _ hk => trivial)⟩, ⟨by repeat (first | (with_reducible first | exact HB.out | apply below_alloc | apply pw_below_drewN | apply below_drew1) | exact HB.out)⟩⟩
         ·rw [if_neg c11] at H
          exact absurd H (by simp)
        ·replace c10 := Bool.eq_false_iff.mpr c10
         subst c10
         have H1 : (if (bt a0 x9_1) < 32 then (if 0 ≤ ((bt a0 x9_1) / 16) then (if ((bt a0 x9_1) / 16) < 16 then (if 0 ≤ (Go.bits .and .u8 (bt a0 x9_1) 15) then (if (Go.bits .and .u8 (bt a0 x9_1) 15) < 16 then ((some (([92, 120, bt (⟨#[48, 49, 50, 51, 52, 53, 54, 55, 56, 57, 97, 98, 99, 100, 101, 102]⟩ : ByteArray) ((bt a0 x9_1) / 16), bt (⟨#[48, 49, 50, 51, 52, 53, 54, 55, 56, 57, 97, 98, 99, 100, 101, 102]⟩ : ByteArray) (Go.bits .and .u8 (bt a0 x9_1) 15)] : List Int) : List Int)).bind fun y291 => (if x3_1.length + y291.length < 140737488355328 then (label_Quoted.l0 kj7 a0 (x3_1 ++ y291) (a0.size : Int) (wrap64 (x9_1 + 1))) else (none))) else (none)) else (none)) else (none)) else (none)) else (if (bt a0 x9_1) ≥ 127 then (if 0 ≤ ((bt a0 x9_1) / 16) then (if ((bt a0 x9_1) / 16) < 16 then (if 0 ≤ (Go.bits .and .u8 (bt a0 x9_1) 15) then (if (Go.bits .and .u8 (bt a0 x9_1) 15) < 16 then ((some (([92, 120, bt (⟨#[48, 49, 50, 51, 52, 53, 54, 55, 56, 57, 97, 98, 99, 100, 101, 102]⟩ : ByteArray) ((bt a0 x9_1) / 16), bt (⟨#[48, 49, 50, 51, 52, 53, 54, 55, 56, 57, 97, 98, 99, 100, 101, 102]⟩ : ByteArray) (Go.bits .and .u8 (bt a0 x9_1) 15)] : List Int) : List Int)).bind fun y297 => (if x3_1.length + y297.length < 140737488355328 then (label_Quoted.l0 kj7 a0 (x3_1 ++ y297) (a0.size : Int) (wrap64 (x9_1 + 1))) else (none))) else (none)) else (none)) else (none)) else (none)) else (if x3_1.length < 140737488355328 then (label_Quoted.l0 kj7 a0 (x3_1 ++ [(bt a0 x9_1)]) (a0.size : Int) (wrap64 (x9_1 + 1))) else (none)))) = some r := by rw [if_neg (show ¬ (false = true) by decide)] at H; exact H
         clear H
         have H := H1
         clear H1
         by_cases c16 : (bt a0 x9_1) < 32
         ·rw [if_pos c16] at H
          have c16b0 : decide ((bt a0 x9_1) < 32) = true := decide_eq_true c16
          clear c16
          obtain ⟨ji17, hji17⟩ : ∃ j_ : Int, ((bt a0 x9_1) / 16) = j_ := ⟨_, rfl⟩
          replace H : (if 0 ≤ (ji17) then (if (ji17) < 16 then (if 0 ≤ (Go.bits .and .u8 (bt a0 x9_1) 15) then (if (Go.bits .and .u8 (bt a0 x9_1) 15) < 16 then ((some (([92, 120, bt (⟨#[48, 49, 50, 51, 52, 53, 54, 55, 56, 57, 97, 98, 99, 100, 101, 102]⟩ : ByteArray) (ji17), bt (⟨#[48, 49, 50, 51, 52, 53, 54, 55, 56, 57, 97, 98, 99, 100, 101, 102]⟩ : ByteArray) (Go.bits .and .u8 (bt a0 x9_1) 15)] : List Int) : List Int)).bind fun y291 => (if x3_1.length + y291.length < 140737488355328 then (label_Quoted.l0 kj7 a0 (x3_1 ++ y291) (a0.size : Int) (wrap64 (x9_1 + 1))) else (none))) else (none)) else (none)) else (none)) else (none)) = some r := by first | (rw [hji17] at H; exact H) | (simp only [hji17] at H ⊢; exact H)
          by_cases c18 : 0 ≤ (ji17)
          ·rw [if_pos c18] at H
           have c18b0 : decide (0 ≤ (ji17)) = true := decide_eq_true c18
           clear c18
           by_cases c19 : (ji17) < 16
           ·rw [if_pos c19] at H
            have c19b0 : decide ((ji17) < 16) = true := decide_eq_true c19
            clear c19
            by_cases c21 : 0 ≤ (Go.bits .and .u8 (bt a0 x9_1) 15)
            ·rw [if_pos c21] at H
             have c21b0 : decide (0 ≤ (Go.bits .and .u8 (bt a0 x9_1) 15)) = true := decide_eq_true c21
             clear c21
             by_cases c22 : (Go.bits .and .u8 (bt a0 x9_1) 15) < 16
             ·rw [if_pos c22] at H
              have c22b0 : decide ((Go.bits .and .u8 (bt a0 x9_1) 15) < 16) = true := decide_eq_true c22
              clear c22
              obtain ⟨y291, hy291⟩ : ∃ y_ : List Int, y_ = (([92, 120, bt (⟨#[48, 49, 50, 51, 52, 53, 54, 55, 56, 57, 97, 98, 99, 100, 101, 102]⟩ : ByteArray) (ji17), bt (⟨#[48, 49, 50, 51, 52, 53, 54, 55, 56, 57, 97, 98, 99, 100, 101, 102]⟩ : ByteArray) (Go.bits .and .u8 (bt a0 x9_1) 15)] : List Int)) := ⟨_, rfl⟩
              replace H : (if x3_1.length + y291.length < 140737488355328 then (label_Quoted.l0 kj7 a0 (x3_1 ++ y291) (a0.size : Int) (wrap64 (x9_1 + 1))) else (none)) = some r := by first | (rw [hy291]; with_reducible exact H) | (have H2_ := (Option.bind_some _ _).symm.trans H; rw [hy291]; with_reducible exact H2_) | (have H2_ := (Option.bind_some _ _).symm.trans H; with_reducible exact H2_) | with_reducible exact H | (rw [hy291]; exact H) | exact H
              have Ny291 := Aside0.mk hy291
              clear hy291
              by_cases c24 : x3_1.length + y291.length < 140737488355328
              ·rw [if_pos c24] at H
               have LMc24 := Aside0.mk c24
               clear c24
               obtain ⟨y294, hy294⟩ : ∃ y_ : List Int, y_ = (x3_1 ++ y291) := ⟨_, rfl⟩
               replace H : (label_Quoted.l0 kj7 a0 y294 (a0.size : Int) (wrap64 (x9_1 + 1))) = some r := by first | (rw [hy294]; with_reducible exact H) | (have H2_ := (Option.bind_some _ _).symm.trans H; rw [hy294]; with_reducible exact H2_) | (have H2_ := (Option.bind_some _ _).symm.trans H; with_reducible exact H2_) | with_reducible exact H | (rw [hy294]; exact H) | exact H
               have Ny294 := Aside0.mk hy294
               clear hy294
               have H' := Aside0.mk H
               clear H
               try go_wp2
               have n0_ := Aside0.mk (Kd.R_drew HO_3.out)
               have n1_ := Aside0.mk (below_drew1 HB.out)
               clear HO_3
               clear HB
               have HO_3 := n0_
               have HB := n1_
               clear n0_ n1_
               have p20 : 0 ≤ ((ji17) : Int) := of_decide_eq_true (by first | (with_reducible assumption) | assumption)
               have q20 : (ji17) < (16 : Int) := of_decide_eq_true (by first | (with_reducible assumption) | assumption)
               have hx20 := bt_at (⟨#[48, 49, 50, 51, 52, 53, 54, 55, 56, 57, 97, 98, 99, 100, 101, 102]⟩ : ByteArray) (ji17)
               replace p20 := eq_true p20
               replace q20 := eq_true q20
               have p23 : 0 ≤ ((Go.bits .and .u8 (bt a0 x9_1) 15) : Int) := of_decide_eq_true (by first | (with_reducible assumption) | assumption)
               have q23 : (Go.bits .and .u8 (bt a0 x9_1) 15) < (16 : Int) := of_decide_eq_true (by first | (with_reducible assumption) | assumption)
               have hx23 := bt_at (⟨#[48, 49, 50, 51, 52, 53, 54, 55, 56, 57, 97, 98, 99, 100, 101, 102]⟩ : ByteArray) (Go.bits .and .u8 (bt a0 x9_1) 15)
               replace p23 := eq_true p23
               replace q23 := eq_true q23
               refine start_ (n := 10) (S := fun w' => True) (ds := []) #[false, false, false, false, false, false, false, false, false, false] (by kernel_rfl) rfl rfl trivial (fun hHeld => ?_); refine with_tabW label_Quoted.tab10 label_Quoted.bits10 (fun HT_ HW_ => ?_)
               generalize wc.drew = w25 at HO_3 HB hHeld ⊢
               refine pure_ (i := 0) (N := some 37) (v := ?_) (a' := ?_) #[true, false, false, false, false, false, false, false, false, false] rfl rfl (any_of HT_.out (by kernel_rfl)) (fun _ _ _ h => h) (Or.inl ⟨by rfl, ?_⟩) ?_ ?_
               rotate_left
               ·intro w'
                go_simp
                with_reducible rfl
               rotate_left
               ·simp only [Act.put, List.setIfInBounds_toArray, List.set_cons_zero, List.set_cons_succ, i64_w, i32_w]
                rfl
               refine pure_ (i := 1) (N := some 38) (v := ?_) (a' := ?_) #[true, true, false, false, false, false, false, false, false, false] rfl rfl (any_of HT_.out (by kernel_rfl)) (fun _ _ _ h => h) (Or.inl ⟨by rfl, ?_⟩) ?_ ?_
               rotate_left
               ·intro w'
                go_simp
                with_reducible rfl
               rotate_left
               ·simp only [Act.put, List.setIfInBounds_toArray, List.set_cons_zero, List.set_cons_succ, i64_w, i32_w]
                rfl
               refine pure_ (i := 2) (N := some 39) (v := ?_) (a' := ?_) #[true, true, true, false, false, false, false, false, false, false] rfl rfl (any_of HT_.out (by kernel_rfl)) (fun _ _ _ h => h) (Or.inl ⟨by rfl, ?_⟩) ?_ ?_
               rotate_left
               ·intro w'
                go_simp
                with_reducible rfl
               rotate_left
               ·simp only [Act.put, List.setIfInBounds_toArray, List.set_cons_zero, List.set_cons_succ, i64_w, i32_w]
                rfl
               refine pure_ (i := 4) (N := some 41) (v := ?_) (a' := ?_) #[true, true, true, false, true, false, false, false, false, false] rfl rfl (any_of HT_.out (by kernel_rfl)) (fun _ _ _ h => h) (Or.inl ⟨by rfl, ?_⟩) ?_ ?_
               rotate_left
               ·intro w'
                go_simp
                with_reducible rfl
               rotate_left
               ·simp only [Act.put, List.setIfInBounds_toArray, List.set_cons_zero, List.set_cons_succ, i64_w, i32_w]
                rfl
               refine pure_ (i := 5) (N := some 42) (v := ?_) (a' := ?_) #[true, true, true, false, true, true, false, false, false, false] rfl rfl (any_of HT_.out (by kernel_rfl)) (fun _ _ _ h => h) (Or.inl ⟨by rfl, ?_⟩) ?_ ?_
               rotate_left
               ·intro w'
                go_simp
                with_reducible rfl
               rotate_left
               ·simp only [Act.put, List.setIfInBounds_toArray, List.set_cons_zero, List.set_cons_succ, i64_w, i32_w]
                rfl
               refine take_ (i := 3) (N := some 40) (v := ?_) (a' := ?_) #[true, true, true, true, true, true, false, false, false, false] rfl rfl (take_ofW HT_.out HW_.out (by kernel_rfl)) (fun _ _ _ h => h) (Or.inl ⟨by rfl, ?_⟩) hHeld ?_ ?_
               rotate_left
               ·intro w' _
                go_simp
                with_reducible rfl
               rotate_left
               ·simp only [Act.put, List.setIfInBounds_toArray, List.set_cons_zero, List.set_cons_succ, i64_w, i32_w]
                rfl
               refine take_ (i := 6) (N := some 43) (v := ?_) (a' := ?_) #[true, true, true, true, true, true, true, false, false, false] rfl rfl (take_ofW HT_.out HW_.out (by kernel_rfl)) (fun _ _ _ h => h) (Or.inl ⟨by rfl, ?_⟩) hHeld ?_ ?_
               rotate_left
               ·intro w' _
                go_simp
                with_reducible rfl
               rotate_left
               ·simp only [Act.put, List.setIfInBounds_toArray, List.set_cons_zero, List.set_cons_succ, i64_w, i32_w]
                rfl
               refine one_ (i := 7) (N := some 44) #[true, true, true, true, true, true, true, true, false, false] rfl rfl (one_of HT_.out (by kernel_rfl)) (by decide) (fun K hK => ?_)
               refine Kd.R_lit_step (Kd.int .u8) _ 5 ?hg (N := 44) ?hd (xs := ([92, 120, bt (⟨#[48, 49, 50, 51, 52, 53, 54, 55, 56, 57, 97, 98, 99, 100, 101, 102]⟩ : ByteArray) (ji17), bt (⟨#[48, 49, 50, 51, 52, 53, 54, 55, 56, 57, 97, 98, 99, 100, 101, 102]⟩ : ByteArray) (Go.bits .and .u8 (bt a0 x9_1) 15)] : List Int)) (inner := [.int .u8 92, .int .u8 120, .int .u8 (bt (⟨#[48, 49, 50, 51, 52, 53, 54, 55, 56, 57, 97, 98, 99, 100, 101, 102]⟩ : ByteArray) (ji17)), .int .u8 (bt (⟨#[48, 49, 50, 51, 52, 53, 54, 55, 56, 57, 97, 98, 99, 100, 101, 102]⟩ : ByteArray) (Go.bits .and .u8 (bt a0 x9_1) 15))]) (ok := fun _ => True) (okp := fun _ => True) ?hr ?hp (fun _ hk => hk) trivial (Below.refl _ _) (Nat.le_refl _) (by simp) ?_; (case hd => rfl); (case hg => rfl); (case hr => first | (go_simp; done) | (go_simp; rfl)); (case hp => exact (Reps.one (show Kd.M (Kd.int .u8) _ _ _ 92 [.int .u8 92] from rfl) (Reps.one (show Kd.M (Kd.int .u8) _ _ _ 120 [.int .u8 120] from rfl) (Reps.one (show Kd.M (Kd.int .u8) _ _ _ (bt (⟨#[48, 49, 50, 51, 52, 53, 54, 55, 56, 57, 97, 98, 99, 100, 101, 102]⟩ : ByteArray) (ji17)) [.int .u8 (bt (⟨#[48, 49, 50, 51, 52, 53, 54, 55, 56, 57, 97, 98, 99, 100, 101, 102]⟩ : ByteArray) (ji17))] from rfl) (Reps.one (show Kd.M (Kd.int .u8) _ _ _ (bt (⟨#[48, 49, 50, 51, 52, 53, 54, 55, 56, 57, 97, 98, 99, 100, 101, 102]⟩ : ByteArray) (Go.bits .and .u8 (bt a0 x9_1) 15)) [.int .u8 (bt (⟨#[48, 49, 50, 51, 52, 53, 54, 55, 56, 57, 97, 98, 99, 100, 101, 102]⟩ : ByteArray) (Go.bits .and .u8 (bt a0 x9_1) 15))] from rfl) (Reps.none _ _))))))
               intro v292 w26 ho27 hb hg_ hnew_
               clear hg_ hnew_
               (first | rw [← Ny291.out] at ho27 | (simp only [Int.reduceToNat] at ho27; rw [← Ny291.out] at ho27))
               have n0_ := Aside0.mk (Kd.R_elder' (by (with_reducible repeat (first | apply Kd.R_alloc | apply Kd.R_drewN | apply Kd.R_drew)); exact HO_3.out) (Kd.R_base ho27) hb)
               have n1_ := Aside0.mk (Kd.R_lower (Kd.R_new' ho27 (Kd.R_lt (by (with_reducible repeat (first | apply Kd.R_alloc | apply Kd.R_drewN | apply Kd.R_drew)); exact HO_3.out))) (below_size (by repeat (first | (with_reducible first | exact HB.out | apply below_alloc | apply pw_below_drewN | apply below_drew1) | exact HB.out))))
               have n2_ := Aside0.mk (below_step (by repeat (first | (with_reducible first | exact HB.out | apply below_alloc | apply pw_below_drewN | apply below_drew1) | exact HB.out)) hb)
               clear HO_3
               clear HB
               have HO_3 := n0_
               have HO293 := n1_
               have HB := n2_
               clear n0_ n1_ n2_
               clear hb ho27
               obtain ⟨Ao29, co29, eo29⟩ := Kd.R_slice HO293.out
               (first | subst eo29 | (injection eo29 with f1_ f2_ f3_; have f4_ := f1_.symm; have f5_ := f3_.symm; clear f1_ f2_ f3_; subst f4_; subst f5_))
               refine hK.out _ _ trivial (fun hHeld => ?_)
               clear hK K
               refine norm_ (a' := ?_) ?_ ?_
               rotate_left
               ·show Act.put _ (some 44) _ = _
                simp only [Act.put, List.setIfInBounds_toArray, List.set_cons_zero, List.set_cons_succ, i64_w, i32_w]
                rfl
               refine one_ (i := 8) (N := some 45) #[true, true, true, true, true, true, true, true, true, false] rfl rfl (one_of HT_.out (by kernel_rfl)) (by decide) (fun K hK => ?_)
               refine Kd.R_append_rows_step (Kd.int .u8) (w0 := w) w.heap.size (by rfl) (.tmp 37) (.tmp 44) 85 5 (.int .u8 0) 1 rfl Try.underlying85 info5 rfl (by decide) (by omega) u3 x3_1 y291 _ _ _ (fun k_ => some k_ ≠ (.slice Ao29 y291.length co29 : Value).ownBlock) (fun _ => False) rfl rfl ?aO ?aR (fun _ _ h => h) (fun _ h => h.elim) ?aF ?aB ?aS ?aL ?_
               (case aR => repeat (first | exact (Kd.R_reads' HO293.out).2.2 | (with_reducible refine Kd.C_alloc ?_ _) | (with_reducible refine Kd.C_drewN ?_ _) | (with_reducible refine Kd.C_drew ?_)))
               (case aB => exact (by repeat (first | (with_reducible first | exact HB.out | apply below_alloc | apply pw_below_drewN | apply below_drew1) | exact HB.out)))
               (case aF => exact (fun k_ hk => Kd.fresh' (Kd.R_lt (by (with_reducible repeat (first | apply Kd.R_alloc | apply Kd.R_drewN | apply Kd.R_drew)); exact HO293.out)) k_ hk))
               (case aO => exact (by (with_reducible repeat (first | apply Kd.R_alloc | apply Kd.R_drewN | apply Kd.R_drew)); exact Kd.R_mono HO_3.out (fun _ hk => hk.2)))
               (case aS => exact (below_size (by repeat (first | (with_reducible first | exact HB.out | apply below_alloc | apply pw_below_drewN | apply below_drew1) | exact HB.out))))
               (case aL => have := LMc24.out; omega)
               intro v295 w28 ho hb hg hat
               rw [← Ny294.out] at ho
               have n0_ := Aside0.mk (Kd.R_after (ok := (fun _ => True)) (by (with_reducible repeat (first | apply Kd.R_alloc | apply Kd.R_drewN | apply Kd.R_drew)); exact HO293.out) hg hat)
               have n1_ := Aside0.mk (hb)
               have n2_ := Aside0.mk (ho)
               clear HO293
               clear HB
               clear HO_3
               have HO293 := n0_
               have HB := n1_
               have HO296 := n2_
               clear n0_ n1_ n2_
               clear ho hb hg hat
               refine hK.out _ _ trivial (fun hHeld => ?_)
               clear hK K
               refine norm_ (a' := ?_) ?_ ?_
               rotate_left
               ·show Act.put _ (some 45) _ = _
                simp only [Act.put, List.setIfInBounds_toArray, List.set_cons_zero, List.set_cons_succ, i64_w, i32_w]
                rfl
               refine pure_ (i := 9) (N := some 3) (v := ?_) (a' := ?_) #[true, true, true, true, true, true, true, true, true, true] rfl rfl (any_of HT_.out (by kernel_rfl)) (fun _ _ _ h => h) (Or.inl ⟨by rfl, ?_⟩) ?_ ?_
               rotate_left
               ·intro w'
                go_simp
                with_reducible rfl
               rotate_left
               ·simp only [Act.put, List.setIfInBounds_toArray, List.set_cons_zero, List.set_cons_succ, i64_w, i32_w]
                rfl
               refine done_ (done_of HT_.out (by kernel_rfl)) ?_
               try go_wp2
               go_roundg kj7
               case measure => have := HK1.out; have := HJ7.out; omega
               case rel => exact ⟨(y294), (wrap64 (x9_1 + 1)), (by first | rfl | (simp; done) | (simp [*]; done)), H', ⟨by have := HK1.out; have := HJ7.out; omega⟩, ⟨by (with_reducible repeat (first | apply Kd.R_alloc | apply Kd.R_drewN | apply Kd.R_drew)); exact Kd.R_mono HO296.out (fun _ hk => trivial)⟩, ⟨by repeat (first | (with_reducible first | exact HB.out | apply below_alloc | apply pw_below_drewN | apply below_drew1) | exact HB.out)⟩⟩
              ·rw [if_neg c24] at H
               exact absurd H (by simp)
             ·rw [if_neg c22] at H
              exact absurd H (by simp)
            ·rw [if_neg c21] at H
             exact absurd H (by simp)
           ·rw [if_neg c19] at H
            exact absurd H (by simp)
          ·rw [if_neg c18] at H
           exact absurd H (by simp)
         ·rw [if_neg c16] at H
          have c16b0 : decide ((bt a0 x9_1) < 32) = false := decide_eq_false c16
          clear c16
          by_cases c30 : (bt a0 x9_1) ≥ 127
          ·rw [if_pos c30] at H
           have c30b0 : decide (127 ≤ (bt a0 x9_1)) = true := decide_eq_true c30
           clear c30
           obtain ⟨ji31, hji31⟩ : ∃ j_ : Int, ((bt a0 x9_1) / 16) = j_ := ⟨_, rfl⟩
           replace H : (if 0 ≤ (ji31) then (if (ji31) < 16 then (if 0 ≤ (Go.bits .and .u8 (bt a0 x9_1) 15) then (if (Go.bits .and .u8 (bt a0 x9_1) 15) < 16 then ((some (([92, 120, bt (⟨#[48, 49, 50, 51, 52, 53, 54, 55, 56, 57, 97, 98, 99, 100, 101, 102]⟩ : ByteArray) (ji31), bt (⟨#[48, 49, 50, 51, 52, 53, 54, 55, 56, 57, 97, 98, 99, 100, 101, 102]⟩ : ByteArray) (Go.bits .and .u8 (bt a0 x9_1) 15)] : List Int) : List Int)).bind fun y297 => (if x3_1.length + y297.length < 140737488355328 then (label_Quoted.l0 kj7 a0 (x3_1 ++ y297) (a0.size : Int) (wrap64 (x9_1 + 1))) else (none))) else (none)) else (none)) else (none)) else (none)) = some r := by first | (rw [hji31] at H; exact H) | (simp only [hji31] at H ⊢; exact H)
           by_cases c32 : 0 ≤ (ji31)
           ·rw [if_pos c32] at H
            have c32b0 : decide (0 ≤ (ji31)) = true := decide_eq_true c32
            clear c32
            by_cases c33 : (ji31) < 16
            ·rw [if_pos c33] at H
             have c33b0 : decide ((ji31) < 16) = true := decide_eq_true c33
             clear c33
             by_cases c35 : 0 ≤ (Go.bits .and .u8 (bt a0 x9_1) 15)
             ·rw [if_pos c35] at H
              have c35b0 : decide (0 ≤ (Go.bits .and .u8 (bt a0 x9_1) 15)) = true := decide_eq_true c35
              clear c35
              by_cases c36 : (Go.bits .and .u8 (bt a0 x9_1) 15) < 16
              ·rw [if_pos c36] at H
               have c36b0 : decide ((Go.bits .and .u8 (bt a0 x9_1) 15) < 16) = true := decide_eq_true c36
               clear c36
               obtain ⟨y297, hy297⟩ : ∃ y_ : List Int, y_ = (([92, 120, bt (⟨#[48, 49, 50, 51, 52, 53, 54, 55, 56, 57, 97, 98, 99, 100, 101, 102]⟩ : ByteArray) (ji31), bt (⟨#[48, 49, 50, 51, 52, 53, 54, 55, 56, 57, 97, 98, 99, 100, 101, 102]⟩ : ByteArray) (Go.bits .and .u8 (bt a0 x9_1) 15)] : List Int)) := ⟨_, rfl⟩
               replace H : (if x3_1.length + y297.length < 140737488355328 then (label_Quoted.l0 kj7 a0 (x3_1 ++ y297) (a0.size : Int) (wrap64 (x9_1 + 1))) else (none)) = some r := by first | (rw [hy297]; with_reducible exact H) | (have H2_ := (Option.bind_some _ _).symm.trans H; rw [hy297]; with_reducible exact H2_) | (have H2_ := (Option.bind_some _ _).symm.trans H; with_reducible exact H2_) | with_reducible exact H | (rw [hy297]; exact H) | exact H
               have Ny297 := Aside0.mk hy297
               clear hy297
               by_cases c38 : x3_1.length + y297.length < 140737488355328
               ·rw [if_pos c38] at H
                have LMc38 := Aside0.mk c38
                clear c38
                obtain ⟨y300, hy300⟩ : ∃ y_ : List Int, y_ = (x3_1 ++ y297) := ⟨_, rfl⟩
                replace H : (label_Quoted.l0 kj7 a0 y300 (a0.size : Int) (wrap64 (x9_1 + 1))) = some r := by first | (rw [hy300]; with_reducible exact H) | (have H2_ := (Option.bind_some _ _).symm.trans H; rw [hy300]; with_reducible exact H2_) | (have H2_ := (Option.bind_some _ _).symm.trans H; with_reducible exact H2_) | with_reducible exact H | (rw [hy300]; exact H) | exact H
                have Ny300 := Aside0.mk hy300
                clear hy300
                have H' := Aside0.mk H
                clear H
                try go_wp2
                have n0_ := Aside0.mk (Kd.R_drew HO_3.out)
                have n1_ := Aside0.mk (below_drew1 HB.out)
                clear HO_3
                clear HB
                have HO_3 := n0_
                have HB := n1_
                clear n0_ n1_
                have p34 : 0 ≤ ((ji31) : Int) := of_decide_eq_true (by first | (with_reducible assumption) | assumption)
                have q34 : (ji31) < (16 : Int) := of_decide_eq_true (by first | (with_reducible assumption) | assumption)
                have hx34 := bt_at (⟨#[48, 49, 50, 51, 52, 53, 54, 55, 56, 57, 97, 98, 99, 100, 101, 102]⟩ : ByteArray) (ji31)
                replace p34 := eq_true p34
                replace q34 := eq_true q34
                have p37 : 0 ≤ ((Go.bits .and .u8 (bt a0 x9_1) 15) : Int) := of_decide_eq_true (by first | (with_reducible assumption) | assumption)
                have q37 : (Go.bits .and .u8 (bt a0 x9_1) 15) < (16 : Int) := of_decide_eq_true (by first | (with_reducible assumption) | assumption)
                have hx37 := bt_at (⟨#[48, 49, 50, 51, 52, 53, 54, 55, 56, 57, 97, 98, 99, 100, 101, 102]⟩ : ByteArray) (Go.bits .and .u8 (bt a0 x9_1) 15)
                replace p37 := eq_true p37
                replace q37 := eq_true q37
                refine start_ (n := 10) (S := fun w' => True) (ds := []) #[false, false, false, false, false, false, false, false, false, false] (by kernel_rfl) rfl rfl trivial (fun hHeld => ?_); refine with_tabW label_Quoted.tab10 label_Quoted.bits10 (fun HT_ HW_ => ?_)
                generalize wc.drew = w39 at HO_3 HB hHeld ⊢
                refine pure_ (i := 0) (N := some 37) (v := ?_) (a' := ?_) #[true, false, false, false, false, false, false, false, false, false] rfl rfl (any_of HT_.out (by kernel_rfl)) (fun _ _ _ h => h) (Or.inl ⟨by rfl, ?_⟩) ?_ ?_
                rotate_left
                ·intro w'
                 go_simp
                 with_reducible rfl
                rotate_left
                ·simp only [Act.put, List.setIfInBounds_toArray, List.set_cons_zero, List.set_cons_succ, i64_w, i32_w]
                 rfl
                refine pure_ (i := 1) (N := some 38) (v := ?_) (a' := ?_) #[true, true, false, false, false, false, false, false, false, false] rfl rfl (any_of HT_.out (by kernel_rfl)) (fun _ _ _ h => h) (Or.inl ⟨by rfl, ?_⟩) ?_ ?_
                rotate_left
                ·intro w'
                 go_simp
                 with_reducible rfl
                rotate_left
                ·simp only [Act.put, List.setIfInBounds_toArray, List.set_cons_zero, List.set_cons_succ, i64_w, i32_w]
                 rfl
                refine pure_ (i := 2) (N := some 39) (v := ?_) (a' := ?_) #[true, true, true, false, false, false, false, false, false, false] rfl rfl (any_of HT_.out (by kernel_rfl)) (fun _ _ _ h => h) (Or.inl ⟨by rfl, ?_⟩) ?_ ?_
                rotate_left
                ·intro w'
                 go_simp
                 with_reducible rfl
                rotate_left
                ·simp only [Act.put, List.setIfInBounds_toArray, List.set_cons_zero, List.set_cons_succ, i64_w, i32_w]
                 rfl
                refine pure_ (i := 4) (N := some 41) (v := ?_) (a' := ?_) #[true, true, true, false, true, false, false, false, false, false] rfl rfl (any_of HT_.out (by kernel_rfl)) (fun _ _ _ h => h) (Or.inl ⟨by rfl, ?_⟩) ?_ ?_
                rotate_left
                ·intro w'
                 go_simp
                 with_reducible rfl
                rotate_left
                ·simp only [Act.put, List.setIfInBounds_toArray, List.set_cons_zero, List.set_cons_succ, i64_w, i32_w]
                 rfl
                refine pure_ (i := 5) (N := some 42) (v := ?_) (a' := ?_) #[true, true, true, false, true, true, false, false, false, false] rfl rfl (any_of HT_.out (by kernel_rfl)) (fun _ _ _ h => h) (Or.inl ⟨by rfl, ?_⟩) ?_ ?_
                rotate_left
                ·intro w'
                 go_simp
                 with_reducible rfl
                rotate_left
                ·simp only [Act.put, List.setIfInBounds_toArray, List.set_cons_zero, List.set_cons_succ, i64_w, i32_w]
                 rfl
                refine take_ (i := 3) (N := some 40) (v := ?_) (a' := ?_) #[true, true, true, true, true, true, false, false, false, false] rfl rfl (take_ofW HT_.out HW_.out (by kernel_rfl)) (fun _ _ _ h => h) (Or.inl ⟨by rfl, ?_⟩) hHeld ?_ ?_
                rotate_left
                ·intro w' _
                 go_simp
                 with_reducible rfl
                rotate_left
                ·simp only [Act.put, List.setIfInBounds_toArray, List.set_cons_zero, List.set_cons_succ, i64_w, i32_w]
                 rfl
                refine take_ (i := 6) (N := some 43) (v := ?_) (a' := ?_) #[true, true, true, true, true, true, true, false, false, false] rfl rfl (take_ofW HT_.out HW_.out (by kernel_rfl)) (fun _ _ _ h => h) (Or.inl ⟨by rfl, ?_⟩) hHeld ?_ ?_
                rotate_left
                ·intro w' _
                 go_simp
                 with_reducible rfl
                rotate_left
                ·simp only [Act.put, List.setIfInBounds_toArray, List.set_cons_zero, List.set_cons_succ, i64_w, i32_w]
                 rfl
                refine one_ (i := 7) (N := some 44) #[true, true, true, true, true, true, true, true, false, false] rfl rfl (one_of HT_.out (by kernel_rfl)) (by decide) (fun K hK => ?_)
                refine Kd.R_lit_step (Kd.int .u8) _ 5 ?hg (N := 44) ?hd (xs := ([92, 120, bt (⟨#[48, 49, 50, 51, 52, 53, 54, 55, 56, 57, 97, 98, 99, 100, 101, 102]⟩ : ByteArray) (ji31), bt (⟨#[48, 49, 50, 51, 52, 53, 54, 55, 56, 57, 97, 98, 99, 100, 101, 102]⟩ : ByteArray) (Go.bits .and .u8 (bt a0 x9_1) 15)] : List Int)) (inner := [.int .u8 92, .int .u8 120, .int .u8 (bt (⟨#[48, 49, 50, 51, 52, 53, 54, 55, 56, 57, 97, 98, 99, 100, 101, 102]⟩ : ByteArray) (ji31)), .int .u8 (bt (⟨#[48, 49, 50, 51, 52, 53, 54, 55, 56, 57, 97, 98, 99, 100, 101, 102]⟩ : ByteArray) (Go.bits .and .u8 (bt a0 x9_1) 15))]) (ok := fun _ => True) (okp := fun _ => True) ?hr ?hp (fun _ hk => hk) trivial (Below.refl _ _) (Nat.le_refl _) (by simp) ?_; (case hd => rfl); (case hg => rfl); (case hr => first | (go_simp; done) | (go_simp; rfl)); (case hp => exact (Reps.one (show Kd.M (Kd.int .u8) _ _ _ 92 [.int .u8 92] from rfl) (Reps.one (show Kd.M (Kd.int .u8) _ _ _ 120 [.int .u8 120] from rfl) (Reps.one (show Kd.M (Kd.int .u8) _ _ _ (bt (⟨#[48, 49, 50, 51, 52, 53, 54, 55, 56, 57, 97, 98, 99, 100, 101, 102]⟩ : ByteArray) (ji31)) [.int .u8 (bt (⟨#[48, 49, 50, 51, 52, 53, 54, 55, 56, 57, 97, 98, 99, 100, 101, 102]⟩ : ByteArray) (ji31))] from rfl) (Reps.one (show Kd.M (Kd.int .u8) _ _ _ (bt (⟨#[48, 49, 50, 51, 52, 53, 54, 55, 56, 57, 97, 98, 99, 100, 101, 102]⟩ : ByteArray) (Go.bits .and .u8 (bt a0 x9_1) 15)) [.int .u8 (bt (⟨#[48, 49, 50, 51, 52, 53, 54, 55, 56, 57, 97, 98, 99, 100, 101, 102]⟩ : ByteArray) (Go.bits .and .u8 (bt a0 x9_1) 15))] from rfl) (Reps.none _ _))))))
                intro v298 w40 ho41 hb hg_ hnew_
                clear hg_ hnew_
                (first | rw [← Ny297.out] at ho41 | (simp only [Int.reduceToNat] at ho41; rw [← Ny297.out] at ho41))
                have n0_ := Aside0.mk (Kd.R_elder' (by (with_reducible repeat (first | apply Kd.R_alloc | apply Kd.R_drewN | apply Kd.R_drew)); exact HO_3.out) (Kd.R_base ho41) hb)
                have n1_ := Aside0.mk (Kd.R_lower (Kd.R_new' ho41 (Kd.R_lt (by (with_reducible repeat (first | apply Kd.R_alloc | apply Kd.R_drewN | apply Kd.R_drew)); exact HO_3.out))) (below_size (by repeat (first | (with_reducible first | exact HB.out | apply below_alloc | apply pw_below_drewN | apply below_drew1) | exact HB.out))))
                have n2_ := Aside0.mk (below_step (by repeat (first | (with_reducible first | exact HB.out | apply below_alloc | apply pw_below_drewN | apply below_drew1) | exact HB.out)) hb)
                clear HO_3
                clear HB
                have HO_3 := n0_
                have HO299 := n1_
                have HB := n2_
                clear n0_ n1_ n2_
                clear hb ho41
                obtain ⟨Ao43, co43, eo43⟩ := Kd.R_slice HO299.out
                (first | subst eo43 | (injection eo43 with f1_ f2_ f3_; have f4_ := f1_.symm; have f5_ := f3_.symm; clear f1_ f2_ f3_; subst f4_; subst f5_))
                refine hK.out _ _ trivial (fun hHeld => ?_)
                clear hK K
                refine norm_ (a' := ?_) ?_ ?_
                rotate_left
                ·show Act.put _ (some 44) _ = _
                 simp only [Act.put, List.setIfInBounds_toArray, List.set_cons_zero, List.set_cons_succ, i64_w, i32_w]
                 rfl
                refine one_ (i := 8) (N := some 45) #[true, true, true, true, true, true, true, true, true, false] rfl rfl (one_of HT_.out (by kernel_rfl)) (by decide) (fun K hK => ?_)
                refine Kd.R_append_rows_step (Kd.int .u8) (w0 := w) w.heap.size (by rfl) (.tmp 37) (.tmp 44) 85 5 (.int .u8 0) 1 rfl Try.underlying85 info5 rfl (by decide) (by omega) u3 x3_1 y297 _ _ _ (fun k_ => some k_ ≠ (.slice Ao43 y297.length co43 : Value).ownBlock) (fun _ => False) rfl rfl ?aO ?aR (fun _ _ h => h) (fun _ h => h.elim) ?aF ?aB ?aS ?aL ?_
                (case aR => repeat (first | exact (Kd.R_reads' HO299.out).2.2 | (with_reducible refine Kd.C_alloc ?_ _) | (with_reducible refine Kd.C_drewN ?_ _) | (with_reducible refine Kd.C_drew ?_)))
                (case aB => exact (by repeat (first | (with_reducible first | exact HB.out | apply below_alloc | apply pw_below_drewN | apply below_drew1) | exact HB.out)))
                (case aF => exact (fun k_ hk => Kd.fresh' (Kd.R_lt (by (with_reducible repeat (first | apply Kd.R_alloc | apply Kd.R_drewN | apply Kd.R_drew)); exact HO299.out)) k_ hk))
                (case aO => exact (by (with_reducible repeat (first | apply Kd.R_alloc | apply Kd.R_drewN | apply Kd.R_drew)); exact Kd.R_mono HO_3.out (fun _ hk => hk.2)))
                (case aS => exact (below_size (by repeat (first | (with_reducible first | exact HB.out | apply below_alloc | apply pw_below_drewN | apply below_drew1) | exact HB.out))))
                (case aL => have := LMc38.out; omega)
                intro v301 w42 ho hb hg hat
                rw [← Ny300.out] at ho
                have n0_ := Aside0.mk (Kd.R_after (ok := (fun _ => True)) (by (with_reducible repeat (first | apply Kd.R_alloc | apply Kd.R_drewN | apply Kd.R_drew)); exact HO299.out) hg hat)
                have n1_ := Aside0.mk (hb)
                have n2_ := Aside0.mk (ho)
                clear HO299
                clear HB
                clear HO_3
                have HO299 := n0_
                have HB := n1_
                have HO302 := n2_
                clear n0_ n1_ n2_
                clear ho hb hg hat
                refine hK.out _ _ trivial (fun hHeld => ?_)
                clear hK K
                refine norm_ (a' := ?_) ?_ ?_
                rotate_left
                ·show Act.put _ (some 45) _ = _
                 simp only [Act.put, List.setIfInBounds_toArray, List.set_cons_zero, List.set_cons_succ, i64_w, i32_w]
                 rfl
                refine pure_ (i := 9) (N := some 3) (v := ?_) (a' := ?_) #[true, true, true, true, true, true, true, true, true, true] rfl rfl (any_of HT_.out (by kernel_rfl)) (fun _ _ _ h => h) (Or.inl ⟨by rfl, ?_⟩) ?_ ?_
                rotate_left
                ·intro w'
                 go_simp
                 with_reducible rfl
                rotate_left
                ·simp only [Act.put, List.setIfInBounds_toArray, List.set_cons_zero, List.set_cons_succ, i64_w, i32_w]
                 rfl
                refine done_ (done_of HT_.out (by kernel_rfl)) ?_
                try go_wp2
                go_roundg kj7
                case measure => have := HK1.out; have := HJ7.out; omega
                case rel => exact ⟨(y300), (wrap64 (x9_1 + 1)), (by first | rfl | (simp; done) | (simp [*]; done)), H', ⟨by have := HK1.out; have := HJ7.out; omega⟩, ⟨by (with_reducible repeat (first | apply Kd.R_alloc | apply Kd.R_drewN | apply Kd.R_drew)); exact Kd.R_mono HO302.out (fun _ hk => trivial)⟩, ⟨by repeat (first | (with_reducible first | exact HB.out | apply below_alloc | apply pw_below_drewN | apply below_drew1) | exact HB.out)⟩⟩
               ·rw [if_neg c38] at H
                exact absurd H (by simp)
              ·rw [if_neg c36] at H
               exact absurd H (by simp)
             ·rw [if_neg c35] at H
              exact absurd H (by simp)
            ·rw [if_neg c33] at H
             exact absurd H (by simp)
           ·rw [if_neg c32] at H
            exact absurd H (by simp)
          ·rw [if_neg c30] at H
           have c30b0 : decide (127 ≤ (bt a0 x9_1)) = false := decide_eq_false c30
           clear c30
           by_cases c44 : x3_1.length < 140737488355328
           ·rw [if_pos c44] at H
            have LMc44 := Aside0.mk c44
            clear c44
            obtain ⟨y303, hy303⟩ : ∃ y_ : List Int, y_ = (x3_1 ++ [(bt a0 x9_1)]) := ⟨_, rfl⟩
            replace H : (label_Quoted.l0 kj7 a0 y303 (a0.size : Int) (wrap64 (x9_1 + 1))) = some r := by first | (rw [hy303]; with_reducible exact H) | (have H2_ := (Option.bind_some _ _).symm.trans H; rw [hy303]; with_reducible exact H2_) | (have H2_ := (Option.bind_some _ _).symm.trans H; with_reducible exact H2_) | with_reducible exact H | (rw [hy303]; exact H) | exact H
            have Ny303 := Aside0.mk hy303
            clear hy303
            have H' := Aside0.mk H
            clear H
            go_wp2_with (first | ((with_reducible refine gate_builtin (b := .append) (xs := #[.tmp 15, .tmp 17]) rfl ?_); at_builtin; refine Kd.R_append (Kd.int .u8) (w0 := w) w.heap.size rfl (.tmp 15) (.tmp 17) 85 5 (.int .u8 0) 1 rfl Try.underlying85 info5 rfl (by decide) (by omega) u3 x3_1 (bt a0 x9_1) [.int .u8 (bt a0 x9_1)] (fun _ => True) (fun _ => False) rfl rfl ?aP (fun _ hk => hk.elim) ?aF ?aO ?aB ?aS ?aL ?_; (case aP => exact rfl); (case aB => exact (by repeat (first | (with_reducible first | exact HB.out | apply below_alloc | apply pw_below_drewN | apply below_drew1) | exact HB.out))); (case aF => exact (fun _ _ => trivial)); (case aO => exact (by (with_reducible repeat (first | apply Kd.R_alloc | apply Kd.R_drewN | apply Kd.R_drew)); exact HO_3.out)); (case aS => exact (below_size (by repeat (first | (with_reducible first | exact HB.out | apply below_alloc | apply pw_below_drewN | apply below_drew1) | exact HB.out)))); (case aL => have := LMc44.out; omega); intro v304 w45 ho hb hg hat; rw [← Ny303.out] at ho; have n0_ := Aside0.mk (hb); have n1_ := Aside0.mk (ho); clear HB; clear HO_3; have HB := n0_; have HO305 := n1_; clear n0_ n1_; clear ho hb hg hat))
            go_roundg kj7
            case measure => have := HK1.out; have := HJ7.out; omega
            case rel => exact ⟨(y303), (wrap64 (x9_1 + 1)), (by first | rfl | (simp; done) | (simp [*]; done)), H', ⟨by have := HK1.out; have := HJ7.out; omega⟩, ⟨by (with_reducible repeat (first | apply Kd.R_alloc | apply Kd.R_drewN | apply Kd.R_drew)); exact HO305.out⟩, ⟨by repeat (first | (with_reducible first | exact HB.out | apply below_alloc | apply pw_below_drewN | apply below_drew1) | exact HB.out)⟩⟩
           ·rw [if_neg c44] at H
            exact absurd H (by simp)
     ·rw [if_neg c6] at H
      exact absurd H (by simp)
    ·rw [if_neg c5] at H
     exact absurd H (by simp)
   ·rw [if_neg c4] at H
    have c4b0 : decide (x9_1 < (a0.size : Int)) = false := decide_eq_false c4
    clear c4
    by_cases c46 : x3_1.length < 140737488355328
    ·rw [if_pos c46] at H
     have LMc46 := Aside0.mk c46
     clear c46
     obtain ⟨y282, hy282⟩ : ∃ y_ : List Int, y_ = (x3_1 ++ [34]) := ⟨_, rfl⟩
     replace H : (some (strOfNums y282)) = some r := by first | (rw [hy282]; with_reducible exact H) | (have H2_ := (Option.bind_some _ _).symm.trans H; rw [hy282]; with_reducible exact H2_) | (have H2_ := (Option.bind_some _ _).symm.trans H; with_reducible exact H2_) | with_reducible exact H | (rw [hy282]; exact H) | exact H
     have Ny282 := Aside0.mk hy282
     clear hy282
     obtain rfl := Option.some.inj H
     go_wp2_with (first | ((with_reducible refine gate_builtin (b := .append) (xs := #[.tmp 47, .tmp 48]) rfl ?_); at_builtin; refine Kd.R_append (Kd.int .u8) (w0 := w) w.heap.size rfl (.tmp 47) (.tmp 48) 85 5 (.int .u8 0) 1 rfl Try.underlying85 info5 rfl (by decide) (by omega) u3 x3_1 34 [.int .u8 34] (fun _ => True) (fun _ => False) rfl rfl ?aP (fun _ hk => hk.elim) ?aF ?aO ?aB ?aS ?aL ?_; (case aP => exact rfl); (case aB => exact (by repeat (first | (with_reducible first | exact HB.out | apply below_alloc | apply pw_below_drewN | apply below_drew1) | exact HB.out))); (case aF => exact (fun _ _ => trivial)); (case aO => exact (by (with_reducible repeat (first | apply Kd.R_alloc | apply Kd.R_drewN | apply Kd.R_drew)); exact HO_3.out)); (case aS => exact (below_size (by repeat (first | (with_reducible first | exact HB.out | apply below_alloc | apply pw_below_drewN | apply below_drew1) | exact HB.out)))); (case aL => have := LMc46.out; omega); intro v283 w47 ho hb hg hat; rw [← Ny282.out] at ho; have n0_ := Aside0.mk (hb); have n1_ := Aside0.mk (ho); clear HB; clear HO_3; have HB := n0_; have HO284 := n1_; clear n0_ n1_; clear ho hb hg hat; have hcv48 := own_string (P := Try.prog) Try.underlying85 Try.underlying5 Try.underlying9 (Kd.own_of_R HO284.out)))
     go_ret
     exact ⟨by first | rfl | (simp [errW_none, errW_some] <;> rfl) | (simp [*, errW_none, errW_some] <;> rfl), by repeat (first | (with_reducible first | exact HB.out | apply below_alloc | apply pw_below_drewN | apply below_drew1) | exact HB.out)⟩
    ·rw [if_neg c46] at H
     exact absurd H (by simp)

-- NOT PRINTED: function 191 (abi_NoEscape)

-- NOT PRINTED: function 183 (strings_Builder_copyCheck)

-- NOT PRINTED: function 192 (bytealg_MakeNoZero)

-- NOT PRINTED: function 184 (strings_Builder_grow)

-- NOT PRINTED: function 165 (strings_Builder_Grow)

-- NOT PRINTED: function 166 (strings_Builder_WriteString)

-- NOT PRINTED: function 167 (strings_Builder_String)

-- NOT PRINTED: function 126 (strings_Join)
def match_sign.f (a0 : Int) : Option (ByteArray) := if a0 = 5 then (some (⟨#[38]⟩ : ByteArray)) else (if a0 = 6 then (some (⟨#[124]⟩ : ByteArray)) else (some (⟨#[33]⟩ : ByteArray)))
set_option maxHeartbeats 8000000 in
set_option maxRecDepth 100000 in
theorem match_sign.calls (a0 : Int) (r : ByteArray) (w : World) (h : match_sign.f a0 = some r) :
  Calls Try.prog 159 #[.int .i64 a0] w fun e w' => e = .returned (.string r) ∧ Drawn0 w w' := by
 have H : (if a0 = 5 then (some (⟨#[38]⟩ : ByteArray)) else (if a0 = 6 then (some (⟨#[124]⟩ : ByteArray)) else (some (⟨#[33]⟩ : ByteArray)))) = some r := h
 clear h
 by_cases c2 : a0 = 5
 ·rw [if_pos c2] at H
  have c2b0 : (a0 == 5) = true := beq_iff_eq.mpr c2
  have c2b1 : (a0 != 5) = false := bne_eq_false_iff_eq.mpr c2
  clear c2
  obtain rfl := Option.some.inj H
  go_enter Try.func159, Try.ntmps159
  go_wp2
  go_ret
  exact ⟨by first | rfl | (simp; done) | (simp [*]; done), by repeat (first | exact Drawn0.refl _ | apply Drawn0.step)⟩
 ·rw [if_neg c2] at H
  have c2b0 : (a0 == 5) = false := beq_eq_false_iff_ne.mpr c2
  have c2b1 : (a0 != 5) = true := bne_iff_ne.mpr c2
  by_cases c3 : a0 = 6
  ·rw [if_pos c3] at H
   have c3b0 : (a0 == 6) = true := beq_iff_eq.mpr c3
   have c3b1 : (a0 != 6) = false := bne_eq_false_iff_eq.mpr c3
   clear c3
   obtain rfl := Option.some.inj H
   go_enter Try.func159, Try.ntmps159
   go_wp2
   go_ret
   exact ⟨by first | rfl | (simp; done) | (simp [*]; done), by repeat (first | exact Drawn0.refl _ | apply Drawn0.step)⟩
  ·rw [if_neg c3] at H
   have c3b0 : (a0 == 6) = false := beq_eq_false_iff_ne.mpr c3
   have c3b1 : (a0 != 6) = true := bne_iff_ne.mpr c3
   obtain rfl := Option.some.inj H
   go_enter Try.func159, Try.ntmps159
   go_wp2
   go_ret
   exact ⟨by first | rfl | (simp; done) | (simp [*]; done), by repeat (first | exact Drawn0.refl _ | apply Drawn0.step)⟩

-- NOT PRINTED: function 110 (match_text)

-- NOT PRINTED: function 61 (match_Text)

-- NOT PRINTED: function 52 (varvelaw12_awake)

-- NOT PRINTED: function 9 (varvelaw12_MatchChecks)

-- NOT PRINTED: function 10 (varvelaw12_MatchEvals)

-- NOT PRINTED: function 11 (varvelaw12_MatchLaws)
end Go.Proofs.Yteafilojjdfllaa.PAll
end
section
namespace Go.Proofs
open Go.Shelf
def Try.lays156_ren : Go.Shelf.Ren := ⟨fun | 156 => 126 | 165 => 165 | 166 => 166 | 169 => 167 | 240 => 183 | 241 => 184 | 276 => 191 | 277 => 192 | n => n, fun | 31 => 22 | 9 => 9 | 3 => 3 | 4 => 4 | 0 => 0 | 20 => 20 | 72 => 188 | 76 => 192 | 70 => 186 | 37 => 85 | 75 => 191 | 127 => 204 | 164 => 205 | 5 => 5 | 80 => 160 | n => n, fun | n => n⟩
theorem Try.lays156 : Go.Proofs.Lays.n156 Try.prog Try.lays156_ren := {
 mixed := by kernel_rfl
 f156 := Try.func126.trans (congrArg some (by kernel_rfl))
 f165 := Try.func165.trans (congrArg some (by kernel_rfl))
 f166 := Try.func166.trans (congrArg some (by kernel_rfl))
 f169 := Try.func167.trans (congrArg some (by kernel_rfl))
 f240 := Try.func183.trans (congrArg some (by kernel_rfl))
 f241 := Try.func184.trans (congrArg some (by kernel_rfl))
 f276 := Try.func191.trans (congrArg some (by kernel_rfl))
 f277 := Try.func192.trans (congrArg some (by kernel_rfl))
 t0 := Try.underlying0
 a0 := Try.isAgg0
 z0 := Try.sizeOf0
 v0 := Try.zeroValue0
 t3 := Try.underlying3
 a3 := Try.isAgg3
 z3 := Try.sizeOf3
 v3 := Try.zeroValue3
 t4 := Try.underlying4
 a4 := Try.isAgg4
 z4 := Try.sizeOf4
 v4 := Try.zeroValue4
 t9 := Try.underlying9
 a9 := Try.isAgg9
 z9 := Try.sizeOf9
 v9 := Try.zeroValue9
 t20 := Try.underlying20
 a20 := Try.isAgg20
 z20 := Try.sizeOf20
 v20 := Try.zeroValue20
 t31 := Try.underlying22
 a31 := Try.isAgg22
 z31 := Try.sizeOf22
 v31 := Try.zeroValue22
 t37 := Try.underlying85
 a37 := Try.isAgg85
 z37 := Try.sizeOf85
 v37 := Try.zeroValue85
 t70 := Try.underlying186
 a70 := Try.isAgg186
 z70 := Try.sizeOf186
 v70 := Try.zeroValue186
 t72 := Try.underlying188
 a72 := Try.isAgg188
 z72 := Try.sizeOf188
 v72 := Try.zeroValue188
 t75 := Try.underlying191
 a75 := Try.isAgg191
 z75 := Try.sizeOf191
 v75 := Try.zeroValue191
 t76 := Try.underlying192
 a76 := Try.isAgg192
 z76 := Try.sizeOf192
 v76 := Try.zeroValue192
 t127 := Try.underlying204
 a127 := Try.isAgg204
 z127 := Try.sizeOf204
 v127 := Try.zeroValue204
 t164 := Try.underlying205
 a164 := Try.isAgg205
 z164 := Try.sizeOf205
 v164 := Try.zeroValue205 }
theorem Try.Builder_Extra_156 : Builder.Extra Try.prog Try.lays156_ren := {
 sizeBuilder := by kernel_rfl
 liesBuilder := by kernel_rfl
 t5 := Try.underlying5
 a5 := Try.isAgg5
 z5 := Try.sizeOf5
 v5 := Try.zeroValue5
 infoByte := by kernel_rfl
 cellsByte := by kernel_rfl
 sizeByte := by kernel_rfl
 neB5 := by decide }
open Go.RowKit in
/-- No element: the empty string; the world is as it was. (Whatever the slice's address and capacity: a nil slice too.) (LAID: no walk: one application.) -/
theorem Try.strings_Join_none (a : Option Addr) (c : Nat) (sep : ByteArray) (w : World) :
  Calls Try.prog 126 #[.slice a 0 c, .string sep] w fun e w' => e = .returned (.string ⟨#[]⟩) ∧ w' = w := Any.strings_Join_none Try.lays156 Try.Builder_Extra_156 a c sep w
open Go.RowKit in
/-- strings.Join: "Join concatenates the elements of its first argument to create a single string. The separator string sep is placed between elements in the resulting string.": HOWEVER MANY ELEMENTS. Below the heap's end the world is as it was. (LAID: no walk: one application.) -/
theorem Try.strings_Join (bk o c : Nat) (xs : List ByteArray) (sep : ByteArray) (w : World) (hcells : ∀ (j : Nat) x, xs[j]? = some x → w.cell? ⟨bk, o + j, none⟩ = some (.string x)) (hbk : bk < w.heap.size) (hN : xs.length ≤ 140737488355328) (hcap : xs.length ≤ c) (hlen : (Lib.join (xs.map (·.data.toList)) sep.data.toList).length ≤ 140737488355328) :
  Calls Try.prog 126 #[.slice (some ⟨bk, o, none⟩) xs.length c, .string sep] w fun e w' => e = .returned (.string ⟨(Lib.join (xs.map (·.data.toList)) sep.data.toList).toArray⟩) ∧ Below w.heap.size w w' := Any.strings_Join Try.lays156 Try.Builder_Extra_156 bk o c xs sep w hcells hbk hN hcap hlen
def Try.lays137_ren : Go.Shelf.Ren := ⟨fun | 137 => 131 | 217 => 168 | 266 => 185 | n => n, fun | 9 => 9 | 5 => 5 | 3 => 3 | n => n, fun | n => n⟩
theorem Try.lays137 : Go.Proofs.Lays.n137 Try.prog Try.lays137_ren := {
 mixed := by kernel_rfl
 f137 := Try.func131.trans (congrArg some (by kernel_rfl))
 f217 := Try.func168.trans (congrArg some (by kernel_rfl))
 f266 := Try.func185.trans (congrArg some (by kernel_rfl))
 t3 := Try.underlying3
 a3 := Try.isAgg3
 z3 := Try.sizeOf3
 v3 := Try.zeroValue3
 t5 := Try.underlying5
 a5 := Try.isAgg5
 z5 := Try.sizeOf5
 v5 := Try.zeroValue5
 t9 := Try.underlying9
 a9 := Try.isAgg9
 z9 := Try.sizeOf9
 v9 := Try.zeroValue9 }
open Go.RowKit in
/-- strings.IndexByte: "IndexByte returns the index of the first instance of c in s, or -1 if c is not present in s.": IT RETURNS 'Lib.indexByte s c'; the world is as it was. (LAID: no walk: one application.) -/
theorem Try.strings_IndexByte (s : ByteArray) (c : Int) (w : World) :
  Calls Try.prog 131 #[.string s, .int .u8 c] w fun e w' => e = .returned (.int .i64 (Lib.indexByte s.data.toList c.toNat.toUInt8)) ∧ w' = w := Any.strings_IndexByte Try.lays137 s c w
def Try.lays217_ren : Go.Shelf.Ren := ⟨fun | 217 => 168 | 266 => 185 | n => n, fun | 9 => 9 | 5 => 5 | 3 => 3 | n => n, fun | n => n⟩
theorem Try.lays217 : Go.Proofs.Lays.n217 Try.prog Try.lays217_ren := {
 mixed := by kernel_rfl
 f217 := Try.func168.trans (congrArg some (by kernel_rfl))
 f266 := Try.func185.trans (congrArg some (by kernel_rfl))
 t3 := Try.underlying3
 a3 := Try.isAgg3
 z3 := Try.sizeOf3
 v3 := Try.zeroValue3
 t5 := Try.underlying5
 a5 := Try.isAgg5
 z5 := Try.sizeOf5
 v5 := Try.zeroValue5
 t9 := Try.underlying9
 a9 := Try.isAgg9
 z9 := Try.sizeOf9
 v9 := Try.zeroValue9 }
open Go.RowKit Go.Lib in
/-- internal/stringslite.IndexByte (what strings.IndexByte calls): IT RETURNS 'Lib.indexByte s c'; the world is as it was. (LAID: no walk: one application.) -/
theorem Try.stringslite_IndexByte (s : ByteArray) (c : Int) (w : World) :
  Calls Try.prog 168 #[.string s, .int .u8 c] w fun e w' => e = .returned (.int .i64 (Lib.indexByte s.data.toList c.toNat.toUInt8)) ∧ w' = w := Any.stringslite_IndexByte Try.lays217 s c w
end Go.Proofs
end
section
namespace Go.Proofs.Yteafilojjdfllaa
open Go Go.RowKit Go.Proofs.YteafilojjdfllaaW.PrintWords Go.Proofs.YteafilojjdfllaaW.PrintLast Go.Proofs.YteafilojjdfllaaW.PrintMore Go.Proofs.Yteafilojjdfllaa.PAll
def ints (l : List UInt8) : List Int := l.map fun b => (b.toNat : Int)
theorem ints_app (a b : List UInt8) : ints (a ++ b) = ints a ++ ints b := by simp [ints]
theorem ints_len (a : List UInt8) : (ints a).length = a.length := by simp [ints]
theorem and15 : ∀ n : Fin 256, Go.bits .and .u8 (n.val : Int) 15 = ((n.val % 16 : Nat) : Int) := by decide +kernel
theorem digit_at : ∀ n : Fin 16, bt (⟨#[48, 49, 50, 51, 52, 53, 54, 55, 56, 57, 97, 98, 99, 100, 101, 102]⟩ : ByteArray) (n.val : Int) = ((hexD n.val).toNat : Int) := by decide +kernel
theorem quoted_l0 (t : ByteArray) (ht : t.size ≤ 1000000) : ∀ (d i k : Nat) (x : List Int), i ≤ t.size → t.size ≤ i + d → 2 * d < k → x.length + 4 * d ≤ 100000000 →
  label_Quoted.l0 k t x (t.size : Int) (i : Int) = some (strOfNums (x ++ ints ((t.data.toList.drop i).flatMap encB) ++ [34]))
 | d, i, 0, _, _, _, h, _ => by omega
 | d, i, k + 1, x, hi, hd, hk, hx => by
  simp only [label_Quoted.l0]
  by_cases hlt : i < t.size
  ·obtain ⟨d, rfl⟩ : ∃ q, d = q + 1 := ⟨d - 1, by omega⟩
   obtain ⟨k, rfl⟩ : ∃ q, k = q + 1 := ⟨k - 1, by omega⟩
   have ih := fun x' (hx' : x'.length + 4 * d ≤ 100000000) => quoted_l0 t ht d (i + 1) k x' (by omega) (by omega) (by omega) hx'
   rw [if_pos (by omega), if_pos (by omega), if_pos (by omega), bt_nat t i hlt, bdrop t i hlt]
   generalize t.data.toList.getD i 0 = c
   have hc := c.toNat_lt
   have h92 : c = 92 ↔ (c.toNat : Int) = 92 := ⟨fun h => by rw [h]; rfl, fun h => UInt8.toNat_inj.1 (by have : (92 : UInt8).toNat = 92 := rfl; omega)⟩
   have h34 : c = 34 ↔ (c.toNat : Int) = 34 := ⟨fun h => by rw [h]; rfl, fun h => UInt8.toNat_inj.1 (by have : (34 : UInt8).toNat = 34 := rfl; omega)⟩
   rw [List.flatMap_cons, ints_app]
   have two : ∀ y : List Int, y.length ≤ 4 → ints (encB c) = y → (some y : Option (List Int)).bind (fun y2 => if x.length + y2.length < 140737488355328 then label_Quoted.l0 k t (x ++ y2) (t.size : Int) (wrap64 ((i : Int) + 1)) else none) = some (strOfNums (x ++ (ints (encB c) ++ ints ((t.data.toList.drop (i + 1)).flatMap encB)) ++ [34])) := by
    intro y hy e
    rw [Option.bind_some, if_pos (by omega), w64s i (by omega), ih (x ++ y) (by rw [List.length_append]; omega), e, List.append_assoc x y]
   have hex : 32 > (c.toNat : Int) ∨ (c.toNat : Int) ≥ 127 → ¬ c = 34 ∧ ¬ c = 92 → (if 0 ≤ ((c.toNat : Int) / 16) then (if ((c.toNat : Int) / 16) < 16 then (if 0 ≤ (Go.bits .and .u8 (c.toNat : Int) 15) then (if (Go.bits .and .u8 (c.toNat : Int) 15) < 16 then ((some (([92, 120, bt (⟨#[48, 49, 50, 51, 52, 53, 54, 55, 56, 57, 97, 98, 99, 100, 101, 102]⟩ : ByteArray) ((c.toNat : Int) / 16), bt (⟨#[48, 49, 50, 51, 52, 53, 54, 55, 56, 57, 97, 98, 99, 100, 101, 102]⟩ : ByteArray) (Go.bits .and .u8 (c.toNat : Int) 15)] : List Int) : List Int)).bind fun y2 => (if x.length + y2.length < 140737488355328 then (label_Quoted.l0 k t (x ++ y2) (t.size : Int) (wrap64 ((i : Int) + 1))) else (none))) else (none)) else (none)) else (none)) else (none)) = some (strOfNums (x ++ (ints (encB c) ++ ints ((t.data.toList.drop (i + 1)).flatMap encB)) ++ [34])) := by
    intro h1 h2
    have ha := and15 ⟨c.toNat, hc⟩
    have hd1 := digit_at ⟨c.toNat / 16, by omega⟩
    have hd2 := digit_at ⟨c.toNat % 16, by omega⟩
    simp only at ha hd1 hd2
    rw [ha, if_pos (by omega), if_pos (by omega), if_pos (by omega), if_pos (by omega)]
    rw [show (c.toNat : Int) / 16 = ((c.toNat / 16 : Nat) : Int) by omega, hd1, hd2]
    refine two _ (by simp) ?_
    unfold encB
    rw [if_neg (by rintro (h | h); exact h2.1 h; exact h2.2 h), if_pos (by omega)]
    rfl
   by_cases e34 : (c.toNat : Int) = 34
   ·rw [if_pos e34]
    simp only [label_Quoted.j1, if_true]
    exact two _ (by simp) (by unfold encB; rw [if_pos (Or.inl (h34.2 e34))]; rfl)
   ·rw [if_neg e34]
    by_cases e92 : (c.toNat : Int) = 92
    ·simp only [label_Quoted.j1, e92, beq_self_eq_true, if_true]
     exact two _ (by simp) (by unfold encB; rw [if_pos (Or.inr (h92.2 e92))]; simp [ints, e92])
    ·have hb : ((c.toNat : Int) == 92) = false := by rw [beq_eq_false_iff_ne]; exact e92
     simp only [label_Quoted.j1, hb]
     rw [if_neg (by decide)]
     have hno : ¬ c = 34 ∧ ¬ c = 92 := ⟨fun h => e34 (h34.1 h), fun h => e92 (h92.1 h)⟩
     by_cases e1 : (c.toNat : Int) < 32
     ·rw [if_pos e1]
      exact hex (Or.inl (by omega)) hno
     ·rw [if_neg e1]
      by_cases e2 : (c.toNat : Int) ≥ 127
      ·rw [if_pos e2]
       exact hex (Or.inr e2) hno
      ·rw [if_neg e2, if_pos (by omega), w64s i (by omega), ih (x ++ [(c.toNat : Int)]) (by rw [List.length_append, List.length_singleton]; omega)]
       have : encB c = [c] := by
        unfold encB
        rw [if_neg (by rintro (h | h); exact hno.1 h; exact hno.2 h), if_neg (by omega)]
       rw [this]
       simp [ints]
  ·rw [if_neg (by omega), if_pos (by omega), List.drop_of_length_le (by simp; omega)]
   simp [ints]
theorem label_Quoted.val (t : ByteArray) (ht : t.size ≤ 1000000) (k : Nat) (hk : 2 * t.size < k) : label_Quoted.f k t = some ⟨(quoteT t).toArray⟩ := by
 have h := quoted_l0 t ht t.size 0 k [34] (by omega) (by omega) hk (by simp; omega)
 rw [label_Quoted.f]
 rw [show ((0 : Nat) : Int) = 0 from rfl, List.drop_zero] at h
 rw [h, ← Lib.Lz.strOfNums_map]
 simp [quoteT, quoteL, ints]
/-- a text between quotes -/
def qB (v : ByteArray) : ByteArray := ⟨(quoteT v).toArray⟩
theorem quoted125 (w : World) (t : ByteArray) (ht : t.size ≤ 1000000) : Calls Try.prog 125 #[.string t] w fun e w' => e = .returned (.string (qB t)) ∧ Below w.heap.size w w' :=
 label_Quoted.calls (2 * t.size + 1) t _ w (label_Quoted.val t ht _ (Nat.lt_succ_self _))
theorem infoSt : (Try.prog.info? 9).map (fun i => (i.zero, i.size, i.bytes)) = some (some (.string ByteArray.empty), 1, 16) := by kernel_rfl
/-- strings.Join at a comma, over a list of the call's own -/
theorem join126 (w : World) (base : Nat) (v : Value) (xs : List ByteArray) (ho : w.ownsRow base 9 1 v xs.length (encs Value.string xs)) (hn : xs.length ≤ 1000000) (hl : (commas (xs.map (·.data.toList))).length ≤ 140737488355328) :
  Calls Try.prog 126 #[v, .string ⟨#[44]⟩] w fun e w' => e = .returned (.string ⟨(commas (xs.map (·.data.toList))).toArray⟩) ∧ Below w.heap.size w w' := by
 cases xs with
 | nil =>
  obtain ⟨A, c, rfl⟩ := own_slice ho
  exact (Try.strings_Join_none A c ⟨#[44]⟩ w).mono fun e w' ⟨he, hw⟩ => ⟨he, by rw [hw]; exact Below.refl _ _⟩
 | cons x xs =>
  have hlt := own_lt ho
  have hle := own_slice ho
  rcases ho.2 with ⟨_, h0⟩ | ⟨g, cap, cur, rfl, hb, hg, hcap, _⟩
  ·simp at h0
  ·have h := Try.strings_Join g 0 cap (x :: xs) ⟨#[44]⟩ w (fun j u hu => by
    have := ho.cells (g := g) rfl j (.string u) (by rw [encs_get (d := ByteArray.empty) (x :: xs) j (List.getElem?_eq_some_iff.1 hu).1]; simp [List.getD_eq_getElem?_getD, hu])
    rw [add_plain] at this
    rwa [Nat.zero_add]) (hlt g (by simp [Value.ownBlock])) (by omega) hcap (by rw [show (⟨#[44]⟩ : ByteArray).data.toList = [44] from rfl, commas_join]; exact hl)
   rw [show (⟨#[44]⟩ : ByteArray).data.toList = [44] from rfl, commas_join] at h
   exact h
theorem ba_ext {a b : ByteArray} (h : a.data.toList = b.data.toList) : a = b := by
 cases a; cases b
 simp only at h
 rw [Array.toList_inj.1 h]
theorem takeD {α : Type} (xs : List α) (z : α) (j : Nat) (h : j < xs.length) : xs.take (j + 1) = xs.take j ++ [xs.getD j z] := by
 rw [List.take_succ_eq_append_getElem h]; simp [List.getD_eq_getElem?_getD, h]
theorem qB_map (vs : List ByteArray) : (vs.map qB).map (·.data.toList) = vs.map quoteT := by simp [qB, Function.comp_def]
theorem add_to {a b c : ByteArray} (h : a.data.toList ++ b.data.toList = c.data.toList) (hs : c.data.toList.length ≤ 1000000000) : Op.stringOp .add a b = pure (.string c) := by
 have e : c = a ++ b := ba_ext (by rw [← h]; simp [ByteArray.data_append])
 have e1 : a.data.toList.length = a.size := by simp
 have e2 : b.data.toList.length = b.size := by simp
 have hl : a.size + b.size ≤ 1000000000 := by rw [← h, List.length_append] at hs; omega
 unfold Op.stringOp
 simp only
 rw [if_neg (by rw [show IntKind.i64.max = 9223372036854775807 from rfl]; omega), e]
end Go.Proofs.Yteafilojjdfllaa
end
section
namespace Go.Proofs.Yteafilojjdfllaa
open Go Go.RowKit Go.Proofs.YteafilojjdfllaaW.PrintWords Go.Proofs.Yteafilojjdfllaa.PAll
theorem toList_iff {a b : ByteArray} : a.toList = b.toList ↔ a = b := by
 rw [ByteArray.toList_eq, ByteArray.toList_eq]
 constructor
 ·intro h
  cases a; cases b
  simp only at h
  rw [Array.toList_inj.1 h]
 ·intro h; rw [h]
end Go.Proofs.Yteafilojjdfllaa
end
section
namespace Go.Proofs.Yteafilojjdfllaa
open Go Go.RowKit Go.Proofs.YteafilojjdfllaaW.PrintWords Go.Proofs.YteafilojjdfllaaW.PrintLast Go.Proofs.YteafilojjdfllaaW.PrintMore Go.Proofs.Yteafilojjdfllaa.PAll
set_option maxRecDepth 100000 in
set_option maxHeartbeats 8000000 in
theorem matcher107 : ∀ (N : Nat) (m : S25), nodesM m ≤ N → wideM m → nodesM m ≤ 200 → ∀ (d : Int) (A3 : Option Addr) (c3 : Nat) (A4 : Option Addr) (c4 : Nat) (w : World), 0 ≤ d → d + depthM m ≤ 12 →
  MC w m A3 c3 A4 c4 →
  Calls Try.prog 107 #[.agg #[.int .i64 m.f0, .string m.f1, .string m.f2, .slice A3 m.f3.length c3, .slice A4 m.f4.length c4], .int .i64 d] w (CopyPost w m) := by
 intro N
 induction N with
 | zero => intro m h; rw [nodesM_mk] at h; omega
 | succ N ih =>
  rintro ⟨op, t1, t2, vs, ks⟩ hN hw h200
  have IH := Lib.hid ih
  clear ih
  intro d A3 c3 A4 c4 w hd0 hd1 hM
  obtain ⟨hw1, hw2⟩ := (wideM_mk _).1 hw
  simp only at hw1
  have Hw2 := Lib.hid hw2
  have Hdep := Lib.hid (depthM_mk ⟨op, t1, t2, vs, ks⟩)
  have hks : ks.length ≤ 200 := by have := len_nodes ks; rw [nodesM_mk] at h200; simp only at h200; omega
  have hdd : ks.length = 0 ∨ d + 1 + depthL ks ≤ 12 := by right; rw [Hdep.out] at hd1; simp only at hd1; omega
  have hR3 := Kd.reads_of_C (enc := Value.string) (d := ByteArray.empty) (h1 := fun _ => rfl) hM.2.1
  simp only at hR3
  have hB0 : Below w.heap.size w ((w.alloc (.cells #[.int .i64 op, .string t1, .string t2, .slice A3 vs.length c3, .slice A4 ks.length c4] 25)).alloc (.cells #[.int .i64 0, .string ⟨#[]⟩, .string ⟨#[]⟩, .slice none 0 0, .slice none 0 0] 25)) := below_alloc (below_alloc (Below.refl _ _) _) _
  have HR := Lib.hid (hR3.below hB0)
  have hX0 : BoxM ((w.alloc (.cells #[.int .i64 op, .string t1, .string t2, .slice A3 vs.length c3, .slice A4 ks.length c4] 25)).alloc (.cells #[.int .i64 0, .string ⟨#[]⟩, .string ⟨#[]⟩, .slice none 0 0, .slice none 0 0] 25)) w.heap.size op t1 t2 (.slice A3 vs.length c3) (.slice A4 ks.length c4) := by
   have h1 := blk_new w (.cells #[.int .i64 op, .string t1, .string t2, .slice A3 vs.length c3, .slice A4 ks.length c4] 25)
   exact (Below.heap_alloc _ _ _ (by simp)).trans h1
  have hP0 : ((w.alloc (.cells #[.int .i64 op, .string t1, .string t2, .slice A3 vs.length c3, .slice A4 ks.length c4] 25)).alloc (.cells #[.int .i64 0, .string ⟨#[]⟩, .string ⟨#[]⟩, .slice none 0 0, .slice none 0 0] 25)).heap[w.heap.size + 1]? = some (.cells #[.int .i64 0, .string ⟨#[]⟩, .string ⟨#[]⟩, .slice none 0 0, .slice none 0 0] 25 (0, 0)) := by
   have h1 := blk_new (w.alloc (.cells #[.int .i64 op, .string t1, .string t2, .slice A3 vs.length c3, .slice A4 ks.length c4] 25)) (.cells #[.int .i64 0, .string ⟨#[]⟩, .string ⟨#[]⟩, .slice none 0 0, .slice none 0 0] 25)
   rwa [World.size_alloc] at h1
  have hS0 : ((w.alloc (.cells #[.int .i64 op, .string t1, .string t2, .slice A3 vs.length c3, .slice A4 ks.length c4] 25)).alloc (.cells #[.int .i64 0, .string ⟨#[]⟩, .string ⟨#[]⟩, .slice none 0 0, .slice none 0 0] 25)).heap.size = w.heap.size + 2 := by simp
  have HS := Lib.hid hS0
  clear hw hw2 hR3 hS0
  go_enter Try.func107, Try.ntmps107
  go_wp2_with (at_builtin; refine print_append_row_of (w0 := ((w.alloc (.cells #[.int .i64 op, .string t1, .string t2, .slice A3 vs.length c3, .slice A4 ks.length c4] 25)).alloc (.cells #[.int .i64 0, .string ⟨#[]⟩, .string ⟨#[]⟩, .slice none 0 0, .slice none 0 0] 25))) (W := ((w.alloc (.cells #[.int .i64 op, .string t1, .string t2, .slice A3 vs.length c3, .slice A4 ks.length c4] 25)).alloc (.cells #[.int .i64 0, .string ⟨#[]⟩, .string ⟨#[]⟩, .slice none 0 0, .slice none 0 0] 25))) .string ByteArray.empty (w.heap.size + 2) rfl (.const (.slice none 0 0)) (.tmp 8) 22 9 (.string ByteArray.empty) 16 rfl Try.underlying22 infoS rfl (by decide) (fun _ => rfl) _ [] vs A3 vs.length c3 rfl rfl (own_nil _ _ _ _) HR.out (Below.refl _ _) (Nat.le_of_eq HS.out.symm) ?_ ?_; (simp; omega); intro v1 w1 hown1 hbel1 hg1 hat1; obtain ⟨Av, cv, rfl, hcv, hrv⟩ := own_reads_of_le (enc := Value.string) (d := ByteArray.empty) hown1; have hX1 := hX0.below (HS.out ▸ hbel1); have hP1 := (hbel1.block (w.heap.size + 1) (by omega)).trans hP0; have j3 := hX1.c3; have z3 := blk_frozen hX1 3)
  simp only [List.nil_append] at hown1 hcv hrv
  have hX2 : BoxM (w1.setCell ⟨w.heap.size, 3, none⟩ (.slice Av vs.length cv)) w.heap.size op t1 t2 (.slice Av vs.length cv) (.slice A4 ks.length c4) := by
   simpa [BoxM] using blk_set hX1 3 (.slice Av vs.length cv)
  have hown2 : (w1.setCell ⟨w.heap.size, 3, none⟩ (.slice Av vs.length cv)).ownsRow (w.heap.size + 2) 9 1 (.slice Av vs.length cv) vs.length (encs Value.string vs) :=
   own_move hown1 (fun k hk => Below.heap_setCell _ _ _ k (by have := (hown1.lt _ hk).1; simp; omega))
  have hP2 : (w1.setCell ⟨w.heap.size, 3, none⟩ (.slice Av vs.length cv)).heap[w.heap.size + 1]? = some (.cells #[.int .i64 0, .string ⟨#[]⟩, .string ⟨#[]⟩, .slice none 0 0, .slice none 0 0] 25 (0, 0)) := (Below.heap_setCell _ _ _ _ (by simp)).trans hP1
  have hB2 : Below w.heap.size w (w1.setCell ⟨w.heap.size, 3, none⟩ (.slice Av vs.length cv)) := (hB0.trans (hbel1.mono (by omega))).setCell (Nat.le_refl _) _
  have hS2 : w.heap.size + 2 ≤ (w1.setCell ⟨w.heap.size, 3, none⟩ (.slice Av vs.length cv)).heap.size := by have := hbel1.size; have := HS.out; simp; omega
  obtain ⟨W3, e3⟩ : ∃ W3, w1.setCell ⟨w.heap.size, 3, none⟩ (.slice Av vs.length cv) = W3 := ⟨_, rfl⟩
  rw [e3] at hX2 hown2 hP2 hB2 hS2 ⊢
  clear e3 hX1 hP1 hg1 hat1 hown1 hcv hrv hbel1 j3 z3 hX0 hP0 hB0 HR HS
  go_loopw [5, 6] (fun u5 u6 wr => ∃ (j : Nat) (cells : List Value), u6 = .int .i64 j ∧ j ≤ ks.length ∧ BoxM wr w.heap.size op t1 t2 (.slice Av vs.length cv) (.slice A4 ks.length c4) ∧ wr.heap[w.heap.size + 1]? = some (.cells #[.int .i64 0, .string ⟨#[]⟩, .string ⟨#[]⟩, .slice none 0 0, .slice none 0 0] 25 (0, 0)) ∧ wr.ownsRow (w.heap.size + 2) 9 1 (.slice Av vs.length cv) vs.length (encs Value.string vs) ∧ wr.ownsRow (w.heap.size + 2) 25 5 u5 j cells ∧ Reps (KR wr (Part (w.heap.size + 2) wr u5)) 5 (ks.take j) cells ∧ Below w.heap.size w wr ∧ w.heap.size + 2 ≤ wr.heap.size)
   (fun _ u6 _ => ks.length - (intOf u6).toNat)
  case atStart => exact ⟨0, [], rfl, Nat.zero_le _, hX2, hP2, hown2, World.ownsRow_nil _ _ _ _, by simpa using Reps.none _ _, hB2, hS2⟩
  case round =>
   clear hX2 hP2 hown2 hB2 hS2
   obtain ⟨j, cells, rfl, hj, hXr, hPr, hO3, hO4, hRr, hBr, hSr⟩ := hrel
   have y4 := hXr.c4
   by_cases hlt : j < ks.length
   ·have hd10 : d + 1 + depthL ks ≤ 12 := by rcases hdd with h | h; omega; exact h
    obtain ⟨ad, B3, e3, B4, e4, rfl, hMk, k0, k1, k2, k3, k4⟩ := hM.kid j hlt
    simp only at k0 k1 k2 k3 k4 hMk
    have k0 := pw_cell_below hBr k0
    have k1 := pw_cell_below hBr k1
    have k2 := pw_cell_below hBr k2
    have k3 := pw_cell_below hBr k3
    have k4 := pw_cell_below hBr k4
    have hmem : ks.getD j z25 ∈ ks := by simp [List.getD_eq_getElem?_getD, hlt]
    have hsmall := nodes_lt ⟨op, t1, t2, vs, ks⟩ _ hmem
    have hdk := depth_kid hlt
    have Hwk := Lib.hid (wideL_at Hw2.out hlt)
    have hdl : 1 ≤ depthM (ks.getD j z25) := by rw [depthM_mk]; omega
    have Htake := Lib.hid (show ks.take (j + 1) = ks.take j ++ [ks.getD j z25] from by rw [List.take_succ_eq_append_getElem hlt]; simp [List.getD_eq_getElem?_getD, hlt])
    obtain ⟨kid, ek⟩ : ∃ kid, ks.getD j z25 = kid := ⟨_, rfl⟩
    rw [ek] at hMk k0 k1 k2 k3 k4 hsmall hdk Hwk Htake hdl
    clear ek hmem
    obtain ⟨Au, cu, rfl⟩ := own_slice hO4
    have hlt2 : ∀ k, (Value.slice Au j cu).ownBlock = some k → w.heap.size + 2 ≤ k ∧ k < wr.heap.size := fun k hk => hO4.lt _ hk
    have Hlt2 := Lib.hid hlt2
    clear hlt2
    go_wp2_with (first | (go_at_call 107; (with_reducible refine (IH.out kid (by omega) Hwk.out (by omega) (d + 1) B3 e3 B4 e4 _ (by omega) (by omega) (hMk.below hBr)).mono ?_); rintro e w5 ⟨D3, f3, D4, f4, rfl, hMF, hB5⟩; have HMF := Lib.hid hMF; clear hMF) | (at_builtin; refine print_append_cells (w0 := w5) (W := w5) (w.heap.size + 2) rfl (.tmp 22) (.tmp 31) 23 25 (.agg #[.int .i64 0, .string ⟨#[]⟩, .string ⟨#[]⟩, .slice none 0 0, .slice none 0 0]) 5 88 rfl Try.underlying23 infoM rfl (by decide) (by decide) (.slice Au j cu) j cells [.int .i64 kid.f0, .string kid.f1, .string kid.f2, .slice D3 kid.f3.length f3, .slice D4 kid.f4.length f4] rfl rfl rfl (by intro u hu; simp only [List.mem_cons, List.not_mem_nil, or_false] at hu; rcases hu with rfl | rfl | rfl | rfl | rfl <;> rfl) (pw_own_below hO4 hB5) (Below.refl _ _) (by have := hB5.size; omega) (by omega) ?_; intro v2 w2 hown2 hb2 hg2 hat2))
    go_roundw
    case rel =>
     have hs5 := hB5.size
     have hs2 := hg2.size
     have hX5 := hXr.below hB5
     have hl2 := Hlt2.out
     have hne0 : some w.heap.size ≠ (Value.slice Au j cu).ownBlock := fun e => by have := hl2 _ e.symm; omega
     have hne1 : some (w.heap.size + 1) ≠ (Value.slice Au j cu).ownBlock := fun e => by have := hl2 _ e.symm; omega
     have hXf : BoxM w2 w.heap.size op t1 t2 (.slice Av vs.length cv) (.slice (some ad) ks.length c4) := (hg2.block _ hX5.lt hne0).trans hX5
     have hP5 := (hB5.block (w.heap.size + 1) (by omega)).trans hPr
     have hPf := (hg2.block (w.heap.size + 1) (by omega) hne1).trans hP5
     have hO3f := (pw_own_below hO3 hB5).kept hg2 (own_type_ne (pw_own_below hO3 hB5) (pw_own_below hO4 hB5) (by decide))
     have hfar : ∀ b, b < w5.heap.size → (Value.slice Au j cu).ownBlock ≠ some b → v2.ownBlock ≠ some b := fun b hb hne e => by
      rcases hat2 with h | ⟨b', h, hb'⟩
      ·exact hne (h.symm.trans e)
      ·rw [h] at e; cases e; omega
     refine ⟨j + 1, cells ++ [.int .i64 kid.f0, .string kid.f1, .string kid.f2, .slice D3 kid.f3.length f3, .slice D4 kid.f4.length f4], by go_num, by omega, hXf, hPf, hO3f, hown2, ?_, (hBr.trans (hB5.mono (by omega))).grown hg2 (by omega) (fun k hk => by have := hl2 k hk; omega), by omega⟩
     rw [Htake.out]
     refine Reps.snoc (hRr.imp_ (fun p c hk => hk.move (fun b hb => ?_))) ⟨D3, f3, D4, f4, rfl, HMF.out.move (fun b hb => ?_)⟩ rfl
     ·obtain ⟨b1, b2, b3⟩ := hb
      exact ⟨⟨b1, by omega, hfar b (by omega) b3⟩, (hg2.block b (by omega) (fun e => b3 e.symm)).trans (hB5.block b b2)⟩
     ·obtain ⟨b1, b2⟩ := hb
      have b3 : (Value.slice Au j cu).ownBlock ≠ some b := fun e => by have := hl2 b e; omega
      exact ⟨⟨by omega, by omega, hfar b b2 b3⟩, hg2.block b b2 (fun e => b3 e.symm)⟩
    case measure => simp [intOf]; omega
   ·obtain rfl : j = ks.length := by omega
    rw [List.take_length] at hRr
    obtain ⟨F3, g3, F4, g4, ev3, ev4, hMF⟩ := MF.of_rows (m := ⟨op, t1, t2, vs, ks⟩) (lo' := w.heap.size + 2) hO3 hO4 hRr (Nat.le_refl _)
    simp only at ev3 ev4
    cases ev3
    subst ev4
    have HMF := Lib.hid hMF
    clear hMF hRr hO3 hO4
    have z4 := blk_frozen hXr 4
    have hX4 : BoxM (wr.setCell ⟨w.heap.size, 4, none⟩ (.slice F4 ks.length g4)) w.heap.size op t1 t2 (.slice Av vs.length cv) (.slice F4 ks.length g4) := by
     simpa [BoxM] using blk_set hXr 4 (.slice F4 ks.length g4)
    have c0 := hX4.c0
    have c1 := hX4.c1
    have c2 := hX4.c2
    have c3' := hX4.c3
    have c4' := hX4.c4
    have hP4 : (wr.setCell ⟨w.heap.size, 4, none⟩ (.slice F4 ks.length g4)).heap[w.heap.size + 1]? = some (.cells #[.int .i64 0, .string ⟨#[]⟩, .string ⟨#[]⟩, .slice none 0 0, .slice none 0 0] 25 (0, 0)) := (Below.heap_setCell _ _ _ _ (by simp)).trans hPr
    have d0 := blk_cell hP4 0
    have d1 := blk_cell hP4 1
    have d2 := blk_cell hP4 2
    have d3 := blk_cell hP4 3
    have d4 := blk_cell hP4 4
    simp only [List.getElem?_toArray, List.getElem?_cons_zero, List.getElem?_cons_succ] at d0 d1 d2 d3 d4
    have q0 := blk_frozen hP4 0
    have q1 := blk_frozen hP4 1
    have q2 := blk_frozen hP4 2
    have q3 := blk_frozen hP4 3
    have q4 := blk_frozen hP4 4
    go_wp2
    have f4 := blk_set (blk_set (blk_set (blk_set (blk_set hP4 0 (.int .i64 op)) 1 (.string t1)) 2 (.string t2)) 3 (.slice Av vs.length cv)) 4 (.slice F4 ks.length g4)
    simp at f4
    have hBf : Below w.heap.size w ((((((wr.setCell ⟨w.heap.size, 4, none⟩ (.slice F4 ks.length g4)).setCell ⟨w.heap.size + 1, 0, none⟩ (.int .i64 op)).setCell ⟨w.heap.size + 1, 1, none⟩ (.string t1)).setCell ⟨w.heap.size + 1, 2, none⟩ (.string t2)).setCell ⟨w.heap.size + 1, 3, none⟩ (.slice Av vs.length cv)).setCell ⟨w.heap.size + 1, 4, none⟩ (.slice F4 ks.length g4)) :=
     (((((hBr.setCell (by simp) _).setCell (by simp) _).setCell (by simp) _).setCell (by simp) _).setCell (by simp) _).setCell (by simp) _
    refine bodyPost_ret (results_single rfl (.cell (w.heap.size + 1) 25 _ (0, 0) _ rfl f4 Try.underlying25 rfl (by kernel_rfl) .nil)) rfl ⟨Av, cv, F4, g4, rfl, HMF.out.move (fun b hb => ⟨⟨by omega, by simpa using hb.2⟩, ?_⟩), hBf⟩
    have hb1 : b ≠ w.heap.size := by omega
    have hb2 : b ≠ w.heap.size + 1 := by omega
    rw [Below.heap_setCell _ _ _ b (by simpa using hb2), Below.heap_setCell _ _ _ b (by simpa using hb2), Below.heap_setCell _ _ _ b (by simpa using hb2), Below.heap_setCell _ _ _ b (by simpa using hb2), Below.heap_setCell _ _ _ b (by simpa using hb2), Below.heap_setCell _ _ _ b (by simpa using hb1)]
end Go.Proofs.Yteafilojjdfllaa
end
section
namespace Go.Proofs.Yteafilojjdfllaa
open Go Go.RowKit Go.Proofs.YteafilojjdfllaaW.PrintWords Go.Proofs.YteafilojjdfllaaW.PrintLast Go.Proofs.YteafilojjdfllaaW.PrintMore Go.Proofs.Yteafilojjdfllaa.PAll
set_option maxRecDepth 100000 in
set_option maxHeartbeats 4000000 in
/-- varveref12.Check. -/
theorem check36 (w : World) (m : S25) (A3 : Option Addr) (c3 : Nat) (A4 : Option Addr) (c4 : Nat) (hb : boundM m) (hM : MC w m A3 c3 A4 c4) :
  Calls Try.prog 36 #[.agg #[.int .i64 m.f0, .string m.f1, .string m.f2, .slice A3 m.f3.length c3, .slice A4 m.f4.length c4]] w fun e w' => e = .returned (.bool (chkB m)) ∧ Below w.heap.size w w' := by
 have hB : Below w.heap.size w ((w.alloc (.cells #[.int .i64 m.f0, .string m.f1, .string m.f2, .slice A3 m.f3.length c3, .slice A4 m.f4.length c4] 25)).alloc (.cells #[.int .i64 0, .int .i64 0, .bool false] 122)) := below_alloc (below_alloc (Below.refl _ _) _) _
 have hI : IsS122 w ((w.alloc (.cells #[.int .i64 m.f0, .string m.f1, .string m.f2, .slice A3 m.f3.length c3, .slice A4 m.f4.length c4] 25)).alloc (.cells #[.int .i64 0, .int .i64 0, .bool false] 122)) (w.heap.size + 1) 0 0 false := by
  have := IsS122.new w (w.alloc (.cells #[.int .i64 m.f0, .string m.f1, .string m.f2, .slice A3 m.f3.length c3, .slice A4 m.f4.length c4] 25)) 0 0 false (below_alloc (Below.refl _ _) _)
  rwa [World.size_alloc] at this
 have hh := look99 (nodesM m) m (Nat.le_refl _) hb 1 0 0 A3 c3 A4 c4 (w.heap.size + 1) w _ (by decide) (by decide) (by decide) (by decide) (by decide) (by decide) hM hB hI
 go_enter Try.func36, Try.ntmps36
 go_wp2_with fail
 (with_reducible refine hh.mono ?_)
 rintro e w5 ⟨rfl, hB5, -, n', b', hI5, -⟩
 have hy := cellS122_2 hI5.1
 have hq : (!(!chk 1 m (64 - 0) (4096 - 0))) = chkB m := by rw [Bool.not_not]; rfl
 have Hq := Lib.hid hq
 clear hq
 obtain ⟨v, ev⟩ : ∃ v, (!chk 1 m (64 - 0) (4096 - 0)) = v := ⟨_, rfl⟩
 rw [ev] at hy Hq
 clear ev hI5
 go_wp2_with fail
 go_ret
 exact ⟨by rw [← Hq.out]; rfl, hB5⟩
end Go.Proofs.Yteafilojjdfllaa
end
section
namespace Go.Proofs.Yteafilojjdfllaa
open Go Go.RowKit Go.Proofs.YteafilojjdfllaaW.PrintWords Go.Proofs.YteafilojjdfllaaW.PrintLast Go.Proofs.YteafilojjdfllaaW.PrintMore Go.Proofs.Yteafilojjdfllaa.PAll
set_option maxRecDepth 100000 in
set_option maxHeartbeats 4000000 in
/-- varvelaw00.Matcher. -/
theorem matcher54 (w : World) (m : S25) (A3 : Option Addr) (c3 : Nat) (A4 : Option Addr) (c4 : Nat) (ht : tinyP 0 m) (hM : MC w m A3 c3 A4 c4) :
  Calls Try.prog 54 #[.agg #[.int .i64 m.f0, .string m.f1, .string m.f2, .slice A3 m.f3.length c3, .slice A4 m.f4.length c4]] w (CopyPost w m) := by
 obtain ⟨h1, h2, h3, h4⟩ := ht
 have hB0 : Below w.heap.size w ((w.alloc (.cells #[.int .i64 m.f0, .string m.f1, .string m.f2, .slice A3 m.f3.length c3, .slice A4 m.f4.length c4] 25)).alloc (.cells #[.int .i64 0, .string ⟨#[]⟩, .string ⟨#[]⟩, .slice none 0 0, .slice none 0 0] 25)) := below_alloc (below_alloc (Below.refl _ _) _) _
 have hh := matcher107 (nodesM m) m (Nat.le_refl _) h3 h4 0 A3 c3 A4 c4 _ (by decide) h1 (hM.below hB0)
 have hP0 := blk_new (w.alloc (.cells #[.int .i64 m.f0, .string m.f1, .string m.f2, .slice A3 m.f3.length c3, .slice A4 m.f4.length c4] 25)) (.cells #[.int .i64 0, .string ⟨#[]⟩, .string ⟨#[]⟩, .slice none 0 0, .slice none 0 0] 25)
 rw [World.size_alloc] at hP0
 have Hh := Lib.hid hh
 clear hh h1 h2 h3 h4
 go_enter Try.func54, Try.ntmps54
 go_wp2_with fail
 (with_reducible refine Hh.out.mono ?_)
 rintro e w5 ⟨D3, f3, D4, f4, rfl, hMF, hB5⟩
 have hs5 := hB5.size
 simp only [World.size_alloc] at hs5
 have hP5 := (hB5.block (w.heap.size + 1) (by simp)).trans hP0
 have HMF := Lib.hid hMF
 have HB5 := Lib.hid (below_step hB0 hB5)
 clear hMF hB5 hP0 Hh hB0
 have d0 := blk_cell hP5 0
 have d1 := blk_cell hP5 1
 have d2 := blk_cell hP5 2
 have d3 := blk_cell hP5 3
 have d4 := blk_cell hP5 4
 simp only [List.getElem?_toArray, List.getElem?_cons_zero, List.getElem?_cons_succ] at d0 d1 d2 d3 d4
 have q0 := blk_frozen hP5 0
 have q1 := blk_frozen hP5 1
 have q2 := blk_frozen hP5 2
 have q3 := blk_frozen hP5 3
 have q4 := blk_frozen hP5 4
 go_wp2
 have f4' := blk_set (blk_set (blk_set (blk_set (blk_set hP5 0 (.int .i64 m.f0)) 1 (.string m.f1)) 2 (.string m.f2)) 3 (.slice D3 m.f3.length f3)) 4 (.slice D4 m.f4.length f4)
 simp at f4'
 refine bodyPost_ret (results_single rfl (.cell (w.heap.size + 1) 25 _ (0, 0) _ rfl f4' Try.underlying25 rfl (by kernel_rfl) .nil)) rfl ⟨D3, f3, D4, f4, rfl, HMF.out.move (fun b hb => ⟨⟨by have := hb.1; simp at this; omega, by simpa using hb.2⟩, ?_⟩), ?_⟩
 ·have hb2 : b ≠ w.heap.size + 1 := by have := hb.1; simp at this; omega
  rw [Below.heap_setCell _ _ _ b (by simpa using hb2), Below.heap_setCell _ _ _ b (by simpa using hb2), Below.heap_setCell _ _ _ b (by simpa using hb2), Below.heap_setCell _ _ _ b (by simpa using hb2), Below.heap_setCell _ _ _ b (by simpa using hb2)]
 ·exact ((((HB5.out.setCell (by simp) _).setCell (by simp) _).setCell (by simp) _).setCell (by simp) _).setCell (by simp) _
theorem check36v (w : World) (m : S25) (A3 : Option Addr) (c3 : Nat) (A4 : Option Addr) (c4 : Nat) (v : Bool) (hv : chkB m = v) (hb : boundM m) (hM : MC w m A3 c3 A4 c4) :
  Calls Try.prog 36 #[.agg #[.int .i64 m.f0, .string m.f1, .string m.f2, .slice A3 m.f3.length c3, .slice A4 m.f4.length c4]] w fun e w' => e = .returned (.bool v) ∧ Below w.heap.size w w' := hv ▸ check36 w m A3 c3 A4 c4 hb hM
theorem check53v (w : World) (m : S25) (A3 : Option Addr) (c3 : Nat) (A4 : Option Addr) (c4 : Nat) (v : Bool) (hv : chkB m = v) (hM : MC w m A3 c3 A4 c4) :
  Calls Try.prog 53 #[.agg #[.int .i64 m.f0, .string m.f1, .string m.f2, .slice A3 m.f3.length c3, .slice A4 m.f4.length c4]] w fun e w' => e = .returned (.bool v) ∧ Below w.heap.size w w' := hv ▸ check53 w m A3 c3 A4 c4 hM
/-- does a matcher that may be take these labels? -/
def evalB (l : List S68) (m : S25) : Bool := chkB m && evalM l m
set_option maxRecDepth 100000 in
set_option maxHeartbeats 4000000 in
/-- match.Eval. -/
theorem Eval55 (w : World) (m : S25) (A3 : Option Addr) (c3 : Nat) (A4 : Option Addr) (c4 : Nat) (A1 : Option Addr) (c1 : Nat) (l : List S68) (v : Bool) (hv : evalB l m = v) (h1000 : nodesM m ≤ 1000) (hM : MC w m A3 c3 A4 c4) (hl : l.length ≤ 4000000000000000000) (h1 : l.length ≤ c1) (g1 : Kd.C k68 w A1 l.length l) :
  Calls Try.prog 55 #[.agg #[.int .i64 m.f0, .string m.f1, .string m.f2, .slice A3 m.f3.length c3, .slice A4 m.f4.length c4], .slice A1 l.length c1] w fun e w' => e = .returned (.bool v) ∧ Below w.heap.size w w' := by
 have hB0 : Below w.heap.size w (w.alloc (.cells #[.int .i64 m.f0, .string m.f1, .string m.f2, .slice A3 m.f3.length c3, .slice A4 m.f4.length c4] 25)) := below_alloc (Below.refl _ _) _
 have hX0 : BoxM (w.alloc (.cells #[.int .i64 m.f0, .string m.f1, .string m.f2, .slice A3 m.f3.length c3, .slice A4 m.f4.length c4] 25)) w.heap.size m.f0 m.f1 m.f2 (.slice A3 m.f3.length c3) (.slice A4 m.f4.length c4) := blk_new w _
 unfold evalB at hv
 have G1 := Lib.hid g1
 cases h3 : chkB m with
 | false =>
  rw [h3, Bool.false_and] at hv
  subst hv
  have H3 := Lib.hid h3
  clear h3 g1
  go_enter Try.func55, Try.ntmps55
  go_wp2_with fail
  (with_reducible refine (check53v _ m A3 c3 A4 c4 false H3.out (hM.below hB0)).mono ?_)
  rintro e w1 ⟨rfl, hb1⟩
  go_wp2_with fail
  go_ret
  exact ⟨rfl, below_step hB0 hb1⟩
 | true =>
  rw [h3, Bool.true_and] at hv
  have Hok := Lib.hid (chk_def.1 h3).1
  obtain ⟨m1, m2, m3, m4⟩ := hM.below hB0
  have H3 := Lib.hid h3
  have Hv := Lib.hid hv
  clear h3 g1 hv
  go_enter Try.func55, Try.ntmps55
  go_wp2_with fail
  (with_reducible refine (check53v _ m A3 c3 A4 c4 true H3.out (hM.below hB0)).mono ?_)
  rintro e w1 ⟨rfl, hb1⟩
  have hX1 := hX0.below hb1
  have x0 := hX1.c0
  have x1 := hX1.c1
  have x2 := hX1.c2
  have x3 := hX1.c3
  have x4 := hX1.c4
  have hB1 := below_step hB0 hb1
  go_wp2_with fail
  (with_reducible refine (eval108 _ m A3 c3 A4 c4 A1 c1 l v Hv.out h1000 Hok.out hl m1 (Kd.C_below m2 hb1) m3 (Kd.C_below m4 hb1) h1 (Kd.C_below G1.out hB1)).mono ?_)
  rintro e w2 ⟨rfl, hb2⟩
  go_wp2_with fail
  go_ret
  exact ⟨rfl, below_step hB1 hb2⟩
end Go.Proofs.Yteafilojjdfllaa
end
section
namespace Go.Proofs.Yteafilojjdfllaa
open Go Go.RowKit Go.Proofs.YteafilojjdfllaaW.PrintWords Go.Proofs.YteafilojjdfllaaW.PrintLast Go.Proofs.YteafilojjdfllaaW.PrintMore Go.Proofs.Yteafilojjdfllaa.PAll
/-- a matcher's text -/
def tB (m : S25) : ByteArray := ⟨(textM m).toArray⟩
theorem sign159 (w : World) (op : Int) (s : ByteArray) (h : match_sign.f op = some s) : Calls Try.prog 159 #[.int .i64 op] w fun e w' => e = .returned (.string s) ∧ Below w.heap.size w w' :=
 (match_sign.calls op s w h).mono fun _ _ h => ⟨h.1, h.2.below⟩
theorem sizes_mem : ∀ {vs : List ByteArray} {x : ByteArray}, x ∈ vs → x.size ≤ sizes vs
 | v :: vs, x, h => by
  simp only [sizes]
  rcases List.mem_cons.1 h with rfl | h
  ·omega
  ·have := sizes_mem h; omega
theorem bytesL_mem : ∀ {ks : List S25} {x : S25}, x ∈ ks → bytesM x ≤ bytesL ks
 | v :: vs, x, h => by
  simp only [bytesL]
  rcases List.mem_cons.1 h with rfl | h
  ·omega
  ·have := bytesL_mem h; omega
theorem tB_map (ks : List S25) : (ks.map tB).map (·.data.toList) = ks.map textM := by simp [tB, Function.comp_def]
set_option maxRecDepth 100000 in
set_option maxHeartbeats 8000000 in
theorem text110 : ∀ (N : Nat) (m : S25), nodesM m ≤ N → okM m = true → nodesM m ≤ 1000 → bytesM m ≤ 1000000 → ∀ (A3 : Option Addr) (c3 : Nat) (A4 : Option Addr) (c4 : Nat) (w : World), MC w m A3 c3 A4 c4 →
  Calls Try.prog 110 #[.agg #[.int .i64 m.f0, .string m.f1, .string m.f2, .slice A3 m.f3.length c3, .slice A4 m.f4.length c4]] w fun e w' => e = .returned (.string (tB m)) ∧ Below w.heap.size w w' := by
 intro N
 induction N with
 | zero => intro m h; rw [nodesM_mk] at h; omega
 | succ N ih =>
  intro m hN hok h1000 hbytes A3 c3 A4 c4 w hM
  have IH := Lib.hid ih
  clear ih
  have hlen := textM_len _ m (Nat.le_refl _) hok
  have hB0 : Below w.heap.size w (w.alloc (.cells #[.int .i64 m.f0, .string m.f1, .string m.f2, .slice A3 m.f3.length c3, .slice A4 m.f4.length c4] 25)) := below_alloc (Below.refl _ _) _
  have hX0 : BoxM (w.alloc (.cells #[.int .i64 m.f0, .string m.f1, .string m.f2, .slice A3 m.f3.length c3, .slice A4 m.f4.length c4] 25)) w.heap.size m.f0 m.f1 m.f2 (.slice A3 m.f3.length c3) (.slice A4 m.f4.length c4) := blk_new w _
  have hb := bytesM_mk m
  have hnd := nodesM_mk m
  rcases shape hok with rfl | ⟨op, n, v, ho, hn, rfl⟩ | ⟨n, vs, hn, rfl⟩ | ⟨op, ks, ho, hk, rfl⟩
  ·simp only at hX0 hB0 ⊢
   go_enter Try.func110, Try.ntmps110
   go_wp2
   go_ret
   exact ⟨rfl, hB0⟩
  ·simp only at hX0 hB0 hb ⊢
   have hv : v.size ≤ 1000000 := by omega
   have hT := text_n (n := n) (v := v) (vs := []) (show op = 1 ∨ op = 2 ∨ op = 3 ∨ op = 4 by omega)
   have hn2 : n.data.toList.length ≤ 1000000 := by rw [show n.data.toList.length = n.size by simp]; omega
   have hq := quoteT_len v
   rcases ho with rfl | rfl | rfl
   ·obtain ⟨s1, e1⟩ : ∃ s1 : ByteArray, s1.data.toList = n.data.toList ++ [61] := ⟨⟨(n.data.toList ++ [61]).toArray⟩, rfl⟩
    have a1 : Op.stringOp .add n ⟨#[61]⟩ = pure (.string s1) := add_to (by rw [e1]) (by rw [e1, List.length_append]; simp only [List.length_cons, List.length_nil]; omega)
    have eT : ∀ t, t = tB ⟨1, n, v, [], []⟩ → s1.data.toList ++ (qB v).data.toList = t.data.toList := fun t ht => by rw [ht, e1]; unfold tB; rw [hT]; simp [textN, qB]
    obtain ⟨t, et⟩ : ∃ t, t = tB ⟨1, n, v, [], []⟩ := ⟨_, rfl⟩
    have a2 : Op.stringOp .add s1 (qB v) = pure (.string t) := add_to (eT t et) (by rw [← eT t et, List.length_append, e1, List.length_append]; simp only [qB, List.length_cons, List.length_nil]; omega)
    rw [← et]
    have hXd := hX0.below (below_drew (Below.refl _ _))
    have hBd := below_drew hB0
    clear hT hM hok hlen hN h1000 hbytes hb IH hnd eT e1 et hq hn2
    have f1 := hXd.c1
    have f2 := hXd.c2
    go_enter Try.func110, Try.ntmps110
    go_wp2_with fail
    go_region_held3 (fun w' => w'.cell? ⟨w.heap.size, 1, none⟩ = some (.string n) ∧ w'.cell? ⟨w.heap.size, 2, none⟩ = some (.string v) ∧ Below w.heap.size w w')
     (first | exact ⟨by assumption, by assumption, by assumption⟩)
     (first | (go_at_call 125; (with_reducible refine (quoted125 _ v hv).mono ?_); rintro e w1 ⟨rfl, hb1⟩; have hX1 := hXd.below hb1; have f1 := hX1.c1; have f2 := hX1.c2; have hB1 := below_step hBd hb1))
    rename_i hS
    have hBe := hS.2.2
    clear hS
    go_wp2_with fail
    go_ret
    exact ⟨rfl, hBe⟩
   ·obtain ⟨s1, e1⟩ : ∃ s1 : ByteArray, s1.data.toList = n.data.toList ++ [33, 61] := ⟨⟨(n.data.toList ++ [33, 61]).toArray⟩, rfl⟩
    have a1 : Op.stringOp .add n ⟨#[33, 61]⟩ = pure (.string s1) := add_to (by rw [e1]) (by rw [e1, List.length_append]; simp only [List.length_cons, List.length_nil]; omega)
    have eT : ∀ t, t = tB ⟨2, n, v, [], []⟩ → s1.data.toList ++ (qB v).data.toList = t.data.toList := fun t ht => by rw [ht, e1]; unfold tB; rw [hT]; simp [textN, qB]
    obtain ⟨t, et⟩ : ∃ t, t = tB ⟨2, n, v, [], []⟩ := ⟨_, rfl⟩
    have a2 : Op.stringOp .add s1 (qB v) = pure (.string t) := add_to (eT t et) (by rw [← eT t et, List.length_append, e1, List.length_append]; simp only [qB, List.length_cons, List.length_nil]; omega)
    rw [← et]
    have hXd := hX0.below (below_drew (Below.refl _ _))
    have hBd := below_drew hB0
    clear hT hM hok hlen hN h1000 hbytes hb IH hnd eT e1 et hq hn2
    have f1 := hXd.c1
    have f2 := hXd.c2
    go_enter Try.func110, Try.ntmps110
    go_wp2_with fail
    go_region_held3 (fun w' => w'.cell? ⟨w.heap.size, 1, none⟩ = some (.string n) ∧ w'.cell? ⟨w.heap.size, 2, none⟩ = some (.string v) ∧ Below w.heap.size w w')
     (first | exact ⟨by assumption, by assumption, by assumption⟩)
     (first | (go_at_call 125; (with_reducible refine (quoted125 _ v hv).mono ?_); rintro e w1 ⟨rfl, hb1⟩; have hX1 := hXd.below hb1; have f1 := hX1.c1; have f2 := hX1.c2; have hB1 := below_step hBd hb1))
    rename_i hS
    have hBe := hS.2.2
    clear hS
    go_wp2_with fail
    go_ret
    exact ⟨rfl, hBe⟩
   ·obtain ⟨s1, e1⟩ : ∃ s1 : ByteArray, s1.data.toList = n.data.toList ++ [94, 61] := ⟨⟨(n.data.toList ++ [94, 61]).toArray⟩, rfl⟩
    have a1 : Op.stringOp .add n ⟨#[94, 61]⟩ = pure (.string s1) := add_to (by rw [e1]) (by rw [e1, List.length_append]; simp only [List.length_cons, List.length_nil]; omega)
    have eT : ∀ t, t = tB ⟨3, n, v, [], []⟩ → s1.data.toList ++ (qB v).data.toList = t.data.toList := fun t ht => by rw [ht, e1]; unfold tB; rw [hT]; simp [textN, qB]
    obtain ⟨t, et⟩ : ∃ t, t = tB ⟨3, n, v, [], []⟩ := ⟨_, rfl⟩
    have a2 : Op.stringOp .add s1 (qB v) = pure (.string t) := add_to (eT t et) (by rw [← eT t et, List.length_append, e1, List.length_append]; simp only [qB, List.length_cons, List.length_nil]; omega)
    rw [← et]
    have hXd := hX0.below (below_drew (Below.refl _ _))
    have hBd := below_drew hB0
    clear hT hM hok hlen hN h1000 hbytes hb IH hnd eT e1 et hq hn2
    have f1 := hXd.c1
    have f2 := hXd.c2
    go_enter Try.func110, Try.ntmps110
    go_wp2_with fail
    go_region_held3 (fun w' => w'.cell? ⟨w.heap.size, 1, none⟩ = some (.string n) ∧ w'.cell? ⟨w.heap.size, 2, none⟩ = some (.string v) ∧ Below w.heap.size w w')
     (first | exact ⟨by assumption, by assumption, by assumption⟩)
     (first | (go_at_call 125; (with_reducible refine (quoted125 _ v hv).mono ?_); rintro e w1 ⟨rfl, hb1⟩; have hX1 := hXd.below hb1; have f1 := hX1.c1; have f2 := hX1.c2; have hB1 := below_step hBd hb1))
    rename_i hS
    have hBe := hS.2.2
    clear hS
    go_wp2_with fail
    go_ret
    exact ⟨rfl, hBe⟩
  ·simp only [List.length_nil] at hX0 hB0 hb hlen ⊢
   have h16 := ok_vals16 hok
   have hT := text_n (op := 4) (n := n) (v := ⟨#[]⟩) (vs := vs) (by omega)
   have HT := Lib.hid hT
   have HM := Lib.hid (fun j hj => hM.value j hj)
   simp only at HM
   have Hsz := Lib.hid (fun (x : ByteArray) (hx : x ∈ vs) => sizes_mem hx)
   have Hl := Lib.hid (show (commas (vs.map quoteT)).length ≤ 140737488355328 from by
    rw [hT] at hlen
    simp only [textN, List.length_append, List.length_cons, if_neg (show ¬ (4 : Int) = 1 by decide), if_neg (show ¬ (4 : Int) = 2 by decide), if_neg (show ¬ (4 : Int) = 3 by decide)] at hlen
    omega)
   have hsv : sizes vs ≤ 1000000 := by omega
   have hn2 : n.data.toList.length ≤ 1000000 := by rw [show n.data.toList.length = n.size by simp]; omega
   obtain ⟨t, et⟩ : ∃ t, t = tB ⟨4, n, ⟨#[]⟩, vs, []⟩ := ⟨_, rfl⟩
   have eT : t.data.toList = n.data.toList ++ [64, 40] ++ commas (vs.map quoteT) ++ [41] := by rw [et]; unfold tB; rw [hT]; simp [textN]
   have eL : t.data.toList.length ≤ 1000000000 := by rw [et]; unfold tB; simp only; omega
   obtain ⟨s1, e1⟩ : ∃ s1 : ByteArray, s1.data.toList = n.data.toList ++ [64, 40] := ⟨⟨(n.data.toList ++ [64, 40]).toArray⟩, rfl⟩
   obtain ⟨s2, e2⟩ : ∃ s2 : ByteArray, s2.data.toList = n.data.toList ++ [64, 40] ++ commas (vs.map quoteT) := ⟨⟨(n.data.toList ++ [64, 40] ++ commas (vs.map quoteT)).toArray⟩, rfl⟩
   have a1 : Op.stringOp .add n ⟨#[64, 40]⟩ = pure (.string s1) := add_to (by rw [e1]) (by rw [e1]; rw [eT, List.length_append, List.length_append] at eL; omega)
   have a2 : Op.stringOp .add s1 ⟨(commas (vs.map quoteT)).toArray⟩ = pure (.string s2) := add_to (by rw [e1, e2]) (by rw [e2]; rw [eT, List.length_append] at eL; omega)
   have a3 : Op.stringOp .add s2 ⟨#[41]⟩ = pure (.string t) := add_to (by rw [e2, eT]) eL
   rw [← et]
   obtain ⟨W0, e0⟩ : ∃ W0, w.alloc (.cells #[.int .i64 4, .string n, .string ⟨#[]⟩, .slice A3 vs.length c3, .slice A4 0 c4] 25) = W0 := ⟨_, rfl⟩
   have hsz : W0.heap.size = w.heap.size + 1 := by rw [← e0]; simp
   rw [e0] at hX0 hB0
   have x1 := hX0.c1
   have x3 := hX0.c3
   have E0 := Lib.hid e0
   clear hT hM hok hlen hN h1000 hbytes hb IH hnd e0 eT eL e1 e2 et hn2
   go_enter Try.func110, Try.ntmps110
   go_wp2
   rw [E0.out]
   go_loopw [3, 44] (fun u3 u44 wr => ∃ (j : Nat), u44 = .int .i64 j ∧ j ≤ vs.length ∧ wr.ownsRow W0.heap.size 9 1 u3 j (encs Value.string ((vs.take j).map qB)) ∧ Below W0.heap.size W0 wr)
    (fun _ u44 _ => vs.length - (intOf u44).toNat)
   case atStart => exact ⟨0, rfl, Nat.zero_le _, by simpa [encs] using World.ownsRow_nil _ _ _ _, Below.refl _ _⟩
   case round =>
    obtain ⟨j, rfl, hj, hO, hB⟩ := hrel
    have hle := hB.size
    by_cases hlt : j < vs.length
    ·obtain ⟨ad, rfl, hcell⟩ := HM.out j hlt
     have hcell := pw_cell_below (below_step hB0 hB) hcell
     have Htake := Lib.hid (takeD vs ByteArray.empty j hlt)
     have hxs := Hsz.out (vs.getD j ByteArray.empty) (by simp [List.getD_eq_getElem?_getD, hlt])
     obtain ⟨x, ex⟩ : ∃ x, vs.getD j ByteArray.empty = x := ⟨_, rfl⟩
     rw [ex] at hcell Htake hxs
     clear ex
     have hlj : ((vs.take j).map qB).length = j := by simp; omega
     obtain ⟨Au, cu, rfl⟩ := own_slice hO
     have HO := Lib.hid hO
     clear hO
     go_wp2_with (first | (go_at_call 125; (with_reducible refine (quoted125 _ x (by omega)).mono ?_); rintro e w5 ⟨rfl, hB5⟩) | (at_builtin; refine print_append_of (w0 := W0) (W := w5) Value.string W0.heap.size rfl (.tmp 48) (.tmp 51) 22 9 (.string ByteArray.empty) 16 rfl Try.underlying22 infoSt rfl (by decide) (.slice Au j cu) ((vs.take j).map qB) (qB x) rfl rfl rfl (by rw [hlj]; exact pw_own_below HO.out hB5) (below_step hB hB5) (by have := hB5.size; omega) (by rw [hlj]; omega) ?_; intro v1 w2 hown2 hb2 hg2 hat2))
     go_roundw
     case rel => exact ⟨j + 1, by go_num, by omega, by rw [Htake.out, List.map_append]; rw [List.length_append, hlj] at hown2; exact hown2, hb2⟩
     case measure => simp [intOf]; omega
    ·obtain rfl : j = vs.length := by omega
     rw [List.take_length] at hO
     have hXr := (hX0.below hB).below (below_drew (Below.refl _ _))
     have hBr := below_drew (below_step hB0 hB)
     have f1 := hXr.c1
     obtain ⟨Au, cu, rfl⟩ := own_slice hO
     have HO := Lib.hid hO
     clear hO x1 x3
     go_wp2_with fail
     go_region_held3 (fun w' => w'.cell? ⟨w.heap.size, 1, none⟩ = some (.string n) ∧ Below w.heap.size w w')
      (first | exact ⟨by assumption, by assumption⟩)
      (first | (go_at_call 126; (with_reducible refine (join126 _ W0.heap.size (.slice Au vs.length cu) (vs.map qB) (by rw [List.length_map]; exact pw_own_below HO.out (below_drew (Below.refl _ _))) (by simp; omega) (by rw [qB_map]; exact Hl.out)).mono ?_); rintro e w1 ⟨rfl, hb1⟩; rw [qB_map]; have hX1 := hXr.below hb1; have f1 := hX1.c1; have hB1 := below_step hBr hb1))
     rename_i hS
     have hBe := hS.2
     clear hS
     go_wp2_with fail
     go_ret
     exact ⟨rfl, hBe⟩
  ·have hT := text_k (ks := ks) ho
   rcases ho with rfl | rfl | rfl
   ·simp only [List.length_nil] at hX0 hB0 hb hlen hnd ⊢
    have HT := Lib.hid hT
    have HM := Lib.hid (fun j hj => hM.kid j hj)
    simp only at HM
    have hln := lenL_nodes ks
    have Hl := Lib.hid (show (commas (ks.map textM)).length ≤ 140737488355328 from by
     rw [hT] at hlen
     simp only [List.length_append, List.length_cons] at hlen
     omega)
    have Hkid := Lib.hid (fun (x : S25) (hx : x ∈ ks) => (⟨by have := nodes_lt ⟨5, ⟨#[]⟩, ⟨#[]⟩, [], ks⟩ x hx; omega, okL_mem hk hx, by have := nodes_lt ⟨5, ⟨#[]⟩, ⟨#[]⟩, [], ks⟩ x hx; omega, by have := bytesL_mem hx; omega⟩ : nodesM x ≤ N ∧ okM x = true ∧ nodesM x ≤ 1000 ∧ bytesM x ≤ 1000000))
    obtain ⟨sg, esg⟩ : ∃ sg : ByteArray, sg = ⟨#[38]⟩ := ⟨_, rfl⟩
    have hsg : match_sign.f 5 = some sg := by rw [esg]; rfl
    have Hsg := Lib.hid hsg
    obtain ⟨t, et⟩ : ∃ t, t = tB ⟨5, ⟨#[]⟩, ⟨#[]⟩, [], ks⟩ := ⟨_, rfl⟩
    have eT : t.data.toList = sg.data.toList ++ [40] ++ commas (ks.map textM) ++ [41] := by rw [et, esg]; unfold tB; rw [hT]; simp
    have eL : t.data.toList.length ≤ 1000000000 := by rw [et]; unfold tB; simp only; omega
    obtain ⟨s1, e1⟩ : ∃ s1 : ByteArray, s1.data.toList = sg.data.toList ++ [40] := ⟨⟨(sg.data.toList ++ [40]).toArray⟩, rfl⟩
    obtain ⟨s2, e2⟩ : ∃ s2 : ByteArray, s2.data.toList = sg.data.toList ++ [40] ++ commas (ks.map textM) := ⟨⟨(sg.data.toList ++ [40] ++ commas (ks.map textM)).toArray⟩, rfl⟩
    have a1 : Op.stringOp .add sg ⟨#[40]⟩ = pure (.string s1) := add_to (by rw [e1]) (by rw [e1]; rw [eT, List.length_append, List.length_append] at eL; omega)
    have a2 : Op.stringOp .add s1 ⟨(commas (ks.map textM)).toArray⟩ = pure (.string s2) := add_to (by rw [e1, e2]) (by rw [e2]; rw [eT, List.length_append] at eL; omega)
    have a3 : Op.stringOp .add s2 ⟨#[41]⟩ = pure (.string t) := add_to (by rw [e2, eT]) eL
    rw [← et]
    obtain ⟨W0, e0⟩ : ∃ W0, w.alloc (.cells #[.int .i64 5, .string ⟨#[]⟩, .string ⟨#[]⟩, .slice A3 0 c3, .slice A4 ks.length c4] 25) = W0 := ⟨_, rfl⟩
    have hsz : W0.heap.size = w.heap.size + 1 := by rw [← e0]; simp
    rw [e0] at hX0 hB0
    have x0 := hX0.c0
    have x4 := hX0.c4
    have hk1000 : ks.length ≤ 1000 := by omega
    have E0 := Lib.hid e0
    clear hT hM hok hlen hN h1000 hbytes hb hnd e0 hln eT eL e1 e2 et hsg esg
    go_enter Try.func110, Try.ntmps110
    go_wp2
    rw [E0.out]
    clear x0 x4
    go_loopw [3, 7, 64] (fun u3 _ u64 wr => ∃ (j : Nat), u64 = .int .i64 j ∧ j ≤ ks.length ∧ wr.ownsRow W0.heap.size 9 1 u3 j (encs Value.string ((ks.take j).map tB)) ∧ Below W0.heap.size W0 wr)
     (fun _ _ u64 _ => ks.length - (intOf u64).toNat)
    case atStart => exact ⟨0, rfl, Nat.zero_le _, by simpa [encs] using World.ownsRow_nil _ _ _ _, Below.refl _ _⟩
    case round =>
     obtain ⟨j, rfl, hj, hO, hB⟩ := hrel
     have hle := hB.size
     by_cases hlt : j < ks.length
     ·obtain ⟨ad, B3, e3, B4, e4, rfl, hMk, k0, k1, k2, k3, k4⟩ := HM.out j hlt
      have k0 := pw_cell_below (below_step hB0 hB) k0
      have k1 := pw_cell_below (below_step hB0 hB) k1
      have k2 := pw_cell_below (below_step hB0 hB) k2
      have k3 := pw_cell_below (below_step hB0 hB) k3
      have k4 := pw_cell_below (below_step hB0 hB) k4
      have Htake := Lib.hid (takeD ks z25 j hlt)
      have hxs := Lib.hid (Hkid.out (ks.getD j z25) (by simp [List.getD_eq_getElem?_getD, hlt]))
      obtain ⟨x, ex⟩ : ∃ x, ks.getD j z25 = x := ⟨_, rfl⟩
      rw [ex] at hMk k0 k1 k2 k3 k4 Htake hxs
      clear ex
      have hlj : ((ks.take j).map tB).length = j := by simp; omega
      obtain ⟨Au, cu, rfl⟩ := own_slice hO
      have HO := Lib.hid hO
      clear hO
      go_wp2_with (first | (go_at_call 110; (with_reducible refine (IH.out x hxs.out.1 hxs.out.2.1 hxs.out.2.2.1 hxs.out.2.2.2 B3 e3 B4 e4 _ (hMk.below (below_step hB0 (below_alloc hB _)))).mono ?_); rintro e w5 ⟨rfl, hB5⟩; have hBa := below_step (below_alloc hB _) hB5) | (at_builtin; refine print_append_of (w0 := W0) (W := w5) Value.string W0.heap.size rfl (.tmp 68) (.tmp 71) 22 9 (.string ByteArray.empty) 16 rfl Try.underlying22 infoSt rfl (by decide) (.slice Au j cu) ((ks.take j).map tB) (tB x) rfl rfl rfl (by rw [hlj]; exact pw_own_below HO.out (below_step (below_alloc (Below.refl _ _) _) hB5)) hBa (by have := hBa.size; omega) (by rw [hlj]; omega) ?_; intro v1 w2 hown2 hb2 hg2 hat2))
      go_roundw
      case rel => exact ⟨j + 1, by go_num, by omega, by rw [Htake.out, List.map_append]; rw [List.length_append, hlj] at hown2; exact hown2, hb2⟩
      case measure => simp [intOf]; omega
     ·obtain rfl : j = ks.length := by omega
      rw [List.take_length] at hO
      have hXr := hX0.below hB
      have f0 := hXr.c0
      obtain ⟨Au, cu, rfl⟩ := own_slice hO
      have HO := Lib.hid hO
      clear hO
      go_wp2_with (first | (go_at_call 159; (with_reducible refine (sign159 _ 5 _ Hsg.out).mono ?_); rintro e w1 ⟨rfl, hb1⟩; have hB1 := below_step (below_step hB0 hB) hb1) | (go_at_call 126; (with_reducible refine (join126 _ W0.heap.size (.slice Au ks.length cu) (ks.map tB) (by rw [List.length_map]; exact pw_own_below HO.out hb1) (by simp; omega) (by rw [tB_map]; exact Hl.out)).mono ?_); rintro e w2 ⟨rfl, hb2⟩; rw [tB_map]; have hB2 := below_step hB1 hb2))
      go_ret
      exact ⟨rfl, hB2⟩
   ·simp only [List.length_nil] at hX0 hB0 hb hlen hnd ⊢
    have HT := Lib.hid hT
    have HM := Lib.hid (fun j hj => hM.kid j hj)
    simp only at HM
    have hln := lenL_nodes ks
    have Hl := Lib.hid (show (commas (ks.map textM)).length ≤ 140737488355328 from by
     rw [hT] at hlen
     simp only [List.length_append, List.length_cons] at hlen
     omega)
    have Hkid := Lib.hid (fun (x : S25) (hx : x ∈ ks) => (⟨by have := nodes_lt ⟨6, ⟨#[]⟩, ⟨#[]⟩, [], ks⟩ x hx; omega, okL_mem hk hx, by have := nodes_lt ⟨6, ⟨#[]⟩, ⟨#[]⟩, [], ks⟩ x hx; omega, by have := bytesL_mem hx; omega⟩ : nodesM x ≤ N ∧ okM x = true ∧ nodesM x ≤ 1000 ∧ bytesM x ≤ 1000000))
    obtain ⟨sg, esg⟩ : ∃ sg : ByteArray, sg = ⟨#[124]⟩ := ⟨_, rfl⟩
    have hsg : match_sign.f 6 = some sg := by rw [esg]; rfl
    have Hsg := Lib.hid hsg
    obtain ⟨t, et⟩ : ∃ t, t = tB ⟨6, ⟨#[]⟩, ⟨#[]⟩, [], ks⟩ := ⟨_, rfl⟩
    have eT : t.data.toList = sg.data.toList ++ [40] ++ commas (ks.map textM) ++ [41] := by rw [et, esg]; unfold tB; rw [hT]; simp
    have eL : t.data.toList.length ≤ 1000000000 := by rw [et]; unfold tB; simp only; omega
    obtain ⟨s1, e1⟩ : ∃ s1 : ByteArray, s1.data.toList = sg.data.toList ++ [40] := ⟨⟨(sg.data.toList ++ [40]).toArray⟩, rfl⟩
    obtain ⟨s2, e2⟩ : ∃ s2 : ByteArray, s2.data.toList = sg.data.toList ++ [40] ++ commas (ks.map textM) := ⟨⟨(sg.data.toList ++ [40] ++ commas (ks.map textM)).toArray⟩, rfl⟩
    have a1 : Op.stringOp .add sg ⟨#[40]⟩ = pure (.string s1) := add_to (by rw [e1]) (by rw [e1]; rw [eT, List.length_append, List.length_append] at eL; omega)
    have a2 : Op.stringOp .add s1 ⟨(commas (ks.map textM)).toArray⟩ = pure (.string s2) := add_to (by rw [e1, e2]) (by rw [e2]; rw [eT, List.length_append] at eL; omega)
    have a3 : Op.stringOp .add s2 ⟨#[41]⟩ = pure (.string t) := add_to (by rw [e2, eT]) eL
    rw [← et]
    obtain ⟨W0, e0⟩ : ∃ W0, w.alloc (.cells #[.int .i64 6, .string ⟨#[]⟩, .string ⟨#[]⟩, .slice A3 0 c3, .slice A4 ks.length c4] 25) = W0 := ⟨_, rfl⟩
    have hsz : W0.heap.size = w.heap.size + 1 := by rw [← e0]; simp
    rw [e0] at hX0 hB0
    have x0 := hX0.c0
    have x4 := hX0.c4
    have hk1000 : ks.length ≤ 1000 := by omega
    have E0 := Lib.hid e0
    clear hT hM hok hlen hN h1000 hbytes hb hnd e0 hln eT eL e1 e2 et hsg esg
    go_enter Try.func110, Try.ntmps110
    go_wp2
    rw [E0.out]
    clear x0 x4
    go_loopw [3, 7, 64] (fun u3 _ u64 wr => ∃ (j : Nat), u64 = .int .i64 j ∧ j ≤ ks.length ∧ wr.ownsRow W0.heap.size 9 1 u3 j (encs Value.string ((ks.take j).map tB)) ∧ Below W0.heap.size W0 wr)
     (fun _ _ u64 _ => ks.length - (intOf u64).toNat)
    case atStart => exact ⟨0, rfl, Nat.zero_le _, by simpa [encs] using World.ownsRow_nil _ _ _ _, Below.refl _ _⟩
    case round =>
     obtain ⟨j, rfl, hj, hO, hB⟩ := hrel
     have hle := hB.size
     by_cases hlt : j < ks.length
     ·obtain ⟨ad, B3, e3, B4, e4, rfl, hMk, k0, k1, k2, k3, k4⟩ := HM.out j hlt
      have k0 := pw_cell_below (below_step hB0 hB) k0
      have k1 := pw_cell_below (below_step hB0 hB) k1
      have k2 := pw_cell_below (below_step hB0 hB) k2
      have k3 := pw_cell_below (below_step hB0 hB) k3
      have k4 := pw_cell_below (below_step hB0 hB) k4
      have Htake := Lib.hid (takeD ks z25 j hlt)
      have hxs := Lib.hid (Hkid.out (ks.getD j z25) (by simp [List.getD_eq_getElem?_getD, hlt]))
      obtain ⟨x, ex⟩ : ∃ x, ks.getD j z25 = x := ⟨_, rfl⟩
      rw [ex] at hMk k0 k1 k2 k3 k4 Htake hxs
      clear ex
      have hlj : ((ks.take j).map tB).length = j := by simp; omega
      obtain ⟨Au, cu, rfl⟩ := own_slice hO
      have HO := Lib.hid hO
      clear hO
      go_wp2_with (first | (go_at_call 110; (with_reducible refine (IH.out x hxs.out.1 hxs.out.2.1 hxs.out.2.2.1 hxs.out.2.2.2 B3 e3 B4 e4 _ (hMk.below (below_step hB0 (below_alloc hB _)))).mono ?_); rintro e w5 ⟨rfl, hB5⟩; have hBa := below_step (below_alloc hB _) hB5) | (at_builtin; refine print_append_of (w0 := W0) (W := w5) Value.string W0.heap.size rfl (.tmp 68) (.tmp 71) 22 9 (.string ByteArray.empty) 16 rfl Try.underlying22 infoSt rfl (by decide) (.slice Au j cu) ((ks.take j).map tB) (tB x) rfl rfl rfl (by rw [hlj]; exact pw_own_below HO.out (below_step (below_alloc (Below.refl _ _) _) hB5)) hBa (by have := hBa.size; omega) (by rw [hlj]; omega) ?_; intro v1 w2 hown2 hb2 hg2 hat2))
      go_roundw
      case rel => exact ⟨j + 1, by go_num, by omega, by rw [Htake.out, List.map_append]; rw [List.length_append, hlj] at hown2; exact hown2, hb2⟩
      case measure => simp [intOf]; omega
     ·obtain rfl : j = ks.length := by omega
      rw [List.take_length] at hO
      have hXr := hX0.below hB
      have f0 := hXr.c0
      obtain ⟨Au, cu, rfl⟩ := own_slice hO
      have HO := Lib.hid hO
      clear hO
      go_wp2_with (first | (go_at_call 159; (with_reducible refine (sign159 _ 6 _ Hsg.out).mono ?_); rintro e w1 ⟨rfl, hb1⟩; have hB1 := below_step (below_step hB0 hB) hb1) | (go_at_call 126; (with_reducible refine (join126 _ W0.heap.size (.slice Au ks.length cu) (ks.map tB) (by rw [List.length_map]; exact pw_own_below HO.out hb1) (by simp; omega) (by rw [tB_map]; exact Hl.out)).mono ?_); rintro e w2 ⟨rfl, hb2⟩; rw [tB_map]; have hB2 := below_step hB1 hb2))
      go_ret
      exact ⟨rfl, hB2⟩
   ·simp only [List.length_nil] at hX0 hB0 hb hlen hnd ⊢
    have HT := Lib.hid hT
    have HM := Lib.hid (fun j hj => hM.kid j hj)
    simp only at HM
    have hln := lenL_nodes ks
    have Hl := Lib.hid (show (commas (ks.map textM)).length ≤ 140737488355328 from by
     rw [hT] at hlen
     simp only [List.length_append, List.length_cons] at hlen
     omega)
    have Hkid := Lib.hid (fun (x : S25) (hx : x ∈ ks) => (⟨by have := nodes_lt ⟨7, ⟨#[]⟩, ⟨#[]⟩, [], ks⟩ x hx; omega, okL_mem hk hx, by have := nodes_lt ⟨7, ⟨#[]⟩, ⟨#[]⟩, [], ks⟩ x hx; omega, by have := bytesL_mem hx; omega⟩ : nodesM x ≤ N ∧ okM x = true ∧ nodesM x ≤ 1000 ∧ bytesM x ≤ 1000000))
    obtain ⟨sg, esg⟩ : ∃ sg : ByteArray, sg = ⟨#[33]⟩ := ⟨_, rfl⟩
    have hsg : match_sign.f 7 = some sg := by rw [esg]; rfl
    have Hsg := Lib.hid hsg
    obtain ⟨t, et⟩ : ∃ t, t = tB ⟨7, ⟨#[]⟩, ⟨#[]⟩, [], ks⟩ := ⟨_, rfl⟩
    have eT : t.data.toList = sg.data.toList ++ [40] ++ commas (ks.map textM) ++ [41] := by rw [et, esg]; unfold tB; rw [hT]; simp
    have eL : t.data.toList.length ≤ 1000000000 := by rw [et]; unfold tB; simp only; omega
    obtain ⟨s1, e1⟩ : ∃ s1 : ByteArray, s1.data.toList = sg.data.toList ++ [40] := ⟨⟨(sg.data.toList ++ [40]).toArray⟩, rfl⟩
    obtain ⟨s2, e2⟩ : ∃ s2 : ByteArray, s2.data.toList = sg.data.toList ++ [40] ++ commas (ks.map textM) := ⟨⟨(sg.data.toList ++ [40] ++ commas (ks.map textM)).toArray⟩, rfl⟩
    have a1 : Op.stringOp .add sg ⟨#[40]⟩ = pure (.string s1) := add_to (by rw [e1]) (by rw [e1]; rw [eT, List.length_append, List.length_append] at eL; omega)
    have a2 : Op.stringOp .add s1 ⟨(commas (ks.map textM)).toArray⟩ = pure (.string s2) := add_to (by rw [e1, e2]) (by rw [e2]; rw [eT, List.length_append] at eL; omega)
    have a3 : Op.stringOp .add s2 ⟨#[41]⟩ = pure (.string t) := add_to (by rw [e2, eT]) eL
    rw [← et]
    obtain ⟨W0, e0⟩ : ∃ W0, w.alloc (.cells #[.int .i64 7, .string ⟨#[]⟩, .string ⟨#[]⟩, .slice A3 0 c3, .slice A4 ks.length c4] 25) = W0 := ⟨_, rfl⟩
    have hsz : W0.heap.size = w.heap.size + 1 := by rw [← e0]; simp
    rw [e0] at hX0 hB0
    have x0 := hX0.c0
    have x4 := hX0.c4
    have hk1000 : ks.length ≤ 1000 := by omega
    have E0 := Lib.hid e0
    clear hT hM hok hlen hN h1000 hbytes hb hnd e0 hln eT eL e1 e2 et hsg esg
    go_enter Try.func110, Try.ntmps110
    go_wp2
    rw [E0.out]
    clear x0 x4
    go_loopw [3, 7, 64] (fun u3 _ u64 wr => ∃ (j : Nat), u64 = .int .i64 j ∧ j ≤ ks.length ∧ wr.ownsRow W0.heap.size 9 1 u3 j (encs Value.string ((ks.take j).map tB)) ∧ Below W0.heap.size W0 wr)
     (fun _ _ u64 _ => ks.length - (intOf u64).toNat)
    case atStart => exact ⟨0, rfl, Nat.zero_le _, by simpa [encs] using World.ownsRow_nil _ _ _ _, Below.refl _ _⟩
    case round =>
     obtain ⟨j, rfl, hj, hO, hB⟩ := hrel
     have hle := hB.size
     by_cases hlt : j < ks.length
     ·obtain ⟨ad, B3, e3, B4, e4, rfl, hMk, k0, k1, k2, k3, k4⟩ := HM.out j hlt
      have k0 := pw_cell_below (below_step hB0 hB) k0
      have k1 := pw_cell_below (below_step hB0 hB) k1
      have k2 := pw_cell_below (below_step hB0 hB) k2
      have k3 := pw_cell_below (below_step hB0 hB) k3
      have k4 := pw_cell_below (below_step hB0 hB) k4
      have Htake := Lib.hid (takeD ks z25 j hlt)
      have hxs := Lib.hid (Hkid.out (ks.getD j z25) (by simp [List.getD_eq_getElem?_getD, hlt]))
      obtain ⟨x, ex⟩ : ∃ x, ks.getD j z25 = x := ⟨_, rfl⟩
      rw [ex] at hMk k0 k1 k2 k3 k4 Htake hxs
      clear ex
      have hlj : ((ks.take j).map tB).length = j := by simp; omega
      obtain ⟨Au, cu, rfl⟩ := own_slice hO
      have HO := Lib.hid hO
      clear hO
      go_wp2_with (first | (go_at_call 110; (with_reducible refine (IH.out x hxs.out.1 hxs.out.2.1 hxs.out.2.2.1 hxs.out.2.2.2 B3 e3 B4 e4 _ (hMk.below (below_step hB0 (below_alloc hB _)))).mono ?_); rintro e w5 ⟨rfl, hB5⟩; have hBa := below_step (below_alloc hB _) hB5) | (at_builtin; refine print_append_of (w0 := W0) (W := w5) Value.string W0.heap.size rfl (.tmp 68) (.tmp 71) 22 9 (.string ByteArray.empty) 16 rfl Try.underlying22 infoSt rfl (by decide) (.slice Au j cu) ((ks.take j).map tB) (tB x) rfl rfl rfl (by rw [hlj]; exact pw_own_below HO.out (below_step (below_alloc (Below.refl _ _) _) hB5)) hBa (by have := hBa.size; omega) (by rw [hlj]; omega) ?_; intro v1 w2 hown2 hb2 hg2 hat2))
      go_roundw
      case rel => exact ⟨j + 1, by go_num, by omega, by rw [Htake.out, List.map_append]; rw [List.length_append, hlj] at hown2; exact hown2, hb2⟩
      case measure => simp [intOf]; omega
     ·obtain rfl : j = ks.length := by omega
      rw [List.take_length] at hO
      have hXr := hX0.below hB
      have f0 := hXr.c0
      obtain ⟨Au, cu, rfl⟩ := own_slice hO
      have HO := Lib.hid hO
      clear hO
      go_wp2_with (first | (go_at_call 159; (with_reducible refine (sign159 _ 7 _ Hsg.out).mono ?_); rintro e w1 ⟨rfl, hb1⟩; have hB1 := below_step (below_step hB0 hB) hb1) | (go_at_call 126; (with_reducible refine (join126 _ W0.heap.size (.slice Au ks.length cu) (ks.map tB) (by rw [List.length_map]; exact pw_own_below HO.out hb1) (by simp; omega) (by rw [tB_map]; exact Hl.out)).mono ?_); rintro e w2 ⟨rfl, hb2⟩; rw [tB_map]; have hB2 := below_step hB1 hb2))
      go_ret
      exact ⟨rfl, hB2⟩
set_option maxRecDepth 100000 in
set_option maxHeartbeats 4000000 in
/-- match.Text of a matcher that may be. -/
theorem Text61 (w : World) (m : S25) (A3 : Option Addr) (c3 : Nat) (A4 : Option Addr) (c4 : Nat) (hok : chkB m = true) (hM : MC w m A3 c3 A4 c4) :
  Calls Try.prog 61 #[.agg #[.int .i64 m.f0, .string m.f1, .string m.f2, .slice A3 m.f3.length c3, .slice A4 m.f4.length c4]] w fun e w' => e = .returned (.string (tB m)) ∧ Below w.heap.size w w' := by
 have hB0 : Below w.heap.size w (w.alloc (.cells #[.int .i64 m.f0, .string m.f1, .string m.f2, .slice A3 m.f3.length c3, .slice A4 m.f4.length c4] 25)) := below_alloc (Below.refl _ _) _
 have hX0 : BoxM (w.alloc (.cells #[.int .i64 m.f0, .string m.f1, .string m.f2, .slice A3 m.f3.length c3, .slice A4 m.f4.length c4] 25)) w.heap.size m.f0 m.f1 m.f2 (.slice A3 m.f3.length c3) (.slice A4 m.f4.length c4) := blk_new w _
 obtain ⟨q1, q2, q3, q4⟩ := chk_def.1 hok
 have Hok := Lib.hid hok
 have Hq := Lib.hid (show okM m = true ∧ nodesM m ≤ 1000 ∧ bytesM m ≤ 1000000 from ⟨q1, by omega, by omega⟩)
 clear hok q1 q2 q3 q4
 go_enter Try.func61, Try.ntmps61
 go_wp2_with fail
 (with_reducible refine (check53v _ m A3 c3 A4 c4 true Hok.out (hM.below hB0)).mono ?_)
 rintro e w1 ⟨rfl, hb1⟩
 have hX1 := hX0.below hb1
 have x0 := hX1.c0
 have x1 := hX1.c1
 have x2 := hX1.c2
 have x3 := hX1.c3
 have x4 := hX1.c4
 have hB1 := below_step hB0 hb1
 go_wp2_with fail
 (with_reducible refine (text110 _ m (Nat.le_refl _) Hq.out.1 Hq.out.2.1 Hq.out.2.2 A3 c3 A4 c4 _ (hM.below hB1)).mono ?_)
 rintro e w2 ⟨rfl, hb2⟩
 go_wp2_with fail
 go_ret
 exact ⟨rfl, below_step hB1 hb2⟩
end Go.Proofs.Yteafilojjdfllaa
end
section
namespace Go.Proofs.Yteafilojjdfllaa
open Go Go.RowKit Go.Proofs.YteafilojjdfllaaW.PrintWords Go.Proofs.YteafilojjdfllaaW.PrintLast Go.Proofs.YteafilojjdfllaaW.PrintMore Go.Proofs.Yteafilojjdfllaa.PAll
/-- a row of one element -/
theorem C_one' {α : Type} {d : Kd α} {W : World} {g : Nat} {x : α} {cs : List Value} {t : TypeId} (hb : W.heap[g]? = some (.cells ⟨cs⟩ t (0, 0))) (hK : d.K W x cs) : d.C W (some ⟨g, 0, none⟩) 1 [x] := by
 refine ⟨rfl, by decide, fun _ => ⟨⟨g, 0, none⟩, rfl, fun j p hj => ?_⟩⟩
 have hj0 : j = 0 := by
  cases j with
  | zero => rfl
  | succ j => simp at hj
 subst hj0
 cases hj
 refine ⟨cs, d.K_len hK, hK, fun i u hu => ?_⟩
 have := blk_cell hb i
 have e : (⟨g, 0, none⟩ : Addr).add (0 * d.sz + i) = ⟨g, i, none⟩ := by simp [Addr.add]; exact Eq.symm
 rw [e]
 simpa [hu] using this
/-- a row of two elements -/
theorem C_two {α : Type} {d : Kd α} {W : World} {g : Nat} {x y : α} {cs ds : List Value} {t : TypeId} (hb : W.heap[g]? = some (.cells ⟨cs ++ ds⟩ t (0, 0))) (hx : d.K W x cs) (hy : d.K W y ds) : d.C W (some ⟨g, 0, none⟩) 2 [x, y] := by
 have l1 := d.K_len hx
 have l2 := d.K_len hy
 refine ⟨rfl, by decide, fun _ => ⟨⟨g, 0, none⟩, rfl, fun j p hj => ?_⟩⟩
 have hat : ∀ i, (⟨g, 0, none⟩ : Addr).add i = ⟨g, i, none⟩ := fun i => add_plain g i
 match j, hj with
 | 0, hj =>
  cases hj
  refine ⟨cs, l1, hx, fun i u hu => ?_⟩
  have hi := (List.getElem?_eq_some_iff.1 hu).1
  have := blk_cell hb i
  rw [hat]
  rw [show 0 * d.sz + i = i by omega, this]
  simp [List.getElem?_append_left hi, hu]
 | 1, hj =>
  cases hj
  refine ⟨ds, l2, hy, fun i u hu => ?_⟩
  have := blk_cell hb (d.sz + i)
  rw [hat]
  rw [show 1 * d.sz + i = d.sz + i by omega, this, ← l1]
  simp only [List.getElem?_toArray]
  rw [List.getElem?_append_right (by omega), show cs.length + i - cs.length = i by omega, hu]
def exMI : S25 := ⟨2, ⟨#[97]⟩, ⟨#[49]⟩, [], []⟩
def exMK : S25 := ⟨1, ⟨#[97]⟩, ⟨#[120]⟩, [], []⟩
def exMN : S25 := ⟨7, ⟨#[]⟩, ⟨#[]⟩, [], [exMK]⟩
def exMA : S25 := ⟨5, ⟨#[]⟩, ⟨#[]⟩, [], [z25, exMN]⟩
def exML : List S68 := [⟨⟨#[98]⟩, ⟨#[50]⟩⟩]
theorem exM_chk : chkB exMA = true := by kernel_rfl
theorem exM_ev : evalB exML exMA = true := by kernel_rfl
theorem exM_evI : evalB exML exMI = true := by kernel_rfl
theorem exM_text : tB exMA = ⟨#[38, 40, 42, 44, 33, 40, 97, 61, 34, 120, 34, 41, 41]⟩ := by kernel_rfl
theorem k68_one (W : World) (x : S68) : k68.K W x [.string x.f0, .string x.f1] := k68.K_of_M (k68_mkM W 0 (fun _ => True) x)
theorem exEvalI (W : World) (A : Option Addr) (hC : Kd.C k68 W A 1 exML) : Calls Try.prog 55 #[.agg #[.int .i64 2, .string ⟨#[97]⟩, .string ⟨#[49]⟩, .slice none 0 0, .slice none 0 0], .slice A 1 1] W fun e w' => e = .returned (.bool true) ∧ Below W.heap.size W w' :=
 Eval55 W exMI none 0 none 0 A 1 exML true exM_evI (by decide) ⟨Nat.le_refl _, Kd.C_nil _ _, Nat.le_refl _, Kd.C_nil _ _⟩ (by decide) (by decide) hC
theorem exTextA (W : World) (A : Option Addr) (hM : MC W exMA none 0 A 2) : Calls Try.prog 61 #[.agg #[.int .i64 5, .string ⟨#[]⟩, .string ⟨#[]⟩, .slice none 0 0, .slice A 2 2]] W fun e w' => e = .returned (.string ⟨#[38, 40, 42, 44, 33, 40, 97, 61, 34, 120, 34, 41, 41]⟩) ∧ Below W.heap.size W w' := by
 have h := Text61 W exMA none 0 A 2 exM_chk hM
 rw [exM_text] at h
 exact h
theorem exCheckA (W : World) (A : Option Addr) (hM : MC W exMA none 0 A 2) : Calls Try.prog 53 #[.agg #[.int .i64 5, .string ⟨#[]⟩, .string ⟨#[]⟩, .slice none 0 0, .slice A 2 2]] W fun e w' => e = .returned (.bool true) ∧ Below W.heap.size W w' := check53v W exMA none 0 A 2 true exM_chk hM
theorem exEvalA (W : World) (A B : Option Addr) (hM : MC W exMA none 0 A 2) (hC : Kd.C k68 W B 1 exML) : Calls Try.prog 55 #[.agg #[.int .i64 5, .string ⟨#[]⟩, .string ⟨#[]⟩, .slice none 0 0, .slice A 2 2], .slice B 1 1] W fun e w' => e = .returned (.bool true) ∧ Below W.heap.size W w' :=
 Eval55 W exMA none 0 A 2 B 1 exML true exM_ev (by decide) hM (by decide) (by decide) hC
/-- the example in memory -/
theorem exM_world (w : World) : ∃ W : World, ((((w.alloc (.cells #[.string ⟨#[98]⟩, .string ⟨#[50]⟩] 68)).alloc (.cells #[.int .i64 1, .string ⟨#[97]⟩, .string ⟨#[120]⟩, .slice none 0 0, .slice none 0 0] 25)).alloc (.cells #[.int .i64 0, .string ⟨#[]⟩, .string ⟨#[]⟩, .slice none 0 0, .slice none 0 0, .int .i64 7, .string ⟨#[]⟩, .string ⟨#[]⟩, .slice none 0 0, .slice (some ⟨w.heap.size + 1, 0, none⟩) 1 1] 25)).alloc (.cells #[.int .i64 5, .string ⟨#[]⟩, .string ⟨#[]⟩, .slice none 0 0, .slice (some ⟨w.heap.size + 1 + 1, 0, none⟩) 2 2] 25)) = W ∧ Below w.heap.size w W ∧ Kd.C k68 W (some ⟨w.heap.size, 0, none⟩) exML.length exML ∧ MC W exMA none 0 (some ⟨w.heap.size + 1 + 1, 0, none⟩) 2 ∧
  BoxM W (w.heap.size + 1 + 1 + 1) 5 ⟨#[]⟩ ⟨#[]⟩ (.slice none 0 0) (.slice (some ⟨w.heap.size + 1 + 1, 0, none⟩) 2 2) := by
 refine ⟨_, rfl, below_alloc (below_alloc (below_alloc (below_alloc (Below.refl _ _) _) _) _) _, ?_, ?_, ?_⟩
 ·have h := blk_new w (.cells #[.string ⟨#[98]⟩, .string ⟨#[50]⟩] 68)
  have hC : Kd.C k68 (w.alloc (.cells #[.string ⟨#[98]⟩, .string ⟨#[50]⟩] 68)) (some ⟨w.heap.size, 0, none⟩) 1 exML := C_one' h (k68_one _ ⟨⟨#[98]⟩, ⟨#[50]⟩⟩)
  exact Kd.C_alloc (Kd.C_alloc (Kd.C_alloc hC _) _) _
 ·refine ⟨Nat.le_refl _, Kd.C_nil _ _, Nat.le_refl _, ?_⟩
  refine Kd.C_alloc ?_ _
  have h := blk_new ((w.alloc (.cells #[.string ⟨#[98]⟩, .string ⟨#[50]⟩] 68)).alloc (.cells #[.int .i64 1, .string ⟨#[97]⟩, .string ⟨#[120]⟩, .slice none 0 0, .slice none 0 0] 25)) (.cells #[.int .i64 0, .string ⟨#[]⟩, .string ⟨#[]⟩, .slice none 0 0, .slice none 0 0, .int .i64 7, .string ⟨#[]⟩, .string ⟨#[]⟩, .slice none 0 0, .slice (some ⟨w.heap.size + 1, 0, none⟩) 1 1] 25)
  have e : ((w.alloc (.cells #[.string ⟨#[98]⟩, .string ⟨#[50]⟩] 68)).alloc (.cells #[.int .i64 1, .string ⟨#[97]⟩, .string ⟨#[120]⟩, .slice none 0 0, .slice none 0 0] 25)).heap.size = w.heap.size + 1 + 1 := by simp
  rw [e] at h
  have hk := blk_new (w.alloc (.cells #[.string ⟨#[98]⟩, .string ⟨#[50]⟩] 68)) (.cells #[.int .i64 1, .string ⟨#[97]⟩, .string ⟨#[120]⟩, .slice none 0 0, .slice none 0 0] 25)
  rw [World.size_alloc] at hk
  have hK : Kd.C k25 ((w.alloc (.cells #[.string ⟨#[98]⟩, .string ⟨#[50]⟩] 68)).alloc (.cells #[.int .i64 1, .string ⟨#[97]⟩, .string ⟨#[120]⟩, .slice none 0 0, .slice none 0 0] 25)) (some ⟨w.heap.size + 1, 0, none⟩) 1 [exMK] :=
   C_one' hk (k25_mk _ exMK (Nat.le_refl _) (Kd.C_nil _ _) (Nat.le_refl _) (Kd.C_nil _ _))
  exact C_two (cs := [.int .i64 0, .string ⟨#[]⟩, .string ⟨#[]⟩, .slice none 0 0, .slice none 0 0]) (ds := [.int .i64 7, .string ⟨#[]⟩, .string ⟨#[]⟩, .slice none 0 0, .slice (some ⟨w.heap.size + 1, 0, none⟩) 1 1]) h
   (k25_mk _ z25 (Nat.le_refl _) (Kd.C_nil _ _) (Nat.le_refl _) (Kd.C_nil _ _)) (k25_mk _ exMN (Nat.le_refl _) (Kd.C_nil _ _) (Nat.le_refl _) (Kd.C_alloc hK _))
 ·have h := blk_new (((w.alloc (.cells #[.string ⟨#[98]⟩, .string ⟨#[50]⟩] 68)).alloc (.cells #[.int .i64 1, .string ⟨#[97]⟩, .string ⟨#[120]⟩, .slice none 0 0, .slice none 0 0] 25)).alloc (.cells #[.int .i64 0, .string ⟨#[]⟩, .string ⟨#[]⟩, .slice none 0 0, .slice none 0 0, .int .i64 7, .string ⟨#[]⟩, .string ⟨#[]⟩, .slice none 0 0, .slice (some ⟨w.heap.size + 1, 0, none⟩) 1 1] 25)) (.cells #[.int .i64 5, .string ⟨#[]⟩, .string ⟨#[]⟩, .slice none 0 0, .slice (some ⟨w.heap.size + 1 + 1, 0, none⟩) 2 2] 25)
  rw [World.size_alloc, World.size_alloc, World.size_alloc] at h
  exact h
set_option maxRecDepth 100000 in
set_option maxHeartbeats 4000000 in
/-- varvelaw12.awake. -/
theorem awake52 (w : World) : Calls Try.prog 52 #[] w fun e w' => e = .returned (.bool true) ∧ Below w.heap.size w w' := by
 obtain ⟨W3, e3, hB, hL, hM, hX⟩ := exM_world w
 have E3 := Lib.hid e3
 clear e3
 go_enter Try.func52, Try.ntmps52
 go_wp2_with fail
 rw [E3.out]
 (with_reducible refine (exEvalI _ _ hL).mono ?_)
 rintro e w1 ⟨rfl, hb1⟩
 have hX1 := hX.below hb1
 have hB1 := below_step hB hb1
 have hM1 := hM.below hb1
 have hL1 := Kd.C_below hL hb1
 have c0 := hX1.c0
 have c1 := hX1.c1
 have c2 := hX1.c2
 have c3 := hX1.c3
 have c4 := hX1.c4
 clear hX hB hM hL hb1
 go_wp2_with fail
 (with_reducible refine (exTextA _ _ hM1).mono ?_)
 rintro e w2 ⟨rfl, hb2⟩
 have hX2 := hX1.below hb2
 have hB2 := below_step hB1 hb2
 have hM2 := hM1.below hb2
 have hL2 := Kd.C_below hL1 hb2
 have c0 := hX2.c0
 have c1 := hX2.c1
 have c2 := hX2.c2
 have c3 := hX2.c3
 have c4 := hX2.c4
 clear hX1 hB1 hM1 hL1 hb2
 go_wp2_with fail
 (with_reducible refine (exCheckA _ _ hM2).mono ?_)
 rintro e w3 ⟨rfl, hb3⟩
 have hX3 := hX2.below hb3
 have hB3 := below_step hB2 hb3
 have hM3 := hM2.below hb3
 have hL3 := Kd.C_below hL2 hb3
 have c0 := hX3.c0
 have c1 := hX3.c1
 have c2 := hX3.c2
 have c3 := hX3.c3
 have c4 := hX3.c4
 clear hX2 hB2 hM2 hL2 hb3
 go_wp2_with fail
 (with_reducible refine (exEvalA _ _ _ hM3 hL3).mono ?_)
 rintro e w4 ⟨rfl, hb4⟩
 go_wp2_with fail
 go_ret
 exact ⟨rfl, below_step hB3 hb4⟩
end Go.Proofs.Yteafilojjdfllaa
end
section
namespace Go.Proofs.Yteafilojjdfllaa
open Go Go.RowKit Go.Proofs.YteafilojjdfllaaW.PrintWords Go.Proofs.YteafilojjdfllaaW.PrintLast Go.Proofs.YteafilojjdfllaaW.PrintMore Go.Proofs.Yteafilojjdfllaa.PAll
/-- a matcher's box and what its cells tell -/
def CellsM (W : World) (g : Nat) (m : S25) (v3 v4 : Value) : Prop :=
 W.cell? ⟨g, 0, none⟩ = some (.int .i64 m.f0) ∧ W.cell? ⟨g, 1, none⟩ = some (.string m.f1) ∧ W.cell? ⟨g, 2, none⟩ = some (.string m.f2) ∧ W.cell? ⟨g, 3, none⟩ = some v3 ∧ W.cell? ⟨g, 4, none⟩ = some v4
theorem BoxM.cells {W : World} {g : Nat} {m : S25} {v3 v4 : Value} (h : BoxM W g m.f0 m.f1 m.f2 v3 v4) : CellsM W g m v3 v4 := ⟨h.c0, h.c1, h.c2, h.c3, h.c4⟩
/-- the law's state: one matcher's box -/
def KM (w W : World) (m : S25) (v3 v4 : Value) : Prop := Below w.heap.size w W ∧ BoxM W w.heap.size m.f0 m.f1 m.f2 v3 v4
theorem KM.bel {w W : World} {m : S25} {v3 v4 : Value} (h : KM w W m v3 v4) : Below w.heap.size w W := h.1
theorem KM.step {w W W' : World} {m : S25} {v3 v4 : Value} (h : KM w W m v3 v4) (hb : Below W.heap.size W W') : KM w W' m v3 v4 := ⟨below_step h.1 hb, h.2.below hb⟩
theorem KM.drew {w W : World} {m : S25} {v3 v4 : Value} (h : KM w W m v3 v4) : KM w W.drew m v3 v4 := h.step (below_drew (Below.refl _ _))
theorem KM.cells {w W : World} {m : S25} {v3 v4 : Value} (h : KM w W m v3 v4) : CellsM W w.heap.size m v3 v4 := h.2.cells
def KMP (w W : World) (m : S25) (v3 v4 : Value) (W' : World) : Prop := KM w W' m v3 v4 ∧ Below W.heap.size W W' ∧ CellsM W' w.heap.size m v3 v4
theorem KM.post {w W W' : World} {m : S25} {v3 v4 : Value} (h : KM w W m v3 v4) (hb : Below W.heap.size W W') : KMP w W m v3 v4 W' := ⟨h.step hb, hb, (h.step hb).cells⟩
theorem KM.calls {w W : World} {m : S25} {v3 v4 : Value} {f : FuncId} {args : Array Value} {Q : Ending → World → Prop} (h : KM w W m v3 v4) (hc : Calls Try.prog f args W fun e W' => Q e W' ∧ Below W.heap.size W W') :
  Calls Try.prog f args W fun e W' => Q e W' ∧ KMP w W m v3 v4 W' := hc.mono fun _ _ ⟨hq, hb⟩ => ⟨hq, h.post hb⟩
theorem KM.new (w : World) (m : S25) (v3 v4 : Value) : KM w (w.alloc (.cells #[.int .i64 m.f0, .string m.f1, .string m.f2, v3, v4] 25)) m v3 v4 := ⟨below_alloc (Below.refl _ _) _, blk_new w _⟩
section
variable (W : World) (m : S25) (A3 : Option Addr) (c3 : Nat) (A4 : Option Addr) (c4 : Nat)
theorem c54 (ht : tinyP 0 m) (hM : MC W m A3 c3 A4 c4) :
  Calls Try.prog 54 #[.agg #[.int .i64 m.f0, .string m.f1, .string m.f2, .slice A3 m.f3.length c3, .slice A4 m.f4.length c4]] W fun e W' =>
   (∃ D3 d3 D4 d4, e = .returned (.agg #[.int .i64 m.f0, .string m.f1, .string m.f2, .slice D3 m.f3.length d3, .slice D4 m.f4.length d4]) ∧ MC W' m D3 d3 D4 d4) ∧ Below W.heap.size W W' :=
 (matcher54 W m A3 c3 A4 c4 ht hM).mono fun _ _ ⟨D3, d3, D4, d4, he, hm, hb⟩ => ⟨⟨D3, d3, D4, d4, he, hm.now⟩, hb⟩
theorem c31 (hM : MC W m A3 c3 A4 c4) :
  Calls Try.prog 31 #[.agg #[.int .i64 m.f0, .string m.f1, .string m.f2, .slice A3 m.f3.length c3, .slice A4 m.f4.length c4]] W fun e W' => (∃ v : Bool, e = .returned (.bool v) ∧ (v = true → tinyP 0 m)) ∧ Below W.heap.size W W' :=
 (tiny31 W m A3 c3 A4 c4 hM).mono fun _ _ ⟨v, he, hb, ht⟩ => ⟨⟨v, he, ht⟩, hb⟩
end
section
variable {w W : World} {m n : S25} {A3 A4 B3 B4 : Option Addr} {c3 c4 b3 b4 : Nat}
theorem m54 (h : KM w W m (.slice A3 m.f3.length c3) (.slice A4 m.f4.length c4)) (ht : tinyP 0 m) (hM : MC w m A3 c3 A4 c4) :
  Calls Try.prog 54 #[.agg #[.int .i64 m.f0, .string m.f1, .string m.f2, .slice A3 m.f3.length c3, .slice A4 m.f4.length c4]] W fun e W' => (∃ D3 d3 D4 d4, e = .returned (.agg #[.int .i64 m.f0, .string m.f1, .string m.f2, .slice D3 m.f3.length d3, .slice D4 m.f4.length d4]) ∧ MC W' m D3 d3 D4 d4) ∧ KMP w W m (.slice A3 m.f3.length c3) (.slice A4 m.f4.length c4) W' := h.calls (c54 W m A3 c3 A4 c4 ht (hM.below h.1))
theorem m36 {v : Bool} (hv : chkB m = v) (h : KM w W m (.slice A3 m.f3.length c3) (.slice A4 m.f4.length c4)) (ht : tinyP 0 m) (hM : MC w m A3 c3 A4 c4) :
  Calls Try.prog 36 #[.agg #[.int .i64 m.f0, .string m.f1, .string m.f2, .slice A3 m.f3.length c3, .slice A4 m.f4.length c4]] W fun e W' => e = .returned (.bool v) ∧ KMP w W m (.slice A3 m.f3.length c3) (.slice A4 m.f4.length c4) W' := h.calls (check36v W m A3 c3 A4 c4 v hv ht.2.1 (hM.below h.1))
theorem m31 (h : KM w W m (.slice A3 m.f3.length c3) (.slice A4 m.f4.length c4)) (hM : MC w m A3 c3 A4 c4) :
  Calls Try.prog 31 #[.agg #[.int .i64 m.f0, .string m.f1, .string m.f2, .slice A3 m.f3.length c3, .slice A4 m.f4.length c4]] W fun e W' => (∃ v : Bool, e = .returned (.bool v) ∧ (v = true → tinyP 0 m)) ∧ KMP w W m (.slice A3 m.f3.length c3) (.slice A4 m.f4.length c4) W' := h.calls (c31 W m A3 c3 A4 c4 (hM.below h.1))
theorem m52 (h : KM w W m (.slice A3 m.f3.length c3) (.slice A4 m.f4.length c4)) : Calls Try.prog 52 #[] W fun e W' => e = .returned (.bool true) ∧ KMP w W m (.slice A3 m.f3.length c3) (.slice A4 m.f4.length c4) W' := h.calls (awake52 W)
end
end Go.Proofs.Yteafilojjdfllaa
end
section
namespace Go.Proofs.Yteafilojjdfllaa
section
open Go Go.Proofs.Yteafilojjdfllaa.PAll
end
section
open Go Go.Proofs.Yteafilojjdfllaa.PAll
end
end Go.Proofs.Yteafilojjdfllaa
end
section
namespace Go.Proofs.Yteafilojjdfllaa
open Go Go.Proofs.Yteafilojjdfllaa.PAll
inductive Step where
 | stop
 | done
 | byte (c : UInt8) (n : Nat)
def digL : List UInt8 := [48, 49, 50, 51, 52, 53, 54, 55, 56, 57, 97, 98, 99, 100, 101, 102]
def hexV (c : UInt8) : Int := Lib.indexByte digL c
def hexB (h l : UInt8) : UInt8 := ((hexV h).toNat * 16 + (hexV l).toNat).toUInt8
/-- the program's -/
def stepP : List UInt8 → Step
 | [] => .stop
 | x :: r =>
  if x = 34 then .done
  else if x = 92 then
   (if 3 ≤ r.length ∧ r.getD 0 0 = 120 then (if hexV (r.getD 1 0) < 0 ∨ hexV (r.getD 2 0) < 0 then .stop else .byte (hexB (r.getD 1 0) (r.getD 2 0)) 3)
   else if r.length < 1 then .stop else .byte (r.getD 0 0) 1)
  else .byte x 0
theorem stepP_cons (x : UInt8) (r : List UInt8) : stepP (x :: r) = if x = 34 then .done
  else if x = 92 then
   (if 3 ≤ r.length ∧ r.getD 0 0 = 120 then (if hexV (r.getD 1 0) < 0 ∨ hexV (r.getD 2 0) < 0 then .stop else .byte (hexB (r.getD 1 0) (r.getD 2 0)) 3)
   else if r.length < 1 then .stop else .byte (r.getD 0 0) 1)
  else .byte x 0 := rfl
def unqW (step : List UInt8 → Step) : List UInt8 → Option (List UInt8 × List UInt8)
 | [] => none
 | x :: r => match step (x :: r) with
  | .stop => none
  | .done => some ([], r)
  | .byte c n => (unqW step (r.drop n)).map (fun q => (c :: q.1, q.2))
termination_by l => l.length
decreasing_by simp only [List.length_drop, List.length_cons]; omega
theorem hexV_hexD : ∀ n : Fin 16, hexV (hexD n.val) = (n.val : Int) := by decide +kernel
theorem hexB_hexD (c : UInt8) : hexB (hexD (c.toNat / 16)) (hexD (c.toNat % 16)) = c := by
 have h := c.toNat_lt
 have h1 := hexV_hexD ⟨c.toNat / 16, by omega⟩
 have h2 := hexV_hexD ⟨c.toNat % 16, by omega⟩
 simp only at h1 h2
 unfold hexB
 rw [h1, h2, Int.toNat_natCast, Int.toNat_natCast, show c.toNat / 16 * 16 + c.toNat % 16 = c.toNat by omega]
 simp
def Right (step : List UInt8 → Step) : Prop := (∀ t, step (34 :: t) = .done) ∧ ∀ c u, ∃ x r, encB c ++ u = x :: r ∧ ∃ n, step (x :: r) = .byte c n ∧ r.drop n = u
theorem right_P : Right stepP := by
 refine ⟨fun t => by rw [stepP_cons, if_pos rfl], fun c u => ?_⟩
 unfold encB
 by_cases h1 : c = 34 ∨ c = 92
 ·rw [if_pos h1]
  refine ⟨92, c :: u, rfl, 1, ?_, rfl⟩
  rw [stepP_cons, if_neg (by decide), if_pos rfl, if_neg (by rintro ⟨-, h⟩; simp only [List.getD_cons_zero] at h; rcases h1 with e | e <;> rw [e] at h <;> exact absurd h (by decide)), if_neg (by simp)]
  rfl
 ·rw [if_neg h1]
  by_cases h2 : c.toNat < 32 ∨ 127 ≤ c.toNat
  ·rw [if_pos h2]
   refine ⟨92, 120 :: hexD (c.toNat / 16) :: hexD (c.toNat % 16) :: u, rfl, 3, ?_, rfl⟩
   have h := c.toNat_lt
   have e1 := hexV_hexD ⟨c.toNat / 16, by omega⟩
   have e2 := hexV_hexD ⟨c.toNat % 16, by omega⟩
   simp only at e1 e2
   rw [stepP_cons, if_neg (by decide), if_pos rfl, if_pos ⟨by simp, rfl⟩]
   show (if hexV (hexD (c.toNat / 16)) < 0 ∨ hexV (hexD (c.toNat % 16)) < 0 then Step.stop else .byte (hexB (hexD (c.toNat / 16)) (hexD (c.toNat % 16))) 3) = _
   rw [e1, e2, if_neg (by omega), hexB_hexD]
  ·rw [if_neg h2]
   refine ⟨c, u, rfl, 0, ?_, rfl⟩
   rw [stepP_cons, if_neg (fun e => h1 (Or.inl e)), if_neg (fun e => h1 (Or.inr e))]
theorem unq_quote {step : List UInt8 → Step} (hr : Right step) (t : List UInt8) : ∀ (v : List UInt8), unqW step (v.flatMap encB ++ 34 :: t) = some (v, t)
 | [] => by rw [List.flatMap_nil, List.nil_append, unqW, hr.1]
 | c :: v => by
  obtain ⟨x, r, e, n, h1, h2⟩ := hr.2 c (v.flatMap encB ++ 34 :: t)
  rw [List.flatMap_cons, List.append_assoc, e, unqW, h1]
  simp only [h2]
  rw [unq_quote hr t v]
  rfl
/-- what stands behind '=' -/
def valW (step : List UInt8 → Step) : List UInt8 → Option (List UInt8 × List UInt8)
 | 34 :: r => unqW step r
 | _ => none
theorem val_quote {step : List UInt8 → Step} (hr : Right step) (v : ByteArray) (t : List UInt8) : valW step (quoteT v ++ t) = some (v.data.toList, t) := by
 unfold quoteT quoteL
 rw [List.cons_append, List.append_assoc]
 exact unq_quote hr t v.data.toList
theorem nameB_size {n : ByteArray} (h : nameB n = true) : n.data.toList.length ≤ 32 := by
 unfold nameB at h
 rw [Bool.and_eq_true, decide_eq_true_iff] at h
 have : n.data.toList.length = n.size := by simp
 omega
end Go.Proofs.Yteafilojjdfllaa
end
section
namespace Go.Proofs.Yteafilojjdfllaa
open Go
/-- As Q; by a goto to label l: J l. -/
def jumpsTo (J : Nat → Act → World → Prop) (Q : Exit → Act → World → Prop) : Exit → Act → World → Prop
 | .goto l, a, w => J l a w
 | e, a, w => Q e a w
theorem jumps_ret (J : Nat → Act → World → Prop) (Q : Exit → Act → World → Prop) : jumpsTo J Q .ret = Q .ret := rfl
section
variable {P : Program} {a : Act} {w : World} {Q : Exit → Act → World → Prop}
theorem wp_scope_many {c : Code} (J : Nat → Nat → Act → World → Prop)
  (first : (∀ l n a w, J l n a w → ∃ rest, findLabel c l = some rest ∧ rest.wp P (jumpsTo (fun l' a' w' => ∃ m, J l' m a' w') Q) a w) → c.wp P (jumpsTo (fun l a' w' => ∃ n, J l n a' w') Q) a w)
  (pass : ∀ l n a w, J l n a w → ∃ rest, findLabel c l = some rest ∧ rest.wp P (jumpsTo (fun l' a' w' => ∃ m, m < n ∧ J l' m a' w') Q) a w) : (Code.scope c).wp P Q a w := by
 intro b k cs
 have hg : ∀ l rest, findLabel c l = some rest → gotoIn l (.inScope c :: k) = some (.code rest :: .inScope c :: k) := fun l rest hf => by simp [gotoIn, hf]
 have key : ∀ n l a w, J l n a w → ∃ rest, findLabel c l = some rest ∧ ∃ e a' w', Q e a' w' ∧ Arrives P (lone (b.at a (.code rest :: .inScope c :: k)) cs w) b k cs e a' w' := by
  intro n
  induction n using Nat.strongRecOn with
  | _ n ih =>
   intro l a w hJ
   obtain ⟨rest, hf, hw⟩ := pass l n a w hJ
   refine ⟨rest, hf, ?_⟩
   obtain ⟨e, a₁, w₁, hq, harr⟩ := hw b (.inScope c :: k) cs
   cases e with
   | normal => exact ⟨.normal, a₁, w₁, hq, Steps.trans harr (.one step_inScope)⟩
   | exit id => exact ⟨.exit id, a₁, w₁, hq, fun k' hk => harr k' (by simp [exitTo, hk])⟩
   | goto l' =>
    obtain ⟨m, hlt, hJ'⟩ := hq
    obtain ⟨rest', hf', e₂, a₂, w₂, hq₂, harr₂⟩ := ih m hlt l' a₁ w₁ hJ'
    exact ⟨e₂, a₂, w₂, hq₂, .of_steps (harr _ (hg _ _ hf')) harr₂⟩
   | ret => exact ⟨_, a₁, w₁, hq, harr⟩
   | panic ch => exact ⟨_, a₁, w₁, hq, harr⟩
   | outgrown => exact ⟨_, a₁, w₁, hq, harr⟩
 have weak : ∀ l n a w, J l n a w → ∃ rest, findLabel c l = some rest ∧ rest.wp P (jumpsTo (fun l' a' w' => ∃ m, J l' m a' w') Q) a w := by
  intro l n a w hJ
  obtain ⟨rest, hf, hw⟩ := pass l n a w hJ
  refine ⟨rest, hf, Code.wp_mono ?_ hw⟩
  intro e a w h
  cases e with
  | goto l' => obtain ⟨m, _, hm⟩ := h; exact ⟨m, hm⟩
  | normal => exact h
  | exit id => exact h
  | ret => exact h
  | panic ch => exact h
  | outgrown => exact h
 obtain ⟨e, a₁, w₁, hq, harr⟩ := first weak b (.inScope c :: k) cs
 cases e with
 | normal => exact ⟨.normal, a₁, w₁, hq, .head step_scope (Steps.trans harr (.one step_inScope))⟩
 | exit id => exact ⟨.exit id, a₁, w₁, hq, fun k' hk => .head step_scope (harr k' (by simp [exitTo, hk]))⟩
 | goto l' =>
  obtain ⟨n, hJ'⟩ := hq
  obtain ⟨rest', hf', e₂, a₂, w₂, hq₂, harr₂⟩ := key n l' a₁ w₁ hJ'
  exact ⟨e₂, a₂, w₂, hq₂, .of_steps (.head step_scope (harr _ (hg _ _ hf'))) harr₂⟩
 | ret => exact ⟨_, a₁, w₁, hq, .of_steps (.one step_scope) harr⟩
 | panic ch => exact ⟨_, a₁, w₁, hq, .of_steps (.one step_scope) harr⟩
 | outgrown => exact ⟨_, a₁, w₁, hq, .of_steps (.one step_scope) harr⟩
end
end Go.Proofs.Yteafilojjdfllaa
end
section
namespace Go.Proofs.Yteafilojjdfllaa
open Go Go.RowKit Go.Proofs.YteafilojjdfllaaW.PrintWords Go.Proofs.YteafilojjdfllaaW.PrintLast Go.Proofs.YteafilojjdfllaaW.PrintMore Go.Proofs.Yteafilojjdfllaa.PAll
set_option linter.unusedVariables false
set_option linter.unusedSimpArgs false
def unqRet (n : Nat) : Option (List UInt8 × List UInt8) → Value
 | none => .tuple #[.string ⟨#[]⟩, .int .i64 0, .bool false]
 | some (v, t) => .tuple #[.string ⟨v.toArray⟩, .int .i64 ((n : Int) - t.length), .bool true]
def bN (s : ByteArray) (n : Nat) : UInt8 := s.data.toList.getD n 0
theorem bN_at (s : ByteArray) (n : Nat) (x : UInt8) (hx : bN s n = x) : ∀ h : n < s.size, ((s[n]'h).toNat : Int) = (x.toNat : Int) := fun h => by
 have h' : n < s.data.size := h
 rw [← hx, bN, List.getD_eq_getElem?_getD, Array.getElem?_toList, Array.getElem?_eq_getElem h']
 rfl
theorem bN_drop (s : ByteArray) (n : Nat) (h : n < s.size) : s.data.toList.drop n = bN s n :: s.data.toList.drop (n + 1) := bdrop s n h
theorem unq_nil {step : List UInt8 → Step} : unqW step [] = none := by rw [unqW]
theorem unq_cons {step : List UInt8 → Step} (x : UInt8) (r : List UInt8) : unqW step (x :: r) = match step (x :: r) with
  | .stop => none
  | .done => some ([], r)
  | .byte c n => (unqW step (r.drop n)).map (fun q => (c :: q.1, q.2)) := by first | (rw [unqW]; rfl) | rw [unqW]
theorem unq_end (s : ByteArray) (j : Nat) (h : s.size ≤ j) : unqW stepP (s.data.toList.drop j) = none := by
 rw [List.drop_of_length_le (by simpa using h), unq_nil]
theorem unq_34 (s : ByteArray) (j : Nat) (h : j < s.size) (hx : bN s j = 34) : unqW stepP (s.data.toList.drop j) = some ([], s.data.toList.drop (j + 1)) := by
 rw [bN_drop s j h, hx, unq_cons, stepP_cons, if_pos rfl]
theorem unq_raw (s : ByteArray) (j : Nat) (h : j < s.size) (x : UInt8) (hx : bN s j = x) (h1 : x ≠ 34) (h2 : x ≠ 92) : unqW stepP (s.data.toList.drop j) = (unqW stepP (s.data.toList.drop (j + 1))).map (fun q => (x :: q.1, q.2)) := by
 rw [bN_drop s j h, hx, unq_cons, stepP_cons, if_neg h1, if_neg h2]
 rfl
theorem drop_getD (s : ByteArray) (j i : Nat) : (s.data.toList.drop j).getD i 0 = bN s (j + i) := by
 rw [bN, List.getD_eq_getElem?_getD, List.getD_eq_getElem?_getD, List.getElem?_drop]
theorem drop_len (s : ByteArray) (j : Nat) : (s.data.toList.drop j).length = s.size - j := by
 rw [List.length_drop]; simp
theorem unq_hex (s : ByteArray) (j : Nat) (h : j + 4 ≤ s.size) (hx : bN s j = 92) (h1 : bN s (j + 1) = 120) (y z : UInt8) (hy : bN s (j + 2) = y) (hz : bN s (j + 3) = z) : unqW stepP (s.data.toList.drop j) = if hexV y < 0 ∨ hexV z < 0 then none else (unqW stepP (s.data.toList.drop (j + 4))).map (fun q => (hexB y z :: q.1, q.2)) := by
 rw [bN_drop s j (by omega), hx, unq_cons, stepP_cons, if_neg (by decide), if_pos rfl, drop_getD, drop_getD, drop_getD, drop_len, if_pos ⟨by omega, h1⟩, hy, hz]
 split <;> rename_i e <;> split at e <;> cases e <;> rename_i e2
 ·rw [if_pos e2]
 ·rw [if_neg e2, List.drop_drop]
theorem unq_short (s : ByteArray) (j : Nat) (h : j < s.size) (h2 : s.size < j + 2) (hx : bN s j = 92) : unqW stepP (s.data.toList.drop j) = none := by
 rw [bN_drop s j (by omega), hx, unq_cons, stepP_cons, if_neg (by decide), if_pos rfl, drop_getD, drop_getD, drop_getD, drop_len, if_neg (fun h => by omega), if_pos (by omega)]
theorem unq_next (s : ByteArray) (j : Nat) (h : j + 2 ≤ s.size) (hx : bN s j = 92) (h1 : ¬ (j + 4 ≤ s.size ∧ bN s (j + 1) = 120)) (y : UInt8) (hy : bN s (j + 1) = y) : unqW stepP (s.data.toList.drop j) = (unqW stepP (s.data.toList.drop (j + 2))).map (fun q => (y :: q.1, q.2)) := by
 rw [bN_drop s j (by omega), hx, unq_cons, stepP_cons, if_neg (by decide), if_pos rfl, drop_getD, drop_getD, drop_getD, drop_len, if_neg (fun h => h1 ⟨by omega, h.2⟩), if_neg (by omega)]
 simp only [Nat.add_zero, hy, List.drop_drop]
theorem un_toNat {x : UInt8} {n : Nat} (hn : n < 256) : (x.toNat : Int) = (n : Int) ↔ x = n.toUInt8 := by
 constructor
 ·intro h
  refine UInt8.toNat_inj.1 ?_
  simp
  omega
 ·rintro rfl
  simp
  omega
theorem hexV_fin : ∀ n : Fin 256, -1 ≤ hexV n.val.toUInt8 ∧ hexV n.val.toUInt8 ≤ 15 := by decide +kernel
theorem hexV_range (c : UInt8) : -1 ≤ hexV c ∧ hexV c ≤ 15 := by
 have h := hexV_fin ⟨c.toNat, c.toNat_lt⟩
 simp only [show c.toNat.toUInt8 = c from by simp] at h
 exact h
theorem or16 : ∀ a b : Fin 16, Go.bits .or .i64 ((a.val : Int) * 16) (b.val : Int) % 256 = ((a.val * 16 + b.val : Nat) : Int) := by decide +kernel
theorem or_hex {y z : UInt8} {v1 v2 : Int} (h1 : hexV y = v1) (h2 : hexV z = v2) (p1 : 0 ≤ v1) (p2 : 0 ≤ v2) : Go.bits .or .i64 (v1 * 16) v2 % 256 = ((hexB y z).toNat : Int) := by
 have r1 := (hexV_range y).2
 have r2 := (hexV_range z).2
 rw [h1] at r1
 rw [h2] at r2
 have h := or16 ⟨v1.toNat, by omega⟩ ⟨v2.toNat, by omega⟩
 simp only at h
 rw [Int.toNat_of_nonneg p1, Int.toNat_of_nonneg p2] at h
 rw [h, hexB, h1, h2]
 simp
 omega
theorem idx131 (w : World) (b : UInt8) (v : Int) (hv : hexV b = v) : Calls Try.prog 131 #[.string ⟨#[48, 49, 50, 51, 52, 53, 54, 55, 56, 57, 97, 98, 99, 100, 101, 102]⟩, .int .u8 (b.toNat : Int)] w fun e w' => e = .returned (.int .i64 v) ∧ ∃ m, w' = w.drewN m := by
 refine (Try.strings_IndexByte _ _ w).mono ?_
 rintro e w' ⟨rfl, rfl⟩
 refine ⟨?_, 0, rfl⟩
 rw [← hv, Int.toNat_natCast]
 unfold hexV digL
 simp
theorem val_34 (s : ByteArray) (j : Nat) (h : j < s.size) (hx : bN s j = 34) : valW stepP (s.data.toList.drop j) = (unqW stepP (s.data.toList.drop (j + 1))).map (fun q => ([] ++ q.1, q.2)) := by
 rw [bN_drop s j h, hx]
 show unqW stepP _ = _
 cases unqW stepP (s.data.toList.drop (j + 1)) <;> rfl
theorem val_end (s : ByteArray) (j : Nat) (h : s.size ≤ j) : valW stepP (s.data.toList.drop j) = none := by
 rw [List.drop_of_length_le (by simpa using h)]; rfl
theorem val_no (s : ByteArray) (j : Nat) (h : j < s.size) (hx : bN s j ≠ 34) : valW stepP (s.data.toList.drop j) = none := by
 rw [bN_drop s j h]
 generalize bN s j = y at hx
 unfold valW
 split
 ·rename_i e; cases e; exact absurd rfl hx
 ·rfl
theorem map_snoc {Q q : Option (List UInt8 × List UInt8)} {xs : List UInt8} {c : UInt8} {r : Option (List UInt8 × List UInt8)} (h : Q = q.map (fun q => (xs ++ q.1, q.2))) (hq : q = r.map (fun q => (c :: q.1, q.2))) : Q = r.map (fun q => ((xs ++ [c]) ++ q.1, q.2)) := by
 rw [h, hq]
 cases r <;> simp
theorem map_none' {Q q : Option (List UInt8 × List UInt8)} {xs : List UInt8} (h : Q = q.map (fun q => (xs ++ q.1, q.2))) (hq : q = none) : Q = none := by rw [h, hq]; rfl
/-- the frame at a label -/
def unqF (s : ByteArray) (j : Nat) (o : Value) (a : Act) : Prop :=
 ∃ f : Nat → Value, a = { tmps := #[.string s, .int .i64 (j : Int), undef, undef, f 4, f 5, f 6, o, f 8, f 9, f 10, f 11, f 12, f 13, f 14, f 15, f 16, f 17, f 18, f 19, f 20, f 21, f 22, f 23, f 24, f 25, f 26, f 27, f 28, f 29, f 30, f 31, f 32, f 33, f 34, f 35, f 36, f 37, f 38, f 39, f 40, f 41, f 42, f 43, f 44, f 45, f 46, f 47, f 48, f 49, f 50, f 51, f 52, f 53, f 54, f 55, f 56, f 57, f 58, f 59, f 60, f 61, f 62, f 63, f 64, f 65, f 66, f 67, f 68, f 69, f 70, f 71, f 72, f 73, f 74, f 75, f 76, f 77, f 78, f 79, f 80, f 81, f 82, f 83, f 84, f 85, f 86, f 87, f 88, f 89, f 90, f 91, f 92, f 93, f 94, f 95, f 96], defers := [] }
theorem unqF_mk (s : ByteArray) (j : Nat) (o : Value) (T : Array Value) (h : T = #[.string s, .int .i64 (j : Int), undef, undef, T.getD 4 undef, T.getD 5 undef, T.getD 6 undef, o, T.getD 8 undef, T.getD 9 undef, T.getD 10 undef, T.getD 11 undef, T.getD 12 undef, T.getD 13 undef, T.getD 14 undef, T.getD 15 undef, T.getD 16 undef, T.getD 17 undef, T.getD 18 undef, T.getD 19 undef, T.getD 20 undef, T.getD 21 undef, T.getD 22 undef, T.getD 23 undef, T.getD 24 undef, T.getD 25 undef, T.getD 26 undef, T.getD 27 undef, T.getD 28 undef, T.getD 29 undef, T.getD 30 undef, T.getD 31 undef, T.getD 32 undef, T.getD 33 undef, T.getD 34 undef, T.getD 35 undef, T.getD 36 undef, T.getD 37 undef, T.getD 38 undef, T.getD 39 undef, T.getD 40 undef, T.getD 41 undef, T.getD 42 undef, T.getD 43 undef, T.getD 44 undef, T.getD 45 undef, T.getD 46 undef, T.getD 47 undef, T.getD 48 undef, T.getD 49 undef, T.getD 50 undef, T.getD 51 undef, T.getD 52 undef, T.getD 53 undef, T.getD 54 undef, T.getD 55 undef, T.getD 56 undef, T.getD 57 undef, T.getD 58 undef, T.getD 59 undef, T.getD 60 undef, T.getD 61 undef, T.getD 62 undef, T.getD 63 undef, T.getD 64 undef, T.getD 65 undef, T.getD 66 undef, T.getD 67 undef, T.getD 68 undef, T.getD 69 undef, T.getD 70 undef, T.getD 71 undef, T.getD 72 undef, T.getD 73 undef, T.getD 74 undef, T.getD 75 undef, T.getD 76 undef, T.getD 77 undef, T.getD 78 undef, T.getD 79 undef, T.getD 80 undef, T.getD 81 undef, T.getD 82 undef, T.getD 83 undef, T.getD 84 undef, T.getD 85 undef, T.getD 86 undef, T.getD 87 undef, T.getD 88 undef, T.getD 89 undef, T.getD 90 undef, T.getD 91 undef, T.getD 92 undef, T.getD 93 undef, T.getD 94 undef, T.getD 95 undef, T.getD 96 undef]) : unqF s j o { tmps := T, defers := [] } := ⟨fun k => T.getD k undef, congrArg (fun t => ({ tmps := t, defers := [] } : Act)) h⟩
def unqJ (w : World) (s : ByteArray) (Q : Option (List UInt8 × List UInt8)) (n : Nat) (j : Nat) (a : Act) (w' : World) : Prop :=
 ∃ (o : Value) (xs : List UInt8), unqF s j o a ∧ j ≤ s.size ∧ (Kd.int .u8).R 5 w' w.heap.size (fun _ => True) o (ints xs) ∧ Q = (unqW stepP (s.data.toList.drop j)).map (fun q => (xs ++ q.1, q.2)) ∧ Below w.heap.size w w' ∧ xs.length ≤ j
def unqL (w : World) (s : ByteArray) (Q : Option (List UInt8 × List UInt8)) (l n : Nat) (a : Act) (w' : World) : Prop :=
 (l = 0 ∧ ∃ j, n = 2 * (s.size - j) + 1 ∧ unqJ w s Q n j a w') ∨ (l = 1 ∧ ∃ j, n = 0 ∧ j < s.size ∧ bN s j = 34 ∧ unqJ w s Q n j a w') ∨ (l = 2 ∧ ∃ j, n = 2 * (s.size - j) ∧ j < s.size ∧ bN s j = 92 ∧ unqJ w s Q n j a w')
set_option maxRecDepth 100000 in
set_option maxHeartbeats 8000000 in
theorem unq132 (w : World) (s : ByteArray) (i : Nat) (hi : i ≤ s.size) (hs : s.size ≤ 1000000000) :
  Calls Try.prog 132 #[.string s, .int .i64 i] w fun e w' => e = .returned (unqRet s.size (valW stepP (s.data.toList.drop i))) ∧ Below w.heap.size w w' := by
 obtain ⟨Q, hQ⟩ : ∃ Q, valW stepP (s.data.toList.drop i) = Q := ⟨_, rfl⟩
 rw [hQ]
 have HQ := Lib.hid hQ
 clear hQ
 go_enter Try.func132, Try.ntmps132
 go_wp2
 refine wp_scope_many (unqL w s Q) ?first ?pass
 case first =>
  intro hpass
  have HB := Lib.hid (Below.refl w.heap.size w)
  by_cases hlt : i < s.size
  ·obtain ⟨x, hx⟩ : ∃ x, bN s i = x := ⟨_, rfl⟩
   have hx0 := bN_at s i x hx
   have hge : decide (s.size ≤ i) = false := decide_eq_false (by omega)
   by_cases e34 : (x.toNat : Int) = 34
   ·have HQ2 := Lib.hid (HQ.out.symm.trans (val_34 s i hlt (hx.trans ((un_toNat (n := 34) (by decide)).1 e34))))
    clear hx
    go_wp2
    go_step3
    clear e34 hx0 hge
    have hHE : ∃ j : Nat, j = i + 1 ∧ (i : Int) + 1 = (j : Int) ∧ Hid (Q = (unqW stepP (s.data.toList.drop j)).map (fun q => (([] : List UInt8) ++ q.1, q.2))) := ⟨i + 1, rfl, rfl, HQ2⟩
    obtain ⟨j, ej, ejI, HE⟩ := hHE
    rw [ejI]
    have hjs : j ≤ s.size := by omega
    clear ej ejI HQ2
    have HR := Lib.hid (Kd.R_nil (d := Kd.int .u8) 5 w w.heap.size (fun _ => True))
    obtain ⟨o, eo⟩ : ∃ o, Value.slice none 0 0 = o := ⟨_, rfl⟩
    rw [eo] at HR
    obtain ⟨xs, exs⟩ : ∃ xs : List UInt8, ([] : List UInt8) = xs := ⟨_, rfl⟩
    have hl : xs.length ≤ j := by rw [← exs]; exact Nat.zero_le _
    rw [exs] at HE
    have HR := Lib.hid (show (Kd.int .u8).R 5 w w.heap.size (fun _ => True) o (ints xs) from by rw [← exs]; exact HR.out)
    clear exs
    rw [eo]
    clear eo
    by_cases hlj : j < s.size
    ·obtain ⟨x, hx⟩ : ∃ x, bN s j = x := ⟨_, rfl⟩
     have hx0 := bN_at s j x hx
     have hge : decide (s.size ≤ j) = false := decide_eq_false (by omega)
     have HX := Lib.hid hx
     clear hx
     by_cases e34 : (x.toNat : Int) = 34
     ·go_wp2
      go_step3
      exact (show ∃ m, unqL w s Q 1 m _ _ from ⟨0, Or.inr (Or.inl ⟨rfl, j, rfl, hlj, HX.out.trans ((un_toNat (n := 34) (by decide)).1 e34), o, xs, unqF_mk s j o _ rfl, hjs, HR.out, HE.out, HB.out, hl⟩)⟩)
     ·have n34 : ((x.toNat : Int) == 34) = false := beq_eq_false_iff_ne.2 e34
      by_cases e92 : (x.toNat : Int) = 92
      ·go_wp2
       go_step3
       exact (show ∃ m, unqL w s Q 2 m _ _ from ⟨_, Or.inr (Or.inr ⟨rfl, j, rfl, hlj, HX.out.trans ((un_toNat (n := 92) (by decide)).1 e92), o, xs, unqF_mk s j o _ rfl, hjs, HR.out, HE.out, HB.out, hl⟩)⟩)
      ·have n92 : ((x.toNat : Int) == 92) = false := beq_eq_false_iff_ne.2 e92
       have HE2 := Lib.hid (map_snoc HE.out (unq_raw s j hlj x HX.out (fun e => e34 (by rw [e]; rfl)) (fun e => e92 (by rw [e]; rfl))))
       go_wp2_with (at_builtin; refine Kd.R_append (Kd.int .u8) (w0 := w) w.heap.size rfl (.tmp 33) (.tmp 37) 85 5 (.int .u8 0) 1 rfl Try.underlying85 info5 rfl (by decide) (by omega) o (ints xs) ((x.toNat : Int)) [.int .u8 ((x.toNat : Int))] (fun _ => True) (fun _ => False) rfl rfl rfl (fun _ hk => hk.elim) (fun _ _ => trivial) HR.out HB.out (below_size HB.out) (by rw [ints_len]; omega) ?_; intro v1 w1 hown1 hbel1 hg1 hat1; clear hg1 hat1)
       have HO := Lib.hid (show (Kd.int .u8).R 5 w1 w.heap.size (fun _ => True) v1 (ints (xs ++ [x])) from by rw [ints_app]; exact hown1)
       have HB1 := Lib.hid hbel1
       clear hown1 hbel1
       go_wp2
       go_step3
       exact (show ∃ m, unqL w s Q 0 m _ _ from ⟨_, Or.inl ⟨rfl, j + 1, rfl, v1, xs ++ [x], unqF_mk s (j + 1) v1 _ rfl, by omega, HO.out, HE2.out, HB1.out, by rw [List.length_append, List.length_singleton]; omega⟩⟩)
    ·have hge : decide (s.size ≤ j) = true := decide_eq_true (by omega)
     have HE2 := Lib.hid (map_none' HE.out (unq_end s j (by omega)))
     go_wp2
     rw [jumps_ret]
     go_ret3
     exact ⟨by rw [HE2.out]; rfl, HB.out⟩
   ·have HQ2 := Lib.hid (HQ.out.symm.trans (val_no s i hlt (fun e => e34 ((un_toNat (n := 34) (by decide)).2 (hx.symm.trans e)))))
    have n34 : ((x.toNat : Int) == 34) = false := beq_eq_false_iff_ne.2 e34
    have n34b : ((x.toNat : Int) != 34) = true := by simp [bne, n34]
    clear hx
    go_wp2
    rw [jumps_ret]
    go_ret3
    exact ⟨by rw [HQ2.out]; rfl, HB.out⟩
  ·have HQ2 := Lib.hid (HQ.out.symm.trans (val_end s i (by omega)))
   have hge : decide (s.size ≤ i) = true := decide_eq_true (by omega)
   go_wp2
   rw [jumps_ret]
   go_ret3
   exact ⟨by rw [HQ2.out]; rfl, HB.out⟩
 case pass =>
  rintro l n a w' (⟨rfl, j, rfl, hJ⟩ | ⟨rfl, j, rfl, hj, hx, hJ⟩ | ⟨rfl, j, rfl, hj, hx, hJ⟩)
  ·refine ⟨_, rfl, ?_⟩
   obtain ⟨o, xs, ⟨f, rfl⟩, hj, hR, hE, hB, hl⟩ := hJ
   have HR := Lib.hid hR
   have HE := Lib.hid hE
   have HB := Lib.hid hB
   clear hR hE hB
   by_cases hlt : j < s.size
   ·obtain ⟨x, hx⟩ : ∃ x, bN s j = x := ⟨_, rfl⟩
    have hx0 := bN_at s j x hx
    have hge : decide (s.size ≤ j) = false := decide_eq_false (by omega)
    have HX := Lib.hid hx
    clear hx
    by_cases e34 : (x.toNat : Int) = 34
    ·go_wp2
     go_step3
     exact (show ∃ m, m < 2 * (s.size - j) + 1 ∧ unqL w s Q 1 m _ _ from ⟨0, by omega, Or.inr (Or.inl ⟨rfl, j, rfl, hlt, HX.out.trans ((un_toNat (n := 34) (by decide)).1 e34), o, xs, unqF_mk s j o _ rfl, hj, HR.out, HE.out, HB.out, hl⟩)⟩)
    ·have n34 : ((x.toNat : Int) == 34) = false := beq_eq_false_iff_ne.2 e34
     by_cases e92 : (x.toNat : Int) = 92
     ·go_wp2
      go_step3
      exact (show ∃ m, m < 2 * (s.size - j) + 1 ∧ unqL w s Q 2 m _ _ from ⟨_, by omega, Or.inr (Or.inr ⟨rfl, j, rfl, hlt, HX.out.trans ((un_toNat (n := 92) (by decide)).1 e92), o, xs, unqF_mk s j o _ rfl, hj, HR.out, HE.out, HB.out, hl⟩)⟩)
     ·have n92 : ((x.toNat : Int) == 92) = false := beq_eq_false_iff_ne.2 e92
      have HE2 := Lib.hid (map_snoc HE.out (unq_raw s j hlt x HX.out (fun e => e34 (by rw [e]; rfl)) (fun e => e92 (by rw [e]; rfl))))
      go_wp2_with (at_builtin; refine Kd.R_append (Kd.int .u8) (w0 := w) w.heap.size rfl (.tmp 33) (.tmp 37) 85 5 (.int .u8 0) 1 rfl Try.underlying85 info5 rfl (by decide) (by omega) o (ints xs) ((x.toNat : Int)) [.int .u8 ((x.toNat : Int))] (fun _ => True) (fun _ => False) rfl rfl rfl (fun _ hk => hk.elim) (fun _ _ => trivial) HR.out HB.out (below_size HB.out) (by rw [ints_len]; omega) ?_; intro v1 w1 hown1 hbel1 hg1 hat1; clear hg1 hat1)
      have HO := Lib.hid (show (Kd.int .u8).R 5 w1 w.heap.size (fun _ => True) v1 (ints (xs ++ [x])) from by rw [ints_app]; exact hown1)
      have HB1 := Lib.hid hbel1
      clear hown1 hbel1
      go_wp2
      go_step3
      exact (show ∃ m, m < 2 * (s.size - j) + 1 ∧ unqL w s Q 0 m _ _ from ⟨_, by omega, Or.inl ⟨rfl, j + 1, rfl, v1, xs ++ [x], unqF_mk s (j + 1) v1 _ rfl, by omega, HO.out, HE2.out, HB1.out, by rw [List.length_append, List.length_singleton]; omega⟩⟩)
   ·have hge : decide (s.size ≤ j) = true := decide_eq_true (by omega)
    have HE2 := Lib.hid (map_none' HE.out (unq_end s j (by omega)))
    go_wp2
    rw [jumps_ret]
    go_ret3
    exact ⟨by rw [HE2.out]; rfl, HB.out⟩
  ·refine ⟨_, rfl, ?_⟩
   obtain ⟨o, xs, ⟨f, rfl⟩, hjs, hR, hE, hB, hl⟩ := hJ
   have HR := Lib.hid hR
   have HE := Lib.hid hE
   have HB := Lib.hid hB
   have HX := Lib.hid hx
   clear hR hE hB hx
   have hcv := own_string (P := Try.prog) Try.underlying85 Try.underlying5 Try.underlying9 (Kd.own_of_R HR.out)
   have HE2 := Lib.hid (HE.out.trans (congrArg (Option.map (fun q => (xs ++ q.1, q.2))) (unq_34 s j hj HX.out)))
   go_wp2
   rw [jumps_ret]
   go_ret3
   refine ⟨?_, HB.out⟩
   rw [HE2.out]
   have h1 : strOfNums (ints xs) = ⟨xs.toArray⟩ := Lib.Lz.strOfNums_map xs
   have h2 : ((s.size : Int) - ((s.data.toList.drop (j + 1)).length : Nat)) = (j : Int) + 1 := by rw [drop_len]; omega
   show _ = Ending.returned (.tuple #[.string ⟨(xs ++ []).toArray⟩, .int .i64 ((s.size : Int) - ((s.data.toList.drop (j + 1)).length : Nat)), .bool true])
   rw [h2, List.append_nil, ← h1]
   rfl
  ·refine ⟨_, rfl, ?_⟩
   obtain ⟨o, xs, ⟨f, rfl⟩, hjs, hR, hE, hB, hl⟩ := hJ
   have HR := Lib.hid hR
   have HE := Lib.hid hE
   have HB := Lib.hid hB
   have HX := Lib.hid hx
   clear hR hE hB hx
   by_cases h2 : s.size < j + 2
   ·have HE2 := Lib.hid (map_none' HE.out (unq_short s j hj h2 HX.out))
    have d4 : decide ((4 : Int) ≤ (s.size : Int) - (j : Int)) = false := decide_eq_false (by omega)
    have d2 : decide ((s.size : Int) - (j : Int) < (2 : Int)) = true := decide_eq_true (by omega)
    have n4 : ¬ (4 : Int) ≤ (s.size : Int) - (j : Int) := by omega
    have n2 : (s.size : Int) - (j : Int) < (2 : Int) := by omega
    go_wp2
    rw [jumps_ret]
    go_ret3
    exact ⟨by rw [HE2.out]; rfl, HB.out⟩
   ·have d2 : decide ((s.size : Int) - (j : Int) < (2 : Int)) = false := decide_eq_false (by omega)
    have n2 : ¬ (s.size : Int) - (j : Int) < (2 : Int) := by omega
    obtain ⟨x1, hx1⟩ : ∃ x, bN s (j + 1) = x := ⟨_, rfl⟩
    have g1 := bN_at s (j + 1) x1 hx1
    have HX1 := Lib.hid hx1
    clear hx1
    have b1 : (j : Int) + 1 < (s.size : Int) := by omega
    have b1n : j + 1 < s.size := by omega
    by_cases h4 : j + 4 ≤ s.size
    ·have d4 : decide ((4 : Int) ≤ (s.size : Int) - (j : Int)) = true := decide_eq_true (by omega)
     have n4 : (4 : Int) ≤ (s.size : Int) - (j : Int) := by omega
     by_cases e120 : (x1.toNat : Int) = 120
     ·obtain ⟨y, hy⟩ : ∃ x, bN s (j + 2) = x := ⟨_, rfl⟩
      obtain ⟨z, hz⟩ : ∃ x, bN s (j + 3) = x := ⟨_, rfl⟩
      have g2 := bN_at s (j + 2) y hy
      have g3 := bN_at s (j + 3) z hz
      have HE0 := unq_hex s j h4 HX.out (HX1.out.trans ((un_toNat (n := 120) (by decide)).1 e120)) y z hy hz
      obtain ⟨v1, hv1⟩ : ∃ v, hexV y = v := ⟨_, rfl⟩
      obtain ⟨v2, hv2⟩ : ∃ v, hexV z = v := ⟨_, rfl⟩
      rw [hv1, hv2] at HE0
      have HV1 := Lib.hid hv1
      have HV2 := Lib.hid hv2
      have HE0 := Lib.hid HE0
      clear hy hz hv1 hv2
      have b2 : (j : Int) + 2 < (s.size : Int) := by omega
      have b3 : (j : Int) + 3 < (s.size : Int) := by omega
      have b2n : j + 2 < s.size := by omega
      have b3n : j + 3 < s.size := by omega
      go_wp2
      have wr2 : IntKind.i64.wrap ((j : Int) + 2) = (j : Int) + 2 := by rw [i64_w]; unfold wrap64; omega
      have wr3 : IntKind.i64.wrap ((j : Int) + 3) = (j : Int) + 3 := by rw [i64_w]; unfold wrap64; omega
      have p2 : (0 : Int) ≤ (j : Int) + 2 := by omega
      have p3 : (0 : Int) ≤ (j : Int) + 3 := by omega
      have g2' : ∀ h : ((j : Int) + 2).toNat < s.size, ((s[((j : Int) + 2).toNat]'h).toNat : Int) = (y.toNat : Int) := fun h => g2 b2n
      have g3' : ∀ h : ((j : Int) + 3).toNat < s.size, ((s[((j : Int) + 3).toNat]'h).toNat : Int) = (z.toNat : Int) := fun h => g3 b3n
      go_quiet (first | (go_at_call 131; first | exact Calls.quiet_of (idx131 _ y v1 HV1.out) | exact Calls.quiet_of (idx131 _ z v2 HV2.out)))
      obtain ⟨l1, m1⟩ := hexV_range y
      obtain ⟨l2, m2⟩ := hexV_range z
      rw [HV1.out] at l1 m1
      rw [HV2.out] at l2 m2
      have HB := Lib.hid (pw_below_drewN HB.out nq)
      have HR := Lib.hid (Kd.R_drewN HR.out nq)
      generalize w'.drewN nq = W at HB HR ⊢
      by_cases q1 : v1 < 0
      ·have HE2 := Lib.hid (map_none' HE.out (HE0.out.trans (if_pos (Or.inl q1))))
       go_wp2
       rw [jumps_ret]
       go_ret3
       exact ⟨by rw [HE2.out]; rfl, HB.out⟩
      ·by_cases q2 : v2 < 0
       ·have HE2 := Lib.hid (map_none' HE.out (HE0.out.trans (if_pos (Or.inr q2))))
        go_wp2
        rw [jumps_ret]
        go_ret3
        exact ⟨by rw [HE2.out]; rfl, HB.out⟩
       ·have HE2 := Lib.hid (map_snoc HE.out (HE0.out.trans (if_neg (fun h => h.elim q1 q2))))
        go_wp2_with (at_builtin; refine Kd.R_append (Kd.int .u8) (w0 := w) w.heap.size rfl (.tmp 69) (.tmp 75) 85 5 (.int .u8 0) 1 rfl Try.underlying85 info5 rfl (by decide) (by omega) o (ints xs) (Go.bits .or .i64 (v1 * 16) v2 % 256) [.int .u8 (Go.bits .or .i64 (v1 * 16) v2 % 256)] (fun _ => True) (fun _ => False) rfl rfl rfl (fun _ hk => hk.elim) (fun _ _ => trivial) HR.out HB.out (below_size HB.out) (by rw [ints_len]; omega) ?_; intro o1 w1 hown1 hbel1 hg1 hat1; clear hg1 hat1)
        rw [or_hex HV1.out HV2.out (by omega) (by omega)] at hown1
        have HO := Lib.hid (show (Kd.int .u8).R 5 w1 w.heap.size (fun _ => True) o1 (ints (xs ++ [hexB y z])) from by rw [ints_app]; exact hown1)
        have HB1 := Lib.hid hbel1
        clear hown1 hbel1
        go_wp2
        go_step3
        exact (show ∃ m, m < 2 * (s.size - j) ∧ unqL w s Q 0 m _ _ from ⟨_, by omega, Or.inl ⟨rfl, j + 4, rfl, o1, xs ++ [hexB y z], unqF_mk s (j + 4) o1 _ rfl, by omega, HO.out, HE2.out, HB1.out, by rw [List.length_append, List.length_singleton]; omega⟩⟩)
     ·have n120 : ((x1.toNat : Int) == 120) = false := beq_eq_false_iff_ne.2 e120
      have HE2 := Lib.hid (map_snoc HE.out (unq_next s j (by omega) HX.out (fun h => e120 (by rw [← HX1.out, h.2]; rfl)) x1 HX1.out))
      go_wp2_with (at_builtin; refine Kd.R_append (Kd.int .u8) (w0 := w) w.heap.size rfl (.tmp 84) (.tmp 89) 85 5 (.int .u8 0) 1 rfl Try.underlying85 info5 rfl (by decide) (by omega) o (ints xs) ((x1.toNat : Int)) [.int .u8 ((x1.toNat : Int))] (fun _ => True) (fun _ => False) rfl rfl rfl (fun _ hk => hk.elim) (fun _ _ => trivial) HR.out HB.out (below_size HB.out) (by rw [ints_len]; omega) ?_; intro v1 w1 hown1 hbel1 hg1 hat1; clear hg1 hat1)
      have HO := Lib.hid (show (Kd.int .u8).R 5 w1 w.heap.size (fun _ => True) v1 (ints (xs ++ [x1])) from by rw [ints_app]; exact hown1)
      have HB1 := Lib.hid hbel1
      clear hown1 hbel1
      go_wp2
      go_step3
      exact (show ∃ m, m < 2 * (s.size - j) ∧ unqL w s Q 0 m _ _ from ⟨_, by omega, Or.inl ⟨rfl, j + 2, rfl, v1, xs ++ [x1], unqF_mk s (j + 2) v1 _ rfl, by omega, HO.out, HE2.out, HB1.out, by rw [List.length_append, List.length_singleton]; omega⟩⟩)
    ·have d4 : decide ((4 : Int) ≤ (s.size : Int) - (j : Int)) = false := decide_eq_false (by omega)
     have n4 : ¬ (4 : Int) ≤ (s.size : Int) - (j : Int) := by omega
     have HE2 := Lib.hid (map_snoc HE.out (unq_next s j (by omega) HX.out (fun h => h4 h.1) x1 HX1.out))
     go_wp2_with (at_builtin; refine Kd.R_append (Kd.int .u8) (w0 := w) w.heap.size rfl (.tmp 84) (.tmp 89) 85 5 (.int .u8 0) 1 rfl Try.underlying85 info5 rfl (by decide) (by omega) o (ints xs) ((x1.toNat : Int)) [.int .u8 ((x1.toNat : Int))] (fun _ => True) (fun _ => False) rfl rfl rfl (fun _ hk => hk.elim) (fun _ _ => trivial) HR.out HB.out (below_size HB.out) (by rw [ints_len]; omega) ?_; intro v1 w1 hown1 hbel1 hg1 hat1; clear hg1 hat1)
     have HO := Lib.hid (show (Kd.int .u8).R 5 w1 w.heap.size (fun _ => True) v1 (ints (xs ++ [x1])) from by rw [ints_app]; exact hown1)
     have HB1 := Lib.hid hbel1
     clear hown1 hbel1
     go_wp2
     go_step3
     exact (show ∃ m, m < 2 * (s.size - j) ∧ unqL w s Q 0 m _ _ from ⟨_, by omega, Or.inl ⟨rfl, j + 2, rfl, v1, xs ++ [x1], unqF_mk s (j + 2) v1 _ rfl, by omega, HO.out, HE2.out, HB1.out, by rw [List.length_append, List.length_singleton]; omega⟩⟩)
end Go.Proofs.Yteafilojjdfllaa
end
