/- A part of the proof of MatchParses. No condition. -/
import Derived.Deep.QuietTactic
import Derived.BigQuiet
import Derived.Defers
import Derived.Recover
import Derived.Lib.Join
import Derived.Lib.Bytealg
import Derived.Shelf.Strings.OnBuilder
import Derived.Shelf.Small.Strs
import Derived.Shelf.Strings.Search1
import Derived.Test.YteafilojjdfllaaProg
import Derived.Lib.LazyBuf
import Derived.Scope
import Derived.WalkMore
import Derived.Lib.Hide
import Derived.Shelf.SlGeneric
import Derived.Ground.SlsfProg
import Derived.Shelf.SlLaysF0
import Derived.Shelf.SlSortCmp.KitK
import Derived.Test.YteafilojjdfllaaZMatchParsesB
section
namespace Go.Proofs.Yteafilojjdfllaa.PAll
open Go.RowKit Go.Proofs.YteafilojjdfllaaW.PrintWords Go.Proofs.YteafilojjdfllaaW.PrintLast Go.Proofs.YteafilojjdfllaaW.PrintMore
attribute [local go_sem] max2_int min2_int max_two min_two max_three min_three max_four min_four   -- for this text's walks alone
set_option linter.unusedVariables false
set_option linter.unusedSimpArgs false
mutual
def match_eval.l0 : Nat → ByteArray → List ByteArray → Int → Int → Option (Bool)
 | 0, _, _, _, _ => none
 | k + 1, x5, x40, x41, x42 => if x42 < x41 then (if 0 ≤ x42 then (if x42 < (x40.length : Int) then (if (rdOf ByteArray.empty x40 x42).toList = x5.toList then (some true) else (match_eval.l0 k x5 x40 x41 (wrap64 (x42 + 1)))) else (none)) else (none)) else (some false)
def match_eval.l1 : Nat → List (S68) → Bool → List (S25) → Int → Int → Option (Bool)
 | 0, _, _, _, _, _ => none
 | k + 1, x1, x8, x63, x64, x65 => if x65 < x64 then (if 0 ≤ x65 then (if x65 < (x63.length : Int) then ((match_eval.f k ((rd_T25 x63 x65).f0) ((rd_T25 x63 x65).f1) ((rd_T25 x63 x65).f2) ((rd_T25 x63 x65).f3) ((rd_T25 x63 x65).f4) x1).bind fun t130 => (if (t130 == x8) = true then (some x8) else (match_eval.l1 k x1 x8 x63 x64 (wrap64 (x65 + 1))))) else (none)) else (none)) else (some (!x8))
def match_eval.f : Nat → Int → ByteArray → ByteArray → List ByteArray → List (S25) → List (S68) → Option (Bool)
 | 0, _, _, _, _, _, _ => none
 | k + 1, a0_0, a0_1, a0_2, l0_3, l0_4, l1 => (label_Value.f k l1 a0_1).bind fun t123 => (if a0_0 = 0 then (some true) else (if a0_0 = 1 then (some (t123.toList == a0_2.toList)) else (if a0_0 = 2 then (some (t123.toList != a0_2.toList)) else (if a0_0 = 3 then ((strings_HasPrefix.f t123 a0_2).bind fun t124 => (some t124)) else (if a0_0 = 4 then (match_eval.l0 k t123 l0_3 (l0_3.length : Int) 0) else (if a0_0 = 7 then (if 0 < (l0_4.length : Int) then ((match_eval.f k ((rd_T25 l0_4 0).f0) ((rd_T25 l0_4 0).f1) ((rd_T25 l0_4 0).f2) ((rd_T25 l0_4 0).f3) ((rd_T25 l0_4 0).f4) l1).bind fun t127 => (some (!t127))) else (none)) else (match_eval.l1 k l1 (a0_0 == 6) l0_4 (l0_4.length : Int) 0)))))))
end
theorem match_eval.mono_l : ∀ k, (∀ y0 y1 y2 y3 y4 y5, LeO (match_eval.f k y0 y1 y2 y3 y4 y5) (match_eval.f (k + 1) y0 y1 y2 y3 y4 y5)) ∧ (∀ y0 y1 y2 y3, LeO (match_eval.l0 k y0 y1 y2 y3) (match_eval.l0 (k + 1) y0 y1 y2 y3)) ∧ (∀ y0 y1 y2 y3 y4, LeO (match_eval.l1 k y0 y1 y2 y3 y4) (match_eval.l1 (k + 1) y0 y1 y2 y3 y4))
 | 0 => ⟨fun _ _ _ _ _ _ r h => by simp [match_eval.f] at h, fun _ _ _ _ r h => by simp [match_eval.l0] at h, fun _ _ _ _ _ r h => by simp [match_eval.l1] at h⟩
 | k + 1 => by
  obtain ⟨ih0, ih1, ih2⟩ := match_eval.mono_l k
  refine ⟨?_, ?_, ?_⟩
  ·intro y0 y1 y2 y3 y4 y5
   unfold match_eval.f
   repeat' first
   | (with_reducible exact ih0 _ _ _ _ _ _)
   | (with_reducible exact ih1 _ _ _ _)
   | (with_reducible exact ih2 _ _ _ _ _)
   | (with_reducible exact label_Value.mono _ _ _)
   | (with_reducible exact LeO.refl _)
   | (with_reducible exact LeO.none _)
   | (with_reducible refine LeO.ite ?_ ?_)
   | (with_reducible refine LeO.bind ?_ (fun _ => ?_))
   | exact ih0 _ _ _ _ _ _
   | exact ih1 _ _ _ _
   | exact ih2 _ _ _ _ _
   | exact label_Value.mono _ _ _
   | exact LeO.none _
   | refine LeO.ite ?_ ?_
   | refine LeO.bind ?_ (fun _ => ?_)
  ·intro y0 y1 y2 y3
   unfold match_eval.l0
   repeat' first
   | (with_reducible exact ih0 _ _ _ _ _ _)
   | (with_reducible exact ih1 _ _ _ _)
   | (with_reducible exact ih2 _ _ _ _ _)
   | (with_reducible exact label_Value.mono _ _ _)
   | (with_reducible exact LeO.refl _)
   | (with_reducible exact LeO.none _)
   | (with_reducible refine LeO.ite ?_ ?_)
   | (with_reducible refine LeO.bind ?_ (fun _ => ?_))
   | exact ih0 _ _ _ _ _ _
   | exact ih1 _ _ _ _
   | exact ih2 _ _ _ _ _
   | exact label_Value.mono _ _ _
   | exact LeO.none _
   | refine LeO.ite ?_ ?_
   | refine LeO.bind ?_ (fun _ => ?_)
  ·intro y0 y1 y2 y3 y4
   unfold match_eval.l1
   repeat' first
   | (with_reducible exact ih0 _ _ _ _ _ _)
   | (with_reducible exact ih1 _ _ _ _)
   | (with_reducible exact ih2 _ _ _ _ _)
   | (with_reducible exact label_Value.mono _ _ _)
   | (with_reducible exact LeO.refl _)
   | (with_reducible exact LeO.none _)
   | (with_reducible refine LeO.ite ?_ ?_)
   | (with_reducible refine LeO.bind ?_ (fun _ => ?_))
   | exact ih0 _ _ _ _ _ _
   | exact ih1 _ _ _ _
   | exact ih2 _ _ _ _ _
   | exact label_Value.mono _ _ _
   | exact LeO.none _
   | refine LeO.ite ?_ ?_
   | refine LeO.bind ?_ (fun _ => ?_)
theorem match_eval.mono : ∀ a0 a1 a2 a3 a4 a5 k, LeO (match_eval.f k a0 a1 a2 a3 a4 a5) (match_eval.f (k + 1) a0 a1 a2 a3 a4 a5) := by
 intro a0 a1 a2 a3 a4 a5 k
 obtain ⟨ih0, ih1, ih2⟩ := match_eval.mono_l k
 exact ih0 a0 a1 a2 a3 a4 a5
set_option maxHeartbeats 8000000 in
set_option maxRecDepth 100000 in
theorem match_eval.calls (k : Nat) : ∀ (a0_0 : Int) (a0_1 : ByteArray) (a0_2 : ByteArray) (A0_3 : Option Addr) (c0_3 : Nat) (l0_3 : List ByteArray) (A0_4 : Option Addr) (c0_4 : Nat) (l0_4 : List (S25)) (A1 : Option Addr) (c1 : Nat) (l1 : List (S68)) (r : Bool) (w : World) (hr0_3 : Kd.C Kd.string w A0_3 l0_3.length l0_3) (hc0_3 : l0_3.length ≤ c0_3) (hr0_4 : Kd.C k25 w A0_4 l0_4.length l0_4) (hc0_4 : l0_4.length ≤ c0_4) (hr1 : Kd.C k68 w A1 l1.length l1) (hc1 : l1.length ≤ c1) (h : match_eval.f k a0_0 a0_1 a0_2 l0_3 l0_4 l1 = some r),
  Calls Try.prog 108 #[.agg #[.int .i64 a0_0, .string a0_1, .string a0_2, .slice A0_3 l0_3.length c0_3, .slice A0_4 l0_4.length c0_4], .slice A1 l1.length c1] w fun e w' => e = .returned (.bool r) ∧ Below w.heap.size w w' := by
 induction k using Nat.strongRecOn with
 | _ k ih =>
 intro a0_0 a0_1 a0_2 A0_3 c0_3 l0_3 A0_4 c0_4 l0_4 A1 c1 l1 r w hr0_3 hc0_3 hr0_4 hc0_4 hr1 hc1 h
 cases k with
 | zero => exact absurd h (by simp [match_eval.f])
 | succ k =>
 simp only [match_eval.f] at h
 have hu25 := Try.underlying25
 have HR0_3 := Aside0.mk hr0_3
 have HC0_3 := Aside0.mk hc0_3
 clear hr0_3 hc0_3
 have HR0_4 := Aside0.mk hr0_4
 have HC0_4 := Aside0.mk hc0_4
 clear hr0_4 hc0_4
 have HR1 := Aside0.mk hr1
 have HC1 := Aside0.mk hc1
 clear hr1 hc1
 have HB := Aside0.mk (Below.refl w.heap.size w)
 have H : ((label_Value.f k l1 a0_1).bind fun t123 => (if a0_0 = 0 then (some true) else (if a0_0 = 1 then (some (t123.toList == a0_2.toList)) else (if a0_0 = 2 then (some (t123.toList != a0_2.toList)) else (if a0_0 = 3 then ((strings_HasPrefix.f t123 a0_2).bind fun t124 => (some t124)) else (if a0_0 = 4 then (match_eval.l0 k t123 l0_3 (l0_3.length : Int) 0) else (if a0_0 = 7 then (if 0 < (l0_4.length : Int) then ((match_eval.f k ((rd_T25 l0_4 0).f0) ((rd_T25 l0_4 0).f1) ((rd_T25 l0_4 0).f2) ((rd_T25 l0_4 0).f3) ((rd_T25 l0_4 0).f4) l1).bind fun t127 => (some (!t127))) else (none)) else (match_eval.l1 k l1 (a0_0 == 6) l0_4 (l0_4.length : Int) 0)))))))) = some r := h
 clear h
 replace H := Option.bind_eq_some_iff.mp H
 obtain ⟨t123, A30, H⟩ := H
 replace H : (if a0_0 = 0 then (some true) else (if a0_0 = 1 then (some (t123.toList == a0_2.toList)) else (if a0_0 = 2 then (some (t123.toList != a0_2.toList)) else (if a0_0 = 3 then ((strings_HasPrefix.f t123 a0_2).bind fun t124 => (some t124)) else (if a0_0 = 4 then (match_eval.l0 k t123 l0_3 (l0_3.length : Int) 0) else (if a0_0 = 7 then (if 0 < (l0_4.length : Int) then ((match_eval.f k ((rd_T25 l0_4 0).f0) ((rd_T25 l0_4 0).f1) ((rd_T25 l0_4 0).f2) ((rd_T25 l0_4 0).f3) ((rd_T25 l0_4 0).f4) l1).bind fun t127 => (some (!t127))) else (none)) else (match_eval.l1 k l1 (a0_0 == 6) l0_4 (l0_4.length : Int) 0))))))) = some r := H
 have A3 := Aside0.mk A30
 clear A30
 by_cases c4 : a0_0 = 0
 ·rw [if_pos c4] at H
  have c4b0 : (a0_0 == 0) = true := beq_iff_eq.mpr c4
  have c4b1 : (a0_0 != 0) = false := bne_eq_false_iff_eq.mpr c4
  clear c4
  obtain rfl := Option.some.inj H
  go_enter Try.func108, Try.ntmps108
  go_wp2_with (first | ((with_reducible refine gate_dst (N := 2) rfl ?_); refine box_event ?hg (N := 2) ?hd (cs := #[.int .i64 a0_0, .string a0_1, .string a0_2, .slice A0_3 l0_3.length c0_3, .slice A0_4 l0_4.length c0_4]) (t := 25) ?hr ?_; (case hd => rfl); (case hg => rfl); (case hr => first | (go_simp; done) | (go_simp; rfl)); intro gb122 hg w5 hbox hb; have n0_ := Aside0.mk (below_step (by repeat (first | (with_reducible first | exact HB.out | apply below_alloc | apply pw_below_drewN | apply below_drew1) | exact HB.out)) hb); have n1_ := Aside0.mk (hbox); have n2_ := Aside0.mk ((by rw [hg]; exact (below_size (by repeat (first | (with_reducible first | exact HB.out | apply below_alloc | apply pw_below_drewN | apply below_drew1) | exact HB.out))) : w.heap.size ≤ gb122)); have n3_ := Aside0.mk ((by rw [hg]; exact (below_size (by repeat (first | (with_reducible first | exact HB.out | apply below_alloc | apply pw_below_drewN | apply below_drew1) | exact HB.out))) : w.heap.size ≤ gb122)); clear HB; have HB := n0_; have BK122 := n1_; have GW122 := n2_; have GE122 := n3_; clear n0_ n1_ n2_ n3_; clear hb hbox hg; have hcz6_0 : w5.cell? ⟨gb122, 0, none⟩ = some (.int .i64 a0_0) := (blk_cell BK122.out 0).trans rfl; have hcz6_1 : w5.cell? ⟨gb122, 1, none⟩ = some (.string a0_1) := (blk_cell BK122.out 1).trans rfl; have hcz6_2 : w5.cell? ⟨gb122, 2, none⟩ = some (.string a0_2) := (blk_cell BK122.out 2).trans rfl; have hcz6_3 : w5.cell? ⟨gb122, 3, none⟩ = some (.slice A0_3 l0_3.length c0_3) := (blk_cell BK122.out 3).trans rfl; have hcz6_4 : w5.cell? ⟨gb122, 4, none⟩ = some (.slice A0_4 l0_4.length c0_4) := (blk_cell BK122.out 4).trans rfl; have hfz6_0 := blk_frozen BK122.out 0; have hfz6_1 := blk_frozen BK122.out 1; have hfz6_2 := blk_frozen BK122.out 2; have hfz6_3 := blk_frozen BK122.out 3; have hfz6_4 := blk_frozen BK122.out 4) | ((with_reducible refine gate_callee (f := 65) rfl ?_); refine goesL_ (some 14) rfl rfl Try.func65 (by kernel_rfl) rfl #[.slice A1 l1.length c1, .string a0_1] rfl (by (try simp only [List.map_toArray, List.map_cons, List.map_nil]); first | done | rfl | (simp only [List.length_drop, List.length_take]; rfl)) ?_; (with_reducible refine (label_Value.calls k _ _ l1 a0_1 t123 _ ?side1 ?side2 A3.out).mono ?_); (case side1 => repeat (first | exact (Kd.C_below HR1.out HB.out) | (with_reducible refine Kd.C_alloc ?_ _) | (with_reducible refine Kd.C_drewN ?_ _) | (with_reducible refine Kd.C_drew ?_))); (case side2 => exact HC1.out); rintro e w7 ⟨rfl, hb⟩; refine ⟨_, rfl, ?_⟩; have n0_ := Aside0.mk (blk_below (g := gb122) (o := .cells #[.int .i64 a0_0, .string a0_1, .string a0_2, .slice A0_3 l0_3.length c0_3, .slice A0_4 l0_4.length c0_4] 25 (0, 0)) (by (with_reducible repeat (first | refine blk_drewN ?_ _ | refine blk_drew ?_ | refine blk_alloc ?_ _)); exact BK122.out) hb); have n1_ := Aside0.mk (below_step (by repeat (first | (with_reducible first | exact HB.out | apply below_alloc | apply pw_below_drewN | apply below_drew1 | refine below_set ?_ GE122.out) | exact HB.out)) hb); clear BK122; clear HB; have BK122 := n0_; have HB := n1_; clear n0_ n1_; (try clear hb); (try clear hb2); (try clear hk); (try clear hi); have hcz8_0 : w7.cell? ⟨gb122, 0, none⟩ = some (.int .i64 a0_0) := (blk_cell BK122.out 0).trans rfl; have hcz8_1 : w7.cell? ⟨gb122, 1, none⟩ = some (.string a0_1) := (blk_cell BK122.out 1).trans rfl; have hcz8_2 : w7.cell? ⟨gb122, 2, none⟩ = some (.string a0_2) := (blk_cell BK122.out 2).trans rfl; have hcz8_3 : w7.cell? ⟨gb122, 3, none⟩ = some (.slice A0_3 l0_3.length c0_3) := (blk_cell BK122.out 3).trans rfl; have hcz8_4 : w7.cell? ⟨gb122, 4, none⟩ = some (.slice A0_4 l0_4.length c0_4) := (blk_cell BK122.out 4).trans rfl; have hfz8_0 := blk_frozen BK122.out 0; have hfz8_1 := blk_frozen BK122.out 1; have hfz8_2 := blk_frozen BK122.out 2; have hfz8_3 := blk_frozen BK122.out 3; have hfz8_4 := blk_frozen BK122.out 4))
  go_ret
  exact ⟨by first | rfl | (simp [errW_none, errW_some] <;> rfl) | (simp [*, errW_none, errW_some] <;> rfl), by repeat (first | (with_reducible first | exact HB.out | apply below_alloc | apply pw_below_drewN | apply below_drew1 | refine below_set ?_ GE122.out) | exact HB.out)⟩
 ·rw [if_neg c4] at H
  have c4b0 : (a0_0 == 0) = false := beq_eq_false_iff_ne.mpr c4
  have c4b1 : (a0_0 != 0) = true := bne_iff_ne.mpr c4
  by_cases c9 : a0_0 = 1
  ·rw [if_pos c9] at H
   have c9b0 : (a0_0 == 1) = true := beq_iff_eq.mpr c9
   have c9b1 : (a0_0 != 1) = false := bne_eq_false_iff_eq.mpr c9
   clear c9
   obtain rfl := Option.some.inj H
   go_enter Try.func108, Try.ntmps108
   go_wp2_with (first | ((with_reducible refine gate_dst (N := 2) rfl ?_); refine box_event ?hg (N := 2) ?hd (cs := #[.int .i64 a0_0, .string a0_1, .string a0_2, .slice A0_3 l0_3.length c0_3, .slice A0_4 l0_4.length c0_4]) (t := 25) ?hr ?_; (case hd => rfl); (case hg => rfl); (case hr => first | (go_simp; done) | (go_simp; rfl)); intro gb122 hg w10 hbox hb; have n0_ := Aside0.mk (below_step (by repeat (first | (with_reducible first | exact HB.out | apply below_alloc | apply pw_below_drewN | apply below_drew1) | exact HB.out)) hb); have n1_ := Aside0.mk (hbox); have n2_ := Aside0.mk ((by rw [hg]; exact (below_size (by repeat (first | (with_reducible first | exact HB.out | apply below_alloc | apply pw_below_drewN | apply below_drew1) | exact HB.out))) : w.heap.size ≤ gb122)); have n3_ := Aside0.mk ((by rw [hg]; exact (below_size (by repeat (first | (with_reducible first | exact HB.out | apply below_alloc | apply pw_below_drewN | apply below_drew1) | exact HB.out))) : w.heap.size ≤ gb122)); clear HB; have HB := n0_; have BK122 := n1_; have GW122 := n2_; have GE122 := n3_; clear n0_ n1_ n2_ n3_; clear hb hbox hg; have hcz11_0 : w10.cell? ⟨gb122, 0, none⟩ = some (.int .i64 a0_0) := (blk_cell BK122.out 0).trans rfl; have hcz11_1 : w10.cell? ⟨gb122, 1, none⟩ = some (.string a0_1) := (blk_cell BK122.out 1).trans rfl; have hcz11_2 : w10.cell? ⟨gb122, 2, none⟩ = some (.string a0_2) := (blk_cell BK122.out 2).trans rfl; have hcz11_3 : w10.cell? ⟨gb122, 3, none⟩ = some (.slice A0_3 l0_3.length c0_3) := (blk_cell BK122.out 3).trans rfl; have hcz11_4 : w10.cell? ⟨gb122, 4, none⟩ = some (.slice A0_4 l0_4.length c0_4) := (blk_cell BK122.out 4).trans rfl; have hfz11_0 := blk_frozen BK122.out 0; have hfz11_1 := blk_frozen BK122.out 1; have hfz11_2 := blk_frozen BK122.out 2; have hfz11_3 := blk_frozen BK122.out 3; have hfz11_4 := blk_frozen BK122.out 4) | ((with_reducible refine gate_callee (f := 65) rfl ?_); refine goesL_ (some 14) rfl rfl Try.func65 (by kernel_rfl) rfl #[.slice A1 l1.length c1, .string a0_1] rfl (by (try simp only [List.map_toArray, List.map_cons, List.map_nil]); first | done | rfl | (simp only [List.length_drop, List.length_take]; rfl)) ?_; (with_reducible refine (label_Value.calls k _ _ l1 a0_1 t123 _ ?side1 ?side2 A3.out).mono ?_); (case side1 => repeat (first | exact (Kd.C_below HR1.out HB.out) | (with_reducible refine Kd.C_alloc ?_ _) | (with_reducible refine Kd.C_drewN ?_ _) | (with_reducible refine Kd.C_drew ?_))); (case side2 => exact HC1.out); rintro e w12 ⟨rfl, hb⟩; refine ⟨_, rfl, ?_⟩; have n0_ := Aside0.mk (blk_below (g := gb122) (o := .cells #[.int .i64 a0_0, .string a0_1, .string a0_2, .slice A0_3 l0_3.length c0_3, .slice A0_4 l0_4.length c0_4] 25 (0, 0)) (by (with_reducible repeat (first | refine blk_drewN ?_ _ | refine blk_drew ?_ | refine blk_alloc ?_ _)); exact BK122.out) hb); have n1_ := Aside0.mk (below_step (by repeat (first | (with_reducible first | exact HB.out | apply below_alloc | apply pw_below_drewN | apply below_drew1 | refine below_set ?_ GE122.out) | exact HB.out)) hb); clear BK122; clear HB; have BK122 := n0_; have HB := n1_; clear n0_ n1_; (try clear hb); (try clear hb2); (try clear hk); (try clear hi); have hcz13_0 : w12.cell? ⟨gb122, 0, none⟩ = some (.int .i64 a0_0) := (blk_cell BK122.out 0).trans rfl; have hcz13_1 : w12.cell? ⟨gb122, 1, none⟩ = some (.string a0_1) := (blk_cell BK122.out 1).trans rfl; have hcz13_2 : w12.cell? ⟨gb122, 2, none⟩ = some (.string a0_2) := (blk_cell BK122.out 2).trans rfl; have hcz13_3 : w12.cell? ⟨gb122, 3, none⟩ = some (.slice A0_3 l0_3.length c0_3) := (blk_cell BK122.out 3).trans rfl; have hcz13_4 : w12.cell? ⟨gb122, 4, none⟩ = some (.slice A0_4 l0_4.length c0_4) := (blk_cell BK122.out 4).trans rfl; have hfz13_0 := blk_frozen BK122.out 0; have hfz13_1 := blk_frozen BK122.out 1; have hfz13_2 := blk_frozen BK122.out 2; have hfz13_3 := blk_frozen BK122.out 3; have hfz13_4 := blk_frozen BK122.out 4))
   go_ret
   exact ⟨by first | rfl | (simp [errW_none, errW_some] <;> rfl) | (simp [*, errW_none, errW_some] <;> rfl), by repeat (first | (with_reducible first | exact HB.out | apply below_alloc | apply pw_below_drewN | apply below_drew1 | refine below_set ?_ GE122.out) | exact HB.out)⟩
  ·rw [if_neg c9] at H
   have c9b0 : (a0_0 == 1) = false := beq_eq_false_iff_ne.mpr c9
   have c9b1 : (a0_0 != 1) = true := bne_iff_ne.mpr c9
   by_cases c14 : a0_0 = 2
   ·rw [if_pos c14] at H
    have c14b0 : (a0_0 == 2) = true := beq_iff_eq.mpr c14
    have c14b1 : (a0_0 != 2) = false := bne_eq_false_iff_eq.mpr c14
    clear c14
    obtain rfl := Option.some.inj H
    go_enter Try.func108, Try.ntmps108
    go_wp2_with (first | ((with_reducible refine gate_dst (N := 2) rfl ?_); refine box_event ?hg (N := 2) ?hd (cs := #[.int .i64 a0_0, .string a0_1, .string a0_2, .slice A0_3 l0_3.length c0_3, .slice A0_4 l0_4.length c0_4]) (t := 25) ?hr ?_; (case hd => rfl); (case hg => rfl); (case hr => first | (go_simp; done) | (go_simp; rfl)); intro gb122 hg w15 hbox hb; have n0_ := Aside0.mk (below_step (by repeat (first | (with_reducible first | exact HB.out | apply below_alloc | apply pw_below_drewN | apply below_drew1) | exact HB.out)) hb); have n1_ := Aside0.mk (hbox); have n2_ := Aside0.mk ((by rw [hg]; exact (below_size (by repeat (first | (with_reducible first | exact HB.out | apply below_alloc | apply pw_below_drewN | apply below_drew1) | exact HB.out))) : w.heap.size ≤ gb122)); have n3_ := Aside0.mk ((by rw [hg]; exact (below_size (by repeat (first | (with_reducible first | exact HB.out | apply below_alloc | apply pw_below_drewN | apply below_drew1) | exact HB.out))) : w.heap.size ≤ gb122)); clear HB; have HB := n0_; have BK122 := n1_; have GW122 := n2_; have GE122 := n3_; clear n0_ n1_ n2_ n3_; clear hb hbox hg; have hcz16_0 : w15.cell? ⟨gb122, 0, none⟩ = some (.int .i64 a0_0) := (blk_cell BK122.out 0).trans rfl; have hcz16_1 : w15.cell? ⟨gb122, 1, none⟩ = some (.string a0_1) := (blk_cell BK122.out 1).trans rfl; have hcz16_2 : w15.cell? ⟨gb122, 2, none⟩ = some (.string a0_2) := (blk_cell BK122.out 2).trans rfl; have hcz16_3 : w15.cell? ⟨gb122, 3, none⟩ = some (.slice A0_3 l0_3.length c0_3) := (blk_cell BK122.out 3).trans rfl; have hcz16_4 : w15.cell? ⟨gb122, 4, none⟩ = some (.slice A0_4 l0_4.length c0_4) := (blk_cell BK122.out 4).trans rfl; have hfz16_0 := blk_frozen BK122.out 0; have hfz16_1 := blk_frozen BK122.out 1; have hfz16_2 := blk_frozen BK122.out 2; have hfz16_3 := blk_frozen BK122.out 3; have hfz16_4 := blk_frozen BK122.out 4) | ((with_reducible refine gate_callee (f := 65) rfl ?_); refine goesL_ (some 14) rfl rfl Try.func65 (by kernel_rfl) rfl #[.slice A1 l1.length c1, .string a0_1] rfl (by (try simp only [List.map_toArray, List.map_cons, List.map_nil]); first | done | rfl | (simp only [List.length_drop, List.length_take]; rfl)) ?_; (with_reducible refine (label_Value.calls k _ _ l1 a0_1 t123 _ ?side1 ?side2 A3.out).mono ?_); (case side1 => repeat (first | exact (Kd.C_below HR1.out HB.out) | (with_reducible refine Kd.C_alloc ?_ _) | (with_reducible refine Kd.C_drewN ?_ _) | (with_reducible refine Kd.C_drew ?_))); (case side2 => exact HC1.out); rintro e w17 ⟨rfl, hb⟩; refine ⟨_, rfl, ?_⟩; have n0_ := Aside0.mk (blk_below (g := gb122) (o := .cells #[.int .i64 a0_0, .string a0_1, .string a0_2, .slice A0_3 l0_3.length c0_3, .slice A0_4 l0_4.length c0_4] 25 (0, 0)) (by (with_reducible repeat (first | refine blk_drewN ?_ _ | refine blk_drew ?_ | refine blk_alloc ?_ _)); exact BK122.out) hb); have n1_ := Aside0.mk (below_step (by repeat (first | (with_reducible first | exact HB.out | apply below_alloc | apply pw_below_drewN | apply below_drew1 | refine below_set ?_ GE122.out) | exact HB.out)) hb); clear BK122; clear HB; have BK122 := n0_; have HB := n1_; clear n0_ n1_; (try clear hb); (try clear hb2); (try clear hk); (try clear hi); have hcz18_0 : w17.cell? ⟨gb122, 0, none⟩ = some (.int .i64 a0_0) := (blk_cell BK122.out 0).trans rfl; have hcz18_1 : w17.cell? ⟨gb122, 1, none⟩ = some (.string a0_1) := (blk_cell BK122.out 1).trans rfl; have hcz18_2 : w17.cell? ⟨gb122, 2, none⟩ = some (.string a0_2) := (blk_cell BK122.out 2).trans rfl; have hcz18_3 : w17.cell? ⟨gb122, 3, none⟩ = some (.slice A0_3 l0_3.length c0_3) := (blk_cell BK122.out 3).trans rfl; have hcz18_4 : w17.cell? ⟨gb122, 4, none⟩ = some (.slice A0_4 l0_4.length c0_4) := (blk_cell BK122.out 4).trans rfl; have hfz18_0 := blk_frozen BK122.out 0; have hfz18_1 := blk_frozen BK122.out 1; have hfz18_2 := blk_frozen BK122.out 2; have hfz18_3 := blk_frozen BK122.out 3; have hfz18_4 := blk_frozen BK122.out 4))
    go_ret
    exact ⟨by first | rfl | (simp [errW_none, errW_some] <;> rfl) | (simp [*, errW_none, errW_some] <;> rfl), by repeat (first | (with_reducible first | exact HB.out | apply below_alloc | apply pw_below_drewN | apply below_drew1 | refine below_set ?_ GE122.out) | exact HB.out)⟩
   ·rw [if_neg c14] at H
    have c14b0 : (a0_0 == 2) = false := beq_eq_false_iff_ne.mpr c14
    have c14b1 : (a0_0 != 2) = true := bne_iff_ne.mpr c14
    by_cases c19 : a0_0 = 3
    ·rw [if_pos c19] at H
     have c19b0 : (a0_0 == 3) = true := beq_iff_eq.mpr c19
     have c19b1 : (a0_0 != 3) = false := bne_eq_false_iff_eq.mpr c19
     clear c19
     replace H := Option.bind_eq_some_iff.mp H
     obtain ⟨t124, A200, H⟩ := H
     replace H : (some t124) = some r := H
     have A20 := Aside0.mk A200
     clear A200
     obtain rfl := Option.some.inj H
     go_enter Try.func108, Try.ntmps108
     go_wp2_with (first | ((with_reducible refine gate_dst (N := 2) rfl ?_); refine box_event ?hg (N := 2) ?hd (cs := #[.int .i64 a0_0, .string a0_1, .string a0_2, .slice A0_3 l0_3.length c0_3, .slice A0_4 l0_4.length c0_4]) (t := 25) ?hr ?_; (case hd => rfl); (case hg => rfl); (case hr => first | (go_simp; done) | (go_simp; rfl)); intro gb122 hg w21 hbox hb; have n0_ := Aside0.mk (below_step (by repeat (first | (with_reducible first | exact HB.out | apply below_alloc | apply pw_below_drewN | apply below_drew1) | exact HB.out)) hb); have n1_ := Aside0.mk (hbox); have n2_ := Aside0.mk ((by rw [hg]; exact (below_size (by repeat (first | (with_reducible first | exact HB.out | apply below_alloc | apply pw_below_drewN | apply below_drew1) | exact HB.out))) : w.heap.size ≤ gb122)); have n3_ := Aside0.mk ((by rw [hg]; exact (below_size (by repeat (first | (with_reducible first | exact HB.out | apply below_alloc | apply pw_below_drewN | apply below_drew1) | exact HB.out))) : w.heap.size ≤ gb122)); clear HB; have HB := n0_; have BK122 := n1_; have GW122 := n2_; have GE122 := n3_; clear n0_ n1_ n2_ n3_; clear hb hbox hg; have hcz22_0 : w21.cell? ⟨gb122, 0, none⟩ = some (.int .i64 a0_0) := (blk_cell BK122.out 0).trans rfl; have hcz22_1 : w21.cell? ⟨gb122, 1, none⟩ = some (.string a0_1) := (blk_cell BK122.out 1).trans rfl; have hcz22_2 : w21.cell? ⟨gb122, 2, none⟩ = some (.string a0_2) := (blk_cell BK122.out 2).trans rfl; have hcz22_3 : w21.cell? ⟨gb122, 3, none⟩ = some (.slice A0_3 l0_3.length c0_3) := (blk_cell BK122.out 3).trans rfl; have hcz22_4 : w21.cell? ⟨gb122, 4, none⟩ = some (.slice A0_4 l0_4.length c0_4) := (blk_cell BK122.out 4).trans rfl; have hfz22_0 := blk_frozen BK122.out 0; have hfz22_1 := blk_frozen BK122.out 1; have hfz22_2 := blk_frozen BK122.out 2; have hfz22_3 := blk_frozen BK122.out 3; have hfz22_4 := blk_frozen BK122.out 4) | ((with_reducible refine gate_callee (f := 65) rfl ?_); refine goesL_ (some 14) rfl rfl Try.func65 (by kernel_rfl) rfl #[.slice A1 l1.length c1, .string a0_1] rfl (by (try simp only [List.map_toArray, List.map_cons, List.map_nil]); first | done | rfl | (simp only [List.length_drop, List.length_take]; rfl)) ?_; (with_reducible refine (label_Value.calls k _ _ l1 a0_1 t123 _ ?side1 ?side2 A3.out).mono ?_); (case side1 => repeat (first | exact (Kd.C_below HR1.out HB.out) | (with_reducible refine Kd.C_alloc ?_ _) | (with_reducible refine Kd.C_drewN ?_ _) | (with_reducible refine Kd.C_drew ?_))); (case side2 => exact HC1.out); rintro e w23 ⟨rfl, hb⟩; refine ⟨_, rfl, ?_⟩; have n0_ := Aside0.mk (blk_below (g := gb122) (o := .cells #[.int .i64 a0_0, .string a0_1, .string a0_2, .slice A0_3 l0_3.length c0_3, .slice A0_4 l0_4.length c0_4] 25 (0, 0)) (by (with_reducible repeat (first | refine blk_drewN ?_ _ | refine blk_drew ?_ | refine blk_alloc ?_ _)); exact BK122.out) hb); have n1_ := Aside0.mk (below_step (by repeat (first | (with_reducible first | exact HB.out | apply below_alloc | apply pw_below_drewN | apply below_drew1 | refine below_set ?_ GE122.out) | exact HB.out)) hb); clear BK122; clear HB; have BK122 := n0_; have HB := n1_; clear n0_ n1_; (try clear hb); (try clear hb2); (try clear hk); (try clear hi); have hcz24_0 : w23.cell? ⟨gb122, 0, none⟩ = some (.int .i64 a0_0) := (blk_cell BK122.out 0).trans rfl; have hcz24_1 : w23.cell? ⟨gb122, 1, none⟩ = some (.string a0_1) := (blk_cell BK122.out 1).trans rfl; have hcz24_2 : w23.cell? ⟨gb122, 2, none⟩ = some (.string a0_2) := (blk_cell BK122.out 2).trans rfl; have hcz24_3 : w23.cell? ⟨gb122, 3, none⟩ = some (.slice A0_3 l0_3.length c0_3) := (blk_cell BK122.out 3).trans rfl; have hcz24_4 : w23.cell? ⟨gb122, 4, none⟩ = some (.slice A0_4 l0_4.length c0_4) := (blk_cell BK122.out 4).trans rfl; have hfz24_0 := blk_frozen BK122.out 0; have hfz24_1 := blk_frozen BK122.out 1; have hfz24_2 := blk_frozen BK122.out 2; have hfz24_3 := blk_frozen BK122.out 3; have hfz24_4 := blk_frozen BK122.out 4) | ((with_reducible refine gate_callee (f := 158) rfl ?_); refine goesL_ (some 36) rfl rfl Try.func158 (by kernel_rfl) rfl #[.string t123, .string a0_2] rfl (by (try simp only [List.map_toArray, List.map_cons, List.map_nil]); first | done | rfl | (simp only [List.length_drop, List.length_take]; rfl)) ?_; (with_reducible refine (strings_HasPrefix.calls t123 a0_2 t124 _ A20.out).mono ?_); rintro e w' ⟨rfl, ⟨nd, rfl⟩⟩; refine ⟨_, rfl, ?_⟩))
     go_ret
     exact ⟨by first | rfl | (simp [errW_none, errW_some] <;> rfl) | (simp [*, errW_none, errW_some] <;> rfl), by repeat (first | (with_reducible first | exact HB.out | apply below_alloc | apply pw_below_drewN | apply below_drew1 | refine below_set ?_ GE122.out) | exact HB.out)⟩
    ·rw [if_neg c19] at H
     have c19b0 : (a0_0 == 3) = false := beq_eq_false_iff_ne.mpr c19
     have c19b1 : (a0_0 != 3) = true := bne_iff_ne.mpr c19
     by_cases c25 : a0_0 = 4
     ·rw [if_pos c25] at H
      have c25b0 : (a0_0 == 4) = true := beq_iff_eq.mpr c25
      have c25b1 : (a0_0 != 4) = false := bne_eq_false_iff_eq.mpr c25
      clear c25
      have H' := Aside0.mk H
      clear H
      go_enter Try.func108, Try.ntmps108
      go_wp2_with (first | ((with_reducible refine gate_dst (N := 2) rfl ?_); refine box_event ?hg (N := 2) ?hd (cs := #[.int .i64 a0_0, .string a0_1, .string a0_2, .slice A0_3 l0_3.length c0_3, .slice A0_4 l0_4.length c0_4]) (t := 25) ?hr ?_; (case hd => rfl); (case hg => rfl); (case hr => first | (go_simp; done) | (go_simp; rfl)); intro gb122 hg w26 hbox hb; have n0_ := Aside0.mk (below_step (by repeat (first | (with_reducible first | exact HB.out | apply below_alloc | apply pw_below_drewN | apply below_drew1) | exact HB.out)) hb); have n1_ := Aside0.mk (hbox); have n2_ := Aside0.mk ((by rw [hg]; exact (below_size (by repeat (first | (with_reducible first | exact HB.out | apply below_alloc | apply pw_below_drewN | apply below_drew1) | exact HB.out))) : w.heap.size ≤ gb122)); have n3_ := Aside0.mk ((by rw [hg]; exact (below_size (by repeat (first | (with_reducible first | exact HB.out | apply below_alloc | apply pw_below_drewN | apply below_drew1) | exact HB.out))) : w.heap.size ≤ gb122)); clear HB; have HB := n0_; have BK122 := n1_; have GW122 := n2_; have GE122 := n3_; clear n0_ n1_ n2_ n3_; clear hb hbox hg; have hcz27_0 : w26.cell? ⟨gb122, 0, none⟩ = some (.int .i64 a0_0) := (blk_cell BK122.out 0).trans rfl; have hcz27_1 : w26.cell? ⟨gb122, 1, none⟩ = some (.string a0_1) := (blk_cell BK122.out 1).trans rfl; have hcz27_2 : w26.cell? ⟨gb122, 2, none⟩ = some (.string a0_2) := (blk_cell BK122.out 2).trans rfl; have hcz27_3 : w26.cell? ⟨gb122, 3, none⟩ = some (.slice A0_3 l0_3.length c0_3) := (blk_cell BK122.out 3).trans rfl; have hcz27_4 : w26.cell? ⟨gb122, 4, none⟩ = some (.slice A0_4 l0_4.length c0_4) := (blk_cell BK122.out 4).trans rfl; have hfz27_0 := blk_frozen BK122.out 0; have hfz27_1 := blk_frozen BK122.out 1; have hfz27_2 := blk_frozen BK122.out 2; have hfz27_3 := blk_frozen BK122.out 3; have hfz27_4 := blk_frozen BK122.out 4) | ((with_reducible refine gate_callee (f := 65) rfl ?_); refine goesL_ (some 14) rfl rfl Try.func65 (by kernel_rfl) rfl #[.slice A1 l1.length c1, .string a0_1] rfl (by (try simp only [List.map_toArray, List.map_cons, List.map_nil]); first | done | rfl | (simp only [List.length_drop, List.length_take]; rfl)) ?_; (with_reducible refine (label_Value.calls k _ _ l1 a0_1 t123 _ ?side1 ?side2 A3.out).mono ?_); (case side1 => repeat (first | exact (Kd.C_below HR1.out HB.out) | (with_reducible refine Kd.C_alloc ?_ _) | (with_reducible refine Kd.C_drewN ?_ _) | (with_reducible refine Kd.C_drew ?_))); (case side2 => exact HC1.out); rintro e w28 ⟨rfl, hb⟩; refine ⟨_, rfl, ?_⟩; have n0_ := Aside0.mk (blk_below (g := gb122) (o := .cells #[.int .i64 a0_0, .string a0_1, .string a0_2, .slice A0_3 l0_3.length c0_3, .slice A0_4 l0_4.length c0_4] 25 (0, 0)) (by (with_reducible repeat (first | refine blk_drewN ?_ _ | refine blk_drew ?_ | refine blk_alloc ?_ _)); exact BK122.out) hb); have n1_ := Aside0.mk (below_step (by repeat (first | (with_reducible first | exact HB.out | apply below_alloc | apply pw_below_drewN | apply below_drew1 | refine below_set ?_ GE122.out) | exact HB.out)) hb); clear BK122; clear HB; have BK122 := n0_; have HB := n1_; clear n0_ n1_; (try clear hb); (try clear hb2); (try clear hk); (try clear hi); have hcz29_0 : w28.cell? ⟨gb122, 0, none⟩ = some (.int .i64 a0_0) := (blk_cell BK122.out 0).trans rfl; have hcz29_1 : w28.cell? ⟨gb122, 1, none⟩ = some (.string a0_1) := (blk_cell BK122.out 1).trans rfl; have hcz29_2 : w28.cell? ⟨gb122, 2, none⟩ = some (.string a0_2) := (blk_cell BK122.out 2).trans rfl; have hcz29_3 : w28.cell? ⟨gb122, 3, none⟩ = some (.slice A0_3 l0_3.length c0_3) := (blk_cell BK122.out 3).trans rfl; have hcz29_4 : w28.cell? ⟨gb122, 4, none⟩ = some (.slice A0_4 l0_4.length c0_4) := (blk_cell BK122.out 4).trans rfl; have hfz29_0 := blk_frozen BK122.out 0; have hfz29_1 := blk_frozen BK122.out 1; have hfz29_2 := blk_frozen BK122.out 2; have hfz29_3 := blk_frozen BK122.out 3; have hfz29_4 := blk_frozen BK122.out 4))
      go_loopg [42] k (fun kq v42 w' => ∃ (x42_1 : Int), v42 = .int .i64 x42_1 ∧ Aside0 (match_eval.l0 kq t123 l0_3 (l0_3.length : Int) x42_1 = some r) ∧ Aside0 (kq ≤ k) ∧ Aside0 (w'.heap[gb122]? = some (.cells #[.int .i64 a0_0, .string a0_1, .string a0_2, (.slice A0_3 l0_3.length c0_3), (.slice A0_4 l0_4.length c0_4)] 25 (0, 0))) ∧ Aside0 (Below w.heap.size w w'))
      case atStart => exact ⟨(0), (by first | rfl | (simp; done) | (simp [*]; done)), H', ⟨Nat.le_refl _⟩, ⟨by (with_reducible repeat (first | refine blk_drewN ?_ _ | refine blk_drew ?_ | refine blk_alloc ?_ _)); exact BK122.out⟩, ⟨by repeat (first | (with_reducible first | exact HB.out | apply below_alloc | apply pw_below_drewN | apply below_drew1 | refine below_set ?_ GE122.out) | exact HB.out)⟩⟩
      case round =>
       clear H'
       try clear c1
       try clear c2
       try clear p2
       try clear c4
       try clear c4b0
       try clear c4b1
       try clear c6
       try clear c9
       try clear c9b0
       try clear c9b1
       try clear c10
       try clear c14
       try clear c14b0
       try clear c14b1
       try clear c15
       try clear c19
       try clear c19b0
       try clear c19b1
       try clear c25
       try clear c25b0
       try clear c25b1
       try clear hcz11_0
       try clear hcz11_1
       try clear hcz11_2
       try clear hcz11_3
       try clear hcz11_4
       try clear hcz13_0
       try clear hcz13_1
       try clear hcz13_2
       try clear hcz13_3
       try clear hcz13_4
       try clear hcz16_0
       try clear hcz16_1
       try clear hcz16_2
       try clear hcz16_3
       try clear hcz16_4
       try clear hcz18_0
       try clear hcz18_1
       try clear hcz18_2
       try clear hcz18_3
       try clear hcz18_4
       try clear hcz22_0
       try clear hcz22_1
       try clear hcz22_2
       try clear hcz22_3
       try clear hcz22_4
       try clear hcz24_0
       try clear hcz24_1
       try clear hcz24_2
       try clear hcz24_3
       try clear hcz24_4
       try clear hcz27_0
       try clear hcz27_1
       try clear hcz27_2
       try clear hcz27_3
       try clear hcz27_4
       try clear hcz29_0
       try clear hcz29_1
       try clear hcz29_2
       try clear hcz29_3
       try clear hcz29_4
       try clear hcz6_0
       try clear hcz6_1
       try clear hcz6_2
       try clear hcz6_3
       try clear hcz6_4
       try clear hcz8_0
       try clear hcz8_1
       try clear hcz8_2
       try clear hcz8_3
       try clear hcz8_4
       try clear hfz11_0
       try clear hfz11_1
       try clear hfz11_2
       try clear hfz11_3
       try clear hfz11_4
       try clear hfz13_0
       try clear hfz13_1
       try clear hfz13_2
       try clear hfz13_3
       try clear hfz13_4
       try clear hfz16_0
       try clear hfz16_1
       try clear hfz16_2
       try clear hfz16_3
       try clear hfz16_4
       try clear hfz18_0
       try clear hfz18_1
       try clear hfz18_2
       try clear hfz18_3
       try clear hfz18_4
       try clear hfz22_0
       try clear hfz22_1
       try clear hfz22_2
       try clear hfz22_3
       try clear hfz22_4
       try clear hfz24_0
       try clear hfz24_1
       try clear hfz24_2
       try clear hfz24_3
       try clear hfz24_4
       try clear hfz27_0
       try clear hfz27_1
       try clear hfz27_2
       try clear hfz27_3
       try clear hfz27_4
       try clear hfz29_0
       try clear hfz29_1
       try clear hfz29_2
       try clear hfz29_3
       try clear hfz29_4
       try clear hfz6_0
       try clear hfz6_1
       try clear hfz6_2
       try clear hfz6_3
       try clear hfz6_4
       try clear hfz8_0
       try clear hfz8_1
       try clear hfz8_2
       try clear hfz8_3
       try clear hfz8_4
       obtain ⟨x42_1, rfl, HA, HK1, BK122, HB⟩ := hrel
       cases gk with
       | zero => exact absurd HA.out (by simp [match_eval.l0])
       | succ k1 =>
        have H := HA.out
        clear HA
        simp only [match_eval.l0] at H
        by_cases c30 : x42_1 < (l0_3.length : Int)
        ·rw [if_pos c30] at H
         have c30b0 : decide (x42_1 < (l0_3.length : Int)) = true := decide_eq_true c30
         clear c30
         by_cases c31 : 0 ≤ x42_1
         ·rw [if_pos c31] at H
          have c31b0 : decide (0 ≤ x42_1) = true := decide_eq_true c31
          clear c31
          by_cases c32 : x42_1 < (l0_3.length : Int)
          ·rw [if_pos c32] at H
           have c32b0 : decide (x42_1 < (l0_3.length : Int)) = true := decide_eq_true c32
           clear c32
           by_cases c33 : (rdOf ByteArray.empty l0_3 x42_1).toList = t123.toList
           ·rw [if_pos c33] at H
            have c33b0 : ((rdOf ByteArray.empty l0_3 x42_1).toList == t123.toList) = true := beq_iff_eq.mpr c33
            have c33b1 : ((rdOf ByteArray.empty l0_3 x42_1).toList != t123.toList) = false := bne_eq_false_iff_eq.mpr c33
            clear c33
            obtain rfl := Option.some.inj H
            have p125 : 0 ≤ (x42_1 : Int) := of_decide_eq_true (by first | (with_reducible assumption) | assumption)
            have q125 : x42_1 < (l0_3.length : Int) := of_decide_eq_true (by first | (with_reducible assumption) | assumption)
            obtain ⟨ad125, e125, hx125_0⟩ := Kd.at_string HR0_3.out x42_1 p125 q125
            cases e125
            replace hx125_0 := (HB.out.cell (World.block_lt_of_cell? w _ hx125_0)).trans hx125_0
            replace p125 := eq_true p125
            replace q125 := eq_true q125
            go_wp2
            go_ret
            exact ⟨by first | rfl | (simp [errW_none, errW_some] <;> rfl) | (simp [*, errW_none, errW_some] <;> rfl), by repeat (first | (with_reducible first | exact HB.out | apply below_alloc | apply pw_below_drewN | apply below_drew1 | refine below_set ?_ GE122.out) | exact HB.out)⟩
           ·rw [if_neg c33] at H
            have c33b0 : ((rdOf ByteArray.empty l0_3 x42_1).toList == t123.toList) = false := beq_eq_false_iff_ne.mpr c33
            have c33b1 : ((rdOf ByteArray.empty l0_3 x42_1).toList != t123.toList) = true := bne_iff_ne.mpr c33
            have H' := Aside0.mk H
            clear H
            have p125 : 0 ≤ (x42_1 : Int) := of_decide_eq_true (by first | (with_reducible assumption) | assumption)
            have q125 : x42_1 < (l0_3.length : Int) := of_decide_eq_true (by first | (with_reducible assumption) | assumption)
            obtain ⟨ad125, e125, hx125_0⟩ := Kd.at_string HR0_3.out x42_1 p125 q125
            cases e125
            replace hx125_0 := (HB.out.cell (World.block_lt_of_cell? w _ hx125_0)).trans hx125_0
            replace p125 := eq_true p125
            replace q125 := eq_true q125
            go_wp2
            go_roundg k1
            case measure => have := HK1.out; omega
            case rel => exact ⟨(wrap64 (x42_1 + 1)), (by first | rfl | (simp; done) | (simp [*]; done)), H', ⟨by have := HK1.out; omega⟩, ⟨by (with_reducible repeat (first | refine blk_drewN ?_ _ | refine blk_drew ?_ | refine blk_alloc ?_ _)); exact BK122.out⟩, ⟨by repeat (first | (with_reducible first | exact HB.out | apply below_alloc | apply pw_below_drewN | apply below_drew1 | refine below_set ?_ GE122.out) | exact HB.out)⟩⟩
          ·rw [if_neg c32] at H
           exact absurd H (by simp)
         ·rw [if_neg c31] at H
          exact absurd H (by simp)
        ·rw [if_neg c30] at H
         have c30b0 : decide (x42_1 < (l0_3.length : Int)) = false := decide_eq_false c30
         clear c30
         obtain rfl := Option.some.inj H
         go_wp2
         go_ret
         exact ⟨by first | rfl | (simp [errW_none, errW_some] <;> rfl) | (simp [*, errW_none, errW_some] <;> rfl), by repeat (first | (with_reducible first | exact HB.out | apply below_alloc | apply pw_below_drewN | apply below_drew1 | refine below_set ?_ GE122.out) | exact HB.out)⟩
     ·rw [if_neg c25] at H
      have c25b0 : (a0_0 == 4) = false := beq_eq_false_iff_ne.mpr c25
      have c25b1 : (a0_0 != 4) = true := bne_iff_ne.mpr c25
      by_cases c34 : a0_0 = 7
      ·rw [if_pos c34] at H
       have c34b0 : (a0_0 == 7) = true := beq_iff_eq.mpr c34
       have c34b1 : (a0_0 != 7) = false := bne_eq_false_iff_eq.mpr c34
       clear c34
       by_cases c35 : 0 < (l0_4.length : Int)
       ·rw [if_pos c35] at H
        have c35b0 : decide (0 < (l0_4.length : Int)) = true := decide_eq_true c35
        have c35b1 : decide (0 < l0_4.length) = true := decide_eq_true (by omega)
        clear c35
        replace H := Option.bind_eq_some_iff.mp H
        obtain ⟨t127, A360, H⟩ := H
        replace H : (some (!t127)) = some r := H
        have A36 := Aside0.mk A360
        clear A360
        obtain rfl := Option.some.inj H
        go_enter Try.func108, Try.ntmps108
        go_wp2_with (first | ((with_reducible refine gate_dst (N := 2) rfl ?_); refine box_event ?hg (N := 2) ?hd (cs := #[.int .i64 a0_0, .string a0_1, .string a0_2, .slice A0_3 l0_3.length c0_3, .slice A0_4 l0_4.length c0_4]) (t := 25) ?hr ?_; (case hd => rfl); (case hg => rfl); (case hr => first | (go_simp; done) | (go_simp; rfl)); intro gb122 hg w37 hbox hb; have n0_ := Aside0.mk (below_step (by repeat (first | (with_reducible first | exact HB.out | apply below_alloc | apply pw_below_drewN | apply below_drew1) | exact HB.out)) hb); have n1_ := Aside0.mk (hbox); have n2_ := Aside0.mk ((by rw [hg]; exact (below_size (by repeat (first | (with_reducible first | exact HB.out | apply below_alloc | apply pw_below_drewN | apply below_drew1) | exact HB.out))) : w.heap.size ≤ gb122)); have n3_ := Aside0.mk ((by rw [hg]; exact (below_size (by repeat (first | (with_reducible first | exact HB.out | apply below_alloc | apply pw_below_drewN | apply below_drew1) | exact HB.out))) : w.heap.size ≤ gb122)); clear HB; have HB := n0_; have BK122 := n1_; have GW122 := n2_; have GE122 := n3_; clear n0_ n1_ n2_ n3_; clear hb hbox hg; have hcz38_0 : w37.cell? ⟨gb122, 0, none⟩ = some (.int .i64 a0_0) := (blk_cell BK122.out 0).trans rfl; have hcz38_1 : w37.cell? ⟨gb122, 1, none⟩ = some (.string a0_1) := (blk_cell BK122.out 1).trans rfl; have hcz38_2 : w37.cell? ⟨gb122, 2, none⟩ = some (.string a0_2) := (blk_cell BK122.out 2).trans rfl; have hcz38_3 : w37.cell? ⟨gb122, 3, none⟩ = some (.slice A0_3 l0_3.length c0_3) := (blk_cell BK122.out 3).trans rfl; have hcz38_4 : w37.cell? ⟨gb122, 4, none⟩ = some (.slice A0_4 l0_4.length c0_4) := (blk_cell BK122.out 4).trans rfl; have hfz38_0 := blk_frozen BK122.out 0; have hfz38_1 := blk_frozen BK122.out 1; have hfz38_2 := blk_frozen BK122.out 2; have hfz38_3 := blk_frozen BK122.out 3; have hfz38_4 := blk_frozen BK122.out 4) | ((with_reducible refine gate_callee (f := 65) rfl ?_); refine goesL_ (some 14) rfl rfl Try.func65 (by kernel_rfl) rfl #[.slice A1 l1.length c1, .string a0_1] rfl (by (try simp only [List.map_toArray, List.map_cons, List.map_nil]); first | done | rfl | (simp only [List.length_drop, List.length_take]; rfl)) ?_; (with_reducible refine (label_Value.calls k _ _ l1 a0_1 t123 _ ?side1 ?side2 A3.out).mono ?_); (case side1 => repeat (first | exact (Kd.C_below HR1.out HB.out) | (with_reducible refine Kd.C_alloc ?_ _) | (with_reducible refine Kd.C_drewN ?_ _) | (with_reducible refine Kd.C_drew ?_))); (case side2 => exact HC1.out); rintro e w39 ⟨rfl, hb⟩; refine ⟨_, rfl, ?_⟩; have n0_ := Aside0.mk (blk_below (g := gb122) (o := .cells #[.int .i64 a0_0, .string a0_1, .string a0_2, .slice A0_3 l0_3.length c0_3, .slice A0_4 l0_4.length c0_4] 25 (0, 0)) (by (with_reducible repeat (first | refine blk_drewN ?_ _ | refine blk_drew ?_ | refine blk_alloc ?_ _)); exact BK122.out) hb); have n1_ := Aside0.mk (below_step (by repeat (first | (with_reducible first | exact HB.out | apply below_alloc | apply pw_below_drewN | apply below_drew1 | refine below_set ?_ GE122.out) | exact HB.out)) hb); clear BK122; clear HB; have BK122 := n0_; have HB := n1_; clear n0_ n1_; (try clear hb); (try clear hb2); (try clear hk); (try clear hi); have hcz40_0 : w39.cell? ⟨gb122, 0, none⟩ = some (.int .i64 a0_0) := (blk_cell BK122.out 0).trans rfl; have hcz40_1 : w39.cell? ⟨gb122, 1, none⟩ = some (.string a0_1) := (blk_cell BK122.out 1).trans rfl; have hcz40_2 : w39.cell? ⟨gb122, 2, none⟩ = some (.string a0_2) := (blk_cell BK122.out 2).trans rfl; have hcz40_3 : w39.cell? ⟨gb122, 3, none⟩ = some (.slice A0_3 l0_3.length c0_3) := (blk_cell BK122.out 3).trans rfl; have hcz40_4 : w39.cell? ⟨gb122, 4, none⟩ = some (.slice A0_4 l0_4.length c0_4) := (blk_cell BK122.out 4).trans rfl; have hfz40_0 := blk_frozen BK122.out 0; have hfz40_1 := blk_frozen BK122.out 1; have hfz40_2 := blk_frozen BK122.out 2; have hfz40_3 := blk_frozen BK122.out 3; have hfz40_4 := blk_frozen BK122.out 4; have p126 : 0 ≤ (0 : Int) := (by omega); have q126 : 0 < (l0_4.length : Int) := of_decide_eq_true (by first | (with_reducible assumption) | assumption); obtain ⟨ad126, A126_3, c126_3, A126_4, c126_4, e126, hx126_0, hx126_1, hx126_2, hx126_3, hx126_4, hl126_3, hi126_3, hl126_4, hi126_4⟩ := at_T25 HR0_4.out 0 p126 q126; cases e126; have qi126 : (0 < l0_4.length) = True := eq_true (by omega); (try rw [show ((0 : Int)).toNat = 0 from rfl] at hx126_0); (try rw [show 0 * 5 = 0 from rfl] at hx126_0); (try rw [Addr.add_zero'] at hx126_0); (try rw [show ((0 : Int)).toNat = 0 from rfl] at hx126_1); (try rw [show 0 * 5 = 0 from rfl] at hx126_1); (try rw [Addr.add_zero'] at hx126_1); (try rw [show ((0 : Int)).toNat = 0 from rfl] at hx126_2); (try rw [show 0 * 5 = 0 from rfl] at hx126_2); (try rw [Addr.add_zero'] at hx126_2); (try rw [show ((0 : Int)).toNat = 0 from rfl] at hx126_3); (try rw [show 0 * 5 = 0 from rfl] at hx126_3); (try rw [Addr.add_zero'] at hx126_3); (try rw [show ((0 : Int)).toNat = 0 from rfl] at hx126_4); (try rw [show 0 * 5 = 0 from rfl] at hx126_4); (try rw [Addr.add_zero'] at hx126_4); replace hx126_0 := (HB.out.cell (World.block_lt_of_cell? w _ hx126_0)).trans hx126_0; replace hx126_1 := (HB.out.cell (World.block_lt_of_cell? w _ hx126_1)).trans hx126_1; replace hx126_2 := (HB.out.cell (World.block_lt_of_cell? w _ hx126_2)).trans hx126_2; replace hx126_3 := (HB.out.cell (World.block_lt_of_cell? w _ hx126_3)).trans hx126_3; replace hx126_4 := (HB.out.cell (World.block_lt_of_cell? w _ hx126_4)).trans hx126_4; have HR126_3 := Aside0.mk hi126_3; have HC126_3 := Aside0.mk hl126_3; clear hi126_3 hl126_3; have HR126_4 := Aside0.mk hi126_4; have HC126_4 := Aside0.mk hl126_4; clear hi126_4 hl126_4; replace p126 := eq_true p126; replace q126 := eq_true q126) | ((with_reducible refine gate_callee (f := 108) rfl ?_); refine goesL_ (some 57) rfl rfl Try.func108 (by kernel_rfl) rfl #[.agg #[.int .i64 ((rd_T25 l0_4 0).f0), .string ((rd_T25 l0_4 0).f1), .string ((rd_T25 l0_4 0).f2), .slice A126_3 ((rd_T25 l0_4 0).f3).length c126_3, .slice A126_4 ((rd_T25 l0_4 0).f4).length c126_4], .slice A1 l1.length c1] rfl (by (try simp only [List.map_toArray, List.map_cons, List.map_nil]); first | done | rfl | (simp only [List.length_drop, List.length_take]; rfl)) ?_; (with_reducible refine (ih k (by omega) ((rd_T25 l0_4 0).f0) ((rd_T25 l0_4 0).f1) ((rd_T25 l0_4 0).f2) _ _ ((rd_T25 l0_4 0).f3) _ _ ((rd_T25 l0_4 0).f4) _ _ l1 t127 _ ?side1 ?side2 ?side3 ?side4 ?side5 ?side6 A36.out).mono ?_); (case side1 => repeat (first | exact (Kd.C_below HR126_3.out HB.out) | (with_reducible refine Kd.C_alloc ?_ _) | (with_reducible refine Kd.C_drewN ?_ _) | (with_reducible refine Kd.C_drew ?_))); (case side2 => exact HC126_3.out); (case side3 => repeat (first | exact (Kd.C_below HR126_4.out HB.out) | (with_reducible refine Kd.C_alloc ?_ _) | (with_reducible refine Kd.C_drewN ?_ _) | (with_reducible refine Kd.C_drew ?_))); (case side4 => exact HC126_4.out); (case side5 => repeat (first | exact (Kd.C_below HR1.out HB.out) | (with_reducible refine Kd.C_alloc ?_ _) | (with_reducible refine Kd.C_drewN ?_ _) | (with_reducible refine Kd.C_drew ?_))); (case side6 => exact HC1.out); rintro e w41 ⟨rfl, hb⟩; refine ⟨_, rfl, ?_⟩; have n0_ := Aside0.mk (blk_below (g := gb122) (o := .cells #[.int .i64 a0_0, .string a0_1, .string a0_2, .slice A0_3 l0_3.length c0_3, .slice (some ad126) l0_4.length c0_4] 25 (0, 0)) (by (with_reducible repeat (first | refine blk_drewN ?_ _ | refine blk_drew ?_ | refine blk_alloc ?_ _)); exact BK122.out) hb); have n1_ := Aside0.mk (below_step (by repeat (first | (with_reducible first | exact HB.out | apply below_alloc | apply pw_below_drewN | apply below_drew1 | refine below_set ?_ GE122.out) | exact HB.out)) hb); clear BK122; clear HB; have BK122 := n0_; have HB := n1_; clear n0_ n1_; (try clear hb); (try clear hb2); (try clear hk); (try clear hi)))
        go_ret
        exact ⟨by first | rfl | (simp [errW_none, errW_some] <;> rfl) | (simp [*, errW_none, errW_some] <;> rfl), by repeat (first | (with_reducible first | exact HB.out | apply below_alloc | apply pw_below_drewN | apply below_drew1 | refine below_set ?_ GE122.out) | exact HB.out)⟩
       ·rw [if_neg c35] at H
        exact absurd H (by simp)
      ·rw [if_neg c34] at H
       have c34b0 : (a0_0 == 7) = false := beq_eq_false_iff_ne.mpr c34
       have c34b1 : (a0_0 != 7) = true := bne_iff_ne.mpr c34
       have H' := Aside0.mk H
       clear H
       go_enter Try.func108, Try.ntmps108
       go_wp2_with (first | ((with_reducible refine gate_dst (N := 2) rfl ?_); refine box_event ?hg (N := 2) ?hd (cs := #[.int .i64 a0_0, .string a0_1, .string a0_2, .slice A0_3 l0_3.length c0_3, .slice A0_4 l0_4.length c0_4]) (t := 25) ?hr ?_; (case hd => rfl); (case hg => rfl); (case hr => first | (go_simp; done) | (go_simp; rfl)); intro gb122 hg w42 hbox hb; have n0_ := Aside0.mk (below_step (by repeat (first | (with_reducible first | exact HB.out | apply below_alloc | apply pw_below_drewN | apply below_drew1) | exact HB.out)) hb); have n1_ := Aside0.mk (hbox); have n2_ := Aside0.mk ((by rw [hg]; exact (below_size (by repeat (first | (with_reducible first | exact HB.out | apply below_alloc | apply pw_below_drewN | apply below_drew1) | exact HB.out))) : w.heap.size ≤ gb122)); have n3_ := Aside0.mk ((by rw [hg]; exact (below_size (by repeat (first | (with_reducible first | exact HB.out | apply below_alloc | apply pw_below_drewN | apply below_drew1) | exact HB.out))) : w.heap.size ≤ gb122)); clear HB; have HB := n0_; have BK122 := n1_; have GW122 := n2_; have GE122 := n3_; clear n0_ n1_ n2_ n3_; clear hb hbox hg; have hcz43_0 : w42.cell? ⟨gb122, 0, none⟩ = some (.int .i64 a0_0) := (blk_cell BK122.out 0).trans rfl; have hcz43_1 : w42.cell? ⟨gb122, 1, none⟩ = some (.string a0_1) := (blk_cell BK122.out 1).trans rfl; have hcz43_2 : w42.cell? ⟨gb122, 2, none⟩ = some (.string a0_2) := (blk_cell BK122.out 2).trans rfl; have hcz43_3 : w42.cell? ⟨gb122, 3, none⟩ = some (.slice A0_3 l0_3.length c0_3) := (blk_cell BK122.out 3).trans rfl; have hcz43_4 : w42.cell? ⟨gb122, 4, none⟩ = some (.slice A0_4 l0_4.length c0_4) := (blk_cell BK122.out 4).trans rfl; have hfz43_0 := blk_frozen BK122.out 0; have hfz43_1 := blk_frozen BK122.out 1; have hfz43_2 := blk_frozen BK122.out 2; have hfz43_3 := blk_frozen BK122.out 3; have hfz43_4 := blk_frozen BK122.out 4) | ((with_reducible refine gate_callee (f := 65) rfl ?_); refine goesL_ (some 14) rfl rfl Try.func65 (by kernel_rfl) rfl #[.slice A1 l1.length c1, .string a0_1] rfl (by (try simp only [List.map_toArray, List.map_cons, List.map_nil]); first | done | rfl | (simp only [List.length_drop, List.length_take]; rfl)) ?_; (with_reducible refine (label_Value.calls k _ _ l1 a0_1 t123 _ ?side1 ?side2 A3.out).mono ?_); (case side1 => repeat (first | exact (Kd.C_below HR1.out HB.out) | (with_reducible refine Kd.C_alloc ?_ _) | (with_reducible refine Kd.C_drewN ?_ _) | (with_reducible refine Kd.C_drew ?_))); (case side2 => exact HC1.out); rintro e w44 ⟨rfl, hb⟩; refine ⟨_, rfl, ?_⟩; have n0_ := Aside0.mk (blk_below (g := gb122) (o := .cells #[.int .i64 a0_0, .string a0_1, .string a0_2, .slice A0_3 l0_3.length c0_3, .slice A0_4 l0_4.length c0_4] 25 (0, 0)) (by (with_reducible repeat (first | refine blk_drewN ?_ _ | refine blk_drew ?_ | refine blk_alloc ?_ _)); exact BK122.out) hb); have n1_ := Aside0.mk (below_step (by repeat (first | (with_reducible first | exact HB.out | apply below_alloc | apply pw_below_drewN | apply below_drew1 | refine below_set ?_ GE122.out) | exact HB.out)) hb); clear BK122; clear HB; have BK122 := n0_; have HB := n1_; clear n0_ n1_; (try clear hb); (try clear hb2); (try clear hk); (try clear hi); have hcz45_0 : w44.cell? ⟨gb122, 0, none⟩ = some (.int .i64 a0_0) := (blk_cell BK122.out 0).trans rfl; have hcz45_1 : w44.cell? ⟨gb122, 1, none⟩ = some (.string a0_1) := (blk_cell BK122.out 1).trans rfl; have hcz45_2 : w44.cell? ⟨gb122, 2, none⟩ = some (.string a0_2) := (blk_cell BK122.out 2).trans rfl; have hcz45_3 : w44.cell? ⟨gb122, 3, none⟩ = some (.slice A0_3 l0_3.length c0_3) := (blk_cell BK122.out 3).trans rfl; have hcz45_4 : w44.cell? ⟨gb122, 4, none⟩ = some (.slice A0_4 l0_4.length c0_4) := (blk_cell BK122.out 4).trans rfl; have hfz45_0 := blk_frozen BK122.out 0; have hfz45_1 := blk_frozen BK122.out 1; have hfz45_2 := blk_frozen BK122.out 2; have hfz45_3 := blk_frozen BK122.out 3; have hfz45_4 := blk_frozen BK122.out 4))
       go_loopg [65] k (fun kq v65 w' => ∃ (x65_1 : Int), v65 = .int .i64 x65_1 ∧ Aside0 (match_eval.l1 kq l1 (a0_0 == 6) l0_4 (l0_4.length : Int) x65_1 = some r) ∧ Aside0 (kq ≤ k) ∧ Aside0 (w'.heap[gb122]? = some (.cells #[.int .i64 a0_0, .string a0_1, .string a0_2, (.slice A0_3 l0_3.length c0_3), (.slice A0_4 l0_4.length c0_4)] 25 (0, 0))) ∧ Aside0 (Below w.heap.size w w'))
       case atStart => exact ⟨(0), (by first | rfl | (simp; done) | (simp [*]; done)), H', ⟨Nat.le_refl _⟩, ⟨by (with_reducible repeat (first | refine blk_drewN ?_ _ | refine blk_drew ?_ | refine blk_alloc ?_ _)); exact BK122.out⟩, ⟨by repeat (first | (with_reducible first | exact HB.out | apply below_alloc | apply pw_below_drewN | apply below_drew1 | refine below_set ?_ GE122.out) | exact HB.out)⟩⟩
       case round =>
        clear H'
        try clear c1
        try clear p1
        try clear q1
        try clear hx1
        try clear qi1
        try clear c2
        try clear p2
        try clear c3
        try clear c4
        try clear c4b0
        try clear c4b1
        try clear c6
        try clear p6
        try clear c9
        try clear c9b0
        try clear c9b1
        try clear c10
        try clear c12
        try clear p12
        try clear q12
        try clear hx12
        try clear qi12
        try clear c14
        try clear c14b0
        try clear c14b1
        try clear c15
        try clear c19
        try clear c19b0
        try clear c19b1
        try clear c25
        try clear c25b0
        try clear c25b1
        try clear c30
        try clear c30b0
        try clear c31
        try clear c31b0
        try clear c32
        try clear c32b0
        try clear c33
        try clear c33b0
        try clear c33b1
        try clear c34
        try clear c34b0
        try clear c34b1
        try clear c35
        try clear c35b0
        try clear c35b1
        try clear hcz11_0
        try clear hcz11_1
        try clear hcz11_2
        try clear hcz11_3
        try clear hcz11_4
        try clear hcz13_0
        try clear hcz13_1
        try clear hcz13_2
        try clear hcz13_3
        try clear hcz13_4
        try clear hcz16_0
        try clear hcz16_1
        try clear hcz16_2
        try clear hcz16_3
        try clear hcz16_4
        try clear hcz18_0
        try clear hcz18_1
        try clear hcz18_2
        try clear hcz18_3
        try clear hcz18_4
        try clear hcz22_0
        try clear hcz22_1
        try clear hcz22_2
        try clear hcz22_3
        try clear hcz22_4
        try clear hcz24_0
        try clear hcz24_1
        try clear hcz24_2
        try clear hcz24_3
        try clear hcz24_4
        try clear hcz27_0
        try clear hcz27_1
        try clear hcz27_2
        try clear hcz27_3
        try clear hcz27_4
        try clear hcz29_0
        try clear hcz29_1
        try clear hcz29_2
        try clear hcz29_3
        try clear hcz29_4
        try clear hcz38_0
        try clear hcz38_1
        try clear hcz38_2
        try clear hcz38_3
        try clear hcz38_4
        try clear hcz40_0
        try clear hcz40_1
        try clear hcz40_2
        try clear hcz40_3
        try clear hcz40_4
        try clear hcz43_0
        try clear hcz43_1
        try clear hcz43_2
        try clear hcz43_3
        try clear hcz43_4
        try clear hcz45_0
        try clear hcz45_1
        try clear hcz45_2
        try clear hcz45_3
        try clear hcz45_4
        try clear hcz6_0
        try clear hcz6_1
        try clear hcz6_2
        try clear hcz6_3
        try clear hcz6_4
        try clear hcz8_0
        try clear hcz8_1
        try clear hcz8_2
        try clear hcz8_3
        try clear hcz8_4
        try clear hfz11_0
        try clear hfz11_1
        try clear hfz11_2
        try clear hfz11_3
        try clear hfz11_4
        try clear hfz13_0
        try clear hfz13_1
        try clear hfz13_2
        try clear hfz13_3
        try clear hfz13_4
        try clear hfz16_0
        try clear hfz16_1
        try clear hfz16_2
        try clear hfz16_3
        try clear hfz16_4
        try clear hfz18_0
        try clear hfz18_1
        try clear hfz18_2
        try clear hfz18_3
        try clear hfz18_4
        try clear hfz22_0
        try clear hfz22_1
        try clear hfz22_2
        try clear hfz22_3
        try clear hfz22_4
        try clear hfz24_0
        try clear hfz24_1
        try clear hfz24_2
        try clear hfz24_3
        try clear hfz24_4
        try clear hfz27_0
        try clear hfz27_1
        try clear hfz27_2
        try clear hfz27_3
        try clear hfz27_4
        try clear hfz29_0
        try clear hfz29_1
        try clear hfz29_2
        try clear hfz29_3
        try clear hfz29_4
        try clear hfz38_0
        try clear hfz38_1
        try clear hfz38_2
        try clear hfz38_3
        try clear hfz38_4
        try clear hfz40_0
        try clear hfz40_1
        try clear hfz40_2
        try clear hfz40_3
        try clear hfz40_4
        try clear hfz43_0
        try clear hfz43_1
        try clear hfz43_2
        try clear hfz43_3
        try clear hfz43_4
        try clear hfz45_0
        try clear hfz45_1
        try clear hfz45_2
        try clear hfz45_3
        try clear hfz45_4
        try clear hfz6_0
        try clear hfz6_1
        try clear hfz6_2
        try clear hfz6_3
        try clear hfz6_4
        try clear hfz8_0
        try clear hfz8_1
        try clear hfz8_2
        try clear hfz8_3
        try clear hfz8_4
        try clear hx125_0
        try clear hx126_0
        try clear hx126_1
        try clear hx126_2
        try clear hx126_3
        try clear hx126_4
        try clear p125
        try clear p126
        try clear p2
        try clear q125
        try clear q126
        obtain ⟨x65_1, rfl, HA, HK1, BK122, HB⟩ := hrel
        cases gk with
        | zero => exact absurd HA.out (by simp [match_eval.l1])
        | succ k1 =>
         have H := HA.out
         clear HA
         simp only [match_eval.l1] at H
         by_cases c46 : x65_1 < (l0_4.length : Int)
         ·rw [if_pos c46] at H
          have c46b0 : decide (x65_1 < (l0_4.length : Int)) = true := decide_eq_true c46
          clear c46
          by_cases c47 : 0 ≤ x65_1
          ·rw [if_pos c47] at H
           have c47b0 : decide (0 ≤ x65_1) = true := decide_eq_true c47
           clear c47
           by_cases c48 : x65_1 < (l0_4.length : Int)
           ·rw [if_pos c48] at H
            have c48b0 : decide (x65_1 < (l0_4.length : Int)) = true := decide_eq_true c48
            clear c48
            replace H := Option.bind_eq_some_iff.mp H
            obtain ⟨t130, A490, H⟩ := H
            replace H : (if (t130 == (a0_0 == 6)) = true then (some (a0_0 == 6)) else (match_eval.l1 k1 l1 (a0_0 == 6) l0_4 (l0_4.length : Int) (wrap64 (x65_1 + 1)))) = some r := H
            have A49 := Aside0.mk A490
            clear A490
            by_cases c50 : (t130 == (a0_0 == 6)) = true
            ·rw [if_pos c50] at H
             have c50b0 : (t130 == (a0_0 == 6)) = true := c50
             (try (have c50b1 : decide (t130 = (a0_0 == 6)) = true := by simpa using c50))
             (try (have c50b2 : (t130 == (a0_0 == 6)) = true := by simpa using c50))
             clear c50
             obtain rfl := Option.some.inj H
             have p128 : 0 ≤ (x65_1 : Int) := of_decide_eq_true (by first | (with_reducible assumption) | assumption)
             have q128 : x65_1 < (l0_4.length : Int) := of_decide_eq_true (by first | (with_reducible assumption) | assumption)
             obtain ⟨ad128, A128_3, c128_3, A128_4, c128_4, e128, hx128_0, hx128_1, hx128_2, hx128_3, hx128_4, hl128_3, hi128_3, hl128_4, hi128_4⟩ := at_T25 HR0_4.out x65_1 p128 q128
             cases e128
             replace hx128_0 := (HB.out.cell (World.block_lt_of_cell? w _ hx128_0)).trans hx128_0
             replace hx128_1 := (HB.out.cell (World.block_lt_of_cell? w _ hx128_1)).trans hx128_1
             replace hx128_2 := (HB.out.cell (World.block_lt_of_cell? w _ hx128_2)).trans hx128_2
             replace hx128_3 := (HB.out.cell (World.block_lt_of_cell? w _ hx128_3)).trans hx128_3
             replace hx128_4 := (HB.out.cell (World.block_lt_of_cell? w _ hx128_4)).trans hx128_4
             have HR128_3 := Aside0.mk hi128_3
             have HC128_3 := Aside0.mk hl128_3
             clear hi128_3 hl128_3
             have HR128_4 := Aside0.mk hi128_4
             have HC128_4 := Aside0.mk hl128_4
             clear hi128_4 hl128_4
             replace p128 := eq_true p128
             replace q128 := eq_true q128
             go_wp2_with (first | ((with_reducible refine gate_dst (N := 10) rfl ?_); refine box_event ?hg (N := 10) ?hd (cs := #[.int .i64 0, .string (⟨#[]⟩ : ByteArray), .string (⟨#[]⟩ : ByteArray), .slice none 0 0, .slice none 0 0]) (t := 25) ?hr ?_; (case hd => rfl); (case hg => rfl); (case hr => first | (go_simp; done) | (go_simp; rfl)); intro gb129 hg w51 hbox hb; have n0_ := Aside0.mk (blk_below (g := gb122) (o := .cells #[.int .i64 a0_0, .string a0_1, .string a0_2, .slice A0_3 l0_3.length c0_3, .slice (some ad128) l0_4.length c0_4] 25 (0, 0)) (by (with_reducible repeat (first | refine blk_drewN ?_ _ | refine blk_drew ?_ | refine blk_alloc ?_ _)); exact BK122.out) hb); have n1_ := Aside0.mk (below_step (by repeat (first | (with_reducible first | exact HB.out | apply below_alloc | apply pw_below_drewN | apply below_drew1 | refine below_set ?_ GE122.out) | exact HB.out)) hb); have n2_ := Aside0.mk (hbox); have n3_ := Aside0.mk ((by rw [hg]; exact (below_size (by repeat (first | (with_reducible first | exact HB.out | apply below_alloc | apply pw_below_drewN | apply below_drew1 | refine below_set ?_ GE122.out) | exact HB.out))) : w.heap.size ≤ gb129)); have n4_ := Aside0.mk ((by rw [hg]; exact (below_size (by repeat (first | (with_reducible first | exact HB.out | apply below_alloc | apply pw_below_drewN | apply below_drew1 | refine below_set ?_ GE122.out) | exact HB.out))) : w.heap.size ≤ gb129)); have n5_ := Aside0.mk ((by rw [hg]; exact Nat.ne_of_lt (blk_lt (g := gb122) (o := .cells #[.int .i64 a0_0, .string a0_1, .string a0_2, .slice A0_3 l0_3.length c0_3, .slice (some ad128) l0_4.length c0_4] 25 (0, 0)) (by (with_reducible repeat (first | refine blk_drewN ?_ _ | refine blk_drew ?_ | refine blk_alloc ?_ _)); exact BK122.out)) : gb122 ≠ gb129)); have n6_ := Aside0.mk ((by rw [hg]; exact Nat.ne_of_gt (blk_lt (g := gb122) (o := .cells #[.int .i64 a0_0, .string a0_1, .string a0_2, .slice A0_3 l0_3.length c0_3, .slice (some ad128) l0_4.length c0_4] 25 (0, 0)) (by (with_reducible repeat (first | refine blk_drewN ?_ _ | refine blk_drew ?_ | refine blk_alloc ?_ _)); exact BK122.out)) : gb129 ≠ gb122)); clear BK122; clear HB; have BK122 := n0_; have HB := n1_; have BK129 := n2_; have GW129 := n3_; have GE129 := n4_; have NB122_129 := n5_; have NB129_122 := n6_; clear n0_ n1_ n2_ n3_ n4_ n5_ n6_; clear hb hbox hg; have hnb52 := NB129_122.out; have hnc52 := NB122_129.out; have hcz53_0 : w51.cell? ⟨gb129, 0, none⟩ = some (.int .i64 0) := (blk_cell BK129.out 0).trans rfl; have hcz53_1 : w51.cell? ⟨gb129, 1, none⟩ = some (.string (⟨#[]⟩ : ByteArray)) := (blk_cell BK129.out 1).trans rfl; have hcz53_2 : w51.cell? ⟨gb129, 2, none⟩ = some (.string (⟨#[]⟩ : ByteArray)) := (blk_cell BK129.out 2).trans rfl; have hcz53_3 : w51.cell? ⟨gb129, 3, none⟩ = some (.slice none 0 0) := (blk_cell BK129.out 3).trans rfl; have hcz53_4 : w51.cell? ⟨gb129, 4, none⟩ = some (.slice none 0 0) := (blk_cell BK129.out 4).trans rfl; have hfz53_0 := blk_frozen BK129.out 0; have hfz53_1 := blk_frozen BK129.out 1; have hfz53_2 := blk_frozen BK129.out 2; have hfz53_3 := blk_frozen BK129.out 3; have hfz53_4 := blk_frozen BK129.out 4) | ((with_reducible refine gate_callee (f := 108) rfl ?_); refine goesL_ (some 71) rfl rfl Try.func108 (by kernel_rfl) rfl #[.agg #[.int .i64 ((rd_T25 l0_4 x65_1).f0), .string ((rd_T25 l0_4 x65_1).f1), .string ((rd_T25 l0_4 x65_1).f2), .slice A128_3 ((rd_T25 l0_4 x65_1).f3).length c128_3, .slice A128_4 ((rd_T25 l0_4 x65_1).f4).length c128_4], .slice A1 l1.length c1] rfl (by (try simp only [List.map_toArray, List.map_cons, List.map_nil]); first | done | rfl | (simp only [List.length_drop, List.length_take]; rfl)) ?_; (with_reducible refine (ih k1 (by have := HK1.out; omega) ((rd_T25 l0_4 x65_1).f0) ((rd_T25 l0_4 x65_1).f1) ((rd_T25 l0_4 x65_1).f2) _ _ ((rd_T25 l0_4 x65_1).f3) _ _ ((rd_T25 l0_4 x65_1).f4) _ _ l1 t130 _ ?side1 ?side2 ?side3 ?side4 ?side5 ?side6 A49.out).mono ?_); (case side1 => exact Kd.C_below HR128_3.out (by repeat (first | (with_reducible first | exact HB.out | apply below_alloc | apply pw_below_drewN | apply below_drew1 | refine below_set ?_ GE122.out | refine below_set ?_ GE129.out) | exact HB.out))); (case side2 => exact HC128_3.out); (case side3 => exact Kd.C_below HR128_4.out (by repeat (first | (with_reducible first | exact HB.out | apply below_alloc | apply pw_below_drewN | apply below_drew1 | refine below_set ?_ GE122.out | refine below_set ?_ GE129.out) | exact HB.out))); (case side4 => exact HC128_4.out); (case side5 => exact Kd.C_below HR1.out (by repeat (first | (with_reducible first | exact HB.out | apply below_alloc | apply pw_below_drewN | apply below_drew1 | refine below_set ?_ GE122.out | refine below_set ?_ GE129.out) | exact HB.out))); (case side6 => exact HC1.out); rintro e w54 ⟨rfl, hb⟩; refine ⟨_, rfl, ?_⟩; have n0_ := Aside0.mk (blk_below (g := gb122) (o := .cells #[.int .i64 a0_0, .string a0_1, .string a0_2, .slice A0_3 l0_3.length c0_3, .slice (some ad128) l0_4.length c0_4] 25 (0, 0)) (by (with_reducible repeat (first | refine blk_drewN ?_ _ | refine blk_drew ?_ | refine blk_alloc ?_ _)); refine blk_far ?_ NB122_129.out _; (with_reducible repeat (first | refine blk_drewN ?_ _ | refine blk_drew ?_ | refine blk_alloc ?_ _)); refine blk_far ?_ NB122_129.out _; (with_reducible repeat (first | refine blk_drewN ?_ _ | refine blk_drew ?_ | refine blk_alloc ?_ _)); refine blk_far ?_ NB122_129.out _; (with_reducible repeat (first | refine blk_drewN ?_ _ | refine blk_drew ?_ | refine blk_alloc ?_ _)); refine blk_far ?_ NB122_129.out _; (with_reducible repeat (first | refine blk_drewN ?_ _ | refine blk_drew ?_ | refine blk_alloc ?_ _)); refine blk_far ?_ NB122_129.out _; (with_reducible repeat (first | refine blk_drewN ?_ _ | refine blk_drew ?_ | refine blk_alloc ?_ _)); exact BK122.out) hb); have n1_ := Aside0.mk (blk_below (g := gb129) (o := .cells #[.int .i64 ((rd_T25 l0_4 x65_1).f0), .string ((rd_T25 l0_4 x65_1).f1), .string ((rd_T25 l0_4 x65_1).f2), .slice A128_3 ((rd_T25 l0_4 x65_1).f3).length c128_3, .slice A128_4 ((rd_T25 l0_4 x65_1).f4).length c128_4] 25 (0, 0)) (by (with_reducible repeat (first | refine blk_drewN ?_ _ | refine blk_drew ?_ | refine blk_alloc ?_ _)); refine blk_put (cs := #[.int .i64 ((rd_T25 l0_4 x65_1).f0), .string ((rd_T25 l0_4 x65_1).f1), .string ((rd_T25 l0_4 x65_1).f2), .slice A128_3 ((rd_T25 l0_4 x65_1).f3).length c128_3, .slice none 0 0]) ?_ 4 _ rfl; (with_reducible repeat (first | refine blk_drewN ?_ _ | refine blk_drew ?_ | refine blk_alloc ?_ _)); refine blk_put (cs := #[.int .i64 ((rd_T25 l0_4 x65_1).f0), .string ((rd_T25 l0_4 x65_1).f1), .string ((rd_T25 l0_4 x65_1).f2), .slice none 0 0, .slice none 0 0]) ?_ 3 _ rfl; (with_reducible repeat (first | refine blk_drewN ?_ _ | refine blk_drew ?_ | refine blk_alloc ?_ _)); refine blk_put (cs := #[.int .i64 ((rd_T25 l0_4 x65_1).f0), .string ((rd_T25 l0_4 x65_1).f1), .string (⟨#[]⟩ : ByteArray), .slice none 0 0, .slice none 0 0]) ?_ 2 _ rfl; (with_reducible repeat (first | refine blk_drewN ?_ _ | refine blk_drew ?_ | refine blk_alloc ?_ _)); refine blk_put (cs := #[.int .i64 ((rd_T25 l0_4 x65_1).f0), .string (⟨#[]⟩ : ByteArray), .string (⟨#[]⟩ : ByteArray), .slice none 0 0, .slice none 0 0]) ?_ 1 _ rfl; (with_reducible repeat (first | refine blk_drewN ?_ _ | refine blk_drew ?_ | refine blk_alloc ?_ _)); refine blk_put (cs := #[.int .i64 0, .string (⟨#[]⟩ : ByteArray), .string (⟨#[]⟩ : ByteArray), .slice none 0 0, .slice none 0 0]) ?_ 0 _ rfl; (with_reducible repeat (first | refine blk_drewN ?_ _ | refine blk_drew ?_ | refine blk_alloc ?_ _)); exact BK129.out) hb); have n2_ := Aside0.mk (below_step (by repeat (first | (with_reducible first | exact HB.out | apply below_alloc | apply pw_below_drewN | apply below_drew1 | refine below_set ?_ GE122.out | refine below_set ?_ GE129.out) | exact HB.out)) hb); clear BK122; clear BK129; clear HB; have BK122 := n0_; have BK129 := n1_; have HB := n2_; clear n0_ n1_ n2_; (try clear hb); (try clear hb2); (try clear hk); (try clear hi)))
             go_ret
             exact ⟨by first | rfl | (simp [errW_none, errW_some] <;> rfl) | (simp [*, errW_none, errW_some] <;> rfl), by repeat (first | (with_reducible first | exact HB.out | apply below_alloc | apply pw_below_drewN | apply below_drew1 | refine below_set ?_ GE122.out | refine below_set ?_ GE129.out) | exact HB.out)⟩
            ·rw [if_neg c50] at H
             have c50b0 : (t130 == (a0_0 == 6)) = false := by simpa using c50
             (try (have c50b1 : decide (t130 = (a0_0 == 6)) = false := by simpa using c50))
             (try (have c50b2 : (t130 == (a0_0 == 6)) = false := by simpa using c50))
             (try (have c50b3 : ¬ (t130 = (a0_0 == 6)) := by simpa using c50))
             clear c50
             have H' := Aside0.mk H
             clear H
             have p128 : 0 ≤ (x65_1 : Int) := of_decide_eq_true (by first | (with_reducible assumption) | assumption)
             have q128 : x65_1 < (l0_4.length : Int) := of_decide_eq_true (by first | (with_reducible assumption) | assumption)
             obtain ⟨ad128, A128_3, c128_3, A128_4, c128_4, e128, hx128_0, hx128_1, hx128_2, hx128_3, hx128_4, hl128_3, hi128_3, hl128_4, hi128_4⟩ := at_T25 HR0_4.out x65_1 p128 q128
             cases e128
             replace hx128_0 := (HB.out.cell (World.block_lt_of_cell? w _ hx128_0)).trans hx128_0
             replace hx128_1 := (HB.out.cell (World.block_lt_of_cell? w _ hx128_1)).trans hx128_1
             replace hx128_2 := (HB.out.cell (World.block_lt_of_cell? w _ hx128_2)).trans hx128_2
             replace hx128_3 := (HB.out.cell (World.block_lt_of_cell? w _ hx128_3)).trans hx128_3
             replace hx128_4 := (HB.out.cell (World.block_lt_of_cell? w _ hx128_4)).trans hx128_4
             have HR128_3 := Aside0.mk hi128_3
             have HC128_3 := Aside0.mk hl128_3
             clear hi128_3 hl128_3
             have HR128_4 := Aside0.mk hi128_4
             have HC128_4 := Aside0.mk hl128_4
             clear hi128_4 hl128_4
             replace p128 := eq_true p128
             replace q128 := eq_true q128
             go_wp2_with (first | ((with_reducible refine gate_dst (N := 10) rfl ?_); refine box_event ?hg (N := 10) ?hd (cs := #[.int .i64 0, .string (⟨#[]⟩ : ByteArray), .string (⟨#[]⟩ : ByteArray), .slice none 0 0, .slice none 0 0]) (t := 25) ?hr ?_; (case hd => rfl); (case hg => rfl); (case hr => first | (go_simp; done) | (go_simp; rfl)); intro gb129 hg w55 hbox hb; have n0_ := Aside0.mk (blk_below (g := gb122) (o := .cells #[.int .i64 a0_0, .string a0_1, .string a0_2, .slice A0_3 l0_3.length c0_3, .slice (some ad128) l0_4.length c0_4] 25 (0, 0)) (by (with_reducible repeat (first | refine blk_drewN ?_ _ | refine blk_drew ?_ | refine blk_alloc ?_ _)); exact BK122.out) hb); have n1_ := Aside0.mk (below_step (by repeat (first | (with_reducible first | exact HB.out | apply below_alloc | apply pw_below_drewN | apply below_drew1 | refine below_set ?_ GE122.out) | exact HB.out)) hb); have n2_ := Aside0.mk (hbox); have n3_ := Aside0.mk ((by rw [hg]; exact (below_size (by repeat (first | (with_reducible first | exact HB.out | apply below_alloc | apply pw_below_drewN | apply below_drew1 | refine below_set ?_ GE122.out) | exact HB.out))) : w.heap.size ≤ gb129)); have n4_ := Aside0.mk ((by rw [hg]; exact (below_size (by repeat (first | (with_reducible first | exact HB.out | apply below_alloc | apply pw_below_drewN | apply below_drew1 | refine below_set ?_ GE122.out) | exact HB.out))) : w.heap.size ≤ gb129)); have n5_ := Aside0.mk ((by rw [hg]; exact Nat.ne_of_lt (blk_lt (g := gb122) (o := .cells #[.int .i64 a0_0, .string a0_1, .string a0_2, .slice A0_3 l0_3.length c0_3, .slice (some ad128) l0_4.length c0_4] 25 (0, 0)) (by (with_reducible repeat (first | refine blk_drewN ?_ _ | refine blk_drew ?_ | refine blk_alloc ?_ _)); exact BK122.out)) : gb122 ≠ gb129)); have n6_ := Aside0.mk ((by rw [hg]; exact Nat.ne_of_gt (blk_lt (g := gb122) (o := .cells #[.int .i64 a0_0, .string a0_1, .string a0_2, .slice A0_3 l0_3.length c0_3, .slice (some ad128) l0_4.length c0_4] 25 (0, 0)) (by (with_reducible repeat (first | refine blk_drewN ?_ _ | refine blk_drew ?_ | refine blk_alloc ?_ _)); exact BK122.out)) : gb129 ≠ gb122)); clear BK122; clear HB; have BK122 := n0_; have HB := n1_; have BK129 := n2_; have GW129 := n3_; have GE129 := n4_; have NB122_129 := n5_; have NB129_122 := n6_; clear n0_ n1_ n2_ n3_ n4_ n5_ n6_; clear hb hbox hg; have hnb56 := NB129_122.out; have hnc56 := NB122_129.out; have hcz57_0 : w55.cell? ⟨gb129, 0, none⟩ = some (.int .i64 0) := (blk_cell BK129.out 0).trans rfl; have hcz57_1 : w55.cell? ⟨gb129, 1, none⟩ = some (.string (⟨#[]⟩ : ByteArray)) := (blk_cell BK129.out 1).trans rfl; have hcz57_2 : w55.cell? ⟨gb129, 2, none⟩ = some (.string (⟨#[]⟩ : ByteArray)) := (blk_cell BK129.out 2).trans rfl; have hcz57_3 : w55.cell? ⟨gb129, 3, none⟩ = some (.slice none 0 0) := (blk_cell BK129.out 3).trans rfl; have hcz57_4 : w55.cell? ⟨gb129, 4, none⟩ = some (.slice none 0 0) := (blk_cell BK129.out 4).trans rfl; have hfz57_0 := blk_frozen BK129.out 0; have hfz57_1 := blk_frozen BK129.out 1; have hfz57_2 := blk_frozen BK129.out 2; have hfz57_3 := blk_frozen BK129.out 3; have hfz57_4 := blk_frozen BK129.out 4) | ((with_reducible refine gate_callee (f := 108) rfl ?_); refine goesL_ (some 71) rfl rfl Try.func108 (by kernel_rfl) rfl #[.agg #[.int .i64 ((rd_T25 l0_4 x65_1).f0), .string ((rd_T25 l0_4 x65_1).f1), .string ((rd_T25 l0_4 x65_1).f2), .slice A128_3 ((rd_T25 l0_4 x65_1).f3).length c128_3, .slice A128_4 ((rd_T25 l0_4 x65_1).f4).length c128_4], .slice A1 l1.length c1] rfl (by (try simp only [List.map_toArray, List.map_cons, List.map_nil]); first | done | rfl | (simp only [List.length_drop, List.length_take]; rfl)) ?_; (with_reducible refine (ih k1 (by have := HK1.out; omega) ((rd_T25 l0_4 x65_1).f0) ((rd_T25 l0_4 x65_1).f1) ((rd_T25 l0_4 x65_1).f2) _ _ ((rd_T25 l0_4 x65_1).f3) _ _ ((rd_T25 l0_4 x65_1).f4) _ _ l1 t130 _ ?side1 ?side2 ?side3 ?side4 ?side5 ?side6 A49.out).mono ?_); (case side1 => exact Kd.C_below HR128_3.out (by repeat (first | (with_reducible first | exact HB.out | apply below_alloc | apply pw_below_drewN | apply below_drew1 | refine below_set ?_ GE122.out | refine below_set ?_ GE129.out) | exact HB.out))); (case side2 => exact HC128_3.out); (case side3 => exact Kd.C_below HR128_4.out (by repeat (first | (with_reducible first | exact HB.out | apply below_alloc | apply pw_below_drewN | apply below_drew1 | refine below_set ?_ GE122.out | refine below_set ?_ GE129.out) | exact HB.out))); (case side4 => exact HC128_4.out); (case side5 => exact Kd.C_below HR1.out (by repeat (first | (with_reducible first | exact HB.out | apply below_alloc | apply pw_below_drewN | apply below_drew1 | refine below_set ?_ GE122.out | refine below_set ?_ GE129.out) | exact HB.out))); (case side6 => exact HC1.out); rintro e w58 ⟨rfl, hb⟩; refine ⟨_, rfl, ?_⟩; have n0_ := Aside0.mk (blk_below (g := gb122) (o := .cells #[.int .i64 a0_0, .string a0_1, .string a0_2, .slice A0_3 l0_3.length c0_3, .slice (some ad128) l0_4.length c0_4] 25 (0, 0)) (by (with_reducible repeat (first | refine blk_drewN ?_ _ | refine blk_drew ?_ | refine blk_alloc ?_ _)); refine blk_far ?_ NB122_129.out _; (with_reducible repeat (first | refine blk_drewN ?_ _ | refine blk_drew ?_ | refine blk_alloc ?_ _)); refine blk_far ?_ NB122_129.out _; (with_reducible repeat (first | refine blk_drewN ?_ _ | refine blk_drew ?_ | refine blk_alloc ?_ _)); refine blk_far ?_ NB122_129.out _; (with_reducible repeat (first | refine blk_drewN ?_ _ | refine blk_drew ?_ | refine blk_alloc ?_ _)); refine blk_far ?_ NB122_129.out _; (with_reducible repeat (first | refine blk_drewN ?_ _ | refine blk_drew ?_ | refine blk_alloc ?_ _)); refine blk_far ?_ NB122_129.out _; (with_reducible repeat (first | refine blk_drewN ?_ _ | refine blk_drew ?_ | refine blk_alloc ?_ _)); exact BK122.out) hb); have n1_ := Aside0.mk (blk_below (g := gb129) (o := .cells #[.int .i64 ((rd_T25 l0_4 x65_1).f0), .string ((rd_T25 l0_4 x65_1).f1), .string ((rd_T25 l0_4 x65_1).f2), .slice A128_3 ((rd_T25 l0_4 x65_1).f3).length c128_3, .slice A128_4 ((rd_T25 l0_4 x65_1).f4).length c128_4] 25 (0, 0)) (by (with_reducible repeat (first | refine blk_drewN ?_ _ | refine blk_drew ?_ | refine blk_alloc ?_ _)); refine blk_put (cs := #[.int .i64 ((rd_T25 l0_4 x65_1).f0), .string ((rd_T25 l0_4 x65_1).f1), .string ((rd_T25 l0_4 x65_1).f2), .slice A128_3 ((rd_T25 l0_4 x65_1).f3).length c128_3, .slice none 0 0]) ?_ 4 _ rfl; (with_reducible repeat (first | refine blk_drewN ?_ _ | refine blk_drew ?_ | refine blk_alloc ?_ _)); refine blk_put (cs := #[.int .i64 ((rd_T25 l0_4 x65_1).f0), .string ((rd_T25 l0_4 x65_1).f1), .string ((rd_T25 l0_4 x65_1).f2), .slice none 0 0, .slice none 0 0]) ?_ 3 _ rfl; (with_reducible repeat (first | refine blk_drewN ?_ _ | refine blk_drew ?_ | refine blk_alloc ?_ _)); refine blk_put (cs := #[.int .i64 ((rd_T25 l0_4 x65_1).f0), .string ((rd_T25 l0_4 x65_1).f1), .string (⟨#[]⟩ : ByteArray), .slice none 0 0, .slice none 0 0]) ?_ 2 _ rfl; (with_reducible repeat (first | refine blk_drewN ?_ _ | refine blk_drew ?_ | refine blk_alloc ?_ _)); refine blk_put (cs := #[.int .i64 ((rd_T25 l0_4 x65_1).f0), .string (⟨#[]⟩ : ByteArray), .string (⟨#[]⟩ : ByteArray), .slice none 0 0, .slice none 0 0]) ?_ 1 _ rfl; (with_reducible repeat (first | refine blk_drewN ?_ _ | refine blk_drew ?_ | refine blk_alloc ?_ _)); refine blk_put (cs := #[.int .i64 0, .string (⟨#[]⟩ : ByteArray), .string (⟨#[]⟩ : ByteArray), .slice none 0 0, .slice none 0 0]) ?_ 0 _ rfl; (with_reducible repeat (first | refine blk_drewN ?_ _ | refine blk_drew ?_ | refine blk_alloc ?_ _)); exact BK129.out) hb); have n2_ := Aside0.mk (below_step (by repeat (first | (with_reducible first | exact HB.out | apply below_alloc | apply pw_below_drewN | apply below_drew1 | refine below_set ?_ GE122.out | refine below_set ?_ GE129.out) | exact HB.out)) hb); clear BK122; clear BK129; clear HB; have BK122 := n0_; have BK129 := n1_; have HB := n2_; clear n0_ n1_ n2_; (try clear hb); (try clear hb2); (try clear hk); (try clear hi)))
             go_roundg k1
             case measure => have := HK1.out; omega
             case rel => exact ⟨(wrap64 (x65_1 + 1)), (by first | rfl | (simp; done) | (simp [*]; done)), H', ⟨by have := HK1.out; omega⟩, ⟨by (with_reducible repeat (first | refine blk_drewN ?_ _ | refine blk_drew ?_ | refine blk_alloc ?_ _)); exact BK122.out⟩, ⟨by repeat (first | (with_reducible first | exact HB.out | apply below_alloc | apply pw_below_drewN | apply below_drew1 | refine below_set ?_ GE122.out | refine below_set ?_ GE129.out) | exact HB.out)⟩⟩
           ·rw [if_neg c48] at H
            exact absurd H (by simp)
          ·rw [if_neg c47] at H
           exact absurd H (by simp)
         ·rw [if_neg c46] at H
          have c46b0 : decide (x65_1 < (l0_4.length : Int)) = false := decide_eq_false c46
          clear c46
          obtain rfl := Option.some.inj H
          go_wp2
          go_ret
          exact ⟨by first | rfl | (simp [errW_none, errW_some] <;> rfl) | (simp [*, errW_none, errW_some] <;> rfl), by repeat (first | (with_reducible first | exact HB.out | apply below_alloc | apply pw_below_drewN | apply below_drew1 | refine below_set ?_ GE122.out) | exact HB.out)⟩

-- NOT PRINTED: function 55 (match_Eval)

-- NOT PRINTED: function 37 (tomb_Covers)
end Go.Proofs.Yteafilojjdfllaa.PAll
end
section
namespace Go.Proofs.Yteafilojjdfllaa
open Go Go.RowKit Go.Proofs.YteafilojjdfllaaW.PrintWords Go.Proofs.Yteafilojjdfllaa.PAll
/-- a name's value -/
def valueL (n : ByteArray) : List S68 → ByteArray
 | [] => ⟨#[]⟩
 | x :: l => if x.f0.toList = n.toList then x.f1 else valueL n l
def prefB (t v : ByteArray) : Bool := decide (v.size ≤ t.size) && ((t.extract 0 v.size).toList == v.toList)
mutual
def evalM (l : List S68) : S25 → Bool
 | ⟨op, n, v, vs, ks⟩ =>
  if op = 0 then true else if op = 1 then (valueL n l).toList == v.toList else if op = 2 then (valueL n l).toList != v.toList
  else if op = 3 then prefB (valueL n l) v else if op = 4 then vs.any (fun u => decide (u.toList = (valueL n l).toList))
  else if op = 7 then !(evalF l ks) else evalL l (op == 6) ks
/-- the first kid -/
def evalF (l : List S68) : List S25 → Bool
 | [] => false
 | k :: _ => evalM l k
def evalL (l : List S68) (dec : Bool) : List S25 → Bool
 | [] => !dec
 | k :: ks => if evalM l k == dec then dec else evalL l dec ks
end
theorem ldrop (l : List S68) (i : Nat) (h : i < l.length) : l.drop i = l.getD i z68 :: l.drop (i + 1) := by
 rw [List.drop_eq_getElem_cons h, List.getD_eq_getElem?_getD, List.getElem?_eq_getElem h, Option.getD_some]
theorem rdT68_nat (l : List S68) (i : Nat) : rd_T68 l (i : Int) = l.getD i z68 := by simp [rd_T68]
theorem rdT25_nat (l : List S25) (i : Nat) : rd_T25 l (i : Int) = l.getD i z25 := by simp [rd_T25]
theorem kdrop (l : List S25) (i : Nat) (h : i < l.length) : l.drop i = l.getD i z25 :: l.drop (i + 1) := by
 rw [List.drop_eq_getElem_cons h, List.getD_eq_getElem?_getD, List.getElem?_eq_getElem h, Option.getD_some]
theorem value_l0 (l : List S68) (n : ByteArray) (hl : l.length ≤ 4000000000000000000) : ∀ (d i k : Nat), i ≤ l.length → l.length ≤ i + d → d < k → label_Value.l0 k n l (l.length : Int) (i : Int) = some (valueL n (l.drop i))
 | d, i, 0, _, _, h => by omega
 | d, i, k + 1, hi, hd, hk => by
  simp only [label_Value.l0, w64s i (by omega), rdT68_nat]
  by_cases hlt : i < l.length
  ·have ih := value_l0 l n hl (d - 1) (i + 1) k (by omega) (by omega) (by omega)
   rw [if_pos (by omega), if_pos (by omega), if_pos (by omega), ldrop l i hlt, valueL, ih]
   split <;> rfl
  ·rw [if_neg (by omega), List.drop_of_length_le (by omega), valueL]
theorem label_Value.val (l : List S68) (n : ByteArray) (hl : l.length ≤ 4000000000000000000) (k : Nat) (hk : l.length < k) : label_Value.f k l n = some (valueL n l) := by
 have := value_l0 l n hl l.length 0 k (by omega) (by omega) hk
 simpa [label_Value.f] using this
theorem any_l0 (x : ByteArray) (vs : List ByteArray) (hl : vs.length ≤ 1000) : ∀ (d i k : Nat), i ≤ vs.length → vs.length ≤ i + d → d < k → match_eval.l0 k x vs (vs.length : Int) (i : Int) = some ((vs.drop i).any (fun u => decide (u.toList = x.toList)))
 | d, i, 0, _, _, h => by omega
 | d, i, k + 1, hi, hd, hk => by
  simp only [match_eval.l0, w64s i (by omega), rdOf_nat]
  by_cases hlt : i < vs.length
  ·have ih := any_l0 x vs hl (d - 1) (i + 1) k (by omega) (by omega) (by omega)
   rw [if_pos (by omega), if_pos (by omega), if_pos (by omega), vdrop vs i hlt, List.any_cons, ih]
   by_cases e : (vs.getD i ByteArray.empty).toList = x.toList
   ·rw [if_pos e, decide_eq_true e, Bool.true_or]
   ·rw [if_neg e, decide_eq_false e, Bool.false_or]
  ·rw [if_neg (by omega), List.drop_of_length_le (by omega)]; rfl
theorem ok_vals {m : S25} (h : aloneB m = true) (h4 : m.f0 = 4) : m.f3.length ≤ 16 := by
 unfold aloneB at h
 rw [if_neg (by omega), if_neg (by omega), if_pos h4] at h
 simp only [Bool.and_eq_true] at h
 have := h.2
 unfold valuesB at this
 rw [Bool.and_eq_true, Bool.and_eq_true] at this
 exact (of_decide_eq_true this.1.1).2
theorem ok_kids {m : S25} (h : aloneB m = true) (h7 : m.f0 = 7) : m.f4.length = 1 := by
 unfold aloneB at h
 rw [if_neg (by omega), if_neg (by omega), if_neg (by omega), if_neg (by omega), if_pos h7] at h
 rw [Bool.and_eq_true] at h
 exact of_decide_eq_true h.2
theorem prefix_val (t v : ByteArray) : strings_HasPrefix.f t v = some (prefB t v) := by
 unfold strings_HasPrefix.f stringslite_HasPrefix.f prefB
 by_cases h : v.size ≤ t.size
 ·rw [if_pos (by omega), if_pos (by omega), if_pos (by omega), decide_eq_true h]
  simp
 ·rw [if_neg (by omega), decide_eq_false h]
  simp
theorem eval_kids (l : List S68) (dec : Bool) (ks : List S25) (hks : ks.length ≤ 1000) (F : Nat) (h : ∀ j, j < ks.length → ∀ k, F + 2 * nodesM (ks.getD j z25) ≤ k → match_eval.f k (ks.getD j z25).f0 (ks.getD j z25).f1 (ks.getD j z25).f2 (ks.getD j z25).f3 (ks.getD j z25).f4 l = some (evalM l (ks.getD j z25))) :
  ∀ (d i k : Nat), i ≤ ks.length → ks.length ≤ i + d → F + 2 * nodesL (ks.drop i) + 1 ≤ k → match_eval.l1 k l dec ks (ks.length : Int) (i : Int) = some (evalL l dec (ks.drop i))
 | d, i, 0, _, _, hk => by omega
 | d, i, k + 1, hi, hd, hk => by
  simp only [match_eval.l1, w64s i (by omega), rdT25_nat]
  by_cases hlt : i < ks.length
  ·rw [kdrop ks i hlt, nodesL] at hk
   have hp : 1 ≤ nodesM (ks.getD i z25) := by rw [nodesM_mk]; omega
   have ih := eval_kids l dec ks hks F h (d - 1) (i + 1) k (by omega) (by omega) (by omega)
   rw [if_pos (by omega), if_pos (by omega), if_pos (by omega), h i hlt k (by omega), Option.bind_some, kdrop ks i hlt, evalL, ih]
   cases evalM l (ks.getD i z25) <;> cases dec <;> rfl
  ·rw [if_neg (by omega), List.drop_of_length_le (by omega), evalL]
theorem okL_at : ∀ {ks : List S25} {j : Nat}, okL ks = true → j < ks.length → okM (ks.getD j z25) = true
 | k :: ks, 0, h, _ => by simp only [okL, Bool.and_eq_true] at h; exact h.1
 | k :: ks, j + 1, h, hj => by
  simp only [okL, Bool.and_eq_true] at h
  have := okL_at (j := j) h.2 (by simpa using hj)
  simpa using this
theorem lenL_nodes : ∀ (ks : List S25), ks.length ≤ nodesL ks
 | [] => by simp
 | k :: ks => by have := lenL_nodes ks; have h2 := nodesM_mk k; simp only [List.length_cons, nodesL]; omega
theorem eval_val (l : List S68) (hl : l.length ≤ 4000000000000000000) : ∀ (N : Nat) (m : S25), nodesM m ≤ N → nodesM m ≤ 1000 → okM m = true → ∀ k, l.length + 30 + 2 * nodesM m ≤ k → match_eval.f k m.f0 m.f1 m.f2 m.f3 m.f4 l = some (evalM l m) := by
 intro N
 induction N with
 | zero => intro m h; rw [nodesM_mk] at h; omega
 | succ N ih =>
  rintro ⟨op, n, v, vs, ks⟩ hN h1000 hok k hk
  obtain ⟨k, rfl⟩ : ∃ q, k = q + 1 := ⟨k - 1, by omega⟩
  rw [okM_mk, Bool.and_eq_true] at hok
  obtain ⟨ha, hks⟩ := hok
  have hn := nodesM_mk ⟨op, n, v, vs, ks⟩
  have hlk := lenL_nodes ks
  simp only at hn hks hlk ⊢
  have hkid : ∀ j, j < ks.length → ∀ k, l.length + 30 + 2 * nodesM (ks.getD j z25) ≤ k → match_eval.f k (ks.getD j z25).f0 (ks.getD j z25).f1 (ks.getD j z25).f2 (ks.getD j z25).f3 (ks.getD j z25).f4 l = some (evalM l (ks.getD j z25)) := fun j hj k hk => by
   have hmem : ks.getD j z25 ∈ ks := by simp [List.getD_eq_getElem?_getD, hj]
   have := nodes_lt ⟨op, n, v, vs, ks⟩ _ hmem
   exact ih _ (by omega) (by omega) (okL_at hks hj) k hk
  simp only [match_eval.f, label_Value.val l n hl k (by omega), Option.bind_some]
  unfold evalM
  by_cases e0 : op = 0
  ·rw [if_pos e0, if_pos e0]
  rw [if_neg e0, if_neg e0]
  by_cases e1 : op = 1
  ·rw [if_pos e1, if_pos e1]
  rw [if_neg e1, if_neg e1]
  by_cases e2 : op = 2
  ·rw [if_pos e2, if_pos e2]
  rw [if_neg e2, if_neg e2]
  by_cases e3 : op = 3
  ·rw [if_pos e3, if_pos e3, prefix_val, Option.bind_some]
  rw [if_neg e3, if_neg e3]
  by_cases e4 : op = 4
  ·rw [if_pos e4, if_pos e4]
   have h16 := ok_vals ha e4
   simp only at h16
   have := any_l0 (valueL n l) vs (by omega) vs.length 0 k (by omega) (by omega) (by omega)
   simpa using this
  rw [if_neg e4, if_neg e4]
  by_cases e7 : op = 7
  ·rw [if_pos e7, if_pos e7]
   have h1 := ok_kids ha e7
   simp only at h1
   have hk0 := hkid 0 (by omega)
   obtain ⟨kid, rfl⟩ : ∃ kid, ks = [kid] := by
    match ks, h1 with
    | [kid], _ => exact ⟨kid, rfl⟩
   simp only [List.length_singleton]
   have hr : rd_T25 [kid] 0 = kid := by simp [rd_T25]
   simp only [List.getD_cons_zero] at hk0
   rw [if_pos (by omega), hr, hk0 k (by simp only [nodesL] at hn; omega), Option.bind_some]
   rfl
  rw [if_neg e7, if_neg e7]
  have := eval_kids l (op == 6) ks (by omega) (l.length + 30) hkid ks.length 0 k (by omega) (by omega) (by rw [List.drop_zero]; omega)
  simpa using this
theorem eval108 (w : World) (m : S25) (A3 : Option Addr) (c3 : Nat) (A4 : Option Addr) (c4 : Nat) (A1 : Option Addr) (c1 : Nat) (l : List S68) (v : Bool) (hv : evalM l m = v) (h1000 : nodesM m ≤ 1000) (hok : okM m = true) (hl : l.length ≤ 4000000000000000000)
  (h3 : m.f3.length ≤ c3) (g3 : Kd.C Kd.string w A3 m.f3.length m.f3) (h4 : m.f4.length ≤ c4) (g4 : Kd.C k25 w A4 m.f4.length m.f4) (h1 : l.length ≤ c1) (g1 : Kd.C k68 w A1 l.length l) :
  Calls Try.prog 108 #[.agg #[.int .i64 m.f0, .string m.f1, .string m.f2, .slice A3 m.f3.length c3, .slice A4 m.f4.length c4], .slice A1 l.length c1] w fun e w' => e = .returned (.bool v) ∧ Below w.heap.size w w' :=
 match_eval.calls (l.length + 30 + 2 * nodesM m) m.f0 m.f1 m.f2 A3 c3 m.f3 A4 c4 m.f4 A1 c1 l v w g3 h3 g4 h4 g1 h1 (hv ▸ eval_val l hl _ m (Nat.le_refl _) h1000 hok _ (Nat.le_refl _))
end Go.Proofs.Yteafilojjdfllaa
end
section
namespace Go.Proofs.Yteafilojjdfllaa
open Go Go.RowKit Go.Proofs.YteafilojjdfllaaW.PrintWords Go.Proofs.YteafilojjdfllaaW.PrintLast Go.Proofs.YteafilojjdfllaaW.PrintMore Go.Proofs.Yteafilojjdfllaa.PAll
theorem check36v (w : World) (m : S25) (A3 : Option Addr) (c3 : Nat) (A4 : Option Addr) (c4 : Nat) (v : Bool) (hv : chkB m = v) (hb : boundM m) (hM : MC w m A3 c3 A4 c4) :
  Calls Try.prog 36 #[.agg #[.int .i64 m.f0, .string m.f1, .string m.f2, .slice A3 m.f3.length c3, .slice A4 m.f4.length c4]] w fun e w' => e = .returned (.bool v) ∧ Below w.heap.size w w' := hv ▸ check36 w m A3 c3 A4 c4 hb hM
theorem check53v (w : World) (m : S25) (A3 : Option Addr) (c3 : Nat) (A4 : Option Addr) (c4 : Nat) (v : Bool) (hv : chkB m = v) (hM : MC w m A3 c3 A4 c4) :
  Calls Try.prog 53 #[.agg #[.int .i64 m.f0, .string m.f1, .string m.f2, .slice A3 m.f3.length c3, .slice A4 m.f4.length c4]] w fun e w' => e = .returned (.bool v) ∧ Below w.heap.size w w' := hv ▸ check53 w m A3 c3 A4 c4 hM
/-- does a matcher that may be take these labels? -/
def evalB (l : List S68) (m : S25) : Bool := chkB m && evalM l m
set_option maxRecDepth 100000 in
set_option maxHeartbeats 4000000 in
/-- match.Eval. -/
theorem Eval55 (w : World) (m : S25) (A3 : Option Addr) (c3 : Nat) (A4 : Option Addr) (c4 : Nat) (A1 : Option Addr) (c1 : Nat) (l : List S68) (v : Bool) (hv : evalB l m = v) (h1000 : nodesM m ≤ 1000) (hM : MC w m A3 c3 A4 c4) (hl : l.length ≤ 4000000000000000000) (h1 : l.length ≤ c1) (g1 : Kd.C k68 w A1 l.length l) :
  Calls Try.prog 55 #[.agg #[.int .i64 m.f0, .string m.f1, .string m.f2, .slice A3 m.f3.length c3, .slice A4 m.f4.length c4], .slice A1 l.length c1] w fun e w' => e = .returned (.bool v) ∧ Below w.heap.size w w' := by
 have hB0 : Below w.heap.size w (w.alloc (.cells #[.int .i64 m.f0, .string m.f1, .string m.f2, .slice A3 m.f3.length c3, .slice A4 m.f4.length c4] 25)) := below_alloc (Below.refl _ _) _
 have hX0 : BoxM (w.alloc (.cells #[.int .i64 m.f0, .string m.f1, .string m.f2, .slice A3 m.f3.length c3, .slice A4 m.f4.length c4] 25)) w.heap.size m.f0 m.f1 m.f2 (.slice A3 m.f3.length c3) (.slice A4 m.f4.length c4) := blk_new w _
 unfold evalB at hv
 have G1 := Lib.hid g1
 cases h3 : chkB m with
 | false =>
  rw [h3, Bool.false_and] at hv
  subst hv
  have H3 := Lib.hid h3
  clear h3 g1
  go_enter Try.func55, Try.ntmps55
  go_wp2_with fail
  (with_reducible refine (check53v _ m A3 c3 A4 c4 false H3.out (hM.below hB0)).mono ?_)
  rintro e w1 ⟨rfl, hb1⟩
  go_wp2_with fail
  go_ret
  exact ⟨rfl, below_step hB0 hb1⟩
 | true =>
  rw [h3, Bool.true_and] at hv
  have Hok := Lib.hid (chk_def.1 h3).1
  obtain ⟨m1, m2, m3, m4⟩ := hM.below hB0
  have H3 := Lib.hid h3
  have Hv := Lib.hid hv
  clear h3 g1 hv
  go_enter Try.func55, Try.ntmps55
  go_wp2_with fail
  (with_reducible refine (check53v _ m A3 c3 A4 c4 true H3.out (hM.below hB0)).mono ?_)
  rintro e w1 ⟨rfl, hb1⟩
  have hX1 := hX0.below hb1
  have x0 := hX1.c0
  have x1 := hX1.c1
  have x2 := hX1.c2
  have x3 := hX1.c3
  have x4 := hX1.c4
  have hB1 := below_step hB0 hb1
  go_wp2_with fail
  (with_reducible refine (eval108 _ m A3 c3 A4 c4 A1 c1 l v Hv.out h1000 Hok.out hl m1 (Kd.C_below m2 hb1) m3 (Kd.C_below m4 hb1) h1 (Kd.C_below G1.out hB1)).mono ?_)
  rintro e w2 ⟨rfl, hb2⟩
  go_wp2_with fail
  go_ret
  exact ⟨rfl, below_step hB1 hb2⟩
end Go.Proofs.Yteafilojjdfllaa
end
section
namespace Go.Proofs.Yteafilojjdfllaa
open Go Go.RowKit Go.Proofs.YteafilojjdfllaaW.PrintWords Go.Proofs.YteafilojjdfllaaW.PrintLast Go.Proofs.YteafilojjdfllaaW.PrintMore Go.Proofs.Yteafilojjdfllaa.PAll
set_option linter.unusedVariables false
set_option linter.unusedSimpArgs false
theorem assert198 (w : World) : (Instr.typeAssert (.iface 198 (.agg #[])) 20 198 true).run Try.prog w = .ok (.tuple #[.agg #[], .bool true]) w := by kernel_rfl
theorem tmps171 (p q x y : Value) : (#[p, q] ++ ((Array.replicate 15 undef).setIfInBounds 3 x).setIfInBounds 0 y) = #[p, q, y, undef, undef, x, undef, undef, undef, undef, undef, undef, undef, undef, undef, undef, undef] := rfl
abbrev Z5 : Array Value := #[.int .i64 0, .string ⟨#[]⟩, .string ⟨#[]⟩, .slice none 0 0, .slice none 0 0]
set_option maxRecDepth 100000 in
set_option maxHeartbeats 16000000 in
/-- it caught: no matcher, not well. -/
theorem catch171 (w0 : World) (g1 g2 : Nat) (a0 a1 a2 a3 a4 : Value) (b : Value) (older : List PanicEntry) (w : World) (hB : Below w0.heap.size w0 w) (hg1 : w0.heap.size ≤ g1) (hg2 : w0.heap.size ≤ g2) (h1 : w.heap[g1]? = some (.cells #[a0, a1, a2, a3, a4] 25 (0, 0))) (h2 : w.heap[g2]? = some (.cells #[b] 4 (0, 0))) (hne : g1 ≠ g2) :
  CallsD Try.prog 171 #[.pointer (some ⟨g1, 0, none⟩), .pointer (some ⟨g2, 0, none⟩)] (.panicking ({ v := .iface 198 (.agg #[]), recovered := false } :: older)) w fun e u' w' =>
   e = .returned (.tuple #[]) ∧ u' = .panicking ({ v := .iface 198 (.agg #[]), recovered := true } :: older) ∧ Below w0.heap.size w0 w' ∧ w'.heap[g1]? = some (.cells Z5 25 (0, 0)) ∧ w'.heap[g2]? = some (.cells #[.bool false] 4 (0, 0)) ∧ (w.heap.size ≤ w'.heap.size ∧ ∀ i, i < w.heap.size → i ≠ g1 → i ≠ g2 → w'.heap[i]? = w.heap[i]?) := by
 have hta := assert198 w
 have hl1 := (Array.getElem?_eq_some_iff.1 h1).1
 have hl2 := (Array.getElem?_eq_some_iff.1 h2).1
 have k1 : (w.alloc (.cells #[] 198)).heap[g1]? = some (.cells #[a0, a1, a2, a3, a4] 25 (0, 0)) := (Below.heap_alloc _ _ _ (by omega)).trans h1
 have k2 : (w.alloc (.cells #[] 198)).heap[g2]? = some (.cells #[b] 4 (0, 0)) := (Below.heap_alloc _ _ _ (by omega)).trans h2
 have HB := Lib.hid (below_alloc hB (.cells #[] 198))
 have K1 := Lib.hid k1
 have K2 := Lib.hid k2
 have y0 := blk_cell k1 0
 have y1 := blk_cell k1 1
 have y2 := blk_cell k1 2
 have y3 := blk_cell k1 3
 have y4 := blk_cell k1 4
 have z0 := blk_frozen k1 0
 have z1 := blk_frozen k1 1
 have z2 := blk_frozen k1 2
 have z3 := blk_frozen k1 3
 have z4 := blk_frozen k1 4
 have x0 := blk_cell k2 0
 have v0 := blk_frozen k2 0
 simp only [List.getElem?_toArray, List.getElem?_cons_zero, List.getElem?_cons_succ] at y0 y1 y2 y3 y4 x0
 have hne2 := hne.symm
 clear h1 h2 k1 k2 hl1 hl2 hB
 refine callsD_of_wpS Try.func171 rfl fun c₀ cs hu => ?_
 apply wpS_seq
 apply wpS_region
 simp [wpOpsS, go_sem, recoverD, hu, Try.ntmps171, Exit.thenS]
 rw [tmps171]
 refine wpS_of_wp ?_
 go_wp2
 refine ⟨rfl, _, rfl, .tuple #[], results_none rfl _ _ _, rfl, rfl, ?_, ?_, ?_, ?_, ?_⟩
 ·exact (((((HB.out.setCell hg1 _).setCell hg1 _).setCell hg1 _).setCell hg1 _).setCell hg1 _).setCell hg2 _
 ·exact (Below.heap_setCell _ _ _ _ hne).trans ((blk_set (blk_set (blk_set (blk_set (blk_set K1.out 0 _) 1 _) 2 _) 3 _) 4 _).trans (by rfl))
 ·refine (blk_set (cs := #[b]) ?_ 0 _).trans (by rfl)
  exact (Below.heap_setCell _ _ _ _ hne2).trans ((Below.heap_setCell _ _ _ _ hne2).trans ((Below.heap_setCell _ _ _ _ hne2).trans ((Below.heap_setCell _ _ _ _ hne2).trans ((Below.heap_setCell _ _ _ _ hne2).trans K2.out))))
 ·simp
 ·intro i hi h1 h2
  exact (Below.heap_setCell _ _ _ _ h2).trans ((Below.heap_setCell _ _ _ _ h1).trans ((Below.heap_setCell _ _ _ _ h1).trans ((Below.heap_setCell _ _ _ _ h1).trans ((Below.heap_setCell _ _ _ _ h1).trans ((Below.heap_setCell _ _ _ _ h1).trans (Below.heap_alloc _ _ _ hi))))))
set_option maxRecDepth 100000 in
set_option maxHeartbeats 16000000 in
/-- nothing was thrown. -/
theorem idle171 (p q : Value) (w : World) :
  CallsD Try.prog 171 #[p, q] .returning w fun e u' w' => e = .returned (.tuple #[]) ∧ u' = .returning ∧ w' = w := by
 refine callsD_of_wpS Try.func171 rfl fun c₀ cs hu => ?_
 apply wpS_seq
 apply wpS_region
 simp [wpOpsS, go_sem, recoverD, hu, Try.ntmps171, Exit.thenS]
 rw [tmps171]
 refine wpS_of_wp ?_
 go_wp2
 refine ⟨rfl, .returning, ?_, .tuple #[], results_none rfl _ _ _, rfl, rfl, rfl⟩
 cases c₀
 simp_all
/-- a matcher's value -/
abbrev mV (m : S25) (A3 : Option Addr) (c3 : Nat) (A4 : Option Addr) (c4 : Nat) : Value := .agg #[.int .i64 m.f0, .string m.f1, .string m.f2, .slice A3 m.f3.length c3, .slice A4 m.f4.length c4]
/-- how a reader's closure ends: it threw, or it hands back a matcher in memory of its own, and the reader's block is so -/
def RedPost (w0 w : World) (g : Nat) (Q : Option (S25 × Obj)) (e : Ending) (w' : World) : Prop :=
 Below w0.heap.size w0 w' ∧ KeepBut w w' g none ∧ ((Q = none ∧ e = .panicked badP) ∨ ∃ m o A3 c3 A4 c4, Q = some (m, o) ∧ e = .returned (mV m A3 c3 A4 c4) ∧ MF w' (fun b => w.heap.size ≤ b ∧ b < w'.heap.size) m A3 c3 A4 c4 ∧ w'.heap[g]? = some o)
/-- how reads ends -/
def ReadsPost (w0 w : World) (g : Nat) (Q : Option (S25 × Obj)) (e : Ending) (w' : World) : Prop :=
 Below w0.heap.size w0 w' ∧ KeepBut w w' g none ∧ ((Q = none ∧ e = .returned (.tuple #[.agg Z5, .bool false])) ∨ ∃ m o A3 c3 A4 c4, Q = some (m, o) ∧ e = .returned (.tuple #[mV m A3 c3 A4 c4, .bool true]) ∧ MF w' (fun b => w.heap.size ≤ b ∧ b < w'.heap.size) m A3 c3 A4 c4 ∧ w'.heap[g]? = some o)
theorem keep_two {w V W X : World} {g g1 g2 : Nat} (hV : Below w.heap.size w V) (h1 : w.heap.size ≤ g1) (h2 : w.heap.size ≤ g2) (hK : KeepBut V W g none) (hs : W.heap.size ≤ X.heap.size) (hX : ∀ i, i < W.heap.size → i ≠ g1 → i ≠ g2 → X.heap[i]? = W.heap[i]?) : KeepBut w X g none := by
 have a := hV.size
 have b := hK.1
 exact ⟨by omega, fun i hi hg hr => (hX i (by omega) (by omega) (by omega)).trans ((hK.2 i (by omega) hg hr).trans (hV.block i hi))⟩
end Go.Proofs.Yteafilojjdfllaa
end
section
namespace Go.Proofs.Yteafilojjdfllaa
open Go Go.Proofs.Yteafilojjdfllaa.PAll
/-- a digit's byte -/
def hexD (n : Nat) : UInt8 := if n < 10 then (48 + n).toUInt8 else (87 + n).toUInt8
/-- a byte between quotes -/
def encB (c : UInt8) : List UInt8 :=
 if c = 34 ∨ c = 92 then [92, c] else if c.toNat < 32 ∨ 127 ≤ c.toNat then [92, 120, hexD (c.toNat / 16), hexD (c.toNat % 16)] else [c]
/-- a value between quotes -/
def quoteL (l : List UInt8) : List UInt8 := 34 :: (l.flatMap encB ++ [34])
/-- with commas between -/
def commas : List (List UInt8) → List UInt8
 | [] => []
 | [x] => x
 | x :: y :: r => x ++ 44 :: commas (y :: r)
theorem commas_join (l : List (List UInt8)) : Lib.join l [44] = commas l := by
 match l with
 | [] => rfl
 | [x] => rw [Lib.join_one]; rfl
 | x :: y :: r =>
  have h := commas_join (y :: r)
  rw [Lib.join_cons] at h ⊢
  rw [commas, ← h]
  simp [Lib.joinTail]
/-- a text's own bytes -/
def quoteT (v : ByteArray) : List UInt8 := quoteL v.data.toList
theorem nameB_all {n : ByteArray} (h : nameB n = true) : n.data.toList.all nameC = true := by
 unfold nameB at h
 rw [Bool.and_eq_true] at h
 exact h.2
theorem nameB_cons {n : ByteArray} (h : nameB n = true) : ∃ c r, n.data.toList = c :: r ∧ nameC c = true := by
 have h2 := nameB_all h
 unfold nameB at h
 rw [Bool.and_eq_true, decide_eq_true_iff] at h
 have h1 : 1 ≤ n.data.toList.length := h.1.1
 match hl : n.data.toList, h1 with
 | c :: r, _ =>
  rw [hl, List.all_cons, Bool.and_eq_true] at h2
  exact ⟨c, r, rfl, h2.1⟩
theorem ba_nil {b : ByteArray} (h : b.toList = []) : b = ⟨#[]⟩ := by
 rw [ByteArray.toList_eq] at h
 cases b
 simp only at h
 rw [Array.toList_eq_nil_iff.1 h]
theorem len_nil {α : Type} {l : List α} (h : l.length = 0) : l = [] := List.length_eq_zero_iff.1 h
theorem encB_len (c : UInt8) : (encB c).length ≤ 4 := by
 unfold encB
 split
 ·simp
 ·split <;> simp
theorem encs_len : ∀ (l : List UInt8), (l.flatMap encB).length ≤ 4 * l.length
 | [] => by simp
 | c :: l => by have := encB_len c; have := encs_len l; simp only [List.flatMap_cons, List.length_append, List.length_cons]; omega
theorem quoteT_len (v : ByteArray) : (quoteT v).length ≤ 4 * v.size + 2 := by
 have h := encs_len v.data.toList
 have e : v.data.toList.length = v.size := by simp
 unfold quoteT quoteL
 simp only [List.length_cons, List.length_append, List.length_nil]
 omega
theorem commas_len : ∀ (l : List (List UInt8)), (commas l).length ≤ (l.map (fun x => x.length + 1)).sum
 | [] => by simp [commas]
 | [x] => by simp [commas]
 | x :: y :: r => by
  have := commas_len (y :: r)
  simp only [commas, List.length_append, List.length_cons, List.map_cons, List.sum_cons] at this ⊢
  omega
/-- what a matcher that may be looks like -/
theorem shape {m : S25} (h : okM m = true) :
  m = ⟨0, ⟨#[]⟩, ⟨#[]⟩, [], []⟩ ∨ (∃ op n v, (op = 1 ∨ op = 2 ∨ op = 3) ∧ nameB n = true ∧ m = ⟨op, n, v, [], []⟩) ∨ (∃ n vs, nameB n = true ∧ m = ⟨4, n, ⟨#[]⟩, vs, []⟩) ∨
   (∃ op ks, (op = 5 ∨ op = 6 ∨ op = 7) ∧ okL ks = true ∧ m = ⟨op, ⟨#[]⟩, ⟨#[]⟩, [], ks⟩) := by
 obtain ⟨op, n, v, vs, ks⟩ := m
 rw [okM_mk, Bool.and_eq_true] at h
 obtain ⟨h, hk⟩ := h
 simp only at hk
 unfold aloneB plainB at h
 by_cases e0 : op = 0
 ·rw [if_pos e0] at h
  simp only [Bool.and_eq_true, decide_eq_true_iff] at h
  obtain ⟨⟨h1, h2, h3⟩, h4⟩ := h
  left
  rw [e0, ba_nil h1, ba_nil h2, len_nil h3, len_nil h4]
 rw [if_neg e0] at h
 right
 by_cases e1 : op = 1 ∨ op = 2 ∨ op = 3
 ·rw [if_pos e1] at h
  simp only [Bool.and_eq_true, decide_eq_true_iff] at h
  obtain ⟨h1, _, h2, h3⟩ := h
  exact Or.inl ⟨op, n, v, e1, h1, by rw [len_nil h3, len_nil h2]⟩
 rw [if_neg e1] at h
 right
 by_cases e4 : op = 4
 ·rw [if_pos e4] at h
  simp only [Bool.and_eq_true, decide_eq_true_iff] at h
  obtain ⟨⟨h1, h2, h3⟩, h4⟩ := h
  exact Or.inl ⟨n, vs, h1, by rw [e4, ba_nil h3, len_nil h2]⟩
 rw [if_neg e4] at h
 right
 by_cases e5 : op = 5 ∨ op = 6
 ·rw [if_pos e5] at h
  simp only [decide_eq_true_iff] at h
  obtain ⟨h1, h2, h3⟩ := h
  exact ⟨op, ks, by omega, hk, by rw [ba_nil h1, ba_nil h2, len_nil h3]⟩
 rw [if_neg e5] at h
 by_cases e7 : op = 7
 ·rw [if_pos e7] at h
  simp only [Bool.and_eq_true, decide_eq_true_iff] at h
  obtain ⟨⟨h1, h2, h3⟩, h4⟩ := h
  exact ⟨op, ks, by omega, hk, by rw [ba_nil h1, ba_nil h2, len_nil h3]⟩
 rw [if_neg e7] at h
 cases h
theorem okL_mem : ∀ {ks : List S25} {k : S25}, okL ks = true → k ∈ ks → okM k = true
 | x :: ks, k, h, hk => by
  simp only [okL, Bool.and_eq_true] at h
  rcases List.mem_cons.1 hk with rfl | hk
  ·exact h.1
  ·exact okL_mem h.2 hk
end Go.Proofs.Yteafilojjdfllaa
end
section
namespace Go.Proofs.Yteafilojjdfllaa
open Go Go.Proofs.Yteafilojjdfllaa.PAll
end Go.Proofs.Yteafilojjdfllaa
end
section
namespace Go.Proofs.Yteafilojjdfllaa
open Go Go.Proofs.Yteafilojjdfllaa.PAll
end Go.Proofs.Yteafilojjdfllaa
end
section
namespace Go.Proofs.Yteafilojjdfllaa
open Go Go.RowKit Go.Proofs.YteafilojjdfllaaW.PrintWords Go.Proofs.YteafilojjdfllaaW.PrintLast Go.Proofs.YteafilojjdfllaaW.PrintMore Go.Proofs.Yteafilojjdfllaa.PAll
set_option linter.unusedVariables false
set_option linter.unusedSimpArgs false
end Go.Proofs.Yteafilojjdfllaa
end
section
namespace Go.Proofs.Yteafilojjdfllaa
open Go Go.RowKit Go.Proofs.YteafilojjdfllaaW.PrintWords Go.Proofs.YteafilojjdfllaaW.PrintLast Go.Proofs.YteafilojjdfllaaW.PrintMore Go.Proofs.Yteafilojjdfllaa.PAll
set_option linter.unusedVariables false
set_option linter.unusedSimpArgs false
end Go.Proofs.Yteafilojjdfllaa
end
section
namespace Go.Proofs.Yteafilojjdfllaa
open Go Go.RowKit Go.Proofs.YteafilojjdfllaaW.PrintWords Go.Proofs.YteafilojjdfllaaW.PrintLast Go.Proofs.YteafilojjdfllaaW.PrintMore Go.Proofs.Yteafilojjdfllaa.PAll
set_option linter.unusedVariables false
set_option linter.unusedSimpArgs false
theorem RDPost.none_ {w0 w w' : World} {g : Nat} {A : Option Addr} {n c : Nat} {k : Int} {e : Ending} (h : RDPost w0 w g A n c k none e w') : e = .panicked badP ∧ Below w0.heap.size w0 w' ∧ KeepBut w w' g none := by
 obtain ⟨h1, h2, ⟨-, h3⟩ | ⟨v, r, h3, -⟩⟩ := h
 ·exact ⟨h3, h1, h2⟩
 ·cases h3
theorem RDPost.some_ {w0 w w' : World} {g : Nat} {A : Option Addr} {n c : Nat} {k : Int} {e : Ending} {v : Value} {r : List UInt8} {j : Int} (h : RDPost w0 w g A n c k (some (v, r)) e w') (hj : (n : Int) - (r.length : Nat) = j) : e = .returned v ∧ Below w0.heap.size w0 w' ∧ KeepBut w w' g none ∧ RD w' g A n c j k := by
 obtain ⟨h1, h2, ⟨h3, -⟩ | ⟨v', r', h3, h4, h5⟩⟩ := h
 ·cases h3
 ·simp only [Option.some.injEq, Prod.mk.injEq] at h3
  obtain ⟨rfl, rfl⟩ := h3
  rw [hj] at h5
  exact ⟨h4, h1, h2, h5⟩
/-- the result is laid into its block: what is said of the end -/
theorem red_tail {w0 w W : World} {g K : Nat} {o : Obj} {m : S25} {A3 A4 : Option Addr} {c3 c4 : Nat} (hK : K = w.heap.size) (hb : W.heap[K]? = some (.cells Z5 25 (0, 0))) (hg : w0.heap.size ≤ g) (hgl : g < w.heap.size) (hw0 : w0.heap.size ≤ w.heap.size) (hB : Below w0.heap.size w0 W) (hKB : KeepBut w W g none) (hO : W.heap[g]? = some o) (hM : MF W (fun b => K < b ∧ b < W.heap.size) m A3 c3 A4 c4) :
  (((((W.setCell ⟨K, 0, none⟩ (.int .i64 m.f0)).setCell ⟨K, 1, none⟩ (.string m.f1)).setCell ⟨K, 2, none⟩ (.string m.f2)).setCell ⟨K, 3, none⟩ (.slice A3 m.f3.length c3)).setCell ⟨K, 4, none⟩ (.slice A4 m.f4.length c4)).heap[K]? = some (.cells #[.int .i64 m.f0, .string m.f1, .string m.f2, .slice A3 m.f3.length c3, .slice A4 m.f4.length c4] 25 (0, 0)) ∧
  RedPost w0 w g (some (m, o)) (.returned (mV m A3 c3 A4 c4)) (((((W.setCell ⟨K, 0, none⟩ (.int .i64 m.f0)).setCell ⟨K, 1, none⟩ (.string m.f1)).setCell ⟨K, 2, none⟩ (.string m.f2)).setCell ⟨K, 3, none⟩ (.slice A3 m.f3.length c3)).setCell ⟨K, 4, none⟩ (.slice A4 m.f4.length c4)) := by
 have far : ∀ i, i ≠ K → (((((W.setCell ⟨K, 0, none⟩ (.int .i64 m.f0)).setCell ⟨K, 1, none⟩ (.string m.f1)).setCell ⟨K, 2, none⟩ (.string m.f2)).setCell ⟨K, 3, none⟩ (.slice A3 m.f3.length c3)).setCell ⟨K, 4, none⟩ (.slice A4 m.f4.length c4)).heap[i]? = W.heap[i]? := fun i hne =>
  (Below.heap_setCell _ _ _ _ hne).trans ((Below.heap_setCell _ _ _ _ hne).trans ((Below.heap_setCell _ _ _ _ hne).trans ((Below.heap_setCell _ _ _ _ hne).trans (Below.heap_setCell _ _ _ _ hne))))
 have hwK : w0.heap.size ≤ K := by omega
 have hs : ∀ x0 x1 x2 x3 x4, (((((W.setCell ⟨K, 0, none⟩ x0).setCell ⟨K, 1, none⟩ x1).setCell ⟨K, 2, none⟩ x2).setCell ⟨K, 3, none⟩ x3).setCell ⟨K, 4, none⟩ x4).heap.size = W.heap.size := fun _ _ _ _ _ => by simp
 refine ⟨(blk_set (blk_set (blk_set (blk_set (blk_set hb 0 _) 1 _) 2 _) 3 _) 4 _).trans (by rfl), ?_, ?_, Or.inr ⟨m, o, A3, c3, A4, c4, rfl, rfl, ?_, ?_⟩⟩
 ·exact ((((hB.setCell hwK _).setCell hwK _).setCell hwK _).setCell hwK _).setCell hwK _
 ·refine ⟨by rw [hs]; exact hKB.1, fun i hi h1 h2 => ?_⟩
  exact (far i (by omega)).trans (hKB.2 i hi h1 h2)
 ·refine hM.move (fun b hb => ⟨⟨by omega, by rw [hs]; exact hb.2⟩, far b (by omega)⟩)
 ·exact (far g (by omega)).trans hO
end Go.Proofs.Yteafilojjdfllaa
end
section
namespace Go.Proofs.Yteafilojjdfllaa
open Go Go.RowKit Go.Proofs.YteafilojjdfllaaW.PrintWords Go.Proofs.YteafilojjdfllaaW.PrintLast
set_option linter.unusedVariables false
def msk (n : Nat) (o : List Nat) (k : Nat) : List Bool := (List.range n).map fun i => (o.take k).contains i
section
variable {P : Program} {ops : Array Oper} {Q : Exit → Act → World → Prop} {S : World → Prop} {ds : List Nat} {T : Bool × List (List Nat × List Nat)} {n k : Nat} {o : List Nat} {N : Option Tmp} {oi : Oper} {v : Value} {fuel : Nat} {a : Act} {w : World}
theorem takeO (hT : rtab .any ops = T) (hi : ops[o.getD k n]? = some oi) (hN : oi.dst = N) (hc : takeT T ds (msk n o k) (msk n o (k + 1)) (o.getD k n) = true)
  (hQ : ∀ c a w, Q (.panic c) (a.put oi.dst v) w → Q (.panic c) a w) (hy : YieldsIf P ops S oi v a) (hS : S w) {a' : Act} (ha : a.put N v = a')
  (h : wpAnyLast P .any ops Q S ds fuel (msk n o (k + 1)).toArray a' w) : wpAnyLast P .any ops Q S ds (fuel + 1) (msk n o k).toArray a w :=
 take_ (msk n o (k + 1)).toArray hi hN (take_of hT hc) hQ hy hS ha h
theorem pureO (hT : rtab .any ops = T) (hi : ops[o.getD k n]? = some oi) (hN : oi.dst = N) (hc : anyT T (msk n o k) (msk n o (k + 1)) (o.getD k n) = true)
  (hQ : ∀ c a w, Q (.panic c) (a.put oi.dst v) w → Q (.panic c) a w) (hy : Yields P ops oi v a) {a' : Act} (ha : a.put N v = a')
  (h : wpAnyLast P .any ops Q S ds fuel (msk n o (k + 1)).toArray a' w) : wpAnyLast P .any ops Q S ds (fuel + 1) (msk n o k).toArray a w :=
 pure_ (msk n o (k + 1)).toArray hi hN (any_of hT hc) hQ hy ha h
theorem oneO {i : Nat} (hT : rtab .any ops = T) (hi : ops[i]? = some oi) (hN : oi.dst = N) (hc : (readyT T.2 (msk n o k) == [i] && (msk n o k).set i true == msk n o (k + 1)) = true) (hd : i ∉ ds)
  (h : ∀ K : Act → World → Prop, Shut (∀ a' w', S w' → (S w' → wpAnyLast P .any ops Q S ds fuel (msk n o (k + 1)).toArray a' w') → K a' w') → if Region.wanted oi (yielded ops a.tmps) = true then Oper.wp P oi a w K Q else K (a.put N undef) w) :
  wpAnyLast P .any ops Q S ds (fuel + 1) (msk n o k).toArray a w :=
 one_ (msk n o (k + 1)).toArray hi hN (one_of hT hc) hd h
theorem lastO {i : Nat} (hT : rtab .any ops = T) (hi : ops[i]? = some oi) (hN : oi.dst = N) (hc : (readyT T.2 (msk n o k) == [i] && (msk n o k).set i true == msk n o (k + 1)) = true) (hd : i ∈ ds)
  (h : ∀ K : Act → World → Prop, Shut (∀ a' w', wpAnyLast P .any ops Q S ds fuel (msk n o (k + 1)).toArray a' w' → K a' w') → if Region.wanted oi (yielded ops a.tmps) = true then Oper.wp P oi a w K Q else K (a.put N undef) w) :
  wpAnyLast P .any ops Q S ds (fuel + 1) (msk n o k).toArray a w :=
 last_ (msk n o (k + 1)).toArray hi hN (one_of hT hc) hd h
end
end Go.Proofs.Yteafilojjdfllaa
end
section
namespace Go.Proofs.Yteafilojjdfllaa
open Go Go.RowKit Go.Proofs.YteafilojjdfllaaW.PrintWords Go.Proofs.YteafilojjdfllaaW.PrintLast Go.Proofs.YteafilojjdfllaaW.PrintMore Go.Proofs.Yteafilojjdfllaa.PAll
set_option linter.unusedVariables false
set_option linter.unusedSimpArgs false
section
variable {P : Program} {ops : Array Oper} {Q : Exit → Act → World → Prop}
/-- a call that may throw -/
theorem goesP_ {oi : Oper} {N : Option Tmp} {a : Act} {w : World} {K : Act → World → Prop} {f : FuncId} {fn : Func} {as' : Array Operand} {ts : Array TypeId} (hf : P.funcs[f]? = some fn) (hname : (fn.name == "runtime.NumGoroutine") = false) (hb : fn.body.isSome = true) (args : Array Value)
  (hw : Region.wanted oi (yielded ops a.tmps) = true) (hN : oi.dst = N) (hop : oi.op = .call { callee := .value (.func f), args := as', argTypes := ts }) (hargs : as'.map a.eval = args)
  (h : Calls P f args w fun e w' => (∃ v, e = .returned v ∧ K (a.put N v) w') ∨ ∃ ch, e = .panicked ch ∧ Q (.panic ch) a w') : if Region.wanted oi (yielded ops a.tmps) = true then Oper.wp P oi a w K Q else K (a.put N undef) w := by
 have he := enters_ hf hname hb args w
 have hrun : (execOp a.eval oi).run P w = .ok (.enter f args) w := by
  unfold execOp
  simp [hop, resolve, Deferred.ofValue, invoke, Act.eval, hargs, he]
 rw [if_pos hw]
 subst hN
 unfold Oper.wp
 rw [hrun, Oper.upon_enter]
 refine h.mono fun e w'' hh => ?_
 rcases hh with ⟨v, rfl, hk⟩ | ⟨ch, rfl, hk⟩
 ·exact hk
 ·exact hk
end
end Go.Proofs.Yteafilojjdfllaa
end
section
namespace Go.Proofs.Yteafilojjdfllaa
open Go Go.RowKit Go.Proofs.YteafilojjdfllaaW.PrintWords Go.Proofs.YteafilojjdfllaaW.PrintLast Go.Proofs.YteafilojjdfllaaW.PrintMore Go.Proofs.Yteafilojjdfllaa.PAll
set_option linter.unusedVariables false
set_option linter.unusedSimpArgs false
theorem RedPost.none_ {w0 w w' : World} {g : Nat} {e : Ending} (h : RedPost w0 w g none e w') : e = .panicked badP ∧ Below w0.heap.size w0 w' ∧ KeepBut w w' g none := by
 obtain ⟨h1, h2, ⟨-, h3⟩ | ⟨m, o, A3, c3, A4, c4, h3, -⟩⟩ := h
 ·exact ⟨h3, h1, h2⟩
 ·cases h3
theorem RedPost.some_ {w0 w w' : World} {g : Nat} {e : Ending} {m : S25} {o : Obj} (h : RedPost w0 w g (some (m, o)) e w') : ∃ A3 c3 A4 c4, e = .returned (mV m A3 c3 A4 c4) ∧ Below w0.heap.size w0 w' ∧ KeepBut w w' g none ∧ MF w' (fun b => w.heap.size ≤ b ∧ b < w'.heap.size) m A3 c3 A4 c4 ∧ w'.heap[g]? = some o := by
 obtain ⟨h1, h2, ⟨h3, -⟩ | ⟨m', o', A3, c3, A4, c4, h3, h4, h5, h6⟩⟩ := h
 ·cases h3
 ·simp only [Option.some.injEq, Prod.mk.injEq] at h3
  obtain ⟨rfl, rfl⟩ := h3
  exact ⟨A3, c3, A4, c4, h4, h1, h2, h5, h6⟩
end Go.Proofs.Yteafilojjdfllaa
end
section
namespace Go.Proofs.Yteafilojjdfllaa
open Go Go.RowKit Go.Proofs.YteafilojjdfllaaW.PrintWords Go.Proofs.YteafilojjdfllaaW.PrintLast Go.Proofs.YteafilojjdfllaaW.PrintMore Go.Proofs.Yteafilojjdfllaa.PAll
set_option linter.unusedVariables false
set_option linter.unusedSimpArgs false
end Go.Proofs.Yteafilojjdfllaa
end
section
namespace Go.Proofs.Yteafilojjdfllaa
open Go Go.RowKit Go.Proofs.YteafilojjdfllaaW.PrintWords Go.Proofs.YteafilojjdfllaaW.PrintLast Go.Proofs.YteafilojjdfllaaW.PrintMore Go.Proofs.Yteafilojjdfllaa.PAll
set_option linter.unusedVariables false
set_option linter.unusedSimpArgs false
end Go.Proofs.Yteafilojjdfllaa
end
section
namespace Go.Proofs.Yteafilojjdfllaa
open Go Go.RowKit Go.Proofs.YteafilojjdfllaaW.PrintWords Go.Proofs.YteafilojjdfllaaW.PrintLast Go.Proofs.YteafilojjdfllaaW.PrintMore Go.Proofs.Yteafilojjdfllaa.PAll
set_option linter.unusedVariables false
set_option linter.unusedSimpArgs false
def NB (W : World) (gn : Nat) (k : Int) : Prop := W.heap[gn]? = some (.cells #[.int .i64 k] 3 (0, 0))
theorem keep_wk {w w' : World} {g gn : Nat} (h : KeepBut w w' g none) : KeepBut w w' g (some gn) := ⟨h.1, fun i hi h1 _ => h.2 i hi h1 (by simp)⟩
theorem keep_two2 {w w1 w2 : World} {g gn : Nat} (h : KeepBut w w1 g (some gn)) (k : KeepBut w1 w2 g (some gn)) : KeepBut w w2 g (some gn) := h.trans k (Or.inl rfl)
theorem got_tail {w0 w W : World} {g gn K : Nat} (a0 a1 a2 a3 a4 : Value) (hK : K = w.heap.size) (hb : W.heap[K]? = some (.cells Z5 25 (0, 0))) (hw0 : w0.heap.size ≤ w.heap.size) (hB : Below w0.heap.size w0 W) (hKB : KeepBut w W g (some gn)) :
  (((((W.setCell ⟨K, 0, none⟩ a0).setCell ⟨K, 1, none⟩ a1).setCell ⟨K, 2, none⟩ a2).setCell ⟨K, 3, none⟩ a3).setCell ⟨K, 4, none⟩ a4).heap[K]? = some (.cells #[a0, a1, a2, a3, a4] 25 (0, 0)) ∧
  Below w0.heap.size w0 (((((W.setCell ⟨K, 0, none⟩ a0).setCell ⟨K, 1, none⟩ a1).setCell ⟨K, 2, none⟩ a2).setCell ⟨K, 3, none⟩ a3).setCell ⟨K, 4, none⟩ a4) ∧
  KeepBut w (((((W.setCell ⟨K, 0, none⟩ a0).setCell ⟨K, 1, none⟩ a1).setCell ⟨K, 2, none⟩ a2).setCell ⟨K, 3, none⟩ a3).setCell ⟨K, 4, none⟩ a4) g (some gn) ∧
  (∀ i, i ≠ K → (((((W.setCell ⟨K, 0, none⟩ a0).setCell ⟨K, 1, none⟩ a1).setCell ⟨K, 2, none⟩ a2).setCell ⟨K, 3, none⟩ a3).setCell ⟨K, 4, none⟩ a4).heap[i]? = W.heap[i]?) ∧
  (((((W.setCell ⟨K, 0, none⟩ a0).setCell ⟨K, 1, none⟩ a1).setCell ⟨K, 2, none⟩ a2).setCell ⟨K, 3, none⟩ a3).setCell ⟨K, 4, none⟩ a4).heap.size = W.heap.size := by
 have far : ∀ i, i ≠ K → (((((W.setCell ⟨K, 0, none⟩ a0).setCell ⟨K, 1, none⟩ a1).setCell ⟨K, 2, none⟩ a2).setCell ⟨K, 3, none⟩ a3).setCell ⟨K, 4, none⟩ a4).heap[i]? = W.heap[i]? := fun i hne =>
  (Below.heap_setCell _ _ _ _ hne).trans ((Below.heap_setCell _ _ _ _ hne).trans ((Below.heap_setCell _ _ _ _ hne).trans ((Below.heap_setCell _ _ _ _ hne).trans (Below.heap_setCell _ _ _ _ hne))))
 have hwK : w0.heap.size ≤ K := by omega
 have hs : (((((W.setCell ⟨K, 0, none⟩ a0).setCell ⟨K, 1, none⟩ a1).setCell ⟨K, 2, none⟩ a2).setCell ⟨K, 3, none⟩ a3).setCell ⟨K, 4, none⟩ a4).heap.size = W.heap.size := by simp
 refine ⟨(blk_set (blk_set (blk_set (blk_set (blk_set hb 0 _) 1 _) 2 _) 3 _) 4 _).trans (by rfl), ((((hB.setCell hwK _).setCell hwK _).setCell hwK _).setCell hwK _).setCell hwK _, ⟨by rw [hs]; exact hKB.1, fun i hi h1 h2 => (far i (by omega)).trans (hKB.2 i hi h1 h2)⟩, far, hs⟩
end Go.Proofs.Yteafilojjdfllaa
end
section
namespace Go.Proofs.Yteafilojjdfllaa
section
open Go Go.Proofs.Yteafilojjdfllaa.PAll
end
section
open Go Go.Proofs.Yteafilojjdfllaa.PAll
end
end Go.Proofs.Yteafilojjdfllaa
end
section
namespace Go.Proofs.Yteafilojjdfllaa
open Go Go.Proofs.Yteafilojjdfllaa.PAll
inductive Step where
 | stop
 | done
 | byte (c : UInt8) (n : Nat)
def digL : List UInt8 := [48, 49, 50, 51, 52, 53, 54, 55, 56, 57, 97, 98, 99, 100, 101, 102]
def hexV (c : UInt8) : Int := Lib.indexByte digL c
def hexB (h l : UInt8) : UInt8 := ((hexV h).toNat * 16 + (hexV l).toNat).toUInt8
/-- the program's -/
def stepP : List UInt8 → Step
 | [] => .stop
 | x :: r =>
  if x = 34 then .done
  else if x = 92 then
   (if 3 ≤ r.length ∧ r.getD 0 0 = 120 then (if hexV (r.getD 1 0) < 0 ∨ hexV (r.getD 2 0) < 0 then .stop else .byte (hexB (r.getD 1 0) (r.getD 2 0)) 3)
   else if r.length < 1 then .stop else .byte (r.getD 0 0) 1)
  else .byte x 0
/-- the document's -/
def stepR : List UInt8 → Step
 | [] => .stop
 | x :: r =>
  if x = 34 then .done
  else if x = 92 then
   (if r.length < 1 then .stop
   else if r.getD 0 0 ≠ 120 then .byte (r.getD 0 0) 1
   else if r.length < 3 then .stop
   else if hexV (r.getD 1 0) < 0 ∨ hexV (r.getD 2 0) < 0 then .stop else .byte (hexB (r.getD 1 0) (r.getD 2 0)) 3)
  else .byte x 0
theorem stepP_cons (x : UInt8) (r : List UInt8) : stepP (x :: r) = if x = 34 then .done
  else if x = 92 then
   (if 3 ≤ r.length ∧ r.getD 0 0 = 120 then (if hexV (r.getD 1 0) < 0 ∨ hexV (r.getD 2 0) < 0 then .stop else .byte (hexB (r.getD 1 0) (r.getD 2 0)) 3)
   else if r.length < 1 then .stop else .byte (r.getD 0 0) 1)
  else .byte x 0 := rfl
theorem stepR_cons (x : UInt8) (r : List UInt8) : stepR (x :: r) = if x = 34 then .done
  else if x = 92 then
   (if r.length < 1 then .stop
   else if r.getD 0 0 ≠ 120 then .byte (r.getD 0 0) 1
   else if r.length < 3 then .stop
   else if hexV (r.getD 1 0) < 0 ∨ hexV (r.getD 2 0) < 0 then .stop else .byte (hexB (r.getD 1 0) (r.getD 2 0)) 3)
  else .byte x 0 := rfl
def unqW (step : List UInt8 → Step) : List UInt8 → Option (List UInt8 × List UInt8)
 | [] => none
 | x :: r => match step (x :: r) with
  | .stop => none
  | .done => some ([], r)
  | .byte c n => (unqW step (r.drop n)).map (fun q => (c :: q.1, q.2))
termination_by l => l.length
decreasing_by simp only [List.length_drop, List.length_cons]; omega
theorem hexV_hexD : ∀ n : Fin 16, hexV (hexD n.val) = (n.val : Int) := by decide +kernel
theorem hexB_hexD (c : UInt8) : hexB (hexD (c.toNat / 16)) (hexD (c.toNat % 16)) = c := by
 have h := c.toNat_lt
 have h1 := hexV_hexD ⟨c.toNat / 16, by omega⟩
 have h2 := hexV_hexD ⟨c.toNat % 16, by omega⟩
 simp only at h1 h2
 unfold hexB
 rw [h1, h2, Int.toNat_natCast, Int.toNat_natCast, show c.toNat / 16 * 16 + c.toNat % 16 = c.toNat by omega]
 simp
def Right (step : List UInt8 → Step) : Prop := (∀ t, step (34 :: t) = .done) ∧ ∀ c u, ∃ x r, encB c ++ u = x :: r ∧ ∃ n, step (x :: r) = .byte c n ∧ r.drop n = u
theorem right_P : Right stepP := by
 refine ⟨fun t => by rw [stepP_cons, if_pos rfl], fun c u => ?_⟩
 unfold encB
 by_cases h1 : c = 34 ∨ c = 92
 ·rw [if_pos h1]
  refine ⟨92, c :: u, rfl, 1, ?_, rfl⟩
  rw [stepP_cons, if_neg (by decide), if_pos rfl, if_neg (by rintro ⟨-, h⟩; simp only [List.getD_cons_zero] at h; rcases h1 with e | e <;> rw [e] at h <;> exact absurd h (by decide)), if_neg (by simp)]
  rfl
 ·rw [if_neg h1]
  by_cases h2 : c.toNat < 32 ∨ 127 ≤ c.toNat
  ·rw [if_pos h2]
   refine ⟨92, 120 :: hexD (c.toNat / 16) :: hexD (c.toNat % 16) :: u, rfl, 3, ?_, rfl⟩
   have h := c.toNat_lt
   have e1 := hexV_hexD ⟨c.toNat / 16, by omega⟩
   have e2 := hexV_hexD ⟨c.toNat % 16, by omega⟩
   simp only at e1 e2
   rw [stepP_cons, if_neg (by decide), if_pos rfl, if_pos ⟨by simp, rfl⟩]
   show (if hexV (hexD (c.toNat / 16)) < 0 ∨ hexV (hexD (c.toNat % 16)) < 0 then Step.stop else .byte (hexB (hexD (c.toNat / 16)) (hexD (c.toNat % 16))) 3) = _
   rw [e1, e2, if_neg (by omega), hexB_hexD]
  ·rw [if_neg h2]
   refine ⟨c, u, rfl, 0, ?_, rfl⟩
   rw [stepP_cons, if_neg (fun e => h1 (Or.inl e)), if_neg (fun e => h1 (Or.inr e))]
theorem right_R : Right stepR := by
 refine ⟨fun t => by rw [stepR_cons, if_pos rfl], fun c u => ?_⟩
 unfold encB
 by_cases h1 : c = 34 ∨ c = 92
 ·rw [if_pos h1]
  refine ⟨92, c :: u, rfl, 1, ?_, rfl⟩
  rw [stepR_cons, if_neg (by decide), if_pos rfl, if_neg (by simp), if_pos (by simp only [List.getD_cons_zero]; rcases h1 with e | e <;> rw [e] <;> decide)]
  rfl
 ·rw [if_neg h1]
  by_cases h2 : c.toNat < 32 ∨ 127 ≤ c.toNat
  ·rw [if_pos h2]
   refine ⟨92, 120 :: hexD (c.toNat / 16) :: hexD (c.toNat % 16) :: u, rfl, 3, ?_, rfl⟩
   have h := c.toNat_lt
   have e1 := hexV_hexD ⟨c.toNat / 16, by omega⟩
   have e2 := hexV_hexD ⟨c.toNat % 16, by omega⟩
   simp only at e1 e2
   rw [stepR_cons, if_neg (by decide), if_pos rfl, if_neg (by simp), if_neg (by simp), if_neg (by simp)]
   show (if hexV (hexD (c.toNat / 16)) < 0 ∨ hexV (hexD (c.toNat % 16)) < 0 then Step.stop else .byte (hexB (hexD (c.toNat / 16)) (hexD (c.toNat % 16))) 3) = _
   rw [e1, e2, if_neg (by omega), hexB_hexD]
  ·rw [if_neg h2]
   refine ⟨c, u, rfl, 0, ?_, rfl⟩
   rw [stepR_cons, if_neg (fun e => h1 (Or.inl e)), if_neg (fun e => h1 (Or.inr e))]
theorem unq_quote {step : List UInt8 → Step} (hr : Right step) (t : List UInt8) : ∀ (v : List UInt8), unqW step (v.flatMap encB ++ 34 :: t) = some (v, t)
 | [] => by rw [List.flatMap_nil, List.nil_append, unqW, hr.1]
 | c :: v => by
  obtain ⟨x, r, e, n, h1, h2⟩ := hr.2 c (v.flatMap encB ++ 34 :: t)
  rw [List.flatMap_cons, List.append_assoc, e, unqW, h1]
  simp only [h2]
  rw [unq_quote hr t v]
  rfl
/-- what stands behind '=' -/
def valW (step : List UInt8 → Step) : List UInt8 → Option (List UInt8 × List UInt8)
 | 34 :: r => unqW step r
 | _ => none
theorem val_quote {step : List UInt8 → Step} (hr : Right step) (v : ByteArray) (t : List UInt8) : valW step (quoteT v ++ t) = some (v.data.toList, t) := by
 unfold quoteT quoteL
 rw [List.cons_append, List.append_assoc]
 exact unq_quote hr t v.data.toList
theorem nameB_size {n : ByteArray} (h : nameB n = true) : n.data.toList.length ≤ 32 := by
 unfold nameB at h
 rw [Bool.and_eq_true, decide_eq_true_iff] at h
 have : n.data.toList.length = n.size := by simp
 omega
end Go.Proofs.Yteafilojjdfllaa
end
section
namespace Go.Proofs.Yteafilojjdfllaa.PAll
open Go.RowKit Go.Proofs.YteafilojjdfllaaW.PrintWords Go.Proofs.YteafilojjdfllaaW.PrintLast Go.Proofs.YteafilojjdfllaaW.PrintMore
attribute [local go_sem] max2_int min2_int max_two min_two max_three min_three max_four min_four   -- for this text's walks alone
set_option linter.unusedVariables false
set_option linter.unusedSimpArgs false
mutual
def label_Quoted.l0 : Nat → ByteArray → List Int → Int → Int → Option (ByteArray)
 | 0, _, _, _, _ => none
 | k + 1, x0, x3, x8, x9 => if x9 < x8 then (if 0 ≤ x9 then (if x9 < (x0.size : Int) then (if (bt x0 x9) = 34 then (label_Quoted.j1 k x0 x3 (bt x0 x9) x8 x9 true) else (label_Quoted.j1 k x0 x3 (bt x0 x9) x8 x9 ((bt x0 x9) == 92))) else (none)) else (none)) else (if x3.length < 140737488355328 then (some (strOfNums (x3 ++ [34]))) else (none))
def label_Quoted.j1 : Nat → ByteArray → List Int → Int → Int → Int → Bool → Option (ByteArray)
 | 0, _, _, _, _, _, _ => none
 | k + 1, x0, x3, x5, x8, x9, x19 => if x19 = true then ((some (([92, x5] : List Int) : List Int)).bind fun y285 => (if x3.length + y285.length < 140737488355328 then (label_Quoted.l0 k x0 (x3 ++ y285) x8 (wrap64 (x9 + 1))) else (none))) else (if x5 < 32 then (if 0 ≤ (x5 / 16) then (if (x5 / 16) < 16 then (if 0 ≤ (Go.bits .and .u8 x5 15) then (if (Go.bits .and .u8 x5 15) < 16 then ((some (([92, 120, bt (⟨#[48, 49, 50, 51, 52, 53, 54, 55, 56, 57, 97, 98, 99, 100, 101, 102]⟩ : ByteArray) (x5 / 16), bt (⟨#[48, 49, 50, 51, 52, 53, 54, 55, 56, 57, 97, 98, 99, 100, 101, 102]⟩ : ByteArray) (Go.bits .and .u8 x5 15)] : List Int) : List Int)).bind fun y291 => (if x3.length + y291.length < 140737488355328 then (label_Quoted.l0 k x0 (x3 ++ y291) x8 (wrap64 (x9 + 1))) else (none))) else (none)) else (none)) else (none)) else (none)) else (if x5 ≥ 127 then (if 0 ≤ (x5 / 16) then (if (x5 / 16) < 16 then (if 0 ≤ (Go.bits .and .u8 x5 15) then (if (Go.bits .and .u8 x5 15) < 16 then ((some (([92, 120, bt (⟨#[48, 49, 50, 51, 52, 53, 54, 55, 56, 57, 97, 98, 99, 100, 101, 102]⟩ : ByteArray) (x5 / 16), bt (⟨#[48, 49, 50, 51, 52, 53, 54, 55, 56, 57, 97, 98, 99, 100, 101, 102]⟩ : ByteArray) (Go.bits .and .u8 x5 15)] : List Int) : List Int)).bind fun y297 => (if x3.length + y297.length < 140737488355328 then (label_Quoted.l0 k x0 (x3 ++ y297) x8 (wrap64 (x9 + 1))) else (none))) else (none)) else (none)) else (none)) else (none)) else (if x3.length < 140737488355328 then (label_Quoted.l0 k x0 (x3 ++ [x5]) x8 (wrap64 (x9 + 1))) else (none))))
end
def label_Quoted.f (k : Nat) (a0 : ByteArray) : Option (ByteArray) := label_Quoted.l0 k a0 (([34] : List Int)) (a0.size : Int) 0
theorem label_Quoted.mono_l : ∀ k, (∀ y0 y1 y2 y3, LeO (label_Quoted.l0 k y0 y1 y2 y3) (label_Quoted.l0 (k + 1) y0 y1 y2 y3)) ∧ (∀ y0 y1 y2 y3 y4 y5, LeO (label_Quoted.j1 k y0 y1 y2 y3 y4 y5) (label_Quoted.j1 (k + 1) y0 y1 y2 y3 y4 y5))
 | 0 => ⟨fun _ _ _ _ r h => by simp [label_Quoted.l0] at h, fun _ _ _ _ _ _ r h => by simp [label_Quoted.j1] at h⟩
 | k + 1 => by
  obtain ⟨ih0, ih1⟩ := label_Quoted.mono_l k
  refine ⟨?_, ?_⟩
  ·intro y0 y1 y2 y3
   unfold label_Quoted.l0
   repeat' first
   | (with_reducible exact ih0 _ _ _ _)
   | (with_reducible exact ih1 _ _ _ _ _ _)
   | (with_reducible exact LeO.refl _)
   | (with_reducible exact LeO.none _)
   | (with_reducible refine LeO.ite ?_ ?_)
   | (with_reducible refine LeO.bind ?_ (fun _ => ?_))
   | exact ih0 _ _ _ _
   | exact ih1 _ _ _ _ _ _
   | exact LeO.none _
   | refine LeO.ite ?_ ?_
   | refine LeO.bind ?_ (fun _ => ?_)
  ·intro y0 y1 y2 y3 y4 y5
   unfold label_Quoted.j1
   repeat' first
   | (with_reducible exact ih0 _ _ _ _)
   | (with_reducible exact ih1 _ _ _ _ _ _)
   | (with_reducible exact LeO.refl _)
   | (with_reducible exact LeO.none _)
   | (with_reducible refine LeO.ite ?_ ?_)
   | (with_reducible refine LeO.bind ?_ (fun _ => ?_))
   | exact ih0 _ _ _ _
   | exact ih1 _ _ _ _ _ _
   | exact LeO.none _
   | refine LeO.ite ?_ ?_
   | refine LeO.bind ?_ (fun _ => ?_)
theorem label_Quoted.mono : ∀ a0 k, LeO (label_Quoted.f k a0) (label_Quoted.f (k + 1) a0) := by
 intro a0 k
 obtain ⟨ih0, ih1⟩ := label_Quoted.mono_l k
 unfold label_Quoted.f
 repeat' first
   | (with_reducible exact ih0 _ _ _ _)
   | (with_reducible exact ih1 _ _ _ _ _ _)
   | (with_reducible exact LeO.refl _)
   | (with_reducible exact LeO.none _)
   | (with_reducible refine LeO.ite ?_ ?_)
   | (with_reducible refine LeO.bind ?_ (fun _ => ?_))
   | exact ih0 _ _ _ _
   | exact ih1 _ _ _ _ _ _
   | exact LeO.none _
   | refine LeO.ite ?_ ?_
   | refine LeO.bind ?_ (fun _ => ?_)
def label_Quoted.T10 : Bool × List (List Nat × List Nat) := (true, [([], []), ([], []), ([1], [1]), ([2], [2]), ([], []), ([4], [4]), ([5], [5]), ([3, 6], [3, 6]), ([0, 7], [0, 7]), ([8, 8, 0, 1, 2, 3, 4, 5, 6, 7, 8], [0, 8])])
def label_Quoted.B10 : List Nat := [0, 0, 2, 6, 0, 16, 48, 126, 255, 511]
theorem label_Quoted.tab10 : rtab .any (opsOf Try.f125 10) = label_Quoted.T10 := by kernel_rfl
theorem label_Quoted.bits10 : waitsOk label_Quoted.T10.2 label_Quoted.B10 = true := by kernel_rfl
set_option maxHeartbeats 8000000 in
set_option maxRecDepth 100000 in
theorem label_Quoted.calls (k : Nat) (a0 : ByteArray) (r : ByteArray) (w : World) (h : label_Quoted.f k a0 = some r) :
  Calls Try.prog 125 #[.string a0] w fun e w' => e = .returned (.string r) ∧ Below w.heap.size w w' := by
 have HB := Aside0.mk (Below.refl w.heap.size w)
 have H : (label_Quoted.l0 k a0 (([34] : List Int)) (a0.size : Int) 0) = some r := h
 clear h
 obtain ⟨y279, hy279⟩ : ∃ y_ : List Int, y_ = (([34] : List Int)) := ⟨_, rfl⟩
 replace H : (label_Quoted.l0 k a0 y279 (a0.size : Int) 0) = some r := by first | (rw [hy279]; with_reducible exact H) | (have H2_ := (Option.bind_some _ _).symm.trans H; rw [hy279]; with_reducible exact H2_) | (have H2_ := (Option.bind_some _ _).symm.trans H; with_reducible exact H2_) | with_reducible exact H | (rw [hy279]; exact H) | exact H
 have Ny279 := Aside0.mk hy279
 clear hy279
 have H' := Aside0.mk H
 clear H
 go_enter Try.func125, Try.ntmps125
 go_wp2_with (first | ((with_reducible refine gate_dst (N := 6) rfl ?_); refine Kd.R_lit (Kd.int .u8) _ 5 ?hg (N := 6) ?hd (xs := ([34] : List Int)) (inner := [.int .u8 34]) (ok := fun _ => True) (okp := fun _ => True) ?hr ?hp (fun _ hk => hk) trivial (Below.refl _ _) (Nat.le_refl _) (by simp) ?_; (case hd => rfl); (case hg => rfl); (case hr => first | (go_simp; done) | (go_simp; rfl)); (case hp => exact (Reps.one (show Kd.M (Kd.int .u8) _ _ _ 34 [.int .u8 34] from rfl) (Reps.none _ _))); intro v280 w2 ho3 hb hg_ hnew_; clear hg_ hnew_; (first | rw [← Ny279.out] at ho3 | (simp only [Int.reduceToNat] at ho3; rw [← Ny279.out] at ho3)); have n0_ := Aside0.mk (Kd.R_lower ho3 (below_size (by repeat (first | (with_reducible first | exact HB.out | apply below_alloc | apply pw_below_drewN | apply below_drew1) | exact HB.out)))); have n1_ := Aside0.mk (below_step (by repeat (first | (with_reducible first | exact HB.out | apply below_alloc | apply pw_below_drewN | apply below_drew1) | exact HB.out)) hb); clear HB; have HO281 := n0_; have HB := n1_; clear n0_ n1_; clear hb ho3))
 go_loopg [3, 9] k (fun kq v3 v9 w' => ∃ (x3_1 : List Int) (x9_1 : Int), v9 = .int .i64 x9_1 ∧ Aside0 (label_Quoted.l0 kq a0 x3_1 (a0.size : Int) x9_1 = some r) ∧ Aside0 (kq ≤ k) ∧ Aside0 (Kd.R (Kd.int .u8) 5 w' w.heap.size (fun _ => True) v3 x3_1) ∧ Aside0 (Below w.heap.size w w'))
 case atStart => exact ⟨(y279), (0), (by first | rfl | (simp; done) | (simp [*]; done)), H', ⟨Nat.le_refl _⟩, ⟨by (with_reducible repeat (first | apply Kd.R_alloc | apply Kd.R_drewN | apply Kd.R_drew)); exact HO281.out⟩, ⟨by repeat (first | (with_reducible first | exact HB.out | apply below_alloc | apply pw_below_drewN | apply below_drew1) | exact HB.out)⟩⟩
 case round =>
  clear H'
  try clear c1
  try clear p2
  obtain ⟨x3_1, x9_1, rfl, HA, HK1, HO_3, HB⟩ := hrel
  cases gk with
  | zero => exact absurd HA.out (by simp [label_Quoted.l0])
  | succ k1 =>
   have H := HA.out
   clear HA
   simp only [label_Quoted.l0] at H
   by_cases c4 : x9_1 < (a0.size : Int)
   ·rw [if_pos c4] at H
    have c4b0 : decide (x9_1 < (a0.size : Int)) = true := decide_eq_true c4
    clear c4
    by_cases c5 : 0 ≤ x9_1
    ·rw [if_pos c5] at H
     have c5b0 : decide (0 ≤ x9_1) = true := decide_eq_true c5
     clear c5
     by_cases c6 : x9_1 < (a0.size : Int)
     ·rw [if_pos c6] at H
      have c6b0 : decide (x9_1 < (a0.size : Int)) = true := decide_eq_true c6
      clear c6
      have HC8 := Aside0.mk H
      clear H
      have p7 : 0 ≤ (x9_1 : Int) := of_decide_eq_true (by first | (with_reducible assumption) | assumption)
      have q7 : x9_1 < (a0.size : Int) := of_decide_eq_true (by first | (with_reducible assumption) | assumption)
      have hx7 := bt_at a0 x9_1
      replace p7 := eq_true p7
      replace q7 := eq_true q7
      go_upto_region 7 with (fail)
      go_cut [19] (fun v19 wc => ∃ (kq : Nat) (x19_7 : Bool), v19 = .bool x19_7 ∧ Aside0 (label_Quoted.j1 kq a0 x3_1 (bt a0 x9_1) (a0.size : Int) x9_1 x19_7 = some r) ∧ Aside0 (kq ≤ k1) ∧ Aside0 (Kd.R (Kd.int .u8) 5 wc w.heap.size (fun _ => True) u3 x3_1) ∧ Aside0 (Below w.heap.size w wc))
      case first =>
       have H := HC8.out
       clear HC8
       by_cases c9 : (bt a0 x9_1) = 34
       ·rw [if_pos c9] at H
        have c9b0 : ((bt a0 x9_1) == 34) = true := beq_iff_eq.mpr c9
        have c9b1 : ((bt a0 x9_1) != 34) = false := bne_eq_false_iff_eq.mpr c9
        clear c9
        (first | rw [c9b0] | (simp only [i64_w, i32_w]; rw [c9b0]) | skip)
        have H' := Aside0.mk H
        clear H
        go_wp2
        go_meet
        case rel => exact ⟨_, (true), (by first | rfl | (simp; done) | (simp [*]; done)), H', ⟨by have := HK1.out; first | omega | exact Nat.le_refl _⟩, ⟨by (with_reducible repeat (first | apply Kd.R_alloc | apply Kd.R_drewN | apply Kd.R_drew)); exact HO_3.out⟩, ⟨by repeat (first | (with_reducible first | exact HB.out | apply below_alloc | apply pw_below_drewN | apply below_drew1) | exact HB.out)⟩⟩
       ·rw [if_neg c9] at H
        have c9b0 : ((bt a0 x9_1) == 34) = false := beq_eq_false_iff_ne.mpr c9
        have c9b1 : ((bt a0 x9_1) != 34) = true := bne_iff_ne.mpr c9
        (first | rw [c9b0] | (simp only [i64_w, i32_w]; rw [c9b0]) | skip)
        have H' := Aside0.mk H
        clear H
        go_wp2
        go_meet
        case rel => exact ⟨_, (((bt a0 x9_1) == 92)), (by first | rfl | (simp; done) | (simp [*]; done)), H', ⟨by have := HK1.out; first | omega | exact Nat.le_refl _⟩, ⟨by (with_reducible repeat (first | apply Kd.R_alloc | apply Kd.R_drewN | apply Kd.R_drew)); exact HO_3.out⟩, ⟨by repeat (first | (with_reducible first | exact HB.out | apply below_alloc | apply pw_below_drewN | apply below_drew1) | exact HB.out)⟩⟩
      case rest =>
       clear HC8
       try clear c1
       try clear p2
       try clear c4
       try clear c4b0
       try clear c5
       try clear c5b0
       try clear c6
       try clear c6b0
       try clear p7
       try clear q7
       try clear hx7
       try clear c9
       try clear c9b0
       try clear c9b1
       try clear p2
       try clear p7
       try clear q7
       obtain ⟨kq, x19_7, rfl, HA, HJ7, HO_3, HB⟩ := hcut
       cases kq with
       | zero => exact absurd HA.out (by simp [label_Quoted.j1])
       | succ kj7 =>
        have H := HA.out
        clear HA
        simp only [label_Quoted.j1] at H
        by_cases c10 : x19_7 = true
        ·subst c10
         have H1 : ((some (([92, (bt a0 x9_1)] : List Int) : List Int)).bind fun y285 => (if x3_1.length + y285.length < 140737488355328 then (label_Quoted.l0 kj7 a0 (x3_1 ++ y285) (a0.size : Int) (wrap64 (x9_1 + 1))) else (none))) = some r := by rw [if_pos rfl] at H; exact H
         clear H
         have H := H1
         clear H1
         obtain ⟨y285, hy285⟩ : ∃ y_ : List Int, y_ = (([92, (bt a0 x9_1)] : List Int)) := ⟨_, rfl⟩
         replace H : (if x3_1.length + y285.length < 140737488355328 then (label_Quoted.l0 kj7 a0 (x3_1 ++ y285) (a0.size : Int) (wrap64 (x9_1 + 1))) else (none)) = some r := by first | (rw [hy285]; with_reducible exact H) | (have H2_ := (Option.bind_some _ _).symm.trans H; rw [hy285]; with_reducible exact H2_) | (have H2_ := (Option.bind_some _ _).symm.trans H; with_reducible exact H2_) | with_reducible exact H | (rw [hy285]; exact H) | exact H
         have Ny285 := Aside0.mk hy285
         clear hy285
         by_cases c11 : x3_1.length + y285.length < 140737488355328
         ·rw [if_pos c11] at H
          have LMc11 := Aside0.mk c11
          clear c11
          obtain ⟨y288, hy288⟩ : ∃ y_ : List Int, y_ = (x3_1 ++ y285) := ⟨_, rfl⟩
          replace H : (label_Quoted.l0 kj7 a0 y288 (a0.size : Int) (wrap64 (x9_1 + 1))) = some r := by first | (rw [hy288]; with_reducible exact H) | (have H2_ := (Option.bind_some _ _).symm.trans H; rw [hy288]; with_reducible exact H2_) | (have H2_ := (Option.bind_some _ _).symm.trans H; with_reducible exact H2_) | with_reducible exact H | (rw [hy288]; exact H) | exact H
          have Ny288 := Aside0.mk hy288
          clear hy288
          have H' := Aside0.mk H
          clear H
          go_wp2_with (first | ((with_reducible refine gate_dst (N := 28) rfl ?_); refine Kd.R_lit (Kd.int .u8) _ 5 ?hg (N := 28) ?hd (xs := ([92, (bt a0 x9_1)] : List Int)) (inner := [.int .u8 92, .int .u8 (bt a0 x9_1)]) (ok := fun _ => True) (okp := fun _ => True) ?hr ?hp (fun _ hk => hk) trivial (Below.refl _ _) (Nat.le_refl _) (by simp) ?_; (case hd => rfl); (case hg => rfl); (case hr => first | (go_simp; done) | (go_simp; rfl)); (case hp => exact (Reps.one (show Kd.M (Kd.int .u8) _ _ _ 92 [.int .u8 92] from rfl) (Reps.one (show Kd.M (Kd.int .u8) _ _ _ (bt a0 x9_1) [.int .u8 (bt a0 x9_1)] from rfl) (Reps.none _ _)))); intro v286 w12 ho13 hb hg_ hnew_; clear hg_ hnew_; (first | rw [← Ny285.out] at ho13 | (simp only [Int.reduceToNat] at ho13; rw [← Ny285.out] at ho13)); have n0_ := Aside0.mk (Kd.R_elder' (by (with_reducible repeat (first | apply Kd.R_alloc | apply Kd.R_drewN | apply Kd.R_drew)); exact HO_3.out) (Kd.R_base ho13) hb); have n1_ := Aside0.mk (Kd.R_lower (Kd.R_new' ho13 (Kd.R_lt (by (with_reducible repeat (first | apply Kd.R_alloc | apply Kd.R_drewN | apply Kd.R_drew)); exact HO_3.out))) (below_size (by repeat (first | (with_reducible first | exact HB.out | apply below_alloc | apply pw_below_drewN | apply below_drew1) | exact HB.out)))); have n2_ := Aside0.mk (below_step (by repeat (first | (with_reducible first | exact HB.out | apply below_alloc | apply pw_below_drewN | apply below_drew1) | exact HB.out)) hb); clear HO_3; clear HB; have HO_3 := n0_; have HO287 := n1_; have HB := n2_; clear n0_ n1_ n2_; clear hb ho13; obtain ⟨Ao15, co15, eo15⟩ := Kd.R_slice HO287.out; subst eo15) | ((with_reducible refine gate_builtin (b := .append) (xs := #[.tmp 26, .tmp 28]) rfl ?_); at_builtin; refine Kd.R_append_rows (Kd.int .u8) (w0 := w) w.heap.size rfl (.tmp 26) (.tmp 28) 85 5 (.int .u8 0) 1 rfl Try.underlying85 info5 rfl (by decide) (by omega) u3 x3_1 y285 _ _ _ (fun k_ => some k_ ≠ (.slice Ao15 y285.length co15 : Value).ownBlock) (fun _ => False) rfl rfl ?aO ?aR (fun _ _ h => h) (fun _ h => h.elim) ?aF ?aB ?aS ?aL ?_; (case aR => repeat (first | exact (Kd.R_reads' HO287.out).2.2 | (with_reducible refine Kd.C_alloc ?_ _) | (with_reducible refine Kd.C_drewN ?_ _) | (with_reducible refine Kd.C_drew ?_))); (case aB => exact (by repeat (first | (with_reducible first | exact HB.out | apply below_alloc | apply pw_below_drewN | apply below_drew1) | exact HB.out))); (case aF => exact (fun k_ hk => Kd.fresh' (Kd.R_lt (by (with_reducible repeat (first | apply Kd.R_alloc | apply Kd.R_drewN | apply Kd.R_drew)); exact HO287.out)) k_ hk)); (case aO => exact (by (with_reducible repeat (first | apply Kd.R_alloc | apply Kd.R_drewN | apply Kd.R_drew)); exact Kd.R_mono HO_3.out (fun _ hk => hk.2))); (case aS => exact (below_size (by repeat (first | (with_reducible first | exact HB.out | apply below_alloc | apply pw_below_drewN | apply below_drew1) | exact HB.out)))); (case aL => have := LMc11.out; omega); intro v289 w14 ho hb hg hat; rw [← Ny288.out] at ho; have n0_ := Aside0.mk (Kd.R_after (ok := (fun _ => True)) (by (with_reducible repeat (first | apply Kd.R_alloc | apply Kd.R_drewN | apply Kd.R_drew)); exact HO287.out) hg hat); have n1_ := Aside0.mk (hb); have n2_ := Aside0.mk (ho); clear HO287; clear HB; clear HO_3; have HO287 := n0_; have HB := n1_; have HO290 := n2_; clear n0_ n1_ n2_; clear ho hb hg hat))
          go_roundg kj7
          case measure => have := HK1.out; have := HJ7.out; omega
          case rel => exact ⟨(y288), (wrap64 (x9_1 + 1)), (by first | rfl | (simp; done) | (simp [*]; done)), H', ⟨by have := HK1.out; have := HJ7.out; omega⟩, ⟨by (with_reducible repeat (first | apply Kd.R_alloc | apply Kd.R_drewN | apply Kd.R_drew)); exact Kd.R_mono HO290.out (fun _ hk => trivial)⟩, ⟨by repeat (first | (with_reducible first | exact HB.out | apply below_alloc | apply pw_below_drewN | apply below_drew1) | exact HB.out)⟩⟩
         ·rw [if_neg c11] at H
          exact absurd H (by simp)
        ·replace c10 := Bool.eq_false_iff.mpr c10
         subst c10
         have H1 : (if (bt a0 x9_1) < 32 then (if 0 ≤ ((bt a0 x9_1) / 16) then (if ((bt a0 x9_1) / 16) < 16 then (if 0 ≤ (Go.bits .and .u8 (bt a0 x9_1) 15) then (if (Go.bits .and .u8 (bt a0 x9_1) 15) < 16 then ((some (([92, 120, bt (⟨#[48, 49, 50, 51, 52, 53, 54, 55, 56, 57, 97, 98, 99, 100, 101, 102]⟩ : ByteArray) ((bt a0 x9_1) / 16), bt (⟨#[48, 49, 50, 51, 52, 53, 54, 55, 56, 57, 97, 98, 99, 100, 101, 102]⟩ : ByteArray) (Go.bits .and .u8 (bt a0 x9_1) 15)] : List Int) : List Int)).bind fun y291 => (if x3_1.length + y291.length < 140737488355328 then (label_Quoted.l0 kj7 a0 (x3_1 ++ y291) (a0.size : Int) (wrap64 (x9_1 + 1))) else (none))) else (none)) else (none)) else (none)) else (none)) else (if (bt a0 x9_1) ≥ 127 then (if 0 ≤ ((bt a0 x9_1) / 16) then (if ((bt a0 x9_1) / 16) < 16 then (if 0 ≤ (Go.bits .and .u8 (bt a0 x9_1) 15) then (if (Go.bits .and .u8 (bt a0 x9_1) 15) < 16 then ((some (([92, 120, bt (⟨#[48, 49, 50, 51, 52, 53, 54, 55, 56, 57, 97, 98, 99, 100, 101, 102]⟩ : ByteArray) ((bt a0 x9_1) / 16), bt (⟨#[48, 49, 50, 51, 52, 53, 54, 55, 56, 57, 97, 98, 99, 100, 101, 102]⟩ : ByteArray) (Go.bits .and .u8 (bt a0 x9_1) 15)] : List Int) : List Int)).bind fun y297 => (if x3_1.length + y297.length < 140737488355328 then (label_Quoted.l0 kj7 a0 (x3_1 ++ y297) (a0.size : Int) (wrap64 (x9_1 + 1))) else (none))) else (none)) else (none)) else (none)) else (none)) else (if x3_1.length < 140737488355328 then (label_Quoted.l0 kj7 a0 (x3_1 ++ [(bt a0 x9_1)]) (a0.size : Int) (wrap64 (x9_1 + 1))) else (none)))) = some r := by rw [if_neg (show ¬ (false = true) by decide)] at H; exact H
         clear H
         have H := H1
         clear H1
         by_cases c16 : (bt a0 x9_1) < 32
         ·rw [if_pos c16] at H
          have c16b0 : decide ((bt a0 x9_1) < 32) = true := decide_eq_true c16
          clear c16
          obtain ⟨ji17, hji17⟩ : ∃ j_ : Int, ((bt a0 x9_1) / 16) = j_ := ⟨_, rfl⟩
          replace H : (if 0 ≤ (ji17) then (if (ji17) < 16 then (if 0 ≤ (Go.bits .and .u8 (bt a0 x9_1) 15) then (if (Go.bits .and .u8 (bt a0 x9_1) 15) < 16 then ((some (([92, 120, bt (⟨#[48, 49, 50, 51, 52, 53, 54, 55, 56, 57, 97, 98, 99, 100, 101, 102]⟩ : ByteArray) (ji17), bt (⟨#[48, 49, 50, 51, 52, 53, 54, 55, 56, 57, 97, 98, 99, 100, 101, 102]⟩ : ByteArray) (Go.bits .and .u8 (bt a0 x9_1) 15)] : List Int) : List Int)).bind fun y291 => (if x3_1.length + y291.length < 140737488355328 then (label_Quoted.l0 kj7 a0 (x3_1 ++ y291) (a0.size : Int) (wrap64 (x9_1 + 1))) else (none))) else (none)) else (none)) else (none)) else (none)) = some r := by first | (rw [hji17] at H; exact H) | (simp only [hji17] at H ⊢; exact H)
          by_cases c18 : 0 ≤ (ji17)
          ·rw [if_pos c18] at H
           have c18b0 : decide (0 ≤ (ji17)) = true := decide_eq_true c18
           clear c18
           by_cases c19 : (ji17) < 16
           ·rw [if_pos c19] at H
            have c19b0 : decide ((ji17) < 16) = true := decide_eq_true c19
            clear c19
            by_cases c21 : 0 ≤ (Go.bits .and .u8 (bt a0 x9_1) 15)
            ·rw [if_pos c21] at H
             have c21b0 : decide (0 ≤ (Go.bits .and .u8 (bt a0 x9_1) 15)) = true := decide_eq_true c21
             clear c21
             by_cases c22 : (Go.bits .and .u8 (bt a0 x9_1) 15) < 16
             ·rw [if_pos c22] at H
              have c22b0 : decide ((Go.bits .and .u8 (bt a0 x9_1) 15) < 16) = true := decide_eq_true c22
              clear c22
              obtain ⟨y291, hy291⟩ : ∃ y_ : List Int, y_ = (([92, 120, bt (⟨#[48, 49, 50, 51, 52, 53, 54, 55, 56, 57, 97, 98, 99, 100, 101, 102]⟩ : ByteArray) (ji17), bt (⟨#[48, 49, 50, 51, 52, 53, 54, 55, 56, 57, 97, 98, 99, 100, 101, 102]⟩ : ByteArray) (Go.bits .and .u8 (bt a0 x9_1) 15)] : List Int)) := ⟨_, rfl⟩
              replace H : (if x3_1.length + y291.length < 140737488355328 then (label_Quoted.l0 kj7 a0 (x3_1 ++ y291) (a0.size : Int) (wrap64 (x9_1 + 1))) else (none)) = some r := by first | (rw [hy291]; with_reducible exact H) | (have H2_ := (Option.bind_some _ _).symm.trans H; rw [hy291]; with_reducible exact H2_) | (have H2_ := (Option.bind_some _ _).symm.trans H; with_reducible exact H2_) | with_reducible exact H | (rw [hy291]; exact H) | exact H
              have Ny291 := Aside0.mk hy291
              clear hy291
              by_cases c24 : x3_1.length + y291.length < 140737488355328
              ·rw [if_pos c24] at H
               have LMc24 := Aside0.mk c24
               clear c24
               obtain ⟨y294, hy294⟩ : ∃ y_ : List Int, y_ = (x3_1 ++ y291) := ⟨_, rfl⟩
               replace H : (label_Quoted.l0 kj7 a0 y294 (a0.size : Int) (wrap64 (x9_1 + 1))) = some r := by first | (rw [hy294]; with_reducible exact H) | (have H2_ := (Option.bind_some _ _).symm.trans H; rw [hy294]; with_reducible exact H2_) | (have H2_ := (Option.bind_some _ _).symm.trans H; with_reducible exact H2_) | with_reducible exact H | (rw [hy294]; exact H) | exact H
               have Ny294 := Aside0.mk hy294
               clear hy294
               have H' := Aside0.mk H
               clear H
               try go_wp2
               have n0_ := Aside0.mk (Kd.R_drew HO_3.out)
               have n1_ := Aside0.mk (below_drew1 HB.out)
               clear HO_3
               clear HB
               have HO_3 := n0_
               have HB := n1_
               clear n0_ n1_
               have p20 : 0 ≤ ((ji17) : Int) := of_decide_eq_true (by first | (with_reducible assumption) | assumption)
               have q20 : (ji17) < (16 : Int) := of_decide_eq_true (by first | (with_reducible assumption) | assumption)
               have hx20 := bt_at (⟨#[48, 49, 50, 51, 52, 53, 54, 55, 56, 57, 97, 98, 99, 100, 101, 102]⟩ : ByteArray) (ji17)
               replace p20 := eq_true p20
               replace q20 := eq_true q20
               have p23 : 0 ≤ ((Go.bits .and .u8 (bt a0 x9_1) 15) : Int) := of_decide_eq_true (by first | (with_reducible assumption) | assumption)
               have q23 : (Go.bits .and .u8 (bt a0 x9_1) 15) < (16 : Int) := of_decide_eq_true (by first | (with_reducible assumption) | assumption)
               have hx23 := bt_at (⟨#[48, 49, 50, 51, 52, 53, 54, 55, 56, 57, 97, 98, 99, 100, 101, 102]⟩ : ByteArray) (Go.bits .and .u8 (bt a0 x9_1) 15)
               replace p23 := eq_true p23
               replace q23 := eq_true q23
               refine start_ (n := 10) (S := fun w' => True) (ds := []) #[false, false, false, false, false, false, false, false, false, false] (by kernel_rfl) rfl rfl trivial (fun hHeld => ?_); refine with_tabW label_Quoted.tab10 label_Quoted.bits10 (fun HT_ HW_ => ?_)
               generalize wc.drew = w25 at HO_3 HB hHeld ⊢
               refine pure_ (i := 0) (N := some 37) (v := ?_) (a' := ?_) #[true, false, false, false, false, false, false, false, false, false] rfl rfl (any_of HT_.out (by kernel_rfl)) (fun _ _ _ h => h) (Or.inl ⟨by rfl, ?_⟩) ?_ ?_
               rotate_left
               ·intro w'
                go_simp
                with_reducible rfl
               rotate_left
               ·simp only [Act.put, List.setIfInBounds_toArray, List.set_cons_zero, List.set_cons_succ, i64_w, i32_w]
                rfl
               refine pure_ (i := 1) (N := some 38) (v := ?_) (a' := ?_) #[true, true, false, false, false, false, false, false, false, false] rfl rfl (any_of HT_.out (by kernel_rfl)) (fun _ _ _ h => h) (Or.inl ⟨by rfl, ?_⟩) ?_ ?_
               rotate_left
               ·intro w'
                go_simp
                with_reducible rfl
               rotate_left
               ·simp only [Act.put, List.setIfInBounds_toArray, List.set_cons_zero, List.set_cons_succ, i64_w, i32_w]
                rfl
               refine pure_ (i := 2) (N := some 39) (v := ?_) (a' := ?_) #[true, true, true, false, false, false, false, false, false, false] rfl rfl (any_of HT_.out (by kernel_rfl)) (fun _ _ _ h => h) (Or.inl ⟨by rfl, ?_⟩) ?_ ?_
               rotate_left
               ·intro w'
                go_simp
                with_reducible rfl
               rotate_left
               ·simp only [Act.put, List.setIfInBounds_toArray, List.set_cons_zero, List.set_cons_succ, i64_w, i32_w]
                rfl
               refine pure_ (i := 4) (N := some 41) (v := ?_) (a' := ?_) #[true, true, true, false, true, false, false, false, false, false] rfl rfl (any_of HT_.out (by kernel_rfl)) (fun _ _ _ h => h) (Or.inl ⟨by rfl, ?_⟩) ?_ ?_
               rotate_left
               ·intro w'
                go_simp
                with_reducible rfl
               rotate_left
               ·simp only [Act.put, List.setIfInBounds_toArray, List.set_cons_zero, List.set_cons_succ, i64_w, i32_w]
                rfl
               refine pure_ (i := 5) (N := some 42) (v := ?_) (a' := ?_) #[true, true, true, false, true, true, false, false, false, false] rfl rfl (any_of HT_.out (by kernel_rfl)) (fun _ _ _ h => h) (Or.inl ⟨by rfl, ?_⟩) ?_ ?_
               rotate_left
               ·intro w'
                go_simp
                with_reducible rfl
               rotate_left
               ·simp only [Act.put, List.setIfInBounds_toArray, List.set_cons_zero, List.set_cons_succ, i64_w, i32_w]
                rfl
               refine take_ (i := 3) (N := some 40) (v := ?_) (a' := ?_) #[true, true, true, true, true, true, false, false, false, false] rfl rfl (take_ofW HT_.out HW_.out (by kernel_rfl)) (fun _ _ _ h => h) (Or.inl ⟨by rfl, ?_⟩) hHeld ?_ ?_
               rotate_left
               ·intro w' _
                go_simp
                with_reducible rfl
               rotate_left
               ·simp only [Act.put, List.setIfInBounds_toArray, List.set_cons_zero, List.set_cons_succ, i64_w, i32_w]
                rfl
               refine take_ (i := 6) (N := some 43) (v := ?_) (a' := ?_) #[true, true, true, true, true, true, true, false, false, false] rfl rfl (take_ofW HT_.out HW_.out (by kernel_rfl)) (fun _ _ _ h => h) (Or.inl ⟨by rfl, ?_⟩) hHeld ?_ ?_
               rotate_left
               ·intro w' _
                go_simp
                with_reducible rfl
               rotate_left
               ·simp only [Act.put, List.setIfInBounds_toArray, List.set_cons_zero, List.set_cons_succ, i64_w, i32_w]
                rfl
               refine one_ (i := 7) (N := some 44) #[true, true, true, true, true, true, true, true, false, false] rfl rfl (one_of HT_.out (by kernel_rfl)) (by decide) (fun K hK => ?_)
               refine Kd.R_lit_step (Kd.int .u8) _ 5 ?hg (N := 44) ?hd (xs := ([92, 120, bt (⟨#[48, 49, 50, 51, 52, 53, 54, 55, 56, 57, 97, 98, 99, 100, 101, 102]⟩ : ByteArray) (ji17), bt (⟨#[48, 49, 50, 51, 52, 53, 54, 55, 56, 57, 97, 98, 99, 100, 101, 102]⟩ : ByteArray) (Go.bits .and .u8 (bt a0 x9_1) 15)] : List Int)) (inner := [.int .u8 92, .int .u8 120, .int .u8 (bt (⟨#[48, 49, 50, 51, 52, 53, 54, 55, 56, 57, 97, 98, 99, 100, 101, 102]⟩ : ByteArray) (ji17)), .int .u8 (bt (⟨#[48, 49, 50, 51, 52, 53, 54, 55, 56, 57, 97, 98, 99, 100, 101, 102]⟩ : ByteArray) (Go.bits .and .u8 (bt a0 x9_1) 15))]) (ok := fun _ => True) (okp := fun _ => True) ?hr ?hp (fun _ hk => hk) trivial (Below.refl _ _) (Nat.le_refl _) (by simp) ?_; (case hd => rfl); (case hg => rfl); (case hr => first | (go_simp; done) | (go_simp; rfl)); (case hp => exact (Reps.one (show Kd.M (Kd.int .u8) _ _ _ 92 [.int .u8 92] from rfl) (Reps.one (show Kd.M (Kd.int .u8) _ _ _ 120 [.int .u8 120] from rfl) (Reps.one (show Kd.M (Kd.int .u8) _ _ _ (bt (⟨#[48, 49, 50, 51, 52, 53, 54, 55, 56, 57, 97, 98, 99, 100, 101, 102]⟩ : ByteArray) (ji17)) [.int .u8 (bt (⟨#[48, 49, 50, 51, 52, 53, 54, 55, 56, 57, 97, 98, 99, 100, 101, 102]⟩ : ByteArray) (ji17))] from rfl) (Reps.one (show Kd.M (Kd.int .u8) _ _ _ (bt (⟨#[48, 49, 50, 51, 52, 53, 54, 55, 56, 57, 97, 98, 99, 100, 101, 102]⟩ : ByteArray) (Go.bits .and .u8 (bt a0 x9_1) 15)) [.int .u8 (bt (⟨#[48, 49, 50, 51, 52, 53, 54, 55, 56, 57, 97, 98, 99, 100, 101, 102]⟩ : ByteArray) (Go.bits .and .u8 (bt a0 x9_1) 15))] from rfl) (Reps.none _ _))))))
               intro v292 w26 ho27 hb hg_ hnew_
               clear hg_ hnew_
               (first | rw [← Ny291.out] at ho27 | (simp only [Int.reduceToNat] at ho27; rw [← Ny291.out] at ho27))
               have n0_ := Aside0.mk (Kd.R_elder' (by (with_reducible repeat (first | apply Kd.R_alloc | apply Kd.R_drewN | apply Kd.R_drew)); exact HO_3.out) (Kd.R_base ho27) hb)
               have n1_ := Aside0.mk (Kd.R_lower (Kd.R_new' ho27 (Kd.R_lt (by (with_reducible repeat (first | apply Kd.R_alloc | apply Kd.R_drewN | apply Kd.R_drew)); exact HO_3.out))) (below_size (by repeat (first | (with_reducible first | exact HB.out | apply below_alloc | apply pw_below_drewN | apply below_drew1) | exact HB.out))))
               have n2_ := Aside0.mk (below_step (by repeat (first | (with_reducible first | exact HB.out | apply below_alloc | apply pw_below_drewN | apply below_drew1) | exact HB.out)) hb)
               clear HO_3
               clear HB
               have HO_3 := n0_
               have HO293 := n1_
               have HB := n2_
               clear n0_ n1_ n2_
               clear hb ho27
               obtain ⟨Ao29, co29, eo29⟩ := Kd.R_slice HO293.out
               (first | subst eo29 | (injection eo29 with f1_ f2_ f3_; have f4_ := f1_.symm; have f5_ := f3_.symm; clear f1_ f2_ f3_; subst f4_; subst f5_))
               refine hK.out _ _ trivial (fun hHeld => ?_)
               clear hK K
               refine norm_ (a' := ?_) ?_ ?_
               rotate_left
               ·show Act.put _ (some 44) _ = _
                simp only [Act.put, List.setIfInBounds_toArray, List.set_cons_zero, List.set_cons_succ, i64_w, i32_w]
                rfl
               refine one_ (i := 8) (N := some 45) #[true, true, true, true, true, true, true, true, true, false] rfl rfl (one_of HT_.out (by kernel_rfl)) (by decide) (fun K hK => ?_)
               refine Kd.R_append_rows_step (Kd.int .u8) (w0 := w) w.heap.size (by rfl) (.tmp 37) (.tmp 44) 85 5 (.int .u8 0) 1 rfl Try.underlying85 info5 rfl (by decide) (by omega) u3 x3_1 y291 _ _ _ (fun k_ => some k_ ≠ (.slice Ao29 y291.length co29 : Value).ownBlock) (fun _ => False) rfl rfl ?aO ?aR (fun _ _ h => h) (fun _ h => h.elim) ?aF ?aB ?aS ?aL ?_
               (case aR => repeat (first | exact (Kd.R_reads' HO293.out).2.2 | (with_reducible refine Kd.C_alloc ?_ _) | (with_reducible refine Kd.C_drewN ?_ _) | (with_reducible refine Kd.C_drew ?_)))
               (case aB => exact (by repeat (first | (with_reducible first | exact HB.out | apply below_alloc | apply pw_below_drewN | apply below_drew1) | exact HB.out)))
               (case aF => exact (fun k_ hk => Kd.fresh' (Kd.R_lt (by (with_reducible repeat (first | apply Kd.R_alloc | apply Kd.R_drewN | apply Kd.R_drew)); exact HO293.out)) k_ hk))
               (case aO => exact (by (with_reducible repeat (first | apply Kd.R_alloc | apply Kd.R_drewN | apply Kd.R_drew)); exact Kd.R_mono HO_3.out (fun _ hk => hk.2)))
               (case aS => exact (below_size (by repeat (first | (with_reducible first | exact HB.out | apply below_alloc | apply pw_below_drewN | apply below_drew1) | exact HB.out))))
               (case aL => have := LMc24.out; omega)
               intro v295 w28 ho hb hg hat
               rw [← Ny294.out] at ho
               have n0_ := Aside0.mk (Kd.R_after (ok := (fun _ => True)) (by (with_reducible repeat (first | apply Kd.R_alloc | apply Kd.R_drewN | apply Kd.R_drew)); exact HO293.out) hg hat)
               have n1_ := Aside0.mk (hb)
               have n2_ := Aside0.mk (ho)
               clear HO293
               clear HB
               clear HO_3
               have HO293 := n0_
               have HB := n1_
               have HO296 := n2_
               clear n0_ n1_ n2_
               clear ho hb hg hat
               refine hK.out _ _ trivial (fun hHeld => ?_)
               clear hK K
               refine norm_ (a' := ?_) ?_ ?_
               rotate_left
               ·show Act.put _ (some 45) _ = _
                simp only [Act.put, List.setIfInBounds_toArray, List.set_cons_zero, List.set_cons_succ, i64_w, i32_w]
                rfl
               refine pure_ (i := 9) (N := some 3) (v := ?_) (a' := ?_) #[true, true, true, true, true, true, true, true, true, true] rfl rfl (any_of HT_.out (by kernel_rfl)) (fun _ _ _ h => h) (Or.inl ⟨by rfl, ?_⟩) ?_ ?_
               rotate_left
               ·intro w'
                go_simp
                with_reducible rfl
               rotate_left
               ·simp only [Act.put, List.setIfInBounds_toArray, List.set_cons_zero, List.set_cons_succ, i64_w, i32_w]
                rfl
               refine done_ (done_of HT_.out (by kernel_rfl)) ?_
               try go_wp2
               go_roundg kj7
               case measure => have := HK1.out; have := HJ7.out; omega
               case rel => exact ⟨(y294), (wrap64 (x9_1 + 1)), (by first | rfl | (simp; done) | (simp [*]; done)), H', ⟨by have := HK1.out; have := HJ7.out; omega⟩, ⟨by (with_reducible repeat (first | apply Kd.R_alloc | apply Kd.R_drewN | apply Kd.R_drew)); exact Kd.R_mono HO296.out (fun _ hk => trivial)⟩, ⟨by repeat (first | (with_reducible first | exact HB.out | apply below_alloc | apply pw_below_drewN | apply below_drew1) | exact HB.out)⟩⟩
              ·rw [if_neg c24] at H
               exact absurd H (by simp)
             ·rw [if_neg c22] at H
              exact absurd H (by simp)
            ·rw [if_neg c21] at H
             exact absurd H (by simp)
           ·rw [if_neg c19] at H
            exact absurd H (by simp)
          ·rw [if_neg c18] at H
           exact absurd H (by simp)
         ·rw [if_neg c16] at H
          have c16b0 : decide ((bt a0 x9_1) < 32) = false := decide_eq_false c16
          clear c16
          by_cases c30 : (bt a0 x9_1) ≥ 127
          ·rw [if_pos c30] at H
           have c30b0 : decide (127 ≤ (bt a0 x9_1)) = true := decide_eq_true c30
           clear c30
           obtain ⟨ji31, hji31⟩ : ∃ j_ : Int, ((bt a0 x9_1) / 16) = j_ := ⟨_, rfl⟩
           replace H : (if 0 ≤ (ji31) then (if (ji31) < 16 then (if 0 ≤ (Go.bits .and .u8 (bt a0 x9_1) 15) then (if (Go.bits .and .u8 (bt a0 x9_1) 15) < 16 then ((some (([92, 120, bt (⟨#[48, 49, 50, 51, 52, 53, 54, 55, 56, 57, 97, 98, 99, 100, 101, 102]⟩ : ByteArray) (ji31), bt (⟨#[48, 49, 50, 51, 52, 53, 54, 55, 56, 57, 97, 98, 99, 100, 101, 102]⟩ : ByteArray) (Go.bits .and .u8 (bt a0 x9_1) 15)] : List Int) : List Int)).bind fun y297 => (if x3_1.length + y297.length < 140737488355328 then (label_Quoted.l0 kj7 a0 (x3_1 ++ y297) (a0.size : Int) (wrap64 (x9_1 + 1))) else (none))) else (none)) else (none)) else (none)) else (none)) = some r := by first | (rw [hji31] at H; exact H) | (simp only [hji31] at H ⊢; exact H)
           by_cases c32 : 0 ≤ (ji31)
           ·rw [if_pos c32] at H
            have c32b0 : decide (0 ≤ (ji31)) = true := decide_eq_true c32
            clear c32
            by_cases c33 : (ji31) < 16
            ·rw [if_pos c33] at H
             have c33b0 : decide ((ji31) < 16) = true := decide_eq_true c33
             clear c33
             by_cases c35 : 0 ≤ (Go.bits .and .u8 (bt a0 x9_1) 15)
             ·rw [if_pos c35] at H
              have c35b0 : decide (0 ≤ (Go.bits .and .u8 (bt a0 x9_1) 15)) = true := decide_eq_true c35
              clear c35
              by_cases c36 : (Go.bits .and .u8 (bt a0 x9_1) 15) < 16
              ·rw [if_pos c36] at H
               have c36b0 : decide ((Go.bits .and .u8 (bt a0 x9_1) 15) < 16) = true := decide_eq_true c36
               clear c36
               obtain ⟨y297, hy297⟩ : ∃ y_ : List Int, y_ = (([92, 120, bt (⟨#[48, 49, 50, 51, 52, 53, 54, 55, 56, 57, 97, 98, 99, 100, 101, 102]⟩ : ByteArray) (ji31), bt (⟨#[48, 49, 50, 51, 52, 53, 54, 55, 56, 57, 97, 98, 99, 100, 101, 102]⟩ : ByteArray) (Go.bits .and .u8 (bt a0 x9_1) 15)] : List Int)) := ⟨_, rfl⟩
               replace H : (if x3_1.length + y297.length < 140737488355328 then (label_Quoted.l0 kj7 a0 (x3_1 ++ y297) (a0.size : Int) (wrap64 (x9_1 + 1))) else (none)) = some r := by first | (rw [hy297]; with_reducible exact H) | (have H2_ := (Option.bind_some _ _).symm.trans H; rw [hy297]; with_reducible exact H2_) | (have H2_ := (Option.bind_some _ _).symm.trans H; with_reducible exact H2_) | with_reducible exact H | (rw [hy297]; exact H) | exact H
               have Ny297 := Aside0.mk hy297
               clear hy297
               by_cases c38 : x3_1.length + y297.length < 140737488355328
               ·rw [if_pos c38] at H
                have LMc38 := Aside0.mk c38
                clear c38
                obtain ⟨y300, hy300⟩ : ∃ y_ : List Int, y_ = (x3_1 ++ y297) := ⟨_, rfl⟩
                replace H : (label_Quoted.l0 kj7 a0 y300 (a0.size : Int) (wrap64 (x9_1 + 1))) = some r := by first | (rw [hy300]; with_reducible exact H) | (have H2_ := (Option.bind_some _ _).symm.trans H; rw [hy300]; with_reducible exact H2_) | (have H2_ := (Option.bind_some _ _).symm.trans H; with_reducible exact H2_) | with_reducible exact H | (rw [hy300]; exact H) | exact H
                have Ny300 := Aside0.mk hy300
                clear hy300
                have H' := Aside0.mk H
                clear H
                try go_wp2
                have n0_ := Aside0.mk (Kd.R_drew HO_3.out)
                have n1_ := Aside0.mk (below_drew1 HB.out)
                clear HO_3
                clear HB
                have HO_3 := n0_
                have HB := n1_
                clear n0_ n1_
                have p34 : 0 ≤ ((ji31) : Int) := of_decide_eq_true (by first | (with_reducible assumption) | assumption)
                have q34 : (ji31) < (16 : Int) := of_decide_eq_true (by first | (with_reducible assumption) | assumption)
                have hx34 := bt_at (⟨#[48, 49, 50, 51, 52, 53, 54, 55, 56, 57, 97, 98, 99, 100, 101, 102]⟩ : ByteArray) (ji31)
                replace p34 := eq_true p34
                replace q34 := eq_true q34
                have p37 : 0 ≤ ((Go.bits .and .u8 (bt a0 x9_1) 15) : Int) := of_decide_eq_true (by first | (with_reducible assumption) | assumption)
                have q37 : (Go.bits .and .u8 (bt a0 x9_1) 15) < (16 : Int) := of_decide_eq_true (by first | (with_reducible assumption) | assumption)
                have hx37 := bt_at (⟨#[48, 49, 50, 51, 52, 53, 54, 55, 56, 57, 97, 98, 99, 100, 101, 102]⟩ : ByteArray) (Go.bits .and .u8 (bt a0 x9_1) 15)
                replace p37 := eq_true p37
                replace q37 := eq_true q37
                refine start_ (n := 10) (S := fun w' => True) (ds := []) #[false, false, false, false, false, false, false, false, false, false] (by kernel_rfl) rfl rfl trivial (fun hHeld => ?_); refine with_tabW label_Quoted.tab10 label_Quoted.bits10 (fun HT_ HW_ => ?_)
                generalize wc.drew = w39 at HO_3 HB hHeld ⊢
                refine pure_ (i := 0) (N := some 37) (v := ?_) (a' := ?_) #[true, false, false, false, false, false, false, false, false, false] rfl rfl (any_of HT_.out (by kernel_rfl)) (fun _ _ _ h => h) (Or.inl ⟨by rfl, ?_⟩) ?_ ?_
                rotate_left
                ·intro w'
                 go_simp
                 with_reducible rfl
                rotate_left
                ·simp only [Act.put, List.setIfInBounds_toArray, List.set_cons_zero, List.set_cons_succ, i64_w, i32_w]
                 rfl
                refine pure_ (i := 1) (N := some 38) (v := ?_) (a' := ?_) #[true, true, false, false, false, false, false, false, false, false] rfl rfl (any_of HT_.out (by kernel_rfl)) (fun _ _ _ h => h) (Or.inl ⟨by rfl, ?_⟩) ?_ ?_
                rotate_left
                ·intro w'
                 go_simp
                 with_reducible rfl
                rotate_left
                ·simp only [Act.put, List.setIfInBounds_toArray, List.set_cons_zero, List.set_cons_succ, i64_w, i32_w]
                 rfl
                refine pure_ (i := 2) (N := some 39) (v := ?_) (a' := ?_) #[true, true, true, false, false, false, false, false, false, false] rfl rfl (any_of HT_.out (by kernel_rfl)) (fun _ _ _ h => h) (Or.inl ⟨by rfl, ?_⟩) ?_ ?_
                rotate_left
                ·intro w'
                 go_simp
                 with_reducible rfl
                rotate_left
                ·simp only [Act.put, List.setIfInBounds_toArray, List.set_cons_zero, List.set_cons_succ, i64_w, i32_w]
                 rfl
                refine pure_ (i := 4) (N := some 41) (v := ?_) (a' := ?_) #[true, true, true, false, true, false, false, false, false, false] rfl rfl (any_of HT_.out (by kernel_rfl)) (fun _ _ _ h => h) (Or.inl ⟨by rfl, ?_⟩) ?_ ?_
                rotate_left
                ·intro w'
                 go_simp
                 with_reducible rfl
                rotate_left
                ·simp only [Act.put, List.setIfInBounds_toArray, List.set_cons_zero, List.set_cons_succ, i64_w, i32_w]
                 rfl
                refine pure_ (i := 5) (N := some 42) (v := ?_) (a' := ?_) #[true, true, true, false, true, true, false, false, false, false] rfl rfl (any_of HT_.out (by kernel_rfl)) (fun _ _ _ h => h) (Or.inl ⟨by rfl, ?_⟩) ?_ ?_
                rotate_left
                ·intro w'
                 go_simp
                 with_reducible rfl
                rotate_left
                ·simp only [Act.put, List.setIfInBounds_toArray, List.set_cons_zero, List.set_cons_succ, i64_w, i32_w]
                 rfl
                refine take_ (i := 3) (N := some 40) (v := ?_) (a' := ?_) #[true, true, true, true, true, true, false, false, false, false] rfl rfl (take_ofW HT_.out HW_.out (by kernel_rfl)) (fun _ _ _ h => h) (Or.inl ⟨by rfl, ?_⟩) hHeld ?_ ?_
                rotate_left
                ·intro w' _
                 go_simp
                 with_reducible rfl
                rotate_left
                ·simp only [Act.put, List.setIfInBounds_toArray, List.set_cons_zero, List.set_cons_succ, i64_w, i32_w]
                 rfl
                refine take_ (i := 6) (N := some 43) (v := ?_) (a' := ?_) #[true, true, true, true, true, true, true, false, false, false] rfl rfl (take_ofW HT_.out HW_.out (by kernel_rfl)) (fun _ _ _ h => h) (Or.inl ⟨by rfl, ?_⟩) hHeld ?_ ?_
                rotate_left
                ·intro w' _
                 go_simp
                 with_reducible rfl
                rotate_left
                ·simp only [Act.put, List.setIfInBounds_toArray, List.set_cons_zero, List.set_cons_succ, i64_w, i32_w]
                 rfl
                refine one_ (i := 7) (N := some 44) #[true, true, true, true, true, true, true, true, false, false] rfl rfl (one_of HT_.out (by kernel_rfl)) (by decide) (fun K hK => ?_)
                refine Kd.R_lit_step (Kd.int .u8) _ 5 ?hg (N := 44) ?hd (xs := ([92, 120, bt (⟨#[48, 49, 50, 51, 52, 53, 54, 55, 56, 57, 97, 98, 99, 100, 101, 102]⟩ : ByteArray) (ji31), bt (⟨#[48, 49, 50, 51, 52, 53, 54, 55, 56, 57, 97, 98, 99, 100, 101, 102]⟩ : ByteArray) (Go.bits .and .u8 (bt a0 x9_1) 15)] : List Int)) (inner := [.int .u8 92, .int .u8 120, .int .u8 (bt (⟨#[48, 49, 50, 51, 52, 53, 54, 55, 56, 57, 97, 98, 99, 100, 101, 102]⟩ : ByteArray) (ji31)), .int .u8 (bt (⟨#[48, 49, 50, 51, 52, 53, 54, 55, 56, 57, 97, 98, 99, 100, 101, 102]⟩ : ByteArray) (Go.bits .and .u8 (bt a0 x9_1) 15))]) (ok := fun _ => True) (okp := fun _ => True) ?hr ?hp (fun _ hk => hk) trivial (Below.refl _ _) (Nat.le_refl _) (by simp) ?_; (case hd => rfl); (case hg => rfl); (case hr => first | (go_simp; done) | (go_simp; rfl)); (case hp => exact (Reps.one (show Kd.M (Kd.int .u8) _ _ _ 92 [.int .u8 92] from rfl) (Reps.one (show Kd.M (Kd.int .u8) _ _ _ 120 [.int .u8 120] from rfl) (Reps.one (show Kd.M (Kd.int .u8) _ _ _ (bt (⟨#[48, 49, 50, 51, 52, 53, 54, 55, 56, 57, 97, 98, 99, 100, 101, 102]⟩ : ByteArray) (ji31)) [.int .u8 (bt (⟨#[48, 49, 50, 51, 52, 53, 54, 55, 56, 57, 97, 98, 99, 100, 101, 102]⟩ : ByteArray) (ji31))] from rfl) (Reps.one (show Kd.M (Kd.int .u8) _ _ _ (bt (⟨#[48, 49, 50, 51, 52, 53, 54, 55, 56, 57, 97, 98, 99, 100, 101, 102]⟩ : ByteArray) (Go.bits .and .u8 (bt a0 x9_1) 15)) [.int .u8 (bt (⟨#[48, 49, 50, 51, 52, 53, 54, 55, 56, 57, 97, 98, 99, 100, 101, 102]⟩ : ByteArray) (Go.bits .and .u8 (bt a0 x9_1) 15))] from rfl) (Reps.none _ _))))))
                intro v298 w40 ho41 hb hg_ hnew_
                clear hg_ hnew_
                (first | rw [← Ny297.out] at ho41 | (simp only [Int.reduceToNat] at ho41; rw [← Ny297.out] at ho41))
                have n0_ := Aside0.mk (Kd.R_elder' (by (with_reducible repeat (first | apply Kd.R_alloc | apply Kd.R_drewN | apply Kd.R_drew)); exact HO_3.out) (Kd.R_base ho41) hb)
                have n1_ := Aside0.mk (Kd.R_lower (Kd.R_new' ho41 (Kd.R_lt (by (with_reducible repeat (first | apply Kd.R_alloc | apply Kd.R_drewN | apply Kd.R_drew)); exact HO_3.out))) (below_size (by repeat (first | (with_reducible first | exact HB.out | apply below_alloc | apply pw_below_drewN | apply below_drew1) | exact HB.out))))
                have n2_ := Aside0.mk (below_step (by repeat (first | (with_reducible first | exact HB.out | apply below_alloc | apply pw_below_drewN | apply below_drew1) | exact HB.out)) hb)
                clear HO_3
                clear HB
                have HO_3 := n0_
                have HO299 := n1_
                have HB := n2_
                clear n0_ n1_ n2_
                clear hb ho41
                obtain ⟨Ao43, co43, eo43⟩ := Kd.R_slice HO299.out
                (first | subst eo43 | (injection eo43 with f1_ f2_ f3_; have f4_ := f1_.symm; have f5_ := f3_.symm; clear f1_ f2_ f3_; subst f4_; subst f5_))
                refine hK.out _ _ trivial (fun hHeld => ?_)
                clear hK K
                refine norm_ (a' := ?_) ?_ ?_
                rotate_left
                ·show Act.put _ (some 44) _ = _
                 simp only [Act.put, List.setIfInBounds_toArray, List.set_cons_zero, List.set_cons_succ, i64_w, i32_w]
                 rfl
                refine one_ (i := 8) (N := some 45) #[true, true, true, true, true, true, true, true, true, false] rfl rfl (one_of HT_.out (by kernel_rfl)) (by decide) (fun K hK => ?_)
                refine Kd.R_append_rows_step (Kd.int .u8) (w0 := w) w.heap.size (by rfl) (.tmp 37) (.tmp 44) 85 5 (.int .u8 0) 1 rfl Try.underlying85 info5 rfl (by decide) (by omega) u3 x3_1 y297 _ _ _ (fun k_ => some k_ ≠ (.slice Ao43 y297.length co43 : Value).ownBlock) (fun _ => False) rfl rfl ?aO ?aR (fun _ _ h => h) (fun _ h => h.elim) ?aF ?aB ?aS ?aL ?_
                (case aR => repeat (first | exact (Kd.R_reads' HO299.out).2.2 | (with_reducible refine Kd.C_alloc ?_ _) | (with_reducible refine Kd.C_drewN ?_ _) | (with_reducible refine Kd.C_drew ?_)))
                (case aB => exact (by repeat (first | (with_reducible first | exact HB.out | apply below_alloc | apply pw_below_drewN | apply below_drew1) | exact HB.out)))
                (case aF => exact (fun k_ hk => Kd.fresh' (Kd.R_lt (by (with_reducible repeat (first | apply Kd.R_alloc | apply Kd.R_drewN | apply Kd.R_drew)); exact HO299.out)) k_ hk))
                (case aO => exact (by (with_reducible repeat (first | apply Kd.R_alloc | apply Kd.R_drewN | apply Kd.R_drew)); exact Kd.R_mono HO_3.out (fun _ hk => hk.2)))
                (case aS => exact (below_size (by repeat (first | (with_reducible first | exact HB.out | apply below_alloc | apply pw_below_drewN | apply below_drew1) | exact HB.out))))
                (case aL => have := LMc38.out; omega)
                intro v301 w42 ho hb hg hat
                rw [← Ny300.out] at ho
                have n0_ := Aside0.mk (Kd.R_after (ok := (fun _ => True)) (by (with_reducible repeat (first | apply Kd.R_alloc | apply Kd.R_drewN | apply Kd.R_drew)); exact HO299.out) hg hat)
                have n1_ := Aside0.mk (hb)
                have n2_ := Aside0.mk (ho)
                clear HO299
                clear HB
                clear HO_3
                have HO299 := n0_
                have HB := n1_
                have HO302 := n2_
                clear n0_ n1_ n2_
                clear ho hb hg hat
                refine hK.out _ _ trivial (fun hHeld => ?_)
                clear hK K
                refine norm_ (a' := ?_) ?_ ?_
                rotate_left
                ·show Act.put _ (some 45) _ = _
                 simp only [Act.put, List.setIfInBounds_toArray, List.set_cons_zero, List.set_cons_succ, i64_w, i32_w]
                 rfl
                refine pure_ (i := 9) (N := some 3) (v := ?_) (a' := ?_) #[true, true, true, true, true, true, true, true, true, true] rfl rfl (any_of HT_.out (by kernel_rfl)) (fun _ _ _ h => h) (Or.inl ⟨by rfl, ?_⟩) ?_ ?_
                rotate_left
                ·intro w'
                 go_simp
                 with_reducible rfl
                rotate_left
                ·simp only [Act.put, List.setIfInBounds_toArray, List.set_cons_zero, List.set_cons_succ, i64_w, i32_w]
                 rfl
                refine done_ (done_of HT_.out (by kernel_rfl)) ?_
                try go_wp2
                go_roundg kj7
                case measure => have := HK1.out; have := HJ7.out; omega
                case rel => exact ⟨(y300), (wrap64 (x9_1 + 1)), (by first | rfl | (simp; done) | (simp [*]; done)), H', ⟨by have := HK1.out; have := HJ7.out; omega⟩, ⟨by (with_reducible repeat (first | apply Kd.R_alloc | apply Kd.R_drewN | apply Kd.R_drew)); exact Kd.R_mono HO302.out (fun _ hk => trivial)⟩, ⟨by repeat (first | (with_reducible first | exact HB.out | apply below_alloc | apply pw_below_drewN | apply below_drew1) | exact HB.out)⟩⟩
               ·rw [if_neg c38] at H
                exact absurd H (by simp)
              ·rw [if_neg c36] at H
               exact absurd H (by simp)
             ·rw [if_neg c35] at H
              exact absurd H (by simp)
            ·rw [if_neg c33] at H
             exact absurd H (by simp)
           ·rw [if_neg c32] at H
            exact absurd H (by simp)
          ·rw [if_neg c30] at H
           have c30b0 : decide (127 ≤ (bt a0 x9_1)) = false := decide_eq_false c30
           clear c30
           by_cases c44 : x3_1.length < 140737488355328
           ·rw [if_pos c44] at H
            have LMc44 := Aside0.mk c44
            clear c44
            obtain ⟨y303, hy303⟩ : ∃ y_ : List Int, y_ = (x3_1 ++ [(bt a0 x9_1)]) := ⟨_, rfl⟩
            replace H : (label_Quoted.l0 kj7 a0 y303 (a0.size : Int) (wrap64 (x9_1 + 1))) = some r := by first | (rw [hy303]; with_reducible exact H) | (have H2_ := (Option.bind_some _ _).symm.trans H; rw [hy303]; with_reducible exact H2_) | (have H2_ := (Option.bind_some _ _).symm.trans H; with_reducible exact H2_) | with_reducible exact H | (rw [hy303]; exact H) | exact H
            have Ny303 := Aside0.mk hy303
            clear hy303
            have H' := Aside0.mk H
            clear H
            go_wp2_with (first | ((with_reducible refine gate_builtin (b := .append) (xs := #[.tmp 15, .tmp 17]) rfl ?_); at_builtin; refine Kd.R_append (Kd.int .u8) (w0 := w) w.heap.size rfl (.tmp 15) (.tmp 17) 85 5 (.int .u8 0) 1 rfl Try.underlying85 info5 rfl (by decide) (by omega) u3 x3_1 (bt a0 x9_1) [.int .u8 (bt a0 x9_1)] (fun _ => True) (fun _ => False) rfl rfl ?aP (fun _ hk => hk.elim) ?aF ?aO ?aB ?aS ?aL ?_; (case aP => exact rfl); (case aB => exact (by repeat (first | (with_reducible first | exact HB.out | apply below_alloc | apply pw_below_drewN | apply below_drew1) | exact HB.out))); (case aF => exact (fun _ _ => trivial)); (case aO => exact (by (with_reducible repeat (first | apply Kd.R_alloc | apply Kd.R_drewN | apply Kd.R_drew)); exact HO_3.out)); (case aS => exact (below_size (by repeat (first | (with_reducible first | exact HB.out | apply below_alloc | apply pw_below_drewN | apply below_drew1) | exact HB.out)))); (case aL => have := LMc44.out; omega); intro v304 w45 ho hb hg hat; rw [← Ny303.out] at ho; have n0_ := Aside0.mk (hb); have n1_ := Aside0.mk (ho); clear HB; clear HO_3; have HB := n0_; have HO305 := n1_; clear n0_ n1_; clear ho hb hg hat))
            go_roundg kj7
            case measure => have := HK1.out; have := HJ7.out; omega
            case rel => exact ⟨(y303), (wrap64 (x9_1 + 1)), (by first | rfl | (simp; done) | (simp [*]; done)), H', ⟨by have := HK1.out; have := HJ7.out; omega⟩, ⟨by (with_reducible repeat (first | apply Kd.R_alloc | apply Kd.R_drewN | apply Kd.R_drew)); exact HO305.out⟩, ⟨by repeat (first | (with_reducible first | exact HB.out | apply below_alloc | apply pw_below_drewN | apply below_drew1) | exact HB.out)⟩⟩
           ·rw [if_neg c44] at H
            exact absurd H (by simp)
     ·rw [if_neg c6] at H
      exact absurd H (by simp)
    ·rw [if_neg c5] at H
     exact absurd H (by simp)
   ·rw [if_neg c4] at H
    have c4b0 : decide (x9_1 < (a0.size : Int)) = false := decide_eq_false c4
    clear c4
    by_cases c46 : x3_1.length < 140737488355328
    ·rw [if_pos c46] at H
     have LMc46 := Aside0.mk c46
     clear c46
     obtain ⟨y282, hy282⟩ : ∃ y_ : List Int, y_ = (x3_1 ++ [34]) := ⟨_, rfl⟩
     replace H : (some (strOfNums y282)) = some r := by first | (rw [hy282]; with_reducible exact H) | (have H2_ := (Option.bind_some _ _).symm.trans H; rw [hy282]; with_reducible exact H2_) | (have H2_ := (Option.bind_some _ _).symm.trans H; with_reducible exact H2_) | with_reducible exact H | (rw [hy282]; exact H) | exact H
     have Ny282 := Aside0.mk hy282
     clear hy282
     obtain rfl := Option.some.inj H
     go_wp2_with (first | ((with_reducible refine gate_builtin (b := .append) (xs := #[.tmp 47, .tmp 48]) rfl ?_); at_builtin; refine Kd.R_append (Kd.int .u8) (w0 := w) w.heap.size rfl (.tmp 47) (.tmp 48) 85 5 (.int .u8 0) 1 rfl Try.underlying85 info5 rfl (by decide) (by omega) u3 x3_1 34 [.int .u8 34] (fun _ => True) (fun _ => False) rfl rfl ?aP (fun _ hk => hk.elim) ?aF ?aO ?aB ?aS ?aL ?_; (case aP => exact rfl); (case aB => exact (by repeat (first | (with_reducible first | exact HB.out | apply below_alloc | apply pw_below_drewN | apply below_drew1) | exact HB.out))); (case aF => exact (fun _ _ => trivial)); (case aO => exact (by (with_reducible repeat (first | apply Kd.R_alloc | apply Kd.R_drewN | apply Kd.R_drew)); exact HO_3.out)); (case aS => exact (below_size (by repeat (first | (with_reducible first | exact HB.out | apply below_alloc | apply pw_below_drewN | apply below_drew1) | exact HB.out)))); (case aL => have := LMc46.out; omega); intro v283 w47 ho hb hg hat; rw [← Ny282.out] at ho; have n0_ := Aside0.mk (hb); have n1_ := Aside0.mk (ho); clear HB; clear HO_3; have HB := n0_; have HO284 := n1_; clear n0_ n1_; clear ho hb hg hat; have hcv48 := own_string (P := Try.prog) Try.underlying85 Try.underlying5 Try.underlying9 (Kd.own_of_R HO284.out)))
     go_ret
     exact ⟨by first | rfl | (simp [errW_none, errW_some] <;> rfl) | (simp [*, errW_none, errW_some] <;> rfl), by repeat (first | (with_reducible first | exact HB.out | apply below_alloc | apply pw_below_drewN | apply below_drew1) | exact HB.out)⟩
    ·rw [if_neg c46] at H
     exact absurd H (by simp)

-- NOT PRINTED: function 191 (abi_NoEscape)

-- NOT PRINTED: function 183 (strings_Builder_copyCheck)

-- NOT PRINTED: function 192 (bytealg_MakeNoZero)

-- NOT PRINTED: function 184 (strings_Builder_grow)

-- NOT PRINTED: function 165 (strings_Builder_Grow)

-- NOT PRINTED: function 166 (strings_Builder_WriteString)

-- NOT PRINTED: function 167 (strings_Builder_String)

-- NOT PRINTED: function 126 (strings_Join)
def match_sign.f (a0 : Int) : Option (ByteArray) := if a0 = 5 then (some (⟨#[38]⟩ : ByteArray)) else (if a0 = 6 then (some (⟨#[124]⟩ : ByteArray)) else (some (⟨#[33]⟩ : ByteArray)))
set_option maxHeartbeats 8000000 in
set_option maxRecDepth 100000 in
theorem match_sign.calls (a0 : Int) (r : ByteArray) (w : World) (h : match_sign.f a0 = some r) :
  Calls Try.prog 159 #[.int .i64 a0] w fun e w' => e = .returned (.string r) ∧ Drawn0 w w' := by
 have H : (if a0 = 5 then (some (⟨#[38]⟩ : ByteArray)) else (if a0 = 6 then (some (⟨#[124]⟩ : ByteArray)) else (some (⟨#[33]⟩ : ByteArray)))) = some r := h
 clear h
 by_cases c2 : a0 = 5
 ·rw [if_pos c2] at H
  have c2b0 : (a0 == 5) = true := beq_iff_eq.mpr c2
  have c2b1 : (a0 != 5) = false := bne_eq_false_iff_eq.mpr c2
  clear c2
  obtain rfl := Option.some.inj H
  go_enter Try.func159, Try.ntmps159
  go_wp2
  go_ret
  exact ⟨by first | rfl | (simp; done) | (simp [*]; done), by repeat (first | exact Drawn0.refl _ | apply Drawn0.step)⟩
 ·rw [if_neg c2] at H
  have c2b0 : (a0 == 5) = false := beq_eq_false_iff_ne.mpr c2
  have c2b1 : (a0 != 5) = true := bne_iff_ne.mpr c2
  by_cases c3 : a0 = 6
  ·rw [if_pos c3] at H
   have c3b0 : (a0 == 6) = true := beq_iff_eq.mpr c3
   have c3b1 : (a0 != 6) = false := bne_eq_false_iff_eq.mpr c3
   clear c3
   obtain rfl := Option.some.inj H
   go_enter Try.func159, Try.ntmps159
   go_wp2
   go_ret
   exact ⟨by first | rfl | (simp; done) | (simp [*]; done), by repeat (first | exact Drawn0.refl _ | apply Drawn0.step)⟩
  ·rw [if_neg c3] at H
   have c3b0 : (a0 == 6) = false := beq_eq_false_iff_ne.mpr c3
   have c3b1 : (a0 != 6) = true := bne_iff_ne.mpr c3
   obtain rfl := Option.some.inj H
   go_enter Try.func159, Try.ntmps159
   go_wp2
   go_ret
   exact ⟨by first | rfl | (simp; done) | (simp [*]; done), by repeat (first | exact Drawn0.refl _ | apply Drawn0.step)⟩

-- NOT PRINTED: function 110 (match_text)

-- NOT PRINTED: function 61 (match_Text)

-- NOT PRINTED: function 52 (varvelaw12_awake)

-- NOT PRINTED: function 9 (varvelaw12_MatchChecks)

-- NOT PRINTED: function 10 (varvelaw12_MatchEvals)

-- NOT PRINTED: function 11 (varvelaw12_MatchLaws)
end Go.Proofs.Yteafilojjdfllaa.PAll
end
section
namespace Go.Proofs
open Go.Shelf
def Try.lays156_ren : Go.Shelf.Ren := ⟨fun | 156 => 126 | 165 => 165 | 166 => 166 | 169 => 167 | 240 => 183 | 241 => 184 | 276 => 191 | 277 => 192 | n => n, fun | 31 => 22 | 9 => 9 | 3 => 3 | 4 => 4 | 0 => 0 | 20 => 20 | 72 => 188 | 76 => 192 | 70 => 186 | 37 => 85 | 75 => 191 | 127 => 204 | 164 => 205 | 5 => 5 | 80 => 160 | n => n, fun | n => n⟩
theorem Try.lays156 : Go.Proofs.Lays.n156 Try.prog Try.lays156_ren := {
 mixed := by kernel_rfl
 f156 := Try.func126.trans (congrArg some (by kernel_rfl))
 f165 := Try.func165.trans (congrArg some (by kernel_rfl))
 f166 := Try.func166.trans (congrArg some (by kernel_rfl))
 f169 := Try.func167.trans (congrArg some (by kernel_rfl))
 f240 := Try.func183.trans (congrArg some (by kernel_rfl))
 f241 := Try.func184.trans (congrArg some (by kernel_rfl))
 f276 := Try.func191.trans (congrArg some (by kernel_rfl))
 f277 := Try.func192.trans (congrArg some (by kernel_rfl))
 t0 := Try.underlying0
 a0 := Try.isAgg0
 z0 := Try.sizeOf0
 v0 := Try.zeroValue0
 t3 := Try.underlying3
 a3 := Try.isAgg3
 z3 := Try.sizeOf3
 v3 := Try.zeroValue3
 t4 := Try.underlying4
 a4 := Try.isAgg4
 z4 := Try.sizeOf4
 v4 := Try.zeroValue4
 t9 := Try.underlying9
 a9 := Try.isAgg9
 z9 := Try.sizeOf9
 v9 := Try.zeroValue9
 t20 := Try.underlying20
 a20 := Try.isAgg20
 z20 := Try.sizeOf20
 v20 := Try.zeroValue20
 t31 := Try.underlying22
 a31 := Try.isAgg22
 z31 := Try.sizeOf22
 v31 := Try.zeroValue22
 t37 := Try.underlying85
 a37 := Try.isAgg85
 z37 := Try.sizeOf85
 v37 := Try.zeroValue85
 t70 := Try.underlying186
 a70 := Try.isAgg186
 z70 := Try.sizeOf186
 v70 := Try.zeroValue186
 t72 := Try.underlying188
 a72 := Try.isAgg188
 z72 := Try.sizeOf188
 v72 := Try.zeroValue188
 t75 := Try.underlying191
 a75 := Try.isAgg191
 z75 := Try.sizeOf191
 v75 := Try.zeroValue191
 t76 := Try.underlying192
 a76 := Try.isAgg192
 z76 := Try.sizeOf192
 v76 := Try.zeroValue192
 t127 := Try.underlying204
 a127 := Try.isAgg204
 z127 := Try.sizeOf204
 v127 := Try.zeroValue204
 t164 := Try.underlying205
 a164 := Try.isAgg205
 z164 := Try.sizeOf205
 v164 := Try.zeroValue205 }
theorem Try.Builder_Extra_156 : Builder.Extra Try.prog Try.lays156_ren := {
 sizeBuilder := by kernel_rfl
 liesBuilder := by kernel_rfl
 t5 := Try.underlying5
 a5 := Try.isAgg5
 z5 := Try.sizeOf5
 v5 := Try.zeroValue5
 infoByte := by kernel_rfl
 cellsByte := by kernel_rfl
 sizeByte := by kernel_rfl
 neB5 := by decide }
open Go.RowKit in
/-- No element: the empty string; the world is as it was. (Whatever the slice's address and capacity: a nil slice too.) (LAID: no walk: one application.) -/
theorem Try.strings_Join_none (a : Option Addr) (c : Nat) (sep : ByteArray) (w : World) :
  Calls Try.prog 126 #[.slice a 0 c, .string sep] w fun e w' => e = .returned (.string ⟨#[]⟩) ∧ w' = w := Any.strings_Join_none Try.lays156 Try.Builder_Extra_156 a c sep w
open Go.RowKit in
/-- strings.Join: "Join concatenates the elements of its first argument to create a single string. The separator string sep is placed between elements in the resulting string.": HOWEVER MANY ELEMENTS. Below the heap's end the world is as it was. (LAID: no walk: one application.) -/
theorem Try.strings_Join (bk o c : Nat) (xs : List ByteArray) (sep : ByteArray) (w : World) (hcells : ∀ (j : Nat) x, xs[j]? = some x → w.cell? ⟨bk, o + j, none⟩ = some (.string x)) (hbk : bk < w.heap.size) (hN : xs.length ≤ 140737488355328) (hcap : xs.length ≤ c) (hlen : (Lib.join (xs.map (·.data.toList)) sep.data.toList).length ≤ 140737488355328) :
  Calls Try.prog 126 #[.slice (some ⟨bk, o, none⟩) xs.length c, .string sep] w fun e w' => e = .returned (.string ⟨(Lib.join (xs.map (·.data.toList)) sep.data.toList).toArray⟩) ∧ Below w.heap.size w w' := Any.strings_Join Try.lays156 Try.Builder_Extra_156 bk o c xs sep w hcells hbk hN hcap hlen
def Try.lays137_ren : Go.Shelf.Ren := ⟨fun | 137 => 131 | 217 => 168 | 266 => 185 | n => n, fun | 9 => 9 | 5 => 5 | 3 => 3 | n => n, fun | n => n⟩
theorem Try.lays137 : Go.Proofs.Lays.n137 Try.prog Try.lays137_ren := {
 mixed := by kernel_rfl
 f137 := Try.func131.trans (congrArg some (by kernel_rfl))
 f217 := Try.func168.trans (congrArg some (by kernel_rfl))
 f266 := Try.func185.trans (congrArg some (by kernel_rfl))
 t3 := Try.underlying3
 a3 := Try.isAgg3
 z3 := Try.sizeOf3
 v3 := Try.zeroValue3
 t5 := Try.underlying5
 a5 := Try.isAgg5
 z5 := Try.sizeOf5
 v5 := Try.zeroValue5
 t9 := Try.underlying9
 a9 := Try.isAgg9
 z9 := Try.sizeOf9
 v9 := Try.zeroValue9 }
open Go.RowKit in
/-- strings.IndexByte: "IndexByte returns the index of the first instance of c in s, or -1 if c is not present in s.": IT RETURNS 'Lib.indexByte s c'; the world is as it was. (LAID: no walk: one application.) -/
theorem Try.strings_IndexByte (s : ByteArray) (c : Int) (w : World) :
  Calls Try.prog 131 #[.string s, .int .u8 c] w fun e w' => e = .returned (.int .i64 (Lib.indexByte s.data.toList c.toNat.toUInt8)) ∧ w' = w := Any.strings_IndexByte Try.lays137 s c w
def Try.lays217_ren : Go.Shelf.Ren := ⟨fun | 217 => 168 | 266 => 185 | n => n, fun | 9 => 9 | 5 => 5 | 3 => 3 | n => n, fun | n => n⟩
theorem Try.lays217 : Go.Proofs.Lays.n217 Try.prog Try.lays217_ren := {
 mixed := by kernel_rfl
 f217 := Try.func168.trans (congrArg some (by kernel_rfl))
 f266 := Try.func185.trans (congrArg some (by kernel_rfl))
 t3 := Try.underlying3
 a3 := Try.isAgg3
 z3 := Try.sizeOf3
 v3 := Try.zeroValue3
 t5 := Try.underlying5
 a5 := Try.isAgg5
 z5 := Try.sizeOf5
 v5 := Try.zeroValue5
 t9 := Try.underlying9
 a9 := Try.isAgg9
 z9 := Try.sizeOf9
 v9 := Try.zeroValue9 }
open Go.RowKit Go.Lib in
/-- internal/stringslite.IndexByte (what strings.IndexByte calls): IT RETURNS 'Lib.indexByte s c'; the world is as it was. (LAID: no walk: one application.) -/
theorem Try.stringslite_IndexByte (s : ByteArray) (c : Int) (w : World) :
  Calls Try.prog 168 #[.string s, .int .u8 c] w fun e w' => e = .returned (.int .i64 (Lib.indexByte s.data.toList c.toNat.toUInt8)) ∧ w' = w := Any.stringslite_IndexByte Try.lays217 s c w
end Go.Proofs
end
section
namespace Go.Proofs.Yteafilojjdfllaa
open Go Go.RowKit Go.Proofs.YteafilojjdfllaaW.PrintWords Go.Proofs.YteafilojjdfllaaW.PrintLast Go.Proofs.YteafilojjdfllaaW.PrintMore Go.Proofs.Yteafilojjdfllaa.PAll
def ints (l : List UInt8) : List Int := l.map fun b => (b.toNat : Int)
theorem ints_app (a b : List UInt8) : ints (a ++ b) = ints a ++ ints b := by simp [ints]
theorem ints_len (a : List UInt8) : (ints a).length = a.length := by simp [ints]
theorem and15 : ∀ n : Fin 256, Go.bits .and .u8 (n.val : Int) 15 = ((n.val % 16 : Nat) : Int) := by decide +kernel
theorem digit_at : ∀ n : Fin 16, bt (⟨#[48, 49, 50, 51, 52, 53, 54, 55, 56, 57, 97, 98, 99, 100, 101, 102]⟩ : ByteArray) (n.val : Int) = ((hexD n.val).toNat : Int) := by decide +kernel
theorem quoted_l0 (t : ByteArray) (ht : t.size ≤ 1000000) : ∀ (d i k : Nat) (x : List Int), i ≤ t.size → t.size ≤ i + d → 2 * d < k → x.length + 4 * d ≤ 100000000 →
  label_Quoted.l0 k t x (t.size : Int) (i : Int) = some (strOfNums (x ++ ints ((t.data.toList.drop i).flatMap encB) ++ [34]))
 | d, i, 0, _, _, _, h, _ => by omega
 | d, i, k + 1, x, hi, hd, hk, hx => by
  simp only [label_Quoted.l0]
  by_cases hlt : i < t.size
  ·obtain ⟨d, rfl⟩ : ∃ q, d = q + 1 := ⟨d - 1, by omega⟩
   obtain ⟨k, rfl⟩ : ∃ q, k = q + 1 := ⟨k - 1, by omega⟩
   have ih := fun x' (hx' : x'.length + 4 * d ≤ 100000000) => quoted_l0 t ht d (i + 1) k x' (by omega) (by omega) (by omega) hx'
   rw [if_pos (by omega), if_pos (by omega), if_pos (by omega), bt_nat t i hlt, bdrop t i hlt]
   generalize t.data.toList.getD i 0 = c
   have hc := c.toNat_lt
   have h92 : c = 92 ↔ (c.toNat : Int) = 92 := ⟨fun h => by rw [h]; rfl, fun h => UInt8.toNat_inj.1 (by have : (92 : UInt8).toNat = 92 := rfl; omega)⟩
   have h34 : c = 34 ↔ (c.toNat : Int) = 34 := ⟨fun h => by rw [h]; rfl, fun h => UInt8.toNat_inj.1 (by have : (34 : UInt8).toNat = 34 := rfl; omega)⟩
   rw [List.flatMap_cons, ints_app]
   have two : ∀ y : List Int, y.length ≤ 4 → ints (encB c) = y → (some y : Option (List Int)).bind (fun y2 => if x.length + y2.length < 140737488355328 then label_Quoted.l0 k t (x ++ y2) (t.size : Int) (wrap64 ((i : Int) + 1)) else none) = some (strOfNums (x ++ (ints (encB c) ++ ints ((t.data.toList.drop (i + 1)).flatMap encB)) ++ [34])) := by
    intro y hy e
    rw [Option.bind_some, if_pos (by omega), w64s i (by omega), ih (x ++ y) (by rw [List.length_append]; omega), e, List.append_assoc x y]
   have hex : 32 > (c.toNat : Int) ∨ (c.toNat : Int) ≥ 127 → ¬ c = 34 ∧ ¬ c = 92 → (if 0 ≤ ((c.toNat : Int) / 16) then (if ((c.toNat : Int) / 16) < 16 then (if 0 ≤ (Go.bits .and .u8 (c.toNat : Int) 15) then (if (Go.bits .and .u8 (c.toNat : Int) 15) < 16 then ((some (([92, 120, bt (⟨#[48, 49, 50, 51, 52, 53, 54, 55, 56, 57, 97, 98, 99, 100, 101, 102]⟩ : ByteArray) ((c.toNat : Int) / 16), bt (⟨#[48, 49, 50, 51, 52, 53, 54, 55, 56, 57, 97, 98, 99, 100, 101, 102]⟩ : ByteArray) (Go.bits .and .u8 (c.toNat : Int) 15)] : List Int) : List Int)).bind fun y2 => (if x.length + y2.length < 140737488355328 then (label_Quoted.l0 k t (x ++ y2) (t.size : Int) (wrap64 ((i : Int) + 1))) else (none))) else (none)) else (none)) else (none)) else (none)) = some (strOfNums (x ++ (ints (encB c) ++ ints ((t.data.toList.drop (i + 1)).flatMap encB)) ++ [34])) := by
    intro h1 h2
    have ha := and15 ⟨c.toNat, hc⟩
    have hd1 := digit_at ⟨c.toNat / 16, by omega⟩
    have hd2 := digit_at ⟨c.toNat % 16, by omega⟩
    simp only at ha hd1 hd2
    rw [ha, if_pos (by omega), if_pos (by omega), if_pos (by omega), if_pos (by omega)]
    rw [show (c.toNat : Int) / 16 = ((c.toNat / 16 : Nat) : Int) by omega, hd1, hd2]
    refine two _ (by simp) ?_
    unfold encB
    rw [if_neg (by rintro (h | h); exact h2.1 h; exact h2.2 h), if_pos (by omega)]
    rfl
   by_cases e34 : (c.toNat : Int) = 34
   ·rw [if_pos e34]
    simp only [label_Quoted.j1, if_true]
    exact two _ (by simp) (by unfold encB; rw [if_pos (Or.inl (h34.2 e34))]; rfl)
   ·rw [if_neg e34]
    by_cases e92 : (c.toNat : Int) = 92
    ·simp only [label_Quoted.j1, e92, beq_self_eq_true, if_true]
     exact two _ (by simp) (by unfold encB; rw [if_pos (Or.inr (h92.2 e92))]; simp [ints, e92])
    ·have hb : ((c.toNat : Int) == 92) = false := by rw [beq_eq_false_iff_ne]; exact e92
     simp only [label_Quoted.j1, hb]
     rw [if_neg (by decide)]
     have hno : ¬ c = 34 ∧ ¬ c = 92 := ⟨fun h => e34 (h34.1 h), fun h => e92 (h92.1 h)⟩
     by_cases e1 : (c.toNat : Int) < 32
     ·rw [if_pos e1]
      exact hex (Or.inl (by omega)) hno
     ·rw [if_neg e1]
      by_cases e2 : (c.toNat : Int) ≥ 127
      ·rw [if_pos e2]
       exact hex (Or.inr e2) hno
      ·rw [if_neg e2, if_pos (by omega), w64s i (by omega), ih (x ++ [(c.toNat : Int)]) (by rw [List.length_append, List.length_singleton]; omega)]
       have : encB c = [c] := by
        unfold encB
        rw [if_neg (by rintro (h | h); exact hno.1 h; exact hno.2 h), if_neg (by omega)]
       rw [this]
       simp [ints]
  ·rw [if_neg (by omega), if_pos (by omega), List.drop_of_length_le (by simp; omega)]
   simp [ints]
theorem label_Quoted.val (t : ByteArray) (ht : t.size ≤ 1000000) (k : Nat) (hk : 2 * t.size < k) : label_Quoted.f k t = some ⟨(quoteT t).toArray⟩ := by
 have h := quoted_l0 t ht t.size 0 k [34] (by omega) (by omega) hk (by simp; omega)
 rw [label_Quoted.f]
 rw [show ((0 : Nat) : Int) = 0 from rfl, List.drop_zero] at h
 rw [h, ← Lib.Lz.strOfNums_map]
 simp [quoteT, quoteL, ints]
/-- a text between quotes -/
def qB (v : ByteArray) : ByteArray := ⟨(quoteT v).toArray⟩
theorem quoted125 (w : World) (t : ByteArray) (ht : t.size ≤ 1000000) : Calls Try.prog 125 #[.string t] w fun e w' => e = .returned (.string (qB t)) ∧ Below w.heap.size w w' :=
 label_Quoted.calls (2 * t.size + 1) t _ w (label_Quoted.val t ht _ (Nat.lt_succ_self _))
theorem infoSt : (Try.prog.info? 9).map (fun i => (i.zero, i.size, i.bytes)) = some (some (.string ByteArray.empty), 1, 16) := by kernel_rfl
/-- strings.Join at a comma, over a list of the call's own -/
theorem join126 (w : World) (base : Nat) (v : Value) (xs : List ByteArray) (ho : w.ownsRow base 9 1 v xs.length (encs Value.string xs)) (hn : xs.length ≤ 1000000) (hl : (commas (xs.map (·.data.toList))).length ≤ 140737488355328) :
  Calls Try.prog 126 #[v, .string ⟨#[44]⟩] w fun e w' => e = .returned (.string ⟨(commas (xs.map (·.data.toList))).toArray⟩) ∧ Below w.heap.size w w' := by
 cases xs with
 | nil =>
  obtain ⟨A, c, rfl⟩ := own_slice ho
  exact (Try.strings_Join_none A c ⟨#[44]⟩ w).mono fun e w' ⟨he, hw⟩ => ⟨he, by rw [hw]; exact Below.refl _ _⟩
 | cons x xs =>
  have hlt := own_lt ho
  have hle := own_slice ho
  rcases ho.2 with ⟨_, h0⟩ | ⟨g, cap, cur, rfl, hb, hg, hcap, _⟩
  ·simp at h0
  ·have h := Try.strings_Join g 0 cap (x :: xs) ⟨#[44]⟩ w (fun j u hu => by
    have := ho.cells (g := g) rfl j (.string u) (by rw [encs_get (d := ByteArray.empty) (x :: xs) j (List.getElem?_eq_some_iff.1 hu).1]; simp [List.getD_eq_getElem?_getD, hu])
    rw [add_plain] at this
    rwa [Nat.zero_add]) (hlt g (by simp [Value.ownBlock])) (by omega) hcap (by rw [show (⟨#[44]⟩ : ByteArray).data.toList = [44] from rfl, commas_join]; exact hl)
   rw [show (⟨#[44]⟩ : ByteArray).data.toList = [44] from rfl, commas_join] at h
   exact h
theorem ba_ext {a b : ByteArray} (h : a.data.toList = b.data.toList) : a = b := by
 cases a; cases b
 simp only at h
 rw [Array.toList_inj.1 h]
theorem takeD {α : Type} (xs : List α) (z : α) (j : Nat) (h : j < xs.length) : xs.take (j + 1) = xs.take j ++ [xs.getD j z] := by
 rw [List.take_succ_eq_append_getElem h]; simp [List.getD_eq_getElem?_getD, h]
theorem qB_map (vs : List ByteArray) : (vs.map qB).map (·.data.toList) = vs.map quoteT := by simp [qB, Function.comp_def]
theorem add_to {a b c : ByteArray} (h : a.data.toList ++ b.data.toList = c.data.toList) (hs : c.data.toList.length ≤ 1000000000) : Op.stringOp .add a b = pure (.string c) := by
 have e : c = a ++ b := ba_ext (by rw [← h]; simp [ByteArray.data_append])
 have e1 : a.data.toList.length = a.size := by simp
 have e2 : b.data.toList.length = b.size := by simp
 have hl : a.size + b.size ≤ 1000000000 := by rw [← h, List.length_append] at hs; omega
 unfold Op.stringOp
 simp only
 rw [if_neg (by rw [show IntKind.i64.max = 9223372036854775807 from rfl]; omega), e]
end Go.Proofs.Yteafilojjdfllaa
end
section
namespace Go.Proofs.Yteafilojjdfllaa
open Go
/-- As Q; by a goto to label l: J l. -/
def jumpsTo (J : Nat → Act → World → Prop) (Q : Exit → Act → World → Prop) : Exit → Act → World → Prop
 | .goto l, a, w => J l a w
 | e, a, w => Q e a w
theorem jumps_ret (J : Nat → Act → World → Prop) (Q : Exit → Act → World → Prop) : jumpsTo J Q .ret = Q .ret := rfl
section
variable {P : Program} {a : Act} {w : World} {Q : Exit → Act → World → Prop}
theorem wp_scope_many {c : Code} (J : Nat → Nat → Act → World → Prop)
  (first : (∀ l n a w, J l n a w → ∃ rest, findLabel c l = some rest ∧ rest.wp P (jumpsTo (fun l' a' w' => ∃ m, J l' m a' w') Q) a w) → c.wp P (jumpsTo (fun l a' w' => ∃ n, J l n a' w') Q) a w)
  (pass : ∀ l n a w, J l n a w → ∃ rest, findLabel c l = some rest ∧ rest.wp P (jumpsTo (fun l' a' w' => ∃ m, m < n ∧ J l' m a' w') Q) a w) : (Code.scope c).wp P Q a w := by
 intro b k cs
 have hg : ∀ l rest, findLabel c l = some rest → gotoIn l (.inScope c :: k) = some (.code rest :: .inScope c :: k) := fun l rest hf => by simp [gotoIn, hf]
 have key : ∀ n l a w, J l n a w → ∃ rest, findLabel c l = some rest ∧ ∃ e a' w', Q e a' w' ∧ Arrives P (lone (b.at a (.code rest :: .inScope c :: k)) cs w) b k cs e a' w' := by
  intro n
  induction n using Nat.strongRecOn with
  | _ n ih =>
   intro l a w hJ
   obtain ⟨rest, hf, hw⟩ := pass l n a w hJ
   refine ⟨rest, hf, ?_⟩
   obtain ⟨e, a₁, w₁, hq, harr⟩ := hw b (.inScope c :: k) cs
   cases e with
   | normal => exact ⟨.normal, a₁, w₁, hq, Steps.trans harr (.one step_inScope)⟩
   | exit id => exact ⟨.exit id, a₁, w₁, hq, fun k' hk => harr k' (by simp [exitTo, hk])⟩
   | goto l' =>
    obtain ⟨m, hlt, hJ'⟩ := hq
    obtain ⟨rest', hf', e₂, a₂, w₂, hq₂, harr₂⟩ := ih m hlt l' a₁ w₁ hJ'
    exact ⟨e₂, a₂, w₂, hq₂, .of_steps (harr _ (hg _ _ hf')) harr₂⟩
   | ret => exact ⟨_, a₁, w₁, hq, harr⟩
   | panic ch => exact ⟨_, a₁, w₁, hq, harr⟩
   | outgrown => exact ⟨_, a₁, w₁, hq, harr⟩
 have weak : ∀ l n a w, J l n a w → ∃ rest, findLabel c l = some rest ∧ rest.wp P (jumpsTo (fun l' a' w' => ∃ m, J l' m a' w') Q) a w := by
  intro l n a w hJ
  obtain ⟨rest, hf, hw⟩ := pass l n a w hJ
  refine ⟨rest, hf, Code.wp_mono ?_ hw⟩
  intro e a w h
  cases e with
  | goto l' => obtain ⟨m, _, hm⟩ := h; exact ⟨m, hm⟩
  | normal => exact h
  | exit id => exact h
  | ret => exact h
  | panic ch => exact h
  | outgrown => exact h
 obtain ⟨e, a₁, w₁, hq, harr⟩ := first weak b (.inScope c :: k) cs
 cases e with
 | normal => exact ⟨.normal, a₁, w₁, hq, .head step_scope (Steps.trans harr (.one step_inScope))⟩
 | exit id => exact ⟨.exit id, a₁, w₁, hq, fun k' hk => .head step_scope (harr k' (by simp [exitTo, hk]))⟩
 | goto l' =>
  obtain ⟨n, hJ'⟩ := hq
  obtain ⟨rest', hf', e₂, a₂, w₂, hq₂, harr₂⟩ := key n l' a₁ w₁ hJ'
  exact ⟨e₂, a₂, w₂, hq₂, .of_steps (.head step_scope (harr _ (hg _ _ hf'))) harr₂⟩
 | ret => exact ⟨_, a₁, w₁, hq, .of_steps (.one step_scope) harr⟩
 | panic ch => exact ⟨_, a₁, w₁, hq, .of_steps (.one step_scope) harr⟩
 | outgrown => exact ⟨_, a₁, w₁, hq, .of_steps (.one step_scope) harr⟩
end
end Go.Proofs.Yteafilojjdfllaa
end
section
namespace Go.Proofs.Yteafilojjdfllaa
open Go Go.RowKit Go.Proofs.YteafilojjdfllaaW.PrintWords Go.Proofs.YteafilojjdfllaaW.PrintLast Go.Proofs.YteafilojjdfllaaW.PrintMore Go.Proofs.Yteafilojjdfllaa.PAll
set_option linter.unusedVariables false
set_option linter.unusedSimpArgs false
def unqRet (n : Nat) : Option (List UInt8 × List UInt8) → Value
 | none => .tuple #[.string ⟨#[]⟩, .int .i64 0, .bool false]
 | some (v, t) => .tuple #[.string ⟨v.toArray⟩, .int .i64 ((n : Int) - t.length), .bool true]
def bN (s : ByteArray) (n : Nat) : UInt8 := s.data.toList.getD n 0
theorem bN_at (s : ByteArray) (n : Nat) (x : UInt8) (hx : bN s n = x) : ∀ h : n < s.size, ((s[n]'h).toNat : Int) = (x.toNat : Int) := fun h => by
 have h' : n < s.data.size := h
 rw [← hx, bN, List.getD_eq_getElem?_getD, Array.getElem?_toList, Array.getElem?_eq_getElem h']
 rfl
theorem bN_drop (s : ByteArray) (n : Nat) (h : n < s.size) : s.data.toList.drop n = bN s n :: s.data.toList.drop (n + 1) := bdrop s n h
theorem unq_nil {step : List UInt8 → Step} : unqW step [] = none := by rw [unqW]
theorem unq_cons {step : List UInt8 → Step} (x : UInt8) (r : List UInt8) : unqW step (x :: r) = match step (x :: r) with
  | .stop => none
  | .done => some ([], r)
  | .byte c n => (unqW step (r.drop n)).map (fun q => (c :: q.1, q.2)) := by first | (rw [unqW]; rfl) | rw [unqW]
theorem unq_end (s : ByteArray) (j : Nat) (h : s.size ≤ j) : unqW stepP (s.data.toList.drop j) = none := by
 rw [List.drop_of_length_le (by simpa using h), unq_nil]
theorem unq_34 (s : ByteArray) (j : Nat) (h : j < s.size) (hx : bN s j = 34) : unqW stepP (s.data.toList.drop j) = some ([], s.data.toList.drop (j + 1)) := by
 rw [bN_drop s j h, hx, unq_cons, stepP_cons, if_pos rfl]
theorem unq_raw (s : ByteArray) (j : Nat) (h : j < s.size) (x : UInt8) (hx : bN s j = x) (h1 : x ≠ 34) (h2 : x ≠ 92) : unqW stepP (s.data.toList.drop j) = (unqW stepP (s.data.toList.drop (j + 1))).map (fun q => (x :: q.1, q.2)) := by
 rw [bN_drop s j h, hx, unq_cons, stepP_cons, if_neg h1, if_neg h2]
 rfl
theorem drop_getD (s : ByteArray) (j i : Nat) : (s.data.toList.drop j).getD i 0 = bN s (j + i) := by
 rw [bN, List.getD_eq_getElem?_getD, List.getD_eq_getElem?_getD, List.getElem?_drop]
theorem drop_len (s : ByteArray) (j : Nat) : (s.data.toList.drop j).length = s.size - j := by
 rw [List.length_drop]; simp
theorem unq_hex (s : ByteArray) (j : Nat) (h : j + 4 ≤ s.size) (hx : bN s j = 92) (h1 : bN s (j + 1) = 120) (y z : UInt8) (hy : bN s (j + 2) = y) (hz : bN s (j + 3) = z) : unqW stepP (s.data.toList.drop j) = if hexV y < 0 ∨ hexV z < 0 then none else (unqW stepP (s.data.toList.drop (j + 4))).map (fun q => (hexB y z :: q.1, q.2)) := by
 rw [bN_drop s j (by omega), hx, unq_cons, stepP_cons, if_neg (by decide), if_pos rfl, drop_getD, drop_getD, drop_getD, drop_len, if_pos ⟨by omega, h1⟩, hy, hz]
 split <;> rename_i e <;> split at e <;> cases e <;> rename_i e2
 ·rw [if_pos e2]
 ·rw [if_neg e2, List.drop_drop]
theorem unq_short (s : ByteArray) (j : Nat) (h : j < s.size) (h2 : s.size < j + 2) (hx : bN s j = 92) : unqW stepP (s.data.toList.drop j) = none := by
 rw [bN_drop s j (by omega), hx, unq_cons, stepP_cons, if_neg (by decide), if_pos rfl, drop_getD, drop_getD, drop_getD, drop_len, if_neg (fun h => by omega), if_pos (by omega)]
theorem unq_next (s : ByteArray) (j : Nat) (h : j + 2 ≤ s.size) (hx : bN s j = 92) (h1 : ¬ (j + 4 ≤ s.size ∧ bN s (j + 1) = 120)) (y : UInt8) (hy : bN s (j + 1) = y) : unqW stepP (s.data.toList.drop j) = (unqW stepP (s.data.toList.drop (j + 2))).map (fun q => (y :: q.1, q.2)) := by
 rw [bN_drop s j (by omega), hx, unq_cons, stepP_cons, if_neg (by decide), if_pos rfl, drop_getD, drop_getD, drop_getD, drop_len, if_neg (fun h => h1 ⟨by omega, h.2⟩), if_neg (by omega)]
 simp only [Nat.add_zero, hy, List.drop_drop]
theorem un_toNat {x : UInt8} {n : Nat} (hn : n < 256) : (x.toNat : Int) = (n : Int) ↔ x = n.toUInt8 := by
 constructor
 ·intro h
  refine UInt8.toNat_inj.1 ?_
  simp
  omega
 ·rintro rfl
  simp
  omega
theorem hexV_fin : ∀ n : Fin 256, -1 ≤ hexV n.val.toUInt8 ∧ hexV n.val.toUInt8 ≤ 15 := by decide +kernel
theorem hexV_range (c : UInt8) : -1 ≤ hexV c ∧ hexV c ≤ 15 := by
 have h := hexV_fin ⟨c.toNat, c.toNat_lt⟩
 simp only [show c.toNat.toUInt8 = c from by simp] at h
 exact h
theorem or16 : ∀ a b : Fin 16, Go.bits .or .i64 ((a.val : Int) * 16) (b.val : Int) % 256 = ((a.val * 16 + b.val : Nat) : Int) := by decide +kernel
theorem or_hex {y z : UInt8} {v1 v2 : Int} (h1 : hexV y = v1) (h2 : hexV z = v2) (p1 : 0 ≤ v1) (p2 : 0 ≤ v2) : Go.bits .or .i64 (v1 * 16) v2 % 256 = ((hexB y z).toNat : Int) := by
 have r1 := (hexV_range y).2
 have r2 := (hexV_range z).2
 rw [h1] at r1
 rw [h2] at r2
 have h := or16 ⟨v1.toNat, by omega⟩ ⟨v2.toNat, by omega⟩
 simp only at h
 rw [Int.toNat_of_nonneg p1, Int.toNat_of_nonneg p2] at h
 rw [h, hexB, h1, h2]
 simp
 omega
theorem idx131 (w : World) (b : UInt8) (v : Int) (hv : hexV b = v) : Calls Try.prog 131 #[.string ⟨#[48, 49, 50, 51, 52, 53, 54, 55, 56, 57, 97, 98, 99, 100, 101, 102]⟩, .int .u8 (b.toNat : Int)] w fun e w' => e = .returned (.int .i64 v) ∧ ∃ m, w' = w.drewN m := by
 refine (Try.strings_IndexByte _ _ w).mono ?_
 rintro e w' ⟨rfl, rfl⟩
 refine ⟨?_, 0, rfl⟩
 rw [← hv, Int.toNat_natCast]
 unfold hexV digL
 simp
theorem val_34 (s : ByteArray) (j : Nat) (h : j < s.size) (hx : bN s j = 34) : valW stepP (s.data.toList.drop j) = (unqW stepP (s.data.toList.drop (j + 1))).map (fun q => ([] ++ q.1, q.2)) := by
 rw [bN_drop s j h, hx]
 show unqW stepP _ = _
 cases unqW stepP (s.data.toList.drop (j + 1)) <;> rfl
theorem val_end (s : ByteArray) (j : Nat) (h : s.size ≤ j) : valW stepP (s.data.toList.drop j) = none := by
 rw [List.drop_of_length_le (by simpa using h)]; rfl
theorem val_no (s : ByteArray) (j : Nat) (h : j < s.size) (hx : bN s j ≠ 34) : valW stepP (s.data.toList.drop j) = none := by
 rw [bN_drop s j h]
 generalize bN s j = y at hx
 unfold valW
 split
 ·rename_i e; cases e; exact absurd rfl hx
 ·rfl
theorem map_snoc {Q q : Option (List UInt8 × List UInt8)} {xs : List UInt8} {c : UInt8} {r : Option (List UInt8 × List UInt8)} (h : Q = q.map (fun q => (xs ++ q.1, q.2))) (hq : q = r.map (fun q => (c :: q.1, q.2))) : Q = r.map (fun q => ((xs ++ [c]) ++ q.1, q.2)) := by
 rw [h, hq]
 cases r <;> simp
theorem map_none' {Q q : Option (List UInt8 × List UInt8)} {xs : List UInt8} (h : Q = q.map (fun q => (xs ++ q.1, q.2))) (hq : q = none) : Q = none := by rw [h, hq]; rfl
/-- the frame at a label -/
def unqF (s : ByteArray) (j : Nat) (o : Value) (a : Act) : Prop :=
 ∃ f : Nat → Value, a = { tmps := #[.string s, .int .i64 (j : Int), undef, undef, f 4, f 5, f 6, o, f 8, f 9, f 10, f 11, f 12, f 13, f 14, f 15, f 16, f 17, f 18, f 19, f 20, f 21, f 22, f 23, f 24, f 25, f 26, f 27, f 28, f 29, f 30, f 31, f 32, f 33, f 34, f 35, f 36, f 37, f 38, f 39, f 40, f 41, f 42, f 43, f 44, f 45, f 46, f 47, f 48, f 49, f 50, f 51, f 52, f 53, f 54, f 55, f 56, f 57, f 58, f 59, f 60, f 61, f 62, f 63, f 64, f 65, f 66, f 67, f 68, f 69, f 70, f 71, f 72, f 73, f 74, f 75, f 76, f 77, f 78, f 79, f 80, f 81, f 82, f 83, f 84, f 85, f 86, f 87, f 88, f 89, f 90, f 91, f 92, f 93, f 94, f 95, f 96], defers := [] }
theorem unqF_mk (s : ByteArray) (j : Nat) (o : Value) (T : Array Value) (h : T = #[.string s, .int .i64 (j : Int), undef, undef, T.getD 4 undef, T.getD 5 undef, T.getD 6 undef, o, T.getD 8 undef, T.getD 9 undef, T.getD 10 undef, T.getD 11 undef, T.getD 12 undef, T.getD 13 undef, T.getD 14 undef, T.getD 15 undef, T.getD 16 undef, T.getD 17 undef, T.getD 18 undef, T.getD 19 undef, T.getD 20 undef, T.getD 21 undef, T.getD 22 undef, T.getD 23 undef, T.getD 24 undef, T.getD 25 undef, T.getD 26 undef, T.getD 27 undef, T.getD 28 undef, T.getD 29 undef, T.getD 30 undef, T.getD 31 undef, T.getD 32 undef, T.getD 33 undef, T.getD 34 undef, T.getD 35 undef, T.getD 36 undef, T.getD 37 undef, T.getD 38 undef, T.getD 39 undef, T.getD 40 undef, T.getD 41 undef, T.getD 42 undef, T.getD 43 undef, T.getD 44 undef, T.getD 45 undef, T.getD 46 undef, T.getD 47 undef, T.getD 48 undef, T.getD 49 undef, T.getD 50 undef, T.getD 51 undef, T.getD 52 undef, T.getD 53 undef, T.getD 54 undef, T.getD 55 undef, T.getD 56 undef, T.getD 57 undef, T.getD 58 undef, T.getD 59 undef, T.getD 60 undef, T.getD 61 undef, T.getD 62 undef, T.getD 63 undef, T.getD 64 undef, T.getD 65 undef, T.getD 66 undef, T.getD 67 undef, T.getD 68 undef, T.getD 69 undef, T.getD 70 undef, T.getD 71 undef, T.getD 72 undef, T.getD 73 undef, T.getD 74 undef, T.getD 75 undef, T.getD 76 undef, T.getD 77 undef, T.getD 78 undef, T.getD 79 undef, T.getD 80 undef, T.getD 81 undef, T.getD 82 undef, T.getD 83 undef, T.getD 84 undef, T.getD 85 undef, T.getD 86 undef, T.getD 87 undef, T.getD 88 undef, T.getD 89 undef, T.getD 90 undef, T.getD 91 undef, T.getD 92 undef, T.getD 93 undef, T.getD 94 undef, T.getD 95 undef, T.getD 96 undef]) : unqF s j o { tmps := T, defers := [] } := ⟨fun k => T.getD k undef, congrArg (fun t => ({ tmps := t, defers := [] } : Act)) h⟩
def unqJ (w : World) (s : ByteArray) (Q : Option (List UInt8 × List UInt8)) (n : Nat) (j : Nat) (a : Act) (w' : World) : Prop :=
 ∃ (o : Value) (xs : List UInt8), unqF s j o a ∧ j ≤ s.size ∧ (Kd.int .u8).R 5 w' w.heap.size (fun _ => True) o (ints xs) ∧ Q = (unqW stepP (s.data.toList.drop j)).map (fun q => (xs ++ q.1, q.2)) ∧ Below w.heap.size w w' ∧ xs.length ≤ j
def unqL (w : World) (s : ByteArray) (Q : Option (List UInt8 × List UInt8)) (l n : Nat) (a : Act) (w' : World) : Prop :=
 (l = 0 ∧ ∃ j, n = 2 * (s.size - j) + 1 ∧ unqJ w s Q n j a w') ∨ (l = 1 ∧ ∃ j, n = 0 ∧ j < s.size ∧ bN s j = 34 ∧ unqJ w s Q n j a w') ∨ (l = 2 ∧ ∃ j, n = 2 * (s.size - j) ∧ j < s.size ∧ bN s j = 92 ∧ unqJ w s Q n j a w')
set_option maxRecDepth 100000 in
set_option maxHeartbeats 8000000 in
theorem unq132 (w : World) (s : ByteArray) (i : Nat) (hi : i ≤ s.size) (hs : s.size ≤ 1000000000) :
  Calls Try.prog 132 #[.string s, .int .i64 i] w fun e w' => e = .returned (unqRet s.size (valW stepP (s.data.toList.drop i))) ∧ Below w.heap.size w w' := by
 obtain ⟨Q, hQ⟩ : ∃ Q, valW stepP (s.data.toList.drop i) = Q := ⟨_, rfl⟩
 rw [hQ]
 have HQ := Lib.hid hQ
 clear hQ
 go_enter Try.func132, Try.ntmps132
 go_wp2
 refine wp_scope_many (unqL w s Q) ?first ?pass
 case first =>
  intro hpass
  have HB := Lib.hid (Below.refl w.heap.size w)
  by_cases hlt : i < s.size
  ·obtain ⟨x, hx⟩ : ∃ x, bN s i = x := ⟨_, rfl⟩
   have hx0 := bN_at s i x hx
   have hge : decide (s.size ≤ i) = false := decide_eq_false (by omega)
   by_cases e34 : (x.toNat : Int) = 34
   ·have HQ2 := Lib.hid (HQ.out.symm.trans (val_34 s i hlt (hx.trans ((un_toNat (n := 34) (by decide)).1 e34))))
    clear hx
    go_wp2
    go_step3
    clear e34 hx0 hge
    have hHE : ∃ j : Nat, j = i + 1 ∧ (i : Int) + 1 = (j : Int) ∧ Hid (Q = (unqW stepP (s.data.toList.drop j)).map (fun q => (([] : List UInt8) ++ q.1, q.2))) := ⟨i + 1, rfl, rfl, HQ2⟩
    obtain ⟨j, ej, ejI, HE⟩ := hHE
    rw [ejI]
    have hjs : j ≤ s.size := by omega
    clear ej ejI HQ2
    have HR := Lib.hid (Kd.R_nil (d := Kd.int .u8) 5 w w.heap.size (fun _ => True))
    obtain ⟨o, eo⟩ : ∃ o, Value.slice none 0 0 = o := ⟨_, rfl⟩
    rw [eo] at HR
    obtain ⟨xs, exs⟩ : ∃ xs : List UInt8, ([] : List UInt8) = xs := ⟨_, rfl⟩
    have hl : xs.length ≤ j := by rw [← exs]; exact Nat.zero_le _
    rw [exs] at HE
    have HR := Lib.hid (show (Kd.int .u8).R 5 w w.heap.size (fun _ => True) o (ints xs) from by rw [← exs]; exact HR.out)
    clear exs
    rw [eo]
    clear eo
    by_cases hlj : j < s.size
    ·obtain ⟨x, hx⟩ : ∃ x, bN s j = x := ⟨_, rfl⟩
     have hx0 := bN_at s j x hx
     have hge : decide (s.size ≤ j) = false := decide_eq_false (by omega)
     have HX := Lib.hid hx
     clear hx
     by_cases e34 : (x.toNat : Int) = 34
     ·go_wp2
      go_step3
      exact (show ∃ m, unqL w s Q 1 m _ _ from ⟨0, Or.inr (Or.inl ⟨rfl, j, rfl, hlj, HX.out.trans ((un_toNat (n := 34) (by decide)).1 e34), o, xs, unqF_mk s j o _ rfl, hjs, HR.out, HE.out, HB.out, hl⟩)⟩)
     ·have n34 : ((x.toNat : Int) == 34) = false := beq_eq_false_iff_ne.2 e34
      by_cases e92 : (x.toNat : Int) = 92
      ·go_wp2
       go_step3
       exact (show ∃ m, unqL w s Q 2 m _ _ from ⟨_, Or.inr (Or.inr ⟨rfl, j, rfl, hlj, HX.out.trans ((un_toNat (n := 92) (by decide)).1 e92), o, xs, unqF_mk s j o _ rfl, hjs, HR.out, HE.out, HB.out, hl⟩)⟩)
      ·have n92 : ((x.toNat : Int) == 92) = false := beq_eq_false_iff_ne.2 e92
       have HE2 := Lib.hid (map_snoc HE.out (unq_raw s j hlj x HX.out (fun e => e34 (by rw [e]; rfl)) (fun e => e92 (by rw [e]; rfl))))
       go_wp2_with (at_builtin; refine Kd.R_append (Kd.int .u8) (w0 := w) w.heap.size rfl (.tmp 33) (.tmp 37) 85 5 (.int .u8 0) 1 rfl Try.underlying85 info5 rfl (by decide) (by omega) o (ints xs) ((x.toNat : Int)) [.int .u8 ((x.toNat : Int))] (fun _ => True) (fun _ => False) rfl rfl rfl (fun _ hk => hk.elim) (fun _ _ => trivial) HR.out HB.out (below_size HB.out) (by rw [ints_len]; omega) ?_; intro v1 w1 hown1 hbel1 hg1 hat1; clear hg1 hat1)
       have HO := Lib.hid (show (Kd.int .u8).R 5 w1 w.heap.size (fun _ => True) v1 (ints (xs ++ [x])) from by rw [ints_app]; exact hown1)
       have HB1 := Lib.hid hbel1
       clear hown1 hbel1
       go_wp2
       go_step3
       exact (show ∃ m, unqL w s Q 0 m _ _ from ⟨_, Or.inl ⟨rfl, j + 1, rfl, v1, xs ++ [x], unqF_mk s (j + 1) v1 _ rfl, by omega, HO.out, HE2.out, HB1.out, by rw [List.length_append, List.length_singleton]; omega⟩⟩)
    ·have hge : decide (s.size ≤ j) = true := decide_eq_true (by omega)
     have HE2 := Lib.hid (map_none' HE.out (unq_end s j (by omega)))
     go_wp2
     rw [jumps_ret]
     go_ret3
     exact ⟨by rw [HE2.out]; rfl, HB.out⟩
   ·have HQ2 := Lib.hid (HQ.out.symm.trans (val_no s i hlt (fun e => e34 ((un_toNat (n := 34) (by decide)).2 (hx.symm.trans e)))))
    have n34 : ((x.toNat : Int) == 34) = false := beq_eq_false_iff_ne.2 e34
    have n34b : ((x.toNat : Int) != 34) = true := by simp [bne, n34]
    clear hx
    go_wp2
    rw [jumps_ret]
    go_ret3
    exact ⟨by rw [HQ2.out]; rfl, HB.out⟩
  ·have HQ2 := Lib.hid (HQ.out.symm.trans (val_end s i (by omega)))
   have hge : decide (s.size ≤ i) = true := decide_eq_true (by omega)
   go_wp2
   rw [jumps_ret]
   go_ret3
   exact ⟨by rw [HQ2.out]; rfl, HB.out⟩
 case pass =>
  rintro l n a w' (⟨rfl, j, rfl, hJ⟩ | ⟨rfl, j, rfl, hj, hx, hJ⟩ | ⟨rfl, j, rfl, hj, hx, hJ⟩)
  ·refine ⟨_, rfl, ?_⟩
   obtain ⟨o, xs, ⟨f, rfl⟩, hj, hR, hE, hB, hl⟩ := hJ
   have HR := Lib.hid hR
   have HE := Lib.hid hE
   have HB := Lib.hid hB
   clear hR hE hB
   by_cases hlt : j < s.size
   ·obtain ⟨x, hx⟩ : ∃ x, bN s j = x := ⟨_, rfl⟩
    have hx0 := bN_at s j x hx
    have hge : decide (s.size ≤ j) = false := decide_eq_false (by omega)
    have HX := Lib.hid hx
    clear hx
    by_cases e34 : (x.toNat : Int) = 34
    ·go_wp2
     go_step3
     exact (show ∃ m, m < 2 * (s.size - j) + 1 ∧ unqL w s Q 1 m _ _ from ⟨0, by omega, Or.inr (Or.inl ⟨rfl, j, rfl, hlt, HX.out.trans ((un_toNat (n := 34) (by decide)).1 e34), o, xs, unqF_mk s j o _ rfl, hj, HR.out, HE.out, HB.out, hl⟩)⟩)
    ·have n34 : ((x.toNat : Int) == 34) = false := beq_eq_false_iff_ne.2 e34
     by_cases e92 : (x.toNat : Int) = 92
     ·go_wp2
      go_step3
      exact (show ∃ m, m < 2 * (s.size - j) + 1 ∧ unqL w s Q 2 m _ _ from ⟨_, by omega, Or.inr (Or.inr ⟨rfl, j, rfl, hlt, HX.out.trans ((un_toNat (n := 92) (by decide)).1 e92), o, xs, unqF_mk s j o _ rfl, hj, HR.out, HE.out, HB.out, hl⟩)⟩)
     ·have n92 : ((x.toNat : Int) == 92) = false := beq_eq_false_iff_ne.2 e92
      have HE2 := Lib.hid (map_snoc HE.out (unq_raw s j hlt x HX.out (fun e => e34 (by rw [e]; rfl)) (fun e => e92 (by rw [e]; rfl))))
      go_wp2_with (at_builtin; refine Kd.R_append (Kd.int .u8) (w0 := w) w.heap.size rfl (.tmp 33) (.tmp 37) 85 5 (.int .u8 0) 1 rfl Try.underlying85 info5 rfl (by decide) (by omega) o (ints xs) ((x.toNat : Int)) [.int .u8 ((x.toNat : Int))] (fun _ => True) (fun _ => False) rfl rfl rfl (fun _ hk => hk.elim) (fun _ _ => trivial) HR.out HB.out (below_size HB.out) (by rw [ints_len]; omega) ?_; intro v1 w1 hown1 hbel1 hg1 hat1; clear hg1 hat1)
      have HO := Lib.hid (show (Kd.int .u8).R 5 w1 w.heap.size (fun _ => True) v1 (ints (xs ++ [x])) from by rw [ints_app]; exact hown1)
      have HB1 := Lib.hid hbel1
      clear hown1 hbel1
      go_wp2
      go_step3
      exact (show ∃ m, m < 2 * (s.size - j) + 1 ∧ unqL w s Q 0 m _ _ from ⟨_, by omega, Or.inl ⟨rfl, j + 1, rfl, v1, xs ++ [x], unqF_mk s (j + 1) v1 _ rfl, by omega, HO.out, HE2.out, HB1.out, by rw [List.length_append, List.length_singleton]; omega⟩⟩)
   ·have hge : decide (s.size ≤ j) = true := decide_eq_true (by omega)
    have HE2 := Lib.hid (map_none' HE.out (unq_end s j (by omega)))
    go_wp2
    rw [jumps_ret]
    go_ret3
    exact ⟨by rw [HE2.out]; rfl, HB.out⟩
  ·refine ⟨_, rfl, ?_⟩
   obtain ⟨o, xs, ⟨f, rfl⟩, hjs, hR, hE, hB, hl⟩ := hJ
   have HR := Lib.hid hR
   have HE := Lib.hid hE
   have HB := Lib.hid hB
   have HX := Lib.hid hx
   clear hR hE hB hx
   have hcv := own_string (P := Try.prog) Try.underlying85 Try.underlying5 Try.underlying9 (Kd.own_of_R HR.out)
   have HE2 := Lib.hid (HE.out.trans (congrArg (Option.map (fun q => (xs ++ q.1, q.2))) (unq_34 s j hj HX.out)))
   go_wp2
   rw [jumps_ret]
   go_ret3
   refine ⟨?_, HB.out⟩
   rw [HE2.out]
   have h1 : strOfNums (ints xs) = ⟨xs.toArray⟩ := Lib.Lz.strOfNums_map xs
   have h2 : ((s.size : Int) - ((s.data.toList.drop (j + 1)).length : Nat)) = (j : Int) + 1 := by rw [drop_len]; omega
   show _ = Ending.returned (.tuple #[.string ⟨(xs ++ []).toArray⟩, .int .i64 ((s.size : Int) - ((s.data.toList.drop (j + 1)).length : Nat)), .bool true])
   rw [h2, List.append_nil, ← h1]
   rfl
  ·refine ⟨_, rfl, ?_⟩
   obtain ⟨o, xs, ⟨f, rfl⟩, hjs, hR, hE, hB, hl⟩ := hJ
   have HR := Lib.hid hR
   have HE := Lib.hid hE
   have HB := Lib.hid hB
   have HX := Lib.hid hx
   clear hR hE hB hx
   by_cases h2 : s.size < j + 2
   ·have HE2 := Lib.hid (map_none' HE.out (unq_short s j hj h2 HX.out))
    have d4 : decide ((4 : Int) ≤ (s.size : Int) - (j : Int)) = false := decide_eq_false (by omega)
    have d2 : decide ((s.size : Int) - (j : Int) < (2 : Int)) = true := decide_eq_true (by omega)
    have n4 : ¬ (4 : Int) ≤ (s.size : Int) - (j : Int) := by omega
    have n2 : (s.size : Int) - (j : Int) < (2 : Int) := by omega
    go_wp2
    rw [jumps_ret]
    go_ret3
    exact ⟨by rw [HE2.out]; rfl, HB.out⟩
   ·have d2 : decide ((s.size : Int) - (j : Int) < (2 : Int)) = false := decide_eq_false (by omega)
    have n2 : ¬ (s.size : Int) - (j : Int) < (2 : Int) := by omega
    obtain ⟨x1, hx1⟩ : ∃ x, bN s (j + 1) = x := ⟨_, rfl⟩
    have g1 := bN_at s (j + 1) x1 hx1
    have HX1 := Lib.hid hx1
    clear hx1
    have b1 : (j : Int) + 1 < (s.size : Int) := by omega
    have b1n : j + 1 < s.size := by omega
    by_cases h4 : j + 4 ≤ s.size
    ·have d4 : decide ((4 : Int) ≤ (s.size : Int) - (j : Int)) = true := decide_eq_true (by omega)
     have n4 : (4 : Int) ≤ (s.size : Int) - (j : Int) := by omega
     by_cases e120 : (x1.toNat : Int) = 120
     ·obtain ⟨y, hy⟩ : ∃ x, bN s (j + 2) = x := ⟨_, rfl⟩
      obtain ⟨z, hz⟩ : ∃ x, bN s (j + 3) = x := ⟨_, rfl⟩
      have g2 := bN_at s (j + 2) y hy
      have g3 := bN_at s (j + 3) z hz
      have HE0 := unq_hex s j h4 HX.out (HX1.out.trans ((un_toNat (n := 120) (by decide)).1 e120)) y z hy hz
      obtain ⟨v1, hv1⟩ : ∃ v, hexV y = v := ⟨_, rfl⟩
      obtain ⟨v2, hv2⟩ : ∃ v, hexV z = v := ⟨_, rfl⟩
      rw [hv1, hv2] at HE0
      have HV1 := Lib.hid hv1
      have HV2 := Lib.hid hv2
      have HE0 := Lib.hid HE0
      clear hy hz hv1 hv2
      have b2 : (j : Int) + 2 < (s.size : Int) := by omega
      have b3 : (j : Int) + 3 < (s.size : Int) := by omega
      have b2n : j + 2 < s.size := by omega
      have b3n : j + 3 < s.size := by omega
      go_wp2
      have wr2 : IntKind.i64.wrap ((j : Int) + 2) = (j : Int) + 2 := by rw [i64_w]; unfold wrap64; omega
      have wr3 : IntKind.i64.wrap ((j : Int) + 3) = (j : Int) + 3 := by rw [i64_w]; unfold wrap64; omega
      have p2 : (0 : Int) ≤ (j : Int) + 2 := by omega
      have p3 : (0 : Int) ≤ (j : Int) + 3 := by omega
      have g2' : ∀ h : ((j : Int) + 2).toNat < s.size, ((s[((j : Int) + 2).toNat]'h).toNat : Int) = (y.toNat : Int) := fun h => g2 b2n
      have g3' : ∀ h : ((j : Int) + 3).toNat < s.size, ((s[((j : Int) + 3).toNat]'h).toNat : Int) = (z.toNat : Int) := fun h => g3 b3n
      go_quiet (first | (go_at_call 131; first | exact Calls.quiet_of (idx131 _ y v1 HV1.out) | exact Calls.quiet_of (idx131 _ z v2 HV2.out)))
      obtain ⟨l1, m1⟩ := hexV_range y
      obtain ⟨l2, m2⟩ := hexV_range z
      rw [HV1.out] at l1 m1
      rw [HV2.out] at l2 m2
      have HB := Lib.hid (pw_below_drewN HB.out nq)
      have HR := Lib.hid (Kd.R_drewN HR.out nq)
      generalize w'.drewN nq = W at HB HR ⊢
      by_cases q1 : v1 < 0
      ·have HE2 := Lib.hid (map_none' HE.out (HE0.out.trans (if_pos (Or.inl q1))))
       go_wp2
       rw [jumps_ret]
       go_ret3
       exact ⟨by rw [HE2.out]; rfl, HB.out⟩
      ·by_cases q2 : v2 < 0
       ·have HE2 := Lib.hid (map_none' HE.out (HE0.out.trans (if_pos (Or.inr q2))))
        go_wp2
        rw [jumps_ret]
        go_ret3
        exact ⟨by rw [HE2.out]; rfl, HB.out⟩
       ·have HE2 := Lib.hid (map_snoc HE.out (HE0.out.trans (if_neg (fun h => h.elim q1 q2))))
        go_wp2_with (at_builtin; refine Kd.R_append (Kd.int .u8) (w0 := w) w.heap.size rfl (.tmp 69) (.tmp 75) 85 5 (.int .u8 0) 1 rfl Try.underlying85 info5 rfl (by decide) (by omega) o (ints xs) (Go.bits .or .i64 (v1 * 16) v2 % 256) [.int .u8 (Go.bits .or .i64 (v1 * 16) v2 % 256)] (fun _ => True) (fun _ => False) rfl rfl rfl (fun _ hk => hk.elim) (fun _ _ => trivial) HR.out HB.out (below_size HB.out) (by rw [ints_len]; omega) ?_; intro o1 w1 hown1 hbel1 hg1 hat1; clear hg1 hat1)
        rw [or_hex HV1.out HV2.out (by omega) (by omega)] at hown1
        have HO := Lib.hid (show (Kd.int .u8).R 5 w1 w.heap.size (fun _ => True) o1 (ints (xs ++ [hexB y z])) from by rw [ints_app]; exact hown1)
        have HB1 := Lib.hid hbel1
        clear hown1 hbel1
        go_wp2
        go_step3
        exact (show ∃ m, m < 2 * (s.size - j) ∧ unqL w s Q 0 m _ _ from ⟨_, by omega, Or.inl ⟨rfl, j + 4, rfl, o1, xs ++ [hexB y z], unqF_mk s (j + 4) o1 _ rfl, by omega, HO.out, HE2.out, HB1.out, by rw [List.length_append, List.length_singleton]; omega⟩⟩)
     ·have n120 : ((x1.toNat : Int) == 120) = false := beq_eq_false_iff_ne.2 e120
      have HE2 := Lib.hid (map_snoc HE.out (unq_next s j (by omega) HX.out (fun h => e120 (by rw [← HX1.out, h.2]; rfl)) x1 HX1.out))
      go_wp2_with (at_builtin; refine Kd.R_append (Kd.int .u8) (w0 := w) w.heap.size rfl (.tmp 84) (.tmp 89) 85 5 (.int .u8 0) 1 rfl Try.underlying85 info5 rfl (by decide) (by omega) o (ints xs) ((x1.toNat : Int)) [.int .u8 ((x1.toNat : Int))] (fun _ => True) (fun _ => False) rfl rfl rfl (fun _ hk => hk.elim) (fun _ _ => trivial) HR.out HB.out (below_size HB.out) (by rw [ints_len]; omega) ?_; intro v1 w1 hown1 hbel1 hg1 hat1; clear hg1 hat1)
      have HO := Lib.hid (show (Kd.int .u8).R 5 w1 w.heap.size (fun _ => True) v1 (ints (xs ++ [x1])) from by rw [ints_app]; exact hown1)
      have HB1 := Lib.hid hbel1
      clear hown1 hbel1
      go_wp2
      go_step3
      exact (show ∃ m, m < 2 * (s.size - j) ∧ unqL w s Q 0 m _ _ from ⟨_, by omega, Or.inl ⟨rfl, j + 2, rfl, v1, xs ++ [x1], unqF_mk s (j + 2) v1 _ rfl, by omega, HO.out, HE2.out, HB1.out, by rw [List.length_append, List.length_singleton]; omega⟩⟩)
    ·have d4 : decide ((4 : Int) ≤ (s.size : Int) - (j : Int)) = false := decide_eq_false (by omega)
     have n4 : ¬ (4 : Int) ≤ (s.size : Int) - (j : Int) := by omega
     have HE2 := Lib.hid (map_snoc HE.out (unq_next s j (by omega) HX.out (fun h => h4 h.1) x1 HX1.out))
     go_wp2_with (at_builtin; refine Kd.R_append (Kd.int .u8) (w0 := w) w.heap.size rfl (.tmp 84) (.tmp 89) 85 5 (.int .u8 0) 1 rfl Try.underlying85 info5 rfl (by decide) (by omega) o (ints xs) ((x1.toNat : Int)) [.int .u8 ((x1.toNat : Int))] (fun _ => True) (fun _ => False) rfl rfl rfl (fun _ hk => hk.elim) (fun _ _ => trivial) HR.out HB.out (below_size HB.out) (by rw [ints_len]; omega) ?_; intro v1 w1 hown1 hbel1 hg1 hat1; clear hg1 hat1)
     have HO := Lib.hid (show (Kd.int .u8).R 5 w1 w.heap.size (fun _ => True) v1 (ints (xs ++ [x1])) from by rw [ints_app]; exact hown1)
     have HB1 := Lib.hid hbel1
     clear hown1 hbel1
     go_wp2
     go_step3
     exact (show ∃ m, m < 2 * (s.size - j) ∧ unqL w s Q 0 m _ _ from ⟨_, by omega, Or.inl ⟨rfl, j + 2, rfl, v1, xs ++ [x1], unqF_mk s (j + 2) v1 _ rfl, by omega, HO.out, HE2.out, HB1.out, by rw [List.length_append, List.length_singleton]; omega⟩⟩)
end Go.Proofs.Yteafilojjdfllaa
end
section
namespace Go.Proofs.Yteafilojjdfllaa
open Go Go.Proofs.Yteafilojjdfllaa.PAll
mutual
/-- a matcher as a text -/
def textM : S25 → List UInt8
 | ⟨op, n, v, vs, ks⟩ =>
  if op = 0 then [42] else if op = 1 then n.data.toList ++ 61 :: quoteT v else if op = 2 then n.data.toList ++ 33 :: 61 :: quoteT v
  else if op = 3 then n.data.toList ++ 94 :: 61 :: quoteT v else if op = 4 then n.data.toList ++ 64 :: 40 :: (commas (vs.map quoteT) ++ [41])
  else (if op = 5 then 38 else if op = 6 then 124 else 33) :: 40 :: (commas (textsM ks) ++ [41])
def textsM : List S25 → List (List UInt8)
 | [] => []
 | k :: ks => textM k :: textsM ks
end
theorem textsM_map : ∀ (ks : List S25), textsM ks = ks.map textM
 | [] => rfl
 | k :: ks => by rw [textsM, textsM_map ks, List.map_cons]
theorem textM_mk (m : S25) : textM m = if m.f0 = 0 then [42] else if m.f0 = 1 then m.f1.data.toList ++ 61 :: quoteT m.f2 else if m.f0 = 2 then m.f1.data.toList ++ 33 :: 61 :: quoteT m.f2
  else if m.f0 = 3 then m.f1.data.toList ++ 94 :: 61 :: quoteT m.f2 else if m.f0 = 4 then m.f1.data.toList ++ 64 :: 40 :: (commas (m.f3.map quoteT) ++ [41])
  else (if m.f0 = 5 then 38 else if m.f0 = 6 then 124 else 33) :: 40 :: (commas (m.f4.map textM) ++ [41]) := by
 cases m; simp only [textM, textsM_map]
/-- the sign behind a name, and the rest -/
def textN (op : Int) (v : ByteArray) (vs : List ByteArray) : UInt8 × List UInt8 :=
 if op = 1 then (61, quoteT v) else if op = 2 then (33, 61 :: quoteT v) else if op = 3 then (94, 61 :: quoteT v) else (64, 40 :: (commas (vs.map quoteT) ++ [41]))
theorem text_0 : textM ⟨0, ⟨#[]⟩, ⟨#[]⟩, [], []⟩ = [42] := rfl
theorem text_n {op : Int} {n v : ByteArray} {vs : List ByteArray} (h : op = 1 ∨ op = 2 ∨ op = 3 ∨ op = 4) : textM ⟨op, n, v, vs, []⟩ = n.data.toList ++ (textN op v vs).1 :: (textN op v vs).2 := by
 rcases h with rfl | rfl | rfl | rfl <;> rfl
theorem text_k {op : Int} {ks : List S25} (h : op = 5 ∨ op = 6 ∨ op = 7) : textM ⟨op, ⟨#[]⟩, ⟨#[]⟩, [], ks⟩ = (if op = 5 then 38 else if op = 6 then 124 else 33) :: 40 :: (commas (ks.map textM) ++ [41]) := by
 rw [textM_mk]
 rcases h with rfl | rfl | rfl <;> rfl
theorem text_head {m : S25} (h : okM m = true) : ∃ c r, textM m = c :: r ∧ c ≠ 41 := by
 rcases shape h with rfl | ⟨op, n, v, ho, hn, rfl⟩ | ⟨n, vs, hn, rfl⟩ | ⟨op, ks, ho, hk, rfl⟩
 ·exact ⟨42, [], rfl, by decide⟩
 ·obtain ⟨c, r, e, hc⟩ := nameB_cons hn
  rw [text_n (by omega), e]
  exact ⟨c, _, rfl, fun h => by rw [h] at hc; cases hc⟩
 ·obtain ⟨c, r, e, hc⟩ := nameB_cons hn
  rw [text_n (by omega), e]
  exact ⟨c, _, rfl, fun h => by rw [h] at hc; cases hc⟩
 ·rw [text_k ho]
  refine ⟨_, _, rfl, ?_⟩
  rcases ho with rfl | rfl | rfl <;> decide
theorem values_len : ∀ (vs : List ByteArray), ((vs.map quoteT).map (fun x => x.length + 1)).sum ≤ 4 * sizes vs + 3 * vs.length
 | [] => by simp
 | v :: vs => by
  have := values_len vs
  have := quoteT_len v
  simp only [List.map_cons, List.sum_cons, sizes, List.length_cons]
  omega
theorem ok_vals16 {n v : ByteArray} {vs : List ByteArray} {ks : List S25} (h : okM ⟨4, n, v, vs, ks⟩ = true) : vs.length ≤ 16 := by
 rw [okM_mk, Bool.and_eq_true] at h
 have h1 := h.1
 unfold aloneB at h1
 rw [if_neg (show ¬ (4 : Int) = 0 by decide), if_neg (show ¬ ((4 : Int) = 1 ∨ (4 : Int) = 2 ∨ (4 : Int) = 3) by decide), if_pos rfl, Bool.and_eq_true] at h1
 have h2 := h1.2
 unfold valuesB at h2
 rw [Bool.and_eq_true, Bool.and_eq_true, decide_eq_true_iff] at h2
 exact h2.1.1.2
theorem textM_len : ∀ (N : Nat) (m : S25), nodesM m ≤ N → okM m = true → (textM m).length + 1 ≤ 4 * bytesM m + 60 * nodesM m := by
 intro N
 induction N with
 | zero => intro m h; rw [nodesM_mk] at h; omega
 | succ N ih =>
  intro m hN h
  rcases shape h with rfl | ⟨op, n, v, ho, hn, rfl⟩ | ⟨n, vs, hn, rfl⟩ | ⟨op, ks, ho, hk, rfl⟩
  ·rw [text_0, nodesM_mk]; simp only [List.length_cons, List.length_nil]; omega
  ·rw [text_n (by omega), nodesM_mk, bytesM_mk]
   have e : n.data.toList.length = n.size := by simp
   have q := quoteT_len v
   simp only [List.length_append, List.length_cons]
   have : (textN op v []).2.length ≤ 4 * v.size + 3 := by
    rcases ho with rfl | rfl | rfl <;> simp [textN] <;> omega
   omega
  ·have h16 := ok_vals16 h
   rw [text_n (by omega), nodesM_mk, bytesM_mk]
   have e : n.data.toList.length = n.size := by simp
   have q := values_len vs
   have c := commas_len (vs.map quoteT)
   have : (textN 4 ⟨#[]⟩ vs).2 = 40 :: (commas (vs.map quoteT) ++ [41]) := rfl
   rw [this]
   simp only [List.length_append, List.length_cons, List.length_nil]
   omega
  ·have kids : ∀ (l : List S25), (∀ k ∈ l, okM k = true ∧ nodesM k ≤ N) → ((l.map textM).map (fun x => x.length + 1)).sum ≤ 4 * bytesL l + 60 * nodesL l := by
    intro l
    induction l with
    | nil => intro _; simp
    | cons k l il =>
     intro hl
     have h1 := hl k (List.mem_cons_self ..)
     have := ih k h1.2 h1.1
     have := il (fun x hx => hl x (List.mem_cons_of_mem _ hx))
     simp only [List.map_cons, List.sum_cons, bytesL, nodesL]
     omega
   have := kids ks (fun k hk2 => ⟨okL_mem hk hk2, by have := nodes_lt ⟨op, ⟨#[]⟩, ⟨#[]⟩, [], ks⟩ k hk2; omega⟩)
   have c := commas_len (ks.map textM)
   rw [text_k ho, nodesM_mk, bytesM_mk]
   simp only [List.length_append, List.length_cons, List.length_nil]
   omega
end Go.Proofs.Yteafilojjdfllaa
end
section
namespace Go.Proofs.Yteafilojjdfllaa
open Go Go.Proofs.Yteafilojjdfllaa.PAll
/-- texts between quotes, a comma between, a parenthesis behind: so many at most -/
def valsW (step : List UInt8 → Step) : Nat → List UInt8 → Option (List ByteArray × List UInt8)
 | 0, _ => none
 | k + 1, r => match valW step r with
  | none => none
  | some (_, []) => none
  | some (v, c :: t) => if c = 41 then some ([⟨v.toArray⟩], t) else if c = 44 then (valsW step k t).map (fun q => (⟨v.toArray⟩ :: q.1, q.2)) else none
/-- what begins with a name -/
def namedW (cut : List UInt8 → Nat) (step : List UInt8 → Step) (emp : Bool) (r : List UInt8) : Option (S25 × List UInt8) :=
 let n : ByteArray := ⟨(r.take (cut r)).toArray⟩
 match r.drop (cut r) with
 | [] => none
 | c :: q =>
  if c = 61 then (valW step q).map (fun p => (⟨1, n, ⟨p.1.toArray⟩, [], []⟩, p.2))
  else if c = 33 then (match q with | [] => none | e :: q => if e = 61 then (valW step q).map (fun p => (⟨2, n, ⟨p.1.toArray⟩, [], []⟩, p.2)) else none)
  else if c = 94 then (match q with | [] => none | e :: q => if e = 61 then (valW step q).map (fun p => (⟨3, n, ⟨p.1.toArray⟩, [], []⟩, p.2)) else none)
  else if c = 64 then (match q with
   | [] => none
   | e :: q => if e = 40 then (if emp = true ∧ q.head? = some 41 then some (⟨4, n, ⟨#[]⟩, [], []⟩, q.drop 1) else (valsW step 17 q).map (fun p => (⟨4, n, ⟨#[]⟩, p.1, []⟩, p.2))) else none)
  else none
mutual
/-- a matcher: so deep it may be yet, so many matchers may be yet; what is left of them, and of the bytes -/
def readM (cut : List UInt8 → Nat) (step : List UInt8 → Step) (emp : Bool) : Nat → Nat → List UInt8 → Option (S25 × Nat × List UInt8)
 | 0, _, _ => none
 | _, 0, _ => none
 | _, _, [] => none
 | d + 1, left + 1, c :: r =>
  if c = 42 then some (⟨0, ⟨#[]⟩, ⟨#[]⟩, [], []⟩, left, r)
  else if c = 38 ∨ c = 124 ∨ c = 33 then (match r with
   | [] => none
   | e :: q => if e = 40 then (if q.head? = some 41 then some (⟨if c = 38 then 5 else if c = 124 then 6 else 7, ⟨#[]⟩, ⟨#[]⟩, [], []⟩, left, q.drop 1)
     else (readML cut step emp d 65 left q).map (fun p => (⟨if c = 38 then 5 else if c = 124 then 6 else 7, ⟨#[]⟩, ⟨#[]⟩, [], p.1⟩, p.2))) else none)
  else (namedW cut step emp (c :: r)).map (fun p => (p.1, left, p.2))
termination_by d _ _ => (d, 0)
def readML (cut : List UInt8 → Nat) (step : List UInt8 → Step) (emp : Bool) : Nat → Nat → Nat → List UInt8 → Option (List S25 × Nat × List UInt8)
 | _, 0, _, _ => none
 | d, k + 1, left, r => match readM cut step emp d left r with
  | none => none
  | some (_, _, []) => none
  | some (m, left1, c :: t) => if c = 41 then some ([m], left1, t) else if c = 44 then (readML cut step emp d k left1 t).map (fun p => (m :: p.1, p.2)) else none
termination_by d k _ _ => (d, k)
end
/-- the program's: a name ends at the first of four signs -/
def cutM : Nat → List UInt8 → Nat
 | 0, _ => 0
 | _, [] => 0
 | k + 1, c :: r => if c = 61 ∨ c = 33 ∨ c = 94 ∨ c = 64 then 0 else cutM k r + 1
/-- the document's -/
def cutN (r : List UInt8) : Nat := (r.takeWhile nameC).length
def Cuts (cut : List UInt8 → Nat) : Prop := ∀ (n : ByteArray), nameB n = true → ∀ c s, (c = 61 ∨ c = 33 ∨ c = 94 ∨ c = 64) → cut (n.data.toList ++ c :: s) = n.data.toList.length
theorem cutM_go : ∀ (n : List UInt8) (k : Nat) (c : UInt8) (s : List UInt8), n.all nameC = true → n.length < k → (c = 61 ∨ c = 33 ∨ c = 94 ∨ c = 64) → cutM k (n ++ c :: s) = n.length
 | [], 0, _, _, _, h, _ => absurd h (Nat.not_lt_zero _)
 | [], k + 1, c, s, _, _, hc => by rw [List.nil_append, cutM, if_pos hc]; rfl
 | x :: n, 0, _, _, _, h, _ => absurd h (Nat.not_lt_zero _)
 | x :: n, k + 1, c, s, h, hk, hc => by
  rw [List.all_cons, Bool.and_eq_true] at h
  rw [List.cons_append, cutM, if_neg ?_, cutM_go n k c s h.2 (by simpa using hk) hc]
  ·rfl
  ·rintro (e | e | e | e) <;> rw [e] at h <;> exact absurd h.1 (by decide)
theorem cuts_M : Cuts (cutM 33) := fun n hn c s hc => cutM_go _ 33 c s (nameB_all hn) (by have := nameB_size hn; omega) hc
theorem cuts_N : Cuts cutN := by
 intro n hn c s hc
 have h : ∀ (l : List UInt8), l.all nameC = true → (l ++ c :: s).takeWhile nameC = l := by
  intro l
  induction l with
  | nil => intro _; rw [List.nil_append, List.takeWhile_cons, if_neg]; rcases hc with e | e | e | e <;> rw [e] <;> decide
  | cons x l ih => intro h; rw [List.all_cons, Bool.and_eq_true] at h; rw [List.cons_append, List.takeWhile_cons, if_pos h.1, ih h.2]
 unfold cutN
 rw [h _ (nameB_all hn)]
theorem vals_text {step : List UInt8 → Step} (hr : Right step) (t : List UInt8) : ∀ (l : List ByteArray) (k : Nat), l ≠ [] → l.length ≤ k → valsW step k (commas (l.map quoteT) ++ 41 :: t) = some (l, t)
 | [], _, h, _ => absurd rfl h
 | x :: l, 0, _, h => by simp at h
 | [x], k + 1, _, _ => by
  show valsW step (k + 1) (quoteT x ++ 41 :: t) = _
  rw [valsW, val_quote hr]
  simp
 | x :: y :: l, k + 1, _, h => by
  show valsW step (k + 1) ((quoteT x ++ 44 :: commas ((y :: l).map quoteT)) ++ 41 :: t) = _
  rw [List.append_assoc, valsW, val_quote hr]
  simp only [List.cons_append]
  rw [if_neg (by decide), if_pos trivial, vals_text hr t (y :: l) k (by simp) (by simpa using h)]
  simp
theorem commas_head (l : List ByteArray) (h : l ≠ []) (t : List UInt8) : (commas (l.map quoteT) ++ t).head? = some 34 := by
 match l, h with
 | [x], _ => rfl
 | x :: y :: r, _ => rfl
theorem named_text {cut : List UInt8 → Nat} {step : List UInt8 → Step} {emp : Bool} (hr : Right step) (hc : Cuts cut) {m : S25} (hn : nameB m.f1 = true) (hk : m.f4 = []) (h : (m.f0 = 1 ∨ m.f0 = 2 ∨ m.f0 = 3) ∧ m.f3 = [] ∨ m.f0 = 4 ∧ m.f2 = ⟨#[]⟩ ∧ m.f3 ≠ [] ∧ m.f3.length ≤ 17) (t : List UInt8) :
  namedW cut step emp (textM m ++ t) = some (m, t) := by
 obtain ⟨op, n, v, vs, ks⟩ := m
 simp only at hn hk h
 subst hk
 have hcut : ∀ c s, (c = 61 ∨ c = 33 ∨ c = 94 ∨ c = 64) → (n.data.toList ++ c :: s).take (cut (n.data.toList ++ c :: s)) = n.data.toList ∧ (n.data.toList ++ c :: s).drop (cut (n.data.toList ++ c :: s)) = c :: s := by
  intro c s h; rw [hc n hn c s h]; simp
 rcases h with ⟨ho, rfl⟩ | ⟨rfl, rfl, hv, hl⟩
 ·rcases ho with rfl | rfl | rfl
  ·obtain ⟨e1, e2⟩ := hcut 61 (quoteT v ++ t) (by simp)
   rw [show textM ⟨1, n, v, [], []⟩ = n.data.toList ++ 61 :: quoteT v from rfl]
   simp only [List.append_assoc, List.cons_append]
   unfold namedW
   simp only [e1, e2]
   rw [if_pos trivial, val_quote hr]; simp
  ·obtain ⟨e1, e2⟩ := hcut 33 (61 :: (quoteT v ++ t)) (by simp)
   rw [show textM ⟨2, n, v, [], []⟩ = n.data.toList ++ 33 :: 61 :: quoteT v from rfl]
   simp only [List.append_assoc, List.cons_append]
   unfold namedW
   simp only [e1, e2]
   rw [if_neg (by decide), if_pos trivial, if_pos trivial, val_quote hr]; simp
  ·obtain ⟨e1, e2⟩ := hcut 94 (61 :: (quoteT v ++ t)) (by simp)
   rw [show textM ⟨3, n, v, [], []⟩ = n.data.toList ++ 94 :: 61 :: quoteT v from rfl]
   simp only [List.append_assoc, List.cons_append]
   unfold namedW
   simp only [e1, e2]
   rw [if_neg (by decide), if_neg (by decide), if_pos trivial, if_pos trivial, val_quote hr]; simp
 ·obtain ⟨e1, e2⟩ := hcut 64 (40 :: (commas (vs.map quoteT) ++ 41 :: t)) (by simp)
  rw [show textM ⟨4, n, ⟨#[]⟩, vs, []⟩ = n.data.toList ++ 64 :: 40 :: (commas (vs.map quoteT) ++ [41]) from rfl]
  simp only [List.append_assoc, List.cons_append, List.nil_append]
  unfold namedW
  simp only [e1, e2]
  rw [if_neg (by decide), if_neg (by decide), if_neg (by decide), if_pos trivial, if_pos trivial, commas_head vs hv, if_neg (by rintro ⟨-, h⟩; exact absurd h (by decide)), vals_text hr t vs 17 hv hl]; simp
theorem readM_cons (cut : List UInt8 → Nat) (step : List UInt8 → Step) (emp : Bool) (d left : Nat) (c : UInt8) (r : List UInt8) : readM cut step emp (d + 1) (left + 1) (c :: r) =
  if c = 42 then some (⟨0, ⟨#[]⟩, ⟨#[]⟩, [], []⟩, left, r)
  else if c = 38 ∨ c = 124 ∨ c = 33 then (match r with
   | [] => none
   | e :: q => if e = 40 then (if q.head? = some 41 then some (⟨if c = 38 then 5 else if c = 124 then 6 else 7, ⟨#[]⟩, ⟨#[]⟩, [], []⟩, left, q.drop 1)
     else (readML cut step emp d 65 left q).map (fun p => (⟨if c = 38 then 5 else if c = 124 then 6 else 7, ⟨#[]⟩, ⟨#[]⟩, [], p.1⟩, p.2))) else none)
  else (namedW cut step emp (c :: r)).map (fun p => (p.1, left, p.2)) := by rw [readM.eq_def]
theorem head_not41 {m : S25} (h : okM m = true) (t : List UInt8) : (textM m ++ t).head? ≠ some 41 := by
 obtain ⟨c, r, e, hc⟩ := text_head h
 rw [e]
 simpa using hc
theorem kids_head {ks : List S25} (hk : okL ks = true) (hne : ks ≠ []) (t : List UInt8) : (commas (ks.map textM) ++ t).head? ≠ some 41 := by
 match ks, hne with
 | [x], _ => exact head_not41 (okL_mem hk (List.mem_cons_self ..)) t
 | x :: y :: r, _ =>
  show ((textM x ++ 44 :: commas ((y :: r).map textM)) ++ t).head? ≠ some 41
  rw [List.append_assoc]
  exact head_not41 (okL_mem hk (List.mem_cons_self ..)) _
theorem readML_text {cut : List UInt8 → Nat} {step : List UInt8 → Step} {emp : Bool} (d N : Nat) (ih : ∀ (m : S25) (left : Nat) (t : List UInt8), nodesM m ≤ N → okM m = true → depthM m ≤ d → nodesM m ≤ left → readM cut step emp d left (textM m ++ t) = some (m, left - nodesM m, t)) (t : List UInt8) :
  ∀ (ks : List S25) (k left : Nat), ks ≠ [] → ks.length ≤ k → nodesL ks ≤ N → okL ks = true → depthL ks ≤ d → nodesL ks ≤ left → readML cut step emp d k left (commas (ks.map textM) ++ 41 :: t) = some (ks, left - nodesL ks, t)
 | [], _, _, h, _, _, _, _, _ => absurd rfl h
 | x :: ks, 0, _, _, h, _, _, _, _ => by simp at h
 | [x], k + 1, left, _, _, hN, hok, hd, hl => by
  rw [okL, Bool.and_eq_true] at hok
  rw [nodesL, nodesL] at hN hl
  rw [depthL, depthL] at hd
  show readML cut step emp d (k + 1) left (textM x ++ 41 :: t) = _
  rw [readML, ih x left _ (by omega) hok.1 (by omega) (by omega)]
  simp [nodesL]
 | x :: y :: ks, k + 1, left, _, hk, hN, hok, hd, hl => by
  rw [okL, Bool.and_eq_true] at hok
  rw [nodesL] at hN hl
  rw [depthL] at hd
  show readML cut step emp d (k + 1) left ((textM x ++ 44 :: commas ((y :: ks).map textM)) ++ 41 :: t) = _
  rw [List.append_assoc, readML, ih x left _ (by omega) hok.1 (by omega) (by omega)]
  simp only [List.cons_append]
  rw [if_neg (by decide), if_pos trivial, readML_text d N ih t (y :: ks) k (left - nodesM x) (by simp) (by simpa using hk) (by omega) hok.2 (by omega) (by omega), show nodesL (x :: y :: ks) = nodesM x + nodesL (y :: ks) from rfl]
  simp only [Option.map_some, Option.some.injEq, Prod.mk.injEq, true_and, and_true]
  omega
theorem len_nodesQ : ∀ (ks : List S25), ks.length ≤ nodesL ks
 | [] => by simp [nodesL]
 | k :: ks => by have := len_nodesQ ks; have h2 := nodesM_mk k; simp only [List.length_cons, nodesL]; omega
theorem okP_vals {n v : ByteArray} {vs : List ByteArray} {ks : List S25} (h : okM ⟨4, n, v, vs, ks⟩ = true) : vs ≠ [] ∧ vs.length ≤ 16 := by
 rw [okM_mk, Bool.and_eq_true] at h
 have ha := h.1
 unfold aloneB at ha
 simp only at ha
 rw [if_neg (by decide), if_neg (by decide), if_pos trivial, Bool.and_eq_true, Bool.and_eq_true] at ha
 have hv := ha.2
 unfold valuesB at hv
 rw [Bool.and_eq_true, Bool.and_eq_true, decide_eq_true_iff] at hv
 exact ⟨fun e => by rw [e] at hv; simp at hv, hv.1.1.2⟩
theorem readM_text {cut : List UInt8 → Nat} {step : List UInt8 → Step} {emp : Bool} (hr : Right step) (hc : Cuts cut) : ∀ (N : Nat) (m : S25) (d left : Nat) (t : List UInt8), nodesM m ≤ N → okM m = true → depthM m ≤ d → nodesM m ≤ left → nodesM m ≤ 64 → readM cut step emp d left (textM m ++ t) = some (m, left - nodesM m, t)
 | 0, m, _, _, _, h, _, _, _, _ => by rw [nodesM_mk] at h; omega
 | N + 1, m, d, left, t, hN, hok, hd, hl, h64 => by
  rw [nodesM_mk] at hN hl h64
  rw [depthM_mk] at hd
  obtain ⟨d, rfl⟩ : ∃ q, d = q + 1 := ⟨d - 1, by omega⟩
  obtain ⟨left, rfl⟩ : ∃ q, left = q + 1 := ⟨left - 1, by omega⟩
  have leaf : ∀ (m : S25), okM m = true → nameB m.f1 = true → m.f4 = [] → ((m.f0 = 1 ∨ m.f0 = 2 ∨ m.f0 = 3) ∧ m.f3 = [] ∨ m.f0 = 4 ∧ m.f2 = ⟨#[]⟩ ∧ m.f3 ≠ [] ∧ m.f3.length ≤ 17) → (∃ s, textM m = m.f1.data.toList ++ s) → readM cut step emp (d + 1) (left + 1) (textM m ++ t) = some (m, left + 1 - nodesM m, t) := by
   intro m hok hn hk h ⟨s, hs⟩
   have hw := named_text (emp := emp) hr hc hn hk h t
   obtain ⟨c, r, e, hc1⟩ := nameB_cons hn
   rw [hs, e, List.cons_append, List.cons_append] at hw ⊢
   rw [readM_cons, if_neg (by rintro rfl; exact absurd hc1 (by decide)), if_neg (by rintro (rfl | rfl | rfl) <;> exact absurd hc1 (by decide)), hw, nodesM_mk, hk, nodesL]
   simp
  rcases shape hok with rfl | ⟨op, n, v, ho, hn, rfl⟩ | ⟨n, vs, hn, rfl⟩ | ⟨op, ks, ho, hk, rfl⟩
  ·show readM cut step emp (d + 1) (left + 1) (42 :: t) = _
   rw [readM_cons, if_pos rfl]
   simp [nodesM, nodesL]
  ·refine leaf _ hok hn rfl (Or.inl ⟨ho, rfl⟩) ?_
   rcases ho with rfl | rfl | rfl
   ·exact ⟨_, rfl⟩
   ·exact ⟨_, rfl⟩
   ·exact ⟨_, rfl⟩
  ·obtain ⟨h1, h2⟩ := okP_vals hok
   exact leaf _ hok hn rfl (Or.inr ⟨rfl, rfl, h1, by simp only; omega⟩) ⟨_, rfl⟩
  ·simp only at hN hl h64 hd
   have hlen := len_nodesQ ks
   have key : ∀ (c : UInt8) (op : Int), (c = 38 ∨ c = 124 ∨ c = 33) → (if c = 38 then (5 : Int) else if c = 124 then 6 else 7) = op → readM cut step emp (d + 1) (left + 1) (c :: 40 :: (commas (ks.map textM) ++ [41]) ++ t) = some (⟨op, ⟨#[]⟩, ⟨#[]⟩, [], ks⟩, left + 1 - nodesM ⟨op, ⟨#[]⟩, ⟨#[]⟩, [], ks⟩, t) := by
    intro c op hc1 ho
    simp only [List.cons_append, List.append_assoc, List.nil_append]
    rw [readM_cons, if_neg (by rcases hc1 with rfl | rfl | rfl <;> decide), if_pos hc1, nodesM_mk, ho]
    simp only
    rw [if_pos trivial]
    by_cases hne : ks = []
    ·subst hne
     simp [commas, nodesL]
    ·rw [if_neg (kids_head hk hne _), readML_text d (min N 64) (fun m left t h1 h2 h3 h4 => readM_text hr hc N m d left t (by omega) h2 h3 h4 (by omega)) t ks 65 left hne (by omega) (by omega) hk (by omega) (by omega)]
     simp only [Option.map_some, Option.some.injEq, Prod.mk.injEq, true_and, and_true]
     omega
   rcases ho with rfl | rfl | rfl
   ·rw [text_k (by simp)]; exact key 38 5 (by simp) rfl
   ·rw [text_k (by simp)]; exact key 124 6 (by simp) rfl
   ·rw [text_k (by simp)]; exact key 33 7 (by simp) rfl
/-- more than eight? -/
def deepW : Nat → Bool → List UInt8 → Bool
 | _, _, [] => false
 | o, q, c :: r =>
  if q = true ∧ c = 92 then deepW o q (r.drop 1)
  else if c = 34 then deepW o (!q) r
  else if q = false ∧ c = 40 then (if o + 1 > 8 then true else deepW (o + 1) q r)
  else if q = false ∧ c = 41 then deepW (o - 1) q r
  else deepW o q r
termination_by _ _ l => l.length
decreasing_by all_goals (simp only [List.length_drop, List.length_cons]; omega)
theorem deep_enc (o : Nat) (c : UInt8) (t : List UInt8) : deepW o true (encB c ++ t) = deepW o true t := by
 unfold encB
 by_cases h1 : c = 34 ∨ c = 92
 ·rw [if_pos h1]
  show deepW o true (92 :: c :: t) = _
  rw [deepW, if_pos ⟨rfl, rfl⟩]; rfl
 ·rw [if_neg h1]
  by_cases h2 : c.toNat < 32 ∨ 127 ≤ c.toNat
  ·rw [if_pos h2]
   show deepW o true (92 :: 120 :: hexD (c.toNat / 16) :: hexD (c.toNat % 16) :: t) = _
   have hx : ∀ n : Fin 16, hexD n.val ≠ 34 ∧ hexD n.val ≠ 92 := by decide +kernel
   have hc := c.toNat_lt
   have e1 := hx ⟨c.toNat / 16, by omega⟩
   have e2 := hx ⟨c.toNat % 16, by omega⟩
   simp only at e1 e2
   rw [deepW, if_pos ⟨rfl, rfl⟩]
   show deepW o true (hexD (c.toNat / 16) :: hexD (c.toNat % 16) :: t) = _
   rw [deepW, if_neg (fun h => e1.2 h.2), if_neg e1.1, if_neg (by simp), if_neg (by simp), deepW, if_neg (fun h => e2.2 h.2), if_neg e2.1, if_neg (by simp), if_neg (by simp)]
  ·rw [if_neg h2]
   show deepW o true (c :: t) = _
   rw [deepW, if_neg (fun h => h1 (Or.inr h.2)), if_neg (fun h => h1 (Or.inl h)), if_neg (by simp), if_neg (by simp)]
theorem deep_body (o : Nat) (t : List UInt8) : ∀ (v : List UInt8), deepW o true (v.flatMap encB ++ 34 :: t) = deepW o false t
 | [] => by rw [List.flatMap_nil, List.nil_append, deepW, if_neg (by simp), if_pos rfl]; rfl
 | c :: v => by rw [List.flatMap_cons, List.append_assoc, deep_enc, deep_body o t v]
theorem deep_quote (o : Nat) (v : ByteArray) (t : List UInt8) : deepW o false (quoteT v ++ t) = deepW o false t := by
 unfold quoteT quoteL
 simp only [List.cons_append, List.append_assoc, List.nil_append]
 rw [deepW, if_neg (by simp), if_pos rfl]
 exact deep_body o t _
theorem deep_skip (o : Nat) (c : UInt8) (t : List UInt8) (h : c ≠ 34 ∧ c ≠ 40 ∧ c ≠ 41) : deepW o false (c :: t) = deepW o false t := by
 rw [deepW, if_neg (by simp), if_neg h.1, if_neg (fun e => h.2.1 e.2), if_neg (fun e => h.2.2 e.2)]
theorem deep_name (o : Nat) (t : List UInt8) : ∀ (n : List UInt8), n.all nameC = true → deepW o false (n ++ t) = deepW o false t
 | [], _ => rfl
 | c :: n, h => by
  rw [List.all_cons, Bool.and_eq_true] at h
  rw [List.cons_append, deep_skip o c _ ⟨by rintro rfl; exact absurd h.1 (by decide), by rintro rfl; exact absurd h.1 (by decide), by rintro rfl; exact absurd h.1 (by decide)⟩, deep_name o t n h.2]
theorem deep_open (o : Nat) (t : List UInt8) (h : o + 1 ≤ 8) : deepW o false (40 :: t) = deepW (o + 1) false t := by
 rw [deepW, if_neg (by simp), if_neg (by decide), if_pos ⟨rfl, rfl⟩, if_neg (by omega)]
theorem deep_close (o : Nat) (t : List UInt8) : deepW (o + 1) false (41 :: t) = deepW o false t := by
 rw [deepW, if_neg (by simp), if_neg (by decide), if_neg (by simp), if_pos ⟨rfl, rfl⟩]; rfl
theorem deep_vals (o : Nat) (t : List UInt8) : ∀ (l : List ByteArray), deepW o false (commas (l.map quoteT) ++ t) = deepW o false t
 | [] => rfl
 | [x] => deep_quote o x t
 | x :: y :: l => by
  show deepW o false ((quoteT x ++ 44 :: commas ((y :: l).map quoteT)) ++ t) = _
  rw [List.append_assoc, deep_quote, List.cons_append, deep_skip _ _ _ (by decide), deep_vals o t (y :: l)]
theorem deep_kids (o N : Nat) (ih : ∀ (m : S25) (t : List UInt8), nodesM m ≤ N → okM m = true → o + depthM m ≤ 8 → deepW o false (textM m ++ t) = deepW o false t) (t : List UInt8) :
  ∀ (ks : List S25), nodesL ks ≤ N → okL ks = true → o + depthL ks ≤ 8 → deepW o false (commas (ks.map textM) ++ t) = deepW o false t
 | [], _, _, _ => rfl
 | [x], hN, hok, hd => by
  rw [okL, Bool.and_eq_true] at hok
  rw [nodesL, nodesL] at hN
  rw [depthL, depthL] at hd
  exact ih x t (by omega) hok.1 (by omega)
 | x :: y :: l, hN, hok, hd => by
  rw [okL, Bool.and_eq_true] at hok
  rw [nodesL] at hN
  rw [depthL] at hd
  show deepW o false ((textM x ++ 44 :: commas ((y :: l).map textM)) ++ t) = _
  rw [List.append_assoc, ih x _ (by omega) hok.1 (by omega), List.cons_append, deep_skip _ _ _ (by decide), deep_kids o N ih t (y :: l) (by omega) hok.2 (by omega)]
theorem deep_text : ∀ (N : Nat) (m : S25) (o : Nat) (t : List UInt8), nodesM m ≤ N → okM m = true → o + depthM m ≤ 8 → deepW o false (textM m ++ t) = deepW o false t
 | 0, m, _, _, h, _, _ => by rw [nodesM_mk] at h; omega
 | N + 1, m, o, t, hN, hok, hd => by
  rw [nodesM_mk] at hN
  rw [depthM_mk] at hd
  rcases shape hok with rfl | ⟨op, n, v, ho, hn, rfl⟩ | ⟨n, vs, hn, rfl⟩ | ⟨op, ks, ho, hk, rfl⟩
  ·show deepW o false (42 :: t) = _
   rw [deep_skip _ _ _ (by decide)]
  ·rcases ho with rfl | rfl | rfl
   ·show deepW o false ((n.data.toList ++ 61 :: quoteT v) ++ t) = _
    rw [List.append_assoc, deep_name _ _ _ (nameB_all hn), List.cons_append, deep_skip _ _ _ (by decide), deep_quote]
   ·show deepW o false ((n.data.toList ++ 33 :: 61 :: quoteT v) ++ t) = _
    rw [List.append_assoc, deep_name _ _ _ (nameB_all hn), List.cons_append, deep_skip _ _ _ (by decide), List.cons_append, deep_skip _ _ _ (by decide), deep_quote]
   ·show deepW o false ((n.data.toList ++ 94 :: 61 :: quoteT v) ++ t) = _
    rw [List.append_assoc, deep_name _ _ _ (nameB_all hn), List.cons_append, deep_skip _ _ _ (by decide), List.cons_append, deep_skip _ _ _ (by decide), deep_quote]
  ·show deepW o false ((n.data.toList ++ 64 :: 40 :: (commas (vs.map quoteT) ++ [41])) ++ t) = _
   rw [List.append_assoc, deep_name _ _ _ (nameB_all hn), List.cons_append, deep_skip _ _ _ (by decide), List.cons_append, deep_open _ _ (by omega), List.append_assoc, deep_vals, List.singleton_append, deep_close]
  ·simp only at hN hd
   have key : ∀ c : UInt8, (c ≠ 34 ∧ c ≠ 40 ∧ c ≠ 41) → deepW o false ((c :: 40 :: (commas (ks.map textM) ++ [41])) ++ t) = deepW o false t := by
    intro c hc
    rw [List.cons_append, deep_skip _ _ _ hc, List.cons_append, deep_open _ _ (by omega), List.append_assoc, deep_kids (o + 1) N (fun m t h1 h2 h3 => deep_text N m (o + 1) t h1 h2 h3) _ ks (by omega) hk (by omega), List.singleton_append, deep_close]
   rcases ho with rfl | rfl | rfl
   ·rw [text_k (by simp)]; exact key 38 (by decide)
   ·rw [text_k (by simp)]; exact key 124 (by decide)
   ·rw [text_k (by simp)]; exact key 33 (by decide)
end Go.Proofs.Yteafilojjdfllaa
end
section
namespace Go.Proofs.Yteafilojjdfllaa
open Go Go.RowKit Go.Proofs.YteafilojjdfllaaW.PrintWords Go.Proofs.YteafilojjdfllaaW.PrintLast Go.Proofs.YteafilojjdfllaaW.PrintMore Go.Proofs.Yteafilojjdfllaa.PAll
set_option linter.unusedVariables false
set_option linter.unusedSimpArgs false
theorem deepW_cons (o : Nat) (q : Bool) (c : UInt8) (r : List UInt8) : deepW o q (c :: r) = if q = true ∧ c = 92 then deepW o q (r.drop 1)
  else if c = 34 then deepW o (!q) r
  else if q = false ∧ c = 40 then (if o + 1 > 8 then true else deepW (o + 1) q r)
  else if q = false ∧ c = 41 then deepW (o - 1) q r
  else deepW o q r := by rw [deepW]
theorem u8_eq {c : UInt8} {k : Nat} (hk : k < 256) (h : (c.toNat : Int) = (k : Int)) : c = UInt8.ofNat k := UInt8.toNat_inj.1 (by simp; omega)
section
variable {s : ByteArray} {i o : Nat} {c : UInt8} {q Q : Bool}
theorem deep_at (hi : i < s.size) (hc : bN s i = c) (h : deepW o q (s.data.toList.drop i) = Q) : (if q = true ∧ c = 92 then deepW o q (s.data.toList.drop (i + 2))
  else if c = 34 then deepW o (!q) (s.data.toList.drop (i + 1))
  else if q = false ∧ c = 40 then (if o + 1 > 8 then true else deepW (o + 1) q (s.data.toList.drop (i + 1)))
  else if q = false ∧ c = 41 then deepW (o - 1) q (s.data.toList.drop (i + 1))
  else deepW o q (s.data.toList.drop (i + 1))) = Q := by
 rw [bN_drop s i hi, hc, deepW_cons, List.drop_drop] at h
 exact h
theorem deep_esc (hi : i < s.size) (hx : bN s i = c) (e : (c.toNat : Int) = 92) (h : deepW o true (s.data.toList.drop i) = Q) : deepW o true (s.data.toList.drop (i + 2)) = Q := by
 have h2 := deep_at hi hx h
 rwa [if_pos ⟨rfl, u8_eq (k := 92) (by decide) e⟩] at h2
theorem deep_q (hi : i < s.size) (hx : bN s i = c) (e : (c.toNat : Int) = 34) (h : deepW o q (s.data.toList.drop i) = Q) : deepW o (!q) (s.data.toList.drop (i + 1)) = Q := by
 have h2 := deep_at hi hx h
 have hc := u8_eq (k := 34) (by decide) e
 subst hc
 rwa [if_neg (fun h => absurd h.2 (by decide)), if_pos (by decide)] at h2
theorem deep_in (hi : i < s.size) (hx : bN s i = c) (e1 : ¬(c.toNat : Int) = 92) (e2 : ¬(c.toNat : Int) = 34) (h : deepW o true (s.data.toList.drop i) = Q) : deepW o true (s.data.toList.drop (i + 1)) = Q := by
 have h2 := deep_at hi hx h
 rwa [if_neg (fun h => e1 (by rw [h.2]; decide)), if_neg (fun h => e2 (by rw [h]; decide)), if_neg (by simp), if_neg (by simp)] at h2
theorem deep_o (hi : i < s.size) (hx : bN s i = c) (e : (c.toNat : Int) = 40) (ho : o + 1 ≤ 8) (h : deepW o false (s.data.toList.drop i) = Q) : deepW (o + 1) false (s.data.toList.drop (i + 1)) = Q := by
 have h2 := deep_at hi hx h
 have hc := u8_eq (k := 40) (by decide) e
 subst hc
 rwa [if_neg (by simp), if_neg (by decide), if_pos ⟨rfl, by decide⟩, if_neg (by omega)] at h2
theorem deep_O (hi : i < s.size) (hx : bN s i = c) (e : (c.toNat : Int) = 40) (ho : ¬ o + 1 ≤ 8) (h : deepW o false (s.data.toList.drop i) = Q) : Q = true := by
 have h2 := deep_at hi hx h
 have hc := u8_eq (k := 40) (by decide) e
 subst hc
 rw [if_neg (by simp), if_neg (by decide), if_pos ⟨rfl, by decide⟩, if_pos (by omega)] at h2
 exact h2.symm
theorem deep_c (hi : i < s.size) (hx : bN s i = c) (e : (c.toNat : Int) = 41) (h : deepW o false (s.data.toList.drop i) = Q) : deepW (o - 1) false (s.data.toList.drop (i + 1)) = Q := by
 have h2 := deep_at hi hx h
 have hc := u8_eq (k := 41) (by decide) e
 subst hc
 rwa [if_neg (by simp), if_neg (by decide), if_neg (fun h => absurd h.2 (by decide)), if_pos ⟨rfl, by decide⟩] at h2
theorem deep_n (hi : i < s.size) (hx : bN s i = c) (e2 : ¬(c.toNat : Int) = 34) (e3 : ¬(c.toNat : Int) = 40) (e4 : ¬(c.toNat : Int) = 41) (h : deepW o false (s.data.toList.drop i) = Q) : deepW o false (s.data.toList.drop (i + 1)) = Q := by
 have h2 := deep_at hi hx h
 rwa [if_neg (by simp), if_neg (fun h => e2 (by rw [h]; decide)), if_neg (fun h => e3 (by rw [h.2]; decide)), if_neg (fun h => e4 (by rw [h.2]; decide))] at h2
theorem deep_end (hi : s.size ≤ i) (h : deepW o q (s.data.toList.drop i) = Q) : Q = false := by
 rw [List.drop_of_length_le (by simpa using hi), deepW] at h
 exact h.symm
end
set_option maxRecDepth 100000 in
set_option maxHeartbeats 16000000 in
/-- deep. -/
theorem deep142 (w : World) (s : ByteArray) (hs : s.size ≤ 1000000000) : Calls Try.prog 142 #[.string s] w fun e w' => e = .returned (.bool (deepW 0 false s.data.toList)) ∧ w' = w := by
 obtain ⟨Q, eQ⟩ : ∃ Q, deepW 0 false s.data.toList = Q := ⟨_, rfl⟩
 rw [eQ]
 have HQ0 := Lib.hid eQ
 clear eQ
 go_enter Try.func142, Try.ntmps142
 go_wp2
 go_loopw [3, 4, 5, 6] (fun u3 u4 u5 _ wr => ∃ (o : Nat) (q : Bool) (i : Nat), u3 = .int .i64 (o : Int) ∧ u4 = .bool q ∧ u5 = .int .i64 (i : Int) ∧ o ≤ 8 ∧ i ≤ s.size + 1 ∧ Hid (deepW o q (s.data.toList.drop i) = Q) ∧ wr = w)
  (fun _ _ u5 _ _ => s.size + 1 - (intOf u5).toNat)
 case atStart => exact ⟨0, false, 0, rfl, rfl, rfl, by omega, by omega, HQ0, rfl⟩
 case round =>
  obtain ⟨o, q, i, rfl, rfl, rfl, ho, hi, HQ, rfl⟩ := hrel
  by_cases hlt : i < s.size
  ·have hltI : (i : Int) < (s.size : Int) := by omega
   obtain ⟨c, hc⟩ : ∃ c, bN s i = c := ⟨_, rfl⟩
   have hx0 := bN_at s i c hc
   have HX := Lib.hid hc
   clear hc HQ0
   cases q with
   | true =>
    by_cases e92 : (c.toNat : Int) = 92
    ·have b92 : ((c.toNat : Int) == 92) = true := beq_iff_eq.2 e92
     go_wp2
     go_roundw
     case rel => exact ⟨o, true, i + 2, by go_num, by first | rfl | simp, by go_num, by omega, by omega, Lib.hid (deep_esc hlt HX.out e92 HQ.out), trivial⟩
     case measure => simp [intOf]; omega
    ·have b92 : ((c.toNat : Int) == 92) = false := beq_eq_false_iff_ne.2 e92
     by_cases e34 : (c.toNat : Int) = 34
     ·have b34 : ((c.toNat : Int) == 34) = true := beq_iff_eq.2 e34
      go_wp2
      go_roundw
      case rel => exact ⟨o, false, i + 1, by go_num, by first | rfl | simp, by go_num, by omega, by omega, Lib.hid (deep_q hlt HX.out e34 HQ.out), trivial⟩
      case measure => simp [intOf]; omega
     ·have b34 : ((c.toNat : Int) == 34) = false := beq_eq_false_iff_ne.2 e34
      go_wp2
      go_roundw
      case rel => exact ⟨o, true, i + 1, by go_num, by first | rfl | simp, by go_num, by omega, by omega, Lib.hid (deep_in hlt HX.out e92 e34 HQ.out), trivial⟩
      case measure => simp [intOf]; omega
   | false =>
    by_cases e34 : (c.toNat : Int) = 34
    ·have b34 : ((c.toNat : Int) == 34) = true := beq_iff_eq.2 e34
     go_wp2
     go_roundw
     case rel => exact ⟨o, true, i + 1, by go_num, by first | rfl | simp, by go_num, by omega, by omega, Lib.hid (deep_q hlt HX.out e34 HQ.out), trivial⟩
     case measure => simp [intOf]; omega
    ·have b34 : ((c.toNat : Int) == 34) = false := beq_eq_false_iff_ne.2 e34
     by_cases e40 : (c.toNat : Int) = 40
     ·have b40 : ((c.toNat : Int) == 40) = true := beq_iff_eq.2 e40
      by_cases h8 : o + 1 ≤ 8
      ·have h8I : ¬ (8 : Int) < (o : Int) + 1 := by omega
       go_wp2
       go_roundw
       case rel => exact ⟨o + 1, false, i + 1, by go_num, by first | rfl | simp, by go_num, by omega, by omega, Lib.hid (deep_o hlt HX.out e40 h8 HQ.out), trivial⟩
       case measure => simp [intOf]; omega
      ·have h8I : (8 : Int) < (o : Int) + 1 := by omega
       have HT := Lib.hid (deep_O hlt HX.out e40 h8 HQ.out)
       go_wp2
       go_ret
       rw [HT.out]
       exact ⟨rfl, rfl⟩
     ·have b40 : ((c.toNat : Int) == 40) = false := beq_eq_false_iff_ne.2 e40
      by_cases e41 : (c.toNat : Int) = 41
      ·have b41 : ((c.toNat : Int) == 41) = true := beq_iff_eq.2 e41
       have hm : max (0 : Int) ((o : Int) - 1) = ((o - 1 : Nat) : Int) := by omega
       go_wp2
       go_roundw
       case rel => exact ⟨o - 1, false, i + 1, by go_num, by first | rfl | simp, by go_num, by omega, by omega, Lib.hid (deep_c hlt HX.out e41 HQ.out), trivial⟩
       case measure => simp [intOf]; omega
      ·have b41 : ((c.toNat : Int) == 41) = false := beq_eq_false_iff_ne.2 e41
       go_wp2
       go_roundw
       case rel => exact ⟨o, false, i + 1, by go_num, by first | rfl | simp, by go_num, by omega, by omega, Lib.hid (deep_n hlt HX.out e34 e40 e41 HQ.out), trivial⟩
       case measure => simp [intOf]; omega
  ·have hltI : ¬ (i : Int) < (s.size : Int) := by omega
   have HT := Lib.hid (deep_end (by omega) HQ.out)
   go_wp2
   go_ret
   rw [HT.out]
   exact ⟨rfl, rfl⟩
set_option maxRecDepth 100000 in
set_option maxHeartbeats 16000000 in
/-- The document's deep. -/
theorem deep145 (w : World) (s : ByteArray) (hs : s.size ≤ 1000000000) : Calls Try.prog 145 #[.string s] w fun e w' => e = .returned (.bool (deepW 0 false s.data.toList)) ∧ w' = w := by
 obtain ⟨Q, eQ⟩ : ∃ Q, deepW 0 false s.data.toList = Q := ⟨_, rfl⟩
 rw [eQ]
 have HQ0 := Lib.hid eQ
 clear eQ
 go_enter Try.func145, Try.ntmps145
 go_wp2
 go_loopw [3, 4, 5, 6] (fun u3 u4 u5 _ wr => ∃ (o : Nat) (q : Bool) (i : Nat), u3 = .int .i64 (o : Int) ∧ u4 = .bool q ∧ u5 = .int .i64 (i : Int) ∧ o ≤ 8 ∧ i ≤ s.size + 1 ∧ Hid (deepW o q (s.data.toList.drop i) = Q) ∧ wr = w)
  (fun _ _ u5 _ _ => s.size + 1 - (intOf u5).toNat)
 case atStart => exact ⟨0, false, 0, rfl, rfl, rfl, by omega, by omega, HQ0, rfl⟩
 case round =>
  obtain ⟨o, q, i, rfl, rfl, rfl, ho, hi, HQ, rfl⟩ := hrel
  by_cases hlt : i < s.size
  ·have hltI : (i : Int) < (s.size : Int) := by omega
   obtain ⟨c, hc⟩ : ∃ c, bN s i = c := ⟨_, rfl⟩
   have hx0 := bN_at s i c hc
   have HX := Lib.hid hc
   clear hc HQ0
   cases q with
   | true =>
    by_cases e92 : (c.toNat : Int) = 92
    ·have b92 : ((c.toNat : Int) == 92) = true := beq_iff_eq.2 e92
     go_wp2
     go_roundw
     case rel => exact ⟨o, true, i + 2, by go_num, by first | rfl | simp, by go_num, by omega, by omega, Lib.hid (deep_esc hlt HX.out e92 HQ.out), trivial⟩
     case measure => simp [intOf]; omega
    ·have b92 : ((c.toNat : Int) == 92) = false := beq_eq_false_iff_ne.2 e92
     by_cases e34 : (c.toNat : Int) = 34
     ·have b34 : ((c.toNat : Int) == 34) = true := beq_iff_eq.2 e34
      go_wp2
      go_roundw
      case rel => exact ⟨o, false, i + 1, by go_num, by first | rfl | simp, by go_num, by omega, by omega, Lib.hid (deep_q hlt HX.out e34 HQ.out), trivial⟩
      case measure => simp [intOf]; omega
     ·have b34 : ((c.toNat : Int) == 34) = false := beq_eq_false_iff_ne.2 e34
      go_wp2
      go_roundw
      case rel => exact ⟨o, true, i + 1, by go_num, by first | rfl | simp, by go_num, by omega, by omega, Lib.hid (deep_in hlt HX.out e92 e34 HQ.out), trivial⟩
      case measure => simp [intOf]; omega
   | false =>
    by_cases e34 : (c.toNat : Int) = 34
    ·have b34 : ((c.toNat : Int) == 34) = true := beq_iff_eq.2 e34
     go_wp2
     go_roundw
     case rel => exact ⟨o, true, i + 1, by go_num, by first | rfl | simp, by go_num, by omega, by omega, Lib.hid (deep_q hlt HX.out e34 HQ.out), trivial⟩
     case measure => simp [intOf]; omega
    ·have b34 : ((c.toNat : Int) == 34) = false := beq_eq_false_iff_ne.2 e34
     by_cases e40 : (c.toNat : Int) = 40
     ·have b40 : ((c.toNat : Int) == 40) = true := beq_iff_eq.2 e40
      by_cases h8 : o + 1 ≤ 8
      ·have h8I : ¬ (8 : Int) < (o : Int) + 1 := by omega
       go_wp2
       go_roundw
       case rel => exact ⟨o + 1, false, i + 1, by go_num, by first | rfl | simp, by go_num, by omega, by omega, Lib.hid (deep_o hlt HX.out e40 h8 HQ.out), trivial⟩
       case measure => simp [intOf]; omega
      ·have h8I : (8 : Int) < (o : Int) + 1 := by omega
       have HT := Lib.hid (deep_O hlt HX.out e40 h8 HQ.out)
       go_wp2
       go_ret
       rw [HT.out]
       exact ⟨rfl, rfl⟩
     ·have b40 : ((c.toNat : Int) == 40) = false := beq_eq_false_iff_ne.2 e40
      by_cases e41 : (c.toNat : Int) = 41
      ·have b41 : ((c.toNat : Int) == 41) = true := beq_iff_eq.2 e41
       by_cases h0 : 0 < o
       ·have h0I : (0 : Int) < (o : Int) := by omega
        have h0N : decide (0 < o) = true := decide_eq_true h0
        go_wp2
        go_roundw
        case rel => exact ⟨o - 1, false, i + 1, by go_num, by first | rfl | simp, by go_num, by omega, by omega, Lib.hid (deep_c hlt HX.out e41 HQ.out), trivial⟩
        case measure => simp [intOf]; omega
       ·have h0I : ¬ (0 : Int) < (o : Int) := by omega
        have h0N : decide (0 < o) = false := decide_eq_false h0
        obtain rfl : o = 0 := by omega
        go_wp2
        go_roundw
        case rel => exact ⟨0, false, i + 1, by go_num, by first | rfl | simp, by go_num, by omega, by omega, Lib.hid (deep_c hlt HX.out e41 HQ.out), trivial⟩
        case measure => simp [intOf]; omega
      ·have b41 : ((c.toNat : Int) == 41) = false := beq_eq_false_iff_ne.2 e41
       go_wp2
       go_roundw
       case rel => exact ⟨o, false, i + 1, by go_num, by first | rfl | simp, by go_num, by omega, by omega, Lib.hid (deep_n hlt HX.out e34 e40 e41 HQ.out), trivial⟩
       case measure => simp [intOf]; omega
  ·have hltI : ¬ (i : Int) < (s.size : Int) := by omega
   have HT := Lib.hid (deep_end (by omega) HQ.out)
   go_wp2
   go_ret
   rw [HT.out]
   exact ⟨rfl, rfl⟩
end Go.Proofs.Yteafilojjdfllaa
end
section
namespace Go.Proofs
open Go.Shelf
end Go.Proofs
end
section
namespace Go.Proofs.Yteafilojjdfllaa
section
open Go Go.RowKit Go.Proofs.YteafilojjdfllaaW.PrintWords Go.Proofs.YteafilojjdfllaaW.PrintLast Go.Proofs.YteafilojjdfllaaW.PrintMore Go.Proofs.Yteafilojjdfllaa.PAll
set_option linter.unusedSimpArgs false
end
section
open Go Go.RowKit Go.Proofs.YteafilojjdfllaaW.PrintWords Go.Proofs.YteafilojjdfllaaW.PrintLast Go.Proofs.YteafilojjdfllaaW.PrintMore Go.Proofs.Yteafilojjdfllaa.PAll
set_option linter.unusedSimpArgs false
end
end Go.Proofs.Yteafilojjdfllaa
end
section
namespace Go.Proofs.Yteafilojjdfllaa
section
open Go Go.RowKit Go.Sort Go.Proofs.YteafilojjdfllaaW.PrintWords Go.Proofs.YteafilojjdfllaaW.PrintLast Go.Proofs.YteafilojjdfllaaW.PrintMore Go.Proofs.Yteafilojjdfllaa.PAll
instance : Inhabited S68 := ⟨z68⟩
end
section
open Go Go.RowKit Go.Sort Go.Proofs.YteafilojjdfllaaW.PrintWords Go.Proofs.YteafilojjdfllaaW.PrintLast Go.Proofs.YteafilojjdfllaaW.PrintMore Go.Proofs.Yteafilojjdfllaa.PAll
set_option linter.unusedSimpArgs false
end
section
namespace Lb
open Go Go.RowKit Go.Proofs.YteafilojjdfllaaW.PrintWords Go.Proofs.YteafilojjdfllaaW.PrintLast Go.Proofs.YteafilojjdfllaaW.PrintMore Go.Proofs.Yteafilojjdfllaa.PAll
set_option linter.unusedVariables false
set_option linter.unusedSimpArgs false
/-- it reads so in every world that has these blocks -/
def LF {α : Type} (d : Kd α) (W : World) (S : Nat → Prop) (A : Option Addr) (c : Nat) (xs : List α) : Prop :=
 ∀ X : World, (∀ b, S b → X.heap[b]? = W.heap[b]?) → xs.length ≤ c ∧ d.C X A xs.length xs
theorem LF.now {α : Type} {d : Kd α} {W : World} {S : Nat → Prop} {A : Option Addr} {c : Nat} {xs : List α} (h : LF d W S A c xs) : xs.length ≤ c ∧ d.C W A xs.length xs := h W (fun _ _ => rfl)
theorem LF.move {α : Type} {d : Kd α} {W Y : World} {S T : Nat → Prop} {A : Option Addr} {c : Nat} {xs : List α} (h : LF d W S A c xs) (hS : ∀ b, S b → T b ∧ Y.heap[b]? = W.heap[b]?) : LF d Y T A c xs :=
 fun X hX => h X (fun b hb => (hX b (hS b hb).1).trans (hS b hb).2)
/-- a name's value -/
def valueL (n : ByteArray) : List S68 → ByteArray
 | [] => ⟨#[]⟩
 | x :: l => if x.f0.toList = n.toList then x.f1 else valueL n l
theorem ldrop (l : List S68) (i : Nat) (h : i < l.length) : l.drop i = l.getD i z68 :: l.drop (i + 1) := by
 rw [List.drop_eq_getElem_cons h, List.getD_eq_getElem?_getD, List.getElem?_eq_getElem h, Option.getD_some]
theorem rdT68_nat (l : List S68) (i : Nat) : rd_T68 l (i : Int) = l.getD i z68 := by simp [rd_T68]
theorem value_l0 (l : List S68) (n : ByteArray) (hl : l.length ≤ 4000000000000000000) : ∀ (d i k : Nat), i ≤ l.length → l.length ≤ i + d → d < k → label_Value.l0 k n l (l.length : Int) (i : Int) = some (valueL n (l.drop i))
 | d, i, 0, _, _, h => by omega
 | d, i, k + 1, hi, hd, hk => by
  simp only [label_Value.l0, w64s i (by omega), rdT68_nat]
  by_cases hlt : i < l.length
  ·have ih := value_l0 l n hl (d - 1) (i + 1) k (by omega) (by omega) (by omega)
   rw [if_pos (by omega), if_pos (by omega), if_pos (by omega), ldrop l i hlt, valueL, ih]
   split <;> rfl
  ·rw [if_neg (by omega), List.drop_of_length_le (by omega), valueL]
theorem label_Value.val (l : List S68) (n : ByteArray) (hl : l.length ≤ 4000000000000000000) (k : Nat) (hk : l.length < k) : label_Value.f k l n = some (valueL n l) := by
 have := value_l0 l n hl l.length 0 k (by omega) (by omega) hk
 simpa [label_Value.f] using this
theorem rvalue_l0 (l : List S68) (n : ByteArray) (hl : l.length ≤ 4000000000000000000) : ∀ (d i k : Nat), i ≤ l.length → l.length ≤ i + d → d < k → varveref11_Value.l0 k l n (i : Int) = some (valueL n (l.drop i))
 | d, i, 0, _, _, h => by omega
 | d, i, k + 1, hi, hd, hk => by
  simp only [varveref11_Value.l0, w64s i (by omega), rdT68_nat]
  by_cases hlt : i < l.length
  ·have ih := rvalue_l0 l n hl (d - 1) (i + 1) k (by omega) (by omega) (by omega)
   rw [if_pos (by omega), if_pos (by omega), ldrop l i hlt, valueL, ih]
   split <;> rfl
  ·rw [if_neg (by omega), List.drop_of_length_le (by omega), valueL]
theorem varveref11_Value.val (l : List S68) (n : ByteArray) (hl : l.length ≤ 4000000000000000000) (k : Nat) (hk : l.length < k) : varveref11_Value.f k l n = some (valueL n l) := by
 have := rvalue_l0 l n hl l.length 0 k (by omega) (by omega) hk
 simpa [varveref11_Value.f] using this
end Lb
end
section
open Go Go.RowKit Go.Proofs.YteafilojjdfllaaW.PrintWords Go.Proofs.YteafilojjdfllaaW.PrintLast Go.Proofs.YteafilojjdfllaaW.PrintMore Go.Proofs.Yteafilojjdfllaa.PAll
set_option linter.unusedSimpArgs false
set_option linter.unusedVariables false
end
section
open Go Go.RowKit Go.Sort Go.Proofs.YteafilojjdfllaaW.PrintWords Go.Proofs.YteafilojjdfllaaW.PrintLast Go.Proofs.YteafilojjdfllaaW.PrintMore Go.Proofs.Yteafilojjdfllaa.PAll
set_option linter.unusedSimpArgs false
end
end Go.Proofs.Yteafilojjdfllaa
end
section
namespace Go.Proofs.Yteafilojjdfllaa
open Go Go.RowKit Go.Proofs.YteafilojjdfllaaW.PrintWords Go.Proofs.Yteafilojjdfllaa.PAll
theorem unq_suffix {step : List UInt8 → Step} : ∀ (n : Nat) (l : List UInt8), l.length ≤ n → ∀ {v t}, unqW step l = some (v, t) → t <:+ l
 | _, [], _, v, t, h => by rw [unqW] at h; cases h
 | 0, x :: l, h0, v, t, h => by simp at h0
 | n + 1, x :: r, hn, v, t, h => by
  rw [unqW] at h
  split at h
  ·cases h
  ·cases h; exact List.suffix_cons _ _
  ·rename_i c k _
   cases hq : unqW step (r.drop k) with
   | none => rw [hq] at h; cases h
   | some q =>
    rw [hq] at h
    cases h
    exact (unq_suffix n (r.drop k) (by simp only [List.length_drop]; simp only [List.length_cons] at hn; omega) (show unqW step (r.drop k) = some (q.1, q.2) from hq)).trans ((List.drop_suffix _ _).trans (List.suffix_cons _ _))
theorem val_suffix {step : List UInt8 → Step} {l v t : List UInt8} (h : valW step l = some (v, t)) : t <:+ l := by
 unfold valW at h
 split at h
 ·exact (unq_suffix _ _ (Nat.le_refl _) h).trans (List.suffix_cons _ _)
 ·cases h
/-- what stands behind a value, by its place -/
theorem val_place {step : List UInt8 → Step} {s : ByteArray} {m : Nat} {v t : List UInt8} (h : valW step (s.data.toList.drop m) = some (v, t)) : t.length ≤ s.size ∧ s.data.toList.drop (s.size - t.length) = t := by
 have h1 := (val_suffix h).trans (List.drop_suffix _ _)
 have h2 := h1.length_le
 have h3 : s.data.toList.length = s.size := by simp
 refine ⟨by omega, ?_⟩
 rw [← h3]
 exact (List.suffix_iff_eq_drop.1 h1).symm
theorem ext_take (s : ByteArray) (i n : Nat) : s.extract i (i + n) = ⟨((s.data.toList.drop i).take n).toArray⟩ := by
 apply ba_ext
 simp [List.take_drop]
theorem ext_drop (s : ByteArray) (i : Nat) : (s.extract i s.size).data.toList = s.data.toList.drop i := by
 simp
 rw [List.take_of_length_le (by simp)]
end Go.Proofs.Yteafilojjdfllaa
end
