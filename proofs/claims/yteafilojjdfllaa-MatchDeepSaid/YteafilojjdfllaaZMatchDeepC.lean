/- A part of the proof of MatchDeep. No condition. -/
import Derived.Shelf.SlGeneric
import Derived.Ground.SlsfProg
import Derived.Shelf.SlLaysF0
import Derived.Test.YteafilojjdfllaaProg
import Derived.Lib.Hide
import Derived.Shelf.SlSortCmp.KitK
import Derived.ArgAppend
import Derived.Laws.Bits64b
import Derived.Lib.LazyBuf
import Derived.Deep.QuietTactic
import Derived.BigQuiet
import Derived.Defers
import Derived.Recover
import Derived.Lib.Strings
import Derived.Lib.Slices
import Derived.Lib.Walk
import Derived.Lib.Bytealg
import Derived.Deep.CutBlock
import Derived.Test.YteafilojjdfllaaZMatchDeepB
section
namespace Go.Proofs.Yteafilojjdfllaa.PAll
open Go.RowKit Go.Proofs.YteafilojjdfllaaW.PrintWords Go.Proofs.YteafilojjdfllaaW.PrintLast Go.Proofs.YteafilojjdfllaaW.PrintMore
attribute [local go_sem] max2_int min2_int max_two min_two max_three min_three max_four min_four   -- for this text's walks alone
set_option linter.unusedVariables false
set_option linter.unusedSimpArgs false

-- NOT PRINTED: function 106 (match_room_holds)

-- NOT PRINTED: function 53 (match_Check)
def label_Value.l0 : Nat → ByteArray → List (S68) → Int → Int → Option (ByteArray)
 | 0, _, _, _, _ => none
 | k + 1, x1, x7, x8, x9 => if x9 < x8 then (if 0 ≤ x9 then (if x9 < (x7.length : Int) then (if ((rd_T68 x7 x9).f0).toList = x1.toList then (some ((rd_T68 x7 x9).f1)) else (label_Value.l0 k x1 x7 x8 (wrap64 (x9 + 1)))) else (none)) else (none)) else (some (⟨#[]⟩ : ByteArray))
def label_Value.f (k : Nat) (l0 : List (S68)) (a1 : ByteArray) : Option (ByteArray) := label_Value.l0 k a1 l0 (l0.length : Int) 0
theorem label_Value.mono_l : ∀ k, (∀ y0 y1 y2 y3, LeO (label_Value.l0 k y0 y1 y2 y3) (label_Value.l0 (k + 1) y0 y1 y2 y3))
 | 0 => fun _ _ _ _ r h => by simp [label_Value.l0] at h
 | k + 1 => by
  have ih0 := label_Value.mono_l k
  ·intro y0 y1 y2 y3
   unfold label_Value.l0
   repeat' first
   | (with_reducible exact ih0 _ _ _ _)
   | (with_reducible exact LeO.refl _)
   | (with_reducible exact LeO.none _)
   | (with_reducible refine LeO.ite ?_ ?_)
   | (with_reducible refine LeO.bind ?_ (fun _ => ?_))
   | exact ih0 _ _ _ _
   | exact LeO.none _
   | refine LeO.ite ?_ ?_
   | refine LeO.bind ?_ (fun _ => ?_)
theorem label_Value.mono : ∀ a0 a1 k, LeO (label_Value.f k a0 a1) (label_Value.f (k + 1) a0 a1) := by
 intro a0 a1 k
 have ih0 := label_Value.mono_l k
 unfold label_Value.f
 repeat' first
   | (with_reducible exact ih0 _ _ _ _)
   | (with_reducible exact LeO.refl _)
   | (with_reducible exact LeO.none _)
   | (with_reducible refine LeO.ite ?_ ?_)
   | (with_reducible refine LeO.bind ?_ (fun _ => ?_))
   | exact ih0 _ _ _ _
   | exact LeO.none _
   | refine LeO.ite ?_ ?_
   | refine LeO.bind ?_ (fun _ => ?_)
set_option maxHeartbeats 8000000 in
set_option maxRecDepth 100000 in
theorem label_Value.calls (k : Nat) (A0 : Option Addr) (c0 : Nat) (l0 : List (S68)) (a1 : ByteArray) (r : ByteArray) (w : World) (hr0 : Kd.C k68 w A0 l0.length l0) (hc0 : l0.length ≤ c0) (h : label_Value.f k l0 a1 = some r) :
  Calls Try.prog 65 #[.slice A0 l0.length c0, .string a1] w fun e w' => e = .returned (.string r) ∧ Below w.heap.size w w' := by
 have hu68 := Try.underlying68
 have HR0 := Aside0.mk hr0
 have HC0 := Aside0.mk hc0
 clear hr0 hc0
 have HB := Aside0.mk (Below.refl w.heap.size w)
 have H : (label_Value.l0 k a1 l0 (l0.length : Int) 0) = some r := h
 clear h
 have H' := Aside0.mk H
 clear H
 go_enter Try.func65, Try.ntmps65
 go_wp2
 go_loopg [9] k (fun kq v9 w' => ∃ (x9_1 : Int), v9 = .int .i64 x9_1 ∧ Aside0 (label_Value.l0 kq a1 l0 (l0.length : Int) x9_1 = some r) ∧ Aside0 (kq ≤ k) ∧ Aside0 (Below w.heap.size w w'))
 case atStart => exact ⟨(0), (by first | rfl | (simp; done) | (simp [*]; done)), H', ⟨Nat.le_refl _⟩, ⟨by repeat (first | (with_reducible first | exact HB.out | apply below_alloc | apply pw_below_drewN | apply below_drew1) | exact HB.out)⟩⟩
 case round =>
  clear H'
  try clear p2
  obtain ⟨x9_1, rfl, HA, HK1, HB⟩ := hrel
  cases gk with
  | zero => exact absurd HA.out (by simp [label_Value.l0])
  | succ k1 =>
   have H := HA.out
   clear HA
   simp only [label_Value.l0] at H
   by_cases c3 : x9_1 < (l0.length : Int)
   ·rw [if_pos c3] at H
    have c3b0 : decide (x9_1 < (l0.length : Int)) = true := decide_eq_true c3
    clear c3
    by_cases c4 : 0 ≤ x9_1
    ·rw [if_pos c4] at H
     have c4b0 : decide (0 ≤ x9_1) = true := decide_eq_true c4
     clear c4
     by_cases c5 : x9_1 < (l0.length : Int)
     ·rw [if_pos c5] at H
      have c5b0 : decide (x9_1 < (l0.length : Int)) = true := decide_eq_true c5
      clear c5
      by_cases c6 : ((rd_T68 l0 x9_1).f0).toList = a1.toList
      ·rw [if_pos c6] at H
       have c6b0 : (((rd_T68 l0 x9_1).f0).toList == a1.toList) = true := beq_iff_eq.mpr c6
       have c6b1 : (((rd_T68 l0 x9_1).f0).toList != a1.toList) = false := bne_eq_false_iff_eq.mpr c6
       clear c6
       obtain rfl := Option.some.inj H
       have p119 : 0 ≤ (x9_1 : Int) := of_decide_eq_true (by first | (with_reducible assumption) | assumption)
       have q119 : x9_1 < (l0.length : Int) := of_decide_eq_true (by first | (with_reducible assumption) | assumption)
       obtain ⟨ad119, e119, hx119_0, hx119_1⟩ := at_T68 HR0.out x9_1 p119 q119
       cases e119
       replace hx119_0 := (HB.out.cell (World.block_lt_of_cell? w _ hx119_0)).trans hx119_0
       replace hx119_1 := (HB.out.cell (World.block_lt_of_cell? w _ hx119_1)).trans hx119_1
       replace p119 := eq_true p119
       replace q119 := eq_true q119
       go_wp2_with (first | ((with_reducible refine gate_dst (N := 6) rfl ?_); refine box_event ?hg (N := 6) ?hd (cs := #[.string (⟨#[]⟩ : ByteArray), .string (⟨#[]⟩ : ByteArray)]) (t := 68) ?hr ?_; (case hd => rfl); (case hg => rfl); (case hr => first | (go_simp; done) | (go_simp; rfl)); intro gb120 hg w7 hbox hb; have n0_ := Aside0.mk (below_step (by repeat (first | (with_reducible first | exact HB.out | apply below_alloc | apply pw_below_drewN | apply below_drew1) | exact HB.out)) hb); have n1_ := Aside0.mk (hbox); have n2_ := Aside0.mk ((by rw [hg]; exact (below_size (by repeat (first | (with_reducible first | exact HB.out | apply below_alloc | apply pw_below_drewN | apply below_drew1) | exact HB.out))) : w.heap.size ≤ gb120)); have n3_ := Aside0.mk ((by rw [hg]; exact (below_size (by repeat (first | (with_reducible first | exact HB.out | apply below_alloc | apply pw_below_drewN | apply below_drew1) | exact HB.out))) : w.heap.size ≤ gb120)); clear HB; have HB := n0_; have BK120 := n1_; have GW120 := n2_; have GE120 := n3_; clear n0_ n1_ n2_ n3_; clear hb hbox hg; have hcz8_0 : w7.cell? ⟨gb120, 0, none⟩ = some (.string (⟨#[]⟩ : ByteArray)) := (blk_cell BK120.out 0).trans rfl; have hcz8_1 : w7.cell? ⟨gb120, 1, none⟩ = some (.string (⟨#[]⟩ : ByteArray)) := (blk_cell BK120.out 1).trans rfl; have hfz8_0 := blk_frozen BK120.out 0; have hfz8_1 := blk_frozen BK120.out 1))
       go_ret
       exact ⟨by first | rfl | (simp [errW_none, errW_some] <;> rfl) | (simp [*, errW_none, errW_some] <;> rfl), by repeat (first | (with_reducible first | exact HB.out | apply below_alloc | apply pw_below_drewN | apply below_drew1 | refine below_set ?_ GE120.out) | exact HB.out)⟩
      ·rw [if_neg c6] at H
       have c6b0 : (((rd_T68 l0 x9_1).f0).toList == a1.toList) = false := beq_eq_false_iff_ne.mpr c6
       have c6b1 : (((rd_T68 l0 x9_1).f0).toList != a1.toList) = true := bne_iff_ne.mpr c6
       have H' := Aside0.mk H
       clear H
       have p119 : 0 ≤ (x9_1 : Int) := of_decide_eq_true (by first | (with_reducible assumption) | assumption)
       have q119 : x9_1 < (l0.length : Int) := of_decide_eq_true (by first | (with_reducible assumption) | assumption)
       obtain ⟨ad119, e119, hx119_0, hx119_1⟩ := at_T68 HR0.out x9_1 p119 q119
       cases e119
       replace hx119_0 := (HB.out.cell (World.block_lt_of_cell? w _ hx119_0)).trans hx119_0
       replace hx119_1 := (HB.out.cell (World.block_lt_of_cell? w _ hx119_1)).trans hx119_1
       replace p119 := eq_true p119
       replace q119 := eq_true q119
       go_wp2_with (first | ((with_reducible refine gate_dst (N := 6) rfl ?_); refine box_event ?hg (N := 6) ?hd (cs := #[.string (⟨#[]⟩ : ByteArray), .string (⟨#[]⟩ : ByteArray)]) (t := 68) ?hr ?_; (case hd => rfl); (case hg => rfl); (case hr => first | (go_simp; done) | (go_simp; rfl)); intro gb120 hg w9 hbox hb; have n0_ := Aside0.mk (below_step (by repeat (first | (with_reducible first | exact HB.out | apply below_alloc | apply pw_below_drewN | apply below_drew1) | exact HB.out)) hb); have n1_ := Aside0.mk (hbox); have n2_ := Aside0.mk ((by rw [hg]; exact (below_size (by repeat (first | (with_reducible first | exact HB.out | apply below_alloc | apply pw_below_drewN | apply below_drew1) | exact HB.out))) : w.heap.size ≤ gb120)); have n3_ := Aside0.mk ((by rw [hg]; exact (below_size (by repeat (first | (with_reducible first | exact HB.out | apply below_alloc | apply pw_below_drewN | apply below_drew1) | exact HB.out))) : w.heap.size ≤ gb120)); clear HB; have HB := n0_; have BK120 := n1_; have GW120 := n2_; have GE120 := n3_; clear n0_ n1_ n2_ n3_; clear hb hbox hg; have hcz10_0 : w9.cell? ⟨gb120, 0, none⟩ = some (.string (⟨#[]⟩ : ByteArray)) := (blk_cell BK120.out 0).trans rfl; have hcz10_1 : w9.cell? ⟨gb120, 1, none⟩ = some (.string (⟨#[]⟩ : ByteArray)) := (blk_cell BK120.out 1).trans rfl; have hfz10_0 := blk_frozen BK120.out 0; have hfz10_1 := blk_frozen BK120.out 1))
       go_roundg k1
       case measure => have := HK1.out; omega
       case rel => exact ⟨(wrap64 (x9_1 + 1)), (by first | rfl | (simp; done) | (simp [*]; done)), H', ⟨by have := HK1.out; omega⟩, ⟨by repeat (first | (with_reducible first | exact HB.out | apply below_alloc | apply pw_below_drewN | apply below_drew1 | refine below_set ?_ GE120.out) | exact HB.out)⟩⟩
     ·rw [if_neg c5] at H
      exact absurd H (by simp)
    ·rw [if_neg c4] at H
     exact absurd H (by simp)
   ·rw [if_neg c3] at H
    have c3b0 : decide (x9_1 < (l0.length : Int)) = false := decide_eq_false c3
    clear c3
    obtain rfl := Option.some.inj H
    go_wp2
    go_ret
    exact ⟨by first | rfl | (simp [errW_none, errW_some] <;> rfl) | (simp [*, errW_none, errW_some] <;> rfl), by repeat (first | (with_reducible first | exact HB.out | apply below_alloc | apply pw_below_drewN | apply below_drew1) | exact HB.out)⟩
def stringslite_HasPrefix.f (a0 : ByteArray) (a1 : ByteArray) : Option (Bool) := if (a0.size : Int) ≥ (a1.size : Int) then (if 0 ≤ (a1.size : Int) then (if (a1.size : Int) ≤ (a0.size : Int) then (some ((a0.extract 0 ((a1.size : Int) : Int).toNat).toList == a1.toList)) else (none)) else (none)) else (some false)
set_option maxHeartbeats 8000000 in
set_option maxRecDepth 100000 in
theorem stringslite_HasPrefix.calls (a0 : ByteArray) (a1 : ByteArray) (r : Bool) (w : World) (h : stringslite_HasPrefix.f a0 a1 = some r) :
  Calls Try.prog 179 #[.string a0, .string a1] w fun e w' => e = .returned (.bool r) ∧ Drawn0 w w' := by
 have H : (if (a0.size : Int) ≥ (a1.size : Int) then (if 0 ≤ (a1.size : Int) then (if (a1.size : Int) ≤ (a0.size : Int) then (some ((a0.extract 0 ((a1.size : Int) : Int).toNat).toList == a1.toList)) else (none)) else (none)) else (some false)) = some r := h
 clear h
 by_cases c3 : (a0.size : Int) ≥ (a1.size : Int)
 ·rw [if_pos c3] at H
  have c3b0 : decide ((a1.size : Int) ≤ (a0.size : Int)) = true := decide_eq_true c3
  have c3b1 : decide (a1.size ≤ a0.size) = true := decide_eq_true (Int.ofNat_le.mp c3)
  clear c3
  by_cases c4 : 0 ≤ (a1.size : Int)
  ·rw [if_pos c4] at H
   have c4b0 := eq_true c4
   have c4b1 : decide (0 ≤ (a1.size : Int)) = true := decide_eq_true c4
   clear c4
   by_cases c5 : (a1.size : Int) ≤ (a0.size : Int)
   ·rw [if_pos c5] at H
    have c5b0 := eq_true c5
    have c5b1 : decide ((a1.size : Int) ≤ (a0.size : Int)) = true := decide_eq_true c5
    clear c5
    obtain rfl := Option.some.inj H
    go_enter Try.func179, Try.ntmps179
    go_wp2
    go_ret
    exact ⟨by first | rfl | (simp; done) | (simp [*]; done), by repeat (first | exact Drawn0.refl _ | apply Drawn0.step)⟩
   ·rw [if_neg c5] at H
    exact absurd H (by simp)
  ·rw [if_neg c4] at H
   exact absurd H (by simp)
 ·rw [if_neg c3] at H
  have c3b0 : decide ((a1.size : Int) ≤ (a0.size : Int)) = false := decide_eq_false c3
  have c3b1 : decide (a1.size ≤ a0.size) = false := decide_eq_false (fun h => c3 (Int.ofNat_le.mpr h))
  clear c3
  obtain rfl := Option.some.inj H
  go_enter Try.func179, Try.ntmps179
  go_wp2
  go_ret
  exact ⟨by first | rfl | (simp; done) | (simp [*]; done), by repeat (first | exact Drawn0.refl _ | apply Drawn0.step)⟩
def strings_HasPrefix.f (a0 : ByteArray) (a1 : ByteArray) : Option (Bool) := (stringslite_HasPrefix.f a0 a1).bind fun t121 => (some t121)
set_option maxHeartbeats 8000000 in
set_option maxRecDepth 100000 in
theorem strings_HasPrefix.calls (a0 : ByteArray) (a1 : ByteArray) (r : Bool) (w : World) (h : strings_HasPrefix.f a0 a1 = some r) :
  Calls Try.prog 158 #[.string a0, .string a1] w fun e w' => e = .returned (.bool r) ∧ Drawn0 w w' := by
 have H : ((stringslite_HasPrefix.f a0 a1).bind fun t121 => (some t121)) = some r := h
 clear h
 replace H := Option.bind_eq_some_iff.mp H
 obtain ⟨t121, A30, H⟩ := H
 replace H : (some t121) = some r := H
 have A3 := Aside0.mk A30
 clear A30
 obtain rfl := Option.some.inj H
 go_enter Try.func158, Try.ntmps158
 go_wp2_with (first | ((with_reducible refine gate_callee (f := 179) rfl ?_); refine goesL_ (some 7) rfl rfl Try.func179 (by kernel_rfl) rfl #[.string a0, .string a1] rfl (by (try simp only [List.map_toArray, List.map_cons, List.map_nil]); first | done | rfl | (simp only [List.length_drop, List.length_take]; rfl)) ?_; (with_reducible refine (stringslite_HasPrefix.calls a0 a1 t121 _ A3.out).mono ?_); rintro e w' ⟨rfl, ⟨nd, rfl⟩⟩; refine ⟨_, rfl, ?_⟩))
 go_ret
 exact ⟨by first | rfl | (simp; done) | (simp [*]; done), by repeat (first | exact Drawn0.refl _ | apply Drawn0.step)⟩
end Go.Proofs.Yteafilojjdfllaa.PAll
end
section
namespace Go.Proofs.Yteafilojjdfllaa.PAll
open Go.RowKit Go.Proofs.YteafilojjdfllaaW.PrintWords Go.Proofs.YteafilojjdfllaaW.PrintLast Go.Proofs.YteafilojjdfllaaW.PrintMore
attribute [local go_sem] max2_int min2_int max_two min_two max_three min_three max_four min_four   -- for this text's walks alone
set_option linter.unusedVariables false
set_option linter.unusedSimpArgs false
mutual
def match_eval.l0 : Nat → ByteArray → List ByteArray → Int → Int → Option (Bool)
 | 0, _, _, _, _ => none
 | k + 1, x5, x40, x41, x42 => if x42 < x41 then (if 0 ≤ x42 then (if x42 < (x40.length : Int) then (if (rdOf ByteArray.empty x40 x42).toList = x5.toList then (some true) else (match_eval.l0 k x5 x40 x41 (wrap64 (x42 + 1)))) else (none)) else (none)) else (some false)
def match_eval.l1 : Nat → List (S68) → Bool → List (S25) → Int → Int → Option (Bool)
 | 0, _, _, _, _, _ => none
 | k + 1, x1, x8, x63, x64, x65 => if x65 < x64 then (if 0 ≤ x65 then (if x65 < (x63.length : Int) then ((match_eval.f k ((rd_T25 x63 x65).f0) ((rd_T25 x63 x65).f1) ((rd_T25 x63 x65).f2) ((rd_T25 x63 x65).f3) ((rd_T25 x63 x65).f4) x1).bind fun t130 => (if (t130 == x8) = true then (some x8) else (match_eval.l1 k x1 x8 x63 x64 (wrap64 (x65 + 1))))) else (none)) else (none)) else (some (!x8))
def match_eval.f : Nat → Int → ByteArray → ByteArray → List ByteArray → List (S25) → List (S68) → Option (Bool)
 | 0, _, _, _, _, _, _ => none
 | k + 1, a0_0, a0_1, a0_2, l0_3, l0_4, l1 => (label_Value.f k l1 a0_1).bind fun t123 => (if a0_0 = 0 then (some true) else (if a0_0 = 1 then (some (t123.toList == a0_2.toList)) else (if a0_0 = 2 then (some (t123.toList != a0_2.toList)) else (if a0_0 = 3 then ((strings_HasPrefix.f t123 a0_2).bind fun t124 => (some t124)) else (if a0_0 = 4 then (match_eval.l0 k t123 l0_3 (l0_3.length : Int) 0) else (if a0_0 = 7 then (if 0 < (l0_4.length : Int) then ((match_eval.f k ((rd_T25 l0_4 0).f0) ((rd_T25 l0_4 0).f1) ((rd_T25 l0_4 0).f2) ((rd_T25 l0_4 0).f3) ((rd_T25 l0_4 0).f4) l1).bind fun t127 => (some (!t127))) else (none)) else (match_eval.l1 k l1 (a0_0 == 6) l0_4 (l0_4.length : Int) 0)))))))
end
theorem match_eval.mono_l : ∀ k, (∀ y0 y1 y2 y3 y4 y5, LeO (match_eval.f k y0 y1 y2 y3 y4 y5) (match_eval.f (k + 1) y0 y1 y2 y3 y4 y5)) ∧ (∀ y0 y1 y2 y3, LeO (match_eval.l0 k y0 y1 y2 y3) (match_eval.l0 (k + 1) y0 y1 y2 y3)) ∧ (∀ y0 y1 y2 y3 y4, LeO (match_eval.l1 k y0 y1 y2 y3 y4) (match_eval.l1 (k + 1) y0 y1 y2 y3 y4))
 | 0 => ⟨fun _ _ _ _ _ _ r h => by simp [match_eval.f] at h, fun _ _ _ _ r h => by simp [match_eval.l0] at h, fun _ _ _ _ _ r h => by simp [match_eval.l1] at h⟩
 | k + 1 => by
  obtain ⟨ih0, ih1, ih2⟩ := match_eval.mono_l k
  refine ⟨?_, ?_, ?_⟩
  ·intro y0 y1 y2 y3 y4 y5
   unfold match_eval.f
   repeat' first
   | (with_reducible exact ih0 _ _ _ _ _ _)
   | (with_reducible exact ih1 _ _ _ _)
   | (with_reducible exact ih2 _ _ _ _ _)
   | (with_reducible exact label_Value.mono _ _ _)
   | (with_reducible exact LeO.refl _)
   | (with_reducible exact LeO.none _)
   | (with_reducible refine LeO.ite ?_ ?_)
   | (with_reducible refine LeO.bind ?_ (fun _ => ?_))
   | exact ih0 _ _ _ _ _ _
   | exact ih1 _ _ _ _
   | exact ih2 _ _ _ _ _
   | exact label_Value.mono _ _ _
   | exact LeO.none _
   | refine LeO.ite ?_ ?_
   | refine LeO.bind ?_ (fun _ => ?_)
  ·intro y0 y1 y2 y3
   unfold match_eval.l0
   repeat' first
   | (with_reducible exact ih0 _ _ _ _ _ _)
   | (with_reducible exact ih1 _ _ _ _)
   | (with_reducible exact ih2 _ _ _ _ _)
   | (with_reducible exact label_Value.mono _ _ _)
   | (with_reducible exact LeO.refl _)
   | (with_reducible exact LeO.none _)
   | (with_reducible refine LeO.ite ?_ ?_)
   | (with_reducible refine LeO.bind ?_ (fun _ => ?_))
   | exact ih0 _ _ _ _ _ _
   | exact ih1 _ _ _ _
   | exact ih2 _ _ _ _ _
   | exact label_Value.mono _ _ _
   | exact LeO.none _
   | refine LeO.ite ?_ ?_
   | refine LeO.bind ?_ (fun _ => ?_)
  ·intro y0 y1 y2 y3 y4
   unfold match_eval.l1
   repeat' first
   | (with_reducible exact ih0 _ _ _ _ _ _)
   | (with_reducible exact ih1 _ _ _ _)
   | (with_reducible exact ih2 _ _ _ _ _)
   | (with_reducible exact label_Value.mono _ _ _)
   | (with_reducible exact LeO.refl _)
   | (with_reducible exact LeO.none _)
   | (with_reducible refine LeO.ite ?_ ?_)
   | (with_reducible refine LeO.bind ?_ (fun _ => ?_))
   | exact ih0 _ _ _ _ _ _
   | exact ih1 _ _ _ _
   | exact ih2 _ _ _ _ _
   | exact label_Value.mono _ _ _
   | exact LeO.none _
   | refine LeO.ite ?_ ?_
   | refine LeO.bind ?_ (fun _ => ?_)
theorem match_eval.mono : ∀ a0 a1 a2 a3 a4 a5 k, LeO (match_eval.f k a0 a1 a2 a3 a4 a5) (match_eval.f (k + 1) a0 a1 a2 a3 a4 a5) := by
 intro a0 a1 a2 a3 a4 a5 k
 obtain ⟨ih0, ih1, ih2⟩ := match_eval.mono_l k
 exact ih0 a0 a1 a2 a3 a4 a5
set_option maxHeartbeats 8000000 in
set_option maxRecDepth 100000 in
theorem match_eval.calls (k : Nat) : ∀ (a0_0 : Int) (a0_1 : ByteArray) (a0_2 : ByteArray) (A0_3 : Option Addr) (c0_3 : Nat) (l0_3 : List ByteArray) (A0_4 : Option Addr) (c0_4 : Nat) (l0_4 : List (S25)) (A1 : Option Addr) (c1 : Nat) (l1 : List (S68)) (r : Bool) (w : World) (hr0_3 : Kd.C Kd.string w A0_3 l0_3.length l0_3) (hc0_3 : l0_3.length ≤ c0_3) (hr0_4 : Kd.C k25 w A0_4 l0_4.length l0_4) (hc0_4 : l0_4.length ≤ c0_4) (hr1 : Kd.C k68 w A1 l1.length l1) (hc1 : l1.length ≤ c1) (h : match_eval.f k a0_0 a0_1 a0_2 l0_3 l0_4 l1 = some r),
  Calls Try.prog 108 #[.agg #[.int .i64 a0_0, .string a0_1, .string a0_2, .slice A0_3 l0_3.length c0_3, .slice A0_4 l0_4.length c0_4], .slice A1 l1.length c1] w fun e w' => e = .returned (.bool r) ∧ Below w.heap.size w w' := by
 induction k using Nat.strongRecOn with
 | _ k ih =>
 intro a0_0 a0_1 a0_2 A0_3 c0_3 l0_3 A0_4 c0_4 l0_4 A1 c1 l1 r w hr0_3 hc0_3 hr0_4 hc0_4 hr1 hc1 h
 cases k with
 | zero => exact absurd h (by simp [match_eval.f])
 | succ k =>
 simp only [match_eval.f] at h
 have hu25 := Try.underlying25
 have HR0_3 := Aside0.mk hr0_3
 have HC0_3 := Aside0.mk hc0_3
 clear hr0_3 hc0_3
 have HR0_4 := Aside0.mk hr0_4
 have HC0_4 := Aside0.mk hc0_4
 clear hr0_4 hc0_4
 have HR1 := Aside0.mk hr1
 have HC1 := Aside0.mk hc1
 clear hr1 hc1
 have HB := Aside0.mk (Below.refl w.heap.size w)
 have H : ((label_Value.f k l1 a0_1).bind fun t123 => (if a0_0 = 0 then (some true) else (if a0_0 = 1 then (some (t123.toList == a0_2.toList)) else (if a0_0 = 2 then (some (t123.toList != a0_2.toList)) else (if a0_0 = 3 then ((strings_HasPrefix.f t123 a0_2).bind fun t124 => (some t124)) else (if a0_0 = 4 then (match_eval.l0 k t123 l0_3 (l0_3.length : Int) 0) else (if a0_0 = 7 then (if 0 < (l0_4.length : Int) then ((match_eval.f k ((rd_T25 l0_4 0).f0) ((rd_T25 l0_4 0).f1) ((rd_T25 l0_4 0).f2) ((rd_T25 l0_4 0).f3) ((rd_T25 l0_4 0).f4) l1).bind fun t127 => (some (!t127))) else (none)) else (match_eval.l1 k l1 (a0_0 == 6) l0_4 (l0_4.length : Int) 0)))))))) = some r := h
 clear h
 replace H := Option.bind_eq_some_iff.mp H
 obtain ⟨t123, A30, H⟩ := H
 replace H : (if a0_0 = 0 then (some true) else (if a0_0 = 1 then (some (t123.toList == a0_2.toList)) else (if a0_0 = 2 then (some (t123.toList != a0_2.toList)) else (if a0_0 = 3 then ((strings_HasPrefix.f t123 a0_2).bind fun t124 => (some t124)) else (if a0_0 = 4 then (match_eval.l0 k t123 l0_3 (l0_3.length : Int) 0) else (if a0_0 = 7 then (if 0 < (l0_4.length : Int) then ((match_eval.f k ((rd_T25 l0_4 0).f0) ((rd_T25 l0_4 0).f1) ((rd_T25 l0_4 0).f2) ((rd_T25 l0_4 0).f3) ((rd_T25 l0_4 0).f4) l1).bind fun t127 => (some (!t127))) else (none)) else (match_eval.l1 k l1 (a0_0 == 6) l0_4 (l0_4.length : Int) 0))))))) = some r := H
 have A3 := Aside0.mk A30
 clear A30
 by_cases c4 : a0_0 = 0
 ·rw [if_pos c4] at H
  have c4b0 : (a0_0 == 0) = true := beq_iff_eq.mpr c4
  have c4b1 : (a0_0 != 0) = false := bne_eq_false_iff_eq.mpr c4
  clear c4
  obtain rfl := Option.some.inj H
  go_enter Try.func108, Try.ntmps108
  go_wp2_with (first | ((with_reducible refine gate_dst (N := 2) rfl ?_); refine box_event ?hg (N := 2) ?hd (cs := #[.int .i64 a0_0, .string a0_1, .string a0_2, .slice A0_3 l0_3.length c0_3, .slice A0_4 l0_4.length c0_4]) (t := 25) ?hr ?_; (case hd => rfl); (case hg => rfl); (case hr => first | (go_simp; done) | (go_simp; rfl)); intro gb122 hg w5 hbox hb; have n0_ := Aside0.mk (below_step (by repeat (first | (with_reducible first | exact HB.out | apply below_alloc | apply pw_below_drewN | apply below_drew1) | exact HB.out)) hb); have n1_ := Aside0.mk (hbox); have n2_ := Aside0.mk ((by rw [hg]; exact (below_size (by repeat (first | (with_reducible first | exact HB.out | apply below_alloc | apply pw_below_drewN | apply below_drew1) | exact HB.out))) : w.heap.size ≤ gb122)); have n3_ := Aside0.mk ((by rw [hg]; exact (below_size (by repeat (first | (with_reducible first | exact HB.out | apply below_alloc | apply pw_below_drewN | apply below_drew1) | exact HB.out))) : w.heap.size ≤ gb122)); clear HB; have HB := n0_; have BK122 := n1_; have GW122 := n2_; have GE122 := n3_; clear n0_ n1_ n2_ n3_; clear hb hbox hg; have hcz6_0 : w5.cell? ⟨gb122, 0, none⟩ = some (.int .i64 a0_0) := (blk_cell BK122.out 0).trans rfl; have hcz6_1 : w5.cell? ⟨gb122, 1, none⟩ = some (.string a0_1) := (blk_cell BK122.out 1).trans rfl; have hcz6_2 : w5.cell? ⟨gb122, 2, none⟩ = some (.string a0_2) := (blk_cell BK122.out 2).trans rfl; have hcz6_3 : w5.cell? ⟨gb122, 3, none⟩ = some (.slice A0_3 l0_3.length c0_3) := (blk_cell BK122.out 3).trans rfl; have hcz6_4 : w5.cell? ⟨gb122, 4, none⟩ = some (.slice A0_4 l0_4.length c0_4) := (blk_cell BK122.out 4).trans rfl; have hfz6_0 := blk_frozen BK122.out 0; have hfz6_1 := blk_frozen BK122.out 1; have hfz6_2 := blk_frozen BK122.out 2; have hfz6_3 := blk_frozen BK122.out 3; have hfz6_4 := blk_frozen BK122.out 4) | ((with_reducible refine gate_callee (f := 65) rfl ?_); refine goesL_ (some 14) rfl rfl Try.func65 (by kernel_rfl) rfl #[.slice A1 l1.length c1, .string a0_1] rfl (by (try simp only [List.map_toArray, List.map_cons, List.map_nil]); first | done | rfl | (simp only [List.length_drop, List.length_take]; rfl)) ?_; (with_reducible refine (label_Value.calls k _ _ l1 a0_1 t123 _ ?side1 ?side2 A3.out).mono ?_); (case side1 => repeat (first | exact (Kd.C_below HR1.out HB.out) | (with_reducible refine Kd.C_alloc ?_ _) | (with_reducible refine Kd.C_drewN ?_ _) | (with_reducible refine Kd.C_drew ?_))); (case side2 => exact HC1.out); rintro e w7 ⟨rfl, hb⟩; refine ⟨_, rfl, ?_⟩; have n0_ := Aside0.mk (blk_below (g := gb122) (o := .cells #[.int .i64 a0_0, .string a0_1, .string a0_2, .slice A0_3 l0_3.length c0_3, .slice A0_4 l0_4.length c0_4] 25 (0, 0)) (by (with_reducible repeat (first | refine blk_drewN ?_ _ | refine blk_drew ?_ | refine blk_alloc ?_ _)); exact BK122.out) hb); have n1_ := Aside0.mk (below_step (by repeat (first | (with_reducible first | exact HB.out | apply below_alloc | apply pw_below_drewN | apply below_drew1 | refine below_set ?_ GE122.out) | exact HB.out)) hb); clear BK122; clear HB; have BK122 := n0_; have HB := n1_; clear n0_ n1_; (try clear hb); (try clear hb2); (try clear hk); (try clear hi); have hcz8_0 : w7.cell? ⟨gb122, 0, none⟩ = some (.int .i64 a0_0) := (blk_cell BK122.out 0).trans rfl; have hcz8_1 : w7.cell? ⟨gb122, 1, none⟩ = some (.string a0_1) := (blk_cell BK122.out 1).trans rfl; have hcz8_2 : w7.cell? ⟨gb122, 2, none⟩ = some (.string a0_2) := (blk_cell BK122.out 2).trans rfl; have hcz8_3 : w7.cell? ⟨gb122, 3, none⟩ = some (.slice A0_3 l0_3.length c0_3) := (blk_cell BK122.out 3).trans rfl; have hcz8_4 : w7.cell? ⟨gb122, 4, none⟩ = some (.slice A0_4 l0_4.length c0_4) := (blk_cell BK122.out 4).trans rfl; have hfz8_0 := blk_frozen BK122.out 0; have hfz8_1 := blk_frozen BK122.out 1; have hfz8_2 := blk_frozen BK122.out 2; have hfz8_3 := blk_frozen BK122.out 3; have hfz8_4 := blk_frozen BK122.out 4))
  go_ret
  exact ⟨by first | rfl | (simp [errW_none, errW_some] <;> rfl) | (simp [*, errW_none, errW_some] <;> rfl), by repeat (first | (with_reducible first | exact HB.out | apply below_alloc | apply pw_below_drewN | apply below_drew1 | refine below_set ?_ GE122.out) | exact HB.out)⟩
 ·rw [if_neg c4] at H
  have c4b0 : (a0_0 == 0) = false := beq_eq_false_iff_ne.mpr c4
  have c4b1 : (a0_0 != 0) = true := bne_iff_ne.mpr c4
  by_cases c9 : a0_0 = 1
  ·rw [if_pos c9] at H
   have c9b0 : (a0_0 == 1) = true := beq_iff_eq.mpr c9
   have c9b1 : (a0_0 != 1) = false := bne_eq_false_iff_eq.mpr c9
   clear c9
   obtain rfl := Option.some.inj H
   go_enter Try.func108, Try.ntmps108
   go_wp2_with (first | ((with_reducible refine gate_dst (N := 2) rfl ?_); refine box_event ?hg (N := 2) ?hd (cs := #[.int .i64 a0_0, .string a0_1, .string a0_2, .slice A0_3 l0_3.length c0_3, .slice A0_4 l0_4.length c0_4]) (t := 25) ?hr ?_; (case hd => rfl); (case hg => rfl); (case hr => first | (go_simp; done) | (go_simp; rfl)); intro gb122 hg w10 hbox hb; have n0_ := Aside0.mk (below_step (by repeat (first | (with_reducible first | exact HB.out | apply below_alloc | apply pw_below_drewN | apply below_drew1) | exact HB.out)) hb); have n1_ := Aside0.mk (hbox); have n2_ := Aside0.mk ((by rw [hg]; exact (below_size (by repeat (first | (with_reducible first | exact HB.out | apply below_alloc | apply pw_below_drewN | apply below_drew1) | exact HB.out))) : w.heap.size ≤ gb122)); have n3_ := Aside0.mk ((by rw [hg]; exact (below_size (by repeat (first | (with_reducible first | exact HB.out | apply below_alloc | apply pw_below_drewN | apply below_drew1) | exact HB.out))) : w.heap.size ≤ gb122)); clear HB; have HB := n0_; have BK122 := n1_; have GW122 := n2_; have GE122 := n3_; clear n0_ n1_ n2_ n3_; clear hb hbox hg; have hcz11_0 : w10.cell? ⟨gb122, 0, none⟩ = some (.int .i64 a0_0) := (blk_cell BK122.out 0).trans rfl; have hcz11_1 : w10.cell? ⟨gb122, 1, none⟩ = some (.string a0_1) := (blk_cell BK122.out 1).trans rfl; have hcz11_2 : w10.cell? ⟨gb122, 2, none⟩ = some (.string a0_2) := (blk_cell BK122.out 2).trans rfl; have hcz11_3 : w10.cell? ⟨gb122, 3, none⟩ = some (.slice A0_3 l0_3.length c0_3) := (blk_cell BK122.out 3).trans rfl; have hcz11_4 : w10.cell? ⟨gb122, 4, none⟩ = some (.slice A0_4 l0_4.length c0_4) := (blk_cell BK122.out 4).trans rfl; have hfz11_0 := blk_frozen BK122.out 0; have hfz11_1 := blk_frozen BK122.out 1; have hfz11_2 := blk_frozen BK122.out 2; have hfz11_3 := blk_frozen BK122.out 3; have hfz11_4 := blk_frozen BK122.out 4) | ((with_reducible refine gate_callee (f := 65) rfl ?_); refine goesL_ (some 14) rfl rfl Try.func65 (by kernel_rfl) rfl #[.slice A1 l1.length c1, .string a0_1] rfl (by (try simp only [List.map_toArray, List.map_cons, List.map_nil]); first | done | rfl | (simp only [List.length_drop, List.length_take]; rfl)) ?_; (with_reducible refine (label_Value.calls k _ _ l1 a0_1 t123 _ ?side1 ?side2 A3.out).mono ?_); (case side1 => repeat (first | exact (Kd.C_below HR1.out HB.out) | (with_reducible refine Kd.C_alloc ?_ _) | (with_reducible refine Kd.C_drewN ?_ _) | (with_reducible refine Kd.C_drew ?_))); (case side2 => exact HC1.out); rintro e w12 ⟨rfl, hb⟩; refine ⟨_, rfl, ?_⟩; have n0_ := Aside0.mk (blk_below (g := gb122) (o := .cells #[.int .i64 a0_0, .string a0_1, .string a0_2, .slice A0_3 l0_3.length c0_3, .slice A0_4 l0_4.length c0_4] 25 (0, 0)) (by (with_reducible repeat (first | refine blk_drewN ?_ _ | refine blk_drew ?_ | refine blk_alloc ?_ _)); exact BK122.out) hb); have n1_ := Aside0.mk (below_step (by repeat (first | (with_reducible first | exact HB.out | apply below_alloc | apply pw_below_drewN | apply below_drew1 | refine below_set ?_ GE122.out) | exact HB.out)) hb); clear BK122; clear HB; have BK122 := n0_; have HB := n1_; clear n0_ n1_; (try clear hb); (try clear hb2); (try clear hk); (try clear hi); have hcz13_0 : w12.cell? ⟨gb122, 0, none⟩ = some (.int .i64 a0_0) := (blk_cell BK122.out 0).trans rfl; have hcz13_1 : w12.cell? ⟨gb122, 1, none⟩ = some (.string a0_1) := (blk_cell BK122.out 1).trans rfl; have hcz13_2 : w12.cell? ⟨gb122, 2, none⟩ = some (.string a0_2) := (blk_cell BK122.out 2).trans rfl; have hcz13_3 : w12.cell? ⟨gb122, 3, none⟩ = some (.slice A0_3 l0_3.length c0_3) := (blk_cell BK122.out 3).trans rfl; have hcz13_4 : w12.cell? ⟨gb122, 4, none⟩ = some (.slice A0_4 l0_4.length c0_4) := (blk_cell BK122.out 4).trans rfl; have hfz13_0 := blk_frozen BK122.out 0; have hfz13_1 := blk_frozen BK122.out 1; have hfz13_2 := blk_frozen BK122.out 2; have hfz13_3 := blk_frozen BK122.out 3; have hfz13_4 := blk_frozen BK122.out 4))
   go_ret
   exact ⟨by first | rfl | (simp [errW_none, errW_some] <;> rfl) | (simp [*, errW_none, errW_some] <;> rfl), by repeat (first | (with_reducible first | exact HB.out | apply below_alloc | apply pw_below_drewN | apply below_drew1 | refine below_set ?_ GE122.out) | exact HB.out)⟩
  ·rw [if_neg c9] at H
   have c9b0 : (a0_0 == 1) = false := beq_eq_false_iff_ne.mpr c9
   have c9b1 : (a0_0 != 1) = true := bne_iff_ne.mpr c9
   by_cases c14 : a0_0 = 2
   ·rw [if_pos c14] at H
    have c14b0 : (a0_0 == 2) = true := beq_iff_eq.mpr c14
    have c14b1 : (a0_0 != 2) = false := bne_eq_false_iff_eq.mpr c14
    clear c14
    obtain rfl := Option.some.inj H
    go_enter Try.func108, Try.ntmps108
    go_wp2_with (first | ((with_reducible refine gate_dst (N := 2) rfl ?_); refine box_event ?hg (N := 2) ?hd (cs := #[.int .i64 a0_0, .string a0_1, .string a0_2, .slice A0_3 l0_3.length c0_3, .slice A0_4 l0_4.length c0_4]) (t := 25) ?hr ?_; (case hd => rfl); (case hg => rfl); (case hr => first | (go_simp; done) | (go_simp; rfl)); intro gb122 hg w15 hbox hb; have n0_ := Aside0.mk (below_step (by repeat (first | (with_reducible first | exact HB.out | apply below_alloc | apply pw_below_drewN | apply below_drew1) | exact HB.out)) hb); have n1_ := Aside0.mk (hbox); have n2_ := Aside0.mk ((by rw [hg]; exact (below_size (by repeat (first | (with_reducible first | exact HB.out | apply below_alloc | apply pw_below_drewN | apply below_drew1) | exact HB.out))) : w.heap.size ≤ gb122)); have n3_ := Aside0.mk ((by rw [hg]; exact (below_size (by repeat (first | (with_reducible first | exact HB.out | apply below_alloc | apply pw_below_drewN | apply below_drew1) | exact HB.out))) : w.heap.size ≤ gb122)); clear HB; have HB := n0_; have BK122 := n1_; have GW122 := n2_; have GE122 := n3_; clear n0_ n1_ n2_ n3_; clear hb hbox hg; have hcz16_0 : w15.cell? ⟨gb122, 0, none⟩ = some (.int .i64 a0_0) := (blk_cell BK122.out 0).trans rfl; have hcz16_1 : w15.cell? ⟨gb122, 1, none⟩ = some (.string a0_1) := (blk_cell BK122.out 1).trans rfl; have hcz16_2 : w15.cell? ⟨gb122, 2, none⟩ = some (.string a0_2) := (blk_cell BK122.out 2).trans rfl; have hcz16_3 : w15.cell? ⟨gb122, 3, none⟩ = some (.slice A0_3 l0_3.length c0_3) := (blk_cell BK122.out 3).trans rfl; have hcz16_4 : w15.cell? ⟨gb122, 4, none⟩ = some (.slice A0_4 l0_4.length c0_4) := (blk_cell BK122.out 4).trans rfl; have hfz16_0 := blk_frozen BK122.out 0; have hfz16_1 := blk_frozen BK122.out 1; have hfz16_2 := blk_frozen BK122.out 2; have hfz16_3 := blk_frozen BK122.out 3; have hfz16_4 := blk_frozen BK122.out 4) | ((with_reducible refine gate_callee (f := 65) rfl ?_); refine goesL_ (some 14) rfl rfl Try.func65 (by kernel_rfl) rfl #[.slice A1 l1.length c1, .string a0_1] rfl (by (try simp only [List.map_toArray, List.map_cons, List.map_nil]); first | done | rfl | (simp only [List.length_drop, List.length_take]; rfl)) ?_; (with_reducible refine (label_Value.calls k _ _ l1 a0_1 t123 _ ?side1 ?side2 A3.out).mono ?_); (case side1 => repeat (first | exact (Kd.C_below HR1.out HB.out) | (with_reducible refine Kd.C_alloc ?_ _) | (with_reducible refine Kd.C_drewN ?_ _) | (with_reducible refine Kd.C_drew ?_))); (case side2 => exact HC1.out); rintro e w17 ⟨rfl, hb⟩; refine ⟨_, rfl, ?_⟩; have n0_ := Aside0.mk (blk_below (g := gb122) (o := .cells #[.int .i64 a0_0, .string a0_1, .string a0_2, .slice A0_3 l0_3.length c0_3, .slice A0_4 l0_4.length c0_4] 25 (0, 0)) (by (with_reducible repeat (first | refine blk_drewN ?_ _ | refine blk_drew ?_ | refine blk_alloc ?_ _)); exact BK122.out) hb); have n1_ := Aside0.mk (below_step (by repeat (first | (with_reducible first | exact HB.out | apply below_alloc | apply pw_below_drewN | apply below_drew1 | refine below_set ?_ GE122.out) | exact HB.out)) hb); clear BK122; clear HB; have BK122 := n0_; have HB := n1_; clear n0_ n1_; (try clear hb); (try clear hb2); (try clear hk); (try clear hi); have hcz18_0 : w17.cell? ⟨gb122, 0, none⟩ = some (.int .i64 a0_0) := (blk_cell BK122.out 0).trans rfl; have hcz18_1 : w17.cell? ⟨gb122, 1, none⟩ = some (.string a0_1) := (blk_cell BK122.out 1).trans rfl; have hcz18_2 : w17.cell? ⟨gb122, 2, none⟩ = some (.string a0_2) := (blk_cell BK122.out 2).trans rfl; have hcz18_3 : w17.cell? ⟨gb122, 3, none⟩ = some (.slice A0_3 l0_3.length c0_3) := (blk_cell BK122.out 3).trans rfl; have hcz18_4 : w17.cell? ⟨gb122, 4, none⟩ = some (.slice A0_4 l0_4.length c0_4) := (blk_cell BK122.out 4).trans rfl; have hfz18_0 := blk_frozen BK122.out 0; have hfz18_1 := blk_frozen BK122.out 1; have hfz18_2 := blk_frozen BK122.out 2; have hfz18_3 := blk_frozen BK122.out 3; have hfz18_4 := blk_frozen BK122.out 4))
    go_ret
    exact ⟨by first | rfl | (simp [errW_none, errW_some] <;> rfl) | (simp [*, errW_none, errW_some] <;> rfl), by repeat (first | (with_reducible first | exact HB.out | apply below_alloc | apply pw_below_drewN | apply below_drew1 | refine below_set ?_ GE122.out) | exact HB.out)⟩
   ·rw [if_neg c14] at H
    have c14b0 : (a0_0 == 2) = false := beq_eq_false_iff_ne.mpr c14
    have c14b1 : (a0_0 != 2) = true := bne_iff_ne.mpr c14
    by_cases c19 : a0_0 = 3
    ·rw [if_pos c19] at H
     have c19b0 : (a0_0 == 3) = true := beq_iff_eq.mpr c19
     have c19b1 : (a0_0 != 3) = false := bne_eq_false_iff_eq.mpr c19
     clear c19
     replace H := Option.bind_eq_some_iff.mp H
     obtain ⟨t124, A200, H⟩ := H
     replace H : (some t124) = some r := H
     have A20 := Aside0.mk A200
     clear A200
     obtain rfl := Option.some.inj H
     go_enter Try.func108, Try.ntmps108
     go_wp2_with (first | ((with_reducible refine gate_dst (N := 2) rfl ?_); refine box_event ?hg (N := 2) ?hd (cs := #[.int .i64 a0_0, .string a0_1, .string a0_2, .slice A0_3 l0_3.length c0_3, .slice A0_4 l0_4.length c0_4]) (t := 25) ?hr ?_; (case hd => rfl); (case hg => rfl); (case hr => first | (go_simp; done) | (go_simp; rfl)); intro gb122 hg w21 hbox hb; have n0_ := Aside0.mk (below_step (by repeat (first | (with_reducible first | exact HB.out | apply below_alloc | apply pw_below_drewN | apply below_drew1) | exact HB.out)) hb); have n1_ := Aside0.mk (hbox); have n2_ := Aside0.mk ((by rw [hg]; exact (below_size (by repeat (first | (with_reducible first | exact HB.out | apply below_alloc | apply pw_below_drewN | apply below_drew1) | exact HB.out))) : w.heap.size ≤ gb122)); have n3_ := Aside0.mk ((by rw [hg]; exact (below_size (by repeat (first | (with_reducible first | exact HB.out | apply below_alloc | apply pw_below_drewN | apply below_drew1) | exact HB.out))) : w.heap.size ≤ gb122)); clear HB; have HB := n0_; have BK122 := n1_; have GW122 := n2_; have GE122 := n3_; clear n0_ n1_ n2_ n3_; clear hb hbox hg; have hcz22_0 : w21.cell? ⟨gb122, 0, none⟩ = some (.int .i64 a0_0) := (blk_cell BK122.out 0).trans rfl; have hcz22_1 : w21.cell? ⟨gb122, 1, none⟩ = some (.string a0_1) := (blk_cell BK122.out 1).trans rfl; have hcz22_2 : w21.cell? ⟨gb122, 2, none⟩ = some (.string a0_2) := (blk_cell BK122.out 2).trans rfl; have hcz22_3 : w21.cell? ⟨gb122, 3, none⟩ = some (.slice A0_3 l0_3.length c0_3) := (blk_cell BK122.out 3).trans rfl; have hcz22_4 : w21.cell? ⟨gb122, 4, none⟩ = some (.slice A0_4 l0_4.length c0_4) := (blk_cell BK122.out 4).trans rfl; have hfz22_0 := blk_frozen BK122.out 0; have hfz22_1 := blk_frozen BK122.out 1; have hfz22_2 := blk_frozen BK122.out 2; have hfz22_3 := blk_frozen BK122.out 3; have hfz22_4 := blk_frozen BK122.out 4) | ((with_reducible refine gate_callee (f := 65) rfl ?_); refine goesL_ (some 14) rfl rfl Try.func65 (by kernel_rfl) rfl #[.slice A1 l1.length c1, .string a0_1] rfl (by (try simp only [List.map_toArray, List.map_cons, List.map_nil]); first | done | rfl | (simp only [List.length_drop, List.length_take]; rfl)) ?_; (with_reducible refine (label_Value.calls k _ _ l1 a0_1 t123 _ ?side1 ?side2 A3.out).mono ?_); (case side1 => repeat (first | exact (Kd.C_below HR1.out HB.out) | (with_reducible refine Kd.C_alloc ?_ _) | (with_reducible refine Kd.C_drewN ?_ _) | (with_reducible refine Kd.C_drew ?_))); (case side2 => exact HC1.out); rintro e w23 ⟨rfl, hb⟩; refine ⟨_, rfl, ?_⟩; have n0_ := Aside0.mk (blk_below (g := gb122) (o := .cells #[.int .i64 a0_0, .string a0_1, .string a0_2, .slice A0_3 l0_3.length c0_3, .slice A0_4 l0_4.length c0_4] 25 (0, 0)) (by (with_reducible repeat (first | refine blk_drewN ?_ _ | refine blk_drew ?_ | refine blk_alloc ?_ _)); exact BK122.out) hb); have n1_ := Aside0.mk (below_step (by repeat (first | (with_reducible first | exact HB.out | apply below_alloc | apply pw_below_drewN | apply below_drew1 | refine below_set ?_ GE122.out) | exact HB.out)) hb); clear BK122; clear HB; have BK122 := n0_; have HB := n1_; clear n0_ n1_; (try clear hb); (try clear hb2); (try clear hk); (try clear hi); have hcz24_0 : w23.cell? ⟨gb122, 0, none⟩ = some (.int .i64 a0_0) := (blk_cell BK122.out 0).trans rfl; have hcz24_1 : w23.cell? ⟨gb122, 1, none⟩ = some (.string a0_1) := (blk_cell BK122.out 1).trans rfl; have hcz24_2 : w23.cell? ⟨gb122, 2, none⟩ = some (.string a0_2) := (blk_cell BK122.out 2).trans rfl; have hcz24_3 : w23.cell? ⟨gb122, 3, none⟩ = some (.slice A0_3 l0_3.length c0_3) := (blk_cell BK122.out 3).trans rfl; have hcz24_4 : w23.cell? ⟨gb122, 4, none⟩ = some (.slice A0_4 l0_4.length c0_4) := (blk_cell BK122.out 4).trans rfl; have hfz24_0 := blk_frozen BK122.out 0; have hfz24_1 := blk_frozen BK122.out 1; have hfz24_2 := blk_frozen BK122.out 2; have hfz24_3 := blk_frozen BK122.out 3; have hfz24_4 := blk_frozen BK122.out 4) | ((with_reducible refine gate_callee (f := 158) rfl ?_); refine goesL_ (some 36) rfl rfl Try.func158 (by kernel_rfl) rfl #[.string t123, .string a0_2] rfl (by (try simp only [List.map_toArray, List.map_cons, List.map_nil]); first | done | rfl | (simp only [List.length_drop, List.length_take]; rfl)) ?_; (with_reducible refine (strings_HasPrefix.calls t123 a0_2 t124 _ A20.out).mono ?_); rintro e w' ⟨rfl, ⟨nd, rfl⟩⟩; refine ⟨_, rfl, ?_⟩))
     go_ret
     exact ⟨by first | rfl | (simp [errW_none, errW_some] <;> rfl) | (simp [*, errW_none, errW_some] <;> rfl), by repeat (first | (with_reducible first | exact HB.out | apply below_alloc | apply pw_below_drewN | apply below_drew1 | refine below_set ?_ GE122.out) | exact HB.out)⟩
    ·rw [if_neg c19] at H
     have c19b0 : (a0_0 == 3) = false := beq_eq_false_iff_ne.mpr c19
     have c19b1 : (a0_0 != 3) = true := bne_iff_ne.mpr c19
     by_cases c25 : a0_0 = 4
     ·rw [if_pos c25] at H
      have c25b0 : (a0_0 == 4) = true := beq_iff_eq.mpr c25
      have c25b1 : (a0_0 != 4) = false := bne_eq_false_iff_eq.mpr c25
      clear c25
      have H' := Aside0.mk H
      clear H
      go_enter Try.func108, Try.ntmps108
      go_wp2_with (first | ((with_reducible refine gate_dst (N := 2) rfl ?_); refine box_event ?hg (N := 2) ?hd (cs := #[.int .i64 a0_0, .string a0_1, .string a0_2, .slice A0_3 l0_3.length c0_3, .slice A0_4 l0_4.length c0_4]) (t := 25) ?hr ?_; (case hd => rfl); (case hg => rfl); (case hr => first | (go_simp; done) | (go_simp; rfl)); intro gb122 hg w26 hbox hb; have n0_ := Aside0.mk (below_step (by repeat (first | (with_reducible first | exact HB.out | apply below_alloc | apply pw_below_drewN | apply below_drew1) | exact HB.out)) hb); have n1_ := Aside0.mk (hbox); have n2_ := Aside0.mk ((by rw [hg]; exact (below_size (by repeat (first | (with_reducible first | exact HB.out | apply below_alloc | apply pw_below_drewN | apply below_drew1) | exact HB.out))) : w.heap.size ≤ gb122)); have n3_ := Aside0.mk ((by rw [hg]; exact (below_size (by repeat (first | (with_reducible first | exact HB.out | apply below_alloc | apply pw_below_drewN | apply below_drew1) | exact HB.out))) : w.heap.size ≤ gb122)); clear HB; have HB := n0_; have BK122 := n1_; have GW122 := n2_; have GE122 := n3_; clear n0_ n1_ n2_ n3_; clear hb hbox hg; have hcz27_0 : w26.cell? ⟨gb122, 0, none⟩ = some (.int .i64 a0_0) := (blk_cell BK122.out 0).trans rfl; have hcz27_1 : w26.cell? ⟨gb122, 1, none⟩ = some (.string a0_1) := (blk_cell BK122.out 1).trans rfl; have hcz27_2 : w26.cell? ⟨gb122, 2, none⟩ = some (.string a0_2) := (blk_cell BK122.out 2).trans rfl; have hcz27_3 : w26.cell? ⟨gb122, 3, none⟩ = some (.slice A0_3 l0_3.length c0_3) := (blk_cell BK122.out 3).trans rfl; have hcz27_4 : w26.cell? ⟨gb122, 4, none⟩ = some (.slice A0_4 l0_4.length c0_4) := (blk_cell BK122.out 4).trans rfl; have hfz27_0 := blk_frozen BK122.out 0; have hfz27_1 := blk_frozen BK122.out 1; have hfz27_2 := blk_frozen BK122.out 2; have hfz27_3 := blk_frozen BK122.out 3; have hfz27_4 := blk_frozen BK122.out 4) | ((with_reducible refine gate_callee (f := 65) rfl ?_); refine goesL_ (some 14) rfl rfl Try.func65 (by kernel_rfl) rfl #[.slice A1 l1.length c1, .string a0_1] rfl (by (try simp only [List.map_toArray, List.map_cons, List.map_nil]); first | done | rfl | (simp only [List.length_drop, List.length_take]; rfl)) ?_; (with_reducible refine (label_Value.calls k _ _ l1 a0_1 t123 _ ?side1 ?side2 A3.out).mono ?_); (case side1 => repeat (first | exact (Kd.C_below HR1.out HB.out) | (with_reducible refine Kd.C_alloc ?_ _) | (with_reducible refine Kd.C_drewN ?_ _) | (with_reducible refine Kd.C_drew ?_))); (case side2 => exact HC1.out); rintro e w28 ⟨rfl, hb⟩; refine ⟨_, rfl, ?_⟩; have n0_ := Aside0.mk (blk_below (g := gb122) (o := .cells #[.int .i64 a0_0, .string a0_1, .string a0_2, .slice A0_3 l0_3.length c0_3, .slice A0_4 l0_4.length c0_4] 25 (0, 0)) (by (with_reducible repeat (first | refine blk_drewN ?_ _ | refine blk_drew ?_ | refine blk_alloc ?_ _)); exact BK122.out) hb); have n1_ := Aside0.mk (below_step (by repeat (first | (with_reducible first | exact HB.out | apply below_alloc | apply pw_below_drewN | apply below_drew1 | refine below_set ?_ GE122.out) | exact HB.out)) hb); clear BK122; clear HB; have BK122 := n0_; have HB := n1_; clear n0_ n1_; (try clear hb); (try clear hb2); (try clear hk); (try clear hi); have hcz29_0 : w28.cell? ⟨gb122, 0, none⟩ = some (.int .i64 a0_0) := (blk_cell BK122.out 0).trans rfl; have hcz29_1 : w28.cell? ⟨gb122, 1, none⟩ = some (.string a0_1) := (blk_cell BK122.out 1).trans rfl; have hcz29_2 : w28.cell? ⟨gb122, 2, none⟩ = some (.string a0_2) := (blk_cell BK122.out 2).trans rfl; have hcz29_3 : w28.cell? ⟨gb122, 3, none⟩ = some (.slice A0_3 l0_3.length c0_3) := (blk_cell BK122.out 3).trans rfl; have hcz29_4 : w28.cell? ⟨gb122, 4, none⟩ = some (.slice A0_4 l0_4.length c0_4) := (blk_cell BK122.out 4).trans rfl; have hfz29_0 := blk_frozen BK122.out 0; have hfz29_1 := blk_frozen BK122.out 1; have hfz29_2 := blk_frozen BK122.out 2; have hfz29_3 := blk_frozen BK122.out 3; have hfz29_4 := blk_frozen BK122.out 4))
      go_loopg [42] k (fun kq v42 w' => ∃ (x42_1 : Int), v42 = .int .i64 x42_1 ∧ Aside0 (match_eval.l0 kq t123 l0_3 (l0_3.length : Int) x42_1 = some r) ∧ Aside0 (kq ≤ k) ∧ Aside0 (w'.heap[gb122]? = some (.cells #[.int .i64 a0_0, .string a0_1, .string a0_2, (.slice A0_3 l0_3.length c0_3), (.slice A0_4 l0_4.length c0_4)] 25 (0, 0))) ∧ Aside0 (Below w.heap.size w w'))
      case atStart => exact ⟨(0), (by first | rfl | (simp; done) | (simp [*]; done)), H', ⟨Nat.le_refl _⟩, ⟨by (with_reducible repeat (first | refine blk_drewN ?_ _ | refine blk_drew ?_ | refine blk_alloc ?_ _)); exact BK122.out⟩, ⟨by repeat (first | (with_reducible first | exact HB.out | apply below_alloc | apply pw_below_drewN | apply below_drew1 | refine below_set ?_ GE122.out) | exact HB.out)⟩⟩
      case round =>
       clear H'
       try clear c1
       try clear c2
       try clear p2
       try clear c4
       try clear c4b0
       try clear c4b1
       try clear c6
       try clear c9
       try clear c9b0
       try clear c9b1
       try clear c10
       try clear c14
       try clear c14b0
       try clear c14b1
       try clear c15
       try clear c19
       try clear c19b0
       try clear c19b1
       try clear c25
       try clear c25b0
       try clear c25b1
       try clear hcz11_0
       try clear hcz11_1
       try clear hcz11_2
       try clear hcz11_3
       try clear hcz11_4
       try clear hcz13_0
       try clear hcz13_1
       try clear hcz13_2
       try clear hcz13_3
       try clear hcz13_4
       try clear hcz16_0
       try clear hcz16_1
       try clear hcz16_2
       try clear hcz16_3
       try clear hcz16_4
       try clear hcz18_0
       try clear hcz18_1
       try clear hcz18_2
       try clear hcz18_3
       try clear hcz18_4
       try clear hcz22_0
       try clear hcz22_1
       try clear hcz22_2
       try clear hcz22_3
       try clear hcz22_4
       try clear hcz24_0
       try clear hcz24_1
       try clear hcz24_2
       try clear hcz24_3
       try clear hcz24_4
       try clear hcz27_0
       try clear hcz27_1
       try clear hcz27_2
       try clear hcz27_3
       try clear hcz27_4
       try clear hcz29_0
       try clear hcz29_1
       try clear hcz29_2
       try clear hcz29_3
       try clear hcz29_4
       try clear hcz6_0
       try clear hcz6_1
       try clear hcz6_2
       try clear hcz6_3
       try clear hcz6_4
       try clear hcz8_0
       try clear hcz8_1
       try clear hcz8_2
       try clear hcz8_3
       try clear hcz8_4
       try clear hfz11_0
       try clear hfz11_1
       try clear hfz11_2
       try clear hfz11_3
       try clear hfz11_4
       try clear hfz13_0
       try clear hfz13_1
       try clear hfz13_2
       try clear hfz13_3
       try clear hfz13_4
       try clear hfz16_0
       try clear hfz16_1
       try clear hfz16_2
       try clear hfz16_3
       try clear hfz16_4
       try clear hfz18_0
       try clear hfz18_1
       try clear hfz18_2
       try clear hfz18_3
       try clear hfz18_4
       try clear hfz22_0
       try clear hfz22_1
       try clear hfz22_2
       try clear hfz22_3
       try clear hfz22_4
       try clear hfz24_0
       try clear hfz24_1
       try clear hfz24_2
       try clear hfz24_3
       try clear hfz24_4
       try clear hfz27_0
       try clear hfz27_1
       try clear hfz27_2
       try clear hfz27_3
       try clear hfz27_4
       try clear hfz29_0
       try clear hfz29_1
       try clear hfz29_2
       try clear hfz29_3
       try clear hfz29_4
       try clear hfz6_0
       try clear hfz6_1
       try clear hfz6_2
       try clear hfz6_3
       try clear hfz6_4
       try clear hfz8_0
       try clear hfz8_1
       try clear hfz8_2
       try clear hfz8_3
       try clear hfz8_4
       obtain ⟨x42_1, rfl, HA, HK1, BK122, HB⟩ := hrel
       cases gk with
       | zero => exact absurd HA.out (by simp [match_eval.l0])
       | succ k1 =>
        have H := HA.out
        clear HA
        simp only [match_eval.l0] at H
        by_cases c30 : x42_1 < (l0_3.length : Int)
        ·rw [if_pos c30] at H
         have c30b0 : decide (x42_1 < (l0_3.length : Int)) = true := decide_eq_true c30
         clear c30
         by_cases c31 : 0 ≤ x42_1
         ·rw [if_pos c31] at H
          have c31b0 : decide (0 ≤ x42_1) = true := decide_eq_true c31
          clear c31
          by_cases c32 : x42_1 < (l0_3.length : Int)
          ·rw [if_pos c32] at H
           have c32b0 : decide (x42_1 < (l0_3.length : Int)) = true := decide_eq_true c32
           clear c32
           by_cases c33 : (rdOf ByteArray.empty l0_3 x42_1).toList = t123.toList
           ·rw [if_pos c33] at H
            have c33b0 : ((rdOf ByteArray.empty l0_3 x42_1).toList == t123.toList) = true := beq_iff_eq.mpr c33
            have c33b1 : ((rdOf ByteArray.empty l0_3 x42_1).toList != t123.toList) = false := bne_eq_false_iff_eq.mpr c33
            clear c33
            obtain rfl := Option.some.inj H
            have p125 : 0 ≤ (x42_1 : Int) := of_decide_eq_true (by first | (with_reducible assumption) | assumption)
            have q125 : x42_1 < (l0_3.length : Int) := of_decide_eq_true (by first | (with_reducible assumption) | assumption)
            obtain ⟨ad125, e125, hx125_0⟩ := Kd.at_string HR0_3.out x42_1 p125 q125
            cases e125
            replace hx125_0 := (HB.out.cell (World.block_lt_of_cell? w _ hx125_0)).trans hx125_0
            replace p125 := eq_true p125
            replace q125 := eq_true q125
            go_wp2
            go_ret
            exact ⟨by first | rfl | (simp [errW_none, errW_some] <;> rfl) | (simp [*, errW_none, errW_some] <;> rfl), by repeat (first | (with_reducible first | exact HB.out | apply below_alloc | apply pw_below_drewN | apply below_drew1 | refine below_set ?_ GE122.out) | exact HB.out)⟩
           ·rw [if_neg c33] at H
            have c33b0 : ((rdOf ByteArray.empty l0_3 x42_1).toList == t123.toList) = false := beq_eq_false_iff_ne.mpr c33
            have c33b1 : ((rdOf ByteArray.empty l0_3 x42_1).toList != t123.toList) = true := bne_iff_ne.mpr c33
            have H' := Aside0.mk H
            clear H
            have p125 : 0 ≤ (x42_1 : Int) := of_decide_eq_true (by first | (with_reducible assumption) | assumption)
            have q125 : x42_1 < (l0_3.length : Int) := of_decide_eq_true (by first | (with_reducible assumption) | assumption)
            obtain ⟨ad125, e125, hx125_0⟩ := Kd.at_string HR0_3.out x42_1 p125 q125
            cases e125
            replace hx125_0 := (HB.out.cell (World.block_lt_of_cell? w _ hx125_0)).trans hx125_0
            replace p125 := eq_true p125
            replace q125 := eq_true q125
            go_wp2
            go_roundg k1
            case measure => have := HK1.out; omega
            case rel => exact ⟨(wrap64 (x42_1 + 1)), (by first | rfl | (simp; done) | (simp [*]; done)), H', ⟨by have := HK1.out; omega⟩, ⟨by (with_reducible repeat (first | refine blk_drewN ?_ _ | refine blk_drew ?_ | refine blk_alloc ?_ _)); exact BK122.out⟩, ⟨by repeat (first | (with_reducible first | exact HB.out | apply below_alloc | apply pw_below_drewN | apply below_drew1 | refine below_set ?_ GE122.out) | exact HB.out)⟩⟩
          ·rw [if_neg c32] at H
           exact absurd H (by simp)
         ·rw [if_neg c31] at H
          exact absurd H (by simp)
        ·rw [if_neg c30] at H
         have c30b0 : decide (x42_1 < (l0_3.length : Int)) = false := decide_eq_false c30
         clear c30
         obtain rfl := Option.some.inj H
         go_wp2
         go_ret
         exact ⟨by first | rfl | (simp [errW_none, errW_some] <;> rfl) | (simp [*, errW_none, errW_some] <;> rfl), by repeat (first | (with_reducible first | exact HB.out | apply below_alloc | apply pw_below_drewN | apply below_drew1 | refine below_set ?_ GE122.out) | exact HB.out)⟩
     ·rw [if_neg c25] at H
      have c25b0 : (a0_0 == 4) = false := beq_eq_false_iff_ne.mpr c25
      have c25b1 : (a0_0 != 4) = true := bne_iff_ne.mpr c25
      by_cases c34 : a0_0 = 7
      ·rw [if_pos c34] at H
       have c34b0 : (a0_0 == 7) = true := beq_iff_eq.mpr c34
       have c34b1 : (a0_0 != 7) = false := bne_eq_false_iff_eq.mpr c34
       clear c34
       by_cases c35 : 0 < (l0_4.length : Int)
       ·rw [if_pos c35] at H
        have c35b0 : decide (0 < (l0_4.length : Int)) = true := decide_eq_true c35
        have c35b1 : decide (0 < l0_4.length) = true := decide_eq_true (by omega)
        clear c35
        replace H := Option.bind_eq_some_iff.mp H
        obtain ⟨t127, A360, H⟩ := H
        replace H : (some (!t127)) = some r := H
        have A36 := Aside0.mk A360
        clear A360
        obtain rfl := Option.some.inj H
        go_enter Try.func108, Try.ntmps108
        go_wp2_with (first | ((with_reducible refine gate_dst (N := 2) rfl ?_); refine box_event ?hg (N := 2) ?hd (cs := #[.int .i64 a0_0, .string a0_1, .string a0_2, .slice A0_3 l0_3.length c0_3, .slice A0_4 l0_4.length c0_4]) (t := 25) ?hr ?_; (case hd => rfl); (case hg => rfl); (case hr => first | (go_simp; done) | (go_simp; rfl)); intro gb122 hg w37 hbox hb; have n0_ := Aside0.mk (below_step (by repeat (first | (with_reducible first | exact HB.out | apply below_alloc | apply pw_below_drewN | apply below_drew1) | exact HB.out)) hb); have n1_ := Aside0.mk (hbox); have n2_ := Aside0.mk ((by rw [hg]; exact (below_size (by repeat (first | (with_reducible first | exact HB.out | apply below_alloc | apply pw_below_drewN | apply below_drew1) | exact HB.out))) : w.heap.size ≤ gb122)); have n3_ := Aside0.mk ((by rw [hg]; exact (below_size (by repeat (first | (with_reducible first | exact HB.out | apply below_alloc | apply pw_below_drewN | apply below_drew1) | exact HB.out))) : w.heap.size ≤ gb122)); clear HB; have HB := n0_; have BK122 := n1_; have GW122 := n2_; have GE122 := n3_; clear n0_ n1_ n2_ n3_; clear hb hbox hg; have hcz38_0 : w37.cell? ⟨gb122, 0, none⟩ = some (.int .i64 a0_0) := (blk_cell BK122.out 0).trans rfl; have hcz38_1 : w37.cell? ⟨gb122, 1, none⟩ = some (.string a0_1) := (blk_cell BK122.out 1).trans rfl; have hcz38_2 : w37.cell? ⟨gb122, 2, none⟩ = some (.string a0_2) := (blk_cell BK122.out 2).trans rfl; have hcz38_3 : w37.cell? ⟨gb122, 3, none⟩ = some (.slice A0_3 l0_3.length c0_3) := (blk_cell BK122.out 3).trans rfl; have hcz38_4 : w37.cell? ⟨gb122, 4, none⟩ = some (.slice A0_4 l0_4.length c0_4) := (blk_cell BK122.out 4).trans rfl; have hfz38_0 := blk_frozen BK122.out 0; have hfz38_1 := blk_frozen BK122.out 1; have hfz38_2 := blk_frozen BK122.out 2; have hfz38_3 := blk_frozen BK122.out 3; have hfz38_4 := blk_frozen BK122.out 4) | ((with_reducible refine gate_callee (f := 65) rfl ?_); refine goesL_ (some 14) rfl rfl Try.func65 (by kernel_rfl) rfl #[.slice A1 l1.length c1, .string a0_1] rfl (by (try simp only [List.map_toArray, List.map_cons, List.map_nil]); first | done | rfl | (simp only [List.length_drop, List.length_take]; rfl)) ?_; (with_reducible refine (label_Value.calls k _ _ l1 a0_1 t123 _ ?side1 ?side2 A3.out).mono ?_); (case side1 => repeat (first | exact (Kd.C_below HR1.out HB.out) | (with_reducible refine Kd.C_alloc ?_ _) | (with_reducible refine Kd.C_drewN ?_ _) | (with_reducible refine Kd.C_drew ?_))); (case side2 => exact HC1.out); rintro e w39 ⟨rfl, hb⟩; refine ⟨_, rfl, ?_⟩; have n0_ := Aside0.mk (blk_below (g := gb122) (o := .cells #[.int .i64 a0_0, .string a0_1, .string a0_2, .slice A0_3 l0_3.length c0_3, .slice A0_4 l0_4.length c0_4] 25 (0, 0)) (by (with_reducible repeat (first | refine blk_drewN ?_ _ | refine blk_drew ?_ | refine blk_alloc ?_ _)); exact BK122.out) hb); have n1_ := Aside0.mk (below_step (by repeat (first | (with_reducible first | exact HB.out | apply below_alloc | apply pw_below_drewN | apply below_drew1 | refine below_set ?_ GE122.out) | exact HB.out)) hb); clear BK122; clear HB; have BK122 := n0_; have HB := n1_; clear n0_ n1_; (try clear hb); (try clear hb2); (try clear hk); (try clear hi); have hcz40_0 : w39.cell? ⟨gb122, 0, none⟩ = some (.int .i64 a0_0) := (blk_cell BK122.out 0).trans rfl; have hcz40_1 : w39.cell? ⟨gb122, 1, none⟩ = some (.string a0_1) := (blk_cell BK122.out 1).trans rfl; have hcz40_2 : w39.cell? ⟨gb122, 2, none⟩ = some (.string a0_2) := (blk_cell BK122.out 2).trans rfl; have hcz40_3 : w39.cell? ⟨gb122, 3, none⟩ = some (.slice A0_3 l0_3.length c0_3) := (blk_cell BK122.out 3).trans rfl; have hcz40_4 : w39.cell? ⟨gb122, 4, none⟩ = some (.slice A0_4 l0_4.length c0_4) := (blk_cell BK122.out 4).trans rfl; have hfz40_0 := blk_frozen BK122.out 0; have hfz40_1 := blk_frozen BK122.out 1; have hfz40_2 := blk_frozen BK122.out 2; have hfz40_3 := blk_frozen BK122.out 3; have hfz40_4 := blk_frozen BK122.out 4; have p126 : 0 ≤ (0 : Int) := (by omega); have q126 : 0 < (l0_4.length : Int) := of_decide_eq_true (by first | (with_reducible assumption) | assumption); obtain ⟨ad126, A126_3, c126_3, A126_4, c126_4, e126, hx126_0, hx126_1, hx126_2, hx126_3, hx126_4, hl126_3, hi126_3, hl126_4, hi126_4⟩ := at_T25 HR0_4.out 0 p126 q126; cases e126; have qi126 : (0 < l0_4.length) = True := eq_true (by omega); (try rw [show ((0 : Int)).toNat = 0 from rfl] at hx126_0); (try rw [show 0 * 5 = 0 from rfl] at hx126_0); (try rw [Addr.add_zero'] at hx126_0); (try rw [show ((0 : Int)).toNat = 0 from rfl] at hx126_1); (try rw [show 0 * 5 = 0 from rfl] at hx126_1); (try rw [Addr.add_zero'] at hx126_1); (try rw [show ((0 : Int)).toNat = 0 from rfl] at hx126_2); (try rw [show 0 * 5 = 0 from rfl] at hx126_2); (try rw [Addr.add_zero'] at hx126_2); (try rw [show ((0 : Int)).toNat = 0 from rfl] at hx126_3); (try rw [show 0 * 5 = 0 from rfl] at hx126_3); (try rw [Addr.add_zero'] at hx126_3); (try rw [show ((0 : Int)).toNat = 0 from rfl] at hx126_4); (try rw [show 0 * 5 = 0 from rfl] at hx126_4); (try rw [Addr.add_zero'] at hx126_4); replace hx126_0 := (HB.out.cell (World.block_lt_of_cell? w _ hx126_0)).trans hx126_0; replace hx126_1 := (HB.out.cell (World.block_lt_of_cell? w _ hx126_1)).trans hx126_1; replace hx126_2 := (HB.out.cell (World.block_lt_of_cell? w _ hx126_2)).trans hx126_2; replace hx126_3 := (HB.out.cell (World.block_lt_of_cell? w _ hx126_3)).trans hx126_3; replace hx126_4 := (HB.out.cell (World.block_lt_of_cell? w _ hx126_4)).trans hx126_4; have HR126_3 := Aside0.mk hi126_3; have HC126_3 := Aside0.mk hl126_3; clear hi126_3 hl126_3; have HR126_4 := Aside0.mk hi126_4; have HC126_4 := Aside0.mk hl126_4; clear hi126_4 hl126_4; replace p126 := eq_true p126; replace q126 := eq_true q126) | ((with_reducible refine gate_callee (f := 108) rfl ?_); refine goesL_ (some 57) rfl rfl Try.func108 (by kernel_rfl) rfl #[.agg #[.int .i64 ((rd_T25 l0_4 0).f0), .string ((rd_T25 l0_4 0).f1), .string ((rd_T25 l0_4 0).f2), .slice A126_3 ((rd_T25 l0_4 0).f3).length c126_3, .slice A126_4 ((rd_T25 l0_4 0).f4).length c126_4], .slice A1 l1.length c1] rfl (by (try simp only [List.map_toArray, List.map_cons, List.map_nil]); first | done | rfl | (simp only [List.length_drop, List.length_take]; rfl)) ?_; (with_reducible refine (ih k (by omega) ((rd_T25 l0_4 0).f0) ((rd_T25 l0_4 0).f1) ((rd_T25 l0_4 0).f2) _ _ ((rd_T25 l0_4 0).f3) _ _ ((rd_T25 l0_4 0).f4) _ _ l1 t127 _ ?side1 ?side2 ?side3 ?side4 ?side5 ?side6 A36.out).mono ?_); (case side1 => repeat (first | exact (Kd.C_below HR126_3.out HB.out) | (with_reducible refine Kd.C_alloc ?_ _) | (with_reducible refine Kd.C_drewN ?_ _) | (with_reducible refine Kd.C_drew ?_))); (case side2 => exact HC126_3.out); (case side3 => repeat (first | exact (Kd.C_below HR126_4.out HB.out) | (with_reducible refine Kd.C_alloc ?_ _) | (with_reducible refine Kd.C_drewN ?_ _) | (with_reducible refine Kd.C_drew ?_))); (case side4 => exact HC126_4.out); (case side5 => repeat (first | exact (Kd.C_below HR1.out HB.out) | (with_reducible refine Kd.C_alloc ?_ _) | (with_reducible refine Kd.C_drewN ?_ _) | (with_reducible refine Kd.C_drew ?_))); (case side6 => exact HC1.out); rintro e w41 ⟨rfl, hb⟩; refine ⟨_, rfl, ?_⟩; have n0_ := Aside0.mk (blk_below (g := gb122) (o := .cells #[.int .i64 a0_0, .string a0_1, .string a0_2, .slice A0_3 l0_3.length c0_3, .slice (some ad126) l0_4.length c0_4] 25 (0, 0)) (by (with_reducible repeat (first | refine blk_drewN ?_ _ | refine blk_drew ?_ | refine blk_alloc ?_ _)); exact BK122.out) hb); have n1_ := Aside0.mk (below_step (by repeat (first | (with_reducible first | exact HB.out | apply below_alloc | apply pw_below_drewN | apply below_drew1 | refine below_set ?_ GE122.out) | exact HB.out)) hb); clear BK122; clear HB; have BK122 := n0_; have HB := n1_; clear n0_ n1_; (try clear hb); (try clear hb2); (try clear hk); (try clear hi)))
        go_ret
        exact ⟨by first | rfl | (simp [errW_none, errW_some] <;> rfl) | (simp [*, errW_none, errW_some] <;> rfl), by repeat (first | (with_reducible first | exact HB.out | apply below_alloc | apply pw_below_drewN | apply below_drew1 | refine below_set ?_ GE122.out) | exact HB.out)⟩
       ·rw [if_neg c35] at H
        exact absurd H (by simp)
      ·rw [if_neg c34] at H
       have c34b0 : (a0_0 == 7) = false := beq_eq_false_iff_ne.mpr c34
       have c34b1 : (a0_0 != 7) = true := bne_iff_ne.mpr c34
       have H' := Aside0.mk H
       clear H
       go_enter Try.func108, Try.ntmps108
       go_wp2_with (first | ((with_reducible refine gate_dst (N := 2) rfl ?_); refine box_event ?hg (N := 2) ?hd (cs := #[.int .i64 a0_0, .string a0_1, .string a0_2, .slice A0_3 l0_3.length c0_3, .slice A0_4 l0_4.length c0_4]) (t := 25) ?hr ?_; (case hd => rfl); (case hg => rfl); (case hr => first | (go_simp; done) | (go_simp; rfl)); intro gb122 hg w42 hbox hb; have n0_ := Aside0.mk (below_step (by repeat (first | (with_reducible first | exact HB.out | apply below_alloc | apply pw_below_drewN | apply below_drew1) | exact HB.out)) hb); have n1_ := Aside0.mk (hbox); have n2_ := Aside0.mk ((by rw [hg]; exact (below_size (by repeat (first | (with_reducible first | exact HB.out | apply below_alloc | apply pw_below_drewN | apply below_drew1) | exact HB.out))) : w.heap.size ≤ gb122)); have n3_ := Aside0.mk ((by rw [hg]; exact (below_size (by repeat (first | (with_reducible first | exact HB.out | apply below_alloc | apply pw_below_drewN | apply below_drew1) | exact HB.out))) : w.heap.size ≤ gb122)); clear HB; have HB := n0_; have BK122 := n1_; have GW122 := n2_; have GE122 := n3_; clear n0_ n1_ n2_ n3_; clear hb hbox hg; have hcz43_0 : w42.cell? ⟨gb122, 0, none⟩ = some (.int .i64 a0_0) := (blk_cell BK122.out 0).trans rfl; have hcz43_1 : w42.cell? ⟨gb122, 1, none⟩ = some (.string a0_1) := (blk_cell BK122.out 1).trans rfl; have hcz43_2 : w42.cell? ⟨gb122, 2, none⟩ = some (.string a0_2) := (blk_cell BK122.out 2).trans rfl; have hcz43_3 : w42.cell? ⟨gb122, 3, none⟩ = some (.slice A0_3 l0_3.length c0_3) := (blk_cell BK122.out 3).trans rfl; have hcz43_4 : w42.cell? ⟨gb122, 4, none⟩ = some (.slice A0_4 l0_4.length c0_4) := (blk_cell BK122.out 4).trans rfl; have hfz43_0 := blk_frozen BK122.out 0; have hfz43_1 := blk_frozen BK122.out 1; have hfz43_2 := blk_frozen BK122.out 2; have hfz43_3 := blk_frozen BK122.out 3; have hfz43_4 := blk_frozen BK122.out 4) | ((with_reducible refine gate_callee (f := 65) rfl ?_); refine goesL_ (some 14) rfl rfl Try.func65 (by kernel_rfl) rfl #[.slice A1 l1.length c1, .string a0_1] rfl (by (try simp only [List.map_toArray, List.map_cons, List.map_nil]); first | done | rfl | (simp only [List.length_drop, List.length_take]; rfl)) ?_; (with_reducible refine (label_Value.calls k _ _ l1 a0_1 t123 _ ?side1 ?side2 A3.out).mono ?_); (case side1 => repeat (first | exact (Kd.C_below HR1.out HB.out) | (with_reducible refine Kd.C_alloc ?_ _) | (with_reducible refine Kd.C_drewN ?_ _) | (with_reducible refine Kd.C_drew ?_))); (case side2 => exact HC1.out); rintro e w44 ⟨rfl, hb⟩; refine ⟨_, rfl, ?_⟩; have n0_ := Aside0.mk (blk_below (g := gb122) (o := .cells #[.int .i64 a0_0, .string a0_1, .string a0_2, .slice A0_3 l0_3.length c0_3, .slice A0_4 l0_4.length c0_4] 25 (0, 0)) (by (with_reducible repeat (first | refine blk_drewN ?_ _ | refine blk_drew ?_ | refine blk_alloc ?_ _)); exact BK122.out) hb); have n1_ := Aside0.mk (below_step (by repeat (first | (with_reducible first | exact HB.out | apply below_alloc | apply pw_below_drewN | apply below_drew1 | refine below_set ?_ GE122.out) | exact HB.out)) hb); clear BK122; clear HB; have BK122 := n0_; have HB := n1_; clear n0_ n1_; (try clear hb); (try clear hb2); (try clear hk); (try clear hi); have hcz45_0 : w44.cell? ⟨gb122, 0, none⟩ = some (.int .i64 a0_0) := (blk_cell BK122.out 0).trans rfl; have hcz45_1 : w44.cell? ⟨gb122, 1, none⟩ = some (.string a0_1) := (blk_cell BK122.out 1).trans rfl; have hcz45_2 : w44.cell? ⟨gb122, 2, none⟩ = some (.string a0_2) := (blk_cell BK122.out 2).trans rfl; have hcz45_3 : w44.cell? ⟨gb122, 3, none⟩ = some (.slice A0_3 l0_3.length c0_3) := (blk_cell BK122.out 3).trans rfl; have hcz45_4 : w44.cell? ⟨gb122, 4, none⟩ = some (.slice A0_4 l0_4.length c0_4) := (blk_cell BK122.out 4).trans rfl; have hfz45_0 := blk_frozen BK122.out 0; have hfz45_1 := blk_frozen BK122.out 1; have hfz45_2 := blk_frozen BK122.out 2; have hfz45_3 := blk_frozen BK122.out 3; have hfz45_4 := blk_frozen BK122.out 4))
       go_loopg [65] k (fun kq v65 w' => ∃ (x65_1 : Int), v65 = .int .i64 x65_1 ∧ Aside0 (match_eval.l1 kq l1 (a0_0 == 6) l0_4 (l0_4.length : Int) x65_1 = some r) ∧ Aside0 (kq ≤ k) ∧ Aside0 (w'.heap[gb122]? = some (.cells #[.int .i64 a0_0, .string a0_1, .string a0_2, (.slice A0_3 l0_3.length c0_3), (.slice A0_4 l0_4.length c0_4)] 25 (0, 0))) ∧ Aside0 (Below w.heap.size w w'))
       case atStart => exact ⟨(0), (by first | rfl | (simp; done) | (simp [*]; done)), H', ⟨Nat.le_refl _⟩, ⟨by (with_reducible repeat (first | refine blk_drewN ?_ _ | refine blk_drew ?_ | refine blk_alloc ?_ _)); exact BK122.out⟩, ⟨by repeat (first | (with_reducible first | exact HB.out | apply below_alloc | apply pw_below_drewN | apply below_drew1 | refine below_set ?_ GE122.out) | exact HB.out)⟩⟩
       case round =>
        clear H'
        try clear c1
        try clear p1
        try clear q1
        try clear hx1
        try clear qi1
        try clear c2
        try clear p2
        try clear c3
        try clear c4
        try clear c4b0
        try clear c4b1
        try clear c6
        try clear p6
        try clear c9
        try clear c9b0
        try clear c9b1
        try clear c10
        try clear c12
        try clear p12
        try clear q12
        try clear hx12
        try clear qi12
        try clear c14
        try clear c14b0
        try clear c14b1
        try clear c15
        try clear c19
        try clear c19b0
        try clear c19b1
        try clear c25
        try clear c25b0
        try clear c25b1
        try clear c30
        try clear c30b0
        try clear c31
        try clear c31b0
        try clear c32
        try clear c32b0
        try clear c33
        try clear c33b0
        try clear c33b1
        try clear c34
        try clear c34b0
        try clear c34b1
        try clear c35
        try clear c35b0
        try clear c35b1
        try clear hcz11_0
        try clear hcz11_1
        try clear hcz11_2
        try clear hcz11_3
        try clear hcz11_4
        try clear hcz13_0
        try clear hcz13_1
        try clear hcz13_2
        try clear hcz13_3
        try clear hcz13_4
        try clear hcz16_0
        try clear hcz16_1
        try clear hcz16_2
        try clear hcz16_3
        try clear hcz16_4
        try clear hcz18_0
        try clear hcz18_1
        try clear hcz18_2
        try clear hcz18_3
        try clear hcz18_4
        try clear hcz22_0
        try clear hcz22_1
        try clear hcz22_2
        try clear hcz22_3
        try clear hcz22_4
        try clear hcz24_0
        try clear hcz24_1
        try clear hcz24_2
        try clear hcz24_3
        try clear hcz24_4
        try clear hcz27_0
        try clear hcz27_1
        try clear hcz27_2
        try clear hcz27_3
        try clear hcz27_4
        try clear hcz29_0
        try clear hcz29_1
        try clear hcz29_2
        try clear hcz29_3
        try clear hcz29_4
        try clear hcz38_0
        try clear hcz38_1
        try clear hcz38_2
        try clear hcz38_3
        try clear hcz38_4
        try clear hcz40_0
        try clear hcz40_1
        try clear hcz40_2
        try clear hcz40_3
        try clear hcz40_4
        try clear hcz43_0
        try clear hcz43_1
        try clear hcz43_2
        try clear hcz43_3
        try clear hcz43_4
        try clear hcz45_0
        try clear hcz45_1
        try clear hcz45_2
        try clear hcz45_3
        try clear hcz45_4
        try clear hcz6_0
        try clear hcz6_1
        try clear hcz6_2
        try clear hcz6_3
        try clear hcz6_4
        try clear hcz8_0
        try clear hcz8_1
        try clear hcz8_2
        try clear hcz8_3
        try clear hcz8_4
        try clear hfz11_0
        try clear hfz11_1
        try clear hfz11_2
        try clear hfz11_3
        try clear hfz11_4
        try clear hfz13_0
        try clear hfz13_1
        try clear hfz13_2
        try clear hfz13_3
        try clear hfz13_4
        try clear hfz16_0
        try clear hfz16_1
        try clear hfz16_2
        try clear hfz16_3
        try clear hfz16_4
        try clear hfz18_0
        try clear hfz18_1
        try clear hfz18_2
        try clear hfz18_3
        try clear hfz18_4
        try clear hfz22_0
        try clear hfz22_1
        try clear hfz22_2
        try clear hfz22_3
        try clear hfz22_4
        try clear hfz24_0
        try clear hfz24_1
        try clear hfz24_2
        try clear hfz24_3
        try clear hfz24_4
        try clear hfz27_0
        try clear hfz27_1
        try clear hfz27_2
        try clear hfz27_3
        try clear hfz27_4
        try clear hfz29_0
        try clear hfz29_1
        try clear hfz29_2
        try clear hfz29_3
        try clear hfz29_4
        try clear hfz38_0
        try clear hfz38_1
        try clear hfz38_2
        try clear hfz38_3
        try clear hfz38_4
        try clear hfz40_0
        try clear hfz40_1
        try clear hfz40_2
        try clear hfz40_3
        try clear hfz40_4
        try clear hfz43_0
        try clear hfz43_1
        try clear hfz43_2
        try clear hfz43_3
        try clear hfz43_4
        try clear hfz45_0
        try clear hfz45_1
        try clear hfz45_2
        try clear hfz45_3
        try clear hfz45_4
        try clear hfz6_0
        try clear hfz6_1
        try clear hfz6_2
        try clear hfz6_3
        try clear hfz6_4
        try clear hfz8_0
        try clear hfz8_1
        try clear hfz8_2
        try clear hfz8_3
        try clear hfz8_4
        try clear hx125_0
        try clear hx126_0
        try clear hx126_1
        try clear hx126_2
        try clear hx126_3
        try clear hx126_4
        try clear p125
        try clear p126
        try clear p2
        try clear q125
        try clear q126
        obtain ⟨x65_1, rfl, HA, HK1, BK122, HB⟩ := hrel
        cases gk with
        | zero => exact absurd HA.out (by simp [match_eval.l1])
        | succ k1 =>
         have H := HA.out
         clear HA
         simp only [match_eval.l1] at H
         by_cases c46 : x65_1 < (l0_4.length : Int)
         ·rw [if_pos c46] at H
          have c46b0 : decide (x65_1 < (l0_4.length : Int)) = true := decide_eq_true c46
          clear c46
          by_cases c47 : 0 ≤ x65_1
          ·rw [if_pos c47] at H
           have c47b0 : decide (0 ≤ x65_1) = true := decide_eq_true c47
           clear c47
           by_cases c48 : x65_1 < (l0_4.length : Int)
           ·rw [if_pos c48] at H
            have c48b0 : decide (x65_1 < (l0_4.length : Int)) = true := decide_eq_true c48
            clear c48
            replace H := Option.bind_eq_some_iff.mp H
            obtain ⟨t130, A490, H⟩ := H
            replace H : (if (t130 == (a0_0 == 6)) = true then (some (a0_0 == 6)) else (match_eval.l1 k1 l1 (a0_0 == 6) l0_4 (l0_4.length : Int) (wrap64 (x65_1 + 1)))) = some r := H
            have A49 := Aside0.mk A490
            clear A490
            by_cases c50 : (t130 == (a0_0 == 6)) = true
            ·rw [if_pos c50] at H
             have c50b0 : (t130 == (a0_0 == 6)) = true := c50
             (try (have c50b1 : decide (t130 = (a0_0 == 6)) = true := by simpa using c50))
             (try (have c50b2 : (t130 == (a0_0 == 6)) = true := by simpa using c50))
             clear c50
             obtain rfl := Option.some.inj H
             have p128 : 0 ≤ (x65_1 : Int) := of_decide_eq_true (by first | (with_reducible assumption) | assumption)
             have q128 : x65_1 < (l0_4.length : Int) := of_decide_eq_true (by first | (with_reducible assumption) | assumption)
             obtain ⟨ad128, A128_3, c128_3, A128_4, c128_4, e128, hx128_0, hx128_1, hx128_2, hx128_3, hx128_4, hl128_3, hi128_3, hl128_4, hi128_4⟩ := at_T25 HR0_4.out x65_1 p128 q128
             cases e128
             replace hx128_0 := (HB.out.cell (World.block_lt_of_cell? w _ hx128_0)).trans hx128_0
             replace hx128_1 := (HB.out.cell (World.block_lt_of_cell? w _ hx128_1)).trans hx128_1
             replace hx128_2 := (HB.out.cell (World.block_lt_of_cell? w _ hx128_2)).trans hx128_2
             replace hx128_3 := (HB.out.cell (World.block_lt_of_cell? w _ hx128_3)).trans hx128_3
             replace hx128_4 := (HB.out.cell (World.block_lt_of_cell? w _ hx128_4)).trans hx128_4
             have HR128_3 := Aside0.mk hi128_3
             have HC128_3 := Aside0.mk hl128_3
             clear hi128_3 hl128_3
             have HR128_4 := Aside0.mk hi128_4
             have HC128_4 := Aside0.mk hl128_4
             clear hi128_4 hl128_4
             replace p128 := eq_true p128
             replace q128 := eq_true q128
             go_wp2_with (first | ((with_reducible refine gate_dst (N := 10) rfl ?_); refine box_event ?hg (N := 10) ?hd (cs := #[.int .i64 0, .string (⟨#[]⟩ : ByteArray), .string (⟨#[]⟩ : ByteArray), .slice none 0 0, .slice none 0 0]) (t := 25) ?hr ?_; (case hd => rfl); (case hg => rfl); (case hr => first | (go_simp; done) | (go_simp; rfl)); intro gb129 hg w51 hbox hb; have n0_ := Aside0.mk (blk_below (g := gb122) (o := .cells #[.int .i64 a0_0, .string a0_1, .string a0_2, .slice A0_3 l0_3.length c0_3, .slice (some ad128) l0_4.length c0_4] 25 (0, 0)) (by (with_reducible repeat (first | refine blk_drewN ?_ _ | refine blk_drew ?_ | refine blk_alloc ?_ _)); exact BK122.out) hb); have n1_ := Aside0.mk (below_step (by repeat (first | (with_reducible first | exact HB.out | apply below_alloc | apply pw_below_drewN | apply below_drew1 | refine below_set ?_ GE122.out) | exact HB.out)) hb); have n2_ := Aside0.mk (hbox); have n3_ := Aside0.mk ((by rw [hg]; exact (below_size (by repeat (first | (with_reducible first | exact HB.out | apply below_alloc | apply pw_below_drewN | apply below_drew1 | refine below_set ?_ GE122.out) | exact HB.out))) : w.heap.size ≤ gb129)); have n4_ := Aside0.mk ((by rw [hg]; exact (below_size (by repeat (first | (with_reducible first | exact HB.out | apply below_alloc | apply pw_below_drewN | apply below_drew1 | refine below_set ?_ GE122.out) | exact HB.out))) : w.heap.size ≤ gb129)); have n5_ := Aside0.mk ((by rw [hg]; exact Nat.ne_of_lt (blk_lt (g := gb122) (o := .cells #[.int .i64 a0_0, .string a0_1, .string a0_2, .slice A0_3 l0_3.length c0_3, .slice (some ad128) l0_4.length c0_4] 25 (0, 0)) (by (with_reducible repeat (first | refine blk_drewN ?_ _ | refine blk_drew ?_ | refine blk_alloc ?_ _)); exact BK122.out)) : gb122 ≠ gb129)); have n6_ := Aside0.mk ((by rw [hg]; exact Nat.ne_of_gt (blk_lt (g := gb122) (o := .cells #[.int .i64 a0_0, .string a0_1, .string a0_2, .slice A0_3 l0_3.length c0_3, .slice (some ad128) l0_4.length c0_4] 25 (0, 0)) (by (with_reducible repeat (first | refine blk_drewN ?_ _ | refine blk_drew ?_ | refine blk_alloc ?_ _)); exact BK122.out)) : gb129 ≠ gb122)); clear BK122; clear HB; have BK122 := n0_; have HB := n1_; have BK129 := n2_; have GW129 := n3_; have GE129 := n4_; have NB122_129 := n5_; have NB129_122 := n6_; clear n0_ n1_ n2_ n3_ n4_ n5_ n6_; clear hb hbox hg; have hnb52 := NB129_122.out; have hnc52 := NB122_129.out; have hcz53_0 : w51.cell? ⟨gb129, 0, none⟩ = some (.int .i64 0) := (blk_cell BK129.out 0).trans rfl; have hcz53_1 : w51.cell? ⟨gb129, 1, none⟩ = some (.string (⟨#[]⟩ : ByteArray)) := (blk_cell BK129.out 1).trans rfl; have hcz53_2 : w51.cell? ⟨gb129, 2, none⟩ = some (.string (⟨#[]⟩ : ByteArray)) := (blk_cell BK129.out 2).trans rfl; have hcz53_3 : w51.cell? ⟨gb129, 3, none⟩ = some (.slice none 0 0) := (blk_cell BK129.out 3).trans rfl; have hcz53_4 : w51.cell? ⟨gb129, 4, none⟩ = some (.slice none 0 0) := (blk_cell BK129.out 4).trans rfl; have hfz53_0 := blk_frozen BK129.out 0; have hfz53_1 := blk_frozen BK129.out 1; have hfz53_2 := blk_frozen BK129.out 2; have hfz53_3 := blk_frozen BK129.out 3; have hfz53_4 := blk_frozen BK129.out 4) | ((with_reducible refine gate_callee (f := 108) rfl ?_); refine goesL_ (some 71) rfl rfl Try.func108 (by kernel_rfl) rfl #[.agg #[.int .i64 ((rd_T25 l0_4 x65_1).f0), .string ((rd_T25 l0_4 x65_1).f1), .string ((rd_T25 l0_4 x65_1).f2), .slice A128_3 ((rd_T25 l0_4 x65_1).f3).length c128_3, .slice A128_4 ((rd_T25 l0_4 x65_1).f4).length c128_4], .slice A1 l1.length c1] rfl (by (try simp only [List.map_toArray, List.map_cons, List.map_nil]); first | done | rfl | (simp only [List.length_drop, List.length_take]; rfl)) ?_; (with_reducible refine (ih k1 (by have := HK1.out; omega) ((rd_T25 l0_4 x65_1).f0) ((rd_T25 l0_4 x65_1).f1) ((rd_T25 l0_4 x65_1).f2) _ _ ((rd_T25 l0_4 x65_1).f3) _ _ ((rd_T25 l0_4 x65_1).f4) _ _ l1 t130 _ ?side1 ?side2 ?side3 ?side4 ?side5 ?side6 A49.out).mono ?_); (case side1 => exact Kd.C_below HR128_3.out (by repeat (first | (with_reducible first | exact HB.out | apply below_alloc | apply pw_below_drewN | apply below_drew1 | refine below_set ?_ GE122.out | refine below_set ?_ GE129.out) | exact HB.out))); (case side2 => exact HC128_3.out); (case side3 => exact Kd.C_below HR128_4.out (by repeat (first | (with_reducible first | exact HB.out | apply below_alloc | apply pw_below_drewN | apply below_drew1 | refine below_set ?_ GE122.out | refine below_set ?_ GE129.out) | exact HB.out))); (case side4 => exact HC128_4.out); (case side5 => exact Kd.C_below HR1.out (by repeat (first | (with_reducible first | exact HB.out | apply below_alloc | apply pw_below_drewN | apply below_drew1 | refine below_set ?_ GE122.out | refine below_set ?_ GE129.out) | exact HB.out))); (case side6 => exact HC1.out); rintro e w54 ⟨rfl, hb⟩; refine ⟨_, rfl, ?_⟩; have n0_ := Aside0.mk (blk_below (g := gb122) (o := .cells #[.int .i64 a0_0, .string a0_1, .string a0_2, .slice A0_3 l0_3.length c0_3, .slice (some ad128) l0_4.length c0_4] 25 (0, 0)) (by (with_reducible repeat (first | refine blk_drewN ?_ _ | refine blk_drew ?_ | refine blk_alloc ?_ _)); refine blk_far ?_ NB122_129.out _; (with_reducible repeat (first | refine blk_drewN ?_ _ | refine blk_drew ?_ | refine blk_alloc ?_ _)); refine blk_far ?_ NB122_129.out _; (with_reducible repeat (first | refine blk_drewN ?_ _ | refine blk_drew ?_ | refine blk_alloc ?_ _)); refine blk_far ?_ NB122_129.out _; (with_reducible repeat (first | refine blk_drewN ?_ _ | refine blk_drew ?_ | refine blk_alloc ?_ _)); refine blk_far ?_ NB122_129.out _; (with_reducible repeat (first | refine blk_drewN ?_ _ | refine blk_drew ?_ | refine blk_alloc ?_ _)); refine blk_far ?_ NB122_129.out _; (with_reducible repeat (first | refine blk_drewN ?_ _ | refine blk_drew ?_ | refine blk_alloc ?_ _)); exact BK122.out) hb); have n1_ := Aside0.mk (blk_below (g := gb129) (o := .cells #[.int .i64 ((rd_T25 l0_4 x65_1).f0), .string ((rd_T25 l0_4 x65_1).f1), .string ((rd_T25 l0_4 x65_1).f2), .slice A128_3 ((rd_T25 l0_4 x65_1).f3).length c128_3, .slice A128_4 ((rd_T25 l0_4 x65_1).f4).length c128_4] 25 (0, 0)) (by (with_reducible repeat (first | refine blk_drewN ?_ _ | refine blk_drew ?_ | refine blk_alloc ?_ _)); refine blk_put (cs := #[.int .i64 ((rd_T25 l0_4 x65_1).f0), .string ((rd_T25 l0_4 x65_1).f1), .string ((rd_T25 l0_4 x65_1).f2), .slice A128_3 ((rd_T25 l0_4 x65_1).f3).length c128_3, .slice none 0 0]) ?_ 4 _ rfl; (with_reducible repeat (first | refine blk_drewN ?_ _ | refine blk_drew ?_ | refine blk_alloc ?_ _)); refine blk_put (cs := #[.int .i64 ((rd_T25 l0_4 x65_1).f0), .string ((rd_T25 l0_4 x65_1).f1), .string ((rd_T25 l0_4 x65_1).f2), .slice none 0 0, .slice none 0 0]) ?_ 3 _ rfl; (with_reducible repeat (first | refine blk_drewN ?_ _ | refine blk_drew ?_ | refine blk_alloc ?_ _)); refine blk_put (cs := #[.int .i64 ((rd_T25 l0_4 x65_1).f0), .string ((rd_T25 l0_4 x65_1).f1), .string (⟨#[]⟩ : ByteArray), .slice none 0 0, .slice none 0 0]) ?_ 2 _ rfl; (with_reducible repeat (first | refine blk_drewN ?_ _ | refine blk_drew ?_ | refine blk_alloc ?_ _)); refine blk_put (cs := #[.int .i64 ((rd_T25 l0_4 x65_1).f0), .string (⟨#[]⟩ : ByteArray), .string (⟨#[]⟩ : ByteArray), .slice none 0 0, .slice none 0 0]) ?_ 1 _ rfl; (with_reducible repeat (first | refine blk_drewN ?_ _ | refine blk_drew ?_ | refine blk_alloc ?_ _)); refine blk_put (cs := #[.int .i64 0, .string (⟨#[]⟩ : ByteArray), .string (⟨#[]⟩ : ByteArray), .slice none 0 0, .slice none 0 0]) ?_ 0 _ rfl; (with_reducible repeat (first | refine blk_drewN ?_ _ | refine blk_drew ?_ | refine blk_alloc ?_ _)); exact BK129.out) hb); have n2_ := Aside0.mk (below_step (by repeat (first | (with_reducible first | exact HB.out | apply below_alloc | apply pw_below_drewN | apply below_drew1 | refine below_set ?_ GE122.out | refine below_set ?_ GE129.out) | exact HB.out)) hb); clear BK122; clear BK129; clear HB; have BK122 := n0_; have BK129 := n1_; have HB := n2_; clear n0_ n1_ n2_; (try clear hb); (try clear hb2); (try clear hk); (try clear hi)))
             go_ret
             exact ⟨by first | rfl | (simp [errW_none, errW_some] <;> rfl) | (simp [*, errW_none, errW_some] <;> rfl), by repeat (first | (with_reducible first | exact HB.out | apply below_alloc | apply pw_below_drewN | apply below_drew1 | refine below_set ?_ GE122.out | refine below_set ?_ GE129.out) | exact HB.out)⟩
            ·rw [if_neg c50] at H
             have c50b0 : (t130 == (a0_0 == 6)) = false := by simpa using c50
             (try (have c50b1 : decide (t130 = (a0_0 == 6)) = false := by simpa using c50))
             (try (have c50b2 : (t130 == (a0_0 == 6)) = false := by simpa using c50))
             (try (have c50b3 : ¬ (t130 = (a0_0 == 6)) := by simpa using c50))
             clear c50
             have H' := Aside0.mk H
             clear H
             have p128 : 0 ≤ (x65_1 : Int) := of_decide_eq_true (by first | (with_reducible assumption) | assumption)
             have q128 : x65_1 < (l0_4.length : Int) := of_decide_eq_true (by first | (with_reducible assumption) | assumption)
             obtain ⟨ad128, A128_3, c128_3, A128_4, c128_4, e128, hx128_0, hx128_1, hx128_2, hx128_3, hx128_4, hl128_3, hi128_3, hl128_4, hi128_4⟩ := at_T25 HR0_4.out x65_1 p128 q128
             cases e128
             replace hx128_0 := (HB.out.cell (World.block_lt_of_cell? w _ hx128_0)).trans hx128_0
             replace hx128_1 := (HB.out.cell (World.block_lt_of_cell? w _ hx128_1)).trans hx128_1
             replace hx128_2 := (HB.out.cell (World.block_lt_of_cell? w _ hx128_2)).trans hx128_2
             replace hx128_3 := (HB.out.cell (World.block_lt_of_cell? w _ hx128_3)).trans hx128_3
             replace hx128_4 := (HB.out.cell (World.block_lt_of_cell? w _ hx128_4)).trans hx128_4
             have HR128_3 := Aside0.mk hi128_3
             have HC128_3 := Aside0.mk hl128_3
             clear hi128_3 hl128_3
             have HR128_4 := Aside0.mk hi128_4
             have HC128_4 := Aside0.mk hl128_4
             clear hi128_4 hl128_4
             replace p128 := eq_true p128
             replace q128 := eq_true q128
             go_wp2_with (first | ((with_reducible refine gate_dst (N := 10) rfl ?_); refine box_event ?hg (N := 10) ?hd (cs := #[.int .i64 0, .string (⟨#[]⟩ : ByteArray), .string (⟨#[]⟩ : ByteArray), .slice none 0 0, .slice none 0 0]) (t := 25) ?hr ?_; (case hd => rfl); (case hg => rfl); (case hr => first | (go_simp; done) | (go_simp; rfl)); intro gb129 hg w55 hbox hb; have n0_ := Aside0.mk (blk_below (g := gb122) (o := .cells #[.int .i64 a0_0, .string a0_1, .string a0_2, .slice A0_3 l0_3.length c0_3, .slice (some ad128) l0_4.length c0_4] 25 (0, 0)) (by (with_reducible repeat (first | refine blk_drewN ?_ _ | refine blk_drew ?_ | refine blk_alloc ?_ _)); exact BK122.out) hb); have n1_ := Aside0.mk (below_step (by repeat (first | (with_reducible first | exact HB.out | apply below_alloc | apply pw_below_drewN | apply below_drew1 | refine below_set ?_ GE122.out) | exact HB.out)) hb); have n2_ := Aside0.mk (hbox); have n3_ := Aside0.mk ((by rw [hg]; exact (below_size (by repeat (first | (with_reducible first | exact HB.out | apply below_alloc | apply pw_below_drewN | apply below_drew1 | refine below_set ?_ GE122.out) | exact HB.out))) : w.heap.size ≤ gb129)); have n4_ := Aside0.mk ((by rw [hg]; exact (below_size (by repeat (first | (with_reducible first | exact HB.out | apply below_alloc | apply pw_below_drewN | apply below_drew1 | refine below_set ?_ GE122.out) | exact HB.out))) : w.heap.size ≤ gb129)); have n5_ := Aside0.mk ((by rw [hg]; exact Nat.ne_of_lt (blk_lt (g := gb122) (o := .cells #[.int .i64 a0_0, .string a0_1, .string a0_2, .slice A0_3 l0_3.length c0_3, .slice (some ad128) l0_4.length c0_4] 25 (0, 0)) (by (with_reducible repeat (first | refine blk_drewN ?_ _ | refine blk_drew ?_ | refine blk_alloc ?_ _)); exact BK122.out)) : gb122 ≠ gb129)); have n6_ := Aside0.mk ((by rw [hg]; exact Nat.ne_of_gt (blk_lt (g := gb122) (o := .cells #[.int .i64 a0_0, .string a0_1, .string a0_2, .slice A0_3 l0_3.length c0_3, .slice (some ad128) l0_4.length c0_4] 25 (0, 0)) (by (with_reducible repeat (first | refine blk_drewN ?_ _ | refine blk_drew ?_ | refine blk_alloc ?_ _)); exact BK122.out)) : gb129 ≠ gb122)); clear BK122; clear HB; have BK122 := n0_; have HB := n1_; have BK129 := n2_; have GW129 := n3_; have GE129 := n4_; have NB122_129 := n5_; have NB129_122 := n6_; clear n0_ n1_ n2_ n3_ n4_ n5_ n6_; clear hb hbox hg; have hnb56 := NB129_122.out; have hnc56 := NB122_129.out; have hcz57_0 : w55.cell? ⟨gb129, 0, none⟩ = some (.int .i64 0) := (blk_cell BK129.out 0).trans rfl; have hcz57_1 : w55.cell? ⟨gb129, 1, none⟩ = some (.string (⟨#[]⟩ : ByteArray)) := (blk_cell BK129.out 1).trans rfl; have hcz57_2 : w55.cell? ⟨gb129, 2, none⟩ = some (.string (⟨#[]⟩ : ByteArray)) := (blk_cell BK129.out 2).trans rfl; have hcz57_3 : w55.cell? ⟨gb129, 3, none⟩ = some (.slice none 0 0) := (blk_cell BK129.out 3).trans rfl; have hcz57_4 : w55.cell? ⟨gb129, 4, none⟩ = some (.slice none 0 0) := (blk_cell BK129.out 4).trans rfl; have hfz57_0 := blk_frozen BK129.out 0; have hfz57_1 := blk_frozen BK129.out 1; have hfz57_2 := blk_frozen BK129.out 2; have hfz57_3 := blk_frozen BK129.out 3; have hfz57_4 := blk_frozen BK129.out 4) | ((with_reducible refine gate_callee (f := 108) rfl ?_); refine goesL_ (some 71) rfl rfl Try.func108 (by kernel_rfl) rfl #[.agg #[.int .i64 ((rd_T25 l0_4 x65_1).f0), .string ((rd_T25 l0_4 x65_1).f1), .string ((rd_T25 l0_4 x65_1).f2), .slice A128_3 ((rd_T25 l0_4 x65_1).f3).length c128_3, .slice A128_4 ((rd_T25 l0_4 x65_1).f4).length c128_4], .slice A1 l1.length c1] rfl (by (try simp only [List.map_toArray, List.map_cons, List.map_nil]); first | done | rfl | (simp only [List.length_drop, List.length_take]; rfl)) ?_; (with_reducible refine (ih k1 (by have := HK1.out; omega) ((rd_T25 l0_4 x65_1).f0) ((rd_T25 l0_4 x65_1).f1) ((rd_T25 l0_4 x65_1).f2) _ _ ((rd_T25 l0_4 x65_1).f3) _ _ ((rd_T25 l0_4 x65_1).f4) _ _ l1 t130 _ ?side1 ?side2 ?side3 ?side4 ?side5 ?side6 A49.out).mono ?_); (case side1 => exact Kd.C_below HR128_3.out (by repeat (first | (with_reducible first | exact HB.out | apply below_alloc | apply pw_below_drewN | apply below_drew1 | refine below_set ?_ GE122.out | refine below_set ?_ GE129.out) | exact HB.out))); (case side2 => exact HC128_3.out); (case side3 => exact Kd.C_below HR128_4.out (by repeat (first | (with_reducible first | exact HB.out | apply below_alloc | apply pw_below_drewN | apply below_drew1 | refine below_set ?_ GE122.out | refine below_set ?_ GE129.out) | exact HB.out))); (case side4 => exact HC128_4.out); (case side5 => exact Kd.C_below HR1.out (by repeat (first | (with_reducible first | exact HB.out | apply below_alloc | apply pw_below_drewN | apply below_drew1 | refine below_set ?_ GE122.out | refine below_set ?_ GE129.out) | exact HB.out))); (case side6 => exact HC1.out); rintro e w58 ⟨rfl, hb⟩; refine ⟨_, rfl, ?_⟩; have n0_ := Aside0.mk (blk_below (g := gb122) (o := .cells #[.int .i64 a0_0, .string a0_1, .string a0_2, .slice A0_3 l0_3.length c0_3, .slice (some ad128) l0_4.length c0_4] 25 (0, 0)) (by (with_reducible repeat (first | refine blk_drewN ?_ _ | refine blk_drew ?_ | refine blk_alloc ?_ _)); refine blk_far ?_ NB122_129.out _; (with_reducible repeat (first | refine blk_drewN ?_ _ | refine blk_drew ?_ | refine blk_alloc ?_ _)); refine blk_far ?_ NB122_129.out _; (with_reducible repeat (first | refine blk_drewN ?_ _ | refine blk_drew ?_ | refine blk_alloc ?_ _)); refine blk_far ?_ NB122_129.out _; (with_reducible repeat (first | refine blk_drewN ?_ _ | refine blk_drew ?_ | refine blk_alloc ?_ _)); refine blk_far ?_ NB122_129.out _; (with_reducible repeat (first | refine blk_drewN ?_ _ | refine blk_drew ?_ | refine blk_alloc ?_ _)); refine blk_far ?_ NB122_129.out _; (with_reducible repeat (first | refine blk_drewN ?_ _ | refine blk_drew ?_ | refine blk_alloc ?_ _)); exact BK122.out) hb); have n1_ := Aside0.mk (blk_below (g := gb129) (o := .cells #[.int .i64 ((rd_T25 l0_4 x65_1).f0), .string ((rd_T25 l0_4 x65_1).f1), .string ((rd_T25 l0_4 x65_1).f2), .slice A128_3 ((rd_T25 l0_4 x65_1).f3).length c128_3, .slice A128_4 ((rd_T25 l0_4 x65_1).f4).length c128_4] 25 (0, 0)) (by (with_reducible repeat (first | refine blk_drewN ?_ _ | refine blk_drew ?_ | refine blk_alloc ?_ _)); refine blk_put (cs := #[.int .i64 ((rd_T25 l0_4 x65_1).f0), .string ((rd_T25 l0_4 x65_1).f1), .string ((rd_T25 l0_4 x65_1).f2), .slice A128_3 ((rd_T25 l0_4 x65_1).f3).length c128_3, .slice none 0 0]) ?_ 4 _ rfl; (with_reducible repeat (first | refine blk_drewN ?_ _ | refine blk_drew ?_ | refine blk_alloc ?_ _)); refine blk_put (cs := #[.int .i64 ((rd_T25 l0_4 x65_1).f0), .string ((rd_T25 l0_4 x65_1).f1), .string ((rd_T25 l0_4 x65_1).f2), .slice none 0 0, .slice none 0 0]) ?_ 3 _ rfl; (with_reducible repeat (first | refine blk_drewN ?_ _ | refine blk_drew ?_ | refine blk_alloc ?_ _)); refine blk_put (cs := #[.int .i64 ((rd_T25 l0_4 x65_1).f0), .string ((rd_T25 l0_4 x65_1).f1), .string (⟨#[]⟩ : ByteArray), .slice none 0 0, .slice none 0 0]) ?_ 2 _ rfl; (with_reducible repeat (first | refine blk_drewN ?_ _ | refine blk_drew ?_ | refine blk_alloc ?_ _)); refine blk_put (cs := #[.int .i64 ((rd_T25 l0_4 x65_1).f0), .string (⟨#[]⟩ : ByteArray), .string (⟨#[]⟩ : ByteArray), .slice none 0 0, .slice none 0 0]) ?_ 1 _ rfl; (with_reducible repeat (first | refine blk_drewN ?_ _ | refine blk_drew ?_ | refine blk_alloc ?_ _)); refine blk_put (cs := #[.int .i64 0, .string (⟨#[]⟩ : ByteArray), .string (⟨#[]⟩ : ByteArray), .slice none 0 0, .slice none 0 0]) ?_ 0 _ rfl; (with_reducible repeat (first | refine blk_drewN ?_ _ | refine blk_drew ?_ | refine blk_alloc ?_ _)); exact BK129.out) hb); have n2_ := Aside0.mk (below_step (by repeat (first | (with_reducible first | exact HB.out | apply below_alloc | apply pw_below_drewN | apply below_drew1 | refine below_set ?_ GE122.out | refine below_set ?_ GE129.out) | exact HB.out)) hb); clear BK122; clear BK129; clear HB; have BK122 := n0_; have BK129 := n1_; have HB := n2_; clear n0_ n1_ n2_; (try clear hb); (try clear hb2); (try clear hk); (try clear hi)))
             go_roundg k1
             case measure => have := HK1.out; omega
             case rel => exact ⟨(wrap64 (x65_1 + 1)), (by first | rfl | (simp; done) | (simp [*]; done)), H', ⟨by have := HK1.out; omega⟩, ⟨by (with_reducible repeat (first | refine blk_drewN ?_ _ | refine blk_drew ?_ | refine blk_alloc ?_ _)); exact BK122.out⟩, ⟨by repeat (first | (with_reducible first | exact HB.out | apply below_alloc | apply pw_below_drewN | apply below_drew1 | refine below_set ?_ GE122.out | refine below_set ?_ GE129.out) | exact HB.out)⟩⟩
           ·rw [if_neg c48] at H
            exact absurd H (by simp)
          ·rw [if_neg c47] at H
           exact absurd H (by simp)
         ·rw [if_neg c46] at H
          have c46b0 : decide (x65_1 < (l0_4.length : Int)) = false := decide_eq_false c46
          clear c46
          obtain rfl := Option.some.inj H
          go_wp2
          go_ret
          exact ⟨by first | rfl | (simp [errW_none, errW_some] <;> rfl) | (simp [*, errW_none, errW_some] <;> rfl), by repeat (first | (with_reducible first | exact HB.out | apply below_alloc | apply pw_below_drewN | apply below_drew1 | refine below_set ?_ GE122.out) | exact HB.out)⟩

-- NOT PRINTED: function 55 (match_Eval)

-- NOT PRINTED: function 37 (tomb_Covers)
end Go.Proofs.Yteafilojjdfllaa.PAll
end
section
namespace Go.Proofs.Yteafilojjdfllaa
open Go Go.RowKit Go.Proofs.YteafilojjdfllaaW.PrintWords Go.Proofs.Yteafilojjdfllaa.PAll
/-- a name's value -/
def valueL (n : ByteArray) : List S68 → ByteArray
 | [] => ⟨#[]⟩
 | x :: l => if x.f0.toList = n.toList then x.f1 else valueL n l
def prefB (t v : ByteArray) : Bool := decide (v.size ≤ t.size) && ((t.extract 0 v.size).toList == v.toList)
mutual
def evalM (l : List S68) : S25 → Bool
 | ⟨op, n, v, vs, ks⟩ =>
  if op = 0 then true else if op = 1 then (valueL n l).toList == v.toList else if op = 2 then (valueL n l).toList != v.toList
  else if op = 3 then prefB (valueL n l) v else if op = 4 then vs.any (fun u => decide (u.toList = (valueL n l).toList))
  else if op = 7 then !(evalF l ks) else evalL l (op == 6) ks
/-- the first kid -/
def evalF (l : List S68) : List S25 → Bool
 | [] => false
 | k :: _ => evalM l k
def evalL (l : List S68) (dec : Bool) : List S25 → Bool
 | [] => !dec
 | k :: ks => if evalM l k == dec then dec else evalL l dec ks
end
theorem ldrop (l : List S68) (i : Nat) (h : i < l.length) : l.drop i = l.getD i z68 :: l.drop (i + 1) := by
 rw [List.drop_eq_getElem_cons h, List.getD_eq_getElem?_getD, List.getElem?_eq_getElem h, Option.getD_some]
theorem rdT68_nat (l : List S68) (i : Nat) : rd_T68 l (i : Int) = l.getD i z68 := by simp [rd_T68]
theorem rdT25_nat (l : List S25) (i : Nat) : rd_T25 l (i : Int) = l.getD i z25 := by simp [rd_T25]
theorem kdrop (l : List S25) (i : Nat) (h : i < l.length) : l.drop i = l.getD i z25 :: l.drop (i + 1) := by
 rw [List.drop_eq_getElem_cons h, List.getD_eq_getElem?_getD, List.getElem?_eq_getElem h, Option.getD_some]
theorem value_l0 (l : List S68) (n : ByteArray) (hl : l.length ≤ 4000000000000000000) : ∀ (d i k : Nat), i ≤ l.length → l.length ≤ i + d → d < k → label_Value.l0 k n l (l.length : Int) (i : Int) = some (valueL n (l.drop i))
 | d, i, 0, _, _, h => by omega
 | d, i, k + 1, hi, hd, hk => by
  simp only [label_Value.l0, w64s i (by omega), rdT68_nat]
  by_cases hlt : i < l.length
  ·have ih := value_l0 l n hl (d - 1) (i + 1) k (by omega) (by omega) (by omega)
   rw [if_pos (by omega), if_pos (by omega), if_pos (by omega), ldrop l i hlt, valueL, ih]
   split <;> rfl
  ·rw [if_neg (by omega), List.drop_of_length_le (by omega), valueL]
theorem label_Value.val (l : List S68) (n : ByteArray) (hl : l.length ≤ 4000000000000000000) (k : Nat) (hk : l.length < k) : label_Value.f k l n = some (valueL n l) := by
 have := value_l0 l n hl l.length 0 k (by omega) (by omega) hk
 simpa [label_Value.f] using this
theorem any_l0 (x : ByteArray) (vs : List ByteArray) (hl : vs.length ≤ 1000) : ∀ (d i k : Nat), i ≤ vs.length → vs.length ≤ i + d → d < k → match_eval.l0 k x vs (vs.length : Int) (i : Int) = some ((vs.drop i).any (fun u => decide (u.toList = x.toList)))
 | d, i, 0, _, _, h => by omega
 | d, i, k + 1, hi, hd, hk => by
  simp only [match_eval.l0, w64s i (by omega), rdOf_nat]
  by_cases hlt : i < vs.length
  ·have ih := any_l0 x vs hl (d - 1) (i + 1) k (by omega) (by omega) (by omega)
   rw [if_pos (by omega), if_pos (by omega), if_pos (by omega), vdrop vs i hlt, List.any_cons, ih]
   by_cases e : (vs.getD i ByteArray.empty).toList = x.toList
   ·rw [if_pos e, decide_eq_true e, Bool.true_or]
   ·rw [if_neg e, decide_eq_false e, Bool.false_or]
  ·rw [if_neg (by omega), List.drop_of_length_le (by omega)]; rfl
theorem ok_vals {m : S25} (h : aloneB m = true) (h4 : m.f0 = 4) : m.f3.length ≤ 16 := by
 unfold aloneB at h
 rw [if_neg (by omega), if_neg (by omega), if_pos h4] at h
 simp only [Bool.and_eq_true] at h
 have := h.2
 unfold valuesB at this
 rw [Bool.and_eq_true, Bool.and_eq_true] at this
 exact (of_decide_eq_true this.1.1).2
theorem ok_kids {m : S25} (h : aloneB m = true) (h7 : m.f0 = 7) : m.f4.length = 1 := by
 unfold aloneB at h
 rw [if_neg (by omega), if_neg (by omega), if_neg (by omega), if_neg (by omega), if_pos h7] at h
 rw [Bool.and_eq_true] at h
 exact of_decide_eq_true h.2
theorem prefix_val (t v : ByteArray) : strings_HasPrefix.f t v = some (prefB t v) := by
 unfold strings_HasPrefix.f stringslite_HasPrefix.f prefB
 by_cases h : v.size ≤ t.size
 ·rw [if_pos (by omega), if_pos (by omega), if_pos (by omega), decide_eq_true h]
  simp
 ·rw [if_neg (by omega), decide_eq_false h]
  simp
theorem eval_kids (l : List S68) (dec : Bool) (ks : List S25) (hks : ks.length ≤ 1000) (F : Nat) (h : ∀ j, j < ks.length → ∀ k, F + 2 * nodesM (ks.getD j z25) ≤ k → match_eval.f k (ks.getD j z25).f0 (ks.getD j z25).f1 (ks.getD j z25).f2 (ks.getD j z25).f3 (ks.getD j z25).f4 l = some (evalM l (ks.getD j z25))) :
  ∀ (d i k : Nat), i ≤ ks.length → ks.length ≤ i + d → F + 2 * nodesL (ks.drop i) + 1 ≤ k → match_eval.l1 k l dec ks (ks.length : Int) (i : Int) = some (evalL l dec (ks.drop i))
 | d, i, 0, _, _, hk => by omega
 | d, i, k + 1, hi, hd, hk => by
  simp only [match_eval.l1, w64s i (by omega), rdT25_nat]
  by_cases hlt : i < ks.length
  ·rw [kdrop ks i hlt, nodesL] at hk
   have hp : 1 ≤ nodesM (ks.getD i z25) := by rw [nodesM_mk]; omega
   have ih := eval_kids l dec ks hks F h (d - 1) (i + 1) k (by omega) (by omega) (by omega)
   rw [if_pos (by omega), if_pos (by omega), if_pos (by omega), h i hlt k (by omega), Option.bind_some, kdrop ks i hlt, evalL, ih]
   cases evalM l (ks.getD i z25) <;> cases dec <;> rfl
  ·rw [if_neg (by omega), List.drop_of_length_le (by omega), evalL]
theorem okL_at : ∀ {ks : List S25} {j : Nat}, okL ks = true → j < ks.length → okM (ks.getD j z25) = true
 | k :: ks, 0, h, _ => by simp only [okL, Bool.and_eq_true] at h; exact h.1
 | k :: ks, j + 1, h, hj => by
  simp only [okL, Bool.and_eq_true] at h
  have := okL_at (j := j) h.2 (by simpa using hj)
  simpa using this
theorem lenL_nodes : ∀ (ks : List S25), ks.length ≤ nodesL ks
 | [] => by simp
 | k :: ks => by have := lenL_nodes ks; have h2 := nodesM_mk k; simp only [List.length_cons, nodesL]; omega
theorem eval_val (l : List S68) (hl : l.length ≤ 4000000000000000000) : ∀ (N : Nat) (m : S25), nodesM m ≤ N → nodesM m ≤ 1000 → okM m = true → ∀ k, l.length + 30 + 2 * nodesM m ≤ k → match_eval.f k m.f0 m.f1 m.f2 m.f3 m.f4 l = some (evalM l m) := by
 intro N
 induction N with
 | zero => intro m h; rw [nodesM_mk] at h; omega
 | succ N ih =>
  rintro ⟨op, n, v, vs, ks⟩ hN h1000 hok k hk
  obtain ⟨k, rfl⟩ : ∃ q, k = q + 1 := ⟨k - 1, by omega⟩
  rw [okM_mk, Bool.and_eq_true] at hok
  obtain ⟨ha, hks⟩ := hok
  have hn := nodesM_mk ⟨op, n, v, vs, ks⟩
  have hlk := lenL_nodes ks
  simp only at hn hks hlk ⊢
  have hkid : ∀ j, j < ks.length → ∀ k, l.length + 30 + 2 * nodesM (ks.getD j z25) ≤ k → match_eval.f k (ks.getD j z25).f0 (ks.getD j z25).f1 (ks.getD j z25).f2 (ks.getD j z25).f3 (ks.getD j z25).f4 l = some (evalM l (ks.getD j z25)) := fun j hj k hk => by
   have hmem : ks.getD j z25 ∈ ks := by simp [List.getD_eq_getElem?_getD, hj]
   have := nodes_lt ⟨op, n, v, vs, ks⟩ _ hmem
   exact ih _ (by omega) (by omega) (okL_at hks hj) k hk
  simp only [match_eval.f, label_Value.val l n hl k (by omega), Option.bind_some]
  unfold evalM
  by_cases e0 : op = 0
  ·rw [if_pos e0, if_pos e0]
  rw [if_neg e0, if_neg e0]
  by_cases e1 : op = 1
  ·rw [if_pos e1, if_pos e1]
  rw [if_neg e1, if_neg e1]
  by_cases e2 : op = 2
  ·rw [if_pos e2, if_pos e2]
  rw [if_neg e2, if_neg e2]
  by_cases e3 : op = 3
  ·rw [if_pos e3, if_pos e3, prefix_val, Option.bind_some]
  rw [if_neg e3, if_neg e3]
  by_cases e4 : op = 4
  ·rw [if_pos e4, if_pos e4]
   have h16 := ok_vals ha e4
   simp only at h16
   have := any_l0 (valueL n l) vs (by omega) vs.length 0 k (by omega) (by omega) (by omega)
   simpa using this
  rw [if_neg e4, if_neg e4]
  by_cases e7 : op = 7
  ·rw [if_pos e7, if_pos e7]
   have h1 := ok_kids ha e7
   simp only at h1
   have hk0 := hkid 0 (by omega)
   obtain ⟨kid, rfl⟩ : ∃ kid, ks = [kid] := by
    match ks, h1 with
    | [kid], _ => exact ⟨kid, rfl⟩
   simp only [List.length_singleton]
   have hr : rd_T25 [kid] 0 = kid := by simp [rd_T25]
   simp only [List.getD_cons_zero] at hk0
   rw [if_pos (by omega), hr, hk0 k (by simp only [nodesL] at hn; omega), Option.bind_some]
   rfl
  rw [if_neg e7, if_neg e7]
  have := eval_kids l (op == 6) ks (by omega) (l.length + 30) hkid ks.length 0 k (by omega) (by omega) (by rw [List.drop_zero]; omega)
  simpa using this
theorem eval108 (w : World) (m : S25) (A3 : Option Addr) (c3 : Nat) (A4 : Option Addr) (c4 : Nat) (A1 : Option Addr) (c1 : Nat) (l : List S68) (v : Bool) (hv : evalM l m = v) (h1000 : nodesM m ≤ 1000) (hok : okM m = true) (hl : l.length ≤ 4000000000000000000)
  (h3 : m.f3.length ≤ c3) (g3 : Kd.C Kd.string w A3 m.f3.length m.f3) (h4 : m.f4.length ≤ c4) (g4 : Kd.C k25 w A4 m.f4.length m.f4) (h1 : l.length ≤ c1) (g1 : Kd.C k68 w A1 l.length l) :
  Calls Try.prog 108 #[.agg #[.int .i64 m.f0, .string m.f1, .string m.f2, .slice A3 m.f3.length c3, .slice A4 m.f4.length c4], .slice A1 l.length c1] w fun e w' => e = .returned (.bool v) ∧ Below w.heap.size w w' :=
 match_eval.calls (l.length + 30 + 2 * nodesM m) m.f0 m.f1 m.f2 A3 c3 m.f3 A4 c4 m.f4 A1 c1 l v w g3 h3 g4 h4 g1 h1 (hv ▸ eval_val l hl _ m (Nat.le_refl _) h1000 hok _ (Nat.le_refl _))
end Go.Proofs.Yteafilojjdfllaa
end
section
namespace Go.Proofs.Yteafilojjdfllaa
open Go Go.RowKit Go.Proofs.YteafilojjdfllaaW.PrintWords Go.Proofs.YteafilojjdfllaaW.PrintLast
set_option linter.unusedVariables false
def msk (n : Nat) (o : List Nat) (k : Nat) : List Bool := (List.range n).map fun i => (o.take k).contains i
section
variable {P : Program} {ops : Array Oper} {Q : Exit → Act → World → Prop} {S : World → Prop} {ds : List Nat} {T : Bool × List (List Nat × List Nat)} {n k : Nat} {o : List Nat} {N : Option Tmp} {oi : Oper} {v : Value} {fuel : Nat} {a : Act} {w : World}
theorem takeO (hT : rtab .any ops = T) (hi : ops[o.getD k n]? = some oi) (hN : oi.dst = N) (hc : takeT T ds (msk n o k) (msk n o (k + 1)) (o.getD k n) = true)
  (hQ : ∀ c a w, Q (.panic c) (a.put oi.dst v) w → Q (.panic c) a w) (hy : YieldsIf P ops S oi v a) (hS : S w) {a' : Act} (ha : a.put N v = a')
  (h : wpAnyLast P .any ops Q S ds fuel (msk n o (k + 1)).toArray a' w) : wpAnyLast P .any ops Q S ds (fuel + 1) (msk n o k).toArray a w :=
 take_ (msk n o (k + 1)).toArray hi hN (take_of hT hc) hQ hy hS ha h
theorem pureO (hT : rtab .any ops = T) (hi : ops[o.getD k n]? = some oi) (hN : oi.dst = N) (hc : anyT T (msk n o k) (msk n o (k + 1)) (o.getD k n) = true)
  (hQ : ∀ c a w, Q (.panic c) (a.put oi.dst v) w → Q (.panic c) a w) (hy : Yields P ops oi v a) {a' : Act} (ha : a.put N v = a')
  (h : wpAnyLast P .any ops Q S ds fuel (msk n o (k + 1)).toArray a' w) : wpAnyLast P .any ops Q S ds (fuel + 1) (msk n o k).toArray a w :=
 pure_ (msk n o (k + 1)).toArray hi hN (any_of hT hc) hQ hy ha h
theorem oneO {i : Nat} (hT : rtab .any ops = T) (hi : ops[i]? = some oi) (hN : oi.dst = N) (hc : (readyT T.2 (msk n o k) == [i] && (msk n o k).set i true == msk n o (k + 1)) = true) (hd : i ∉ ds)
  (h : ∀ K : Act → World → Prop, Shut (∀ a' w', S w' → (S w' → wpAnyLast P .any ops Q S ds fuel (msk n o (k + 1)).toArray a' w') → K a' w') → if Region.wanted oi (yielded ops a.tmps) = true then Oper.wp P oi a w K Q else K (a.put N undef) w) :
  wpAnyLast P .any ops Q S ds (fuel + 1) (msk n o k).toArray a w :=
 one_ (msk n o (k + 1)).toArray hi hN (one_of hT hc) hd h
theorem lastO {i : Nat} (hT : rtab .any ops = T) (hi : ops[i]? = some oi) (hN : oi.dst = N) (hc : (readyT T.2 (msk n o k) == [i] && (msk n o k).set i true == msk n o (k + 1)) = true) (hd : i ∈ ds)
  (h : ∀ K : Act → World → Prop, Shut (∀ a' w', wpAnyLast P .any ops Q S ds fuel (msk n o (k + 1)).toArray a' w' → K a' w') → if Region.wanted oi (yielded ops a.tmps) = true then Oper.wp P oi a w K Q else K (a.put N undef) w) :
  wpAnyLast P .any ops Q S ds (fuel + 1) (msk n o k).toArray a w :=
 last_ (msk n o (k + 1)).toArray hi hN (one_of hT hc) hd h
end
end Go.Proofs.Yteafilojjdfllaa
end
section
namespace Go.Proofs
open Go.Shelf
end Go.Proofs
end
section
namespace Go.Proofs.Yteafilojjdfllaa
section
open Go Go.RowKit Go.Proofs.YteafilojjdfllaaW.PrintWords Go.Proofs.YteafilojjdfllaaW.PrintLast Go.Proofs.YteafilojjdfllaaW.PrintMore Go.Proofs.Yteafilojjdfllaa.PAll
set_option linter.unusedSimpArgs false
end
section
open Go Go.RowKit Go.Proofs.YteafilojjdfllaaW.PrintWords Go.Proofs.YteafilojjdfllaaW.PrintLast Go.Proofs.YteafilojjdfllaaW.PrintMore Go.Proofs.Yteafilojjdfllaa.PAll
set_option linter.unusedSimpArgs false
end
end Go.Proofs.Yteafilojjdfllaa
end
section
namespace Go.Proofs.Yteafilojjdfllaa
section
open Go Go.RowKit Go.Sort Go.Proofs.YteafilojjdfllaaW.PrintWords Go.Proofs.YteafilojjdfllaaW.PrintLast Go.Proofs.YteafilojjdfllaaW.PrintMore Go.Proofs.Yteafilojjdfllaa.PAll
instance : Inhabited S68 := ⟨z68⟩
end
section
open Go Go.RowKit Go.Sort Go.Proofs.YteafilojjdfllaaW.PrintWords Go.Proofs.YteafilojjdfllaaW.PrintLast Go.Proofs.YteafilojjdfllaaW.PrintMore Go.Proofs.Yteafilojjdfllaa.PAll
set_option linter.unusedSimpArgs false
end
section
namespace Lb
open Go Go.RowKit Go.Proofs.YteafilojjdfllaaW.PrintWords Go.Proofs.YteafilojjdfllaaW.PrintLast Go.Proofs.YteafilojjdfllaaW.PrintMore Go.Proofs.Yteafilojjdfllaa.PAll
set_option linter.unusedVariables false
set_option linter.unusedSimpArgs false
/-- it reads so in every world that has these blocks -/
def LF {α : Type} (d : Kd α) (W : World) (S : Nat → Prop) (A : Option Addr) (c : Nat) (xs : List α) : Prop :=
 ∀ X : World, (∀ b, S b → X.heap[b]? = W.heap[b]?) → xs.length ≤ c ∧ d.C X A xs.length xs
theorem LF.now {α : Type} {d : Kd α} {W : World} {S : Nat → Prop} {A : Option Addr} {c : Nat} {xs : List α} (h : LF d W S A c xs) : xs.length ≤ c ∧ d.C W A xs.length xs := h W (fun _ _ => rfl)
theorem LF.move {α : Type} {d : Kd α} {W Y : World} {S T : Nat → Prop} {A : Option Addr} {c : Nat} {xs : List α} (h : LF d W S A c xs) (hS : ∀ b, S b → T b ∧ Y.heap[b]? = W.heap[b]?) : LF d Y T A c xs :=
 fun X hX => h X (fun b hb => (hX b (hS b hb).1).trans (hS b hb).2)
/-- a name's value -/
def valueL (n : ByteArray) : List S68 → ByteArray
 | [] => ⟨#[]⟩
 | x :: l => if x.f0.toList = n.toList then x.f1 else valueL n l
theorem ldrop (l : List S68) (i : Nat) (h : i < l.length) : l.drop i = l.getD i z68 :: l.drop (i + 1) := by
 rw [List.drop_eq_getElem_cons h, List.getD_eq_getElem?_getD, List.getElem?_eq_getElem h, Option.getD_some]
theorem rdT68_nat (l : List S68) (i : Nat) : rd_T68 l (i : Int) = l.getD i z68 := by simp [rd_T68]
theorem value_l0 (l : List S68) (n : ByteArray) (hl : l.length ≤ 4000000000000000000) : ∀ (d i k : Nat), i ≤ l.length → l.length ≤ i + d → d < k → label_Value.l0 k n l (l.length : Int) (i : Int) = some (valueL n (l.drop i))
 | d, i, 0, _, _, h => by omega
 | d, i, k + 1, hi, hd, hk => by
  simp only [label_Value.l0, w64s i (by omega), rdT68_nat]
  by_cases hlt : i < l.length
  ·have ih := value_l0 l n hl (d - 1) (i + 1) k (by omega) (by omega) (by omega)
   rw [if_pos (by omega), if_pos (by omega), if_pos (by omega), ldrop l i hlt, valueL, ih]
   split <;> rfl
  ·rw [if_neg (by omega), List.drop_of_length_le (by omega), valueL]
theorem label_Value.val (l : List S68) (n : ByteArray) (hl : l.length ≤ 4000000000000000000) (k : Nat) (hk : l.length < k) : label_Value.f k l n = some (valueL n l) := by
 have := value_l0 l n hl l.length 0 k (by omega) (by omega) hk
 simpa [label_Value.f] using this
theorem rvalue_l0 (l : List S68) (n : ByteArray) (hl : l.length ≤ 4000000000000000000) : ∀ (d i k : Nat), i ≤ l.length → l.length ≤ i + d → d < k → varveref11_Value.l0 k l n (i : Int) = some (valueL n (l.drop i))
 | d, i, 0, _, _, h => by omega
 | d, i, k + 1, hi, hd, hk => by
  simp only [varveref11_Value.l0, w64s i (by omega), rdT68_nat]
  by_cases hlt : i < l.length
  ·have ih := rvalue_l0 l n hl (d - 1) (i + 1) k (by omega) (by omega) (by omega)
   rw [if_pos (by omega), if_pos (by omega), ldrop l i hlt, valueL, ih]
   split <;> rfl
  ·rw [if_neg (by omega), List.drop_of_length_le (by omega), valueL]
theorem varveref11_Value.val (l : List S68) (n : ByteArray) (hl : l.length ≤ 4000000000000000000) (k : Nat) (hk : l.length < k) : varveref11_Value.f k l n = some (valueL n l) := by
 have := rvalue_l0 l n hl l.length 0 k (by omega) (by omega) hk
 simpa [varveref11_Value.f] using this
end Lb
end
section
open Go Go.RowKit Go.Proofs.YteafilojjdfllaaW.PrintWords Go.Proofs.YteafilojjdfllaaW.PrintLast Go.Proofs.YteafilojjdfllaaW.PrintMore Go.Proofs.Yteafilojjdfllaa.PAll
set_option linter.unusedSimpArgs false
set_option linter.unusedVariables false
end
section
open Go Go.RowKit Go.Sort Go.Proofs.YteafilojjdfllaaW.PrintWords Go.Proofs.YteafilojjdfllaaW.PrintLast Go.Proofs.YteafilojjdfllaaW.PrintMore Go.Proofs.Yteafilojjdfllaa.PAll
set_option linter.unusedSimpArgs false
end
end Go.Proofs.Yteafilojjdfllaa
end
section
namespace Go.Proofs.Yteafilojjdfllaa
open Go Go.RowKit Go.Proofs.YteafilojjdfllaaW.PrintWords Go.Proofs.Yteafilojjdfllaa.PAll
theorem unq_suffix {step : List UInt8 → Step} : ∀ (n : Nat) (l : List UInt8), l.length ≤ n → ∀ {v t}, unqW step l = some (v, t) → t <:+ l
 | _, [], _, v, t, h => by rw [unqW] at h; cases h
 | 0, x :: l, h0, v, t, h => by simp at h0
 | n + 1, x :: r, hn, v, t, h => by
  rw [unqW] at h
  split at h
  ·cases h
  ·cases h; exact List.suffix_cons _ _
  ·rename_i c k _
   cases hq : unqW step (r.drop k) with
   | none => rw [hq] at h; cases h
   | some q =>
    rw [hq] at h
    cases h
    exact (unq_suffix n (r.drop k) (by simp only [List.length_drop]; simp only [List.length_cons] at hn; omega) (show unqW step (r.drop k) = some (q.1, q.2) from hq)).trans ((List.drop_suffix _ _).trans (List.suffix_cons _ _))
theorem val_suffix {step : List UInt8 → Step} {l v t : List UInt8} (h : valW step l = some (v, t)) : t <:+ l := by
 unfold valW at h
 split at h
 ·exact (unq_suffix _ _ (Nat.le_refl _) h).trans (List.suffix_cons _ _)
 ·cases h
/-- what stands behind a value, by its place -/
theorem val_place {step : List UInt8 → Step} {s : ByteArray} {m : Nat} {v t : List UInt8} (h : valW step (s.data.toList.drop m) = some (v, t)) : t.length ≤ s.size ∧ s.data.toList.drop (s.size - t.length) = t := by
 have h1 := (val_suffix h).trans (List.drop_suffix _ _)
 have h2 := h1.length_le
 have h3 : s.data.toList.length = s.size := by simp
 refine ⟨by omega, ?_⟩
 rw [← h3]
 exact (List.suffix_iff_eq_drop.1 h1).symm
theorem ext_take (s : ByteArray) (i n : Nat) : s.extract i (i + n) = ⟨((s.data.toList.drop i).take n).toArray⟩ := by
 apply ba_ext
 simp [List.take_drop]
theorem ext_drop (s : ByteArray) (i : Nat) : (s.extract i s.size).data.toList = s.data.toList.drop i := by
 simp
 rw [List.take_of_length_le (by simp)]
end Go.Proofs.Yteafilojjdfllaa
end
section
namespace Go.Proofs.Yteafilojjdfllaa
section
open Go Go.RowKit Go.Proofs.YteafilojjdfllaaW.PrintWords Go.Proofs.YteafilojjdfllaaW.PrintLast Go.Proofs.YteafilojjdfllaaW.PrintMore Go.Proofs.Yteafilojjdfllaa.PAll
set_option linter.unusedVariables false
set_option linter.unusedSimpArgs false
/-- the reader's block -/
def SB (W : World) (g : Nat) (s : ByteArray) (i : Nat) (b : Bool) : Prop := W.heap[g]? = some (.cells #[.string s, .int .i64 (i : Int), .bool b] 159 (0, 0))
section
variable {W X : World} {g : Nat} {s : ByteArray} {i : Nat} {b : Bool}
theorem SB.c0 (h : SB W g s i b) : W.cell? ⟨g, 0, none⟩ = some (.string s) := (blk_cell h 0).trans rfl
theorem SB.c1 (h : SB W g s i b) : W.cell? ⟨g, 1, none⟩ = some (.int .i64 (i : Int)) := (blk_cell h 1).trans rfl
theorem SB.c2 (h : SB W g s i b) : W.cell? ⟨g, 2, none⟩ = some (.bool b) := (blk_cell h 2).trans rfl
theorem SB.z1 (h : SB W g s i b) : W.frozen? ⟨g, 1, none⟩ = false := blk_frozen h 1
theorem SB.z2 (h : SB W g s i b) : W.frozen? ⟨g, 2, none⟩ = false := blk_frozen h 2
theorem SB.lt (h : SB W g s i b) : g < W.heap.size := (Array.getElem?_eq_some_iff.1 h).1
theorem SB.set1 (h : SB W g s i b) (j : Nat) : SB (W.setCell ⟨g, 1, none⟩ (.int .i64 (j : Int))) g s j b := by simpa [SB] using blk_set h 1 (.int .i64 (j : Int))
theorem SB.set2 (h : SB W g s i b) (c : Bool) : SB (W.setCell ⟨g, 2, none⟩ (.bool c)) g s i c := by simpa [SB] using blk_set h 2 (.bool c)
theorem SB.below (h : SB W g s i b) (hb : Below W.heap.size W X) : SB X g s i b := (hb.block g h.lt).trans h
theorem SB.alloc (h : SB W g s i b) (o : Obj) : SB (W.alloc o) g s i b := h.below (below_alloc (Below.refl _ _) o)
theorem SB.drewN (h : SB W g s i b) (n : Nat) : SB (W.drewN n) g s i b := h
theorem SB.drew (h : SB W g s i b) : SB W.drew g s i b := h
end
/-- how a step of the reader ends -/
def SPost (w0 w : World) (g : Nat) (s : ByteArray) (i : Nat) (b : Bool) (v : Value) (e : Ending) (w' : World) : Prop :=
 e = .returned v ∧ Below w0.heap.size w0 w' ∧ KeepBut w w' g none ∧ SB w' g s i b
/-- the reader moves on -/
theorem SPost.moved {w0 w : World} {g : Nat} {s : ByteArray} {i j : Nat} {b : Bool} {v : Value} {m : Nat} (hB : Below w0.heap.size w0 w) (hg : w0.heap.size ≤ g) (hS : SB w g s i b) : SPost w0 w g s j b v (.returned v) ((w.drewN m).setCell ⟨g, 1, none⟩ (.int .i64 (j : Int))) :=
 ⟨rfl, (pw_below_drewN hB m).setCell hg _, (keep_drewN (KeepBut.refl w g none) m).set_ 1 _, (hS.drewN m).set1 j⟩
end
section
open Go Go.RowKit Go.Proofs.YteafilojjdfllaaW.PrintWords Go.Proofs.YteafilojjdfllaaW.PrintLast Go.Proofs.YteafilojjdfllaaW.PrintMore Go.Proofs.Yteafilojjdfllaa.PAll
set_option linter.unusedVariables false
set_option linter.unusedSimpArgs false
theorem measS {W W' : World} {g n j : Nat} (h : j < n) (c1 : W.cell? ⟨g, 1, none⟩ = some (.int .i64 (j : Int))) (c2 : W'.cell? ⟨g, 1, none⟩ = some (.int .i64 ((j + 1 : Nat) : Int))) : n - (intOf ((W'.cell? ⟨g, 1, none⟩).getD undef)).toNat < n - (intOf ((W.cell? ⟨g, 1, none⟩).getD undef)).toNat := by
 rw [c1, c2]
 show n - ((j + 1 : Nat) : Int).toNat < n - (j : Int).toNat
 omega
section
variable {P : Program} {ops : Array Oper} {Q : Exit → Act → World → Prop} {S : World → Prop} {ds : List Nat} {T : Bool × List (List Nat × List Nat)}
end
end
end Go.Proofs.Yteafilojjdfllaa
end
section
namespace Go.Proofs.Yteafilojjdfllaa
section
open Go Go.Proofs.Yteafilojjdfllaa.PAll
end
section
open Go Go.RowKit Go.Proofs.YteafilojjdfllaaW.PrintWords Go.Proofs.YteafilojjdfllaaW.PrintLast Go.Proofs.YteafilojjdfllaaW.PrintMore Go.Proofs.Yteafilojjdfllaa.PAll
set_option linter.unusedVariables false
set_option linter.unusedSimpArgs false
def bys (l : List UInt8) : List Int := l.map fun b => (b.toNat : Int)
/-- bytes that may be appended to: a row of the call's own, or one with no room behind it -/
def BR (W : World) (base : Nat) (v : Value) (xs : List UInt8) : Prop :=
 (Kd.int .u8).R 5 W base (fun _ => True) v (bys xs) ∨ ∃ A, v = .slice A xs.length xs.length ∧ (Kd.int .u8).C W A xs.length (bys xs)
theorem BR.below {W W1 : World} {base : Nat} {v : Value} {xs : List UInt8} (h : BR W base v xs) (hb : Below W.heap.size W W1) : BR W1 base v xs := by
 rcases h with h | ⟨A, e, h⟩
 ·exact .inl (Kd.R_below h hb)
 ·exact .inr ⟨A, e, Kd.C_below h hb⟩
section
variable {ops : Array Oper} {rest : List Oper} {o : Oper} {a : Act} {Q : Exit → Act → World → Prop}
end
end
section
open Go Go.RowKit Go.Proofs.YteafilojjdfllaaW.PrintWords Go.Proofs.YteafilojjdfllaaW.PrintLast Go.Proofs.YteafilojjdfllaaW.PrintMore Go.Proofs.Yteafilojjdfllaa.PAll
set_option linter.unusedVariables false
set_option linter.unusedSimpArgs false
end
section
open Go Go.RowKit Go.Proofs.YteafilojjdfllaaW.PrintWords Go.Proofs.YteafilojjdfllaaW.PrintLast Go.Proofs.YteafilojjdfllaaW.PrintMore Go.Proofs.Yteafilojjdfllaa.PAll
set_option linter.unusedVariables false
set_option linter.unusedSimpArgs false
/-- the reader's block -/
def RB (W : World) (g : Nat) (A : Option Addr) (n c : Nat) (i : Int) (b : Bool) : Prop := W.heap[g]? = some (.cells #[.slice A n c, .int .i64 i, .bool b] 93 (0, 0))
section
variable {W X : World} {g : Nat} {A : Option Addr} {n c : Nat} {i : Int} {b : Bool}
theorem RB.c0 (h : RB W g A n c i b) : W.cell? ⟨g, 0, none⟩ = some (.slice A n c) := (blk_cell h 0).trans rfl
theorem RB.c1 (h : RB W g A n c i b) : W.cell? ⟨g, 1, none⟩ = some (.int .i64 i) := (blk_cell h 1).trans rfl
theorem RB.c2 (h : RB W g A n c i b) : W.cell? ⟨g, 2, none⟩ = some (.bool b) := (blk_cell h 2).trans rfl
theorem RB.z1 (h : RB W g A n c i b) : W.frozen? ⟨g, 1, none⟩ = false := blk_frozen h 1
theorem RB.z2 (h : RB W g A n c i b) : W.frozen? ⟨g, 2, none⟩ = false := blk_frozen h 2
theorem RB.lt (h : RB W g A n c i b) : g < W.heap.size := (Array.getElem?_eq_some_iff.1 h).1
theorem RB.set1 (h : RB W g A n c i b) (j : Int) : RB (W.setCell ⟨g, 1, none⟩ (.int .i64 j)) g A n c j b := by simpa [RB] using blk_set h 1 (.int .i64 j)
theorem RB.set2 (h : RB W g A n c i b) (d : Bool) : RB (W.setCell ⟨g, 2, none⟩ (.bool d)) g A n c i d := by simpa [RB] using blk_set h 2 (.bool d)
theorem RB.below (h : RB W g A n c i b) (hb : Below W.heap.size W X) : RB X g A n c i b := (hb.block g h.lt).trans h
end
end
section
open Go Go.RowKit Go.Proofs.YteafilojjdfllaaW.PrintWords Go.Proofs.YteafilojjdfllaaW.PrintLast Go.Proofs.YteafilojjdfllaaW.PrintMore Go.Proofs.Yteafilojjdfllaa.PAll
set_option linter.unusedVariables false
set_option linter.unusedSimpArgs false
end
end Go.Proofs.Yteafilojjdfllaa
end
section
namespace Go.Proofs.Yteafilojjdfllaa
open Go Go.RowKit Go.Proofs.YteafilojjdfllaaW.PrintWords Go.Proofs.YteafilojjdfllaaW.PrintLast Go.Proofs.YteafilojjdfllaaW.PrintMore Go.Proofs.Yteafilojjdfllaa.PAll
set_option linter.unusedVariables false
set_option linter.unusedSimpArgs false
/-- what is thrown -/
def badP : List PanicEntry := [{ v := .iface 198 (.agg #[]), recovered := false }]
/-- the reader's block -/
def RD (W : World) (g : Nat) (A : Option Addr) (n c : Nat) (i k : Int) : Prop := W.heap[g]? = some (.cells #[.slice A n c, .int .i64 i, .int .i64 k] 164 (0, 0))
section
variable {W X : World} {g : Nat} {A : Option Addr} {n c : Nat} {i k : Int}
theorem RD.c0 (h : RD W g A n c i k) : W.cell? ⟨g, 0, none⟩ = some (.slice A n c) := (blk_cell h 0).trans rfl
theorem RD.c1 (h : RD W g A n c i k) : W.cell? ⟨g, 1, none⟩ = some (.int .i64 i) := (blk_cell h 1).trans rfl
theorem RD.c2 (h : RD W g A n c i k) : W.cell? ⟨g, 2, none⟩ = some (.int .i64 k) := (blk_cell h 2).trans rfl
theorem RD.z1 (h : RD W g A n c i k) : W.frozen? ⟨g, 1, none⟩ = false := blk_frozen h 1
theorem RD.z2 (h : RD W g A n c i k) : W.frozen? ⟨g, 2, none⟩ = false := blk_frozen h 2
theorem RD.lt (h : RD W g A n c i k) : g < W.heap.size := (Array.getElem?_eq_some_iff.1 h).1
theorem RD.set1 (h : RD W g A n c i k) (j : Int) : RD (W.setCell ⟨g, 1, none⟩ (.int .i64 j)) g A n c j k := by simpa [RD] using blk_set h 1 (.int .i64 j)
theorem RD.set2 (h : RD W g A n c i k) (j : Int) : RD (W.setCell ⟨g, 2, none⟩ (.int .i64 j)) g A n c i j := by simpa [RD] using blk_set h 2 (.int .i64 j)
theorem RD.below (h : RD W g A n c i k) (hb : Below W.heap.size W X) : RD X g A n c i k := (hb.block g h.lt).trans h
end
/-- how a part of the reader ends: it threw, or it hands back v and stands behind it -/
def RDPost (w0 w : World) (g : Nat) (A : Option Addr) (n c : Nat) (k : Int) (Q : Option (Value × List UInt8)) (e : Ending) (w' : World) : Prop :=
 Below w0.heap.size w0 w' ∧ KeepBut w w' g none ∧
  ((Q = none ∧ e = .panicked badP) ∨ ∃ v r, Q = some (v, r) ∧ e = .returned v ∧ RD w' g A n c ((n : Int) - (r.length : Nat)) k)
end Go.Proofs.Yteafilojjdfllaa
end
section
namespace Go.Proofs.Yteafilojjdfllaa
open Go Go.RowKit Go.Proofs.YteafilojjdfllaaW.PrintWords Go.Proofs.YteafilojjdfllaaW.PrintLast Go.Proofs.YteafilojjdfllaaW.PrintMore Go.Proofs.Yteafilojjdfllaa.PAll
set_option linter.unusedVariables false
set_option linter.unusedSimpArgs false
/-- the parser's block -/
def PB (W : World) (g : Nat) (s : ByteArray) (i : Nat) (l : Int) : Prop := W.heap[g]? = some (.cells #[.string s, .int .i64 (i : Int), .int .i64 l] 172 (0, 0))
section
variable {W X : World} {g : Nat} {s : ByteArray} {i : Nat} {l : Int}
theorem PB.c0 (h : PB W g s i l) : W.cell? ⟨g, 0, none⟩ = some (.string s) := (blk_cell h 0).trans rfl
theorem PB.c1 (h : PB W g s i l) : W.cell? ⟨g, 1, none⟩ = some (.int .i64 (i : Int)) := (blk_cell h 1).trans rfl
theorem PB.c2 (h : PB W g s i l) : W.cell? ⟨g, 2, none⟩ = some (.int .i64 l) := (blk_cell h 2).trans rfl
theorem PB.z1 (h : PB W g s i l) : W.frozen? ⟨g, 1, none⟩ = false := blk_frozen h 1
theorem PB.z2 (h : PB W g s i l) : W.frozen? ⟨g, 2, none⟩ = false := blk_frozen h 2
theorem PB.lt (h : PB W g s i l) : g < W.heap.size := (Array.getElem?_eq_some_iff.1 h).1
theorem PB.set1 (h : PB W g s i l) (j : Nat) : PB (W.setCell ⟨g, 1, none⟩ (.int .i64 (j : Int))) g s j l := by simpa [PB] using blk_set h 1 (.int .i64 (j : Int))
theorem PB.set2 (h : PB W g s i l) (c : Int) : PB (W.setCell ⟨g, 2, none⟩ (.int .i64 c)) g s i c := by simpa [PB] using blk_set h 2 (.int .i64 c)
theorem PB.below (h : PB W g s i l) (hb : Below W.heap.size W X) : PB X g s i l := (hb.block g h.lt).trans h
end
/-- how a step of the parser ends -/
def PPost (w0 w : World) (g : Nat) (s : ByteArray) (i : Nat) (l : Int) (v : Value) (e : Ending) (w' : World) : Prop :=
 e = .returned v ∧ Below w0.heap.size w0 w' ∧ KeepBut w w' g none ∧ PB w' g s i l
theorem pref158 (w : World) (t v : ByteArray) (b : Bool) (hb : prefB t v = b) : Calls Try.prog 158 #[.string t, .string v] w fun e w' => e = .returned (.bool b) ∧ Below w.heap.size w w' := by
 refine (strings_HasPrefix.calls t v b w (by rw [prefix_val, hb])).mono ?_
 rintro e w' ⟨rfl, h⟩
 refine ⟨rfl, ?_⟩
 obtain ⟨m, rfl⟩ := h
 exact pw_below_drewN (Below.refl _ _) _
noncomputable def tabR174_1 : Bool × List (List Nat × List Nat) := rtab .any (opsOf Try.f174 1)
theorem tabR174_1_eq : rtab .any (opsOf Try.f174 1) = tabR174_1 := rfl
set_option maxRecDepth 100000 in
set_option maxHeartbeats 16000000 in
/-- takes. -/
theorem takes174 (w0 w : World) (g : Nat) (s : ByteArray) (i : Nat) (l : Int) (x : ByteArray) (b : Bool) (hi : i ≤ s.size) (hs : s.size ≤ 1000000000) (hx : x.size ≤ 2) (hb : prefB (s.extract i s.size) x = b) (hg : w0.heap.size ≤ g) (hB : Below w0.heap.size w0 w) (hP : PB w g s i l) :
  Calls Try.prog 174 #[.pointer (some ⟨g, 0, none⟩), .string x] w (PPost w0 w g s (if b = true then i + x.size else i) l (.bool b)) := by
 have HP := Lib.hid hP
 have HB := Lib.hid hB
 have HX := Lib.hid hb
 obtain ⟨J, eJ⟩ : ∃ J, (if b = true then i + x.size else i) = J := ⟨_, rfl⟩
 rw [eJ]
 have HJ := Lib.hid eJ
 clear eJ
 have f0 := fun W (hb : Below w.heap.size w W) => pw_cell_below hb HP.out.c0
 have f1 := fun W (hb : Below w.heap.size w W) => pw_cell_below hb HP.out.c1
 have hiI : (i : Int) ≤ (s.size : Int) := by omega
 clear hP hB hb
 go_enter Try.func174, Try.ntmps174
 go_wp2_with fail
 refine start_ (n := 12) (S := fun W => Below w.heap.size w W) (ds := []) (msk 12 [0, 1, 2, 4, 5, 6, 9, 3, 7, 8, 10, 11] 0).toArray (by kernel_rfl) rfl rfl (below_drew (Below.refl _ _)) (fun hHeld => ?_)
 refine with_tab (T := tabR174_1) tabR174_1_eq (fun HT_ => ?_)
 iterate 10 (first | (refine pureO HT_.out (N := some _) (v := ?_) (a' := ?_) rfl rfl (by kernel_rfl) (fun _ _ _ h => h) (Or.inl ⟨by rfl, ?_⟩) ?_ ?_; rotate_left; intro w'; go_simp; (with_reducible rfl); rotate_left; simp only [Act.put, List.setIfInBounds_toArray, List.set_cons_zero, List.set_cons_succ, i64_w, i32_w]; rfl) | (refine takeO HT_.out (N := some _) (v := ?_) (a' := ?_) rfl rfl (by kernel_rfl) (fun _ _ _ h => h) (Or.inl ⟨by rfl, ?_⟩) hHeld ?_ ?_; rotate_left; intro w' hh; have q0 := f0 w' hh; have q1 := f1 w' hh; go_simp; (with_reducible rfl); rotate_left; simp only [Act.put, List.setIfInBounds_toArray, List.set_cons_zero, List.set_cons_succ, i64_w, i32_w]; rfl))
 refine oneO (i := 10) (N := some 15) HT_.out rfl rfl (by kernel_rfl) (by decide) (fun K_ hK_ => ?_)
 refine goes_ Try.func158 (by kernel_rfl) rfl #[.string (s.extract i s.size), .string x] (by rfl) rfl rfl (by (try simp only [List.map_toArray, List.map_cons, List.map_nil]); first | done | rfl) ?_
 (with_reducible refine (pref158 _ _ x b HX.out).mono ?_)
 rintro e w9 ⟨rfl, hb9⟩
 refine ⟨_, rfl, ?_⟩
 refine hK_.out _ _ (below_step hHeld hb9) (fun hHeld => ?_)
 clear hK_ K_
 try simp only [Act.put, List.setIfInBounds_toArray, List.set_cons_zero, List.set_cons_succ]
 (refine pureO HT_.out (N := some _) (v := ?_) (a' := ?_) rfl rfl (by kernel_rfl) (fun _ _ _ h => h) (Or.inl ⟨by rfl, ?_⟩) ?_ ?_; rotate_left; intro w'; go_simp; (with_reducible rfl); rotate_left; simp only [Act.put, List.setIfInBounds_toArray, List.set_cons_zero, List.set_cons_succ, i64_w, i32_w]; rfl)
 refine done_ (done_of HT_.out (by kernel_rfl)) ?_
 have HP1 := Lib.hid (HP.out.below hHeld)
 have HB1 := Lib.hid (below_step HB.out hHeld)
 have HK1 := Lib.hid (KeepBut.of_below hHeld g none)
 clear f0 f1
 cases b with
 | false =>
  have eJ : J = i := HJ.out.symm
  subst eJ
  go_wp2
  go_ret
  exact ⟨rfl, HB1.out, HK1.out, HP1.out⟩
 | true =>
  have eJ : J = i + x.size := HJ.out.symm
  subst eJ
  have f1 := HP1.out.c1
  have f2 := HP1.out.z1
  have HP2 := Lib.hid (HP1.out.set1 (i + x.size))
  have HB2 := Lib.hid (HB1.out.setCell (p := ⟨g, 1, none⟩) hg (.int .i64 ((i + x.size : Nat) : Int)))
  have HK2 := Lib.hid (HK1.out.set_ 1 (.int .i64 ((i + x.size : Nat) : Int)))
  go_wp2
  go_ret
  exact ⟨rfl, HB2.out, HK2.out, HP2.out⟩
set_option maxRecDepth 100000 in
set_option maxHeartbeats 16000000 in
/-- must. -/
theorem must187 (w0 w : World) (g : Nat) (s : ByteArray) (i : Nat) (l : Int) (x : ByteArray) (b : Bool) (hi : i ≤ s.size) (hs : s.size ≤ 1000000000) (hx : x.size ≤ 2) (hb : prefB (s.extract i s.size) x = b) (hg : w0.heap.size ≤ g) (hB : Below w0.heap.size w0 w) (hP : PB w g s i l) :
  Calls Try.prog 187 #[.pointer (some ⟨g, 0, none⟩), .string x] w fun e w' => Below w0.heap.size w0 w' ∧ KeepBut w w' g none ∧ ((b = false ∧ e = .panicked badP) ∨ (b = true ∧ e = .returned (.tuple #[]) ∧ PB w' g s (i + x.size) l)) := by
 have H1 := Lib.hid (takes174 w0 w g s i l x b hi hs hx hb hg hB hP)
 clear hb hB hP
 go_enter Try.func187, Try.ntmps187
 go_wp2_with fail
 (with_reducible refine H1.out.mono ?_)
 rintro e w1 ⟨rfl, hb1, hk1, hp1⟩
 have HR := Lib.hid (And.intro hb1 (And.intro hk1 hp1))
 clear hb1 hk1 hp1 H1
 cases b with
 | false =>
  go_wp2
  exact ⟨rfl, HR.out.1, HR.out.2.1, rfl⟩
 | true =>
  go_wp2
  refine ⟨rfl, .tuple #[], results_none rfl _ _ _, HR.out.1, HR.out.2.1, rfl, ?_⟩
  have h := HR.out.2.2
  rwa [if_pos trivial] at h
end Go.Proofs.Yteafilojjdfllaa
end
section
namespace Go.Proofs.Yteafilojjdfllaa
open Go Go.RowKit Go.Proofs.YteafilojjdfllaaW.PrintWords Go.Proofs.YteafilojjdfllaaW.PrintLast Go.Proofs.YteafilojjdfllaaW.PrintMore Go.Proofs.Yteafilojjdfllaa.PAll
set_option linter.unusedVariables false
set_option linter.unusedSimpArgs false
noncomputable def tabR189_1 : Bool × List (List Nat × List Nat) := rtab .any (opsOf Try.f189 1)
theorem tabR189_1_eq : rtab .any (opsOf Try.f189 1) = tabR189_1 := rfl
set_option maxRecDepth 100000 in
set_option maxHeartbeats 16000000 in
/-- value. -/
theorem value189n (w0 w : World) (g : Nat) (s : ByteArray) (i : Nat) (l : Int) (hq : valW stepP (s.data.toList.drop i) = none) (hi : i ≤ s.size) (hs : s.size ≤ 1000000000) (hg : w0.heap.size ≤ g) (hB : Below w0.heap.size w0 w) (hP : PB w g s i l) :
  Calls Try.prog 189 #[.pointer (some ⟨g, 0, none⟩)] w fun e w' => Below w0.heap.size w0 w' ∧ KeepBut w w' g none ∧ e = .panicked badP := by
 have HP := Lib.hid hP
 have HB := Lib.hid hB
 have HU : Hid (∀ W, Calls Try.prog 132 #[.string s, .int .i64 (i : Int)] W fun e w' => e = .returned (.tuple #[.string ⟨#[]⟩, .int .i64 0, .bool false]) ∧ Below W.heap.size W w') := Lib.hid (fun W => by
  have h := unq132 W s i hi hs
  rw [hq] at h
  skip
  exact h)
 have f0 := fun W (hb : Below w.heap.size w W) => pw_cell_below hb HP.out.c0
 have f1 := fun W (hb : Below w.heap.size w W) => pw_cell_below hb HP.out.c1
 clear hP hB
 go_enter Try.func189, Try.ntmps189
 go_wp2_with fail
 refine start_ (n := 16) (S := fun W => Below w.heap.size w W) (ds := []) (msk 16 [0, 1, 2, 4, 5, 6, 3, 7, 8, 9, 10, 11, 12, 13, 14, 15] 0).toArray (by kernel_rfl) rfl rfl (below_drew (Below.refl _ _)) (fun hHeld => ?_)
 refine with_tab (T := tabR189_1) tabR189_1_eq (fun HT_ => ?_)
 iterate 8 (first | (refine pureO HT_.out (N := some _) (v := ?_) (a' := ?_) rfl rfl (by kernel_rfl) (fun _ _ _ h => h) (Or.inl ⟨by rfl, ?_⟩) ?_ ?_; rotate_left; intro w'; go_simp; (with_reducible rfl); rotate_left; simp only [Act.put, List.setIfInBounds_toArray, List.set_cons_zero, List.set_cons_succ, i64_w, i32_w]; rfl) | (refine takeO HT_.out (N := some _) (v := ?_) (a' := ?_) rfl rfl (by kernel_rfl) (fun _ _ _ h => h) (Or.inl ⟨by rfl, ?_⟩) hHeld ?_ ?_; rotate_left; intro w' hh; have q0 := f0 w' hh; have q1 := f1 w' hh; go_simp; (with_reducible rfl); rotate_left; simp only [Act.put, List.setIfInBounds_toArray, List.set_cons_zero, List.set_cons_succ, i64_w, i32_w]; rfl))
 refine oneO (i := 8) (N := some 15) HT_.out rfl rfl (by kernel_rfl) (by decide) (fun K_ hK_ => ?_)
 refine goes_ Try.func132 (by kernel_rfl) rfl #[.string s, .int .i64 (i : Int)] (by rfl) rfl rfl (by (try simp only [List.map_toArray, List.map_cons, List.map_nil]); first | done | rfl) ?_
 (with_reducible refine (HU.out _).mono ?_)
 rintro e w9 ⟨rfl, hb9⟩
 refine ⟨_, rfl, ?_⟩
 refine hK_.out _ _ (below_step hHeld hb9) (fun hHeld => ?_)
 clear hK_ K_
 try simp only [Act.put, List.setIfInBounds_toArray, List.set_cons_zero, List.set_cons_succ]
 iterate 7 (refine pureO HT_.out (N := some _) (v := ?_) (a' := ?_) rfl rfl (by kernel_rfl) (fun _ _ _ h => h) (Or.inl ⟨by rfl, ?_⟩) ?_ ?_; rotate_left; intro w'; go_simp; (with_reducible rfl); rotate_left; simp only [Act.put, List.setIfInBounds_toArray, List.set_cons_zero, List.set_cons_succ, i64_w, i32_w]; rfl)
 refine done_ (done_of HT_.out (by kernel_rfl)) ?_
 have HP1 := Lib.hid (HP.out.below hHeld)
 have HB1 := Lib.hid (below_step HB.out hHeld)
 have HK1 := Lib.hid (KeepBut.of_below hHeld g none)
 clear f0 f1
 go_wp2
 exact ⟨rfl, HB1.out, HK1.out, rfl⟩
set_option maxRecDepth 100000 in
set_option maxHeartbeats 16000000 in
/-- value. -/
theorem value189y (w0 w : World) (g : Nat) (s : ByteArray) (i : Nat) (l : Int) (v r : List UInt8) (j : Nat) (hq : valW stepP (s.data.toList.drop i) = some (v, r)) (hj : (s.size : Int) - (r.length : Nat) = (j : Int)) (hi : i ≤ s.size) (hs : s.size ≤ 1000000000) (hg : w0.heap.size ≤ g) (hB : Below w0.heap.size w0 w) (hP : PB w g s i l) :
  Calls Try.prog 189 #[.pointer (some ⟨g, 0, none⟩)] w fun e w' => Below w0.heap.size w0 w' ∧ KeepBut w w' g none ∧ e = .returned (.string ⟨v.toArray⟩) ∧ PB w' g s j l := by
 have HP := Lib.hid hP
 have HB := Lib.hid hB
 have HU : Hid (∀ W, Calls Try.prog 132 #[.string s, .int .i64 (i : Int)] W fun e w' => e = .returned (.tuple #[.string ⟨v.toArray⟩, .int .i64 (j : Int), .bool true]) ∧ Below W.heap.size W w') := Lib.hid (fun W => by
  have h := unq132 W s i hi hs
  rw [hq] at h
  rw [← hj]
  exact h)
 have f0 := fun W (hb : Below w.heap.size w W) => pw_cell_below hb HP.out.c0
 have f1 := fun W (hb : Below w.heap.size w W) => pw_cell_below hb HP.out.c1
 clear hP hB
 go_enter Try.func189, Try.ntmps189
 go_wp2_with fail
 refine start_ (n := 16) (S := fun W => Below w.heap.size w W) (ds := []) (msk 16 [0, 1, 2, 4, 5, 6, 3, 7, 8, 9, 10, 11, 12, 13, 14, 15] 0).toArray (by kernel_rfl) rfl rfl (below_drew (Below.refl _ _)) (fun hHeld => ?_)
 refine with_tab (T := tabR189_1) tabR189_1_eq (fun HT_ => ?_)
 iterate 8 (first | (refine pureO HT_.out (N := some _) (v := ?_) (a' := ?_) rfl rfl (by kernel_rfl) (fun _ _ _ h => h) (Or.inl ⟨by rfl, ?_⟩) ?_ ?_; rotate_left; intro w'; go_simp; (with_reducible rfl); rotate_left; simp only [Act.put, List.setIfInBounds_toArray, List.set_cons_zero, List.set_cons_succ, i64_w, i32_w]; rfl) | (refine takeO HT_.out (N := some _) (v := ?_) (a' := ?_) rfl rfl (by kernel_rfl) (fun _ _ _ h => h) (Or.inl ⟨by rfl, ?_⟩) hHeld ?_ ?_; rotate_left; intro w' hh; have q0 := f0 w' hh; have q1 := f1 w' hh; go_simp; (with_reducible rfl); rotate_left; simp only [Act.put, List.setIfInBounds_toArray, List.set_cons_zero, List.set_cons_succ, i64_w, i32_w]; rfl))
 refine oneO (i := 8) (N := some 15) HT_.out rfl rfl (by kernel_rfl) (by decide) (fun K_ hK_ => ?_)
 refine goes_ Try.func132 (by kernel_rfl) rfl #[.string s, .int .i64 (i : Int)] (by rfl) rfl rfl (by (try simp only [List.map_toArray, List.map_cons, List.map_nil]); first | done | rfl) ?_
 (with_reducible refine (HU.out _).mono ?_)
 rintro e w9 ⟨rfl, hb9⟩
 refine ⟨_, rfl, ?_⟩
 refine hK_.out _ _ (below_step hHeld hb9) (fun hHeld => ?_)
 clear hK_ K_
 try simp only [Act.put, List.setIfInBounds_toArray, List.set_cons_zero, List.set_cons_succ]
 iterate 7 (refine pureO HT_.out (N := some _) (v := ?_) (a' := ?_) rfl rfl (by kernel_rfl) (fun _ _ _ h => h) (Or.inl ⟨by rfl, ?_⟩) ?_ ?_; rotate_left; intro w'; go_simp; (with_reducible rfl); rotate_left; simp only [Act.put, List.setIfInBounds_toArray, List.set_cons_zero, List.set_cons_succ, i64_w, i32_w]; rfl)
 refine done_ (done_of HT_.out (by kernel_rfl)) ?_
 have HP1 := Lib.hid (HP.out.below hHeld)
 have HB1 := Lib.hid (below_step HB.out hHeld)
 have HK1 := Lib.hid (KeepBut.of_below hHeld g none)
 clear f0 f1
 have f2 := HP1.out.z1
 have f1 := HP1.out.c1
 have HP2 := Lib.hid (HP1.out.set1 j)
 have HB2 := Lib.hid (HB1.out.setCell (p := ⟨g, 1, none⟩) hg (.int .i64 ((j : Nat) : Int)))
 have HK2 := Lib.hid (HK1.out.set_ 1 (.int .i64 ((j : Nat) : Int)))
 go_wp2
 go_ret
 exact ⟨HB2.out, HK2.out, rfl, HP2.out⟩
end Go.Proofs.Yteafilojjdfllaa
end
section
namespace Go.Proofs.Yteafilojjdfllaa
open Go Go.RowKit Go.Proofs.YteafilojjdfllaaW.PrintWords Go.Proofs.YteafilojjdfllaaW.PrintLast Go.Proofs.YteafilojjdfllaaW.PrintMore Go.Proofs.Yteafilojjdfllaa.PAll
def bareB (m : S25) (one many kids : Bool) : Bool := decide ((one = true ∨ m.f2.toList = []) ∧ (one = true ∨ many = true ∨ m.f1.toList = []) ∧ (many = true ∨ m.f3.length = 0) ∧ (kids = true ∨ m.f4.length = 0))
theorem bare.val (m : S25) (x y z : Bool) : varveref12_bare.f m.f0 m.f1 m.f2 m.f3 m.f4 x y z = some (bareB m x y z) := by
 have hz : ∀ t : Nat, (((t : Int) == 0) : Bool) = decide (t = 0) := fun t => by rw [Bool.eq_iff_iff]; simp only [beq_iff_eq, decide_eq_true_eq]; omega
 have hc : ∀ t : Nat, ((t : Int) = 0) = (t = 0) := fun t => by apply propext; omega
 unfold varveref12_bare.f bareB
 simp only [hz, hc]
 cases x <;> cases y <;> cases z <;> by_cases h1 : m.f1.toList = [] <;> by_cases h2 : m.f2.toList = [] <;> by_cases h3 : m.f3.length = 0 <;> by_cases h4 : m.f4.length = 0 <;> simp [h1, h2, h3, h4]
/-- the matcher's own box -/
def BoxM (X : World) (p : Nat) (op : Int) (t1 t2 : ByteArray) (s3 s4 : Value) : Prop := X.heap[p]? = some (.cells #[.int .i64 op, .string t1, .string t2, s3, s4] 25 (0, 0))
section
variable {X Y : World} {p : Nat} {op : Int} {t1 t2 : ByteArray} {s3 s4 : Value}
theorem BoxM.lt (h : BoxM X p op t1 t2 s3 s4) : p < X.heap.size := (Array.getElem?_eq_some_iff.1 h).1
theorem BoxM.below (h : BoxM X p op t1 t2 s3 s4) (hb : Below X.heap.size X Y) : BoxM Y p op t1 t2 s3 s4 := (hb.block p h.lt).trans h
theorem BoxM.keep (h : BoxM X p op t1 t2 s3 s4) {g : Nat} (hk : KeepBut X Y g none) (hne : p ≠ g) : BoxM Y p op t1 t2 s3 s4 := (hk.2 p h.lt hne (by simp)).trans h
theorem BoxM.set (h : BoxM X p op t1 t2 s3 s4) {g j : Nat} (hne : p ≠ g) (u : Value) : BoxM (X.setCell ⟨g, j, none⟩ u) p op t1 t2 s3 s4 := (Below.heap_setCell _ _ _ p (by simpa using hne)).trans h
theorem BoxM.c0 (h : BoxM X p op t1 t2 s3 s4) : X.cell? ⟨p, 0, none⟩ = some (.int .i64 op) := (blk_cell h 0).trans rfl
theorem BoxM.c1 (h : BoxM X p op t1 t2 s3 s4) : X.cell? ⟨p, 1, none⟩ = some (.string t1) := (blk_cell h 1).trans rfl
theorem BoxM.c2 (h : BoxM X p op t1 t2 s3 s4) : X.cell? ⟨p, 2, none⟩ = some (.string t2) := (blk_cell h 2).trans rfl
theorem BoxM.c3 (h : BoxM X p op t1 t2 s3 s4) : X.cell? ⟨p, 3, none⟩ = some s3 := (blk_cell h 3).trans rfl
theorem BoxM.c4 (h : BoxM X p op t1 t2 s3 s4) : X.cell? ⟨p, 4, none⟩ = some s4 := (blk_cell h 4).trans rfl
end
end Go.Proofs.Yteafilojjdfllaa
end
section
namespace Go.Proofs.Yteafilojjdfllaa
open Go Go.RowKit Go.Proofs.YteafilojjdfllaaW.PrintWords Go.Proofs.YteafilojjdfllaaW.PrintLast Go.Proofs.YteafilojjdfllaaW.PrintMore Go.Proofs.Yteafilojjdfllaa.PAll
def Cnt (W : World) (g : Nat) (n : Int) : Prop := W.heap[g]? = some (.cells #[.int .i64 n] 3 (0, 0))
theorem Cnt.c {W : World} {g : Nat} {n : Int} (h : Cnt W g n) : W.cell? ⟨g, 0, none⟩ = some (.int .i64 n) := (blk_cell h 0).trans rfl
theorem Cnt.z {W : World} {g : Nat} {n : Int} (h : Cnt W g n) : W.frozen? ⟨g, 0, none⟩ = false := blk_frozen h 0
theorem Cnt.lt {W : World} {g : Nat} {n : Int} (h : Cnt W g n) : g < W.heap.size := (Array.getElem?_eq_some_iff.1 h).1
theorem Cnt.set {W : World} {g : Nat} {n : Int} (h : Cnt W g n) (x : Int) : Cnt (W.setCell ⟨g, 0, none⟩ (.int .i64 x)) g x := by simpa [Cnt] using blk_set h 0 (.int .i64 x)
theorem Cnt.below {W X : World} {g : Nat} {n : Int} (h : Cnt W g n) (hb : Below W.heap.size W X) : Cnt X g n := (hb.block g h.lt).trans h
theorem Cnt.alloc {W : World} {g : Nat} {n : Int} (h : Cnt W g n) (o : Obj) : Cnt (W.alloc o) g n := h.below (below_alloc (Below.refl _ _) o)
end Go.Proofs.Yteafilojjdfllaa
end
section
namespace Go.Proofs.Yteafilojjdfllaa
open Go Go.RowKit Go.Proofs.YteafilojjdfllaaW.PrintWords Go.Proofs.YteafilojjdfllaaW.PrintLast Go.Proofs.YteafilojjdfllaaW.PrintMore Go.Proofs.Yteafilojjdfllaa.PAll
theorem infoM : (Try.prog.info? 25).map (fun i => (i.zero, i.size, i.bytes)) = some (some (.agg #[.int .i64 0, .string ⟨#[]⟩, .string ⟨#[]⟩, .slice none 0 0, .slice none 0 0]), 5, 88) := by kernel_rfl
theorem infoS : (Try.prog.info? 9).map (fun i => (i.zero, i.size, i.bytes)) = some (some (.string ByteArray.empty), 1, 16) := by kernel_rfl
theorem own_move {W X : World} {base : Nat} {e : TypeId} {size n : Nat} {v : Value} {xs : List Value} (h : W.ownsRow base e size v n xs) (hm : ∀ k, v.ownBlock = some k → X.heap[k]? = W.heap[k]?) : X.ownsRow base e size v n xs := by
 refine ⟨h.1, ?_⟩
 rcases h.2 with hn | ⟨g, cap, cur, e', hb, hg, rest⟩
 ·exact .inl hn
 ·exact .inr ⟨g, cap, cur, e', hb, (hm g (by rw [e']; rfl)).trans hg, rest⟩
/-- it reads so in every world that has these blocks -/
def MF (W : World) (S : Nat → Prop) (m : S25) (A3 : Option Addr) (c3 : Nat) (A4 : Option Addr) (c4 : Nat) : Prop :=
 ∀ X : World, (∀ b, S b → X.heap[b]? = W.heap[b]?) → MC X m A3 c3 A4 c4
theorem MF.now {W : World} {S : Nat → Prop} {m : S25} {A3 : Option Addr} {c3 : Nat} {A4 : Option Addr} {c4 : Nat} (h : MF W S m A3 c3 A4 c4) : MC W m A3 c3 A4 c4 := h W (fun _ _ => rfl)
theorem MF.move {W Y : World} {S T : Nat → Prop} {m : S25} {A3 : Option Addr} {c3 : Nat} {A4 : Option Addr} {c4 : Nat} (h : MF W S m A3 c3 A4 c4) (hS : ∀ b, S b → T b ∧ Y.heap[b]? = W.heap[b]?) : MF Y T m A3 c3 A4 c4 :=
 fun X hX => h X (fun b hb => (hX b (hS b hb).1).trans (hS b hb).2)
/-- a kid's cells in the row -/
def KR (W : World) (S : Nat → Prop) (m : S25) (cs : List Value) : Prop :=
 ∃ A3 c3 A4 c4, cs = [.int .i64 m.f0, .string m.f1, .string m.f2, .slice A3 m.f3.length c3, .slice A4 m.f4.length c4] ∧ MF W S m A3 c3 A4 c4
theorem KR.move {W Y : World} {S T : Nat → Prop} {m : S25} {cs : List Value} (h : KR W S m cs) (hS : ∀ b, S b → T b ∧ Y.heap[b]? = W.heap[b]?) : KR Y T m cs := by
 obtain ⟨A3, c3, A4, c4, e, hm⟩ := h
 exact ⟨A3, c3, A4, c4, e, hm.move hS⟩
/-- the blocks from lo on, but for the row's own -/
def Part (lo : Nat) (W : World) (v : Value) (b : Nat) : Prop := lo ≤ b ∧ b < W.heap.size ∧ v.ownBlock ≠ some b
/-- out of the two rows, the whole -/
theorem MF.of_rows {W : World} {lo lo' : Nat} {m : S25} {v3 v4 : Value} {cells : List Value} (h3 : W.ownsRow lo 9 1 v3 m.f3.length (encs Value.string m.f3)) (h4 : W.ownsRow lo 25 5 v4 m.f4.length cells) (hR : Reps (KR W (Part lo W v4)) 5 m.f4 cells) (hlo : lo' ≤ lo) :
  ∃ A3 c3 A4 c4, v3 = .slice A3 m.f3.length c3 ∧ v4 = .slice A4 m.f4.length c4 ∧ MF W (fun b => lo' ≤ b ∧ b < W.heap.size) m A3 c3 A4 c4 := by
 obtain ⟨A3, c3, e3, hc3, -⟩ := own_reads_of_le (enc := Value.string) (d := ByteArray.empty) h3
 obtain ⟨A4, c4, e4, -⟩ := own_reads_row h4 (hR.imp_ (fun p c (h : KR W (Part lo W v4) p c) => h)) rfl
 have hc4 : m.f4.length ≤ c4 := by
  rcases h4.2 with ⟨hv, h0⟩ | ⟨g, cap, cur, hv, _, _, hcap, _⟩
  ·rw [e4] at hv; omega
  ·rw [e4] at hv; cases hv; exact hcap
 refine ⟨A3, c3, A4, c4, e3, e4, fun X hX => ?_⟩
 have g3 : X.ownsRow lo 9 1 v3 m.f3.length (encs Value.string m.f3) := own_move h3 (fun k hk => hX k ⟨by have := (h3.lt _ hk).1; omega, (h3.lt _ hk).2⟩)
 have g4 : X.ownsRow lo 25 5 v4 m.f4.length cells := own_move h4 (fun k hk => hX k ⟨by have := (h4.lt _ hk).1; omega, (h4.lt _ hk).2⟩)
 obtain ⟨B3, d3, f3, -, hr3⟩ := own_reads_of_le (enc := Value.string) (d := ByteArray.empty) g3
 have hK : Reps (k25.K X) 5 m.f4 cells := hR.imp_ (fun p c ⟨B3, d3, B4, d4, ec, hm⟩ => by
  obtain ⟨q1, q2, q3, q4⟩ := hm X (fun b hb => hX b ⟨by have := hb.1; omega, hb.2.1⟩)
  rw [ec]
  exact k25_mk X p q1 q2 q3 q4)
 obtain ⟨B4, d4, f4, hr4⟩ := own_reads_row g4 hK rfl
 rw [e3] at f3; cases f3
 rw [e4] at f4; cases f4
 exact ⟨hc3, Kd.C_of_reads hr3, hc4, hr4⟩
end Go.Proofs.Yteafilojjdfllaa
end
section
namespace Go.Proofs.Yteafilojjdfllaa
open Go Go.RowKit Go.Proofs.YteafilojjdfllaaW.PrintWords Go.Proofs.YteafilojjdfllaaW.PrintLast Go.Proofs.YteafilojjdfllaaW.PrintMore Go.Proofs.Yteafilojjdfllaa.PAll
end Go.Proofs.Yteafilojjdfllaa
end
section
namespace Go.Proofs.Yteafilojjdfllaa
open Go Go.RowKit Go.Proofs.YteafilojjdfllaaW.PrintWords Go.Proofs.YteafilojjdfllaaW.PrintLast Go.Proofs.YteafilojjdfllaaW.PrintMore Go.Proofs.Yteafilojjdfllaa.PAll
end Go.Proofs.Yteafilojjdfllaa
end
section
namespace Go.Proofs.Yteafilojjdfllaa
open Go Go.RowKit Go.Proofs.YteafilojjdfllaaW.PrintWords Go.Proofs.YteafilojjdfllaaW.PrintLast Go.Proofs.YteafilojjdfllaaW.PrintMore Go.Proofs.Yteafilojjdfllaa.PAll
theorem check53v (w : World) (m : S25) (A3 : Option Addr) (c3 : Nat) (A4 : Option Addr) (c4 : Nat) (v : Bool) (hv : chkB m = v) (hM : MC w m A3 c3 A4 c4) :
  Calls Try.prog 53 #[.agg #[.int .i64 m.f0, .string m.f1, .string m.f2, .slice A3 m.f3.length c3, .slice A4 m.f4.length c4]] w fun e w' => e = .returned (.bool v) ∧ Below w.heap.size w w' := hv ▸ check53 w m A3 c3 A4 c4 hM
/-- does a matcher that may be take these labels? -/
def evalB (l : List S68) (m : S25) : Bool := chkB m && evalM l m
set_option maxRecDepth 100000 in
set_option maxHeartbeats 4000000 in
/-- match.Eval. -/
theorem Eval55 (w : World) (m : S25) (A3 : Option Addr) (c3 : Nat) (A4 : Option Addr) (c4 : Nat) (A1 : Option Addr) (c1 : Nat) (l : List S68) (v : Bool) (hv : evalB l m = v) (h1000 : nodesM m ≤ 1000) (hM : MC w m A3 c3 A4 c4) (hl : l.length ≤ 4000000000000000000) (h1 : l.length ≤ c1) (g1 : Kd.C k68 w A1 l.length l) :
  Calls Try.prog 55 #[.agg #[.int .i64 m.f0, .string m.f1, .string m.f2, .slice A3 m.f3.length c3, .slice A4 m.f4.length c4], .slice A1 l.length c1] w fun e w' => e = .returned (.bool v) ∧ Below w.heap.size w w' := by
 have hB0 : Below w.heap.size w (w.alloc (.cells #[.int .i64 m.f0, .string m.f1, .string m.f2, .slice A3 m.f3.length c3, .slice A4 m.f4.length c4] 25)) := below_alloc (Below.refl _ _) _
 have hX0 : BoxM (w.alloc (.cells #[.int .i64 m.f0, .string m.f1, .string m.f2, .slice A3 m.f3.length c3, .slice A4 m.f4.length c4] 25)) w.heap.size m.f0 m.f1 m.f2 (.slice A3 m.f3.length c3) (.slice A4 m.f4.length c4) := blk_new w _
 unfold evalB at hv
 have G1 := Lib.hid g1
 cases h3 : chkB m with
 | false =>
  rw [h3, Bool.false_and] at hv
  subst hv
  have H3 := Lib.hid h3
  clear h3 g1
  go_enter Try.func55, Try.ntmps55
  go_wp2_with fail
  (with_reducible refine (check53v _ m A3 c3 A4 c4 false H3.out (hM.below hB0)).mono ?_)
  rintro e w1 ⟨rfl, hb1⟩
  go_wp2_with fail
  go_ret
  exact ⟨rfl, below_step hB0 hb1⟩
 | true =>
  rw [h3, Bool.true_and] at hv
  have Hok := Lib.hid (chk_def.1 h3).1
  obtain ⟨m1, m2, m3, m4⟩ := hM.below hB0
  have H3 := Lib.hid h3
  have Hv := Lib.hid hv
  clear h3 g1 hv
  go_enter Try.func55, Try.ntmps55
  go_wp2_with fail
  (with_reducible refine (check53v _ m A3 c3 A4 c4 true H3.out (hM.below hB0)).mono ?_)
  rintro e w1 ⟨rfl, hb1⟩
  have hX1 := hX0.below hb1
  have x0 := hX1.c0
  have x1 := hX1.c1
  have x2 := hX1.c2
  have x3 := hX1.c3
  have x4 := hX1.c4
  have hB1 := below_step hB0 hb1
  go_wp2_with fail
  (with_reducible refine (eval108 _ m A3 c3 A4 c4 A1 c1 l v Hv.out h1000 Hok.out hl m1 (Kd.C_below m2 hb1) m3 (Kd.C_below m4 hb1) h1 (Kd.C_below G1.out hB1)).mono ?_)
  rintro e w2 ⟨rfl, hb2⟩
  go_wp2_with fail
  go_ret
  exact ⟨rfl, below_step hB1 hb2⟩
end Go.Proofs.Yteafilojjdfllaa
end
section
namespace Go.Proofs.Yteafilojjdfllaa
open Go Go.RowKit Go.Proofs.YteafilojjdfllaaW.PrintWords Go.Proofs.YteafilojjdfllaaW.PrintLast Go.Proofs.YteafilojjdfllaaW.PrintMore Go.Proofs.Yteafilojjdfllaa.PAll
set_option linter.unusedVariables false
set_option linter.unusedSimpArgs false
theorem assert198 (w : World) : (Instr.typeAssert (.iface 198 (.agg #[])) 20 198 true).run Try.prog w = .ok (.tuple #[.agg #[], .bool true]) w := by kernel_rfl
theorem tmps171 (p q x y : Value) : (#[p, q] ++ ((Array.replicate 15 undef).setIfInBounds 3 x).setIfInBounds 0 y) = #[p, q, y, undef, undef, x, undef, undef, undef, undef, undef, undef, undef, undef, undef, undef, undef] := rfl
abbrev Z5 : Array Value := #[.int .i64 0, .string ⟨#[]⟩, .string ⟨#[]⟩, .slice none 0 0, .slice none 0 0]
set_option maxRecDepth 100000 in
set_option maxHeartbeats 16000000 in
/-- it caught: no matcher, not well. -/
theorem catch171 (w0 : World) (g1 g2 : Nat) (a0 a1 a2 a3 a4 : Value) (b : Value) (older : List PanicEntry) (w : World) (hB : Below w0.heap.size w0 w) (hg1 : w0.heap.size ≤ g1) (hg2 : w0.heap.size ≤ g2) (h1 : w.heap[g1]? = some (.cells #[a0, a1, a2, a3, a4] 25 (0, 0))) (h2 : w.heap[g2]? = some (.cells #[b] 4 (0, 0))) (hne : g1 ≠ g2) :
  CallsD Try.prog 171 #[.pointer (some ⟨g1, 0, none⟩), .pointer (some ⟨g2, 0, none⟩)] (.panicking ({ v := .iface 198 (.agg #[]), recovered := false } :: older)) w fun e u' w' =>
   e = .returned (.tuple #[]) ∧ u' = .panicking ({ v := .iface 198 (.agg #[]), recovered := true } :: older) ∧ Below w0.heap.size w0 w' ∧ w'.heap[g1]? = some (.cells Z5 25 (0, 0)) ∧ w'.heap[g2]? = some (.cells #[.bool false] 4 (0, 0)) ∧ (w.heap.size ≤ w'.heap.size ∧ ∀ i, i < w.heap.size → i ≠ g1 → i ≠ g2 → w'.heap[i]? = w.heap[i]?) := by
 have hta := assert198 w
 have hl1 := (Array.getElem?_eq_some_iff.1 h1).1
 have hl2 := (Array.getElem?_eq_some_iff.1 h2).1
 have k1 : (w.alloc (.cells #[] 198)).heap[g1]? = some (.cells #[a0, a1, a2, a3, a4] 25 (0, 0)) := (Below.heap_alloc _ _ _ (by omega)).trans h1
 have k2 : (w.alloc (.cells #[] 198)).heap[g2]? = some (.cells #[b] 4 (0, 0)) := (Below.heap_alloc _ _ _ (by omega)).trans h2
 have HB := Lib.hid (below_alloc hB (.cells #[] 198))
 have K1 := Lib.hid k1
 have K2 := Lib.hid k2
 have y0 := blk_cell k1 0
 have y1 := blk_cell k1 1
 have y2 := blk_cell k1 2
 have y3 := blk_cell k1 3
 have y4 := blk_cell k1 4
 have z0 := blk_frozen k1 0
 have z1 := blk_frozen k1 1
 have z2 := blk_frozen k1 2
 have z3 := blk_frozen k1 3
 have z4 := blk_frozen k1 4
 have x0 := blk_cell k2 0
 have v0 := blk_frozen k2 0
 simp only [List.getElem?_toArray, List.getElem?_cons_zero, List.getElem?_cons_succ] at y0 y1 y2 y3 y4 x0
 have hne2 := hne.symm
 clear h1 h2 k1 k2 hl1 hl2 hB
 refine callsD_of_wpS Try.func171 rfl fun c₀ cs hu => ?_
 apply wpS_seq
 apply wpS_region
 simp [wpOpsS, go_sem, recoverD, hu, Try.ntmps171, Exit.thenS]
 rw [tmps171]
 refine wpS_of_wp ?_
 go_wp2
 refine ⟨rfl, _, rfl, .tuple #[], results_none rfl _ _ _, rfl, rfl, ?_, ?_, ?_, ?_, ?_⟩
 ·exact (((((HB.out.setCell hg1 _).setCell hg1 _).setCell hg1 _).setCell hg1 _).setCell hg1 _).setCell hg2 _
 ·exact (Below.heap_setCell _ _ _ _ hne).trans ((blk_set (blk_set (blk_set (blk_set (blk_set K1.out 0 _) 1 _) 2 _) 3 _) 4 _).trans (by rfl))
 ·refine (blk_set (cs := #[b]) ?_ 0 _).trans (by rfl)
  exact (Below.heap_setCell _ _ _ _ hne2).trans ((Below.heap_setCell _ _ _ _ hne2).trans ((Below.heap_setCell _ _ _ _ hne2).trans ((Below.heap_setCell _ _ _ _ hne2).trans ((Below.heap_setCell _ _ _ _ hne2).trans K2.out))))
 ·simp
 ·intro i hi h1 h2
  exact (Below.heap_setCell _ _ _ _ h2).trans ((Below.heap_setCell _ _ _ _ h1).trans ((Below.heap_setCell _ _ _ _ h1).trans ((Below.heap_setCell _ _ _ _ h1).trans ((Below.heap_setCell _ _ _ _ h1).trans ((Below.heap_setCell _ _ _ _ h1).trans (Below.heap_alloc _ _ _ hi))))))
set_option maxRecDepth 100000 in
set_option maxHeartbeats 16000000 in
/-- nothing was thrown. -/
theorem idle171 (p q : Value) (w : World) :
  CallsD Try.prog 171 #[p, q] .returning w fun e u' w' => e = .returned (.tuple #[]) ∧ u' = .returning ∧ w' = w := by
 refine callsD_of_wpS Try.func171 rfl fun c₀ cs hu => ?_
 apply wpS_seq
 apply wpS_region
 simp [wpOpsS, go_sem, recoverD, hu, Try.ntmps171, Exit.thenS]
 rw [tmps171]
 refine wpS_of_wp ?_
 go_wp2
 refine ⟨rfl, .returning, ?_, .tuple #[], results_none rfl _ _ _, rfl, rfl, rfl⟩
 cases c₀
 simp_all
/-- a matcher's value -/
abbrev mV (m : S25) (A3 : Option Addr) (c3 : Nat) (A4 : Option Addr) (c4 : Nat) : Value := .agg #[.int .i64 m.f0, .string m.f1, .string m.f2, .slice A3 m.f3.length c3, .slice A4 m.f4.length c4]
/-- how a reader's closure ends: it threw, or it hands back a matcher in memory of its own, and the reader's block is so -/
def RedPost (w0 w : World) (g : Nat) (Q : Option (S25 × Obj)) (e : Ending) (w' : World) : Prop :=
 Below w0.heap.size w0 w' ∧ KeepBut w w' g none ∧ ((Q = none ∧ e = .panicked badP) ∨ ∃ m o A3 c3 A4 c4, Q = some (m, o) ∧ e = .returned (mV m A3 c3 A4 c4) ∧ MF w' (fun b => w.heap.size ≤ b ∧ b < w'.heap.size) m A3 c3 A4 c4 ∧ w'.heap[g]? = some o)
/-- how reads ends -/
def ReadsPost (w0 w : World) (g : Nat) (Q : Option (S25 × Obj)) (e : Ending) (w' : World) : Prop :=
 Below w0.heap.size w0 w' ∧ KeepBut w w' g none ∧ ((Q = none ∧ e = .returned (.tuple #[.agg Z5, .bool false])) ∨ ∃ m o A3 c3 A4 c4, Q = some (m, o) ∧ e = .returned (.tuple #[mV m A3 c3 A4 c4, .bool true]) ∧ MF w' (fun b => w.heap.size ≤ b ∧ b < w'.heap.size) m A3 c3 A4 c4 ∧ w'.heap[g]? = some o)
theorem keep_two {w V W X : World} {g g1 g2 : Nat} (hV : Below w.heap.size w V) (h1 : w.heap.size ≤ g1) (h2 : w.heap.size ≤ g2) (hK : KeepBut V W g none) (hs : W.heap.size ≤ X.heap.size) (hX : ∀ i, i < W.heap.size → i ≠ g1 → i ≠ g2 → X.heap[i]? = W.heap[i]?) : KeepBut w X g none := by
 have a := hV.size
 have b := hK.1
 exact ⟨by omega, fun i hi hg hr => (hX i (by omega) (by omega) (by omega)).trans ((hK.2 i (by omega) hg hr).trans (hV.block i hi))⟩
end Go.Proofs.Yteafilojjdfllaa
end
section
namespace Go.Proofs.Yteafilojjdfllaa
open Go Go.Proofs.Yteafilojjdfllaa.PAll
end Go.Proofs.Yteafilojjdfllaa
end
section
namespace Go.Proofs.Yteafilojjdfllaa
open Go Go.Proofs.Yteafilojjdfllaa.PAll
end Go.Proofs.Yteafilojjdfllaa
end
section
namespace Go.Proofs.Yteafilojjdfllaa
open Go Go.RowKit Go.Proofs.YteafilojjdfllaaW.PrintWords Go.Proofs.YteafilojjdfllaaW.PrintLast Go.Proofs.YteafilojjdfllaaW.PrintMore Go.Proofs.Yteafilojjdfllaa.PAll
set_option linter.unusedVariables false
set_option linter.unusedSimpArgs false
end Go.Proofs.Yteafilojjdfllaa
end
section
namespace Go.Proofs.Yteafilojjdfllaa
open Go Go.RowKit Go.Proofs.YteafilojjdfllaaW.PrintWords Go.Proofs.YteafilojjdfllaaW.PrintLast Go.Proofs.YteafilojjdfllaaW.PrintMore Go.Proofs.Yteafilojjdfllaa.PAll
set_option linter.unusedVariables false
set_option linter.unusedSimpArgs false
end Go.Proofs.Yteafilojjdfllaa
end
section
namespace Go.Proofs.Yteafilojjdfllaa
open Go Go.RowKit Go.Proofs.YteafilojjdfllaaW.PrintWords Go.Proofs.YteafilojjdfllaaW.PrintLast Go.Proofs.YteafilojjdfllaaW.PrintMore Go.Proofs.Yteafilojjdfllaa.PAll
set_option linter.unusedVariables false
set_option linter.unusedSimpArgs false
theorem RDPost.none_ {w0 w w' : World} {g : Nat} {A : Option Addr} {n c : Nat} {k : Int} {e : Ending} (h : RDPost w0 w g A n c k none e w') : e = .panicked badP ∧ Below w0.heap.size w0 w' ∧ KeepBut w w' g none := by
 obtain ⟨h1, h2, ⟨-, h3⟩ | ⟨v, r, h3, -⟩⟩ := h
 ·exact ⟨h3, h1, h2⟩
 ·cases h3
theorem RDPost.some_ {w0 w w' : World} {g : Nat} {A : Option Addr} {n c : Nat} {k : Int} {e : Ending} {v : Value} {r : List UInt8} {j : Int} (h : RDPost w0 w g A n c k (some (v, r)) e w') (hj : (n : Int) - (r.length : Nat) = j) : e = .returned v ∧ Below w0.heap.size w0 w' ∧ KeepBut w w' g none ∧ RD w' g A n c j k := by
 obtain ⟨h1, h2, ⟨h3, -⟩ | ⟨v', r', h3, h4, h5⟩⟩ := h
 ·cases h3
 ·simp only [Option.some.injEq, Prod.mk.injEq] at h3
  obtain ⟨rfl, rfl⟩ := h3
  rw [hj] at h5
  exact ⟨h4, h1, h2, h5⟩
/-- the result is laid into its block: what is said of the end -/
theorem red_tail {w0 w W : World} {g K : Nat} {o : Obj} {m : S25} {A3 A4 : Option Addr} {c3 c4 : Nat} (hK : K = w.heap.size) (hb : W.heap[K]? = some (.cells Z5 25 (0, 0))) (hg : w0.heap.size ≤ g) (hgl : g < w.heap.size) (hw0 : w0.heap.size ≤ w.heap.size) (hB : Below w0.heap.size w0 W) (hKB : KeepBut w W g none) (hO : W.heap[g]? = some o) (hM : MF W (fun b => K < b ∧ b < W.heap.size) m A3 c3 A4 c4) :
  (((((W.setCell ⟨K, 0, none⟩ (.int .i64 m.f0)).setCell ⟨K, 1, none⟩ (.string m.f1)).setCell ⟨K, 2, none⟩ (.string m.f2)).setCell ⟨K, 3, none⟩ (.slice A3 m.f3.length c3)).setCell ⟨K, 4, none⟩ (.slice A4 m.f4.length c4)).heap[K]? = some (.cells #[.int .i64 m.f0, .string m.f1, .string m.f2, .slice A3 m.f3.length c3, .slice A4 m.f4.length c4] 25 (0, 0)) ∧
  RedPost w0 w g (some (m, o)) (.returned (mV m A3 c3 A4 c4)) (((((W.setCell ⟨K, 0, none⟩ (.int .i64 m.f0)).setCell ⟨K, 1, none⟩ (.string m.f1)).setCell ⟨K, 2, none⟩ (.string m.f2)).setCell ⟨K, 3, none⟩ (.slice A3 m.f3.length c3)).setCell ⟨K, 4, none⟩ (.slice A4 m.f4.length c4)) := by
 have far : ∀ i, i ≠ K → (((((W.setCell ⟨K, 0, none⟩ (.int .i64 m.f0)).setCell ⟨K, 1, none⟩ (.string m.f1)).setCell ⟨K, 2, none⟩ (.string m.f2)).setCell ⟨K, 3, none⟩ (.slice A3 m.f3.length c3)).setCell ⟨K, 4, none⟩ (.slice A4 m.f4.length c4)).heap[i]? = W.heap[i]? := fun i hne =>
  (Below.heap_setCell _ _ _ _ hne).trans ((Below.heap_setCell _ _ _ _ hne).trans ((Below.heap_setCell _ _ _ _ hne).trans ((Below.heap_setCell _ _ _ _ hne).trans (Below.heap_setCell _ _ _ _ hne))))
 have hwK : w0.heap.size ≤ K := by omega
 have hs : ∀ x0 x1 x2 x3 x4, (((((W.setCell ⟨K, 0, none⟩ x0).setCell ⟨K, 1, none⟩ x1).setCell ⟨K, 2, none⟩ x2).setCell ⟨K, 3, none⟩ x3).setCell ⟨K, 4, none⟩ x4).heap.size = W.heap.size := fun _ _ _ _ _ => by simp
 refine ⟨(blk_set (blk_set (blk_set (blk_set (blk_set hb 0 _) 1 _) 2 _) 3 _) 4 _).trans (by rfl), ?_, ?_, Or.inr ⟨m, o, A3, c3, A4, c4, rfl, rfl, ?_, ?_⟩⟩
 ·exact ((((hB.setCell hwK _).setCell hwK _).setCell hwK _).setCell hwK _).setCell hwK _
 ·refine ⟨by rw [hs]; exact hKB.1, fun i hi h1 h2 => ?_⟩
  exact (far i (by omega)).trans (hKB.2 i hi h1 h2)
 ·refine hM.move (fun b hb => ⟨⟨by omega, by rw [hs]; exact hb.2⟩, far b (by omega)⟩)
 ·exact (far g (by omega)).trans hO
end Go.Proofs.Yteafilojjdfllaa
end
section
namespace Go.Proofs.Yteafilojjdfllaa
open Go Go.RowKit Go.Proofs.YteafilojjdfllaaW.PrintWords Go.Proofs.YteafilojjdfllaaW.PrintLast Go.Proofs.YteafilojjdfllaaW.PrintMore Go.Proofs.Yteafilojjdfllaa.PAll
set_option linter.unusedVariables false
set_option linter.unusedSimpArgs false
section
variable {P : Program} {ops : Array Oper} {Q : Exit → Act → World → Prop}
/-- a call that may throw -/
theorem goesP_ {oi : Oper} {N : Option Tmp} {a : Act} {w : World} {K : Act → World → Prop} {f : FuncId} {fn : Func} {as' : Array Operand} {ts : Array TypeId} (hf : P.funcs[f]? = some fn) (hname : (fn.name == "runtime.NumGoroutine") = false) (hb : fn.body.isSome = true) (args : Array Value)
  (hw : Region.wanted oi (yielded ops a.tmps) = true) (hN : oi.dst = N) (hop : oi.op = .call { callee := .value (.func f), args := as', argTypes := ts }) (hargs : as'.map a.eval = args)
  (h : Calls P f args w fun e w' => (∃ v, e = .returned v ∧ K (a.put N v) w') ∨ ∃ ch, e = .panicked ch ∧ Q (.panic ch) a w') : if Region.wanted oi (yielded ops a.tmps) = true then Oper.wp P oi a w K Q else K (a.put N undef) w := by
 have he := enters_ hf hname hb args w
 have hrun : (execOp a.eval oi).run P w = .ok (.enter f args) w := by
  unfold execOp
  simp [hop, resolve, Deferred.ofValue, invoke, Act.eval, hargs, he]
 rw [if_pos hw]
 subst hN
 unfold Oper.wp
 rw [hrun, Oper.upon_enter]
 refine h.mono fun e w'' hh => ?_
 rcases hh with ⟨v, rfl, hk⟩ | ⟨ch, rfl, hk⟩
 ·exact hk
 ·exact hk
end
end Go.Proofs.Yteafilojjdfllaa
end
section
namespace Go.Proofs.Yteafilojjdfllaa
open Go Go.RowKit Go.Proofs.YteafilojjdfllaaW.PrintWords Go.Proofs.YteafilojjdfllaaW.PrintLast Go.Proofs.YteafilojjdfllaaW.PrintMore Go.Proofs.Yteafilojjdfllaa.PAll
set_option linter.unusedVariables false
set_option linter.unusedSimpArgs false
/-- the world of the closure: the parser, the box of its pointer, the matcher under way and its row of values -/
structure VC (w0 wn w : World) (g B G base : Nat) (s nm : ByteArray) (i : Nat) (l : Int) (vs : List ByteArray) (n : Nat) (Au : Option Addr) (cu : Nat) : Prop where
 below : Below w0.heap.size w0 w
 keep : KeepBut wn w g none
 size : base ≤ w.heap.size
 box : w.heap[B]? = some (.cells #[.pointer (some ⟨g, 0, none⟩)] 170 (0, 0))
 blk : w.heap[G]? = some (.cells #[.int .i64 4, .string nm, .string ⟨#[]⟩, .slice Au n cu, .slice none 0 0] 25 (0, 0))
 par : PB w g s i l
 own : w.ownsRow base 9 1 (.slice Au n cu) n (encs Value.string vs)
 len : vs.length = n
/-- where these lie -/
structure VL (w0 wn : World) (g B G base : Nat) : Prop where
 g0 : w0.heap.size ≤ g
 gn : g < wn.heap.size
 nB : B ≠ g
 nG : wn.heap.size ≤ G
 Bb : B < base
 Gb : G < base
 ne : B ≠ G
noncomputable def tabR188_2 : Bool × List (List Nat × List Nat) := rtab .any (opsOf Try.f188 2)
theorem tabR188_2_eq : rtab .any (opsOf Try.f188 2) = tabR188_2 := rfl
set_option maxRecDepth 100000 in
set_option maxHeartbeats 16000000 in
/-- too many. -/
theorem value188a (w0 wn w : World) (g B G base : Nat) (s nm : ByteArray) (i : Nat) (l : Int) (vs : List ByteArray) (n : Nat) (Au : Option Addr) (cu : Nat) (HL : VL w0 wn g B G base) (hV : VC w0 wn w g B G base s nm i l vs n Au cu) (hn : 16 < n) :
  Calls Try.prog 188 #[.pointer (some ⟨G, 0, none⟩), .pointer (some ⟨B, 0, none⟩)] w fun e w' => e = .panicked badP ∧ Below w0.heap.size w0 w' ∧ KeepBut wn w' g none := by
 obtain ⟨L1, L2, L3, L4, L5, L6, L7⟩ := HL
 have HV := Lib.hid hV
 have k3 : w.cell? ⟨G, 3, none⟩ = some (.slice Au n cu) := (blk_cell hV.blk 3).trans rfl
 have kB : w.cell? ⟨B, 0, none⟩ = some (.pointer (some ⟨g, 0, none⟩)) := (blk_cell hV.box 0).trans rfl
 have t1 : (16 : Int) < (n : Int) := by omega
 clear hV
 go_enter Try.func188, Try.ntmps188
 go_wp2
 exact ⟨rfl, rfl, HV.out.below, HV.out.keep⟩
set_option maxRecDepth 100000 in
set_option maxHeartbeats 16000000 in
/-- no value. -/
theorem value188n (w0 wn w : World) (g B G base : Nat) (s nm : ByteArray) (i : Nat) (l : Int) (vs : List ByteArray) (n : Nat) (Au : Option Addr) (cu : Nat) (HL : VL w0 wn g B G base) (hV : VC w0 wn w g B G base s nm i l vs n Au cu) (hn : ¬ 16 < n) (hi : i ≤ s.size) (hs : s.size ≤ 1000000000) (hq : valW stepP (s.data.toList.drop i) = none) :
  Calls Try.prog 188 #[.pointer (some ⟨G, 0, none⟩), .pointer (some ⟨B, 0, none⟩)] w fun e w' => e = .panicked badP ∧ Below w0.heap.size w0 w' ∧ KeepBut wn w' g none := by
 obtain ⟨L1, L2, L3, L4, L5, L6, L7⟩ := HL
 have HV := Lib.hid hV
 have k3 : w.cell? ⟨G, 3, none⟩ = some (.slice Au n cu) := (blk_cell hV.blk 3).trans rfl
 have kB : w.cell? ⟨B, 0, none⟩ = some (.pointer (some ⟨g, 0, none⟩)) := (blk_cell hV.box 0).trans rfl
 have t1 : ¬ (16 : Int) < (n : Int) := by omega
 have H7 := Lib.hid (value189n w0 w.drew g s i l hq hi hs L1 (below_drew hV.below) hV.par)
 have k3d : w.drew.cell? ⟨G, 3, none⟩ = some (.slice Au n cu) := k3
 have kBd : w.drew.cell? ⟨B, 0, none⟩ = some (.pointer (some ⟨g, 0, none⟩)) := kB
 clear hV hq
 go_enter Try.func188, Try.ntmps188
 go_wp2_with fail
 refine start_ (n := 8) (S := fun w' => w'.cell? ⟨G, 3, none⟩ = some (.slice Au n cu) ∧ w'.cell? ⟨B, 0, none⟩ = some (.pointer (some ⟨g, 0, none⟩))) (ds := [7]) (msk 8 [0, 1, 2, 3] 0).toArray (by kernel_rfl) rfl rfl ⟨k3d, kBd⟩ (fun hHeld => ?_)
 refine with_tab (T := tabR188_2) tabR188_2_eq (fun HT_ => ?_)
 iterate 3 (first | (refine pureO HT_.out (N := some _) (v := ?_) (a' := ?_) rfl rfl (by kernel_rfl) (fun _ _ _ h => h) (Or.inl ⟨by rfl, ?_⟩) ?_ ?_; rotate_left; intro w'; go_simp; (with_reducible rfl); rotate_left; simp only [Act.put, List.setIfInBounds_toArray, List.set_cons_zero, List.set_cons_succ, i64_w, i32_w]; rfl) | (refine takeO HT_.out (N := some _) (v := ?_) (a' := ?_) rfl rfl (by kernel_rfl) (fun _ _ _ h => h) (Or.inl ⟨by rfl, ?_⟩) hHeld ?_ ?_; rotate_left; intro w' hh; have q0 := hh.1; have q1 := hh.2; go_simp; (with_reducible rfl); rotate_left; simp only [Act.put, List.setIfInBounds_toArray, List.set_cons_zero, List.set_cons_succ, i64_w, i32_w]; rfl))
 refine oneO (i := 3) (N := some 11) HT_.out rfl rfl (by kernel_rfl) (by decide) (fun K_ hK_ => ?_)
 refine goesP_ Try.func189 (by kernel_rfl) rfl #[.pointer (some ⟨g, 0, none⟩)] (by rfl) rfl rfl (by (try simp only [List.map_toArray, List.map_cons, List.map_nil]); first | done | rfl) ?_
 refine (H7.out).mono ?_
 rintro e w9 ⟨hB9, hK9, rfl⟩
 refine Or.inr ⟨_, rfl, ?_⟩
 exact ⟨rfl, rfl, hB9, (HV.out.keep.trans (KeepBut.of_below (below_drew (Below.refl w.heap.size w)) g none) (Or.inl rfl)).trans hK9 (Or.inl rfl)⟩
set_option maxRecDepth 100000 in
set_option maxHeartbeats 16000000 in
/-- one more. -/
theorem value188y (w0 wn w : World) (g B G base : Nat) (s nm : ByteArray) (i : Nat) (l : Int) (vs : List ByteArray) (n : Nat) (Au : Option Addr) (cu : Nat) (HL : VL w0 wn g B G base) (hV : VC w0 wn w g B G base s nm i l vs n Au cu) (hn : ¬ 16 < n) (hi : i ≤ s.size) (hs : s.size ≤ 1000000000) (v r : List UInt8) (j : Nat) (x : ByteArray) (hx : (⟨v.toArray⟩ : ByteArray) = x) (hq : valW stepP (s.data.toList.drop i) = some (v, r)) (hj : (s.size : Int) - (r.length : Nat) = (j : Int)) :
  Calls Try.prog 188 #[.pointer (some ⟨G, 0, none⟩), .pointer (some ⟨B, 0, none⟩)] w fun e w' => ∃ A2 c2, e = .returned (.tuple #[]) ∧ VC w0 wn w' g B G base s nm j l (vs ++ [x]) (n + 1) A2 c2 := by
 obtain ⟨L1, L2, L3, L4, L5, L6, L7⟩ := HL
 have HV := Lib.hid hV
 have k3 : w.cell? ⟨G, 3, none⟩ = some (.slice Au n cu) := (blk_cell hV.blk 3).trans rfl
 have kB : w.cell? ⟨B, 0, none⟩ = some (.pointer (some ⟨g, 0, none⟩)) := (blk_cell hV.box 0).trans rfl
 have t1 : ¬ (16 : Int) < (n : Int) := by omega
 have h7 := value189y w0 w.drew g s i l v r j hq hj hi hs L1 (below_drew hV.below) hV.par
 rw [hx] at h7
 have H7 := Lib.hid h7
 have k3d : w.drew.cell? ⟨G, 3, none⟩ = some (.slice Au n cu) := k3
 have kBd : w.drew.cell? ⟨B, 0, none⟩ = some (.pointer (some ⟨g, 0, none⟩)) := kB
 clear hV hq h7 hx hj
 go_enter Try.func188, Try.ntmps188
 go_wp2_with fail
 refine start_ (n := 8) (S := fun w' => w'.cell? ⟨G, 3, none⟩ = some (.slice Au n cu) ∧ w'.cell? ⟨B, 0, none⟩ = some (.pointer (some ⟨g, 0, none⟩))) (ds := [7]) (msk 8 [0, 1, 2, 3, 4, 5, 6, 7] 0).toArray (by kernel_rfl) rfl rfl ⟨k3d, kBd⟩ (fun hHeld => ?_)
 refine with_tab (T := tabR188_2) tabR188_2_eq (fun HT_ => ?_)
 iterate 3 (first | (refine pureO HT_.out (N := some _) (v := ?_) (a' := ?_) rfl rfl (by kernel_rfl) (fun _ _ _ h => h) (Or.inl ⟨by rfl, ?_⟩) ?_ ?_; rotate_left; intro w'; go_simp; (with_reducible rfl); rotate_left; simp only [Act.put, List.setIfInBounds_toArray, List.set_cons_zero, List.set_cons_succ, i64_w, i32_w]; rfl) | (refine takeO HT_.out (N := some _) (v := ?_) (a' := ?_) rfl rfl (by kernel_rfl) (fun _ _ _ h => h) (Or.inl ⟨by rfl, ?_⟩) hHeld ?_ ?_; rotate_left; intro w' hh; have q0 := hh.1; have q1 := hh.2; go_simp; (with_reducible rfl); rotate_left; simp only [Act.put, List.setIfInBounds_toArray, List.set_cons_zero, List.set_cons_succ, i64_w, i32_w]; rfl))
 refine oneO (i := 3) (N := some 11) HT_.out rfl rfl (by kernel_rfl) (by decide) (fun K_ hK_ => ?_)
 refine goesP_ Try.func189 (by kernel_rfl) rfl #[.pointer (some ⟨g, 0, none⟩)] (by rfl) rfl rfl (by (try simp only [List.map_toArray, List.map_cons, List.map_nil]); first | done | rfl) ?_
 refine (H7.out).mono ?_
 rintro e w5 ⟨hB5, hK5, rfl, hP5⟩
 have hV := HV.out
 have f5 := (hK5.2 G (by show G < w.heap.size; have := hV.size; omega) (by omega) (by simp)).trans hV.blk
 have f4 := (hK5.2 B (by show B < w.heap.size; have := hV.size; omega) (by omega) (by simp)).trans hV.box
 have hs5 : w.heap.size ≤ w5.heap.size := hK5.1
 have hO5 : w5.ownsRow base 9 1 (.slice Au n cu) n (encs Value.string vs) := own_move hV.own (fun k hk => hK5.2 k (hV.own.lt _ hk).2 (by have := (hV.own.lt _ hk).1; omega) (by simp))
 have HK5 := Lib.hid ((hV.keep.trans (KeepBut.of_below (below_drew (Below.refl w.heap.size w)) g none) (Or.inl rfl)).trans hK5 (Or.inl rfl))
 have HS5 := Lib.hid (Nat.le_trans hV.size hs5)
 have HP5 := Lib.hid hP5
 have HB5 := Lib.hid hB5
 have F5 := Lib.hid f5
 have F4 := Lib.hid f4
 have HO5 := Lib.hid hO5
 have HLT := Lib.hid (fun k (hk : (Value.slice Au n cu).ownBlock = some k) => hO5.lt _ hk)
 have h5 : w5.cell? ⟨G, 3, none⟩ = some (.slice Au n cu) := (blk_cell f5 3).trans rfl
 have h4 : w5.cell? ⟨B, 0, none⟩ = some (.pointer (some ⟨g, 0, none⟩)) := (blk_cell f4 0).trans rfl
 refine Or.inl ⟨_, rfl, ?_⟩
 refine hK_.out _ _ ⟨h5, h4⟩ (fun hHeld => ?_)
 clear hK_ K_ h5 h4 hK5 f5 f4 hO5 hP5 hB5 hV hs5
 try simp only [Act.put, List.setIfInBounds_toArray, List.set_cons_zero, List.set_cons_succ]
 refine oneO (i := 4) (N := some 12) HT_.out rfl rfl (by kernel_rfl) (by decide) (fun K_ hK_ => ?_)
 go_simp
 refine hK_.out _ _ ⟨(blk_cell ((Below.heap_alloc _ _ _ (blk_lt F5.out)).trans F5.out) 3).trans rfl, (blk_cell ((Below.heap_alloc _ _ _ (blk_lt F4.out)).trans F4.out) 0).trans rfl⟩ (fun hHeld => ?_)
 clear hK_ K_
 try simp only [Act.put, List.setIfInBounds_toArray, List.set_cons_zero, List.set_cons_succ]
 refine oneO (i := 5) (N := some 13) HT_.out rfl rfl (by kernel_rfl) (by decide) (fun K_ hK_ => ?_)
 have hs5 := HS5.out
 refine step_append_cells (w0 := w5) (W := w5) base (by rfl) (.tmp 9) (.tmp 12) 22 9 (.string ByteArray.empty) 1 16 rfl Try.underlying22 infoS rfl (by decide) (by decide) (.slice Au n cu) n (encs Value.string vs) [.string x] rfl rfl rfl (by intro u hu; simp only [List.mem_cons, List.not_mem_nil, or_false] at hu; subst hu; rfl) HO5.out (Below.refl _ _) (by omega) (by omega) ?_
 intro v2 w6 hown6 hb6 hg6 hat6
 obtain ⟨A2, c2, rfl⟩ := own_slice hown6
 have hl2 := HLT.out
 have hneG : some G ≠ (Value.slice Au n cu).ownBlock := fun e => by have := (hl2 _ e.symm).1; omega
 have hneB : some B ≠ (Value.slice Au n cu).ownBlock := fun e => by have := (hl2 _ e.symm).1; omega
 have hneg : some g ≠ (Value.slice Au n cu).ownBlock := fun e => by have := (hl2 _ e.symm).1; omega
 have q5 := (hg6.block G (blk_lt F5.out) hneG).trans F5.out
 have q4 := (hg6.block B (blk_lt F4.out) hneB).trans F4.out
 have qg : PB w6 g s j l := (hg6.block g HP5.out.lt hneg).trans HP5.out
 have hB6 : Below w0.heap.size w0 w6 := HB5.out.grown hg6 (by omega) (fun k hk => by have := (hl2 k hk).1; omega)
 have hK6 : KeepBut wn w6 g none := ⟨by have := HK5.out.1; have := hg6.size; omega, fun i hi h1 h2 => (hg6.block i (by have := HK5.out.1; omega) (fun e => by have := (hl2 _ e.symm).1; omega)).trans (HK5.out.2 i hi h1 h2)⟩
 have Q5 := Lib.hid q5
 have Q4 := Lib.hid q4
 have QG := Lib.hid qg
 have HB6 := Lib.hid hB6
 have HK6 := Lib.hid hK6
 have HO6 := Lib.hid hown6
 have HS6 := Lib.hid (show base ≤ w6.heap.size by have := hg6.size; omega)
 have HL6 := Lib.hid (fun k (hk : (Value.slice A2 (n + 1) c2).ownBlock = some k) => hown6.lt _ hk)
 have h6 : w6.cell? ⟨G, 3, none⟩ = some (.slice Au n cu) := (blk_cell q5 3).trans rfl
 have h6B : w6.cell? ⟨B, 0, none⟩ = some (.pointer (some ⟨g, 0, none⟩)) := (blk_cell q4 0).trans rfl
 have zz := blk_frozen q5 3
 refine hK_.out _ _ ⟨h6, h6B⟩ (fun hHeld => ?_)
 clear hK_ K_ hg6 hb6 hat6 hown6 hB6 hK6 qg q4 hneg hneB hneG hl2 q5 h6B
 try simp only [Act.put, List.setIfInBounds_toArray, List.set_cons_zero, List.set_cons_succ]
 (refine pureO HT_.out (N := some _) (v := ?_) (a' := ?_) rfl rfl (by kernel_rfl) (fun _ _ _ h => h) (Or.inl ⟨by rfl, ?_⟩) ?_ ?_; rotate_left; intro w'; go_simp; (with_reducible rfl); rotate_left; simp only [Act.put, List.setIfInBounds_toArray, List.set_cons_zero, List.set_cons_succ, i64_w, i32_w]; rfl)
 refine lastO (i := 7) (N := none) HT_.out rfl rfl (by kernel_rfl) (by decide) (fun K_ hK_ => ?_)
 have hcell : w6.cell? ⟨G, 3, none⟩ = some (.slice Au n cu) := h6
 go_simp
 refine hK_.out _ _ ?_
 clear hK_ K_
 try simp only [Act.put, List.setIfInBounds_toArray, List.set_cons_zero, List.set_cons_succ]
 refine done_ (done_of HT_.out (by kernel_rfl)) ?_
 have hV := HV.out
 go_wp2
 refine ⟨rfl, .tuple #[], results_none rfl _ _ _, A2, c2, rfl, HB6.out.setCell (show w0.heap.size ≤ G by omega) _, ⟨by have := HK6.out.1; simpa using this, fun i hi h1 h2 => (Below.heap_setCell _ _ _ _ (show i ≠ G by omega)).trans (HK6.out.2 i hi h1 h2)⟩, by simpa using HS6.out, (Below.heap_setCell _ _ _ _ L7).trans Q4.out, (blk_set Q5.out 3 _).trans (by rfl), (Below.heap_setCell _ _ _ _ (show g ≠ G by omega)).trans QG.out, ?_, by rw [List.length_append, hV.len]; rfl⟩
 have e : encs Value.string (vs ++ [x]) = encs Value.string vs ++ [.string x] := by simp [encs]
 rw [e]
 exact own_move HO6.out (fun k hk => Below.heap_setCell _ _ _ _ (show k ≠ G by have := (HL6.out k hk).1; omega))
end Go.Proofs.Yteafilojjdfllaa
end
section
namespace Go.Proofs.Yteafilojjdfllaa
open Go Go.RowKit Go.Proofs.YteafilojjdfllaaW.PrintWords Go.Proofs.YteafilojjdfllaaW.PrintLast Go.Proofs.YteafilojjdfllaaW.PrintMore Go.Proofs.Yteafilojjdfllaa.PAll
set_option linter.unusedVariables false
set_option linter.unusedSimpArgs false
/-- is that byte next? -/
def nextB (c : UInt8) (r : List UInt8) : Bool := r.head? == some c
theorem pref_one (s : ByteArray) (i : Nat) (c : UInt8) (hi : i ≤ s.size) : prefB (s.extract i s.size) ⟨#[c]⟩ = nextB c (s.data.toList.drop i) := by
 have hz : (⟨#[c]⟩ : ByteArray).size = 1 := rfl
 have hs : (s.extract i s.size).size = s.size - i := by rw [ByteArray.size_extract]; omega
 unfold prefB nextB
 rw [hz, hs, ByteArray.toList_eq, ByteArray.toList_eq]
 have hd := ext_take (s.extract i s.size) 0 1
 rw [Nat.zero_add, List.drop_zero, ext_drop] at hd
 rw [hd]
 by_cases h : 1 ≤ s.size - i
 ·rw [decide_eq_true h, Bool.true_and, bN_drop s i (by omega)]
  by_cases e : bN s i = c <;> simp [e]
 ·rw [decide_eq_false h, List.drop_of_length_le (by simp; omega)]
  rfl
/-- behind a value -/
def restW (k : Nat) (r : List UInt8) : Option (List ByteArray × List UInt8) := if nextB 41 r = true then some ([], r.drop 1) else if nextB 44 r = true then valsW stepP k (r.drop 1) else none
theorem valsW_rest (k : Nat) (r : List UInt8) : valsW stepP (k + 1) r = match valW stepP r with
  | none => none
  | some (v, t) => (restW k t).map (fun q => (⟨v.toArray⟩ :: q.1, q.2)) := by
 rw [valsW]
 cases valW stepP r with
 | none => rfl
 | some p =>
  obtain ⟨v, t⟩ := p
  cases t with
  | nil => rfl
  | cons c t =>
   unfold restW nextB
   by_cases h1 : c = 41
   ·subst h1; rfl
   ·by_cases h2 : c = 44
    ·subst h2; simp
    ·simp [h1, h2]
def listV (r : List UInt8) : Option (List ByteArray × List UInt8) := if nextB 40 r = true then (if nextB 41 (r.drop 1) = true then some ([], r.drop 2) else valsW stepP 17 (r.drop 1)) else none
theorem next_lt {s : ByteArray} {i : Nat} {c : UInt8} (h : nextB c (s.data.toList.drop i) = true) : i + 1 ≤ s.size := by
 unfold nextB at h
 by_cases hi : i < s.size
 ·exact hi
 ·rw [List.drop_of_length_le (by simp; omega)] at h
  cases h
section
variable {w0 wn w w' : World} {g B G base : Nat} {s nm : ByteArray} {i j : Nat} {l : Int} {vs : List ByteArray} {n : Nat} {Au : Option Addr} {cu : Nat}
theorem VC.moved (h : VC w0 wn w g B G base s nm i l vs n Au cu) (HL : VL w0 wn g B G base) (hB : Below w0.heap.size w0 w') (hK : KeepBut w w' g none) (hP : PB w' g s j l) : VC w0 wn w' g B G base s nm j l vs n Au cu := by
 obtain ⟨L1, L2, L3, L4, L5, L6, L7⟩ := HL
 have hs := h.size
 exact ⟨hB, h.keep.trans hK (Or.inl rfl), Nat.le_trans hs hK.1, (hK.2 B (by omega) (by omega) (by simp)).trans h.box, (hK.2 G (by omega) (by omega) (by simp)).trans h.blk, hP,
  own_move h.own (fun k hk => hK.2 k (h.own.lt _ hk).2 (by have := (h.own.lt _ hk).1; omega) (by simp)), h.len⟩
theorem VC.drew (h : VC w0 wn w g B G base s nm i l vs n Au cu) : VC w0 wn w.drew g B G base s nm i l vs n Au cu :=
 ⟨below_drew h.below, h.keep.trans (KeepBut.of_below (below_drew (Below.refl w.heap.size w)) g none) (Or.inl rfl), h.size, h.box, h.blk, h.par, h.own, h.len⟩
end
/-- how a list of values ends -/
def LPost (w0 wn : World) (g B G base : Nat) (s nm : ByteArray) (l : Int) (Q : Option (List ByteArray × List UInt8)) (e : Ending) (w' : World) : Prop :=
 (Q = none ∧ e = .panicked badP ∧ Below w0.heap.size w0 w' ∧ KeepBut wn w' g none) ∨ ∃ vs r j A c, Q = some (vs, r) ∧ s.data.toList.drop j = r ∧ j ≤ s.size ∧ e = .returned (.tuple #[]) ∧ VC w0 wn w' g B G base s nm j l vs vs.length A c
set_option maxRecDepth 100000 in
set_option maxHeartbeats 32000000 in
/-- list, of values. -/
theorem list176v (w0 wn w : World) (g B G base : Nat) (s nm : ByteArray) (i : Nat) (l : Int) (Au : Option Addr) (cu : Nat) (HL : VL w0 wn g B G base) (hV : VC w0 wn w g B G base s nm i l [] 0 Au cu) (hi : i ≤ s.size) (hs : s.size ≤ 1000000000) (Q : Option (List ByteArray × List UInt8)) (hQ : listV (s.data.toList.drop i) = Q) :
  Calls Try.prog 176 #[.pointer (some ⟨g, 0, none⟩), .func (.func 188) #[] #[.pointer (some ⟨G, 0, none⟩), .pointer (some ⟨B, 0, none⟩)]] w (LPost w0 wn g B G base s nm l Q) := by
 have HV := Lib.hid hV
 have L1 := HL.g0
 have HLL := Lib.hid HL
 obtain ⟨b1, e1⟩ : ∃ b, nextB 40 (s.data.toList.drop i) = b := ⟨_, rfl⟩
 have H1 := Lib.hid (must187 w0 w g s i l ⟨#[40]⟩ b1 hi hs (by decide) ((pref_one s i 40 hi).trans e1) L1 hV.below hV.par)
 have HQ := Lib.hid hQ
 have E1 := Lib.hid e1
 clear hV hQ e1 HL
 go_enter Try.func176, Try.ntmps176
 go_wp2_with fail
 cases b1 with
 | false =>
  (with_reducible refine H1.out.mono ?_)
  rintro e w1 ⟨hb1, hk1, ⟨-, rfl⟩ | ⟨h, -⟩⟩
  ·exact ⟨rfl, Or.inl ⟨by rw [← HQ.out]; unfold listV; rw [E1.out]; rfl, rfl, hb1, HV.out.keep.trans hk1 (Or.inl rfl)⟩⟩
  ·cases h
 | true =>
  (with_reducible refine H1.out.mono ?_)
  rintro e w1 ⟨hb1, hk1, ⟨h, -⟩ | ⟨-, rfl, hp1⟩⟩
  ·cases h
  have HV1 := Lib.hid (HV.out.moved HLL.out hb1 hk1 hp1)
  have hi1 : i + 1 ≤ s.size := next_lt E1.out
  have HQ1 := Lib.hid (show (if nextB 41 (s.data.toList.drop (i + 1)) = true then some ([], s.data.toList.drop (i + 2)) else valsW stepP 17 (s.data.toList.drop (i + 1))) = Q by rw [← HQ.out]; unfold listV; rw [E1.out, if_pos rfl, List.drop_drop, List.drop_drop])
  obtain ⟨b2, e2⟩ : ∃ b, nextB 41 (s.data.toList.drop (i + 1)) = b := ⟨_, rfl⟩
  have H2 := Lib.hid (takes174 w0 w1 g s (i + 1) l ⟨#[41]⟩ b2 hi1 hs (by decide) ((pref_one s (i + 1) 41 hi1).trans e2) L1 HV1.out.below HV1.out.par)
  have E2 := Lib.hid e2
  clear hb1 hk1 hp1 H1 e2 HQ HV
  go_wp2_with fail
  (with_reducible refine H2.out.mono ?_)
  rintro e w2 ⟨rfl, hb2, hk2, hp2⟩
  cases b2 with
  | true =>
   have HV2 := Lib.hid (HV1.out.moved HLL.out hb2 hk2 hp2)
   clear hb2 hk2 hp2 H2
   go_wp2
   have hx : LPost w0 wn g B G base s nm l Q (.returned (.tuple #[])) w2 := Or.inr ⟨[], _, i + 2, _, _, by rw [← HQ1.out, if_pos E2.out], rfl, next_lt E2.out, rfl, HV2.out⟩
   first | exact bodyPost_ret (results_none rfl _ _ _) rfl hx | (simp only [Exit.inBlock, Exit.then]; exact bodyPost_ret (results_none rfl _ _ _) rfl hx) | exact ⟨rfl, .tuple #[], results_none rfl _ _ _, hx⟩
  | false =>
   have HV2 := Lib.hid (HV1.out.moved HLL.out hb2 hk2 hp2)
   have HQ2 := Lib.hid (show valsW stepP 17 (s.data.toList.drop (i + 1)) = Q by rw [← HQ1.out, if_neg (by rw [E2.out]; decide)])
   clear hb2 hk2 hp2 H2 HQ1 HV1
   cases hq : valW stepP (s.data.toList.drop (i + 1)) with
   | none =>
    have H3 := Lib.hid (value188n w0 wn w2 g B G base s nm (i + 1) l [] 0 Au cu HLL.out HV2.out (by decide) hi1 hs hq)
    have HQ3 := Lib.hid (show Q = none by rw [← HQ2.out, valsW_rest, hq])
    clear hq
    go_wp2_with fail
    (with_reducible refine H3.out.mono ?_)
    rintro e w3 ⟨rfl, hb3, hk3⟩
    exact ⟨rfl, Or.inl ⟨HQ3.out, rfl, hb3, hk3⟩⟩
   | some q =>
    obtain ⟨v, r⟩ := q
    obtain ⟨hr1, hr2⟩ := val_place hq
    obtain ⟨j, hj⟩ : ∃ j : Nat, s.size - r.length = j := ⟨_, rfl⟩
    obtain ⟨x, ex⟩ : ∃ x : ByteArray, (⟨v.toArray⟩ : ByteArray) = x := ⟨_, rfl⟩
    have H3 := Lib.hid (value188y w0 wn w2 g B G base s nm (i + 1) l [] 0 Au cu HLL.out HV2.out (by decide) hi1 hs v r j x ex hq (by omega))
    rw [hj] at hr2
    have HQ3 := Lib.hid (show Q = (restW 16 r).map (fun q => ([x] ++ q.1, q.2)) by rw [← HQ2.out, valsW_rest, hq, ← ex]; rfl)
    have HR := Lib.hid (And.intro hr2 (show j ≤ s.size by omega))
    clear hq ex hr1 hr2 hj
    go_wp2_with fail
    (with_reducible refine H3.out.mono ?_)
    rintro e w3 ⟨A3, c3, rfl, hv3⟩
    have HV3 := Lib.hid hv3
    clear hv3 H3
    go_wp2
    go_loopw [] (fun wr => ∃ (n p : Nat) (vs : List ByteArray) (rr : List UInt8) (A : Option Addr) (c : Nat), 1 ≤ n ∧ n ≤ 17 ∧ p ≤ s.size ∧ Hid (s.data.toList.drop p = rr) ∧ Hid (Q = (restW (17 - n) rr).map (fun q => (vs ++ q.1, q.2))) ∧ Hid (VC w0 wn wr g B G base s nm p l vs n A c))
     (fun wr => s.size - (intOf ((wr.cell? ⟨g, 1, none⟩).getD undef)).toNat)
    case atStart => exact ⟨1, j, [x], r, A3, c3, by decide, by decide, HR.out.2, Lib.hid HR.out.1, HQ3, HV3⟩
    case round =>
     obtain ⟨n, p, vs, rr, A, c, hn1, hn17, hp, HRR, HQr, HVr⟩ := hrel
     clear HV3 HQ3 HR HV2 HQ2
     obtain ⟨b3, e3⟩ : ∃ b, nextB 41 (s.data.toList.drop p) = b := ⟨_, rfl⟩
     have H4 := Lib.hid (takes174 w0 wr g s p l ⟨#[41]⟩ b3 hp hs (by decide) ((pref_one s p 41 hp).trans e3) L1 HVr.out.below HVr.out.par)
     have E3 := Lib.hid e3
     clear e3
     go_wp2_with fail
     (with_reducible refine H4.out.mono ?_)
     rintro e w4 ⟨rfl, hb4, hk4, hp4⟩
     have HV4 := Lib.hid (HVr.out.moved HLL.out hb4 hk4 hp4)
     clear hb4 hk4 hp4 H4
     cases b3 with
     | true =>
      have HQ4 := Lib.hid (show Q = some (vs, rr.drop 1) by rw [HQr.out]; unfold restW; rw [← HRR.out, if_pos E3.out]; simp)
      have hlen : vs.length = n := HV4.out.len
      subst hlen
      have hx : LPost w0 wn g B G base s nm l Q (.returned (.tuple #[])) w4 := Or.inr ⟨vs, _, p + 1, _, _, HQ4.out, by rw [← HRR.out, List.drop_drop], next_lt E3.out, rfl, HV4.out⟩
      go_wp2
      first | exact bodyPost_ret (results_none rfl _ _ _) rfl hx | (simp only [Exit.inBlock, Exit.then]; exact bodyPost_ret (results_none rfl _ _ _) rfl hx) | exact ⟨rfl, .tuple #[], results_none rfl _ _ _, hx⟩
     | false =>
      obtain ⟨b4, e4⟩ : ∃ b, nextB 44 (s.data.toList.drop p) = b := ⟨_, rfl⟩
      have H5 := Lib.hid (must187 w0 w4 g s p l ⟨#[44]⟩ b4 hp hs (by decide) ((pref_one s p 44 hp).trans e4) L1 HV4.out.below HV4.out.par)
      have E4 := Lib.hid e4
      clear e4
      go_wp2_with fail
      cases b4 with
      | false =>
       (with_reducible refine H5.out.mono ?_)
       rintro e w5 ⟨hb5, hk5, ⟨-, rfl⟩ | ⟨h, -⟩⟩
       ·exact ⟨rfl, Or.inl ⟨by rw [HQr.out]; unfold restW; rw [← HRR.out, if_neg (by rw [E3.out]; decide), if_neg (by rw [E4.out]; decide)]; rfl, rfl, hb5, HV4.out.keep.trans hk5 (Or.inl rfl)⟩⟩
       ·cases h
      | true =>
       (with_reducible refine H5.out.mono ?_)
       rintro e w5 ⟨hb5, hk5, ⟨h, -⟩ | ⟨-, rfl, hp5⟩⟩
       ·cases h
       have HV5 := Lib.hid (HV4.out.moved HLL.out hb5 hk5 hp5)
       have hp1 : p + 1 ≤ s.size := next_lt E4.out
       have HQ5 := Lib.hid (show Q = (valsW stepP (17 - n) (s.data.toList.drop (p + 1))).map (fun q => (vs ++ q.1, q.2)) by rw [HQr.out]; unfold restW; rw [← HRR.out, if_neg (by rw [E3.out]; decide), if_pos E4.out, List.drop_drop])
       clear hb5 hk5 hp5 H5 HV4
       by_cases h17 : 16 < n
       ·have H6 := Lib.hid (value188a w0 wn w5 g B G base s nm (p + 1) l vs n A c HLL.out HV5.out h17)
        have HQ6 := Lib.hid (show Q = none by rw [HQ5.out, show 17 - n = 0 by omega, valsW]; rfl)
        go_wp2_with fail
        (with_reducible refine H6.out.mono ?_)
        rintro e w6 ⟨rfl, hb6, hk6⟩
        exact ⟨rfl, Or.inl ⟨HQ6.out, rfl, hb6, hk6⟩⟩
       ·cases hq : valW stepP (s.data.toList.drop (p + 1)) with
        | none =>
         have H6 := Lib.hid (value188n w0 wn w5 g B G base s nm (p + 1) l vs n A c HLL.out HV5.out h17 hp1 hs hq)
         have HQ6 := Lib.hid (show Q = none by rw [HQ5.out, show 17 - n = (16 - n) + 1 by omega, valsW_rest, hq]; rfl)
         clear hq
         go_wp2_with fail
         (with_reducible refine H6.out.mono ?_)
         rintro e w6 ⟨rfl, hb6, hk6⟩
         exact ⟨rfl, Or.inl ⟨HQ6.out, rfl, hb6, hk6⟩⟩
        | some q =>
         obtain ⟨v2, r2⟩ := q
         obtain ⟨hr1, hr2⟩ := val_place hq
         obtain ⟨j2, hj2⟩ : ∃ j2 : Nat, s.size - r2.length = j2 := ⟨_, rfl⟩
         obtain ⟨x2, ex2⟩ : ∃ x : ByteArray, (⟨v2.toArray⟩ : ByteArray) = x := ⟨_, rfl⟩
         have H6 := Lib.hid (value188y w0 wn w5 g B G base s nm (p + 1) l vs n A c HLL.out HV5.out h17 hp1 hs v2 r2 j2 x2 ex2 hq (by omega))
         rw [hj2] at hr2
         have HQ6 := Lib.hid (show Q = (restW (17 - (n + 1)) r2).map (fun q => ((vs ++ [x2]) ++ q.1, q.2)) by
          rw [HQ5.out, show 17 - n = (17 - (n + 1)) + 1 by omega, valsW_rest, hq, ← ex2]
          simp only [Option.map_map]
          congr 1
          funext q
          simp)
         have hlt2 : p < j2 := by
          have h1 := (val_suffix hq).length_le
          rw [List.length_drop] at h1
          have h2 : s.data.toList.length = s.size := by simp
          omega
         have HR2 := Lib.hid (And.intro hr2 (show j2 ≤ s.size by omega))
         clear hq ex2 hr1 hr2 hj2
         go_wp2_with fail
         (with_reducible refine H6.out.mono ?_)
         rintro e w6 ⟨A6, c6, rfl, hv6⟩
         have HV6 := Lib.hid hv6
         clear hv6 H6
         go_wp2
         go_roundw
         case rel => exact ⟨n + 1, j2, vs ++ [x2], r2, A6, c6, by omega, by omega, HR2.out.2, Lib.hid HR2.out.1, HQ6, HV6⟩
         case measure =>
          have h1 := HVr.out.par.c1
          have h2 := HV6.out.par.c1
          have h3 := HR2.out.2
          rw [h1, h2]
          simp [intOf]
          omega
end Go.Proofs.Yteafilojjdfllaa
end
section
namespace Go.Proofs
set_option maxHeartbeats 2000000 in
set_option maxRecDepth 100000 in
theorem Try.stringslite_Index_one (s : ByteArray) (c : UInt8) (w : World) :
  Calls Try.prog 195 #[.string s, .string ⟨#[c]⟩] w fun e w' => e = .returned (.int .i64 (Lib.indexByte s.data.toList c)) ∧ w' = w := by
 go_enter Try.func195, Try.ntmps195
 go_wp2_with (go_at_call 168; refine (Try.stringslite_IndexByte _ _ _).mono ?_; rintro e w' ⟨rfl, rfl⟩)
 ·have h : ([c] == s.toList) = true := by assumption
  go_ret
  refine ⟨?_, rfl⟩
  have e : s.data.toList = [c] := by rw [← Lib.toList_data]; exact (beq_iff_eq.1 h).symm
  rw [e]
  simp [Lib.indexByte]
 ·go_ret
  exact ⟨rfl, rfl⟩
set_option maxHeartbeats 1000000 in
theorem Try.strings_Index_one (s : ByteArray) (c : UInt8) (w : World) :
  Calls Try.prog 193 #[.string s, .string ⟨#[c]⟩] w fun e w' => e = .returned (.int .i64 (Lib.indexByte s.data.toList c)) ∧ w' = w := by
 go_enter Try.func193, Try.ntmps193
 go_wp2_with (go_at_call 195; refine (Try.stringslite_Index_one _ _ _).mono ?_; rintro e w' ⟨rfl, rfl⟩)
 go_ret
 exact ⟨rfl, rfl⟩
set_option maxHeartbeats 1000000 in
theorem Try.strings_Contains_one (s : ByteArray) (c : UInt8) (w : World) :
  Calls Try.prog 186 #[.string s, .string ⟨#[c]⟩] w fun e w' => e = .returned (.bool (decide (0 ≤ Lib.indexByte s.data.toList c))) ∧ w' = w := by
 go_enter Try.func186, Try.ntmps186
 go_wp2_with (go_at_call 193; refine (Try.strings_Index_one _ _ _).mono ?_; rintro e w' ⟨rfl, rfl⟩)
 go_ret
 exact ⟨rfl, rfl⟩
namespace Yteafilojjdfllaa
/-- the four signs -/
def signB (c : UInt8) : Bool := decide (c = 61 ∨ c = 33 ∨ c = 94 ∨ c = 64)
theorem sign_index : ∀ n : Fin 256, decide (0 ≤ Lib.indexByte [61, 33, 94, 64] n.val.toUInt8) = signB n.val.toUInt8 := by decide +kernel
theorem cont186 (w : World) (c : UInt8) (b : Bool) (hb : signB c = b) : Calls Try.prog 186 #[.string ⟨#[61, 33, 94, 64]⟩, .string ⟨#[c]⟩] w fun e w' => e = .returned (.bool b) ∧ w' = w := by
 refine (Try.strings_Contains_one ⟨#[61, 33, 94, 64]⟩ c w).mono ?_
 rintro e w' ⟨rfl, rfl⟩
 refine ⟨?_, rfl⟩
 have h := sign_index ⟨c.toNat, c.toNat_lt⟩
 simp only [show c.toNat.toUInt8 = c from by simp] at h
 rw [← hb, ← h]
end Yteafilojjdfllaa
end Go.Proofs
end
section
namespace Go.Proofs.Yteafilojjdfllaa
open Go Go.RowKit Go.Proofs.YteafilojjdfllaaW.PrintWords Go.Proofs.YteafilojjdfllaaW.PrintLast Go.Proofs.YteafilojjdfllaaW.PrintMore Go.Proofs.Yteafilojjdfllaa.PAll
set_option linter.unusedVariables false
set_option linter.unusedSimpArgs false
theorem cutM_end (k : Nat) : cutM k [] = 0 := by cases k <;> rfl
theorem cutM_sign {k : Nat} {c : UInt8} {r : List UInt8} (h : signB c = true) : cutM k (c :: r) = 0 := by
 cases k with
 | zero => rfl
 | succ k => rw [cutM, if_pos (of_decide_eq_true h)]
theorem cutM_more {k : Nat} {c : UInt8} {r : List UInt8} (h : signB c = false) : cutM (k + 1) (c :: r) = cutM k r + 1 := by
 rw [cutM, if_neg (of_decide_eq_false h)]
theorem one_at (s : ByteArray) (j : Nat) (c : UInt8) (h : j < s.size) (hc : bN s j = c) : s.extract j (j + 1) = ⟨#[c]⟩ := by
 rw [ext_take, bN_drop s j h, hc]
 rfl
/-- are these two bytes next? -/
def next2 (c d : UInt8) (r : List UInt8) : Bool := r.take 2 == [c, d]
theorem pref_two (s : ByteArray) (i : Nat) (c d : UInt8) (hi : i ≤ s.size) : prefB (s.extract i s.size) ⟨#[c, d]⟩ = next2 c d (s.data.toList.drop i) := by
 have hz : (⟨#[c, d]⟩ : ByteArray).size = 2 := rfl
 have hs : (s.extract i s.size).size = s.size - i := by rw [ByteArray.size_extract]; omega
 unfold prefB next2
 rw [hz, hs, ByteArray.toList_eq, ByteArray.toList_eq]
 have hd := ext_take (s.extract i s.size) 0 2
 rw [Nat.zero_add, List.drop_zero, ext_drop] at hd
 rw [hd]
 by_cases h : 2 ≤ s.size - i
 ·rw [decide_eq_true h, Bool.true_and]
 ·rw [decide_eq_false h, Bool.false_and]
  symm
  have hl : ((s.data.toList.drop i).take 2).length ≠ 2 := by simp; omega
  exact beq_eq_false_iff_ne.2 (fun e => hl (by rw [e]; rfl))
theorem next2_lt {s : ByteArray} {i : Nat} {c d : UInt8} (h : next2 c d (s.data.toList.drop i) = true) : i + 2 ≤ s.size := by
 unfold next2 at h
 have h1 := congrArg List.length (eq_of_beq h)
 simp at h1
 omega
/-- behind a name -/
def tailW (n : ByteArray) (r : List UInt8) : Option (S25 × List UInt8) :=
 if nextB 61 r = true then (valW stepP (r.drop 1)).map (fun p => (⟨1, n, ⟨p.1.toArray⟩, [], []⟩, p.2))
 else if next2 33 61 r = true then (valW stepP (r.drop 2)).map (fun p => (⟨2, n, ⟨p.1.toArray⟩, [], []⟩, p.2))
 else if next2 94 61 r = true then (valW stepP (r.drop 2)).map (fun p => (⟨3, n, ⟨p.1.toArray⟩, [], []⟩, p.2))
 else if nextB 64 r = true then (listV (r.drop 1)).map (fun p => (⟨4, n, ⟨#[]⟩, p.1, []⟩, p.2))
 else none
theorem nextB_cons (x c : UInt8) (q : List UInt8) : (nextB x (c :: q) = true) = (c = x) := by unfold nextB; simp
theorem next2_cons (x y c : UInt8) (q : List UInt8) : (next2 x y (c :: q) = true) = (c = x ∧ q.head? = some y) := by unfold next2; cases q <;> simp
theorem namedW_tail (r : List UInt8) : namedW (cutM 33) stepP true r = tailW ⟨(r.take (cutM 33 r)).toArray⟩ (r.drop (cutM 33 r)) := by
 unfold namedW
 generalize (⟨(r.take (cutM 33 r)).toArray⟩ : ByteArray) = n
 generalize r.drop (cutM 33 r) = q
 unfold tailW
 match q with
 | [] => rfl
 | c :: q =>
  simp only [nextB_cons, next2_cons, List.drop_succ_cons, List.drop_zero]
  by_cases h1 : c = 61
  ·rw [if_pos h1, if_pos h1]
  rw [if_neg h1, if_neg h1]
  by_cases h2 : c = 33
  ·subst h2
   rw [if_pos rfl]
   match q with
   | [] => simp
   | e :: q =>
    by_cases he : e = 61
    ·subst he; simp
    ·simp [he]
  rw [if_neg h2, if_neg (show ¬ (c = 33 ∧ q.head? = some 61) from fun h => h2 h.1)]
  by_cases h3 : c = 94
  ·subst h3
   rw [if_pos rfl]
   match q with
   | [] => simp
   | e :: q =>
    by_cases he : e = 61
    ·subst he; simp
    ·simp [he]
  rw [if_neg h3, if_neg (show ¬ (c = 94 ∧ q.head? = some 61) from fun h => h3 h.1)]
  by_cases h4 : c = 64
  ·rw [if_pos h4, if_pos h4]
   unfold listV
   match q with
   | [] => rfl
   | e :: q =>
    simp only [nextB_cons, List.drop_succ_cons, List.drop_zero]
    by_cases he : e = 40
    ·subst he
     rw [if_pos rfl, if_pos rfl]
     by_cases hq : q.head? = some 41
     ·rw [if_pos ⟨trivial, hq⟩, if_pos (by unfold nextB; rw [hq]; rfl)]
      rfl
     ·rw [if_neg (fun h => hq h.2), if_neg (by unfold nextB; simpa using hq)]
    ·rw [if_neg he, if_neg he]
     rfl
  ·rw [if_neg h4, if_neg h4]
end Go.Proofs.Yteafilojjdfllaa
end
section
namespace Go.Proofs.Yteafilojjdfllaa
open Go Go.RowKit Go.Proofs.YteafilojjdfllaaW.PrintWords Go.Proofs.YteafilojjdfllaaW.PrintLast Go.Proofs.YteafilojjdfllaaW.PrintMore Go.Proofs.Yteafilojjdfllaa.PAll
set_option linter.unusedVariables false
set_option linter.unusedSimpArgs false
theorem RedPost.none_ {w0 w w' : World} {g : Nat} {e : Ending} (h : RedPost w0 w g none e w') : e = .panicked badP ∧ Below w0.heap.size w0 w' ∧ KeepBut w w' g none := by
 obtain ⟨h1, h2, ⟨-, h3⟩ | ⟨m, o, A3, c3, A4, c4, h3, -⟩⟩ := h
 ·exact ⟨h3, h1, h2⟩
 ·cases h3
theorem RedPost.some_ {w0 w w' : World} {g : Nat} {e : Ending} {m : S25} {o : Obj} (h : RedPost w0 w g (some (m, o)) e w') : ∃ A3 c3 A4 c4, e = .returned (mV m A3 c3 A4 c4) ∧ Below w0.heap.size w0 w' ∧ KeepBut w w' g none ∧ MF w' (fun b => w.heap.size ≤ b ∧ b < w'.heap.size) m A3 c3 A4 c4 ∧ w'.heap[g]? = some o := by
 obtain ⟨h1, h2, ⟨h3, -⟩ | ⟨m', o', A3, c3, A4, c4, h3, h4, h5, h6⟩⟩ := h
 ·cases h3
 ·simp only [Option.some.injEq, Prod.mk.injEq] at h3
  obtain ⟨rfl, rfl⟩ := h3
  exact ⟨A3, c3, A4, c4, h4, h1, h2, h5, h6⟩
end Go.Proofs.Yteafilojjdfllaa
end
section
namespace Go.Proofs.Yteafilojjdfllaa
open Go Go.RowKit Go.Proofs.YteafilojjdfllaaW.PrintWords Go.Proofs.YteafilojjdfllaaW.PrintLast Go.Proofs.YteafilojjdfllaaW.PrintMore Go.Proofs.Yteafilojjdfllaa.PAll
set_option linter.unusedVariables false
set_option linter.unusedSimpArgs false
theorem cutM_le : ∀ (k : Nat) (r : List UInt8), cutM k r ≤ r.length
 | 0, r => by rw [cutM]; exact Nat.zero_le _
 | k + 1, [] => by rw [cutM_end]; exact Nat.zero_le _
 | k + 1, c :: r => by
  rw [cutM]
  have := cutM_le k r
  split <;> simp <;> omega
theorem ct_next {ct p i : Nat} {c : UInt8} {r : List UInt8} (hip : i ≤ p) (h32 : p - i ≤ 32) (h : ct = (p - i) + cutM (33 - (p - i)) (c :: r)) (hs : signB c = false) : ct = (p + 1 - i) + cutM (33 - (p + 1 - i)) r ∧ i ≤ p + 1 ∧ p + 1 ≤ i + 33 := by
 obtain ⟨k, hk⟩ : ∃ k, 33 - (p - i) = k + 1 := ⟨32 - (p - i), by omega⟩
 rw [hk, cutM_more hs] at h
 rw [show 33 - (p + 1 - i) = k by omega]
 omega
theorem ct_sign {ct p i e : Nat} {c : UInt8} {r : List UInt8} (hip : i ≤ p) (h : ct = (p - i) + cutM (33 - (p - i)) (c :: r)) (hs : signB c = true) (he : i + ct = e) : p = e := by
 rw [cutM_sign hs] at h
 omega
/-- the parser's block, as an object -/
abbrev pObj (s : ByteArray) (j : Nat) (l : Int) : Obj := .cells #[.string s, .int .i64 (j : Int), .int .i64 l] 172 (0, 0)
/-- the result is laid into its block: what is said of the end -/
theorem nam_tail {w0 w W : World} {g K : Nat} {o : Obj} {m : S25} {A3 A4 : Option Addr} {c3 c4 : Nat} (hK : w.heap.size ≤ K) (hb : W.heap[K]? = some (.cells Z5 25 (0, 0))) (hg : w0.heap.size ≤ g) (hgl : g < w.heap.size) (hw0 : w0.heap.size ≤ w.heap.size) (hB : Below w0.heap.size w0 W) (hKB : KeepBut w W g none) (hO : W.heap[g]? = some o) (hM : MF W (fun b => K < b ∧ b < W.heap.size) m A3 c3 A4 c4) :
  (((((W.setCell ⟨K, 0, none⟩ (.int .i64 m.f0)).setCell ⟨K, 1, none⟩ (.string m.f1)).setCell ⟨K, 2, none⟩ (.string m.f2)).setCell ⟨K, 3, none⟩ (.slice A3 m.f3.length c3)).setCell ⟨K, 4, none⟩ (.slice A4 m.f4.length c4)).heap[K]? = some (.cells #[.int .i64 m.f0, .string m.f1, .string m.f2, .slice A3 m.f3.length c3, .slice A4 m.f4.length c4] 25 (0, 0)) ∧
  RedPost w0 w g (some (m, o)) (.returned (mV m A3 c3 A4 c4)) (((((W.setCell ⟨K, 0, none⟩ (.int .i64 m.f0)).setCell ⟨K, 1, none⟩ (.string m.f1)).setCell ⟨K, 2, none⟩ (.string m.f2)).setCell ⟨K, 3, none⟩ (.slice A3 m.f3.length c3)).setCell ⟨K, 4, none⟩ (.slice A4 m.f4.length c4)) := by
 have far : ∀ i, i ≠ K → (((((W.setCell ⟨K, 0, none⟩ (.int .i64 m.f0)).setCell ⟨K, 1, none⟩ (.string m.f1)).setCell ⟨K, 2, none⟩ (.string m.f2)).setCell ⟨K, 3, none⟩ (.slice A3 m.f3.length c3)).setCell ⟨K, 4, none⟩ (.slice A4 m.f4.length c4)).heap[i]? = W.heap[i]? := fun i hne =>
  (Below.heap_setCell _ _ _ _ hne).trans ((Below.heap_setCell _ _ _ _ hne).trans ((Below.heap_setCell _ _ _ _ hne).trans ((Below.heap_setCell _ _ _ _ hne).trans (Below.heap_setCell _ _ _ _ hne))))
 have hwK : w0.heap.size ≤ K := by omega
 have hs : ∀ x0 x1 x2 x3 x4, (((((W.setCell ⟨K, 0, none⟩ x0).setCell ⟨K, 1, none⟩ x1).setCell ⟨K, 2, none⟩ x2).setCell ⟨K, 3, none⟩ x3).setCell ⟨K, 4, none⟩ x4).heap.size = W.heap.size := fun _ _ _ _ _ => by simp
 refine ⟨(blk_set (blk_set (blk_set (blk_set (blk_set hb 0 _) 1 _) 2 _) 3 _) 4 _).trans (by rfl), ?_, ?_, Or.inr ⟨m, o, A3, c3, A4, c4, rfl, rfl, ?_, ?_⟩⟩
 ·exact ((((hB.setCell hwK _).setCell hwK _).setCell hwK _).setCell hwK _).setCell hwK _
 ·refine ⟨by rw [hs]; exact hKB.1, fun i hi h1 h2 => ?_⟩
  exact (far i (by omega)).trans (hKB.2 i hi h1 h2)
 ·refine hM.move (fun b hb => ⟨⟨by omega, by rw [hs]; exact hb.2⟩, far b (by omega)⟩)
 ·exact (far g (by omega)).trans hO
/-- the world while a matcher that begins with a name is read -/
structure NS (w0 wn W : World) (g B K G : Nat) (s nm : ByteArray) (j : Nat) (l op : Int) : Prop where
 below : Below w0.heap.size w0 W
 keep : KeepBut wn W g none
 size : G < W.heap.size
 box : W.heap[B]? = some (.cells #[.pointer (some ⟨g, 0, none⟩)] 170 (0, 0))
 res : W.heap[K]? = some (.cells Z5 25 (0, 0))
 blk : W.heap[G]? = some (.cells #[.int .i64 op, .string nm, .string ⟨#[]⟩, .slice none 0 0, .slice none 0 0] 25 (0, 0))
 par : PB W g s j l
/-- where these lie -/
structure NL (w0 w wn : World) (g B K G : Nat) : Prop where
 g0 : w0.heap.size ≤ g
 gl : g < w.heap.size
 w0l : w0.heap.size ≤ w.heap.size
 eB : w.heap.size = B
 eK : B + 1 = K
 eG : wn.heap.size = G
 lK : K + 1 ≤ G
section
variable {w0 w wn W W' : World} {g B K G : Nat} {s nm : ByteArray} {i j : Nat} {l op : Int}
theorem NS.moved (h : NS w0 wn W g B K G s nm i l op) (L : NL w0 w wn g B K G) (hB : Below w0.heap.size w0 W') (hK : KeepBut W W' g none) (hP : PB W' g s j l) : NS w0 wn W' g B K G s nm j l op := by
 obtain ⟨L1, L2, L0, L3, L4, L5, L6⟩ := L
 have hs := h.size
 have hs2 := hK.1
 exact ⟨hB, h.keep.trans hK (Or.inl rfl), by omega, (hK.2 B (by omega) (by omega) (by simp)).trans h.box, (hK.2 K (by omega) (by omega) (by simp)).trans h.res, (hK.2 G (by omega) (by omega) (by simp)).trans h.blk, hP⟩
theorem NS.setop (h : NS w0 wn W g B K G s nm i l op) (L : NL w0 w wn g B K G) (o : Int) : NS w0 wn (W.setCell ⟨G, 0, none⟩ (.int .i64 o)) g B K G s nm i l o := by
 obtain ⟨L1, L2, L0, L3, L4, L5, L6⟩ := L
 have hk := h.keep
 exact ⟨h.below.setCell (show w0.heap.size ≤ G by omega) _, ⟨by simpa using hk.1, fun i hi h1 h2 => (Below.heap_setCell _ _ _ _ (show i ≠ G by omega)).trans (hk.2 i hi h1 h2)⟩, by simpa using h.size,
  (Below.heap_setCell _ _ _ _ (show B ≠ G by omega)).trans h.box, (Below.heap_setCell _ _ _ _ (show K ≠ G by omega)).trans h.res, (blk_set h.blk 0 _).trans (by rfl), (Below.heap_setCell _ _ _ _ (show g ≠ G by omega)).trans h.par⟩
theorem NS.cB (h : NS w0 wn W g B K G s nm i l op) : W.cell? ⟨B, 0, none⟩ = some (.pointer (some ⟨g, 0, none⟩)) := (blk_cell h.box 0).trans rfl
theorem NS.zG (h : NS w0 wn W g B K G s nm i l op) (k : Nat) : W.frozen? ⟨G, k, none⟩ = false := blk_frozen h.blk k
theorem NS.zK (h : NS w0 wn W g B K G s nm i l op) (k : Nat) : W.frozen? ⟨K, k, none⟩ = false := blk_frozen h.res k
theorem NS.c0 (h : NS w0 wn W g B K G s nm i l op) : W.cell? ⟨G, 0, none⟩ = some (.int .i64 op) := (blk_cell h.blk 0).trans rfl
theorem NS.c1 (h : NS w0 wn W g B K G s nm i l op) : W.cell? ⟨G, 1, none⟩ = some (.string nm) := (blk_cell h.blk 1).trans rfl
theorem NS.c2 (h : NS w0 wn W g B K G s nm i l op) : W.cell? ⟨G, 2, none⟩ = some (.string ⟨#[]⟩) := (blk_cell h.blk 2).trans rfl
theorem NS.c3 (h : NS w0 wn W g B K G s nm i l op) : W.cell? ⟨G, 3, none⟩ = some (.slice none 0 0) := (blk_cell h.blk 3).trans rfl
theorem NS.c4 (h : NS w0 wn W g B K G s nm i l op) : W.cell? ⟨G, 4, none⟩ = some (.slice none 0 0) := (blk_cell h.blk 4).trans rfl
theorem NS.k0 (h : NS w0 wn W g B K G s nm i l op) : W.cell? ⟨K, 0, none⟩ = some (.int .i64 0) := (blk_cell h.res 0).trans rfl
theorem NS.k1 (h : NS w0 wn W g B K G s nm i l op) : W.cell? ⟨K, 1, none⟩ = some (.string ⟨#[]⟩) := (blk_cell h.res 1).trans rfl
theorem NS.k2 (h : NS w0 wn W g B K G s nm i l op) : W.cell? ⟨K, 2, none⟩ = some (.string ⟨#[]⟩) := (blk_cell h.res 2).trans rfl
theorem NS.k3 (h : NS w0 wn W g B K G s nm i l op) : W.cell? ⟨K, 3, none⟩ = some (.slice none 0 0) := (blk_cell h.res 3).trans rfl
theorem NS.k4 (h : NS w0 wn W g B K G s nm i l op) : W.cell? ⟨K, 4, none⟩ = some (.slice none 0 0) := (blk_cell h.res 4).trans rfl
end
noncomputable def tabR175_2 : Bool × List (List Nat × List Nat) := rtab .any (opsOf Try.f175 2)
theorem tabR175_2_eq : rtab .any (opsOf Try.f175 2) = tabR175_2 := rfl
set_option maxRecDepth 100000 in
set_option maxHeartbeats 64000000 in
/-- named. -/
theorem named175 (w0 w : World) (g : Nat) (s : ByteArray) (i : Nat) (l : Int) (hi : i ≤ s.size) (hs : s.size ≤ 1000000000) (hg : w0.heap.size ≤ g) (hB : Below w0.heap.size w0 w) (hP : PB w g s i l) :
  Calls Try.prog 175 #[.pointer (some ⟨g, 0, none⟩)] w (RedPost w0 w g ((namedW (cutM 33) stepP true (s.data.toList.drop i)).map fun q => (q.1, pObj s (s.size - q.2.length) l))) := by
 obtain ⟨ct, hct⟩ : ∃ ct, cutM 33 (s.data.toList.drop i) = ct := ⟨_, rfl⟩
 obtain ⟨e, he⟩ : ∃ e, i + ct = e := ⟨_, rfl⟩
 obtain ⟨nm, hnm⟩ : ∃ nm : ByteArray, s.extract i e = nm := ⟨_, rfl⟩
 obtain ⟨Q, hQ⟩ : ∃ Q, tailW nm (s.data.toList.drop e) = Q := ⟨_, rfl⟩
 have hQ0 : namedW (cutM 33) stepP true (s.data.toList.drop i) = Q := by
  rw [namedW_tail, hct, List.drop_drop, he, ← ext_take, he, hnm, hQ]
 rw [hQ0]
 have HQ := Lib.hid hQ
 have HCT := Lib.hid hct
 have HE := Lib.hid he
 have HNM := Lib.hid hnm
 have HB := Lib.hid hB
 have HPP := Lib.hid hP
 have HWS := Lib.hid hB.size
 have p1 := hP.c1
 have hgl := hP.lt
 have HGL := Lib.hid hgl
 clear hQ hQ0 hB hP hct he hnm
 go_enter Try.func175, Try.ntmps175
 go_upto_block 0 with fail
 obtain ⟨V, eV⟩ : ∃ V, V = (w.alloc (.cells #[.pointer (some ⟨g, 0, none⟩)] 170)).alloc (.cells Z5 25) := ⟨_, rfl⟩
 rw [← eV]
 obtain ⟨B, eB⟩ : ∃ B, w.heap.size = B := ⟨_, rfl⟩
 obtain ⟨K, eK⟩ : ∃ K, B + 1 = K := ⟨_, rfl⟩
 rw [eB, eK]
 have HBV : Hid (Below w.heap.size w V) := Lib.hid (by rw [eV]; exact below_alloc (below_alloc (Below.refl _ _) _) _)
 have HVB : Hid (V.heap[B]? = some (.cells #[.pointer (some ⟨g, 0, none⟩)] 170 (0, 0))) := Lib.hid (by
  rw [eV, ← eB]
  exact (Below.heap_alloc _ _ _ (blk_lt (blk_new w _))).trans (blk_new w _))
 have HVK : Hid (V.heap[K]? = some (.cells Z5 25 (0, 0))) := Lib.hid (by
  rw [eV, ← eK, ← eB]
  have h := blk_new (w.alloc (.cells #[.pointer (some ⟨g, 0, none⟩)] 170)) (.cells Z5 25)
  rwa [World.size_alloc] at h)
 have HVS : Hid (K + 1 ≤ V.heap.size) := Lib.hid (by rw [eV, World.size_alloc, World.size_alloc]; omega)
 have EB := Lib.hid eB
 have EK := Lib.hid eK
 have HGB := Lib.hid (show B ≠ g by omega)
 have HGK := Lib.hid (show K ≠ g by omega)
 clear eV
 go_cut [] from 9 to 52 (fun wx => Hid (PB wx g s e l) ∧ Hid (wx.heap[B]? = some (.cells #[.pointer (some ⟨g, 0, none⟩)] 170 (0, 0))) ∧ Hid (wx.heap[K]? = some (.cells Z5 25 (0, 0))) ∧ Hid (Below w0.heap.size w0 wx) ∧ Hid (KeepBut w wx g none) ∧ Hid (K + 1 ≤ wx.heap.size))
 case first =>
  go_wp2_with fail
  go_loopw [] (fun wr => ∃ (p : Nat), i ≤ p ∧ p ≤ s.size ∧ p ≤ i + 33 ∧ Hid (ct = (p - i) + cutM (33 - (p - i)) (s.data.toList.drop p)) ∧ Hid (wr.heap[B]? = some (.cells #[.pointer (some ⟨g, 0, none⟩)] 170 (0, 0))) ∧ Hid (wr.heap[K]? = some (.cells Z5 25 (0, 0))) ∧ Hid (PB wr g s p l) ∧ Hid (Below w0.heap.size w0 wr) ∧ Hid (KeepBut w wr g none) ∧ Hid (K + 1 ≤ wr.heap.size))
   (fun wr => s.size - (intOf ((wr.cell? ⟨g, 1, none⟩).getD undef)).toNat)
  case atStart => exact ⟨i, Nat.le_refl _, hi, by omega, Lib.hid (by rw [Nat.sub_self, Nat.zero_add]; exact HCT.out.symm), HVB, HVK, Lib.hid (HPP.out.below HBV.out), Lib.hid (below_step HB.out HBV.out), Lib.hid (KeepBut.of_below HBV.out g none), HVS⟩
  case round =>
   obtain ⟨p, hip, hp, hp33, HC, HBX, HKX, HPX, HBW, HKW, HSZ⟩ := hrel
   have fin : Hid (∀ W, Below wr.heap.size wr W → p = e → (Hid (PB W g s e l) ∧ Hid (W.heap[B]? = some (.cells #[.pointer (some ⟨g, 0, none⟩)] 170 (0, 0))) ∧ Hid (W.heap[K]? = some (.cells Z5 25 (0, 0))) ∧ Hid (Below w0.heap.size w0 W) ∧ Hid (KeepBut w W g none) ∧ Hid (K + 1 ≤ W.heap.size))) := Lib.hid (fun W hb hpe => by
    rw [← hpe]
    exact ⟨Lib.hid (HPX.out.below hb), Lib.hid ((hb.block B (blk_lt HBX.out)).trans HBX.out), Lib.hid ((hb.block K (blk_lt HKX.out)).trans HKX.out), Lib.hid (below_step HBW.out hb), Lib.hid (HKW.out.trans (KeepBut.of_below hb g none) (Or.inl rfl)), Lib.hid (Nat.le_trans HSZ.out hb.size)⟩)
   have g0 := HPX.out.c0
   have g1 := HPX.out.c1
   have gB : wr.cell? ⟨B, 0, none⟩ = some (.pointer (some ⟨g, 0, none⟩)) := (blk_cell HBX.out 0).trans rfl
   have hw1 : wrap64 ((p : Int) - (i : Int)) = (p : Int) - (i : Int) := by unfold wrap64; omega
   by_cases hlt : p < s.size
   ·have dl : decide (p < s.size) = true := decide_eq_true hlt
    have dlI : decide ((p : Int) < (s.size : Int)) = true := decide_eq_true (by omega)
    by_cases h32 : p - i ≤ 32
    ·have d32 : decide ((p : Int) - (i : Int) ≤ 32) = true := decide_eq_true (by omega)
     obtain ⟨c, hc⟩ : ∃ c, bN s p = c := ⟨_, rfl⟩
     obtain ⟨b, hb⟩ : ∃ b, signB c = b := ⟨_, rfl⟩
     have hsl : s.extract p (p + 1) = ⟨#[c]⟩ := one_at s p c hlt hc
     have HX := Lib.hid hc
     have HSB := Lib.hid hb
     have hp1 : wrap64 ((p : Int) + 1) = ((p + 1 : Nat) : Int) := by unfold wrap64; omega
     have hp0 : (0 : Int) ≤ (p : Int) + 1 := Int.natCast_nonneg (p + 1)
     have hpp : (p : Int) ≤ (p : Int) + 1 := Int.ofNat_le.2 (Nat.le_succ p)
     have hpI : (p : Int) + 1 ≤ (s.size : Int) := Int.ofNat_le.2 (show p + 1 ≤ s.size from hlt)
     clear hc hb
     cases b with
     | true =>
      go_wp2_with fail
      have f0 := fun W (hb : Below wr.heap.size wr W) => pw_cell_below hb g0
      have f1 := fun W (hb : Below wr.heap.size wr W) => pw_cell_below hb g1
      have fB := fun W (hb : Below wr.heap.size wr W) => pw_cell_below hb gB
      refine start_ (n := 37) (S := fun W => Below wr.heap.size wr W) (ds := []) (msk 37 [0, 1, 2, 3, 4, 5, 6, 7, 8, 9, 10, 15, 11, 12, 13, 14, 16, 17, 18, 19, 20, 21, 22, 23, 24, 25, 26, 27, 28, 29, 30, 31, 32, 33, 34, 35, 36] 0).toArray (by kernel_rfl) rfl rfl (below_drew (Below.refl _ _)) (fun hHeld => ?_)
      refine with_tab (T := tabR175_2) tabR175_2_eq (fun HT_ => ?_)
      iterate 34 (first | (refine pureO HT_.out (N := some _) (v := ?_) (a' := ?_) rfl rfl (by kernel_rfl) (fun _ _ _ h => h) (Or.inl ⟨by rfl, ?_⟩) ?_ ?_; rotate_left; intro w'; go_simp; (with_reducible rfl); rotate_left; simp only [Act.put, List.setIfInBounds_toArray, List.set_cons_zero, List.set_cons_succ, i64_w, i32_w]; rfl) | (refine takeO HT_.out (N := some _) (v := ?_) (a' := ?_) rfl rfl (by kernel_rfl) (fun _ _ _ h => h) (Or.inl ⟨by rfl, ?_⟩) hHeld ?_ ?_; rotate_left; intro w' hh; have q0 := f0 w' hh; have q1 := f1 w' hh; have qB := fB w' hh; go_simp; (with_reducible rfl); rotate_left; simp only [Act.put, List.setIfInBounds_toArray, List.set_cons_zero, List.set_cons_succ, i64_w, i32_w]; rfl))
      refine oneO (i := 34) (N := some 43) HT_.out rfl rfl (by kernel_rfl) (by decide) (fun K_ hK_ => ?_)
      refine goes_ Try.func186 (by kernel_rfl) rfl #[.string ⟨#[61, 33, 94, 64]⟩, .string ⟨#[c]⟩] (by rfl) rfl rfl (by (try simp only [List.map_toArray, List.map_cons, List.map_nil]); first | done | rfl) ?_
      (with_reducible refine (cont186 _ c true HSB.out).mono ?_)
      rintro e w9 ⟨rfl, rfl⟩
      refine ⟨_, rfl, ?_⟩
      refine hK_.out _ _ (hHeld) (fun hHeld => ?_)
      clear hK_ K_
      try simp only [Act.put, List.setIfInBounds_toArray, List.set_cons_zero, List.set_cons_succ]
      iterate 2 (refine pureO HT_.out (N := some _) (v := ?_) (a' := ?_) rfl rfl (by kernel_rfl) (fun _ _ _ h => h) (Or.inl ⟨by rfl, ?_⟩) ?_ ?_; rotate_left; intro w'; go_simp; (with_reducible rfl); rotate_left; simp only [Act.put, List.setIfInBounds_toArray, List.set_cons_zero, List.set_cons_succ, i64_w, i32_w]; rfl)
      refine done_ (done_of HT_.out (by kernel_rfl)) ?_
      clear f0 f1 fB
      go_wp2
      go_meet
      case rel => exact fin.out _ (by first | exact hHeld | exact below_drew (Below.refl _ _) | exact pw_below_drewN (Below.refl _ _) _) (ct_sign hip (by have h := HC.out; rwa [bN_drop s p hlt, HX.out] at h) HSB.out HE.out)
     | false =>
      go_wp2_with fail
      have f0 := fun W (hb : Below wr.heap.size wr W) => pw_cell_below hb g0
      have f1 := fun W (hb : Below wr.heap.size wr W) => pw_cell_below hb g1
      have fB := fun W (hb : Below wr.heap.size wr W) => pw_cell_below hb gB
      refine start_ (n := 37) (S := fun W => Below wr.heap.size wr W) (ds := []) (msk 37 [0, 1, 2, 3, 4, 5, 6, 7, 8, 9, 10, 15, 11, 12, 13, 14, 16, 17, 18, 19, 20, 21, 22, 23, 24, 25, 26, 27, 28, 29, 30, 31, 32, 33, 34, 35, 36] 0).toArray (by kernel_rfl) rfl rfl (below_drew (Below.refl _ _)) (fun hHeld => ?_)
      refine with_tab (T := tabR175_2) tabR175_2_eq (fun HT_ => ?_)
      iterate 34 (first | (refine pureO HT_.out (N := some _) (v := ?_) (a' := ?_) rfl rfl (by kernel_rfl) (fun _ _ _ h => h) (Or.inl ⟨by rfl, ?_⟩) ?_ ?_; rotate_left; intro w'; go_simp; (with_reducible rfl); rotate_left; simp only [Act.put, List.setIfInBounds_toArray, List.set_cons_zero, List.set_cons_succ, i64_w, i32_w]; rfl) | (refine takeO HT_.out (N := some _) (v := ?_) (a' := ?_) rfl rfl (by kernel_rfl) (fun _ _ _ h => h) (Or.inl ⟨by rfl, ?_⟩) hHeld ?_ ?_; rotate_left; intro w' hh; have q0 := f0 w' hh; have q1 := f1 w' hh; have qB := fB w' hh; go_simp; (with_reducible rfl); rotate_left; simp only [Act.put, List.setIfInBounds_toArray, List.set_cons_zero, List.set_cons_succ, i64_w, i32_w]; rfl))
      refine oneO (i := 34) (N := some 43) HT_.out rfl rfl (by kernel_rfl) (by decide) (fun K_ hK_ => ?_)
      refine goes_ Try.func186 (by kernel_rfl) rfl #[.string ⟨#[61, 33, 94, 64]⟩, .string ⟨#[c]⟩] (by rfl) rfl rfl (by (try simp only [List.map_toArray, List.map_cons, List.map_nil]); first | done | rfl) ?_
      (with_reducible refine (cont186 _ c false HSB.out).mono ?_)
      rintro e w9 ⟨rfl, rfl⟩
      refine ⟨_, rfl, ?_⟩
      refine hK_.out _ _ (hHeld) (fun hHeld => ?_)
      clear hK_ K_
      try simp only [Act.put, List.setIfInBounds_toArray, List.set_cons_zero, List.set_cons_succ]
      iterate 2 (refine pureO HT_.out (N := some _) (v := ?_) (a' := ?_) rfl rfl (by kernel_rfl) (fun _ _ _ h => h) (Or.inl ⟨by rfl, ?_⟩) ?_ ?_; rotate_left; intro w'; go_simp; (with_reducible rfl); rotate_left; simp only [Act.put, List.setIfInBounds_toArray, List.set_cons_zero, List.set_cons_succ, i64_w, i32_w]; rfl)
      refine done_ (done_of HT_.out (by kernel_rfl)) ?_
      clear f0 f1 fB
      have HNX := Lib.hid (ct_next (ct := ct) (r := s.data.toList.drop (p + 1)) hip h32 (HC.out.trans (by rw [bN_drop s p hlt, HX.out])) HSB.out)
      have HPX1 := Lib.hid (HPX.out.below hHeld)
      have HBX1 := Lib.hid ((hHeld.block B (blk_lt HBX.out)).trans HBX.out)
      have HKX1 := Lib.hid ((hHeld.block K (blk_lt HKX.out)).trans HKX.out)
      have HBW1 := Lib.hid (below_step HBW.out hHeld)
      have HKW1 := Lib.hid (HKW.out.trans (KeepBut.of_below hHeld g none) (Or.inl rfl))
      have HSZ1 := Lib.hid (Nat.le_trans HSZ.out hHeld.size)
      have e1 := HPX1.out.c1
      have z1 := HPX1.out.z1
      have eB1 := (blk_cell HBX1.out 0)
      simp only [List.getElem?_toArray, List.getElem?_cons_zero] at eB1
      have hgB : B ≠ g := HGB.out
      have hgK : K ≠ g := HGK.out
      clear g0 g1 gB hp0 hpp hpI hsl hw1 hHeld
      go_wp2
      go_roundw
      case rel => exact ⟨p + 1, HNX.out.2.1, hlt, HNX.out.2.2, Lib.hid HNX.out.1, Lib.hid ((Below.heap_setCell _ _ _ _ hgB).trans HBX1.out), Lib.hid ((Below.heap_setCell _ _ _ _ hgK).trans HKX1.out), Lib.hid (HPX1.out.set1 (p + 1)), Lib.hid (HBW1.out.setCell hg _), Lib.hid (HKW1.out.set_ 1 _), Lib.hid (by have := HSZ1.out; simpa using this)⟩
      case measure => exact measS hlt HPX.out.c1 (HPX1.out.set1 (p + 1)).c1
    ·have d32 : decide ((p : Int) - (i : Int) ≤ 32) = false := decide_eq_false (by omega)
     go_wp2_with fail
     go_quiet (fail)
     go_wp2
     go_meet
     case rel => exact fin.out _ (by first | exact hHeld | exact below_drew (Below.refl _ _) | exact pw_below_drewN (Below.refl _ _) _) (by have h := HC.out; rw [show 33 - (p - i) = 0 by omega, cutM] at h; have := HE.out; omega)
   ·have dl : decide (p < s.size) = false := decide_eq_false hlt
    have dlI : decide ((p : Int) < (s.size : Int)) = false := decide_eq_false (by omega)
    go_wp2_with fail
    go_quiet (fail)
    go_wp2
    go_meet
    case rel => exact fin.out _ (by first | exact hHeld | exact below_drew (Below.refl _ _) | exact pw_below_drewN (Below.refl _ _) _) (by have h := HC.out; rw [List.drop_of_length_le (by simp; omega), cutM_end] at h; have := HE.out; omega)
 case rest =>
  obtain ⟨HPx, HBx, HKx, HB0, HK0, HSZ⟩ := hcut
  clear HVB HVK HBV HVS
  obtain ⟨G, eG⟩ : ∃ G, wc.heap.size = G := ⟨_, rfl⟩
  have HL := Lib.hid (show NL w0 w wc g B K G from ⟨hg, HGL.out, HWS.out, EB.out, EK.out, eG, by have := HSZ.out; omega⟩)
  obtain ⟨Z, eZ⟩ : ∃ Z, Z = wc.alloc (.cells Z5 25) := ⟨_, rfl⟩
  have hZB : Below wc.heap.size wc Z := by rw [eZ]; exact below_alloc (Below.refl _ _) _
  have g0 := HPx.out.c0
  have g1 := HPx.out.c1
  have gB : wc.cell? ⟨B, 0, none⟩ = some (.pointer (some ⟨g, 0, none⟩)) := (blk_cell HBx.out 0).trans rfl
  have y0 := (HPx.out.below hZB).c0
  have y1 := (HPx.out.below hZB).c1
  have yB : Z.cell? ⟨B, 0, none⟩ = some (.pointer (some ⟨g, 0, none⟩)) := (blk_cell ((hZB.block B (blk_lt HBx.out)).trans HBx.out) 0).trans rfl
  rw [eZ] at y0 y1 yB
  have hieI : (i : Int) ≤ (e : Int) := by have := HE.out; omega
  have hesI : (e : Int) ≤ (s.size : Int) := by have := cutM_le 33 (s.data.toList.drop i); rw [HCT.out] at this; have h2 := HE.out; simp at this; omega
  have hex := HNM.out
  go_wp2_with fail
  go_region
  obtain ⟨W4, eW4⟩ : ∃ W4, W4 = (wc.alloc (.cells #[.int .i64 0, .string nm, .string ⟨#[]⟩, .slice none 0 0, .slice none 0 0] 25)).drew := ⟨_, rfl⟩
  rw [← eW4]
  have hB4 : Below wc.heap.size wc W4 := by rw [eW4]; exact below_drew (below_alloc (Below.refl _ _) _)
  have HN4 : Hid (NS w0 wc W4 g B K G s nm e l 0) := Lib.hid ⟨below_step HB0.out hB4, KeepBut.of_below hB4 g none, by rw [eW4, World.size_drew, World.size_alloc]; omega, (hB4.block B (blk_lt HBx.out)).trans HBx.out, (hB4.block K (blk_lt HKx.out)).trans HKx.out, by rw [eW4, ← eG]; exact blk_new wc _, HPx.out.below hB4⟩
  have hes : e ≤ s.size := by omega
  have HQR : Hid (RedPost w0 w g none (.panicked badP) = RedPost w0 w g none (.panicked badP)) := Lib.hid rfl
  have HKc := HKx
  clear g0 g1 gB y0 y1 yB hieI hesI hex eZ hZB Z eW4 hB4 HPx HBx HKx HB0 p1 hgl eB eK HSZ
  have cB := HN4.out.cB
  have HNE := Lib.hid (show K ≠ G by have := HL.out.lK; omega)
  obtain ⟨b1, e1⟩ : ∃ b, nextB 61 (s.data.toList.drop e) = b := ⟨_, rfl⟩
  have H1 := Lib.hid (takes174 w0 W4 g s e l ⟨#[61]⟩ b1 hes hs (by decide) ((pref_one s e 61 hes).trans e1) hg HN4.out.below HN4.out.par)
  have E1 := Lib.hid e1
  clear e1
  go_wp2_with fail
  (with_reducible refine H1.out.mono ?_)
  rintro ee w5 ⟨rfl, hb5, hk5, hp5⟩
  cases b1 with
  | true =>
   have HN5 : Hid (NS w0 wc w5 g B K G s nm (e + 1) l 0) := Lib.hid (HN4.out.moved HL.out hb5 hk5 hp5)
   have HE5 : Hid (e + 1 ≤ s.size) := Lib.hid (next_lt E1.out)
   clear hb5 hk5 hp5 H1 cB
   have HNs := Lib.hid (HN5.out.setop HL.out 1)
   have c50 := HN5.out.c0
   have z50 := HN5.out.zG 0
   have cB6 := HNs.out.cB
   cases hq : valW stepP (s.data.toList.drop (e + 1)) with
   | none =>
    have H6 := Lib.hid (value189n w0 (w5.setCell ⟨G, 0, none⟩ (.int .i64 1)) g s (e + 1) l hq HE5.out hs hg HNs.out.below HNs.out.par)
    have HQ6 := Lib.hid (show Q = none by rw [← HQ.out]; unfold tailW; rw [if_pos E1.out, List.drop_drop]; rw [hq]; rfl)
    clear hq
    go_wp2_with fail
    (with_reducible refine H6.out.mono ?_)
    rintro ee w61 ⟨hb61, hk61, rfl⟩
    exact ⟨rfl, hb61, HK0.out.trans (HNs.out.keep.trans hk61 (Or.inl rfl)) (Or.inl rfl), Or.inl ⟨by rw [HQ6.out]; rfl, rfl⟩⟩
   | some q =>
    obtain ⟨v, r⟩ := q
    obtain ⟨hr1, hr2⟩ := val_place hq
    obtain ⟨j2, hj2⟩ : ∃ j2 : Nat, s.size - r.length = j2 := ⟨_, rfl⟩
    obtain ⟨x2, ex2⟩ : ∃ x : ByteArray, (⟨v.toArray⟩ : ByteArray) = x := ⟨_, rfl⟩
    have h6 := value189y w0 (w5.setCell ⟨G, 0, none⟩ (.int .i64 1)) g s (e + 1) l v r j2 hq (by omega) HE5.out hs hg HNs.out.below HNs.out.par
    rw [ex2] at h6
    have H6 := Lib.hid h6
    have HQ6 := Lib.hid (show Q = some (⟨1, nm, x2, [], []⟩, r) by rw [← HQ.out]; unfold tailW; rw [if_pos E1.out, List.drop_drop]; rw [hq, ← ex2]; rfl)
    have HJ2 := Lib.hid hj2
    clear hq hr1 hr2 hj2 ex2 h6
    go_wp2_with fail
    (with_reducible refine H6.out.mono ?_)
    rintro ee w71 ⟨hb71, hk71, rfl, hp71⟩
    have HNt := Lib.hid (HNs.out.moved HL.out hb71 hk71 hp71)
    have cB7 := HNt.out.cB
    have hKG : K ≠ G := HNE.out
    have hGK : G ≠ K := HNE.out.symm
    clear hb71 hk71 hp71 H6 c50 z50 cB6
    have y0 := HNt.out.c0
    have y1 := HNt.out.c1
    have y2 := HNt.out.c2
    have y3 := HNt.out.c3
    have y4 := HNt.out.c4
    have xk0 := HNt.out.k0
    have xk1 := HNt.out.k1
    have xk2 := HNt.out.k2
    have xk3 := HNt.out.k3
    have xk4 := HNt.out.k4
    have xz0 := HNt.out.zK 0
    have xz1 := HNt.out.zK 1
    have xz2 := HNt.out.zK 2
    have xz3 := HNt.out.zK 3
    have xz4 := HNt.out.zK 4
    have yz2 := HNt.out.zG 2
    go_wp2
    have h71 := HNt.out
    obtain ⟨L1, L2, L0, L3, L4, L5, L6⟩ := HL.out
    have hk71 := HK0.out.trans h71.keep (Or.inl rfl)
    have hT := nam_tail (m := ⟨1, nm, x2, [], []⟩) (A3 := none) (c3 := 0) (A4 := none) (c4 := 0) (W := w71.setCell ⟨G, 2, none⟩ (.string x2)) (w := w) (w0 := w0) (g := g) (K := K) (o := pObj s j2 l) (by omega) ((Below.heap_setCell _ _ _ _ hKG).trans h71.res) hg L2 L0 (h71.below.setCell (show w0.heap.size ≤ G by omega) _) ⟨by simpa using hk71.1, fun i hi h1 h2 => (Below.heap_setCell _ _ _ _ (show i ≠ G by omega)).trans (hk71.2 i hi h1 h2)⟩ ((Below.heap_setCell _ _ _ _ (show g ≠ G by omega)).trans h71.par) (fun X _ => ⟨Nat.le_refl _, Kd.C_nil _ _, Nat.le_refl _, Kd.C_nil _ _⟩)
    rw [HQ6.out]
    simp only [Option.map_some, HJ2.out]
    exact bodyPost_ret (results_single rfl (.cell K 25 _ (0, 0) _ rfl hT.1 Try.underlying25 rfl (by kernel_rfl) .nil)) rfl hT.2
  | false =>
   have HN5 : Hid (NS w0 wc w5 g B K G s nm e l 0) := Lib.hid (HN4.out.moved HL.out hb5 hk5 hp5)
   clear hb5 hk5 hp5 H1 cB HN4
   have cB := HN5.out.cB
   obtain ⟨b2, e2⟩ : ∃ b, next2 33 61 (s.data.toList.drop e) = b := ⟨_, rfl⟩
   have H2 := Lib.hid (takes174 w0 w5 g s e l ⟨#[33, 61]⟩ b2 hes hs (by decide) ((pref_two s e 33 61 hes).trans e2) hg HN5.out.below HN5.out.par)
   have E2 := Lib.hid e2
   clear e2
   go_wp2_with fail
   (with_reducible refine H2.out.mono ?_)
   rintro ee w6 ⟨rfl, hb6, hk6, hp6⟩
   cases b2 with
   | true =>
    have HN6 : Hid (NS w0 wc w6 g B K G s nm (e + 2) l 0) := Lib.hid (HN5.out.moved HL.out hb6 hk6 hp6)
    have HE5 : Hid (e + 2 ≤ s.size) := Lib.hid (next2_lt E2.out)
    clear hb6 hk6 hp6 H2 cB HN5
    have HNs := Lib.hid (HN6.out.setop HL.out 2)
    have c50 := HN6.out.c0
    have z50 := HN6.out.zG 0
    have cB6 := HNs.out.cB
    cases hq : valW stepP (s.data.toList.drop (e + 2)) with
    | none =>
     have H6 := Lib.hid (value189n w0 (w6.setCell ⟨G, 0, none⟩ (.int .i64 2)) g s (e + 2) l hq HE5.out hs hg HNs.out.below HNs.out.par)
     have HQ6 := Lib.hid (show Q = none by rw [← HQ.out]; unfold tailW; rw [if_neg (by rw [E1.out]; decide), if_pos E2.out, List.drop_drop]; rw [hq]; rfl)
     clear hq
     go_wp2_with fail
     (with_reducible refine H6.out.mono ?_)
     rintro ee w61 ⟨hb61, hk61, rfl⟩
     exact ⟨rfl, hb61, HK0.out.trans (HNs.out.keep.trans hk61 (Or.inl rfl)) (Or.inl rfl), Or.inl ⟨by rw [HQ6.out]; rfl, rfl⟩⟩
    | some q =>
     obtain ⟨v, r⟩ := q
     obtain ⟨hr1, hr2⟩ := val_place hq
     obtain ⟨j2, hj2⟩ : ∃ j2 : Nat, s.size - r.length = j2 := ⟨_, rfl⟩
     obtain ⟨x2, ex2⟩ : ∃ x : ByteArray, (⟨v.toArray⟩ : ByteArray) = x := ⟨_, rfl⟩
     have h6 := value189y w0 (w6.setCell ⟨G, 0, none⟩ (.int .i64 2)) g s (e + 2) l v r j2 hq (by omega) HE5.out hs hg HNs.out.below HNs.out.par
     rw [ex2] at h6
     have H6 := Lib.hid h6
     have HQ6 := Lib.hid (show Q = some (⟨2, nm, x2, [], []⟩, r) by rw [← HQ.out]; unfold tailW; rw [if_neg (by rw [E1.out]; decide), if_pos E2.out, List.drop_drop]; rw [hq, ← ex2]; rfl)
     have HJ2 := Lib.hid hj2
     clear hq hr1 hr2 hj2 ex2 h6
     go_wp2_with fail
     (with_reducible refine H6.out.mono ?_)
     rintro ee w71 ⟨hb71, hk71, rfl, hp71⟩
     have HNt := Lib.hid (HNs.out.moved HL.out hb71 hk71 hp71)
     have cB7 := HNt.out.cB
     have hKG : K ≠ G := HNE.out
     have hGK : G ≠ K := HNE.out.symm
     clear hb71 hk71 hp71 H6 c50 z50 cB6
     have y0 := HNt.out.c0
     have y1 := HNt.out.c1
     have y2 := HNt.out.c2
     have y3 := HNt.out.c3
     have y4 := HNt.out.c4
     have xk0 := HNt.out.k0
     have xk1 := HNt.out.k1
     have xk2 := HNt.out.k2
     have xk3 := HNt.out.k3
     have xk4 := HNt.out.k4
     have xz0 := HNt.out.zK 0
     have xz1 := HNt.out.zK 1
     have xz2 := HNt.out.zK 2
     have xz3 := HNt.out.zK 3
     have xz4 := HNt.out.zK 4
     have yz2 := HNt.out.zG 2
     go_wp2
     have h71 := HNt.out
     obtain ⟨L1, L2, L0, L3, L4, L5, L6⟩ := HL.out
     have hk71 := HK0.out.trans h71.keep (Or.inl rfl)
     have hT := nam_tail (m := ⟨2, nm, x2, [], []⟩) (A3 := none) (c3 := 0) (A4 := none) (c4 := 0) (W := w71.setCell ⟨G, 2, none⟩ (.string x2)) (w := w) (w0 := w0) (g := g) (K := K) (o := pObj s j2 l) (by omega) ((Below.heap_setCell _ _ _ _ hKG).trans h71.res) hg L2 L0 (h71.below.setCell (show w0.heap.size ≤ G by omega) _) ⟨by simpa using hk71.1, fun i hi h1 h2 => (Below.heap_setCell _ _ _ _ (show i ≠ G by omega)).trans (hk71.2 i hi h1 h2)⟩ ((Below.heap_setCell _ _ _ _ (show g ≠ G by omega)).trans h71.par) (fun X _ => ⟨Nat.le_refl _, Kd.C_nil _ _, Nat.le_refl _, Kd.C_nil _ _⟩)
     rw [HQ6.out]
     simp only [Option.map_some, HJ2.out]
     exact bodyPost_ret (results_single rfl (.cell K 25 _ (0, 0) _ rfl hT.1 Try.underlying25 rfl (by kernel_rfl) .nil)) rfl hT.2
   | false =>
    have HN6 : Hid (NS w0 wc w6 g B K G s nm e l 0) := Lib.hid (HN5.out.moved HL.out hb6 hk6 hp6)
    clear hb6 hk6 hp6 H2 cB HN5
    have cB := HN6.out.cB
    obtain ⟨b3, e3⟩ : ∃ b, next2 94 61 (s.data.toList.drop e) = b := ⟨_, rfl⟩
    have H3 := Lib.hid (takes174 w0 w6 g s e l ⟨#[94, 61]⟩ b3 hes hs (by decide) ((pref_two s e 94 61 hes).trans e3) hg HN6.out.below HN6.out.par)
    have E3 := Lib.hid e3
    clear e3
    go_wp2_with fail
    (with_reducible refine H3.out.mono ?_)
    rintro ee w7 ⟨rfl, hb7, hk7, hp7⟩
    cases b3 with
    | true =>
     have HN7 : Hid (NS w0 wc w7 g B K G s nm (e + 2) l 0) := Lib.hid (HN6.out.moved HL.out hb7 hk7 hp7)
     have HE5 : Hid (e + 2 ≤ s.size) := Lib.hid (next2_lt E3.out)
     clear hb7 hk7 hp7 H3 cB HN6
     have HNs := Lib.hid (HN7.out.setop HL.out 3)
     have c50 := HN7.out.c0
     have z50 := HN7.out.zG 0
     have cB6 := HNs.out.cB
     cases hq : valW stepP (s.data.toList.drop (e + 2)) with
     | none =>
      have H6 := Lib.hid (value189n w0 (w7.setCell ⟨G, 0, none⟩ (.int .i64 3)) g s (e + 2) l hq HE5.out hs hg HNs.out.below HNs.out.par)
      have HQ6 := Lib.hid (show Q = none by rw [← HQ.out]; unfold tailW; rw [if_neg (by rw [E1.out]; decide), if_neg (by rw [E2.out]; decide), if_pos E3.out, List.drop_drop]; rw [hq]; rfl)
      clear hq
      go_wp2_with fail
      (with_reducible refine H6.out.mono ?_)
      rintro ee w61 ⟨hb61, hk61, rfl⟩
      exact ⟨rfl, hb61, HK0.out.trans (HNs.out.keep.trans hk61 (Or.inl rfl)) (Or.inl rfl), Or.inl ⟨by rw [HQ6.out]; rfl, rfl⟩⟩
     | some q =>
      obtain ⟨v, r⟩ := q
      obtain ⟨hr1, hr2⟩ := val_place hq
      obtain ⟨j2, hj2⟩ : ∃ j2 : Nat, s.size - r.length = j2 := ⟨_, rfl⟩
      obtain ⟨x2, ex2⟩ : ∃ x : ByteArray, (⟨v.toArray⟩ : ByteArray) = x := ⟨_, rfl⟩
      have h6 := value189y w0 (w7.setCell ⟨G, 0, none⟩ (.int .i64 3)) g s (e + 2) l v r j2 hq (by omega) HE5.out hs hg HNs.out.below HNs.out.par
      rw [ex2] at h6
      have H6 := Lib.hid h6
      have HQ6 := Lib.hid (show Q = some (⟨3, nm, x2, [], []⟩, r) by rw [← HQ.out]; unfold tailW; rw [if_neg (by rw [E1.out]; decide), if_neg (by rw [E2.out]; decide), if_pos E3.out, List.drop_drop]; rw [hq, ← ex2]; rfl)
      have HJ2 := Lib.hid hj2
      clear hq hr1 hr2 hj2 ex2 h6
      go_wp2_with fail
      (with_reducible refine H6.out.mono ?_)
      rintro ee w71 ⟨hb71, hk71, rfl, hp71⟩
      have HNt := Lib.hid (HNs.out.moved HL.out hb71 hk71 hp71)
      have cB7 := HNt.out.cB
      have hKG : K ≠ G := HNE.out
      have hGK : G ≠ K := HNE.out.symm
      clear hb71 hk71 hp71 H6 c50 z50 cB6
      have y0 := HNt.out.c0
      have y1 := HNt.out.c1
      have y2 := HNt.out.c2
      have y3 := HNt.out.c3
      have y4 := HNt.out.c4
      have xk0 := HNt.out.k0
      have xk1 := HNt.out.k1
      have xk2 := HNt.out.k2
      have xk3 := HNt.out.k3
      have xk4 := HNt.out.k4
      have xz0 := HNt.out.zK 0
      have xz1 := HNt.out.zK 1
      have xz2 := HNt.out.zK 2
      have xz3 := HNt.out.zK 3
      have xz4 := HNt.out.zK 4
      have yz2 := HNt.out.zG 2
      go_wp2
      have h71 := HNt.out
      obtain ⟨L1, L2, L0, L3, L4, L5, L6⟩ := HL.out
      have hk71 := HK0.out.trans h71.keep (Or.inl rfl)
      have hT := nam_tail (m := ⟨3, nm, x2, [], []⟩) (A3 := none) (c3 := 0) (A4 := none) (c4 := 0) (W := w71.setCell ⟨G, 2, none⟩ (.string x2)) (w := w) (w0 := w0) (g := g) (K := K) (o := pObj s j2 l) (by omega) ((Below.heap_setCell _ _ _ _ hKG).trans h71.res) hg L2 L0 (h71.below.setCell (show w0.heap.size ≤ G by omega) _) ⟨by simpa using hk71.1, fun i hi h1 h2 => (Below.heap_setCell _ _ _ _ (show i ≠ G by omega)).trans (hk71.2 i hi h1 h2)⟩ ((Below.heap_setCell _ _ _ _ (show g ≠ G by omega)).trans h71.par) (fun X _ => ⟨Nat.le_refl _, Kd.C_nil _ _, Nat.le_refl _, Kd.C_nil _ _⟩)
      rw [HQ6.out]
      simp only [Option.map_some, HJ2.out]
      exact bodyPost_ret (results_single rfl (.cell K 25 _ (0, 0) _ rfl hT.1 Try.underlying25 rfl (by kernel_rfl) .nil)) rfl hT.2
    | false =>
     have HN7 : Hid (NS w0 wc w7 g B K G s nm e l 0) := Lib.hid (HN6.out.moved HL.out hb7 hk7 hp7)
     clear hb7 hk7 hp7 H3 cB HN6
     have cB := HN7.out.cB
     obtain ⟨b4, e4⟩ : ∃ b, nextB 64 (s.data.toList.drop e) = b := ⟨_, rfl⟩
     have H4 := Lib.hid (must187 w0 w7 g s e l ⟨#[64]⟩ b4 hes hs (by decide) ((pref_one s e 64 hes).trans e4) hg HN7.out.below HN7.out.par)
     have E4 := Lib.hid e4
     clear e4
     go_wp2_with fail
     cases b4 with
     | false =>
      (with_reducible refine H4.out.mono ?_)
      rintro ee w8 ⟨hb8, hk8, ⟨-, rfl⟩ | ⟨h, -⟩⟩
      ·have HQ6 := Lib.hid (show Q = none by rw [← HQ.out]; unfold tailW; rw [if_neg (by rw [E1.out]; decide), if_neg (by rw [E2.out]; decide), if_neg (by rw [E3.out]; decide), if_neg (by rw [E4.out]; decide)])
       exact ⟨rfl, hb8, HK0.out.trans (HN7.out.keep.trans hk8 (Or.inl rfl)) (Or.inl rfl), Or.inl ⟨by rw [HQ6.out]; rfl, rfl⟩⟩
      ·cases h
     | true =>
      (with_reducible refine H4.out.mono ?_)
      rintro ee w8 ⟨hb8, hk8, ⟨h, -⟩ | ⟨-, rfl, hp8⟩⟩
      ·cases h
      have HN8 : Hid (NS w0 wc w8 g B K G s nm (e + 1) l 0) := Lib.hid (HN7.out.moved HL.out hb8 hk8 hp8)
      have HE5 : Hid (e + 1 ≤ s.size) := Lib.hid (next_lt E4.out)
      clear hb8 hk8 hp8 H4 cB HN7
      have HN9 := Lib.hid (HN8.out.setop HL.out 4)
      have c50 := HN8.out.c0
      have z50 := HN8.out.zG 0
      have cB9 := HN9.out.cB
      obtain ⟨w9, ew9⟩ : ∃ w9, w9 = w8.setCell ⟨G, 0, none⟩ (.int .i64 4) := ⟨_, rfl⟩
      have hmf : ∀ (fn : Fn) (first cap : Array Value) (w : World), (Instr.makeFunc fn first cap).run Try.prog w = .ok (.func fn first cap) w := fun _ _ _ _ => rfl
      obtain ⟨base, hbase⟩ : ∃ base, w9.heap.size = base := ⟨_, rfl⟩
      rw [← ew9] at HN9
      obtain ⟨L1, L2, L0, L3, L4, L5, L6⟩ := HL.out
      have h9 := HN9.out
      have H5 := Lib.hid (list176v w0 wc w9 g B G base s nm (e + 1) l none 0 ⟨hg, by omega, by omega, by omega, by have := h9.size; omega, by have := h9.size; omega, by omega⟩ ⟨h9.below, h9.keep, by omega, h9.box, h9.blk, h9.par, World.ownsRow_nil _ _ _ _, rfl⟩ HE5.out hs _ rfl)
      have HB := Lib.hid (show K < base by have := h9.size; omega)
      clear h9 hbase L1 L2 L0 L3 L4 L5 L6
      go_wp2_with fail
      rw [← ew9]
      refine H5.out.mono ?_
      intro ee w10 hp10
      rcases hp10 with ⟨hq, rfl, hb10, hk10⟩ | ⟨vs, r, j2, A, c, hq, hr, hj, rfl, hv10⟩
      ·have HQ6 := Lib.hid (show Q = none by rw [← HQ.out]; unfold tailW; rw [if_neg (by rw [E1.out]; decide), if_neg (by rw [E2.out]; decide), if_neg (by rw [E3.out]; decide), if_pos E4.out, List.drop_drop, hq]; rfl)
       exact ⟨rfl, hb10, HK0.out.trans hk10 (Or.inl rfl), Or.inl ⟨by rw [HQ6.out]; rfl, rfl⟩⟩
      ·have HQ6 := Lib.hid (show Q = some (⟨4, nm, ⟨#[]⟩, vs, []⟩, r) by rw [← HQ.out]; unfold tailW; rw [if_neg (by rw [E1.out]; decide), if_neg (by rw [E2.out]; decide), if_neg (by rw [E3.out]; decide), if_pos E4.out, List.drop_drop, hq]; rfl)
       have HJ2 := Lib.hid (show s.size - r.length = j2 by rw [← hr]; simp; omega)
       have HV := Lib.hid hv10
       have y0 := (blk_cell hv10.blk 0).trans rfl
       have y1 := (blk_cell hv10.blk 1).trans rfl
       have y2 := (blk_cell hv10.blk 2).trans rfl
       have y3 := (blk_cell hv10.blk 3).trans rfl
       have y4 := (blk_cell hv10.blk 4).trans rfl
       have hK10 := (hv10.keep.2 K (by have := HL.out.lK; have := HL.out.eG; omega) HGK.out (by simp)).trans HKc.out
       have HK10 := Lib.hid hK10
       have x0 := (blk_cell hK10 0).trans rfl
       have x1 := (blk_cell hK10 1).trans rfl
       have x2 := (blk_cell hK10 2).trans rfl
       have x3 := (blk_cell hK10 3).trans rfl
       have x4 := (blk_cell hK10 4).trans rfl
       have xz0 := blk_frozen hK10 0
       have xz1 := blk_frozen hK10 1
       have xz2 := blk_frozen hK10 2
       have xz3 := blk_frozen hK10 3
       have xz4 := blk_frozen hK10 4
       simp only [List.getElem?_toArray, List.getElem?_cons_zero, List.getElem?_cons_succ] at y0 y1 y2 y3 y4 x0 x1 x2 x3 x4
       have hKG : K ≠ G := HNE.out
       have hGK : G ≠ K := HNE.out.symm
       clear hv10 hK10 hq hr H5 ew9 c50 z50 cB9 HN8 HN9
       go_wp2
       have hv := HV.out
       obtain ⟨L1, L2, L0, L3, L4, L5, L6⟩ := HL.out
       have hk7 := HK0.out.trans hv.keep (Or.inl rfl)
       obtain ⟨F3, gg3, F4, gg4, ev3, ev4, hMF⟩ := MF.of_rows (m := ⟨4, nm, ⟨#[]⟩, vs, []⟩) (lo' := base) hv.own (World.ownsRow_nil _ base 25 5) (by simpa using Reps.none _ _) (Nat.le_refl _)
       simp only at ev3 ev4
       cases ev3
       cases ev4
       have hT := nam_tail (m := ⟨4, nm, ⟨#[]⟩, vs, []⟩) (W := w10) (w := w) (w0 := w0) (g := g) (K := K) (o := pObj s j2 l) (by omega) HK10.out hg L2 L0 hv.below hk7 hv.par (hMF.move (fun b hb => ⟨⟨by have := hb.1; have := HB.out; omega, hb.2⟩, rfl⟩))
       rw [HQ6.out]
       simp only [Option.map_some, HJ2.out]
       exact bodyPost_ret (results_single rfl (.cell K 25 _ (0, 0) _ rfl hT.1 Try.underlying25 rfl (by kernel_rfl) .nil)) rfl hT.2
end Go.Proofs.Yteafilojjdfllaa
end
section
namespace Go.Proofs.Yteafilojjdfllaa
open Go Go.RowKit Go.Proofs.YteafilojjdfllaaW.PrintWords Go.Proofs.YteafilojjdfllaaW.PrintLast Go.Proofs.YteafilojjdfllaaW.PrintMore Go.Proofs.Yteafilojjdfllaa.PAll
set_option linter.unusedVariables false
set_option linter.unusedSimpArgs false
/-- behind a kid -/
def restK (cut : List UInt8 → Nat) (step : List UInt8 → Step) (emp : Bool) (d k left : Nat) (r : List UInt8) : Option (List S25 × Nat × List UInt8) := if nextB 41 r = true then some ([], left, r.drop 1) else if nextB 44 r = true then readML cut step emp d k left (r.drop 1) else none
theorem readML_rest (cut : List UInt8 → Nat) (step : List UInt8 → Step) (emp : Bool) (d k left : Nat) (r : List UInt8) : readML cut step emp d (k + 1) left r = match readM cut step emp d left r with
  | none => none
  | some (m, l1, t) => (restK cut step emp d k l1 t).map (fun q => (m :: q.1, q.2)) := by
 rw [readML]
 show (match readM cut step emp d left r with
  | none => none
  | some (_, _, []) => none
  | some (m, left1, c :: t) => _) = _
 cases readM cut step emp d left r with
 | none => rfl
 | some p =>
  obtain ⟨m, l1, t⟩ := p
  cases t with
  | nil => rfl
  | cons c t =>
   unfold restK nextB
   by_cases h1 : c = 41
   ·subst h1; rfl
   ·by_cases h2 : c = 44
    ·subst h2; simp
    ·simp [h1, h2]
def listK (cut : List UInt8 → Nat) (step : List UInt8 → Step) (emp : Bool) (d left : Nat) (r : List UInt8) : Option (List S25 × Nat × List UInt8) := if nextB 40 r = true then (if nextB 41 (r.drop 1) = true then some ([], left, r.drop 2) else readML cut step emp d 65 left (r.drop 1)) else none
theorem readM_step (cut : List UInt8 → Nat) (step : List UInt8 → Step) (emp : Bool) (d left : Nat) (r : List UInt8) (h0 : namedW cut step emp [] = none) : readM cut step emp (d + 1) (left + 1) r =
  if nextB 42 r = true then some (⟨0, ⟨#[]⟩, ⟨#[]⟩, [], []⟩, left, r.drop 1)
  else if nextB 38 r = true then (listK cut step emp d left (r.drop 1)).map (fun p => (⟨5, ⟨#[]⟩, ⟨#[]⟩, [], p.1⟩, p.2))
  else if nextB 124 r = true then (listK cut step emp d left (r.drop 1)).map (fun p => (⟨6, ⟨#[]⟩, ⟨#[]⟩, [], p.1⟩, p.2))
  else if nextB 33 r = true then (listK cut step emp d left (r.drop 1)).map (fun p => (⟨7, ⟨#[]⟩, ⟨#[]⟩, [], p.1⟩, p.2))
  else (namedW cut step emp r).map (fun p => (p.1, left, p.2)) := by
 match r with
 | [] =>
  rw [readM.eq_def, h0]
  rfl
 | c :: r =>
  have hlist : ∀ (op : Int), (match r with
   | [] => none
   | e :: q => if e = 40 then (if q.head? = some 41 then some ((⟨op, ⟨#[]⟩, ⟨#[]⟩, [], []⟩ : S25), left, q.drop 1)
     else (readML cut step emp d 65 left q).map (fun p => ((⟨op, ⟨#[]⟩, ⟨#[]⟩, [], p.1⟩ : S25), p.2))) else none) = (listK cut step emp d left r).map (fun p => (⟨op, ⟨#[]⟩, ⟨#[]⟩, [], p.1⟩, p.2)) := by
   intro op
   unfold listK
   match r with
   | [] => rfl
   | e :: q =>
    simp only [nextB_cons, List.drop_succ_cons, List.drop_zero]
    by_cases he : e = 40
    ·subst he
     rw [if_pos rfl, if_pos rfl]
     by_cases hq : q.head? = some 41
     ·rw [if_pos hq, if_pos (by unfold nextB; rw [hq]; rfl)]
      rfl
     ·rw [if_neg hq, if_neg (by unfold nextB; simpa using hq)]
    ·rw [if_neg he, if_neg he]
     rfl
  have hn : ∀ x : UInt8, (nextB x (c :: r) = true) = (c = x) := fun x => by unfold nextB; simp
  show readM cut step emp (d + 1) (left + 1) (c :: r) = _
  rw [readM_cons]
  simp only [hn, List.drop_succ_cons, List.drop_zero]
  by_cases h4 : c = 42
  ·rw [if_pos h4, if_pos h4]
  rw [if_neg h4, if_neg h4]
  by_cases h1 : c = 38
  ·subst h1
   rw [if_pos (Or.inl rfl), if_pos rfl]
   exact hlist 5
  by_cases h2 : c = 124
  ·subst h2
   rw [if_pos (Or.inr (Or.inl rfl)), if_neg h1, if_pos rfl]
   exact hlist 6
  by_cases h3 : c = 33
  ·subst h3
   rw [if_pos (Or.inr (Or.inr rfl)), if_neg h1, if_neg h2, if_pos rfl]
   exact hlist 7
  rw [if_neg (show ¬ (c = 38 ∨ c = 124 ∨ c = 33) by rintro (h | h | h) <;> contradiction), if_neg h1, if_neg h2, if_neg h3]
end Go.Proofs.Yteafilojjdfllaa
end
section
namespace Go.Proofs.Yteafilojjdfllaa
open Go Go.Proofs.Yteafilojjdfllaa.PAll
theorem valsW_suf {step : List UInt8 → Step} : ∀ (k : Nat) (r : List UInt8) (x : List ByteArray) (t : List UInt8), valsW step k r = some (x, t) → t <:+ r
 | 0, r, x, t, h => by rw [valsW] at h; cases h
 | k + 1, r, x, t, h => by
  rw [valsW] at h
  cases hv : valW step r with
  | none => rw [hv] at h; cases h
  | some q =>
   obtain ⟨v, l⟩ := q
   rw [hv] at h
   have hs := val_suffix hv
   cases l with
   | nil => cases h
   | cons c l =>
    simp only at h
    have h2 : l <:+ r := (List.suffix_cons c l).trans hs
    split at h
    ·simp only [Option.some.injEq, Prod.mk.injEq] at h
     rw [← h.2]
     exact h2
    ·split at h
     ·cases hq : valsW step k l with
      | none => rw [hq] at h; cases h
      | some p =>
       rw [hq] at h
       simp only [Option.map_some, Option.some.injEq, Prod.mk.injEq] at h
       rw [← h.2]
       exact (valsW_suf k l p.1 p.2 hq).trans h2
     ·cases h
theorem map_some' {α β : Type} {f : α → β} {o : Option α} {b : β} (h : o.map f = some b) : ∃ a, o = some a ∧ f a = b := by
 cases o with
 | none => cases h
 | some a => exact ⟨a, rfl, by simpa using h⟩
theorem namedW_suf {cut : List UInt8 → Nat} {step : List UInt8 → Step} {emp : Bool} {r : List UInt8} {m : S25} {t : List UInt8} (h : namedW cut step emp r = some (m, t)) : t <:+ r := by
 unfold namedW at h
 simp only at h
 have hd : r.drop (cut r) <:+ r := List.drop_suffix _ _
 generalize hq : r.drop (cut r) = q at h hd
 match q with
 | [] => cases h
 | c :: q =>
  simp only at h
  have h1 : q <:+ r := (List.suffix_cons c q).trans hd
  split at h
  ·obtain ⟨a, ha, e⟩ := map_some' h
   simp only [Prod.mk.injEq] at e
   rw [← e.2]
   exact (val_suffix ha).trans h1
  ·split at h
   ·match q with
    | [] => cases h
    | e :: q =>
     simp only at h
     split at h
     ·obtain ⟨a, ha, e⟩ := map_some' h
      simp only [Prod.mk.injEq] at e
      rw [← e.2]
      exact (val_suffix ha).trans ((List.suffix_cons _ q).trans h1)
     ·cases h
   ·split at h
    ·match q with
     | [] => cases h
     | e :: q =>
      simp only at h
      split at h
      ·obtain ⟨a, ha, e⟩ := map_some' h
       simp only [Prod.mk.injEq] at e
       rw [← e.2]
       exact (val_suffix ha).trans ((List.suffix_cons _ q).trans h1)
      ·cases h
    ·split at h
     ·match q with
      | [] => cases h
      | e :: q =>
       simp only at h
       have h2 : q <:+ r := (List.suffix_cons _ q).trans h1
       split at h
       ·split at h
        ·simp only [Option.some.injEq, Prod.mk.injEq] at h
         rw [← h.2]
         exact (List.drop_suffix _ _).trans h2
        ·obtain ⟨a, ha, e⟩ := map_some' h
         simp only [Prod.mk.injEq] at e
         rw [← e.2]
         exact (valsW_suf _ _ _ _ ha).trans h2
       ·cases h
     ·cases h
theorem readML_suf {cut : List UInt8 → Nat} {step : List UInt8 → Step} {emp : Bool} (d : Nat) (ih : ∀ (left : Nat) (r : List UInt8) (m : S25) (l' : Nat) (t : List UInt8), readM cut step emp d left r = some (m, l', t) → t <:+ r ∧ l' < left) :
  ∀ (k left : Nat) (r : List UInt8) (x : List S25) (l' : Nat) (t : List UInt8), readML cut step emp d k left r = some (x, l', t) → t <:+ r ∧ l' < left
 | 0, left, r, x, l', t, h => by rw [readML] at h; cases h
 | k + 1, left, r, x, l', t, h => by
  rw [readML] at h
  cases hv : readM cut step emp d left r with
  | none => rw [hv] at h; cases h
  | some q =>
   obtain ⟨m, l1, l⟩ := q
   rw [hv] at h
   obtain ⟨hs, hl⟩ := ih _ _ _ _ _ hv
   cases l with
   | nil => cases h
   | cons c l =>
    simp only at h
    have h2 : l <:+ r := (List.suffix_cons c l).trans hs
    split at h
    ·simp only [Option.some.injEq, Prod.mk.injEq] at h
     obtain ⟨-, rfl, rfl⟩ := h
     exact ⟨h2, hl⟩
    ·split at h
     ·obtain ⟨a, ha, e⟩ := map_some' h
      simp only [Prod.mk.injEq] at e
      obtain ⟨-, e2⟩ := e
      have := readML_suf d ih k l1 l a.1 a.2.1 a.2.2 ha
      rw [e2] at this
      exact ⟨this.1.trans h2, by have := this.2; omega⟩
     ·cases h
theorem readM_suf {cut : List UInt8 → Nat} {step : List UInt8 → Step} {emp : Bool} : ∀ (d left : Nat) (r : List UInt8) (m : S25) (l' : Nat) (t : List UInt8), readM cut step emp d left r = some (m, l', t) → t <:+ r ∧ l' < left
 | 0, left, r, m, l', t, h => by rw [readM.eq_def] at h; cases h
 | d + 1, 0, r, m, l', t, h => by rw [readM.eq_def] at h; cases h
 | d + 1, left + 1, [], m, l', t, h => by rw [readM.eq_def] at h; cases h
 | d + 1, left + 1, c :: r, m, l', t, h => by
  rw [readM_cons] at h
  have h1 : r <:+ c :: r := List.suffix_cons c r
  split at h
  ·simp only [Option.some.injEq, Prod.mk.injEq] at h
   obtain ⟨-, rfl, rfl⟩ := h
   exact ⟨h1, Nat.lt_succ_self _⟩
  ·split at h
   ·match r with
    | [] => cases h
    | e :: q =>
     simp only at h
     have h2 : q <:+ c :: e :: q := (List.suffix_cons _ q).trans h1
     split at h
     ·split at h
      ·simp only [Option.some.injEq, Prod.mk.injEq] at h
       obtain ⟨-, rfl, rfl⟩ := h
       exact ⟨(List.drop_suffix _ _).trans h2, Nat.lt_succ_self _⟩
      ·obtain ⟨a, ha, e⟩ := map_some' h
       simp only [Prod.mk.injEq] at e
       obtain ⟨-, e2⟩ := e
       have := readML_suf d (fun left r m l' t h => readM_suf d left r m l' t h) _ _ _ a.1 a.2.1 a.2.2 ha
       rw [e2] at this
       exact ⟨this.1.trans h2, by have := this.2; omega⟩
     ·cases h
   ·obtain ⟨a, ha, e⟩ := map_some' h
    simp only [Prod.mk.injEq] at e
    obtain ⟨-, rfl, rfl⟩ := e
    exact ⟨namedW_suf (m := a.1) (t := a.2) ha, Nat.lt_succ_self _⟩
end Go.Proofs.Yteafilojjdfllaa
end
section
namespace Go.Proofs.Yteafilojjdfllaa
open Go Go.RowKit Go.Proofs.YteafilojjdfllaaW.PrintWords Go.Proofs.YteafilojjdfllaaW.PrintLast Go.Proofs.YteafilojjdfllaaW.PrintMore Go.Proofs.Yteafilojjdfllaa.PAll
set_option linter.unusedVariables false
set_option linter.unusedSimpArgs false
section
variable {P : Program} {ops : Array Oper} {Q : Exit → Act → World → Prop} {K : Act → World → Prop} {o : Oper} {a : Act}
/-- append of one element whose block lies anywhere -/
theorem append_at {W : World} (base : Nat) (hw : Region.wanted o (yielded ops a.tmps) = true) (s x : Operand) (t e : TypeId) (z : Value) (size bytes : Nat)
  (ho : o.op = .call { callee := .builtin .append, args := #[s, x], argTypes := #[t, t] })
  (ht : P.underlying t = some (.slice e)) (hinfo : (P.info? e).map (fun i => (i.zero, i.size, i.bytes)) = some (some z, size, bytes)) (hz : z.cells.size = size) (hs0 : 0 < size) (hb0 : 0 < bytes)
  (v : Value) (n : Nat) (xs ys : List Value) (bz : Nat) (hs : a.eval s = v) (hx : a.eval x = .slice (some ⟨bz, 0, none⟩) 1 1) (hbz : W.heap[bz]? = some (.cells ys.toArray e (0, 0))) (hys : ys.length = size) (h1 : ∀ u ∈ ys, u.oneCell' = true)
  (HO : W.ownsRow base e size v n xs) (hbase : base ≤ W.heap.size) (hl : (n + 1) * bytes ≤ 140737488355328)
  (h : ∀ v1 w1, w1.ownsRow base e size v1 (n + 1) (xs ++ ys) → W.grownBy w1 v.ownBlock → (v1.ownBlock = v.ownBlock ∨ v1.ownBlock = some W.heap.size) → K (a.put o.dst v1) w1) :
  if Region.wanted o (yielded ops a.tmps) = true then Oper.wp P o a W K Q else K (a.put o.dst undef) W := by
 obtain ⟨i0, hi, hzz⟩ := Option.map_eq_some_iff.1 hinfo
 simp only [Prod.mk.injEq] at hzz
 obtain ⟨hz0, hz1, hz2⟩ := hzz
 have hlen : n + 1 ≤ 140737488355328 := Nat.le_trans (Nat.le_mul_of_pos_right _ hb0) hl
 rw [if_pos hw]
 obtain ⟨v1, w1, hr, hown, hg, _, hat⟩ := run_append_own_at (P := P) W base t o.type e i0 z size bytes ht hi hz0 hz1 hz2 hz hs0 v n xs HO ⟨bz, 0, none⟩ 1 1 ys (by rw [hys]; simp)
  (by simpa using World.news_of_block (cs := ys.toArray) (t := e) (fr := (0, 0)) hbz) h1 (by simp only [maxLen]; omega) hl hbase
 unfold Oper.wp execOp
 simp only [ho, resolve, invoke, builtin, Sem.run_bind, Sem.run_pure, Result.andThen_ok, List.map_toArray, List.map_cons, List.map_nil, hs, hx, hr]
 exact h v1 w1 hown hg hat
end
section
variable {P : Program} {ops : Array Oper} {Q : Exit → Act → World → Prop} {md : Region.Mode} {S : World → Prop} {ds : List Nat}
/-- two stores that end a region, in either order -/
theorem twoLast_ {i j : Nat} {Ni Nj : Option Tmp} {oi oj : Oper} {fuel : Nat} {l : Array Bool} {a : Act} {w : World} (li lj : Array Bool) (hi : ops[i]? = some oi) (hj : ops[j]? = some oj) (hNi : oi.dst = Ni) (hNj : oj.dst = Nj)
  (hc : (Region.ready md ops l == [i, j] && l.setIfInBounds i true == li && l.setIfInBounds j true == lj) = true) (hdi : i ∈ ds) (hdj : j ∈ ds)
  (h1 : ∀ K : Act → World → Prop, Shut (∀ a' w', wpAnyLast P md ops Q S ds fuel li a' w' → K a' w') → if Region.wanted oi (yielded ops a.tmps) = true then Oper.wp P oi a w K Q else K (a.put Ni undef) w)
  (h2 : ∀ K : Act → World → Prop, Shut (∀ a' w', wpAnyLast P md ops Q S ds fuel lj a' w' → K a' w') → if Region.wanted oj (yielded ops a.tmps) = true then Oper.wp P oj a w K Q else K (a.put Nj undef) w) :
  wpAnyLast P md ops Q S ds (fuel + 1) l a w := by
 subst hNi
 subst hNj
 simp only [Bool.and_eq_true, beq_iff_eq] at hc
 obtain ⟨⟨h3, h4⟩, h5⟩ := hc
 subst h4
 subst h5
 exact wpAnyLast_ready h3 (by simp) (AllReadyL.cons_last hi hdi (fun K hK => h1 K hK) (AllReadyL.cons_last hj hdj (fun K hK => h2 K hK) AllReadyL.nil))
end
theorem set_mid {α : Type} : ∀ (xs : List α) (y : α) (ys : List α) (z : α), (xs ++ y :: ys).set xs.length z = xs ++ z :: ys
 | [], y, ys, z => rfl
 | x :: xs, y, ys, z => by simp [set_mid xs y ys z]
/-- the last element of an own row is laid anew -/
theorem own_elem {w : World} {base R c n : Nat} {cells : List Value} {u0 u1 u2 u3 u4 v0 v1 v2 v3 v4 : Value} (h : w.ownsRow base 25 5 (.slice (some ⟨R, 0, none⟩) (n + 1) c) (n + 1) (cells ++ [u0, u1, u2, u3, u4])) (k : Nat) (hk : k = cells.length) :
  (((((w.setCell ⟨R, k, none⟩ v0).setCell ⟨R, k + 1, none⟩ v1).setCell ⟨R, k + 2, none⟩ v2).setCell ⟨R, k + 3, none⟩ v3).setCell ⟨R, k + 4, none⟩ v4).ownsRow base 25 5 (.slice (some ⟨R, 0, none⟩) (n + 1) c) (n + 1) (cells ++ [v0, v1, v2, v3, v4]) := by
 subst hk
 have h0 := (h.stored cells.length v0).1
 rw [set_mid] at h0
 have e1 := (h0.stored (cells.length + 1) v1).1
 rw [show cells ++ [v0, u1, u2, u3, u4] = (cells ++ [v0]) ++ u1 :: [u2, u3, u4] by simp, show cells.length + 1 = (cells ++ [v0]).length by simp, set_mid] at e1
 have e2 := (e1.stored (cells.length + 2) v2).1
 rw [show (cells ++ [v0]) ++ v1 :: [u2, u3, u4] = (cells ++ [v0, v1]) ++ u2 :: [u3, u4] by simp, show cells.length + 2 = (cells ++ [v0, v1]).length by simp, set_mid] at e2
 have e3 := (e2.stored (cells.length + 3) v3).1
 rw [show (cells ++ [v0, v1]) ++ v2 :: [u3, u4] = (cells ++ [v0, v1, v2]) ++ u3 :: [u4] by simp, show cells.length + 3 = (cells ++ [v0, v1, v2]).length by simp, set_mid] at e3
 have e4 := (e3.stored (cells.length + 4) v4).1
 rw [show (cells ++ [v0, v1, v2]) ++ v3 :: [u4] = (cells ++ [v0, v1, v2, v3]) ++ u4 :: [] by simp, show cells.length + 4 = (cells ++ [v0, v1, v2, v3]).length by simp, set_mid] at e4
 simpa using e4
theorem own_some {w : World} {base : Nat} {e : TypeId} {size n : Nat} {v : Value} {xs : List Value} (h : w.ownsRow base e size v (n + 1) xs) : ∃ R c, v = .slice (some ⟨R, 0, none⟩) (n + 1) c := by
 rcases h.2 with ⟨hv, h0⟩ | ⟨g, cap, cur, hv, _⟩
 ·cases h0
 ·exact ⟨g, cap, hv⟩
/-- the world of the closure: the parser, the boxes of its pointer and of the depth, the matcher under way and its row of kids -/
structure VK (w0 wn w : World) (g B D G base : Nat) (s : ByteArray) (op dz : Int) (i : Nat) (l : Int) (ks : List S25) (cells : List Value) (n : Nat) (Au : Option Addr) (cu : Nat) : Prop where
 below : Below w0.heap.size w0 w
 keep : KeepBut wn w g none
 size : base ≤ w.heap.size
 box : w.heap[B]? = some (.cells #[.pointer (some ⟨g, 0, none⟩)] 170 (0, 0))
 dbox : w.heap[D]? = some (.cells #[.int .i64 dz] 3 (0, 0))
 blk : w.heap[G]? = some (.cells #[.int .i64 op, .string ⟨#[]⟩, .string ⟨#[]⟩, .slice none 0 0, .slice Au n cu] 25 (0, 0))
 par : PB w g s i l
 own : w.ownsRow base 25 5 (.slice Au n cu) n cells
 reps : Reps (KR w (Part base w (.slice Au n cu))) 5 ks cells
 len : ks.length = n
 clen : cells.length = n * 5
/-- where these lie -/
structure VM (w0 wn : World) (g B D G base : Nat) : Prop where
 g0 : w0.heap.size ≤ g
 gn : g < wn.heap.size
 nB : B ≠ g
 nD : D ≠ g
 nG : wn.heap.size ≤ G
 Bb : B < base
 Db : D < base
 Gb : G < base
 eB : B ≠ G
 eD : D ≠ G
 w0l : w0.heap.size ≤ wn.heap.size
section
variable {w0 wn w w' : World} {g B D G base : Nat} {s : ByteArray} {op dz : Int} {i j : Nat} {l l' : Int} {ks : List S25} {cells : List Value} {n : Nat} {Au : Option Addr} {cu : Nat}
theorem VK.moved (h : VK w0 wn w g B D G base s op dz i l ks cells n Au cu) (HL : VM w0 wn g B D G base) (hB : Below w0.heap.size w0 w') (hK : KeepBut w w' g none) (hP : PB w' g s j l') : VK w0 wn w' g B D G base s op dz j l' ks cells n Au cu := by
 obtain ⟨L1, L2, L3, L4, L5, L6, L7, L8, L9, L10, L11⟩ := HL
 have hs := h.size
 have hs2 := hK.1
 exact ⟨hB, h.keep.trans hK (Or.inl rfl), Nat.le_trans hs hK.1, (hK.2 B (by omega) (by omega) (by simp)).trans h.box, (hK.2 D (by omega) (by omega) (by simp)).trans h.dbox, (hK.2 G (by omega) (by omega) (by simp)).trans h.blk, hP,
  own_move h.own (fun k hk => hK.2 k (h.own.lt _ hk).2 (by have := (h.own.lt _ hk).1; omega) (by simp)),
  h.reps.imp_ (fun p c hk => hk.move (fun b hb => ⟨⟨hb.1, by have := hb.2.1; omega, hb.2.2⟩, hK.2 b hb.2.1 (by have := hb.1; omega) (by simp)⟩)), h.len, h.clen⟩
theorem VK.drew (h : VK w0 wn w g B D G base s op dz i l ks cells n Au cu) : VK w0 wn w.drew g B D G base s op dz i l ks cells n Au cu :=
 ⟨below_drew h.below, h.keep.trans (KeepBut.of_below (below_drew (Below.refl w.heap.size w)) g none) (Or.inl rfl), h.size, h.box, h.dbox, h.blk, h.par, h.own, h.reps, h.len, h.clen⟩
end
/-- the parser's matcher, as deep as it may be yet -/
def IHp (w0 : World) (g : Nat) (s : ByteArray) (d : Nat) (dz : Int) : Prop :=
 ∀ (w : World) (i left : Nat), left ≤ 64 → i ≤ s.size → Below w0.heap.size w0 w → PB w g s i (left : Int) → Calls Try.prog 144 #[.pointer (some ⟨g, 0, none⟩), .int .i64 dz] w (RedPost w0 w g ((readM (cutM 33) stepP true d left (s.data.toList.drop i)).map fun q => (q.1, pObj s (s.size - q.2.2.length) (q.2.1 : Nat))))
theorem read_place {cut : List UInt8 → Nat} {step : List UInt8 → Step} {emp : Bool} {s : ByteArray} {i d left l1 : Nat} {m : S25} {t : List UInt8} (hi : i ≤ s.size) (h : readM cut step emp d left (s.data.toList.drop i) = some (m, l1, t)) : ∃ j, s.size - t.length = j ∧ j ≤ s.size ∧ s.data.toList.drop j = t ∧ l1 < left ∧ i ≤ j := by
 obtain ⟨h1, h2⟩ := readM_suf _ _ _ _ _ _ h
 obtain ⟨u, hu⟩ := h1
 have hl := congrArg List.length hu
 simp only [List.length_append, List.length_drop] at hl
 have hsz : s.data.toList.length = s.size := by simp
 have hsuf : t <:+ s.data.toList := List.IsSuffix.trans ⟨u, hu⟩ (List.drop_suffix _ _)
 refine ⟨s.size - t.length, rfl, by omega, ?_, h2, ?_⟩
 ·have := List.suffix_iff_eq_drop.1 hsuf
  rw [hsz] at this
  exact this.symm
 ·omega
end Go.Proofs.Yteafilojjdfllaa
end
section
namespace Go.Proofs.Yteafilojjdfllaa
open Go Go.RowKit Go.Proofs.YteafilojjdfllaaW.PrintWords Go.Proofs.YteafilojjdfllaaW.PrintLast Go.Proofs.YteafilojjdfllaaW.PrintMore Go.Proofs.Yteafilojjdfllaa.PAll
set_option linter.unusedVariables false
set_option linter.unusedSimpArgs false
noncomputable def tabR177_0 : Bool × List (List Nat × List Nat) := rtab .any (opsOf Try.f177 0)
theorem tabR177_0_eq : rtab .any (opsOf Try.f177 0) = tabR177_0 := rfl
set_option maxRecDepth 100000 in
set_option maxHeartbeats 16000000 in
/-- no kid. -/
theorem kid177n (w0 wn w : World) (g B D G base : Nat) (s : ByteArray) (op dz : Int) (i left d : Nat) (ks : List S25) (cells : List Value) (n : Nat) (Au : Option Addr) (cu : Nat) (HL : VM w0 wn g B D G base) (hV : VK w0 wn w g B D G base s op dz i (left : Int) ks cells n Au cu) (hi : i ≤ s.size) (hs : s.size ≤ 1000000000) (hl : left ≤ 64) (hn : n ≤ 64) (hdz : wrap64 (dz + 1) = dz + 1) (ih : IHp w0 g s d (dz + 1)) (hq : readM (cutM 33) stepP true d left (s.data.toList.drop i) = none) :
  Calls Try.prog 177 #[.pointer (some ⟨G, 0, none⟩), .pointer (some ⟨B, 0, none⟩), .pointer (some ⟨D, 0, none⟩)] w fun e w' => e = .panicked badP ∧ Below w0.heap.size w0 w' ∧ KeepBut wn w' g none := by
 have IH := Lib.hid ih
 clear ih
 have HV := Lib.hid hV.drew
 have HLL := Lib.hid HL
 have k4 : w.drew.cell? ⟨G, 4, none⟩ = some (.slice Au n cu) := (blk_cell HV.out.blk 4).trans rfl
 have kB : w.drew.cell? ⟨B, 0, none⟩ = some (.pointer (some ⟨g, 0, none⟩)) := (blk_cell HV.out.box 0).trans rfl
 have kD : w.drew.cell? ⟨D, 0, none⟩ = some (.int .i64 dz) := (blk_cell HV.out.dbox 0).trans rfl
 have HDW := Lib.hid hdz
 have HQ := Lib.hid hq
 clear hq
 clear hV HL
 go_enter Try.func177, Try.ntmps177
 go_wp2_with fail
 refine start_ (n := 13) (S := fun w' => w'.cell? ⟨G, 4, none⟩ = some (.slice Au n cu) ∧ w'.cell? ⟨B, 0, none⟩ = some (.pointer (some ⟨g, 0, none⟩)) ∧ w'.cell? ⟨D, 0, none⟩ = some (.int .i64 dz)) (ds := [10, 12]) #[false, false, false, false, false, false, false, false, false, false, false, false, false] (by kernel_rfl) rfl rfl ⟨k4, kB, kD⟩ (fun hHeld => ?_)
 clear k4 kB kD
 obtain ⟨V, eV⟩ : ∃ V, V = w.drew := ⟨_, rfl⟩
 rw [← eV] at HV hHeld ⊢
 clear eV
 refine with_tab (T := tabR177_0) tabR177_0_eq (fun HT_ => ?_)
 refine pure_ (i := 0) (N := some 3) (v := ?_) (a' := ?_) #[true, false, false, false, false, false, false, false, false, false, false, false, false] rfl rfl (any_of HT_.out (by kernel_rfl)) (fun _ _ _ h => h) (Or.inl ⟨by rfl, ?_⟩) ?_ ?_
 rotate_left
 ·intro w'
  go_simp
  with_reducible rfl
 rotate_left
 ·simp only [Act.put, List.setIfInBounds_toArray, List.set_cons_zero, List.set_cons_succ, i64_w, i32_w]
  rfl
 refine take_ (i := 1) (N := some 4) (v := ?_) (a' := ?_) #[true, true, false, false, false, false, false, false, false, false, false, false, false] rfl rfl (take_of HT_.out (by kernel_rfl)) (fun _ _ _ h => h) (Or.inl ⟨by rfl, ?_⟩) hHeld ?_ ?_
 rotate_left
 ·intro w' hh
  have q0 := hh.1
  have q1 := hh.2.1
  have q2 := hh.2.2
  go_simp
  with_reducible rfl
 rotate_left
 ·simp only [Act.put, List.setIfInBounds_toArray, List.set_cons_zero, List.set_cons_succ, i64_w, i32_w]
  rfl
 refine take_ (i := 2) (N := some 5) (v := ?_) (a' := ?_) #[true, true, true, false, false, false, false, false, false, false, false, false, false] rfl rfl (take_of HT_.out (by kernel_rfl)) (fun _ _ _ h => h) (Or.inl ⟨by rfl, ?_⟩) hHeld ?_ ?_
 rotate_left
 ·intro w' hh
  have q0 := hh.1
  have q1 := hh.2.1
  have q2 := hh.2.2
  go_simp
  with_reducible rfl
 rotate_left
 ·simp only [Act.put, List.setIfInBounds_toArray, List.set_cons_zero, List.set_cons_succ, i64_w, i32_w]
  rfl
 refine take_ (i := 3) (N := some 6) (v := ?_) (a' := ?_) #[true, true, true, true, false, false, false, false, false, false, false, false, false] rfl rfl (take_of HT_.out (by kernel_rfl)) (fun _ _ _ h => h) (Or.inl ⟨by rfl, ?_⟩) hHeld ?_ ?_
 rotate_left
 ·intro w' hh
  have q0 := hh.1
  have q1 := hh.2.1
  have q2 := hh.2.2
  go_simp
  with_reducible rfl
 rotate_left
 ·simp only [Act.put, List.setIfInBounds_toArray, List.set_cons_zero, List.set_cons_succ, i64_w, i32_w]
  rfl
 have hdw := HDW.out
 refine pure_ (i := 4) (N := some 7) (v := ?_) (a' := ?_) #[true, true, true, true, true, false, false, false, false, false, false, false, false] rfl rfl (any_of HT_.out (by kernel_rfl)) (fun _ _ _ h => h) (Or.inl ⟨by rfl, ?_⟩) ?_ ?_
 rotate_left
 ·intro w'
  go_simp
  with_reducible rfl
 rotate_left
 ·simp only [Act.put, List.setIfInBounds_toArray, List.set_cons_zero, List.set_cons_succ, i64_w, i32_w, hdw]
  rfl
 clear hdw
 refine pure_ (i := 6) (N := some 9) (v := ?_) (a' := ?_) #[true, true, true, true, true, false, true, false, false, false, false, false, false] rfl rfl (any_of HT_.out (by kernel_rfl)) (fun _ _ _ h => h) (Or.inl ⟨by rfl, ?_⟩) ?_ ?_
 rotate_left
 ·intro w'
  go_simp
  with_reducible rfl
 rotate_left
 ·simp only [Act.put, List.setIfInBounds_toArray, List.set_cons_zero, List.set_cons_succ, i64_w, i32_w]
  rfl
 have H1 := Lib.hid (IH.out V i left hl hi HV.out.below HV.out.par)
 rw [HQ.out] at H1
 refine two_ (i := 5) (j := 7) (Ni := some 8) (Nj := some 10) #[true, true, true, true, true, true, true, false, false, false, false, false, false] #[true, true, true, true, true, false, true, true, false, false, false, false, false] rfl rfl rfl rfl (two_of HT_.out (by kernel_rfl)) (by decide) (by decide) (fun K_ hK_ => ?_) (fun K_ hK_ => ?_)
 ·
  refine goesP_ Try.func144 (by kernel_rfl) rfl #[.pointer (some ⟨g, 0, none⟩), .int .i64 (dz + 1)] (by rfl) rfl rfl (by (try simp only [List.map_toArray, List.map_cons, List.map_nil]); first | done | rfl) ?_
  refine (H1.out).mono ?_
  intro e w5 hp5
  obtain ⟨rfl, hB5, hK5⟩ := hp5.none_
  exact Or.inr ⟨_, rfl, rfl, rfl, hB5, HV.out.keep.trans hK5 (Or.inl rfl)⟩
 ·
  go_simp
  have hVA := HV.out.moved HLL.out (below_alloc HV.out.below (.cells Z5 25)) (KeepBut.of_below (below_alloc (Below.refl V.heap.size V) _) g none) (HV.out.par.below (below_alloc (Below.refl _ _) _))
  refine hK_.out _ _ ⟨(blk_cell hVA.blk 4).trans rfl, (blk_cell hVA.box 0).trans rfl, (blk_cell hVA.dbox 0).trans rfl⟩ (fun hHeld => ?_)
  clear hK_ K_
  have H2 := Lib.hid (IH.out _ i left hl hi hVA.below hVA.par)
  rw [HQ.out] at H2
  try simp only [Act.put, List.setIfInBounds_toArray, List.set_cons_zero, List.set_cons_succ]
  refine one_ (i := 5) (N := some 8) #[true, true, true, true, true, true, true, true, false, false, false, false, false] rfl rfl (one_of HT_.out (by kernel_rfl)) (by decide) (fun K_ hK_ => ?_)
  refine goesP_ Try.func144 (by kernel_rfl) rfl #[.pointer (some ⟨g, 0, none⟩), .int .i64 (dz + 1)] (by rfl) rfl rfl (by (try simp only [List.map_toArray, List.map_cons, List.map_nil]); first | done | rfl) ?_
  refine (H2.out).mono ?_
  intro e w5 hp5
  obtain ⟨rfl, hB5, hK5⟩ := hp5.none_
  exact Or.inr ⟨_, rfl, rfl, rfl, hB5, hVA.keep.trans hK5 (Or.inl rfl)⟩
set_option maxRecDepth 100000 in
set_option maxHeartbeats 16000000 in
/-- one more kid. -/
theorem kid177y (w0 wn w : World) (g B D G base : Nat) (s : ByteArray) (op dz : Int) (i left d : Nat) (ks : List S25) (cells : List Value) (n : Nat) (Au : Option Addr) (cu : Nat) (HL : VM w0 wn g B D G base) (hV : VK w0 wn w g B D G base s op dz i (left : Int) ks cells n Au cu) (hi : i ≤ s.size) (hs : s.size ≤ 1000000000) (hl : left ≤ 64) (hn : n ≤ 64) (hdz : wrap64 (dz + 1) = dz + 1) (ih : IHp w0 g s d (dz + 1)) (m : S25) (l1 j : Nat) (t : List UInt8) (hq : readM (cutM 33) stepP true d left (s.data.toList.drop i) = some (m, l1, t)) (hj : s.size - t.length = j) :
  Calls Try.prog 177 #[.pointer (some ⟨G, 0, none⟩), .pointer (some ⟨B, 0, none⟩), .pointer (some ⟨D, 0, none⟩)] w fun e w' => ∃ A2 c2 cells2, e = .returned (.tuple #[]) ∧ VK w0 wn w' g B D G base s op dz j (l1 : Int) (ks ++ [m]) cells2 (n + 1) A2 c2 := by
 have IH := Lib.hid ih
 clear ih
 have HV := Lib.hid hV.drew
 have HLL := Lib.hid HL
 have k4 : w.drew.cell? ⟨G, 4, none⟩ = some (.slice Au n cu) := (blk_cell HV.out.blk 4).trans rfl
 have kB : w.drew.cell? ⟨B, 0, none⟩ = some (.pointer (some ⟨g, 0, none⟩)) := (blk_cell HV.out.box 0).trans rfl
 have kD : w.drew.cell? ⟨D, 0, none⟩ = some (.int .i64 dz) := (blk_cell HV.out.dbox 0).trans rfl
 have HDW := Lib.hid hdz
 have HQ := Lib.hid (show (readM (cutM 33) stepP true d left (s.data.toList.drop i)).map (fun q => (q.1, pObj s (s.size - q.2.2.length) ((q.2.1 : Nat) : Int))) = some (m, pObj s j (l1 : Int)) by rw [hq]; simp only [Option.map_some, hj])
 clear hq hj
 clear hV HL
 go_enter Try.func177, Try.ntmps177
 go_wp2_with fail
 refine start_ (n := 13) (S := fun w' => w'.cell? ⟨G, 4, none⟩ = some (.slice Au n cu) ∧ w'.cell? ⟨B, 0, none⟩ = some (.pointer (some ⟨g, 0, none⟩)) ∧ w'.cell? ⟨D, 0, none⟩ = some (.int .i64 dz)) (ds := [10, 12]) #[false, false, false, false, false, false, false, false, false, false, false, false, false] (by kernel_rfl) rfl rfl ⟨k4, kB, kD⟩ (fun hHeld => ?_)
 clear k4 kB kD
 obtain ⟨V, eV⟩ : ∃ V, V = w.drew := ⟨_, rfl⟩
 rw [← eV] at HV hHeld ⊢
 clear eV
 refine with_tab (T := tabR177_0) tabR177_0_eq (fun HT_ => ?_)
 refine pure_ (i := 0) (N := some 3) (v := ?_) (a' := ?_) #[true, false, false, false, false, false, false, false, false, false, false, false, false] rfl rfl (any_of HT_.out (by kernel_rfl)) (fun _ _ _ h => h) (Or.inl ⟨by rfl, ?_⟩) ?_ ?_
 rotate_left
 ·intro w'
  go_simp
  with_reducible rfl
 rotate_left
 ·simp only [Act.put, List.setIfInBounds_toArray, List.set_cons_zero, List.set_cons_succ, i64_w, i32_w]
  rfl
 refine take_ (i := 1) (N := some 4) (v := ?_) (a' := ?_) #[true, true, false, false, false, false, false, false, false, false, false, false, false] rfl rfl (take_of HT_.out (by kernel_rfl)) (fun _ _ _ h => h) (Or.inl ⟨by rfl, ?_⟩) hHeld ?_ ?_
 rotate_left
 ·intro w' hh
  have q0 := hh.1
  have q1 := hh.2.1
  have q2 := hh.2.2
  go_simp
  with_reducible rfl
 rotate_left
 ·simp only [Act.put, List.setIfInBounds_toArray, List.set_cons_zero, List.set_cons_succ, i64_w, i32_w]
  rfl
 refine take_ (i := 2) (N := some 5) (v := ?_) (a' := ?_) #[true, true, true, false, false, false, false, false, false, false, false, false, false] rfl rfl (take_of HT_.out (by kernel_rfl)) (fun _ _ _ h => h) (Or.inl ⟨by rfl, ?_⟩) hHeld ?_ ?_
 rotate_left
 ·intro w' hh
  have q0 := hh.1
  have q1 := hh.2.1
  have q2 := hh.2.2
  go_simp
  with_reducible rfl
 rotate_left
 ·simp only [Act.put, List.setIfInBounds_toArray, List.set_cons_zero, List.set_cons_succ, i64_w, i32_w]
  rfl
 refine take_ (i := 3) (N := some 6) (v := ?_) (a' := ?_) #[true, true, true, true, false, false, false, false, false, false, false, false, false] rfl rfl (take_of HT_.out (by kernel_rfl)) (fun _ _ _ h => h) (Or.inl ⟨by rfl, ?_⟩) hHeld ?_ ?_
 rotate_left
 ·intro w' hh
  have q0 := hh.1
  have q1 := hh.2.1
  have q2 := hh.2.2
  go_simp
  with_reducible rfl
 rotate_left
 ·simp only [Act.put, List.setIfInBounds_toArray, List.set_cons_zero, List.set_cons_succ, i64_w, i32_w]
  rfl
 have hdw := HDW.out
 refine pure_ (i := 4) (N := some 7) (v := ?_) (a' := ?_) #[true, true, true, true, true, false, false, false, false, false, false, false, false] rfl rfl (any_of HT_.out (by kernel_rfl)) (fun _ _ _ h => h) (Or.inl ⟨by rfl, ?_⟩) ?_ ?_
 rotate_left
 ·intro w'
  go_simp
  with_reducible rfl
 rotate_left
 ·simp only [Act.put, List.setIfInBounds_toArray, List.set_cons_zero, List.set_cons_succ, i64_w, i32_w, hdw]
  rfl
 clear hdw
 refine pure_ (i := 6) (N := some 9) (v := ?_) (a' := ?_) #[true, true, true, true, true, false, true, false, false, false, false, false, false] rfl rfl (any_of HT_.out (by kernel_rfl)) (fun _ _ _ h => h) (Or.inl ⟨by rfl, ?_⟩) ?_ ?_
 rotate_left
 ·intro w'
  go_simp
  with_reducible rfl
 rotate_left
 ·simp only [Act.put, List.setIfInBounds_toArray, List.set_cons_zero, List.set_cons_succ, i64_w, i32_w]
  rfl
 have H1 := IH.out V i left hl hi HV.out.below HV.out.par
 rw [HQ.out] at H1
 have H1 := Lib.hid H1
 refine join_ (σ := Option Addr × Nat × Option Addr × Nat × Nat) 5 #[true, true, true, true, true, true, true, true, false, false, false, false, false] (fun q => [(8, mV m q.1 q.2.1 q.2.2.1 q.2.2.2.1), (10, .slice (some ⟨q.2.2.2.2, 0, none⟩) 1 1)]) (fun q w' => VK w0 wn w' g B D G base s op dz j (l1 : Int) ks cells n Au cu ∧ w'.heap[q.2.2.2.2]? = some (.cells Z5 25 (0, 0)) ∧ V.heap.size ≤ q.2.2.2.2 ∧ V.heap.size ≤ w'.heap.size ∧ MF w' (fun b => V.heap.size ≤ b ∧ b < w'.heap.size) m q.1 q.2.1 q.2.2.1 q.2.2.2.1) ?_ (fun hJ => ?_)
 rotate_left
 ·refine two_ (i := 5) (j := 7) (Ni := some 8) (Nj := some 10) #[true, true, true, true, true, true, true, false, false, false, false, false, false] #[true, true, true, true, true, false, true, true, false, false, false, false, false] rfl rfl rfl rfl (two_of HT_.out (by kernel_rfl)) (by decide) (by decide) (fun K_ hK_ => ?_) (fun K_ hK_ => ?_)
  ·
   refine goesP_ Try.func144 (by kernel_rfl) rfl #[.pointer (some ⟨g, 0, none⟩), .int .i64 (dz + 1)] (by rfl) rfl rfl (by (try simp only [List.map_toArray, List.map_cons, List.map_nil]); first | done | rfl) ?_
   refine (H1.out).mono ?_
   intro e w5 hp5
   obtain ⟨D3, f3, D4, f4, rfl, hB5, hK5, hMF5, hP5⟩ := hp5.some_
   have hV5 := HV.out.moved HLL.out hB5 hK5 hP5
   have hs5 := hK5.1
   refine Or.inl ⟨_, rfl, ?_⟩
   refine hK_.out _ _ ⟨(blk_cell hV5.blk 4).trans rfl, (blk_cell hV5.box 0).trans rfl, (blk_cell hV5.dbox 0).trans rfl⟩ (fun hHeld => ?_)
   clear hK_ K_
   try simp only [Act.put, List.setIfInBounds_toArray, List.set_cons_zero, List.set_cons_succ]
   refine one_ (i := 7) (N := some 10) #[true, true, true, true, true, true, true, true, false, false, false, false, false] rfl rfl (one_of HT_.out (by kernel_rfl)) (by decide) (fun K_ hK_ => ?_)
   go_simp
   have hVA := hV5.moved HLL.out (below_alloc hV5.below (.cells Z5 25)) (KeepBut.of_below (below_alloc (Below.refl w5.heap.size w5) _) g none) (hV5.par.below (below_alloc (Below.refl _ _) _))
   refine hK_.out _ _ ⟨(blk_cell hVA.blk 4).trans rfl, (blk_cell hVA.box 0).trans rfl, (blk_cell hVA.dbox 0).trans rfl⟩ (fun hHeld => ?_)
   exact norm_ (by simp only [putAll, Act.put, List.setIfInBounds_toArray, List.set_cons_zero, List.set_cons_succ]) (hJ (D3, f3, D4, f4, w5.heap.size) _ ⟨hVA, blk_new w5 _, hs5, by rw [World.size_alloc]; omega, hMF5.move (fun b hb => ⟨⟨hb.1, by rw [World.size_alloc]; have := hb.2; omega⟩, Below.heap_alloc _ _ _ hb.2⟩)⟩)
  ·go_simp
   have hVA := HV.out.moved HLL.out (below_alloc HV.out.below (.cells Z5 25)) (KeepBut.of_below (below_alloc (Below.refl V.heap.size V) _) g none) (HV.out.par.below (below_alloc (Below.refl _ _) _))
   refine hK_.out _ _ ⟨(blk_cell hVA.blk 4).trans rfl, (blk_cell hVA.box 0).trans rfl, (blk_cell hVA.dbox 0).trans rfl⟩ (fun hHeld => ?_)
   clear hK_ K_
   have H2 := IH.out _ i left hl hi hVA.below hVA.par
   rw [HQ.out] at H2
   have H2 := Lib.hid H2
   try simp only [Act.put, List.setIfInBounds_toArray, List.set_cons_zero, List.set_cons_succ]
   refine one_ (i := 5) (N := some 8) #[true, true, true, true, true, true, true, true, false, false, false, false, false] rfl rfl (one_of HT_.out (by kernel_rfl)) (by decide) (fun K_ hK_ => ?_)
   refine goesP_ Try.func144 (by kernel_rfl) rfl #[.pointer (some ⟨g, 0, none⟩), .int .i64 (dz + 1)] (by rfl) rfl rfl (by (try simp only [List.map_toArray, List.map_cons, List.map_nil]); first | done | rfl) ?_
   refine (H2.out).mono ?_
   intro e w5 hp5
   obtain ⟨D3, f3, D4, f4, rfl, hB5, hK5, hMF5, hP5⟩ := hp5.some_
   have hV5 := hVA.moved HLL.out hB5 hK5 hP5
   have hs5 := hK5.1
   rw [World.size_alloc] at hs5
   have hbz := (hK5.2 V.heap.size (by rw [World.size_alloc]; omega) (by have := HV.out.par.lt; omega) (by simp)).trans (blk_new V _)
   refine Or.inl ⟨_, rfl, ?_⟩
   refine hK_.out _ _ ⟨(blk_cell hV5.blk 4).trans rfl, (blk_cell hV5.box 0).trans rfl, (blk_cell hV5.dbox 0).trans rfl⟩ (fun hHeld => ?_)
   exact norm_ (by simp only [putAll, Act.put, List.setIfInBounds_toArray, List.set_cons_zero, List.set_cons_succ]) (hJ (D3, f3, D4, f4, V.heap.size) _ ⟨hV5, hbz, Nat.le_refl _, by omega, hMF5.move (fun b hb => ⟨⟨by have := hb.1; rw [World.size_alloc] at this; omega, hb.2⟩, rfl⟩)⟩)
 rintro ⟨D3, f3, D4, f4, bz⟩ W ⟨hW, hbz, hzb, hvs, hMF⟩
 simp only at hbz hzb hMF
 simp only [putAll, Act.put, List.setIfInBounds_toArray, List.set_cons_zero, List.set_cons_succ]
 clear hHeld H1
 have HW := Lib.hid hW
 have HMF := Lib.hid hMF
 have HZ := Lib.hid (And.intro hzb hvs)
 have HVS := Lib.hid (And.intro HV.out.size (fun k (hk : (Value.slice Au n cu).ownBlock = some k) => HV.out.own.lt _ hk))
 refine one_ (i := 8) (N := some 11) #[true, true, true, true, true, true, true, true, true, false, false, false, false] rfl rfl (one_of HT_.out (by kernel_rfl)) (by decide) (fun K_ hK_ => ?_)
 refine append_at (W := W) base (by rfl) (.tmp 4) (.tmp 10) 23 25 (.agg Z5) 5 88 rfl Try.underlying23 infoM rfl (by decide) (by decide) (.slice Au n cu) n cells [.int .i64 0, .string ⟨#[]⟩, .string ⟨#[]⟩, .slice none 0 0, .slice none 0 0] bz rfl rfl hbz rfl (by intro u hu; simp only [List.mem_cons, List.not_mem_nil, or_false] at hu; rcases hu with rfl | rfl | rfl | rfl | rfl <;> rfl) hW.own hW.size (by omega) ?_
 intro v2 w6 hown6 hg6 hat6
 obtain ⟨R, c2, rfl⟩ := own_some hown6
 obtain ⟨L1, L2, L3, L4, L5, L6, L7, L8, L9, L10, L11⟩ := HLL.out
 have hlo := hW.own.lt
 have hln := hown6.lt R rfl
 have hneG : some G ≠ (Value.slice Au n cu).ownBlock := fun e => by have := (hlo _ e.symm).1; omega
 have hneB : some B ≠ (Value.slice Au n cu).ownBlock := fun e => by have := (hlo _ e.symm).1; omega
 have hneD : some D ≠ (Value.slice Au n cu).ownBlock := fun e => by have := (hlo _ e.symm).1; omega
 have hwn := hW.keep.1
 have hneg : some g ≠ (Value.slice Au n cu).ownBlock := fun e => by have := (hlo _ e.symm).1; omega
 have q5 := (hg6.block G (blk_lt hW.blk) hneG).trans hW.blk
 have q4 := (hg6.block B (blk_lt hW.box) hneB).trans hW.box
 have qD := (hg6.block D (blk_lt hW.dbox) hneD).trans hW.dbox
 have qg : PB w6 g s j l1 := (hg6.block g hW.par.lt hneg).trans hW.par
 refine hK_.out _ _ ⟨(blk_cell q5 4).trans rfl, (blk_cell q4 0).trans rfl, (blk_cell qD 0).trans rfl⟩ (fun hHeld => ?_)
 clear hK_ K_
 try simp only [Act.put, List.setIfInBounds_toArray, List.set_cons_zero, List.set_cons_succ]
 have HB6 : Hid (Below w0.heap.size w0 w6) := Lib.hid (hW.below.grown hg6 (by omega) (fun k hk => by have := (hlo k hk).1; omega))
 have HK6 : Hid (KeepBut wn w6 g none) := Lib.hid ⟨by have := hg6.size; omega, fun i hi h1 h2 => (hg6.block i (by omega) (fun e => by have := (hlo _ e.symm).1; omega)).trans (hW.keep.2 i hi h1 h2)⟩
 have HG6 := Lib.hid hg6
 have HAT := Lib.hid hat6
 have HO6 := Lib.hid hown6
 have HQS := Lib.hid (And.intro q5 (And.intro q4 (And.intro qD qg)))
 have HLN := Lib.hid hln
 have HRG := Lib.hid (show R ≠ G by omega)
 have hcl := hW.clen
 have FIN : Hid (∀ X : World, X.heap.size = w6.heap.size → (∀ i, i ≠ R → i ≠ G → X.heap[i]? = w6.heap[i]?) → X.heap[G]? = some (.cells #[.int .i64 op, .string ⟨#[]⟩, .string ⟨#[]⟩, .slice none 0 0, .slice (some ⟨R, 0, none⟩) (n + 1) c2] 25 (0, 0)) → X.ownsRow base 25 5 (.slice (some ⟨R, 0, none⟩) (n + 1) c2) (n + 1) (cells ++ [.int .i64 m.f0, .string m.f1, .string m.f2, .slice D3 m.f3.length f3, .slice D4 m.f4.length f4]) → Below w0.heap.size w0 X → VK w0 wn X g B D G base s op dz j (l1 : Int) (ks ++ [m]) (cells ++ [.int .i64 m.f0, .string m.f1, .string m.f2, .slice D3 m.f3.length f3, .slice D4 m.f4.length f4]) (n + 1) (some ⟨R, 0, none⟩) c2) := Lib.hid (fun X hsz hX hGX hOX hBX => by
  have hW := HW.out
  have hzv := HZ.out.2
  have hs6 := hg6.size
  have hbR : base ≤ R := (hown6.lt R rfl).1
  have hfar : ∀ b, b < W.heap.size → (Value.slice Au n cu).ownBlock ≠ some b → R ≠ b := fun b hb hne e => by
   subst e
   rcases hat6 with h | h
   ·exact hne h.symm
   ·have h' : R = W.heap.size := by simpa [Value.ownBlock] using h
    omega
  refine ⟨hBX, ⟨by rw [hsz]; omega, fun i hi h1 h2 => (hX i (by omega) (by omega)).trans ((hg6.block i (by omega) (fun e => by have := (hlo _ e.symm).1; omega)).trans (hW.keep.2 i hi h1 h2))⟩, by have := hW.size; omega, (hX B (by omega) L9).trans q4, (hX D (by omega) L10).trans qD, hGX, (hX g (by omega) (by omega)).trans qg, hOX, Reps.snoc (hW.reps.imp_ (fun p c hk => hk.move (fun b hb => ?_))) ⟨D3, f3, D4, f4, rfl, HMF.out.move (fun b hb => ?_)⟩ rfl, by rw [List.length_append, hW.len]; rfl, by rw [List.length_append, hW.clen]; simp; omega⟩
  ·obtain ⟨b1, b2, b3⟩ := hb
   have hRb := hfar b b2 b3
   refine ⟨⟨b1, by omega, fun e => hRb (by simpa [Value.ownBlock] using e)⟩, (hX b (fun e => hRb e.symm) (by omega)).trans (hg6.block b b2 (fun e => b3 e.symm))⟩
  ·obtain ⟨b1, b2⟩ := hb
   have hv1 := HVS.out.1
   have b3 : (Value.slice Au n cu).ownBlock ≠ some b := fun e => by have := (HVS.out.2 b e).2; omega
   have hRb := hfar b b2 b3
   refine ⟨⟨by omega, by omega, fun e => hRb (by simpa [Value.ownBlock] using e)⟩, (hX b (fun e => hRb e.symm) (by omega)).trans (hg6.block b b2 (fun e => b3 e.symm))⟩)
 have HCL := Lib.hid hcl
 have HBG := Lib.hid (And.intro (show w0.heap.size ≤ G by omega) (show w0.heap.size ≤ R by have := (hown6.lt R rfl).1; omega))
 have cR0 := hown6.cellAt (n * 5) (by omega)
 have cR1 := hown6.cellAt (n * 5 + 1) (by omega)
 have cR2 := hown6.cellAt (n * 5 + 2) (by omega)
 have cR3 := hown6.cellAt (n * 5 + 3) (by omega)
 have cR4 := hown6.cellAt (n * 5 + 4) (by omega)
 rw [List.getElem?_append_right (by omega), hcl, Nat.sub_self] at cR0
 rw [List.getElem?_append_right (by omega), hcl, Nat.add_sub_cancel_left] at cR1 cR2 cR3 cR4
 simp only [List.getElem?_cons_zero, List.getElem?_cons_succ] at cR0 cR1 cR2 cR3 cR4
 have zR0 := hown6.frozenAt (n * 5)
 have zR1 := hown6.frozenAt (n * 5 + 1)
 have zR2 := hown6.frozenAt (n * 5 + 2)
 have zR3 := hown6.frozenAt (n * 5 + 3)
 have zR4 := hown6.frozenAt (n * 5 + 4)
 have zG4 := blk_frozen q5 4
 have cG4 : w6.cell? ⟨G, 4, none⟩ = some (.slice Au n cu) := (blk_cell q5 4).trans rfl
 have hRG : R ≠ G := HRG.out
 have hGR : G ≠ R := HRG.out.symm
 have hnn : (n : Int) < (n : Int) + 1 := Int.ofNat_lt.2 (Nat.lt_succ_self n)
 have hn0 : (0 : Int) ≤ (n : Int) := Int.natCast_nonneg n
 have hnN : n < n + 1 := Nat.lt_succ_self n
 clear hneg hneD hneB hneG hown6 hg6 hat6 hln hlo hwn q5 q4 qD qg hW hbz hzb hvs hMF hcl L1 L2 L3 L4 L5 L6 L7 L8 L9 L10 L11
 refine pure_ (i := 9) (N := some 12) (v := ?_) (a' := ?_) #[true, true, true, true, true, true, true, true, true, true, false, false, false] rfl rfl (any_of HT_.out (by kernel_rfl)) (fun _ _ _ h => h) (Or.inl ⟨by rfl, ?_⟩) ?_ ?_
 rotate_left
 ·intro w'
  go_simp
  with_reducible rfl
 rotate_left
 ·simp only [Act.put, List.setIfInBounds_toArray, List.set_cons_zero, List.set_cons_succ, i64_w, i32_w]
  rfl
 refine pure_ (i := 11) (N := some 13) (v := ?_) (a' := ?_) #[true, true, true, true, true, true, true, true, true, true, false, true, false] rfl rfl (any_of HT_.out (by kernel_rfl)) (fun _ _ _ h => h) (Or.inl ⟨by rfl, ?_⟩) ?_ ?_
 rotate_left
 ·intro w'
  go_simp
  with_reducible rfl
 rotate_left
 ·simp only [Act.put, List.setIfInBounds_toArray, List.set_cons_zero, List.set_cons_succ, i64_w, i32_w]
  rfl
 refine twoLast_ (i := 10) (j := 12) (Ni := none) (Nj := none) #[true, true, true, true, true, true, true, true, true, true, true, true, false] #[true, true, true, true, true, true, true, true, true, true, false, true, true] rfl rfl rfl rfl (two_of HT_.out (by kernel_rfl)) (by decide) (by decide) (fun K_ hK_ => ?_) (fun K_ hK_ => ?_)
 ·go_simp
  refine hK_.out _ _ ?_
  clear hK_ K_
  try simp only [Act.put, List.setIfInBounds_toArray, List.set_cons_zero, List.set_cons_succ]
  refine last_ (i := 12) (N := none) #[true, true, true, true, true, true, true, true, true, true, true, true, true] rfl rfl (one_of HT_.out (by kernel_rfl)) (by decide) (fun K_ hK_ => ?_)
  go_simp
  refine hK_.out _ _ ?_
  clear hK_ K_
  try simp only [Act.put, List.setIfInBounds_toArray, List.set_cons_zero, List.set_cons_succ]
  refine done_ (done_of HT_.out (by kernel_rfl)) ?_
  go_wp2
  refine ⟨rfl, .tuple #[], results_none rfl _ _ _, _, _, _, rfl, FIN.out _ (by simp) (fun i h1 h2 => (Below.heap_setCell _ _ _ _ h2).trans ((Below.heap_setCell _ _ _ _ h1).trans ((Below.heap_setCell _ _ _ _ h1).trans ((Below.heap_setCell _ _ _ _ h1).trans ((Below.heap_setCell _ _ _ _ h1).trans (Below.heap_setCell _ _ _ _ h1)))))) ((blk_set (((Below.heap_setCell _ _ _ _ hGR).trans ((Below.heap_setCell _ _ _ _ hGR).trans ((Below.heap_setCell _ _ _ _ hGR).trans ((Below.heap_setCell _ _ _ _ hGR).trans (Below.heap_setCell _ _ _ _ hGR))))).trans HQS.out.1) 4 _).trans (by rfl)) (own_move (own_elem HO6.out (n * 5) HCL.out.symm) (fun k hk => Below.heap_setCell _ _ _ _ (show k ≠ G by have h : R = k := (by simpa [Value.ownBlock] using hk); omega))) ((((((HB6.out.setCell HBG.out.2 _).setCell HBG.out.2 _).setCell HBG.out.2 _).setCell HBG.out.2 _).setCell HBG.out.2 _).setCell HBG.out.1 _)⟩
 ·go_simp
  refine hK_.out _ _ ?_
  clear hK_ K_
  try simp only [Act.put, List.setIfInBounds_toArray, List.set_cons_zero, List.set_cons_succ]
  refine last_ (i := 10) (N := none) #[true, true, true, true, true, true, true, true, true, true, true, true, true] rfl rfl (one_of HT_.out (by kernel_rfl)) (by decide) (fun K_ hK_ => ?_)
  go_simp
  refine hK_.out _ _ ?_
  clear hK_ K_
  try simp only [Act.put, List.setIfInBounds_toArray, List.set_cons_zero, List.set_cons_succ]
  refine done_ (done_of HT_.out (by kernel_rfl)) ?_
  go_wp2
  refine ⟨rfl, .tuple #[], results_none rfl _ _ _, _, _, _, rfl, FIN.out _ (by simp) (fun i h1 h2 => (Below.heap_setCell _ _ _ _ h1).trans ((Below.heap_setCell _ _ _ _ h1).trans ((Below.heap_setCell _ _ _ _ h1).trans ((Below.heap_setCell _ _ _ _ h1).trans ((Below.heap_setCell _ _ _ _ h1).trans (Below.heap_setCell _ _ _ _ h2)))))) (((Below.heap_setCell _ _ _ _ hGR).trans ((Below.heap_setCell _ _ _ _ hGR).trans ((Below.heap_setCell _ _ _ _ hGR).trans ((Below.heap_setCell _ _ _ _ hGR).trans (Below.heap_setCell _ _ _ _ hGR))))).trans ((blk_set HQS.out.1 4 _).trans (by rfl))) (own_elem (own_move HO6.out (fun k hk => Below.heap_setCell _ _ _ _ (show k ≠ G by have h : R = k := (by simpa [Value.ownBlock] using hk); omega))) (n * 5) HCL.out.symm) ((((((HB6.out.setCell HBG.out.1 _).setCell HBG.out.2 _).setCell HBG.out.2 _).setCell HBG.out.2 _).setCell HBG.out.2 _).setCell HBG.out.2 _)⟩
end Go.Proofs.Yteafilojjdfllaa
end
