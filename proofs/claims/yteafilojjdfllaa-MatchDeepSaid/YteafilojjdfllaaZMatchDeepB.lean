/- A part of the proof of MatchDeep. No condition. -/
import Derived.Laws.Strings
import Derived.Lib.Hide
import Derived.RegionTactic
import Derived.ChangeAlike
import Derived.Test.YteafilojjdfllaaRows
import Derived.WalkKit
import Derived.ProofKit
import Derived.OpenShut
import Derived.ChangeOld
import Derived.Below
import Derived.Carry
import Derived.SizedLaws
import Derived.JoinedOf
import Derived.KernelRfl
import Derived.Lib.Join
import Derived.Lib.Bytealg
import Derived.Shelf.Strings.OnBuilder
import Derived.Shelf.Small.Strs
import Derived.Shelf.Strings.Search1
import Derived.Test.YteafilojjdfllaaProg
import Derived.Lib.LazyBuf
import Derived.Scope
import Derived.WalkMore
import Derived.Test.YteafilojjdfllaaZMatchDeepA
section
namespace Go.Proofs.Yteafilojjdfllaa.PAll
open Go.RowKit Go.Proofs.YteafilojjdfllaaW.PrintWords Go.Proofs.YteafilojjdfllaaW.PrintLast Go.Proofs.YteafilojjdfllaaW.PrintMore
attribute [local go_sem] max2_int min2_int max_two min_two max_three min_three max_four min_four   -- for this text's walks alone
set_option linter.unusedVariables false
set_option linter.unusedSimpArgs false
def varveref11_Name.l0 : Nat → ByteArray → Int → Option (Bool)
 | 0, _, _ => none
 | k + 1, x0, x3 => if x3 < (x0.size : Int) then (if 0 ≤ x3 then (if (bt x0 x3) = 95 then (varveref11_Name.l0 k x0 (wrap64 (x3 + 1))) else (if (bt x0 x3) < 97 then (if (bt x0 x3) < 48 then (some false) else (if (bt x0 x3) > 57 then (some false) else (if x3 = 0 then (some false) else (varveref11_Name.l0 k x0 (wrap64 (x3 + 1)))))) else (if (bt x0 x3) > 122 then (if (bt x0 x3) < 48 then (some false) else (if (bt x0 x3) > 57 then (some false) else (if x3 = 0 then (some false) else (varveref11_Name.l0 k x0 (wrap64 (x3 + 1)))))) else (varveref11_Name.l0 k x0 (wrap64 (x3 + 1)))))) else (none)) else (if (x0.size : Int) ≥ 1 then (some (decide ((x0.size : Int) ≤ 32))) else (some false))
def varveref11_Name.f (k : Nat) (a0 : ByteArray) : Option (Bool) := varveref11_Name.l0 k a0 0
theorem varveref11_Name.mono_l : ∀ k, (∀ y0 y1, LeO (varveref11_Name.l0 k y0 y1) (varveref11_Name.l0 (k + 1) y0 y1))
 | 0 => fun _ _ r h => by simp [varveref11_Name.l0] at h
 | k + 1 => by
  have ih0 := varveref11_Name.mono_l k
  ·intro y0 y1
   unfold varveref11_Name.l0
   repeat' first
   | (with_reducible exact ih0 _ _)
   | (with_reducible exact LeO.refl _)
   | (with_reducible exact LeO.none _)
   | (with_reducible refine LeO.ite ?_ ?_)
   | (with_reducible refine LeO.bind ?_ (fun _ => ?_))
   | exact ih0 _ _
   | exact LeO.none _
   | refine LeO.ite ?_ ?_
   | refine LeO.bind ?_ (fun _ => ?_)
theorem varveref11_Name.mono : ∀ a0 k, LeO (varveref11_Name.f k a0) (varveref11_Name.f (k + 1) a0) := by
 intro a0 k
 have ih0 := varveref11_Name.mono_l k
 unfold varveref11_Name.f
 repeat' first
   | (with_reducible exact ih0 _ _)
   | (with_reducible exact LeO.refl _)
   | (with_reducible exact LeO.none _)
   | (with_reducible refine LeO.ite ?_ ?_)
   | (with_reducible refine LeO.bind ?_ (fun _ => ?_))
   | exact ih0 _ _
   | exact LeO.none _
   | refine LeO.ite ?_ ?_
   | refine LeO.bind ?_ (fun _ => ?_)
set_option maxHeartbeats 8000000 in
set_option maxRecDepth 100000 in
theorem varveref11_Name.calls (k : Nat) (a0 : ByteArray) (r : Bool) (w : World) (h : varveref11_Name.f k a0 = some r) :
  Calls Try.prog 64 #[.string a0] w fun e w' => e = .returned (.bool r) ∧ Drawn0 w w' := by
 have H : (varveref11_Name.l0 k a0 0) = some r := h
 clear h
 have H' := Aside0.mk H
 clear H
 go_enter Try.func64, Try.ntmps64
 go_wp2
 go_loopg [3] k (fun kq v3 w' => ∃ (x3_1 : Int), v3 = .int .i64 x3_1 ∧ Aside0 (varveref11_Name.l0 kq a0 x3_1 = some r) ∧ Aside0 (kq ≤ k) ∧ Drawn0 w w')
 case atStart => exact ⟨(0), (by first | rfl | (simp; done) | (simp [*]; done)), H', ⟨Nat.le_refl _⟩, by repeat (first | exact Drawn0.refl _ | apply Drawn0.step)⟩
 case round =>
  clear H'
  obtain ⟨x3_1, rfl, HA, HK1, ⟨m1, rfl⟩⟩ := hrel
  cases gk with
  | zero => exact absurd HA.out (by simp [varveref11_Name.l0])
  | succ k1 =>
   have H := HA.out
   clear HA
   simp only [varveref11_Name.l0] at H
   by_cases c2 : x3_1 < (a0.size : Int)
   ·rw [if_pos c2] at H
    have c2b0 : decide (x3_1 < (a0.size : Int)) = true := decide_eq_true c2
    clear c2
    by_cases c3 : 0 ≤ x3_1
    ·rw [if_pos c3] at H
     have c3b0 : decide (0 ≤ x3_1) = true := decide_eq_true c3
     clear c3
     by_cases c5 : (bt a0 x3_1) = 95
     ·rw [if_pos c5] at H
      have c5b0 : ((bt a0 x3_1) == 95) = true := beq_iff_eq.mpr c5
      have c5b1 : ((bt a0 x3_1) != 95) = false := bne_eq_false_iff_eq.mpr c5
      clear c5
      have H' := Aside0.mk H
      clear H
      have p4 : 0 ≤ (x3_1 : Int) := of_decide_eq_true (by first | (with_reducible assumption) | assumption)
      have q4 : x3_1 < (a0.size : Int) := of_decide_eq_true (by first | (with_reducible assumption) | assumption)
      have hx4 := bt_at a0 x3_1
      replace p4 := eq_true p4
      replace q4 := eq_true q4
      go_wp2
      go_roundg k1
      case measure => have := HK1.out; omega
      case rel => exact ⟨(wrap64 (x3_1 + 1)), (by first | rfl | (simp; done) | (simp [*]; done)), H', ⟨by have := HK1.out; omega⟩, by repeat (first | exact Drawn0.refl _ | apply Drawn0.step)⟩
     ·rw [if_neg c5] at H
      have c5b0 : ((bt a0 x3_1) == 95) = false := beq_eq_false_iff_ne.mpr c5
      have c5b1 : ((bt a0 x3_1) != 95) = true := bne_iff_ne.mpr c5
      by_cases c6 : (bt a0 x3_1) < 97
      ·rw [if_pos c6] at H
       have c6b0 : decide ((bt a0 x3_1) < 97) = true := decide_eq_true c6
       clear c6
       by_cases c7 : (bt a0 x3_1) < 48
       ·rw [if_pos c7] at H
        have c7b0 : decide ((bt a0 x3_1) < 48) = true := decide_eq_true c7
        clear c7
        obtain rfl := Option.some.inj H
        have p4 : 0 ≤ (x3_1 : Int) := of_decide_eq_true (by first | (with_reducible assumption) | assumption)
        have q4 : x3_1 < (a0.size : Int) := of_decide_eq_true (by first | (with_reducible assumption) | assumption)
        have hx4 := bt_at a0 x3_1
        replace p4 := eq_true p4
        replace q4 := eq_true q4
        go_wp2
        go_ret
        exact ⟨by first | rfl | (simp; done) | (simp [*]; done), by repeat (first | exact Drawn0.refl _ | apply Drawn0.step)⟩
       ·rw [if_neg c7] at H
        have c7b0 : decide ((bt a0 x3_1) < 48) = false := decide_eq_false c7
        clear c7
        by_cases c8 : (bt a0 x3_1) > 57
        ·rw [if_pos c8] at H
         have c8b0 : decide (57 < (bt a0 x3_1)) = true := decide_eq_true c8
         clear c8
         obtain rfl := Option.some.inj H
         have p4 : 0 ≤ (x3_1 : Int) := of_decide_eq_true (by first | (with_reducible assumption) | assumption)
         have q4 : x3_1 < (a0.size : Int) := of_decide_eq_true (by first | (with_reducible assumption) | assumption)
         have hx4 := bt_at a0 x3_1
         replace p4 := eq_true p4
         replace q4 := eq_true q4
         go_wp2
         go_ret
         exact ⟨by first | rfl | (simp; done) | (simp [*]; done), by repeat (first | exact Drawn0.refl _ | apply Drawn0.step)⟩
        ·rw [if_neg c8] at H
         have c8b0 : decide (57 < (bt a0 x3_1)) = false := decide_eq_false c8
         clear c8
         by_cases c9 : x3_1 = 0
         ·rw [if_pos c9] at H
          have c9b0 : (x3_1 == 0) = true := beq_iff_eq.mpr c9
          have c9b1 : (x3_1 != 0) = false := bne_eq_false_iff_eq.mpr c9
          clear c9
          obtain rfl := Option.some.inj H
          have p4 : 0 ≤ (x3_1 : Int) := of_decide_eq_true (by first | (with_reducible assumption) | assumption)
          have q4 : x3_1 < (a0.size : Int) := of_decide_eq_true (by first | (with_reducible assumption) | assumption)
          have hx4 := bt_at a0 x3_1
          replace p4 := eq_true p4
          replace q4 := eq_true q4
          go_wp2
          go_ret
          exact ⟨by first | rfl | (simp; done) | (simp [*]; done), by repeat (first | exact Drawn0.refl _ | apply Drawn0.step)⟩
         ·rw [if_neg c9] at H
          have c9b0 : (x3_1 == 0) = false := beq_eq_false_iff_ne.mpr c9
          have c9b1 : (x3_1 != 0) = true := bne_iff_ne.mpr c9
          have H' := Aside0.mk H
          clear H
          have p4 : 0 ≤ (x3_1 : Int) := of_decide_eq_true (by first | (with_reducible assumption) | assumption)
          have q4 : x3_1 < (a0.size : Int) := of_decide_eq_true (by first | (with_reducible assumption) | assumption)
          have hx4 := bt_at a0 x3_1
          replace p4 := eq_true p4
          replace q4 := eq_true q4
          go_wp2
          go_roundg k1
          case measure => have := HK1.out; omega
          case rel => exact ⟨(wrap64 (x3_1 + 1)), (by first | rfl | (simp; done) | (simp [*]; done)), H', ⟨by have := HK1.out; omega⟩, by repeat (first | exact Drawn0.refl _ | apply Drawn0.step)⟩
      ·rw [if_neg c6] at H
       have c6b0 : decide ((bt a0 x3_1) < 97) = false := decide_eq_false c6
       clear c6
       by_cases c10 : (bt a0 x3_1) > 122
       ·rw [if_pos c10] at H
        have c10b0 : decide (122 < (bt a0 x3_1)) = true := decide_eq_true c10
        clear c10
        by_cases c11 : (bt a0 x3_1) < 48
        ·rw [if_pos c11] at H
         have c11b0 : decide ((bt a0 x3_1) < 48) = true := decide_eq_true c11
         clear c11
         obtain rfl := Option.some.inj H
         have p4 : 0 ≤ (x3_1 : Int) := of_decide_eq_true (by first | (with_reducible assumption) | assumption)
         have q4 : x3_1 < (a0.size : Int) := of_decide_eq_true (by first | (with_reducible assumption) | assumption)
         have hx4 := bt_at a0 x3_1
         replace p4 := eq_true p4
         replace q4 := eq_true q4
         go_wp2
         go_ret
         exact ⟨by first | rfl | (simp; done) | (simp [*]; done), by repeat (first | exact Drawn0.refl _ | apply Drawn0.step)⟩
        ·rw [if_neg c11] at H
         have c11b0 : decide ((bt a0 x3_1) < 48) = false := decide_eq_false c11
         clear c11
         by_cases c12 : (bt a0 x3_1) > 57
         ·rw [if_pos c12] at H
          have c12b0 : decide (57 < (bt a0 x3_1)) = true := decide_eq_true c12
          clear c12
          obtain rfl := Option.some.inj H
          have p4 : 0 ≤ (x3_1 : Int) := of_decide_eq_true (by first | (with_reducible assumption) | assumption)
          have q4 : x3_1 < (a0.size : Int) := of_decide_eq_true (by first | (with_reducible assumption) | assumption)
          have hx4 := bt_at a0 x3_1
          replace p4 := eq_true p4
          replace q4 := eq_true q4
          go_wp2
          go_ret
          exact ⟨by first | rfl | (simp; done) | (simp [*]; done), by repeat (first | exact Drawn0.refl _ | apply Drawn0.step)⟩
         ·rw [if_neg c12] at H
          have c12b0 : decide (57 < (bt a0 x3_1)) = false := decide_eq_false c12
          clear c12
          by_cases c13 : x3_1 = 0
          ·rw [if_pos c13] at H
           have c13b0 : (x3_1 == 0) = true := beq_iff_eq.mpr c13
           have c13b1 : (x3_1 != 0) = false := bne_eq_false_iff_eq.mpr c13
           clear c13
           obtain rfl := Option.some.inj H
           have p4 : 0 ≤ (x3_1 : Int) := of_decide_eq_true (by first | (with_reducible assumption) | assumption)
           have q4 : x3_1 < (a0.size : Int) := of_decide_eq_true (by first | (with_reducible assumption) | assumption)
           have hx4 := bt_at a0 x3_1
           replace p4 := eq_true p4
           replace q4 := eq_true q4
           go_wp2
           go_ret
           exact ⟨by first | rfl | (simp; done) | (simp [*]; done), by repeat (first | exact Drawn0.refl _ | apply Drawn0.step)⟩
          ·rw [if_neg c13] at H
           have c13b0 : (x3_1 == 0) = false := beq_eq_false_iff_ne.mpr c13
           have c13b1 : (x3_1 != 0) = true := bne_iff_ne.mpr c13
           have H' := Aside0.mk H
           clear H
           have p4 : 0 ≤ (x3_1 : Int) := of_decide_eq_true (by first | (with_reducible assumption) | assumption)
           have q4 : x3_1 < (a0.size : Int) := of_decide_eq_true (by first | (with_reducible assumption) | assumption)
           have hx4 := bt_at a0 x3_1
           replace p4 := eq_true p4
           replace q4 := eq_true q4
           go_wp2
           go_roundg k1
           case measure => have := HK1.out; omega
           case rel => exact ⟨(wrap64 (x3_1 + 1)), (by first | rfl | (simp; done) | (simp [*]; done)), H', ⟨by have := HK1.out; omega⟩, by repeat (first | exact Drawn0.refl _ | apply Drawn0.step)⟩
       ·rw [if_neg c10] at H
        have c10b0 : decide (122 < (bt a0 x3_1)) = false := decide_eq_false c10
        clear c10
        have H' := Aside0.mk H
        clear H
        have p4 : 0 ≤ (x3_1 : Int) := of_decide_eq_true (by first | (with_reducible assumption) | assumption)
        have q4 : x3_1 < (a0.size : Int) := of_decide_eq_true (by first | (with_reducible assumption) | assumption)
        have hx4 := bt_at a0 x3_1
        replace p4 := eq_true p4
        replace q4 := eq_true q4
        go_wp2
        go_roundg k1
        case measure => have := HK1.out; omega
        case rel => exact ⟨(wrap64 (x3_1 + 1)), (by first | rfl | (simp; done) | (simp [*]; done)), H', ⟨by have := HK1.out; omega⟩, by repeat (first | exact Drawn0.refl _ | apply Drawn0.step)⟩
    ·rw [if_neg c3] at H
     exact absurd H (by simp)
   ·rw [if_neg c2] at H
    have c2b0 : decide (x3_1 < (a0.size : Int)) = false := decide_eq_false c2
    clear c2
    by_cases c14 : (a0.size : Int) ≥ 1
    ·rw [if_pos c14] at H
     have c14b0 : decide (1 ≤ (a0.size : Int)) = true := decide_eq_true c14
     have c14b1 : decide (1 ≤ a0.size) = true := decide_eq_true (by omega)
     clear c14
     obtain rfl := Option.some.inj H
     go_wp2
     go_ret
     exact ⟨by first | rfl | (simp; done) | (simp [*]; done), by repeat (first | exact Drawn0.refl _ | apply Drawn0.step)⟩
    ·rw [if_neg c14] at H
     have c14b0 : decide (1 ≤ (a0.size : Int)) = false := decide_eq_false c14
     have c14b1 : decide (1 ≤ a0.size) = false := decide_eq_false (by omega)
     clear c14
     obtain rfl := Option.some.inj H
     go_wp2
     go_ret
     exact ⟨by first | rfl | (simp; done) | (simp [*]; done), by repeat (first | exact Drawn0.refl _ | apply Drawn0.step)⟩
def varveref12_bare.f (a0_0 : Int) (a0_1 : ByteArray) (a0_2 : ByteArray) (l0_3 : List ByteArray) (l0_4 : List (S25)) (a1 : Bool) (a2 : Bool) (a3 : Bool) : Option (Bool) := if a1 = true then (if a2 = true then (if a3 = true then (some true) else (some ((l0_4.length : Int) == 0))) else (if (l0_3.length : Int) = 0 then (if a3 = true then (some true) else (some ((l0_4.length : Int) == 0))) else (some false))) else (if a0_2.toList = ([] : List UInt8) then (if a2 = true then (if a3 = true then (some true) else (some ((l0_4.length : Int) == 0))) else (if a0_1.toList = ([] : List UInt8) then (if (l0_3.length : Int) = 0 then (if a3 = true then (some true) else (some ((l0_4.length : Int) == 0))) else (some false)) else (some false))) else (some false))
set_option maxHeartbeats 8000000 in
set_option maxRecDepth 100000 in
theorem varveref12_bare.calls (a0_0 : Int) (a0_1 : ByteArray) (a0_2 : ByteArray) (A0_3 : Option Addr) (c0_3 : Nat) (l0_3 : List ByteArray) (A0_4 : Option Addr) (c0_4 : Nat) (l0_4 : List (S25)) (a1 : Bool) (a2 : Bool) (a3 : Bool) (r : Bool) (w : World) (hr0_3 : Kd.C Kd.string w A0_3 l0_3.length l0_3) (hc0_3 : l0_3.length ≤ c0_3) (hr0_4 : Kd.C k25 w A0_4 l0_4.length l0_4) (hc0_4 : l0_4.length ≤ c0_4) (h : varveref12_bare.f a0_0 a0_1 a0_2 l0_3 l0_4 a1 a2 a3 = some r) :
  Calls Try.prog 147 #[.agg #[.int .i64 a0_0, .string a0_1, .string a0_2, .slice A0_3 l0_3.length c0_3, .slice A0_4 l0_4.length c0_4], .bool a1, .bool a2, .bool a3] w fun e w' => e = .returned (.bool r) ∧ Below w.heap.size w w' := by
 have hu25 := Try.underlying25
 have HR0_3 := Aside0.mk hr0_3
 have HC0_3 := Aside0.mk hc0_3
 clear hr0_3 hc0_3
 have HR0_4 := Aside0.mk hr0_4
 have HC0_4 := Aside0.mk hc0_4
 clear hr0_4 hc0_4
 have HB := Aside0.mk (Below.refl w.heap.size w)
 have H : (if a1 = true then (if a2 = true then (if a3 = true then (some true) else (some ((l0_4.length : Int) == 0))) else (if (l0_3.length : Int) = 0 then (if a3 = true then (some true) else (some ((l0_4.length : Int) == 0))) else (some false))) else (if a0_2.toList = ([] : List UInt8) then (if a2 = true then (if a3 = true then (some true) else (some ((l0_4.length : Int) == 0))) else (if a0_1.toList = ([] : List UInt8) then (if (l0_3.length : Int) = 0 then (if a3 = true then (some true) else (some ((l0_4.length : Int) == 0))) else (some false)) else (some false))) else (some false))) = some r := h
 clear h
 by_cases c5 : a1 = true
 ·subst c5
  have H1 : (if a2 = true then (if a3 = true then (some true) else (some ((l0_4.length : Int) == 0))) else (if (l0_3.length : Int) = 0 then (if a3 = true then (some true) else (some ((l0_4.length : Int) == 0))) else (some false))) = some r := by rw [if_pos rfl] at H; exact H
  clear H
  have H := H1
  clear H1
  by_cases c6 : a2 = true
  ·subst c6
   have H1 : (if a3 = true then (some true) else (some ((l0_4.length : Int) == 0))) = some r := by rw [if_pos rfl] at H; exact H
   clear H
   have H := H1
   clear H1
   by_cases c7 : a3 = true
   ·subst c7
    have H1 : (some true) = some r := by rw [if_pos rfl] at H; exact H
    clear H
    have H := H1
    clear H1
    obtain rfl := Option.some.inj H
    go_enter Try.func147, Try.ntmps147
    go_wp2_with (first | ((with_reducible refine gate_dst (N := 4) rfl ?_); (try (refine gate_guard (by rfl) ?_; dsimp only)); refine box_event ?hg (N := 4) ?hd (cs := #[.int .i64 a0_0, .string a0_1, .string a0_2, .slice A0_3 l0_3.length c0_3, .slice A0_4 l0_4.length c0_4]) (t := 25) ?hr ?_; (case hd => rfl); (case hg => rfl); (case hr => first | (go_simp; done) | (go_simp; rfl)); intro gb157 hg w8 hbox hb; have n0_ := Aside0.mk (below_step (by repeat (first | (with_reducible first | exact HB.out | apply below_alloc | apply pw_below_drewN | apply below_drew1) | exact HB.out)) hb); have n1_ := Aside0.mk (hbox); have n2_ := Aside0.mk ((by rw [hg]; exact (below_size (by repeat (first | (with_reducible first | exact HB.out | apply below_alloc | apply pw_below_drewN | apply below_drew1) | exact HB.out))) : w.heap.size ≤ gb157)); have n3_ := Aside0.mk ((by rw [hg]; exact (below_size (by repeat (first | (with_reducible first | exact HB.out | apply below_alloc | apply pw_below_drewN | apply below_drew1) | exact HB.out))) : w.heap.size ≤ gb157)); clear HB; have HB := n0_; have BK157 := n1_; have GW157 := n2_; have GE157 := n3_; clear n0_ n1_ n2_ n3_; clear hb hbox hg))
    go_ret
    exact ⟨by first | rfl | (simp [errW_none, errW_some] <;> rfl) | (simp [*, errW_none, errW_some] <;> rfl), by repeat (first | (with_reducible first | exact HB.out | apply below_alloc | apply pw_below_drewN | apply below_drew1 | refine below_set ?_ GE157.out) | exact HB.out)⟩
   ·replace c7 := Bool.eq_false_iff.mpr c7
    subst c7
    have H1 : (some ((l0_4.length : Int) == 0)) = some r := by rw [if_neg (show ¬ (false = true) by decide)] at H; exact H
    clear H
    have H := H1
    clear H1
    obtain rfl := Option.some.inj H
    go_enter Try.func147, Try.ntmps147
    go_wp2_with (first | ((with_reducible refine gate_dst (N := 4) rfl ?_); (try (refine gate_guard (by rfl) ?_; dsimp only)); refine box_event ?hg (N := 4) ?hd (cs := #[.int .i64 a0_0, .string a0_1, .string a0_2, .slice A0_3 l0_3.length c0_3, .slice A0_4 l0_4.length c0_4]) (t := 25) ?hr ?_; (case hd => rfl); (case hg => rfl); (case hr => first | (go_simp; done) | (go_simp; rfl)); intro gb157 hg w9 hbox hb; have n0_ := Aside0.mk (below_step (by repeat (first | (with_reducible first | exact HB.out | apply below_alloc | apply pw_below_drewN | apply below_drew1) | exact HB.out)) hb); have n1_ := Aside0.mk (hbox); have n2_ := Aside0.mk ((by rw [hg]; exact (below_size (by repeat (first | (with_reducible first | exact HB.out | apply below_alloc | apply pw_below_drewN | apply below_drew1) | exact HB.out))) : w.heap.size ≤ gb157)); have n3_ := Aside0.mk ((by rw [hg]; exact (below_size (by repeat (first | (with_reducible first | exact HB.out | apply below_alloc | apply pw_below_drewN | apply below_drew1) | exact HB.out))) : w.heap.size ≤ gb157)); clear HB; have HB := n0_; have BK157 := n1_; have GW157 := n2_; have GE157 := n3_; clear n0_ n1_ n2_ n3_; clear hb hbox hg; have hcz10_0 : w9.cell? ⟨gb157, 0, none⟩ = some (.int .i64 a0_0) := (blk_cell BK157.out 0).trans rfl; have hcz10_1 : w9.cell? ⟨gb157, 1, none⟩ = some (.string a0_1) := (blk_cell BK157.out 1).trans rfl; have hcz10_2 : w9.cell? ⟨gb157, 2, none⟩ = some (.string a0_2) := (blk_cell BK157.out 2).trans rfl; have hcz10_3 : w9.cell? ⟨gb157, 3, none⟩ = some (.slice A0_3 l0_3.length c0_3) := (blk_cell BK157.out 3).trans rfl; have hcz10_4 : w9.cell? ⟨gb157, 4, none⟩ = some (.slice A0_4 l0_4.length c0_4) := (blk_cell BK157.out 4).trans rfl; have hfz10_0 := blk_frozen BK157.out 0; have hfz10_1 := blk_frozen BK157.out 1; have hfz10_2 := blk_frozen BK157.out 2; have hfz10_3 := blk_frozen BK157.out 3; have hfz10_4 := blk_frozen BK157.out 4))
    go_ret
    exact ⟨by first | rfl | (simp [errW_none, errW_some] <;> rfl) | (simp [*, errW_none, errW_some] <;> rfl), by repeat (first | (with_reducible first | exact HB.out | apply below_alloc | apply pw_below_drewN | apply below_drew1 | refine below_set ?_ GE157.out) | exact HB.out)⟩
  ·replace c6 := Bool.eq_false_iff.mpr c6
   subst c6
   have H1 : (if (l0_3.length : Int) = 0 then (if a3 = true then (some true) else (some ((l0_4.length : Int) == 0))) else (some false)) = some r := by rw [if_neg (show ¬ (false = true) by decide)] at H; exact H
   clear H
   have H := H1
   clear H1
   by_cases c11 : (l0_3.length : Int) = 0
   ·rw [if_pos c11] at H
    have c11b0 : ((l0_3.length : Int) == 0) = true := beq_iff_eq.mpr c11
    have c11b1 : ((l0_3.length : Int) != 0) = false := bne_eq_false_iff_eq.mpr c11
    clear c11
    by_cases c12 : a3 = true
    ·subst c12
     have H1 : (some true) = some r := by rw [if_pos rfl] at H; exact H
     clear H
     have H := H1
     clear H1
     obtain rfl := Option.some.inj H
     go_enter Try.func147, Try.ntmps147
     go_wp2_with (first | ((with_reducible refine gate_dst (N := 4) rfl ?_); (try (refine gate_guard (by rfl) ?_; dsimp only)); refine box_event ?hg (N := 4) ?hd (cs := #[.int .i64 a0_0, .string a0_1, .string a0_2, .slice A0_3 l0_3.length c0_3, .slice A0_4 l0_4.length c0_4]) (t := 25) ?hr ?_; (case hd => rfl); (case hg => rfl); (case hr => first | (go_simp; done) | (go_simp; rfl)); intro gb157 hg w13 hbox hb; have n0_ := Aside0.mk (below_step (by repeat (first | (with_reducible first | exact HB.out | apply below_alloc | apply pw_below_drewN | apply below_drew1) | exact HB.out)) hb); have n1_ := Aside0.mk (hbox); have n2_ := Aside0.mk ((by rw [hg]; exact (below_size (by repeat (first | (with_reducible first | exact HB.out | apply below_alloc | apply pw_below_drewN | apply below_drew1) | exact HB.out))) : w.heap.size ≤ gb157)); have n3_ := Aside0.mk ((by rw [hg]; exact (below_size (by repeat (first | (with_reducible first | exact HB.out | apply below_alloc | apply pw_below_drewN | apply below_drew1) | exact HB.out))) : w.heap.size ≤ gb157)); clear HB; have HB := n0_; have BK157 := n1_; have GW157 := n2_; have GE157 := n3_; clear n0_ n1_ n2_ n3_; clear hb hbox hg; have hcz14_0 : w13.cell? ⟨gb157, 0, none⟩ = some (.int .i64 a0_0) := (blk_cell BK157.out 0).trans rfl; have hcz14_1 : w13.cell? ⟨gb157, 1, none⟩ = some (.string a0_1) := (blk_cell BK157.out 1).trans rfl; have hcz14_2 : w13.cell? ⟨gb157, 2, none⟩ = some (.string a0_2) := (blk_cell BK157.out 2).trans rfl; have hcz14_3 : w13.cell? ⟨gb157, 3, none⟩ = some (.slice A0_3 l0_3.length c0_3) := (blk_cell BK157.out 3).trans rfl; have hcz14_4 : w13.cell? ⟨gb157, 4, none⟩ = some (.slice A0_4 l0_4.length c0_4) := (blk_cell BK157.out 4).trans rfl; have hfz14_0 := blk_frozen BK157.out 0; have hfz14_1 := blk_frozen BK157.out 1; have hfz14_2 := blk_frozen BK157.out 2; have hfz14_3 := blk_frozen BK157.out 3; have hfz14_4 := blk_frozen BK157.out 4))
     go_ret
     exact ⟨by first | rfl | (simp [errW_none, errW_some] <;> rfl) | (simp [*, errW_none, errW_some] <;> rfl), by repeat (first | (with_reducible first | exact HB.out | apply below_alloc | apply pw_below_drewN | apply below_drew1 | refine below_set ?_ GE157.out) | exact HB.out)⟩
    ·replace c12 := Bool.eq_false_iff.mpr c12
     subst c12
     have H1 : (some ((l0_4.length : Int) == 0)) = some r := by rw [if_neg (show ¬ (false = true) by decide)] at H; exact H
     clear H
     have H := H1
     clear H1
     obtain rfl := Option.some.inj H
     go_enter Try.func147, Try.ntmps147
     go_wp2_with (first | ((with_reducible refine gate_dst (N := 4) rfl ?_); (try (refine gate_guard (by rfl) ?_; dsimp only)); refine box_event ?hg (N := 4) ?hd (cs := #[.int .i64 a0_0, .string a0_1, .string a0_2, .slice A0_3 l0_3.length c0_3, .slice A0_4 l0_4.length c0_4]) (t := 25) ?hr ?_; (case hd => rfl); (case hg => rfl); (case hr => first | (go_simp; done) | (go_simp; rfl)); intro gb157 hg w15 hbox hb; have n0_ := Aside0.mk (below_step (by repeat (first | (with_reducible first | exact HB.out | apply below_alloc | apply pw_below_drewN | apply below_drew1) | exact HB.out)) hb); have n1_ := Aside0.mk (hbox); have n2_ := Aside0.mk ((by rw [hg]; exact (below_size (by repeat (first | (with_reducible first | exact HB.out | apply below_alloc | apply pw_below_drewN | apply below_drew1) | exact HB.out))) : w.heap.size ≤ gb157)); have n3_ := Aside0.mk ((by rw [hg]; exact (below_size (by repeat (first | (with_reducible first | exact HB.out | apply below_alloc | apply pw_below_drewN | apply below_drew1) | exact HB.out))) : w.heap.size ≤ gb157)); clear HB; have HB := n0_; have BK157 := n1_; have GW157 := n2_; have GE157 := n3_; clear n0_ n1_ n2_ n3_; clear hb hbox hg; have hcz16_0 : w15.cell? ⟨gb157, 0, none⟩ = some (.int .i64 a0_0) := (blk_cell BK157.out 0).trans rfl; have hcz16_1 : w15.cell? ⟨gb157, 1, none⟩ = some (.string a0_1) := (blk_cell BK157.out 1).trans rfl; have hcz16_2 : w15.cell? ⟨gb157, 2, none⟩ = some (.string a0_2) := (blk_cell BK157.out 2).trans rfl; have hcz16_3 : w15.cell? ⟨gb157, 3, none⟩ = some (.slice A0_3 l0_3.length c0_3) := (blk_cell BK157.out 3).trans rfl; have hcz16_4 : w15.cell? ⟨gb157, 4, none⟩ = some (.slice A0_4 l0_4.length c0_4) := (blk_cell BK157.out 4).trans rfl; have hfz16_0 := blk_frozen BK157.out 0; have hfz16_1 := blk_frozen BK157.out 1; have hfz16_2 := blk_frozen BK157.out 2; have hfz16_3 := blk_frozen BK157.out 3; have hfz16_4 := blk_frozen BK157.out 4))
     go_ret
     exact ⟨by first | rfl | (simp [errW_none, errW_some] <;> rfl) | (simp [*, errW_none, errW_some] <;> rfl), by repeat (first | (with_reducible first | exact HB.out | apply below_alloc | apply pw_below_drewN | apply below_drew1 | refine below_set ?_ GE157.out) | exact HB.out)⟩
   ·rw [if_neg c11] at H
    have c11b0 : ((l0_3.length : Int) == 0) = false := beq_eq_false_iff_ne.mpr c11
    have c11b1 : ((l0_3.length : Int) != 0) = true := bne_iff_ne.mpr c11
    have c11b2 : ¬ (l0_3 = []) := fun h_ => c11 (by rw [h_]; rfl)
    obtain rfl := Option.some.inj H
    go_enter Try.func147, Try.ntmps147
    go_wp2_with (first | ((with_reducible refine gate_dst (N := 4) rfl ?_); (try (refine gate_guard (by rfl) ?_; dsimp only)); refine box_event ?hg (N := 4) ?hd (cs := #[.int .i64 a0_0, .string a0_1, .string a0_2, .slice A0_3 l0_3.length c0_3, .slice A0_4 l0_4.length c0_4]) (t := 25) ?hr ?_; (case hd => rfl); (case hg => rfl); (case hr => first | (go_simp; done) | (go_simp; rfl)); intro gb157 hg w17 hbox hb; have n0_ := Aside0.mk (below_step (by repeat (first | (with_reducible first | exact HB.out | apply below_alloc | apply pw_below_drewN | apply below_drew1) | exact HB.out)) hb); have n1_ := Aside0.mk (hbox); have n2_ := Aside0.mk ((by rw [hg]; exact (below_size (by repeat (first | (with_reducible first | exact HB.out | apply below_alloc | apply pw_below_drewN | apply below_drew1) | exact HB.out))) : w.heap.size ≤ gb157)); have n3_ := Aside0.mk ((by rw [hg]; exact (below_size (by repeat (first | (with_reducible first | exact HB.out | apply below_alloc | apply pw_below_drewN | apply below_drew1) | exact HB.out))) : w.heap.size ≤ gb157)); clear HB; have HB := n0_; have BK157 := n1_; have GW157 := n2_; have GE157 := n3_; clear n0_ n1_ n2_ n3_; clear hb hbox hg; have hcz18_0 : w17.cell? ⟨gb157, 0, none⟩ = some (.int .i64 a0_0) := (blk_cell BK157.out 0).trans rfl; have hcz18_1 : w17.cell? ⟨gb157, 1, none⟩ = some (.string a0_1) := (blk_cell BK157.out 1).trans rfl; have hcz18_2 : w17.cell? ⟨gb157, 2, none⟩ = some (.string a0_2) := (blk_cell BK157.out 2).trans rfl; have hcz18_3 : w17.cell? ⟨gb157, 3, none⟩ = some (.slice A0_3 l0_3.length c0_3) := (blk_cell BK157.out 3).trans rfl; have hcz18_4 : w17.cell? ⟨gb157, 4, none⟩ = some (.slice A0_4 l0_4.length c0_4) := (blk_cell BK157.out 4).trans rfl; have hfz18_0 := blk_frozen BK157.out 0; have hfz18_1 := blk_frozen BK157.out 1; have hfz18_2 := blk_frozen BK157.out 2; have hfz18_3 := blk_frozen BK157.out 3; have hfz18_4 := blk_frozen BK157.out 4))
    go_ret
    exact ⟨by first | rfl | (simp [errW_none, errW_some] <;> rfl) | (simp [*, errW_none, errW_some] <;> rfl), by repeat (first | (with_reducible first | exact HB.out | apply below_alloc | apply pw_below_drewN | apply below_drew1 | refine below_set ?_ GE157.out) | exact HB.out)⟩
 ·replace c5 := Bool.eq_false_iff.mpr c5
  subst c5
  have H1 : (if a0_2.toList = ([] : List UInt8) then (if a2 = true then (if a3 = true then (some true) else (some ((l0_4.length : Int) == 0))) else (if a0_1.toList = ([] : List UInt8) then (if (l0_3.length : Int) = 0 then (if a3 = true then (some true) else (some ((l0_4.length : Int) == 0))) else (some false)) else (some false))) else (some false)) = some r := by rw [if_neg (show ¬ (false = true) by decide)] at H; exact H
  clear H
  have H := H1
  clear H1
  by_cases c19 : a0_2.toList = ([] : List UInt8)
  ·rw [if_pos c19] at H
   have c19b0 : (a0_2.toList == ([] : List UInt8)) = true := beq_iff_eq.mpr c19
   have c19b1 : (a0_2.toList != ([] : List UInt8)) = false := bne_eq_false_iff_eq.mpr c19
   clear c19
   by_cases c20 : a2 = true
   ·subst c20
    have H1 : (if a3 = true then (some true) else (some ((l0_4.length : Int) == 0))) = some r := by rw [if_pos rfl] at H; exact H
    clear H
    have H := H1
    clear H1
    by_cases c21 : a3 = true
    ·subst c21
     have H1 : (some true) = some r := by rw [if_pos rfl] at H; exact H
     clear H
     have H := H1
     clear H1
     obtain rfl := Option.some.inj H
     go_enter Try.func147, Try.ntmps147
     go_wp2_with (first | ((with_reducible refine gate_dst (N := 4) rfl ?_); (try (refine gate_guard (by rfl) ?_; dsimp only)); refine box_event ?hg (N := 4) ?hd (cs := #[.int .i64 a0_0, .string a0_1, .string a0_2, .slice A0_3 l0_3.length c0_3, .slice A0_4 l0_4.length c0_4]) (t := 25) ?hr ?_; (case hd => rfl); (case hg => rfl); (case hr => first | (go_simp; done) | (go_simp; rfl)); intro gb157 hg w22 hbox hb; have n0_ := Aside0.mk (below_step (by repeat (first | (with_reducible first | exact HB.out | apply below_alloc | apply pw_below_drewN | apply below_drew1) | exact HB.out)) hb); have n1_ := Aside0.mk (hbox); have n2_ := Aside0.mk ((by rw [hg]; exact (below_size (by repeat (first | (with_reducible first | exact HB.out | apply below_alloc | apply pw_below_drewN | apply below_drew1) | exact HB.out))) : w.heap.size ≤ gb157)); have n3_ := Aside0.mk ((by rw [hg]; exact (below_size (by repeat (first | (with_reducible first | exact HB.out | apply below_alloc | apply pw_below_drewN | apply below_drew1) | exact HB.out))) : w.heap.size ≤ gb157)); clear HB; have HB := n0_; have BK157 := n1_; have GW157 := n2_; have GE157 := n3_; clear n0_ n1_ n2_ n3_; clear hb hbox hg; have hcz23_0 : w22.cell? ⟨gb157, 0, none⟩ = some (.int .i64 a0_0) := (blk_cell BK157.out 0).trans rfl; have hcz23_1 : w22.cell? ⟨gb157, 1, none⟩ = some (.string a0_1) := (blk_cell BK157.out 1).trans rfl; have hcz23_2 : w22.cell? ⟨gb157, 2, none⟩ = some (.string a0_2) := (blk_cell BK157.out 2).trans rfl; have hcz23_3 : w22.cell? ⟨gb157, 3, none⟩ = some (.slice A0_3 l0_3.length c0_3) := (blk_cell BK157.out 3).trans rfl; have hcz23_4 : w22.cell? ⟨gb157, 4, none⟩ = some (.slice A0_4 l0_4.length c0_4) := (blk_cell BK157.out 4).trans rfl; have hfz23_0 := blk_frozen BK157.out 0; have hfz23_1 := blk_frozen BK157.out 1; have hfz23_2 := blk_frozen BK157.out 2; have hfz23_3 := blk_frozen BK157.out 3; have hfz23_4 := blk_frozen BK157.out 4))
     go_ret
     exact ⟨by first | rfl | (simp [errW_none, errW_some] <;> rfl) | (simp [*, errW_none, errW_some] <;> rfl), by repeat (first | (with_reducible first | exact HB.out | apply below_alloc | apply pw_below_drewN | apply below_drew1 | refine below_set ?_ GE157.out) | exact HB.out)⟩
    ·replace c21 := Bool.eq_false_iff.mpr c21
     subst c21
     have H1 : (some ((l0_4.length : Int) == 0)) = some r := by rw [if_neg (show ¬ (false = true) by decide)] at H; exact H
     clear H
     have H := H1
     clear H1
     obtain rfl := Option.some.inj H
     go_enter Try.func147, Try.ntmps147
     go_wp2_with (first | ((with_reducible refine gate_dst (N := 4) rfl ?_); (try (refine gate_guard (by rfl) ?_; dsimp only)); refine box_event ?hg (N := 4) ?hd (cs := #[.int .i64 a0_0, .string a0_1, .string a0_2, .slice A0_3 l0_3.length c0_3, .slice A0_4 l0_4.length c0_4]) (t := 25) ?hr ?_; (case hd => rfl); (case hg => rfl); (case hr => first | (go_simp; done) | (go_simp; rfl)); intro gb157 hg w24 hbox hb; have n0_ := Aside0.mk (below_step (by repeat (first | (with_reducible first | exact HB.out | apply below_alloc | apply pw_below_drewN | apply below_drew1) | exact HB.out)) hb); have n1_ := Aside0.mk (hbox); have n2_ := Aside0.mk ((by rw [hg]; exact (below_size (by repeat (first | (with_reducible first | exact HB.out | apply below_alloc | apply pw_below_drewN | apply below_drew1) | exact HB.out))) : w.heap.size ≤ gb157)); have n3_ := Aside0.mk ((by rw [hg]; exact (below_size (by repeat (first | (with_reducible first | exact HB.out | apply below_alloc | apply pw_below_drewN | apply below_drew1) | exact HB.out))) : w.heap.size ≤ gb157)); clear HB; have HB := n0_; have BK157 := n1_; have GW157 := n2_; have GE157 := n3_; clear n0_ n1_ n2_ n3_; clear hb hbox hg; have hcz25_0 : w24.cell? ⟨gb157, 0, none⟩ = some (.int .i64 a0_0) := (blk_cell BK157.out 0).trans rfl; have hcz25_1 : w24.cell? ⟨gb157, 1, none⟩ = some (.string a0_1) := (blk_cell BK157.out 1).trans rfl; have hcz25_2 : w24.cell? ⟨gb157, 2, none⟩ = some (.string a0_2) := (blk_cell BK157.out 2).trans rfl; have hcz25_3 : w24.cell? ⟨gb157, 3, none⟩ = some (.slice A0_3 l0_3.length c0_3) := (blk_cell BK157.out 3).trans rfl; have hcz25_4 : w24.cell? ⟨gb157, 4, none⟩ = some (.slice A0_4 l0_4.length c0_4) := (blk_cell BK157.out 4).trans rfl; have hfz25_0 := blk_frozen BK157.out 0; have hfz25_1 := blk_frozen BK157.out 1; have hfz25_2 := blk_frozen BK157.out 2; have hfz25_3 := blk_frozen BK157.out 3; have hfz25_4 := blk_frozen BK157.out 4))
     go_ret
     exact ⟨by first | rfl | (simp [errW_none, errW_some] <;> rfl) | (simp [*, errW_none, errW_some] <;> rfl), by repeat (first | (with_reducible first | exact HB.out | apply below_alloc | apply pw_below_drewN | apply below_drew1 | refine below_set ?_ GE157.out) | exact HB.out)⟩
   ·replace c20 := Bool.eq_false_iff.mpr c20
    subst c20
    have H1 : (if a0_1.toList = ([] : List UInt8) then (if (l0_3.length : Int) = 0 then (if a3 = true then (some true) else (some ((l0_4.length : Int) == 0))) else (some false)) else (some false)) = some r := by rw [if_neg (show ¬ (false = true) by decide)] at H; exact H
    clear H
    have H := H1
    clear H1
    by_cases c26 : a0_1.toList = ([] : List UInt8)
    ·rw [if_pos c26] at H
     have c26b0 : (a0_1.toList == ([] : List UInt8)) = true := beq_iff_eq.mpr c26
     have c26b1 : (a0_1.toList != ([] : List UInt8)) = false := bne_eq_false_iff_eq.mpr c26
     clear c26
     by_cases c27 : (l0_3.length : Int) = 0
     ·rw [if_pos c27] at H
      have c27b0 : ((l0_3.length : Int) == 0) = true := beq_iff_eq.mpr c27
      have c27b1 : ((l0_3.length : Int) != 0) = false := bne_eq_false_iff_eq.mpr c27
      clear c27
      by_cases c28 : a3 = true
      ·subst c28
       have H1 : (some true) = some r := by rw [if_pos rfl] at H; exact H
       clear H
       have H := H1
       clear H1
       obtain rfl := Option.some.inj H
       go_enter Try.func147, Try.ntmps147
       go_wp2_with (first | ((with_reducible refine gate_dst (N := 4) rfl ?_); (try (refine gate_guard (by rfl) ?_; dsimp only)); refine box_event ?hg (N := 4) ?hd (cs := #[.int .i64 a0_0, .string a0_1, .string a0_2, .slice A0_3 l0_3.length c0_3, .slice A0_4 l0_4.length c0_4]) (t := 25) ?hr ?_; (case hd => rfl); (case hg => rfl); (case hr => first | (go_simp; done) | (go_simp; rfl)); intro gb157 hg w29 hbox hb; have n0_ := Aside0.mk (below_step (by repeat (first | (with_reducible first | exact HB.out | apply below_alloc | apply pw_below_drewN | apply below_drew1) | exact HB.out)) hb); have n1_ := Aside0.mk (hbox); have n2_ := Aside0.mk ((by rw [hg]; exact (below_size (by repeat (first | (with_reducible first | exact HB.out | apply below_alloc | apply pw_below_drewN | apply below_drew1) | exact HB.out))) : w.heap.size ≤ gb157)); have n3_ := Aside0.mk ((by rw [hg]; exact (below_size (by repeat (first | (with_reducible first | exact HB.out | apply below_alloc | apply pw_below_drewN | apply below_drew1) | exact HB.out))) : w.heap.size ≤ gb157)); clear HB; have HB := n0_; have BK157 := n1_; have GW157 := n2_; have GE157 := n3_; clear n0_ n1_ n2_ n3_; clear hb hbox hg; have hcz30_0 : w29.cell? ⟨gb157, 0, none⟩ = some (.int .i64 a0_0) := (blk_cell BK157.out 0).trans rfl; have hcz30_1 : w29.cell? ⟨gb157, 1, none⟩ = some (.string a0_1) := (blk_cell BK157.out 1).trans rfl; have hcz30_2 : w29.cell? ⟨gb157, 2, none⟩ = some (.string a0_2) := (blk_cell BK157.out 2).trans rfl; have hcz30_3 : w29.cell? ⟨gb157, 3, none⟩ = some (.slice A0_3 l0_3.length c0_3) := (blk_cell BK157.out 3).trans rfl; have hcz30_4 : w29.cell? ⟨gb157, 4, none⟩ = some (.slice A0_4 l0_4.length c0_4) := (blk_cell BK157.out 4).trans rfl; have hfz30_0 := blk_frozen BK157.out 0; have hfz30_1 := blk_frozen BK157.out 1; have hfz30_2 := blk_frozen BK157.out 2; have hfz30_3 := blk_frozen BK157.out 3; have hfz30_4 := blk_frozen BK157.out 4))
       go_ret
       exact ⟨by first | rfl | (simp [errW_none, errW_some] <;> rfl) | (simp [*, errW_none, errW_some] <;> rfl), by repeat (first | (with_reducible first | exact HB.out | apply below_alloc | apply pw_below_drewN | apply below_drew1 | refine below_set ?_ GE157.out) | exact HB.out)⟩
      ·replace c28 := Bool.eq_false_iff.mpr c28
       subst c28
       have H1 : (some ((l0_4.length : Int) == 0)) = some r := by rw [if_neg (show ¬ (false = true) by decide)] at H; exact H
       clear H
       have H := H1
       clear H1
       obtain rfl := Option.some.inj H
       go_enter Try.func147, Try.ntmps147
       go_wp2_with (first | ((with_reducible refine gate_dst (N := 4) rfl ?_); (try (refine gate_guard (by rfl) ?_; dsimp only)); refine box_event ?hg (N := 4) ?hd (cs := #[.int .i64 a0_0, .string a0_1, .string a0_2, .slice A0_3 l0_3.length c0_3, .slice A0_4 l0_4.length c0_4]) (t := 25) ?hr ?_; (case hd => rfl); (case hg => rfl); (case hr => first | (go_simp; done) | (go_simp; rfl)); intro gb157 hg w31 hbox hb; have n0_ := Aside0.mk (below_step (by repeat (first | (with_reducible first | exact HB.out | apply below_alloc | apply pw_below_drewN | apply below_drew1) | exact HB.out)) hb); have n1_ := Aside0.mk (hbox); have n2_ := Aside0.mk ((by rw [hg]; exact (below_size (by repeat (first | (with_reducible first | exact HB.out | apply below_alloc | apply pw_below_drewN | apply below_drew1) | exact HB.out))) : w.heap.size ≤ gb157)); have n3_ := Aside0.mk ((by rw [hg]; exact (below_size (by repeat (first | (with_reducible first | exact HB.out | apply below_alloc | apply pw_below_drewN | apply below_drew1) | exact HB.out))) : w.heap.size ≤ gb157)); clear HB; have HB := n0_; have BK157 := n1_; have GW157 := n2_; have GE157 := n3_; clear n0_ n1_ n2_ n3_; clear hb hbox hg; have hcz32_0 : w31.cell? ⟨gb157, 0, none⟩ = some (.int .i64 a0_0) := (blk_cell BK157.out 0).trans rfl; have hcz32_1 : w31.cell? ⟨gb157, 1, none⟩ = some (.string a0_1) := (blk_cell BK157.out 1).trans rfl; have hcz32_2 : w31.cell? ⟨gb157, 2, none⟩ = some (.string a0_2) := (blk_cell BK157.out 2).trans rfl; have hcz32_3 : w31.cell? ⟨gb157, 3, none⟩ = some (.slice A0_3 l0_3.length c0_3) := (blk_cell BK157.out 3).trans rfl; have hcz32_4 : w31.cell? ⟨gb157, 4, none⟩ = some (.slice A0_4 l0_4.length c0_4) := (blk_cell BK157.out 4).trans rfl; have hfz32_0 := blk_frozen BK157.out 0; have hfz32_1 := blk_frozen BK157.out 1; have hfz32_2 := blk_frozen BK157.out 2; have hfz32_3 := blk_frozen BK157.out 3; have hfz32_4 := blk_frozen BK157.out 4))
       go_ret
       exact ⟨by first | rfl | (simp [errW_none, errW_some] <;> rfl) | (simp [*, errW_none, errW_some] <;> rfl), by repeat (first | (with_reducible first | exact HB.out | apply below_alloc | apply pw_below_drewN | apply below_drew1 | refine below_set ?_ GE157.out) | exact HB.out)⟩
     ·rw [if_neg c27] at H
      have c27b0 : ((l0_3.length : Int) == 0) = false := beq_eq_false_iff_ne.mpr c27
      have c27b1 : ((l0_3.length : Int) != 0) = true := bne_iff_ne.mpr c27
      have c27b2 : ¬ (l0_3 = []) := fun h_ => c27 (by rw [h_]; rfl)
      obtain rfl := Option.some.inj H
      go_enter Try.func147, Try.ntmps147
      go_wp2_with (first | ((with_reducible refine gate_dst (N := 4) rfl ?_); (try (refine gate_guard (by rfl) ?_; dsimp only)); refine box_event ?hg (N := 4) ?hd (cs := #[.int .i64 a0_0, .string a0_1, .string a0_2, .slice A0_3 l0_3.length c0_3, .slice A0_4 l0_4.length c0_4]) (t := 25) ?hr ?_; (case hd => rfl); (case hg => rfl); (case hr => first | (go_simp; done) | (go_simp; rfl)); intro gb157 hg w33 hbox hb; have n0_ := Aside0.mk (below_step (by repeat (first | (with_reducible first | exact HB.out | apply below_alloc | apply pw_below_drewN | apply below_drew1) | exact HB.out)) hb); have n1_ := Aside0.mk (hbox); have n2_ := Aside0.mk ((by rw [hg]; exact (below_size (by repeat (first | (with_reducible first | exact HB.out | apply below_alloc | apply pw_below_drewN | apply below_drew1) | exact HB.out))) : w.heap.size ≤ gb157)); have n3_ := Aside0.mk ((by rw [hg]; exact (below_size (by repeat (first | (with_reducible first | exact HB.out | apply below_alloc | apply pw_below_drewN | apply below_drew1) | exact HB.out))) : w.heap.size ≤ gb157)); clear HB; have HB := n0_; have BK157 := n1_; have GW157 := n2_; have GE157 := n3_; clear n0_ n1_ n2_ n3_; clear hb hbox hg; have hcz34_0 : w33.cell? ⟨gb157, 0, none⟩ = some (.int .i64 a0_0) := (blk_cell BK157.out 0).trans rfl; have hcz34_1 : w33.cell? ⟨gb157, 1, none⟩ = some (.string a0_1) := (blk_cell BK157.out 1).trans rfl; have hcz34_2 : w33.cell? ⟨gb157, 2, none⟩ = some (.string a0_2) := (blk_cell BK157.out 2).trans rfl; have hcz34_3 : w33.cell? ⟨gb157, 3, none⟩ = some (.slice A0_3 l0_3.length c0_3) := (blk_cell BK157.out 3).trans rfl; have hcz34_4 : w33.cell? ⟨gb157, 4, none⟩ = some (.slice A0_4 l0_4.length c0_4) := (blk_cell BK157.out 4).trans rfl; have hfz34_0 := blk_frozen BK157.out 0; have hfz34_1 := blk_frozen BK157.out 1; have hfz34_2 := blk_frozen BK157.out 2; have hfz34_3 := blk_frozen BK157.out 3; have hfz34_4 := blk_frozen BK157.out 4))
      go_ret
      exact ⟨by first | rfl | (simp [errW_none, errW_some] <;> rfl) | (simp [*, errW_none, errW_some] <;> rfl), by repeat (first | (with_reducible first | exact HB.out | apply below_alloc | apply pw_below_drewN | apply below_drew1 | refine below_set ?_ GE157.out) | exact HB.out)⟩
    ·rw [if_neg c26] at H
     have c26b0 : (a0_1.toList == ([] : List UInt8)) = false := beq_eq_false_iff_ne.mpr c26
     have c26b1 : (a0_1.toList != ([] : List UInt8)) = true := bne_iff_ne.mpr c26
     obtain rfl := Option.some.inj H
     go_enter Try.func147, Try.ntmps147
     go_wp2_with (first | ((with_reducible refine gate_dst (N := 4) rfl ?_); (try (refine gate_guard (by rfl) ?_; dsimp only)); refine box_event ?hg (N := 4) ?hd (cs := #[.int .i64 a0_0, .string a0_1, .string a0_2, .slice A0_3 l0_3.length c0_3, .slice A0_4 l0_4.length c0_4]) (t := 25) ?hr ?_; (case hd => rfl); (case hg => rfl); (case hr => first | (go_simp; done) | (go_simp; rfl)); intro gb157 hg w35 hbox hb; have n0_ := Aside0.mk (below_step (by repeat (first | (with_reducible first | exact HB.out | apply below_alloc | apply pw_below_drewN | apply below_drew1) | exact HB.out)) hb); have n1_ := Aside0.mk (hbox); have n2_ := Aside0.mk ((by rw [hg]; exact (below_size (by repeat (first | (with_reducible first | exact HB.out | apply below_alloc | apply pw_below_drewN | apply below_drew1) | exact HB.out))) : w.heap.size ≤ gb157)); have n3_ := Aside0.mk ((by rw [hg]; exact (below_size (by repeat (first | (with_reducible first | exact HB.out | apply below_alloc | apply pw_below_drewN | apply below_drew1) | exact HB.out))) : w.heap.size ≤ gb157)); clear HB; have HB := n0_; have BK157 := n1_; have GW157 := n2_; have GE157 := n3_; clear n0_ n1_ n2_ n3_; clear hb hbox hg; have hcz36_0 : w35.cell? ⟨gb157, 0, none⟩ = some (.int .i64 a0_0) := (blk_cell BK157.out 0).trans rfl; have hcz36_1 : w35.cell? ⟨gb157, 1, none⟩ = some (.string a0_1) := (blk_cell BK157.out 1).trans rfl; have hcz36_2 : w35.cell? ⟨gb157, 2, none⟩ = some (.string a0_2) := (blk_cell BK157.out 2).trans rfl; have hcz36_3 : w35.cell? ⟨gb157, 3, none⟩ = some (.slice A0_3 l0_3.length c0_3) := (blk_cell BK157.out 3).trans rfl; have hcz36_4 : w35.cell? ⟨gb157, 4, none⟩ = some (.slice A0_4 l0_4.length c0_4) := (blk_cell BK157.out 4).trans rfl; have hfz36_0 := blk_frozen BK157.out 0; have hfz36_1 := blk_frozen BK157.out 1; have hfz36_2 := blk_frozen BK157.out 2; have hfz36_3 := blk_frozen BK157.out 3; have hfz36_4 := blk_frozen BK157.out 4))
     go_ret
     exact ⟨by first | rfl | (simp [errW_none, errW_some] <;> rfl) | (simp [*, errW_none, errW_some] <;> rfl), by repeat (first | (with_reducible first | exact HB.out | apply below_alloc | apply pw_below_drewN | apply below_drew1 | refine below_set ?_ GE157.out) | exact HB.out)⟩
  ·rw [if_neg c19] at H
   have c19b0 : (a0_2.toList == ([] : List UInt8)) = false := beq_eq_false_iff_ne.mpr c19
   have c19b1 : (a0_2.toList != ([] : List UInt8)) = true := bne_iff_ne.mpr c19
   obtain rfl := Option.some.inj H
   go_enter Try.func147, Try.ntmps147
   go_wp2_with (first | ((with_reducible refine gate_dst (N := 4) rfl ?_); (try (refine gate_guard (by rfl) ?_; dsimp only)); refine box_event ?hg (N := 4) ?hd (cs := #[.int .i64 a0_0, .string a0_1, .string a0_2, .slice A0_3 l0_3.length c0_3, .slice A0_4 l0_4.length c0_4]) (t := 25) ?hr ?_; (case hd => rfl); (case hg => rfl); (case hr => first | (go_simp; done) | (go_simp; rfl)); intro gb157 hg w37 hbox hb; have n0_ := Aside0.mk (below_step (by repeat (first | (with_reducible first | exact HB.out | apply below_alloc | apply pw_below_drewN | apply below_drew1) | exact HB.out)) hb); have n1_ := Aside0.mk (hbox); have n2_ := Aside0.mk ((by rw [hg]; exact (below_size (by repeat (first | (with_reducible first | exact HB.out | apply below_alloc | apply pw_below_drewN | apply below_drew1) | exact HB.out))) : w.heap.size ≤ gb157)); have n3_ := Aside0.mk ((by rw [hg]; exact (below_size (by repeat (first | (with_reducible first | exact HB.out | apply below_alloc | apply pw_below_drewN | apply below_drew1) | exact HB.out))) : w.heap.size ≤ gb157)); clear HB; have HB := n0_; have BK157 := n1_; have GW157 := n2_; have GE157 := n3_; clear n0_ n1_ n2_ n3_; clear hb hbox hg; have hcz38_0 : w37.cell? ⟨gb157, 0, none⟩ = some (.int .i64 a0_0) := (blk_cell BK157.out 0).trans rfl; have hcz38_1 : w37.cell? ⟨gb157, 1, none⟩ = some (.string a0_1) := (blk_cell BK157.out 1).trans rfl; have hcz38_2 : w37.cell? ⟨gb157, 2, none⟩ = some (.string a0_2) := (blk_cell BK157.out 2).trans rfl; have hcz38_3 : w37.cell? ⟨gb157, 3, none⟩ = some (.slice A0_3 l0_3.length c0_3) := (blk_cell BK157.out 3).trans rfl; have hcz38_4 : w37.cell? ⟨gb157, 4, none⟩ = some (.slice A0_4 l0_4.length c0_4) := (blk_cell BK157.out 4).trans rfl; have hfz38_0 := blk_frozen BK157.out 0; have hfz38_1 := blk_frozen BK157.out 1; have hfz38_2 := blk_frozen BK157.out 2; have hfz38_3 := blk_frozen BK157.out 3; have hfz38_4 := blk_frozen BK157.out 4))
   go_ret
   exact ⟨by first | rfl | (simp [errW_none, errW_some] <;> rfl) | (simp [*, errW_none, errW_some] <;> rfl), by repeat (first | (with_reducible first | exact HB.out | apply below_alloc | apply pw_below_drewN | apply below_drew1 | refine below_set ?_ GE157.out) | exact HB.out)⟩
/-- A state of type 122 at block g of W; what its slices lead to came in by w0. -/
def IsS122 (w0 W : World) (g : Nat) (f0 : Int) (f1 : Int) (f2 : Bool) : Prop := W.heap[g]? = some (.cells #[.int .i64 f0, .int .i64 f1, .bool f2] 122 (0, 0)) ∧ w0.heap.size ≤ g
theorem IsS122.grown {w0 W : World} {g : Nat} {f0 : Int} {f1 : Int} {f2 : Bool} {W1 : World} {row : Option Nat} (h : IsS122 w0 W g f0 f1 f2) (hw : W.grownBy W1 row) (hne : some g ≠ row) : IsS122 w0 W1 g f0 f1 f2 := by
 obtain ⟨hb, hg⟩ := h
 exact ⟨blk_grown hb hw hne, hg⟩
theorem IsS122.below {w0 W : World} {g : Nat} {f0 : Int} {f1 : Int} {f2 : Bool} {W1 : World} (h : IsS122 w0 W g f0 f1 f2) (hw : Below W.heap.size W W1) : IsS122 w0 W1 g f0 f1 f2 := h.grown (grown_of_below hw none) (by simp)
theorem IsS122.alloc {w0 W : World} {g : Nat} {f0 : Int} {f1 : Int} {f2 : Bool} (h : IsS122 w0 W g f0 f1 f2) (o : Obj) : IsS122 w0 (W.alloc o) g f0 f1 f2 := h.below (below_alloc (Below.refl _ _) o)
theorem IsS122.drewN {w0 W : World} {g : Nat} {f0 : Int} {f1 : Int} {f2 : Bool} (h : IsS122 w0 W g f0 f1 f2) (m : Nat) : IsS122 w0 (W.drewN m) g f0 f1 f2 := h
theorem IsS122.drew {w0 W : World} {g : Nat} {f0 : Int} {f1 : Int} {f2 : Bool} (h : IsS122 w0 W g f0 f1 f2) : IsS122 w0 W.drew g f0 f1 f2 := h
theorem IsS122.lt {w0 W : World} {g : Nat} {f0 : Int} {f1 : Int} {f2 : Bool} (h : IsS122 w0 W g f0 f1 f2) : g < W.heap.size := by
 obtain ⟨hb, hg⟩ := h
 exact blk_lt hb
theorem IsS122.ge {w0 W : World} {g : Nat} {f0 : Int} {f1 : Int} {f2 : Bool} (h : IsS122 w0 W g f0 f1 f2) : w0.heap.size ≤ g := by
 obtain ⟨hb, hg⟩ := h
 exact hg
theorem IsS122.far {w0 W : World} {g : Nat} {f0 : Int} {f1 : Int} {f2 : Bool} {p : Addr} (h : IsS122 w0 W g f0 f1 f2) (hne : g ≠ p.block) (u : Value) : IsS122 w0 (W.setCell p u) g f0 f1 f2 := by
 obtain ⟨hb, hg⟩ := h
 exact ⟨blk_far hb hne u, hg⟩
theorem cellS122_0 {W : World} {g : Nat} {f0 : Int} {f1 : Int} {f2 : Bool} (h : W.heap[g]? = some (.cells #[.int .i64 f0, .int .i64 f1, .bool f2] 122 (0, 0))) : W.cell? ⟨g, 0, none⟩ = some (.int .i64 f0) := (blk_cell h 0).trans rfl
theorem IsS122.set_0 {w0 W : World} {g : Nat} {f0 : Int} {f1 : Int} {f2 : Bool} (h : IsS122 w0 W g f0 f1 f2) (x : Int) : IsS122 w0 (W.setCell ⟨g, 0, none⟩ (.int .i64 x)) g x f1 f2 := by
 obtain ⟨hb, hg⟩ := h
 exact ⟨by simpa using blk_set hb 0 (.int .i64 x), hg⟩
theorem cellS122_1 {W : World} {g : Nat} {f0 : Int} {f1 : Int} {f2 : Bool} (h : W.heap[g]? = some (.cells #[.int .i64 f0, .int .i64 f1, .bool f2] 122 (0, 0))) : W.cell? ⟨g, 1, none⟩ = some (.int .i64 f1) := (blk_cell h 1).trans rfl
theorem IsS122.set_1 {w0 W : World} {g : Nat} {f0 : Int} {f1 : Int} {f2 : Bool} (h : IsS122 w0 W g f0 f1 f2) (x : Int) : IsS122 w0 (W.setCell ⟨g, 1, none⟩ (.int .i64 x)) g f0 x f2 := by
 obtain ⟨hb, hg⟩ := h
 exact ⟨by simpa using blk_set hb 1 (.int .i64 x), hg⟩
theorem cellS122_2 {W : World} {g : Nat} {f0 : Int} {f1 : Int} {f2 : Bool} (h : W.heap[g]? = some (.cells #[.int .i64 f0, .int .i64 f1, .bool f2] 122 (0, 0))) : W.cell? ⟨g, 2, none⟩ = some (.bool f2) := (blk_cell h 2).trans rfl
theorem IsS122.set_2 {w0 W : World} {g : Nat} {f0 : Int} {f1 : Int} {f2 : Bool} (h : IsS122 w0 W g f0 f1 f2) (x : Bool) : IsS122 w0 (W.setCell ⟨g, 2, none⟩ (.bool x)) g f0 f1 x := by
 obtain ⟨hb, hg⟩ := h
 exact ⟨by simpa using blk_set hb 2 (.bool x), hg⟩
def varveref12_size_text.f (s0_0 : Int) (s0_1 : Int) (s0_2 : Bool) (a1 : ByteArray) : Option (Int × Int × Bool) := if (a1.size : Int) > (wrap64 (4096 - s0_1)) then (some (s0_0, s0_1, true)) else (some (s0_0, wrap64 (s0_1 + (a1.size : Int)), s0_2))
set_option maxHeartbeats 8000000 in
set_option maxRecDepth 100000 in
theorem varveref12_size_text.calls (g : Nat) (s0_0 : Int) (s0_1 : Int) (s0_2 : Bool) (a1 : ByteArray) (r1 : Int) (r2 : Int) (r3 : Bool) (w0 w : World) (hI : IsS122 w0 w g s0_0 s0_1 s0_2) (hB : Below w0.heap.size w0 w) (h : varveref12_size_text.f s0_0 s0_1 s0_2 a1 = some (r1, r2, r3)) :
  Calls Try.prog 148 #[.pointer (some ⟨g, 0, none⟩), .string a1] w fun e w' => e = .returned (.tuple #[]) ∧ IsS122 w0 w' g r1 r2 r3 ∧ Below w0.heap.size w0 w' ∧ KeepBut w w' g none := by
 have HI0 := Aside0.mk hI
 have HK := Aside0.mk (KeepBut.refl w g none)
 have HL := Aside0.mk hB.size
 clear hI
 have HW0 := Aside0.mk hB.size
 have HB := Aside0.mk hB
 clear hB
 have H : (if (a1.size : Int) > (wrap64 (4096 - s0_1)) then (some (s0_0, s0_1, true)) else (some (s0_0, wrap64 (s0_1 + (a1.size : Int)), s0_2))) = some (r1, r2, r3) := h
 clear h
 by_cases c3 : (a1.size : Int) > (wrap64 (4096 - s0_1))
 ·rw [if_pos c3] at H
  have c3b0 : decide ((wrap64 (4096 - s0_1)) < (a1.size : Int)) = true := decide_eq_true c3
  clear c3
  simp only [Option.some.injEq, Prod.mk.injEq] at H
  obtain ⟨rfl, rfl, rfl⟩ := H
  obtain ⟨HGz4, hgz4⟩ := HI0.out
  have hcz4_0 := cellS122_0 HGz4
  have hcz4_1 := cellS122_1 HGz4
  have hcz4_2 := cellS122_2 HGz4
  have hfz4_0 := blk_frozen HGz4 0
  have hfz4_1 := blk_frozen HGz4 1
  have hfz4_2 := blk_frozen HGz4 2
  clear HGz4 hgz4
  go_enter Try.func148, Try.ntmps148
  go_wp2
  first | go_end0 | ((try simp only [Exit.inBlock, Exit.then]); refine bodyPost_ret (results_none rfl _ _ _) rfl ?_)
  exact ⟨by first | rfl | (simp [errW_none, errW_some] <;> rfl) | (simp [*, errW_none, errW_some] <;> rfl), by repeat (first | (with_reducible first | exact HI0.out | apply IsS122.alloc | apply IsS122.drewN | apply IsS122.drew | apply IsS122.set_0 | apply IsS122.set_1 | apply IsS122.set_2) | exact HI0.out), by repeat (first | (with_reducible first | exact HB.out | apply below_alloc | apply pw_below_drewN | apply below_drew1 | refine below_set ?_ (IsS122.ge HI0.out)) | exact HB.out), by repeat (first | (with_reducible first | exact HK.out | apply KeepBut.set_ | apply keep_drewN | apply keep_drew | apply keep_alloc) | exact HK.out)⟩
 ·rw [if_neg c3] at H
  have c3b0 : decide ((wrap64 (4096 - s0_1)) < (a1.size : Int)) = false := decide_eq_false c3
  clear c3
  simp only [Option.some.injEq, Prod.mk.injEq] at H
  obtain ⟨rfl, rfl, rfl⟩ := H
  obtain ⟨HGz5, hgz5⟩ := HI0.out
  have hcz5_0 := cellS122_0 HGz5
  have hcz5_1 := cellS122_1 HGz5
  have hcz5_2 := cellS122_2 HGz5
  have hfz5_0 := blk_frozen HGz5 0
  have hfz5_1 := blk_frozen HGz5 1
  have hfz5_2 := blk_frozen HGz5 2
  clear HGz5 hgz5
  go_enter Try.func148, Try.ntmps148
  go_wp2
  first | go_end0 | ((try simp only [Exit.inBlock, Exit.then]); refine bodyPost_ret (results_none rfl _ _ _) rfl ?_)
  exact ⟨by first | rfl | (simp [errW_none, errW_some] <;> rfl) | (simp [*, errW_none, errW_some] <;> rfl), by repeat (first | (with_reducible first | exact HI0.out | apply IsS122.alloc | apply IsS122.drewN | apply IsS122.drew | apply IsS122.set_0 | apply IsS122.set_1 | apply IsS122.set_2) | exact HI0.out), by repeat (first | (with_reducible first | exact HB.out | apply below_alloc | apply pw_below_drewN | apply below_drew1 | refine below_set ?_ (IsS122.ge HI0.out)) | exact HB.out), by repeat (first | (with_reducible first | exact HK.out | apply KeepBut.set_ | apply keep_drewN | apply keep_drew | apply keep_alloc) | exact HK.out)⟩
end Go.Proofs.Yteafilojjdfllaa.PAll
end
section
namespace Go.Proofs.Yteafilojjdfllaa.PAll
open Go.RowKit Go.Proofs.YteafilojjdfllaaW.PrintWords Go.Proofs.YteafilojjdfllaaW.PrintLast Go.Proofs.YteafilojjdfllaaW.PrintMore
attribute [local go_sem] max2_int min2_int max_two min_two max_three min_three max_four min_four   -- for this text's walks alone
set_option linter.unusedVariables false
set_option linter.unusedSimpArgs false
mutual
def varveref12_values.j0 : Nat → List ByteArray → Bool → Option (Bool)
 | 0, _, _ => none
 | k + 1, x0, x11 => if x11 = true then (some false) else (varveref12_values.l0 k x0 0)
def varveref12_values.l0 : Nat → List ByteArray → Int → Option (Bool)
 | 0, _, _ => none
 | k + 1, x0, x3 => if x3 < (x0.length : Int) then (if 0 ≤ x3 then (if ((rdOf ByteArray.empty x0 x3).size : Int) > 64 then (some false) else (if x3 > 0 then (if 0 ≤ (wrap64 (x3 - 1)) then (if (wrap64 (x3 - 1)) < (x0.length : Int) then (if ((Op.bytesLess ((rdOf ByteArray.empty x0 (wrap64 (x3 - 1))).toList) ((rdOf ByteArray.empty x0 x3).toList)) = true) then (varveref12_values.l0 k x0 (wrap64 (x3 + 1))) else (some false)) else (none)) else (none)) else (varveref12_values.l0 k x0 (wrap64 (x3 + 1))))) else (none)) else (some true)
end
def varveref12_values.f (k : Nat) (l0 : List ByteArray) : Option (Bool) := if (l0.length : Int) < 1 then (varveref12_values.j0 k l0 true) else (varveref12_values.j0 k l0 (decide ((l0.length : Int) > 16)))
theorem varveref12_values.mono_l : ∀ k, (∀ y0 y1, LeO (varveref12_values.j0 k y0 y1) (varveref12_values.j0 (k + 1) y0 y1)) ∧ (∀ y0 y1, LeO (varveref12_values.l0 k y0 y1) (varveref12_values.l0 (k + 1) y0 y1))
 | 0 => ⟨fun _ _ r h => by simp [varveref12_values.j0] at h, fun _ _ r h => by simp [varveref12_values.l0] at h⟩
 | k + 1 => by
  obtain ⟨ih0, ih1⟩ := varveref12_values.mono_l k
  refine ⟨?_, ?_⟩
  ·intro y0 y1
   unfold varveref12_values.j0
   repeat' first
   | (with_reducible exact ih0 _ _)
   | (with_reducible exact ih1 _ _)
   | (with_reducible exact LeO.refl _)
   | (with_reducible exact LeO.none _)
   | (with_reducible refine LeO.ite ?_ ?_)
   | (with_reducible refine LeO.bind ?_ (fun _ => ?_))
   | exact ih0 _ _
   | exact ih1 _ _
   | exact LeO.none _
   | refine LeO.ite ?_ ?_
   | refine LeO.bind ?_ (fun _ => ?_)
  ·intro y0 y1
   unfold varveref12_values.l0
   repeat' first
   | (with_reducible exact ih0 _ _)
   | (with_reducible exact ih1 _ _)
   | (with_reducible exact LeO.refl _)
   | (with_reducible exact LeO.none _)
   | (with_reducible refine LeO.ite ?_ ?_)
   | (with_reducible refine LeO.bind ?_ (fun _ => ?_))
   | exact ih0 _ _
   | exact ih1 _ _
   | exact LeO.none _
   | refine LeO.ite ?_ ?_
   | refine LeO.bind ?_ (fun _ => ?_)
theorem varveref12_values.mono : ∀ a0 k, LeO (varveref12_values.f k a0) (varveref12_values.f (k + 1) a0) := by
 intro a0 k
 obtain ⟨ih0, ih1⟩ := varveref12_values.mono_l k
 unfold varveref12_values.f
 repeat' first
   | (with_reducible exact ih0 _ _)
   | (with_reducible exact ih1 _ _)
   | (with_reducible exact LeO.refl _)
   | (with_reducible exact LeO.none _)
   | (with_reducible refine LeO.ite ?_ ?_)
   | (with_reducible refine LeO.bind ?_ (fun _ => ?_))
   | exact ih0 _ _
   | exact ih1 _ _
   | exact LeO.none _
   | refine LeO.ite ?_ ?_
   | refine LeO.bind ?_ (fun _ => ?_)
set_option maxHeartbeats 8000000 in
set_option maxRecDepth 100000 in
theorem varveref12_values.calls (k : Nat) (A0 : Option Addr) (c0 : Nat) (l0 : List ByteArray) (r : Bool) (w : World) (hr0 : Kd.C Kd.string w A0 l0.length l0) (hc0 : l0.length ≤ c0) (h : varveref12_values.f k l0 = some r) :
  Calls Try.prog 149 #[.slice A0 l0.length c0] w fun e w' => e = .returned (.bool r) ∧ Drawn0 w w' := by
 have HR0 := Aside0.mk hr0
 have HC0 := Aside0.mk hc0
 clear hr0 hc0
 have H : (if (l0.length : Int) < 1 then (varveref12_values.j0 k l0 true) else (varveref12_values.j0 k l0 (decide ((l0.length : Int) > 16)))) = some r := h
 clear h
 have HC2 := Aside0.mk H
 clear H
 go_enter Try.func149, Try.ntmps149
 go_upto_region 1 with (fail)
 repeat (go_quiet (fail); go_upto_region 1 with (fail))
 go_cut [11] (fun v11 wc => ∃ (kq : Nat) (x11_1 : Bool), v11 = .bool x11_1 ∧ Aside0 (varveref12_values.j0 kq l0 x11_1 = some r) ∧ Aside0 (kq ≤ k) ∧ Drawn0 w wc)
 case first =>
  have H := HC2.out
  clear HC2
  by_cases c3 : (l0.length : Int) < 1
  ·rw [if_pos c3] at H
   have c3b0 : decide ((l0.length : Int) < 1) = true := decide_eq_true c3
   have c3b1 : decide (l0.length < 1) = true := decide_eq_true (by omega)
   clear c3
   (first | rw [c3b0] | (simp only [i64_w, i32_w]; rw [c3b0]) | skip)
   have H' := Aside0.mk H
   clear H
   go_wp2
   repeat (go_quiet (fail); try go_wp2)
   go_meet
   case rel => exact ⟨_, (true), (by first | rfl | (simp; done) | (simp [*]; done)), H', ⟨by first | omega | exact Nat.le_refl _⟩, by repeat (first | exact Drawn0.refl _ | apply Drawn0.step)⟩
  ·rw [if_neg c3] at H
   have c3b0 : decide ((l0.length : Int) < 1) = false := decide_eq_false c3
   have c3b1 : decide (l0.length < 1) = false := decide_eq_false (by omega)
   clear c3
   (first | rw [c3b0] | (simp only [i64_w, i32_w]; rw [c3b0]) | skip)
   have H' := Aside0.mk H
   clear H
   go_wp2
   repeat (go_quiet (fail); try go_wp2)
   go_meet
   case rel => exact ⟨_, (decide ((l0.length : Int) > 16)), (by first | rfl | (simp; done) | (simp [*]; done)), H', ⟨by first | omega | exact Nat.le_refl _⟩, by repeat (first | exact Drawn0.refl _ | apply Drawn0.step)⟩
 case rest =>
  clear HC2
  try clear c1
  try clear p2
  try clear c3
  try clear c3b0
  try clear c3b1
  obtain ⟨kq, x11_1, rfl, HA, HJ1, ⟨mc1, rfl⟩⟩ := hcut
  cases kq with
  | zero => exact absurd HA.out (by simp [varveref12_values.j0])
  | succ kj1 =>
   have H := HA.out
   clear HA
   simp only [varveref12_values.j0] at H
   by_cases c4 : x11_1 = true
   ·subst c4
    have H1 : (some false) = some r := by rw [if_pos rfl] at H; exact H
    clear H
    have H := H1
    clear H1
    obtain rfl := Option.some.inj H
    go_wp2
    repeat (go_quiet (fail); try go_wp2)
    go_ret
    exact ⟨by first | rfl | (simp; done) | (simp [*]; done), by repeat (first | exact Drawn0.refl _ | apply Drawn0.step)⟩
   ·replace c4 := Bool.eq_false_iff.mpr c4
    subst c4
    have H1 : (varveref12_values.l0 kj1 l0 0) = some r := by rw [if_neg (show ¬ (false = true) by decide)] at H; exact H
    clear H
    have H := H1
    clear H1
    have H' := Aside0.mk H
    clear H
    go_wp2
    repeat (go_quiet (fail); try go_wp2)
    go_loopg [3] kj1 (fun kq v3 w' => ∃ (x3_2 : Int), v3 = .int .i64 x3_2 ∧ Aside0 (varveref12_values.l0 kq l0 x3_2 = some r) ∧ Aside0 (kq ≤ kj1) ∧ Drawn0 w w')
    case atStart => exact ⟨(0), (by first | rfl | (simp; done) | (simp [*]; done)), H', ⟨Nat.le_refl _⟩, by repeat (first | exact Drawn0.refl _ | apply Drawn0.step)⟩
    case round =>
     clear H'
     try clear c1
     try clear p2
     try clear c3
     try clear c3b0
     try clear c3b1
     try clear c4
     try clear p2
     obtain ⟨x3_2, rfl, HA, HK2, ⟨m2, rfl⟩⟩ := hrel
     cases gk with
     | zero => exact absurd HA.out (by simp [varveref12_values.l0])
     | succ k2 =>
      have H := HA.out
      clear HA
      simp only [varveref12_values.l0] at H
      by_cases c5 : x3_2 < (l0.length : Int)
      ·rw [if_pos c5] at H
       have c5b0 : decide (x3_2 < (l0.length : Int)) = true := decide_eq_true c5
       clear c5
       by_cases c6 : 0 ≤ x3_2
       ·rw [if_pos c6] at H
        have c6b0 : decide (0 ≤ x3_2) = true := decide_eq_true c6
        clear c6
        by_cases c7 : ((rdOf ByteArray.empty l0 x3_2).size : Int) > 64
        ·rw [if_pos c7] at H
         have c7b0 : decide (64 < ((rdOf ByteArray.empty l0 x3_2).size : Int)) = true := decide_eq_true c7
         have c7b1 : decide (64 < (rdOf ByteArray.empty l0 x3_2).size) = true := decide_eq_true (by omega)
         clear c7
         obtain rfl := Option.some.inj H
         have p158 : 0 ≤ (x3_2 : Int) := of_decide_eq_true (by first | (with_reducible assumption) | assumption)
         have q158 : x3_2 < (l0.length : Int) := of_decide_eq_true (by first | (with_reducible assumption) | assumption)
         obtain ⟨ad158, e158, hx158_0⟩ := Kd.at_string HR0.out x3_2 p158 q158
         cases e158
         replace p158 := eq_true p158
         replace q158 := eq_true q158
         go_wp2
         repeat (go_quiet (fail); try go_wp2)
         go_ret
         exact ⟨by first | rfl | (simp; done) | (simp [*]; done), by repeat (first | exact Drawn0.refl _ | apply Drawn0.step)⟩
        ·rw [if_neg c7] at H
         have c7b0 : decide (64 < ((rdOf ByteArray.empty l0 x3_2).size : Int)) = false := decide_eq_false c7
         have c7b1 : decide (64 < (rdOf ByteArray.empty l0 x3_2).size) = false := decide_eq_false (by omega)
         clear c7
         by_cases c8 : x3_2 > 0
         ·rw [if_pos c8] at H
          have c8b0 : decide (0 < x3_2) = true := decide_eq_true c8
          clear c8
          obtain ⟨ji9, hji9⟩ : ∃ j_ : Int, (wrap64 (x3_2 - 1)) = j_ := ⟨_, rfl⟩
          replace H : (if 0 ≤ (ji9) then (if (ji9) < (l0.length : Int) then (if ((Op.bytesLess ((rdOf ByteArray.empty l0 (ji9)).toList) ((rdOf ByteArray.empty l0 x3_2).toList)) = true) then (varveref12_values.l0 k2 l0 (wrap64 (x3_2 + 1))) else (some false)) else (none)) else (none)) = some r := by first | (rw [hji9] at H; exact H) | (simp only [hji9] at H ⊢; exact H)
          have hji9w : (IntKind.i64.wrap (x3_2 - 1)) = ji9 := (i64_w _).trans hji9
          by_cases c10 : 0 ≤ (ji9)
          ·rw [if_pos c10] at H
           have c10b0 : decide (0 ≤ (ji9)) = true := decide_eq_true c10
           clear c10
           by_cases c11 : (ji9) < (l0.length : Int)
           ·rw [if_pos c11] at H
            have c11b0 : decide ((ji9) < (l0.length : Int)) = true := decide_eq_true c11
            clear c11
            by_cases c12 : ((Op.bytesLess ((rdOf ByteArray.empty l0 (ji9)).toList) ((rdOf ByteArray.empty l0 x3_2).toList)) = true)
            ·rw [if_pos c12] at H
             have c12b0 : (Op.bytesLess ((rdOf ByteArray.empty l0 (ji9)).toList) ((rdOf ByteArray.empty l0 x3_2).toList)) = true := c12
             have c12bq := bl_t c12b0
             clear c12
             have H' := Aside0.mk H
             clear H
             have p158 : 0 ≤ (x3_2 : Int) := of_decide_eq_true (by first | (with_reducible assumption) | assumption)
             have q158 : x3_2 < (l0.length : Int) := of_decide_eq_true (by first | (with_reducible assumption) | assumption)
             obtain ⟨ad158, e158, hx158_0⟩ := Kd.at_string HR0.out x3_2 p158 q158
             cases e158
             replace p158 := eq_true p158
             replace q158 := eq_true q158
             have p159 : 0 ≤ (x3_2 : Int) := of_decide_eq_true (by first | (with_reducible assumption) | assumption)
             have q159 : x3_2 < (l0.length : Int) := of_decide_eq_true (by first | (with_reducible assumption) | assumption)
             obtain ⟨ad159, e159, hx159_0⟩ := Kd.at_string HR0.out x3_2 p159 q159
             obtain rfl : ad158 = ad159 := (by injection e159)
             replace p159 := eq_true p159
             replace q159 := eq_true q159
             have p160 : 0 ≤ ((ji9) : Int) := of_decide_eq_true (by first | (with_reducible assumption) | assumption)
             have q160 : (ji9) < (l0.length : Int) := of_decide_eq_true (by first | (with_reducible assumption) | assumption)
             obtain ⟨ad160, e160, hx160_0⟩ := Kd.at_string HR0.out (ji9) p160 q160
             obtain rfl : ad158 = ad160 := (by injection e160)
             replace p160 := eq_true p160
             replace q160 := eq_true q160
             go_wp2
             repeat (go_quiet (fail); try go_wp2)
             go_roundg k2
             case measure => have := HJ1.out; have := HK2.out; omega
             case rel => exact ⟨(wrap64 (x3_2 + 1)), (by first | rfl | (simp; done) | (simp [*]; done)), H', ⟨by have := HJ1.out; have := HK2.out; omega⟩, by repeat (first | exact Drawn0.refl _ | apply Drawn0.step)⟩
            ·rw [if_neg c12] at H
             have c12b0 : (Op.bytesLess ((rdOf ByteArray.empty l0 (ji9)).toList) ((rdOf ByteArray.empty l0 x3_2).toList)) = false := by simpa using c12
             have c12bq := bl_f c12b0
             clear c12
             obtain rfl := Option.some.inj H
             have p158 : 0 ≤ (x3_2 : Int) := of_decide_eq_true (by first | (with_reducible assumption) | assumption)
             have q158 : x3_2 < (l0.length : Int) := of_decide_eq_true (by first | (with_reducible assumption) | assumption)
             obtain ⟨ad158, e158, hx158_0⟩ := Kd.at_string HR0.out x3_2 p158 q158
             cases e158
             replace p158 := eq_true p158
             replace q158 := eq_true q158
             have p159 : 0 ≤ (x3_2 : Int) := of_decide_eq_true (by first | (with_reducible assumption) | assumption)
             have q159 : x3_2 < (l0.length : Int) := of_decide_eq_true (by first | (with_reducible assumption) | assumption)
             obtain ⟨ad159, e159, hx159_0⟩ := Kd.at_string HR0.out x3_2 p159 q159
             obtain rfl : ad158 = ad159 := (by injection e159)
             replace p159 := eq_true p159
             replace q159 := eq_true q159
             have p160 : 0 ≤ ((ji9) : Int) := of_decide_eq_true (by first | (with_reducible assumption) | assumption)
             have q160 : (ji9) < (l0.length : Int) := of_decide_eq_true (by first | (with_reducible assumption) | assumption)
             obtain ⟨ad160, e160, hx160_0⟩ := Kd.at_string HR0.out (ji9) p160 q160
             obtain rfl : ad158 = ad160 := (by injection e160)
             replace p160 := eq_true p160
             replace q160 := eq_true q160
             go_wp2
             repeat (go_quiet (fail); try go_wp2)
             go_ret
             exact ⟨by first | rfl | (simp; done) | (simp only [← hji9] <;> (first | rfl | simp)) | (simp [*]; done), by repeat (first | exact Drawn0.refl _ | apply Drawn0.step)⟩
           ·rw [if_neg c11] at H
            exact absurd H (by simp)
          ·rw [if_neg c10] at H
           exact absurd H (by simp)
         ·rw [if_neg c8] at H
          have c8b0 : decide (0 < x3_2) = false := decide_eq_false c8
          clear c8
          have H' := Aside0.mk H
          clear H
          have p158 : 0 ≤ (x3_2 : Int) := of_decide_eq_true (by first | (with_reducible assumption) | assumption)
          have q158 : x3_2 < (l0.length : Int) := of_decide_eq_true (by first | (with_reducible assumption) | assumption)
          obtain ⟨ad158, e158, hx158_0⟩ := Kd.at_string HR0.out x3_2 p158 q158
          cases e158
          replace p158 := eq_true p158
          replace q158 := eq_true q158
          go_wp2
          repeat (go_quiet (fail); try go_wp2)
          go_roundg k2
          case measure => have := HJ1.out; have := HK2.out; omega
          case rel => exact ⟨(wrap64 (x3_2 + 1)), (by first | rfl | (simp; done) | (simp [*]; done)), H', ⟨by have := HJ1.out; have := HK2.out; omega⟩, by repeat (first | exact Drawn0.refl _ | apply Drawn0.step)⟩
       ·rw [if_neg c6] at H
        exact absurd H (by simp)
      ·rw [if_neg c5] at H
       have c5b0 : decide (x3_2 < (l0.length : Int)) = false := decide_eq_false c5
       clear c5
       obtain rfl := Option.some.inj H
       go_wp2
       repeat (go_quiet (fail); try go_wp2)
       go_ret
       exact ⟨by first | rfl | (simp; done) | (simp [*]; done), by repeat (first | exact Drawn0.refl _ | apply Drawn0.step)⟩

-- NOT PRINTED: function 99 (varveref12_size_look)

-- NOT PRINTED: function 36 (varveref12_Check)
def varveref19_Aligned.f (a0 : Int) : Option (Bool) := if a0 ≥ 0 then (if a0 ≤ 1099511634240 then (some ((Int.tmod a0 8640) == 0)) else (some false)) else (some false)
set_option maxHeartbeats 8000000 in
set_option maxRecDepth 100000 in
theorem varveref19_Aligned.calls (a0 : Int) (r : Bool) (w : World) (h : varveref19_Aligned.f a0 = some r) :
  Calls Try.prog 98 #[.int .i64 a0] w fun e w' => e = .returned (.bool r) ∧ Drawn0 w w' := by
 have H : (if a0 ≥ 0 then (if a0 ≤ 1099511634240 then (some ((Int.tmod a0 8640) == 0)) else (some false)) else (some false)) = some r := h
 clear h
 by_cases c2 : a0 ≥ 0
 ·rw [if_pos c2] at H
  have c2b0 : decide (0 ≤ a0) = true := decide_eq_true c2
  clear c2
  by_cases c3 : a0 ≤ 1099511634240
  ·rw [if_pos c3] at H
   have c3b0 : decide (a0 ≤ 1099511634240) = true := decide_eq_true c3
   clear c3
   obtain rfl := Option.some.inj H
   go_enter Try.func98, Try.ntmps98
   go_wp2
   go_ret
   exact ⟨by first | rfl | (simp; done) | (simp [*]; done), by repeat (first | exact Drawn0.refl _ | apply Drawn0.step)⟩
  ·rw [if_neg c3] at H
   have c3b0 : decide (a0 ≤ 1099511634240) = false := decide_eq_false c3
   clear c3
   obtain rfl := Option.some.inj H
   go_enter Try.func98, Try.ntmps98
   go_wp2
   go_ret
   exact ⟨by first | rfl | (simp; done) | (simp [*]; done), by repeat (first | exact Drawn0.refl _ | apply Drawn0.step)⟩
 ·rw [if_neg c2] at H
  have c2b0 : decide (0 ≤ a0) = false := decide_eq_false c2
  clear c2
  obtain rfl := Option.some.inj H
  go_enter Try.func98, Try.ntmps98
  go_wp2
  go_ret
  exact ⟨by first | rfl | (simp; done) | (simp [*]; done), by repeat (first | exact Drawn0.refl _ | apply Drawn0.step)⟩

-- NOT PRINTED: function 35 (varveref19_Check)

-- NOT PRINTED: function 56 (varvelaw00_Labels)

-- NOT PRINTED: function 150 (varvelaw00_Buckets)

-- NOT PRINTED: function 151 (varvelaw00_Nums)

-- NOT PRINTED: function 100 (varvelaw00_Sketch)

-- NOT PRINTED: function 38 (varvelaw00_Row)
def varveref11_Value.l0 : Nat → List (S68) → ByteArray → Int → Option (ByteArray)
 | 0, _, _, _ => none
 | k + 1, x0, x1, x5 => if x5 < (x0.length : Int) then (if 0 ≤ x5 then (if ((rd_T68 x0 x5).f0).toList = x1.toList then (some ((rd_T68 x0 x5).f1)) else (varveref11_Value.l0 k x0 x1 (wrap64 (x5 + 1)))) else (none)) else (some (⟨#[]⟩ : ByteArray))
def varveref11_Value.f (k : Nat) (l0 : List (S68)) (a1 : ByteArray) : Option (ByteArray) := varveref11_Value.l0 k l0 a1 0
theorem varveref11_Value.mono_l : ∀ k, (∀ y0 y1 y2, LeO (varveref11_Value.l0 k y0 y1 y2) (varveref11_Value.l0 (k + 1) y0 y1 y2))
 | 0 => fun _ _ _ r h => by simp [varveref11_Value.l0] at h
 | k + 1 => by
  have ih0 := varveref11_Value.mono_l k
  ·intro y0 y1 y2
   unfold varveref11_Value.l0
   repeat' first
   | (with_reducible exact ih0 _ _ _)
   | (with_reducible exact LeO.refl _)
   | (with_reducible exact LeO.none _)
   | (with_reducible refine LeO.ite ?_ ?_)
   | (with_reducible refine LeO.bind ?_ (fun _ => ?_))
   | exact ih0 _ _ _
   | exact LeO.none _
   | refine LeO.ite ?_ ?_
   | refine LeO.bind ?_ (fun _ => ?_)
theorem varveref11_Value.mono : ∀ a0 a1 k, LeO (varveref11_Value.f k a0 a1) (varveref11_Value.f (k + 1) a0 a1) := by
 intro a0 a1 k
 have ih0 := varveref11_Value.mono_l k
 unfold varveref11_Value.f
 repeat' first
   | (with_reducible exact ih0 _ _ _)
   | (with_reducible exact LeO.refl _)
   | (with_reducible exact LeO.none _)
   | (with_reducible refine LeO.ite ?_ ?_)
   | (with_reducible refine LeO.bind ?_ (fun _ => ?_))
   | exact ih0 _ _ _
   | exact LeO.none _
   | refine LeO.ite ?_ ?_
   | refine LeO.bind ?_ (fun _ => ?_)
set_option maxHeartbeats 8000000 in
set_option maxRecDepth 100000 in
theorem varveref11_Value.calls (k : Nat) (A0 : Option Addr) (c0 : Nat) (l0 : List (S68)) (a1 : ByteArray) (r : ByteArray) (w : World) (hr0 : Kd.C k68 w A0 l0.length l0) (hc0 : l0.length ≤ c0) (h : varveref11_Value.f k l0 a1 = some r) :
  Calls Try.prog 66 #[.slice A0 l0.length c0, .string a1] w fun e w' => e = .returned (.string r) ∧ Drawn0 w w' := by
 have HR0 := Aside0.mk hr0
 have HC0 := Aside0.mk hc0
 clear hr0 hc0
 have H : (varveref11_Value.l0 k l0 a1 0) = some r := h
 clear h
 have H' := Aside0.mk H
 clear H
 go_enter Try.func66, Try.ntmps66
 go_wp2
 go_loopg [5] k (fun kq v5 w' => ∃ (x5_1 : Int), v5 = .int .i64 x5_1 ∧ Aside0 (varveref11_Value.l0 kq l0 a1 x5_1 = some r) ∧ Aside0 (kq ≤ k) ∧ Drawn0 w w')
 case atStart => exact ⟨(0), (by first | rfl | (simp; done) | (simp [*]; done)), H', ⟨Nat.le_refl _⟩, by repeat (first | exact Drawn0.refl _ | apply Drawn0.step)⟩
 case round =>
  clear H'
  try clear p2
  obtain ⟨x5_1, rfl, HA, HK1, ⟨m1, rfl⟩⟩ := hrel
  cases gk with
  | zero => exact absurd HA.out (by simp [varveref11_Value.l0])
  | succ k1 =>
   have H := HA.out
   clear HA
   simp only [varveref11_Value.l0] at H
   by_cases c3 : x5_1 < (l0.length : Int)
   ·rw [if_pos c3] at H
    have c3b0 : decide (x5_1 < (l0.length : Int)) = true := decide_eq_true c3
    clear c3
    by_cases c4 : 0 ≤ x5_1
    ·rw [if_pos c4] at H
     have c4b0 : decide (0 ≤ x5_1) = true := decide_eq_true c4
     clear c4
     by_cases c5 : ((rd_T68 l0 x5_1).f0).toList = a1.toList
     ·rw [if_pos c5] at H
      have c5b0 : (((rd_T68 l0 x5_1).f0).toList == a1.toList) = true := beq_iff_eq.mpr c5
      have c5b1 : (((rd_T68 l0 x5_1).f0).toList != a1.toList) = false := bne_eq_false_iff_eq.mpr c5
      clear c5
      obtain rfl := Option.some.inj H
      have p205 : 0 ≤ (x5_1 : Int) := of_decide_eq_true (by first | (with_reducible assumption) | assumption)
      have q205 : x5_1 < (l0.length : Int) := of_decide_eq_true (by first | (with_reducible assumption) | assumption)
      obtain ⟨ad205, e205, hx205_0, hx205_1⟩ := at_T68 HR0.out x5_1 p205 q205
      cases e205
      replace p205 := eq_true p205
      replace q205 := eq_true q205
      have p206 : 0 ≤ (x5_1 : Int) := of_decide_eq_true (by first | (with_reducible assumption) | assumption)
      have q206 : x5_1 < (l0.length : Int) := of_decide_eq_true (by first | (with_reducible assumption) | assumption)
      obtain ⟨ad206, e206, hx206_0, hx206_1⟩ := at_T68 HR0.out x5_1 p206 q206
      obtain rfl : ad205 = ad206 := (by injection e206)
      replace p206 := eq_true p206
      replace q206 := eq_true q206
      go_wp2
      go_ret
      exact ⟨by first | rfl | (simp; done) | (simp [*]; done), by repeat (first | exact Drawn0.refl _ | apply Drawn0.step)⟩
     ·rw [if_neg c5] at H
      have c5b0 : (((rd_T68 l0 x5_1).f0).toList == a1.toList) = false := beq_eq_false_iff_ne.mpr c5
      have c5b1 : (((rd_T68 l0 x5_1).f0).toList != a1.toList) = true := bne_iff_ne.mpr c5
      have H' := Aside0.mk H
      clear H
      have p205 : 0 ≤ (x5_1 : Int) := of_decide_eq_true (by first | (with_reducible assumption) | assumption)
      have q205 : x5_1 < (l0.length : Int) := of_decide_eq_true (by first | (with_reducible assumption) | assumption)
      obtain ⟨ad205, e205, hx205_0, hx205_1⟩ := at_T68 HR0.out x5_1 p205 q205
      cases e205
      replace p205 := eq_true p205
      replace q205 := eq_true q205
      go_wp2
      go_roundg k1
      case measure => have := HK1.out; omega
      case rel => exact ⟨(wrap64 (x5_1 + 1)), (by first | rfl | (simp; done) | (simp [*]; done)), H', ⟨by have := HK1.out; omega⟩, by repeat (first | exact Drawn0.refl _ | apply Drawn0.step)⟩
    ·rw [if_neg c4] at H
     exact absurd H (by simp)
   ·rw [if_neg c3] at H
    have c3b0 : decide (x5_1 < (l0.length : Int)) = false := decide_eq_false c3
    clear c3
    obtain rfl := Option.some.inj H
    go_wp2
    go_ret
    exact ⟨by first | rfl | (simp; done) | (simp [*]; done), by repeat (first | exact Drawn0.refl _ | apply Drawn0.step)⟩
end Go.Proofs.Yteafilojjdfllaa.PAll
end
section
namespace Go.Proofs.Yteafilojjdfllaa
open Go Go.RowKit Go.Proofs.YteafilojjdfllaaW.PrintWords Go.Proofs.Yteafilojjdfllaa.PAll
theorem w64s (i : Nat) (h : i ≤ 4000000000000000000) : wrap64 ((i : Int) + 1) = ((i + 1 : Nat) : Int) := by unfold wrap64; omega
theorem w64p (i : Nat) (h : i ≤ 4000000000000000000) : wrap64 (((i + 1 : Nat) : Int) - 1) = (i : Int) := by unfold wrap64; omega
theorem bt_nat (s : ByteArray) (i : Nat) (h : i < s.size) : bt s (i : Int) = ((s.data.toList.getD i 0).toNat : Int) := by
 have h' : i < s.data.size := h
 unfold bt
 rw [dif_pos (by simpa using h)]
 simp only [List.getD_eq_getElem?_getD, Array.getElem?_toList, Array.getElem?_eq_getElem h', Option.getD_some, Int.toNat_natCast]
 rfl
theorem bdrop (s : ByteArray) (i : Nat) (h : i < s.size) : s.data.toList.drop i = s.data.toList.getD i 0 :: s.data.toList.drop (i + 1) := by
 have h' : i < s.data.toList.length := by simpa using h
 rw [List.drop_eq_getElem_cons h', List.getD_eq_getElem?_getD, List.getElem?_eq_getElem h', Option.getD_some]
theorem nameC_true {c : UInt8} (h : (97 ≤ (c.toNat : Int) ∧ (c.toNat : Int) ≤ 122) ∨ (48 ≤ (c.toNat : Int) ∧ (c.toNat : Int) ≤ 57) ∨ (c.toNat : Int) = 95) : nameC c = true := by unfold nameC; exact decide_eq_true h
theorem nameC_false {c : UInt8} (h : ¬ ((97 ≤ (c.toNat : Int) ∧ (c.toNat : Int) ≤ 122) ∨ (48 ≤ (c.toNat : Int) ∧ (c.toNat : Int) ≤ 57) ∨ (c.toNat : Int) = 95)) : nameC c = false := by unfold nameC; exact decide_eq_false h
theorem name_l0 (s : ByteArray) (hs : s.size ≤ 1000) : ∀ (d i k : Nat), i ≤ s.size → s.size ≤ i + d → d < k → label_Name.l0 k s (s.size : Int) (i : Int) = some ((s.data.toList.drop i).all nameC)
 | d, i, 0, _, _, h => by omega
 | d, i, k + 1, hi, hd, hk => by
  simp only [label_Name.l0, w64s i (by omega)]
  by_cases hlt : i < s.size
  ·have ih := name_l0 s hs (d - 1) (i + 1) k (by omega) (by omega) (by omega)
   rw [if_pos (by omega), if_pos (by omega), if_pos (by omega), bt_nat s i hlt, bdrop s i hlt, List.all_cons, ih]
   generalize s.data.toList.getD i 0 = c
   by_cases h : (97 ≤ (c.toNat : Int) ∧ (c.toNat : Int) ≤ 122) ∨ (48 ≤ (c.toNat : Int) ∧ (c.toNat : Int) ≤ 57) ∨ (c.toNat : Int) = 95
   ·rw [nameC_true h, Bool.true_and]
    split
    ·split
     ·rw [if_pos (by omega)]
     ·split
      ·rw [if_pos (by omega)]
      ·rfl
    ·split
     ·split
      ·rw [if_pos (by omega)]
      ·split
       ·rw [if_pos (by omega)]
       ·rfl
     ·rfl
   ·rw [nameC_false h, Bool.false_and]
    split
    ·split
     ·rw [if_neg (by omega)]
     ·split
      ·rw [if_neg (by omega)]
      ·omega
    ·split
     ·split
      ·rw [if_neg (by omega)]
      ·split
       ·rw [if_neg (by omega)]
       ·omega
     ·omega
  ·rw [if_neg (by omega), List.drop_of_length_le (by simp; omega)]; rfl
theorem label_Name.val (s : ByteArray) (k : Nat) (hk : 40 ≤ k) : label_Name.f k s = some (nameB s) := by
 obtain ⟨k, rfl⟩ : ∃ q, k = q + 1 := ⟨k - 1, by omega⟩
 unfold label_Name.f nameB
 by_cases h1 : (s.size : Int) < 1
 ·rw [if_pos h1]
  simp only [label_Name.j0, if_true]
  rw [show decide (1 ≤ s.size ∧ s.size ≤ 32 ∧ ¬ (48 ≤ ((s.data.toList.getD 0 0).toNat : Int) ∧ ((s.data.toList.getD 0 0).toNat : Int) ≤ 57)) = false from decide_eq_false (by omega), Bool.false_and]
 ·rw [if_neg h1]
  by_cases h2 : (s.size : Int) > 32
  ·rw [if_pos h2]
   simp only [label_Name.j0, if_true]
   rw [show decide (1 ≤ s.size ∧ s.size ≤ 32 ∧ ¬ (48 ≤ ((s.data.toList.getD 0 0).toNat : Int) ∧ ((s.data.toList.getD 0 0).toNat : Int) ≤ 57)) = false from decide_eq_false (by omega), Bool.false_and]
  ·rw [if_neg h2, if_pos (by omega)]
   have hb := bt_nat s 0 (by omega)
   rw [show ((0 : Nat) : Int) = 0 from rfl] at hb
   rw [hb]
   have hl := name_l0 s (by omega) s.size 0 k (by omega) (by omega) (by omega)
   rw [show ((0 : Nat) : Int) = 0 from rfl, List.drop_zero] at hl
   by_cases h3 : ((s.data.toList.getD 0 0).toNat : Int) ≥ 48
   ·rw [if_pos h3]
    by_cases h4 : ((s.data.toList.getD 0 0).toNat : Int) ≤ 57
    ·rw [show decide (1 ≤ s.size ∧ s.size ≤ 32 ∧ ¬ (48 ≤ ((s.data.toList.getD 0 0).toNat : Int) ∧ ((s.data.toList.getD 0 0).toNat : Int) ≤ 57)) = false from decide_eq_false (by omega), Bool.false_and]
     simp only [label_Name.j0, h4, decide_true, if_true]
    ·rw [show decide (1 ≤ s.size ∧ s.size ≤ 32 ∧ ¬ (48 ≤ ((s.data.toList.getD 0 0).toNat : Int) ∧ ((s.data.toList.getD 0 0).toNat : Int) ≤ 57)) = true from decide_eq_true (by omega), Bool.true_and]
     simp only [label_Name.j0, h4, decide_false]
     rw [if_neg (by decide), hl]
   ·rw [if_neg h3]
    simp only [label_Name.j0]
    rw [if_neg (by decide), hl, show decide (1 ≤ s.size ∧ s.size ≤ 32 ∧ ¬ (48 ≤ ((s.data.toList.getD 0 0).toNat : Int) ∧ ((s.data.toList.getD 0 0).toNat : Int) ≤ 57)) = true from decide_eq_true (by omega), Bool.true_and]
/-- the document's: a digit ahead of all falls at once -/
theorem rname_l0 (s : ByteArray) (hs : s.size ≤ 140737488351232) : ∀ (d i k : Nat), 1 ≤ i → i ≤ s.size → s.size ≤ i + d → d < k → varveref11_Name.l0 k s (i : Int) = some (decide (s.size ≤ 32) && (s.data.toList.drop i).all nameC)
 | d, i, 0, _, _, _, h => by omega
 | d, i, k + 1, h1, hi, hd, hk => by
  simp only [varveref11_Name.l0, w64s i (by omega)]
  by_cases hlt : i < s.size
  ·have ih := rname_l0 s hs (d - 1) (i + 1) k (by omega) (by omega) (by omega) (by omega)
   rw [if_pos (by omega), if_pos (by omega), bt_nat s i hlt, bdrop s i hlt, List.all_cons, ih]
   have hi0 : ¬ (i : Int) = 0 := by omega
   generalize s.data.toList.getD i 0 = c
   by_cases h : (97 ≤ (c.toNat : Int) ∧ (c.toNat : Int) ≤ 122) ∨ (48 ≤ (c.toNat : Int) ∧ (c.toNat : Int) ≤ 57) ∨ (c.toNat : Int) = 95
   ·rw [nameC_true h, Bool.true_and]
    split
    ·rfl
    ·split
     ·rw [if_neg (by omega), if_neg (by omega)]
     ·split
      ·rw [if_neg (by omega), if_neg (by omega)]
      ·rfl
   ·rw [nameC_false h, Bool.false_and, Bool.and_false, if_neg (by omega)]
    split
    ·split
     ·rfl
     ·rw [if_pos (by omega)]
    ·rw [if_pos (by omega)]
     split
     ·rfl
     ·rw [if_pos (by omega)]
  ·have : i = s.size := by omega
   rw [if_neg (by omega), if_pos (by omega), List.drop_of_length_le (by simp; omega)]
   simp only [List.all_nil, Bool.and_true, Option.some.injEq]
   rw [decide_eq_decide]; omega
theorem varveref11_Name.val (s : ByteArray) (hs : s.size ≤ 140737488351232) (k : Nat) (hk : s.size + 2 ≤ k) : varveref11_Name.f k s = some (nameB s) := by
 obtain ⟨k, rfl⟩ : ∃ q, k = q + 1 := ⟨k - 1, by omega⟩
 unfold varveref11_Name.f nameB
 simp only [varveref11_Name.l0]
 have hw : wrap64 ((0 : Int) + 1) = ((1 : Nat) : Int) := by unfold wrap64; omega
 by_cases h1 : 0 < s.size
 ·have hl := rname_l0 s hs (s.size - 1) 1 k (by omega) (by omega) (by omega) (by omega)
  have hb := bt_nat s 0 h1
  rw [show ((0 : Nat) : Int) = 0 from rfl] at hb
  have hd := bdrop s 0 h1
  rw [List.drop_zero, Nat.zero_add] at hd
  have hall : s.data.toList.all nameC = (nameC (s.data.toList.getD 0 0) && (s.data.toList.drop 1).all nameC) := by
   conv => lhs; rw [hd]
   rw [List.all_cons]
  rw [if_pos (by omega), if_pos (by omega), hb, hw, hl, hall]
  by_cases h : (97 ≤ ((s.data.toList.getD 0 0).toNat : Int) ∧ ((s.data.toList.getD 0 0).toNat : Int) ≤ 122) ∨ (48 ≤ ((s.data.toList.getD 0 0).toNat : Int) ∧ ((s.data.toList.getD 0 0).toNat : Int) ≤ 57) ∨ ((s.data.toList.getD 0 0).toNat : Int) = 95
  ·rw [nameC_true h, Bool.true_and]
   by_cases h5 : 48 ≤ ((s.data.toList.getD 0 0).toNat : Int) ∧ ((s.data.toList.getD 0 0).toNat : Int) ≤ 57
   ·rw [show decide (1 ≤ s.size ∧ s.size ≤ 32 ∧ ¬ (48 ≤ ((s.data.toList.getD 0 0).toNat : Int) ∧ ((s.data.toList.getD 0 0).toNat : Int) ≤ 57)) = false from decide_eq_false (fun h => h.2.2 h5), Bool.false_and, if_neg (by omega), if_pos (by omega), if_neg (by omega), if_neg (by omega)]; simp
   ·have e : decide (1 ≤ s.size ∧ s.size ≤ 32 ∧ ¬ (48 ≤ ((s.data.toList.getD 0 0).toNat : Int) ∧ ((s.data.toList.getD 0 0).toNat : Int) ≤ 57)) = decide (s.size ≤ 32) := by
     rw [decide_eq_decide]; constructor
     ·exact fun h => h.2.1
     ·exact fun h => ⟨by omega, h, h5⟩
    rw [e]
    split
    ·rfl
    ·split
     ·omega
     ·split
      ·omega
      ·rfl
  ·rw [nameC_false h, Bool.false_and, Bool.and_false, if_neg (by omega)]
   split
   ·split
    ·rfl
    ·rw [if_pos (by omega)]
   ·rw [if_pos (by omega)]
    split
    ·rfl
    ·rw [if_pos (by omega)]
 ·rw [if_neg (by omega), if_neg (by omega), show decide (1 ≤ s.size ∧ s.size ≤ 32 ∧ ¬ (48 ≤ ((s.data.toList.getD 0 0).toNat : Int) ∧ ((s.data.toList.getD 0 0).toNat : Int) ≤ 57)) = false from decide_eq_false (by omega), Bool.false_and]
theorem rdOf_nat {α : Type} (d : α) (l : List α) (i : Nat) : rdOf d l (i : Int) = l.getD i d := by simp [rdOf]
theorem vdrop (l : List ByteArray) (i : Nat) (h : i < l.length) : l.drop i = l.getD i ByteArray.empty :: l.drop (i + 1) := by
 rw [List.drop_eq_getElem_cons h, List.getD_eq_getElem?_getD, List.getElem?_eq_getElem h, Option.getD_some]
/-- those from i on: each small enough, each above the one ahead -/
def valsFrom (p : Option ByteArray) : List ByteArray → Bool
 | [] => true
 | v :: l => decide (v.size ≤ 64) && (match p with | none => true | some u => Op.bytesLess u.toList v.toList) && valsFrom (some v) l
theorem valsFrom_eq : ∀ (l : List ByteArray) (p : Option ByteArray), valsFrom p l = (l.all (fun v => decide (v.size ≤ 64)) && risesS (match p with | none => l | some u => u :: l))
 | [], none => by simp [valsFrom, risesS]
 | [], some u => by simp [valsFrom, risesS]
 | v :: l, none => by
  rw [valsFrom, valsFrom_eq l (some v)]
  simp [Bool.and_assoc]
 | v :: l, some u => by
  rw [valsFrom, valsFrom_eq l (some v)]
  simp only [List.all_cons, risesS]
  cases decide (v.size ≤ 64) <;> cases Op.bytesLess u.toList v.toList <;> simp
def before (l : List ByteArray) : Nat → Option ByteArray
 | 0 => none
 | i + 1 => some (l.getD i ByteArray.empty)
theorem vals_l0 (l : List ByteArray) (hl : l.length ≤ 1000) : ∀ (d i k : Nat), i ≤ l.length → l.length ≤ i + d → d < k → match_values.l0 k l l (l.length : Int) (i : Int) = some (valsFrom (before l i) (l.drop i))
 | d, i, 0, _, _, h => by omega
 | d, i, k + 1, hi, hd, hk => by
  simp only [match_values.l0, w64s i (by omega), rdOf_nat]
  by_cases hlt : i < l.length
  ·have ih := vals_l0 l hl (d - 1) (i + 1) k (by omega) (by omega) (by omega)
   rw [if_pos (by omega), if_pos (by omega), if_pos (by omega), vdrop l i hlt]
   simp only [valsFrom]
   by_cases h1 : (l.getD i ByteArray.empty).size ≤ 64
   ·rw [if_neg (by omega), decide_eq_true h1, Bool.true_and]
    cases i with
    | zero =>
     rw [if_neg (by omega), ih]
     simp [before]
    | succ i =>
     rw [if_pos (by omega), w64p i (by omega), if_pos (by omega), if_pos (by omega), rdOf_nat]
     simp only [before]
     cases h2 : Op.bytesLess (l.getD i ByteArray.empty).toList (l.getD (i + 1) ByteArray.empty).toList with
     | true => rw [if_pos rfl, ih, Bool.true_and]; rfl
     | false => rw [if_neg (by decide), Bool.false_and]
   ·rw [if_pos (by omega), decide_eq_false h1, Bool.false_and, Bool.false_and]
  ·rw [if_neg (by omega), List.drop_of_length_le (by omega)]; simp [valsFrom]
theorem rvals_l0 (l : List ByteArray) (hl : l.length ≤ 1000) : ∀ (d i k : Nat), i ≤ l.length → l.length ≤ i + d → d < k → varveref12_values.l0 k l (i : Int) = some (valsFrom (before l i) (l.drop i))
 | d, i, 0, _, _, h => by omega
 | d, i, k + 1, hi, hd, hk => by
  simp only [varveref12_values.l0, w64s i (by omega), rdOf_nat]
  by_cases hlt : i < l.length
  ·have ih := rvals_l0 l hl (d - 1) (i + 1) k (by omega) (by omega) (by omega)
   rw [if_pos (by omega), if_pos (by omega), vdrop l i hlt]
   simp only [valsFrom]
   by_cases h1 : (l.getD i ByteArray.empty).size ≤ 64
   ·rw [if_neg (by omega), decide_eq_true h1, Bool.true_and]
    cases i with
    | zero =>
     rw [if_neg (by omega), ih]
     simp [before]
    | succ i =>
     rw [if_pos (by omega), w64p i (by omega), if_pos (by omega), if_pos (by omega), rdOf_nat]
     simp only [before]
     cases h2 : Op.bytesLess (l.getD i ByteArray.empty).toList (l.getD (i + 1) ByteArray.empty).toList with
     | true => rw [if_pos rfl, ih, Bool.true_and]; rfl
     | false => rw [if_neg (by decide), Bool.false_and]
   ·rw [if_pos (by omega), decide_eq_false h1, Bool.false_and, Bool.false_and]
  ·rw [if_neg (by omega), List.drop_of_length_le (by omega)]; simp [valsFrom]
theorem match_values.val (l : List ByteArray) (k : Nat) (hk : 40 ≤ k) : match_values.f k l = some (valuesB l) := by
 obtain ⟨k, rfl⟩ : ∃ q, k = q + 1 := ⟨k - 1, by omega⟩
 unfold match_values.f valuesB
 have h0 := valsFrom_eq l none
 by_cases h1 : (l.length : Int) < 1
 ·rw [if_pos h1, show decide (1 ≤ l.length ∧ l.length ≤ 16) = false from decide_eq_false (by omega)]
  simp [match_values.j0]
 ·rw [if_neg h1]
  by_cases h2 : (l.length : Int) > 16
  ·rw [show decide (1 ≤ l.length ∧ l.length ≤ 16) = false from decide_eq_false (by omega), decide_eq_true h2]
   simp [match_values.j0]
  ·have hl := vals_l0 l (by omega) l.length 0 k (by omega) (by omega) (by omega)
   rw [show ((0 : Nat) : Int) = 0 from rfl, List.drop_zero] at hl
   rw [show decide (1 ≤ l.length ∧ l.length ≤ 16) = true from decide_eq_true (by omega), decide_eq_false h2, Bool.true_and]
   simp only [match_values.j0]
   rw [if_neg (by decide), hl, ← h0]; rfl
theorem varveref12_values.val (l : List ByteArray) (k : Nat) (hk : 40 ≤ k) : varveref12_values.f k l = some (valuesB l) := by
 obtain ⟨k, rfl⟩ : ∃ q, k = q + 1 := ⟨k - 1, by omega⟩
 unfold varveref12_values.f valuesB
 have h0 := valsFrom_eq l none
 by_cases h1 : (l.length : Int) < 1
 ·rw [if_pos h1, show decide (1 ≤ l.length ∧ l.length ≤ 16) = false from decide_eq_false (by omega)]
  simp [varveref12_values.j0]
 ·rw [if_neg h1]
  by_cases h2 : (l.length : Int) > 16
  ·rw [show decide (1 ≤ l.length ∧ l.length ≤ 16) = false from decide_eq_false (by omega), decide_eq_true h2]
   simp [varveref12_values.j0]
  ·have hl := rvals_l0 l (by omega) l.length 0 k (by omega) (by omega) (by omega)
   rw [show ((0 : Nat) : Int) = 0 from rfl, List.drop_zero] at hl
   rw [show decide (1 ≤ l.length ∧ l.length ≤ 16) = true from decide_eq_true (by omega), decide_eq_false h2, Bool.true_and]
   simp only [varveref12_values.j0]
   rw [if_neg (by decide), hl, ← h0]; rfl
theorem match_alone.val (m : S25) (k : Nat) (hk : 50 ≤ k) : match_alone.f k m.f0 m.f1 m.f2 m.f3 m.f4 = some (aloneB m) := by
 obtain ⟨a, n, v, vs, ks⟩ := m
 obtain ⟨k, rfl⟩ : ∃ q, k = q + 4 := ⟨k - 4, by omega⟩
 simp only [match_alone.f, label_Name.val n _ (show 40 ≤ k + 4 by omega), Option.bind_some]
 have hv := match_values.val vs (k + 1) (by omega)
 have j0 : ∀ x : Bool, match_alone.j0 (k + 4) x a n v vs ks = match_alone.j1 (k + 3) x (plainB ⟨a, n, v, vs, ks⟩) a n v vs ks := by
  intro x
  simp only [match_alone.j0, plainB]
  by_cases h1 : n.toList = []
  ·by_cases h2 : v.toList = []
   ·rw [if_pos h1, if_pos h2]
    congr 1
    rw [Bool.eq_iff_iff]; simp only [beq_iff_eq, decide_eq_true_eq, h1, h2, true_and]; omega
   ·rw [if_pos h1, if_neg h2, decide_eq_false (fun h => h2 h.2.1)]
  ·rw [if_neg h1, decide_eq_false (fun h => h1 h.1)]
 have hz : ∀ t : Nat, (((t : Int) == 0) : Bool) = decide (t = 0) := fun t => by rw [Bool.eq_iff_iff]; simp only [beq_iff_eq, decide_eq_true_eq]; omega
 have ho : ∀ t : Nat, (((t : Int) == 1) : Bool) = decide (t = 1) := fun t => by rw [Bool.eq_iff_iff]; simp only [beq_iff_eq, decide_eq_true_eq]; omega
 have hx : (if nameB n = true then (if (v.size : Int) ≤ 64 then match_alone.j0 (k + 4) ((ks.length : Int) == 0) a n v vs ks else match_alone.j0 (k + 4) false a n v vs ks) else match_alone.j0 (k + 4) false a n v vs ks) =
   match_alone.j1 (k + 3) (nameB n && decide (v.size ≤ 64 ∧ ks.length = 0)) (plainB ⟨a, n, v, vs, ks⟩) a n v vs ks := by
  rw [j0, j0, hz]
  cases nameB n with
  | false => simp
  | true =>
   simp only [if_true, Bool.true_and]
   by_cases h : v.size ≤ 64
   ·rw [if_pos (by omega)]; congr 1; rw [decide_eq_decide]; exact ⟨fun e => ⟨h, e⟩, fun e => e.2⟩
   ·rw [if_neg (by omega), decide_eq_false (fun e => h e.1)]
 rw [hx]
 generalize hX : (nameB n && decide (v.size ≤ 64 ∧ ks.length = 0)) = X
 generalize hY : plainB ⟨a, n, v, vs, ks⟩ = Y
 unfold aloneB
 simp only [hY]
 simp only [match_alone.j1, match_alone.j2, match_alone.j3, hv, hz, ho, Option.bind_some]
 by_cases e0 : a = 0
 ·rw [if_pos e0, if_pos e0]; cases Y <;> simp
 ·rw [if_neg e0, if_neg e0]
  by_cases e1 : a = 1
  ·subst e1; simp only [← hX]; cases nameB n <;> by_cases h2 : v.size ≤ 64 <;> by_cases h3 : ks.length = 0 <;> simp [h2, h3]
  ·by_cases e2 : a = 2
   ·subst e2; simp only [← hX]; cases nameB n <;> by_cases h2 : v.size ≤ 64 <;> by_cases h3 : ks.length = 0 <;> simp [h2, h3]
   ·by_cases e3 : a = 3
    ·subst e3; simp only [← hX]; cases nameB n <;> by_cases h2 : v.size ≤ 64 <;> by_cases h3 : ks.length = 0 <;> simp [h2, h3]
    ·have b3 : (a == 3) = false := by simpa using e3
     simp only [e1, e2, b3, if_false, or_self, e3]
     by_cases e4 : a = 4
     ·subst e4
      have hX' : v.toList = [] → X = (nameB n && decide (ks.length = 0)) := by
       intro h
       rw [← hX]; congr 1; rw [decide_eq_decide]
       have : v.size = 0 := by
        have := congrArg List.length h
        rw [ByteArray.toList_eq, Array.length_toList] at this
        exact this
       omega
      by_cases h2 : v.toList = []
      ·rw [hX' h2]; cases nameB n <;> by_cases h3 : ks.length = 0 <;> simp [h2, h3]
      ·cases X <;> simp [h2]
     ·simp only [e4, if_false]
      by_cases e5 : a = 5
      ·subst e5; simp
      ·by_cases e6 : a = 6
       ·subst e6; simp
       ·have b6 : (a == 6) = false := by simpa using e6
        simp only [e5, e6, b6, if_false, or_self]
        by_cases e7 : a = 7
        ·subst e7; cases Y <;> simp
        ·simp [e7]
end Go.Proofs.Yteafilojjdfllaa
end
section
namespace Go.Proofs.Yteafilojjdfllaa
open Go Go.RowKit Go.Proofs.YteafilojjdfllaaW.PrintWords Go.Proofs.YteafilojjdfllaaW.PrintLast Go.Proofs.YteafilojjdfllaaW.PrintMore Go.Proofs.Yteafilojjdfllaa.PAll
/-- a matcher's values and kids lie there -/
def MC (w : World) (m : S25) (A3 : Option Addr) (c3 : Nat) (A4 : Option Addr) (c4 : Nat) : Prop :=
 m.f3.length ≤ c3 ∧ Kd.C Kd.string w A3 m.f3.length m.f3 ∧ m.f4.length ≤ c4 ∧ Kd.C k25 w A4 m.f4.length m.f4
theorem MC.below {w W : World} {m : S25} {A3 : Option Addr} {c3 : Nat} {A4 : Option Addr} {c4 : Nat} (h : MC w m A3 c3 A4 c4) (hb : Below w.heap.size w W) : MC W m A3 c3 A4 c4 :=
 ⟨h.1, Kd.C_below h.2.1 hb, h.2.2.1, Kd.C_below h.2.2.2 hb⟩
/-- the room's block -/
def Room (W : World) (g : Nat) (n b : Int) : Prop := W.heap[g]? = some (.cells #[.int .i64 n, .int .i64 b] 130 (0, 0))
theorem Room.c0 {W : World} {g : Nat} {n b : Int} (h : Room W g n b) : W.cell? ⟨g, 0, none⟩ = some (.int .i64 n) := (blk_cell h 0).trans rfl
theorem Room.c1 {W : World} {g : Nat} {n b : Int} (h : Room W g n b) : W.cell? ⟨g, 1, none⟩ = some (.int .i64 b) := (blk_cell h 1).trans rfl
theorem Room.z0 {W : World} {g : Nat} {n b : Int} (h : Room W g n b) : W.frozen? ⟨g, 0, none⟩ = false := blk_frozen h 0
theorem Room.z1 {W : World} {g : Nat} {n b : Int} (h : Room W g n b) : W.frozen? ⟨g, 1, none⟩ = false := blk_frozen h 1
theorem Room.lt {W : World} {g : Nat} {n b : Int} (h : Room W g n b) : g < W.heap.size := (Array.getElem?_eq_some_iff.1 h).1
theorem Room.set0 {W : World} {g : Nat} {n b : Int} (h : Room W g n b) (x : Int) : Room (W.setCell ⟨g, 0, none⟩ (.int .i64 x)) g x b := by simpa [Room] using blk_set h 0 (.int .i64 x)
theorem Room.set1 {W : World} {g : Nat} {n b : Int} (h : Room W g n b) (x : Int) : Room (W.setCell ⟨g, 1, none⟩ (.int .i64 x)) g n x := by simpa [Room] using blk_set h 1 (.int .i64 x)
theorem Room.below {W X : World} {g : Nat} {n b : Int} (h : Room W g n b) (hb : Below W.heap.size W X) : Room X g n b := (hb.block g h.lt).trans h
theorem Room.alloc {W : World} {g : Nat} {n b : Int} (h : Room W g n b) (o : Obj) : Room (W.alloc o) g n b := h.below (below_alloc (Below.refl _ _) o)
theorem alone157 (w : World) (m : S25) (A3 : Option Addr) (c3 : Nat) (A4 : Option Addr) (c4 : Nat) (v : Bool) (hv : aloneB m = v) (h : MC w m A3 c3 A4 c4) :
  Calls Try.prog 157 #[.agg #[.int .i64 m.f0, .string m.f1, .string m.f2, .slice A3 m.f3.length c3, .slice A4 m.f4.length c4]] w fun e w' => e = .returned (.bool v) ∧ Below w.heap.size w w' :=
 match_alone.calls 50 m.f0 m.f1 m.f2 A3 c3 m.f3 A4 c4 m.f4 v w h.2.1 h.1 h.2.2.2 h.2.2.1 (hv ▸ match_alone.val m 50 (by omega))
/-- how a walk over a matcher with a room ends -/
def HoldsPost (w0 w : World) (g : Nat) (d : Int) (m : S25) (n b : Int) (e : Ending) (w' : World) : Prop :=
 e = .returned (.bool (chk d m n b)) ∧ Below w0.heap.size w0 w' ∧ KeepBut w w' g none ∧ ∃ n' b', Room w' g n' b' ∧ (chk d m n b = true → n' = n - nodesM m ∧ b' = b - bytesM m)
theorem HoldsPost.no {w0 w w' : World} {g : Nat} {d : Int} {m : S25} {n b n' b' : Int} (h : chk d m n b = false) (hB : Below w0.heap.size w0 w') (hK : KeepBut w w' g none) (hR : Room w' g n' b') : HoldsPost w0 w g d m n b (.returned (.bool false)) w' :=
 ⟨by rw [h], hB, hK, n', b', hR, fun e => by rw [h] at e; cases e⟩
theorem alone_bounds {m : S25} (h : aloneB m = true) : m.f1.size ≤ 32 ∧ m.f2.size ≤ 64 ∧ m.f3.length ≤ 16 ∧ ∀ v ∈ m.f3, v.size ≤ 64 := by
 have hp : plainB m = true → m.f1.size ≤ 32 ∧ m.f2.size ≤ 64 ∧ m.f3.length ≤ 16 ∧ ∀ v ∈ m.f3, v.size ≤ 64 := by
  intro h
  unfold plainB at h
  obtain ⟨h1, h2, h3⟩ := of_decide_eq_true h
  have z : ∀ s : ByteArray, s.toList = [] → s.size = 0 := fun s h => by
   have := congrArg List.length h
   rw [ByteArray.toList_eq, Array.length_toList] at this
   exact this
  have e3 := List.eq_nil_of_length_eq_zero h3
  rw [e3]
  exact ⟨by rw [z _ h1]; omega, by rw [z _ h2]; omega, by simp, fun v hv => by cases hv⟩
 have hn : nameB m.f1 = true → m.f1.size ≤ 32 := by
  intro h
  unfold nameB at h
  rw [Bool.and_eq_true] at h
  have h1 := of_decide_eq_true h.1
  exact h1.2.1
 unfold aloneB at h
 split at h
 ·rw [Bool.and_eq_true] at h; exact hp h.1
 ·split at h
  ·rw [Bool.and_eq_true] at h
   have h2 := of_decide_eq_true h.2
   have e3 := List.eq_nil_of_length_eq_zero h2.2.2
   rw [e3]
   exact ⟨hn h.1, h2.1, by simp, fun v hv => by cases hv⟩
  ·split at h
   ·rw [Bool.and_eq_true, Bool.and_eq_true] at h
    obtain ⟨⟨h1, h2⟩, h3⟩ := h
    have h2 := of_decide_eq_true h2
    unfold valuesB at h3
    rw [Bool.and_eq_true, Bool.and_eq_true] at h3
    obtain ⟨⟨h3, h4⟩, _⟩ := h3
    have h3 := of_decide_eq_true h3
    refine ⟨hn h1, ?_, h3.2, fun v hv => of_decide_eq_true (List.all_eq_true.1 h4 v hv)⟩
    have := congrArg List.length h2.2
    rw [ByteArray.toList_eq, Array.length_toList] at this
    have : m.f2.size = 0 := this
    omega
   ·split at h
    ·exact hp h
    ·split at h
     ·rw [Bool.and_eq_true] at h; exact hp h.1
     ·cases h
theorem sizes_le : ∀ (vs : List ByteArray), (∀ v ∈ vs, v.size ≤ 64) → sizes vs ≤ vs.length * 64
 | [], _ => by simp [sizes]
 | v :: vs, h => by
  have h1 := h v (by simp)
  have h2 := sizes_le vs (fun u hu => h u (List.mem_cons_of_mem _ hu))
  simp only [sizes, List.length_cons, Nat.succ_mul]; omega
/-- a kid, where it lies -/
theorem MC.kid {w : World} {m : S25} {A3 : Option Addr} {c3 : Nat} {A4 : Option Addr} {c4 : Nat} (h : MC w m A3 c3 A4 c4) (j : Nat) (hj : j < m.f4.length) :
  ∃ (ad : Addr) (B3 : Option Addr) (e3 : Nat) (B4 : Option Addr) (e4 : Nat), A4 = some ad ∧ MC w (m.f4.getD j z25) B3 e3 B4 e4 ∧
   w.cell? (ad.add (j * 5)) = some (.int .i64 (m.f4.getD j z25).f0) ∧ w.cell? ⟨(ad.add (j * 5)).block, (ad.add (j * 5)).off + 1, none⟩ = some (.string (m.f4.getD j z25).f1) ∧ w.cell? ⟨(ad.add (j * 5)).block, (ad.add (j * 5)).off + 2, none⟩ = some (.string (m.f4.getD j z25).f2) ∧
   w.cell? ⟨(ad.add (j * 5)).block, (ad.add (j * 5)).off + 3, none⟩ = some (.slice B3 (m.f4.getD j z25).f3.length e3) ∧ w.cell? ⟨(ad.add (j * 5)).block, (ad.add (j * 5)).off + 4, none⟩ = some (.slice B4 (m.f4.getD j z25).f4.length e4) := by
 obtain ⟨ad, B3, e3, B4, e4, hA, c0, c1, c2, c3', c4', h3, h4, h5, h6⟩ := at_T25 h.2.2.2 (j : Int) (by omega) (by omega)
 simp only [Int.toNat_natCast, show rd_T25 m.f4 (j : Int) = m.f4.getD j z25 by simp [rd_T25]] at c0 c1 c2 c3' c4' h3 h4 h5 h6
 exact ⟨ad, B3, e3, B4, e4, hA, ⟨h3, h4, h5, h6⟩, c0, c1, c2, c3', c4'⟩
theorem MC.value {w : World} {m : S25} {A3 : Option Addr} {c3 : Nat} {A4 : Option Addr} {c4 : Nat} (h : MC w m A3 c3 A4 c4) (j : Nat) (hj : j < m.f3.length) :
  ∃ ad : Addr, A3 = some ad ∧ w.cell? (ad.add j) = some (.string (m.f3.getD j ByteArray.empty)) := by
 obtain ⟨ad, hA, c⟩ := Kd.at_string h.2.1 (j : Int) (by omega) (by omega)
 simp only [Int.toNat_natCast, rdOf_nat] at c
 exact ⟨ad, hA, c⟩
set_option maxRecDepth 100000 in
set_option maxHeartbeats 8000000 in
theorem holds106 : ∀ (N : Nat) (m : S25), nodesM m ≤ N → ∀ (d n b : Int) (A3 : Option Addr) (c3 : Nat) (A4 : Option Addr) (c4 : Nat) (g : Nat) (w0 w : World), 0 ≤ d → d ≤ 100 → 0 ≤ n → n ≤ 64 → 0 ≤ b → b ≤ 4096 →
  MC w0 m A3 c3 A4 c4 → Below w0.heap.size w0 w → w0.heap.size ≤ g → Room w g n b →
  Calls Try.prog 106 #[.pointer (some ⟨g, 0, none⟩), .agg #[.int .i64 m.f0, .string m.f1, .string m.f2, .slice A3 m.f3.length c3, .slice A4 m.f4.length c4], .int .i64 d] w (HoldsPost w0 w g d m n b) := by
 intro N
 induction N with
 | zero => intro m h; rw [nodesM_mk] at h; omega
 | succ N ih =>
  intro m hN
  have IH := Lib.hid ih
  clear ih
  intro d n b A3 c3 A4 c4 g w0 w hd0 hd1 hn0 hn1 hb0 hb1 hM hB hg hR
  have hgl := hR.lt
  have q0 := hR.c0
  have z0 := hR.z0
  have r0 := (hR.alloc (.cells #[.int .i64 m.f0, .string m.f1, .string m.f2, .slice A3 m.f3.length c3, .slice A4 m.f4.length c4] 25)).c0
  have s0 := (hR.alloc (.cells #[.int .i64 m.f0, .string m.f1, .string m.f2, .slice A3 m.f3.length c3, .slice A4 m.f4.length c4] 25)).z0
  have hR2 := (hR.set0 (n - 1)).alloc (.cells #[.int .i64 m.f0, .string m.f1, .string m.f2, .slice A3 m.f3.length c3, .slice A4 m.f4.length c4] 25)
  have q1 := hR2.c0
  have hB2 : Below w0.heap.size w0 ((w.setCell ⟨g, 0, none⟩ (.int .i64 (n - 1))).alloc (.cells #[.int .i64 m.f0, .string m.f1, .string m.f2, .slice A3 m.f3.length c3, .slice A4 m.f4.length c4] 25)) := below_alloc (hB.setCell hg _) _
  have hK2 : KeepBut w ((w.setCell ⟨g, 0, none⟩ (.int .i64 (n - 1))).alloc (.cells #[.int .i64 m.f0, .string m.f1, .string m.f2, .slice A3 m.f3.length c3, .slice A4 m.f4.length c4] 25)) g none := ((KeepBut.refl w g none).set_ 0 _).trans (KeepBut.of_below (below_alloc (Below.refl _ _) _) g none) (.inl rfl)
  by_cases hd : 8 < d
  ·have hc : chk d m n b = false := chk_false_of (fun h => by omega)
   go_enter Try.func106, Try.ntmps106
   go_wp2
   go_ret
   exact HoldsPost.no hc hB2 hK2 hR2
  ·by_cases hn : n - 1 < 0
   ·have hc : chk d m n b = false := chk_false_of (fun h => by omega)
    go_enter Try.func106, Try.ntmps106
    go_wp2
    go_ret
    exact HoldsPost.no hc hB2 hK2 hR2
   ·cases ha : aloneB m with
    | false =>
     have hc : chk d m n b = false := chk_false_of (fun h => by rw [ha] at h; exact absurd h.2.2.1 (by decide))
     have Ha := Lib.hid ha
     clear ha
     go_enter Try.func106, Try.ntmps106
     go_wp2_with fail
     (with_reducible refine (alone157 _ m A3 c3 A4 c4 false Ha.out (hM.below hB2)).mono ?_)
     rintro e w1 ⟨rfl, hb3⟩
     go_wp2_with fail
     go_ret
     exact HoldsPost.no hc (below_step hB2 hb3) (hK2.trans (KeepBut.of_below hb3 g none) (.inl rfl)) (hR2.below hb3)
    | true =>
     obtain ⟨hz1, hz2, hz3, hz4⟩ := alone_bounds ha
     have Hz4 := Lib.hid hz4
     have Ha := Lib.hid ha
     clear ha hz4
     go_enter Try.func106, Try.ntmps106
     go_wp2_with fail
     (with_reducible refine (alone157 _ m A3 c3 A4 c4 true Ha.out (hM.below hB2)).mono ?_)
     rintro e w1 ⟨rfl, hb3⟩
     have hB3 := below_step hB2 hb3
     have hR3 := hR2.below hb3
     have hK3 := hK2.trans (KeepBut.of_below hb3 g none) (.inl rfl)
     have hne : w.heap.size ≠ g := by omega
     have hw : ∀ o : Nat, w1.cell? ⟨w.heap.size, o, none⟩ = (#[Value.int .i64 m.f0, .string m.f1, .string m.f2, .slice A3 m.f3.length c3, .slice A4 m.f4.length c4])[o]? := fun o => (hb3.cell (p := ⟨w.heap.size, o, none⟩) (by simp)).trans (by
      have := blk_cell (blk_new (w.setCell ⟨g, 0, none⟩ (.int .i64 (n - 1))) (.cells #[.int .i64 m.f0, .string m.f1, .string m.f2, .slice A3 m.f3.length c3, .slice A4 m.f4.length c4] 25)) o
      simpa using this)
     have x1 := hw 1
     have x2 := hw 2
     have x3 := hw 3
     have x4 := hw 4
     simp only [List.getElem?_toArray, List.getElem?_cons_succ, List.getElem?_cons_zero] at x1 x2 x3 x4
     have q2 := hR3.c1
     have z2 := hR3.z1
     clear hw
     clear q0 z0 r0 s0 q1
     go_wp2
     go_region
     have hR4 : Room (w1.setCell ⟨g, 1, none⟩ (.int .i64 (b - (m.f1.size + m.f2.size : Int)))).drew g (n - 1) (b - (m.f1.size + m.f2.size : Int)) := hR3.set1 _
     have hB4 : Below w0.heap.size w0 (w1.setCell ⟨g, 1, none⟩ (.int .i64 (b - (m.f1.size + m.f2.size : Int)))).drew := (hB3.setCell hg _).drew
     have hK4 : KeepBut w (w1.setCell ⟨g, 1, none⟩ (.int .i64 (b - (m.f1.size + m.f2.size : Int)))).drew g none := hK3.set_ 1 _
     have hsz0 := sizes_le m.f3 Hz4.out
     go_wp2
     have y4 : (w1.setCell ⟨g, 1, none⟩ (.int .i64 (b - (m.f1.size + m.f2.size : Int)))).drew.cell? ⟨w.heap.size, 4, none⟩ = some (.slice A4 m.f4.length c4) := by go_simp
     clear x1 x2 x3 x4 q2 z2 hR3 hR2 hB3 hB2 hK3 hK2
     obtain ⟨W4, e4⟩ : ∃ W4, (w1.setCell ⟨g, 1, none⟩ (.int .i64 (b - (m.f1.size + m.f2.size : Int)))).drew = W4 := ⟨_, rfl⟩
     rw [e4] at hR4 hB4 hK4 y4 ⊢
     clear e4 hb3
     go_loopw [49] (fun u49 wr => ∃ j : Nat, u49 = .int .i64 j ∧ j ≤ m.f3.length ∧ wr.cell? ⟨w.heap.size, 4, none⟩ = some (.slice A4 m.f4.length c4) ∧ Room wr g (n - 1) (b - (m.f1.size + m.f2.size : Int) - sizes (m.f3.take j)) ∧ Below w0.heap.size w0 wr ∧ KeepBut w wr g none)
      (fun u49 _ => m.f3.length - (intOf u49).toNat)
     case atStart => exact ⟨0, rfl, Nat.zero_le _, y4, by simpa [sizes] using hR4, hB4, hK4⟩
     case round =>
      clear y4 hR4 hB4 hK4
      obtain ⟨j, rfl, hj, y4, hR4, hB4, hK4⟩ := hrel
      have hsj : sizes (m.f3.take j) ≤ 16 * 64 := by
       have h1 := sizes_le (m.f3.take j) (fun v hv => Hz4.out v (List.mem_of_mem_take hv))
       have h2 : (m.f3.take j).length ≤ 16 := by rw [List.length_take]; omega
       have h3 : (m.f3.take j).length * 64 ≤ 16 * 64 := Nat.mul_le_mul_right _ h2
       omega
      by_cases hlt : j < m.f3.length
      ·have hsp := Lib.hid (sizes_split m.f3 j hlt)
       obtain ⟨ad, rfl, hcell⟩ := hM.value j hlt
       have hcell := pw_cell_below hB4 hcell
       have hv64 : (m.f3.getD j ByteArray.empty).size ≤ 64 := Hz4.out _ (by simp [List.getD_eq_getElem?_getD, hlt])
       obtain ⟨v, hv⟩ : ∃ v, m.f3.getD j ByteArray.empty = v := ⟨_, rfl⟩
       rw [hv] at hcell hsp hv64
       obtain ⟨s, hs⟩ : ∃ s, sizes (m.f3.take j) = s := ⟨_, rfl⟩
       rw [hs] at hR4 hsj hsp
       have q1 := hR4.c1
       have z1 := hR4.z1
       clear hv hs
       go_wp2
       go_roundw
       case rel =>
        refine ⟨j + 1, by go_num, by omega, ?_, ?_, hB4.setCell hg _, hK4.set_ 1 _⟩
        ·rw [World.cell?_setCell_far _ _ _ _ (fun e => hne e.symm)]
         exact y4
        ·have := hR4.set1 (b - (m.f1.size + m.f2.size : Int) - s - v.size)
         rw [hsp.out, show b - (m.f1.size + m.f2.size : Int) - ((s + v.size : Nat) : Int) = b - (m.f1.size + m.f2.size : Int) - s - v.size by omega]
         exact this
       case measure => simp [intOf]; omega
      ·obtain rfl : j = m.f3.length := by omega
       rw [List.take_length] at hR4 hsj
       have q1 := hR4.c1
       have z1 := hR4.z1
       obtain ⟨s, hs⟩ : ∃ s, sizes m.f3 = s := ⟨_, rfl⟩
       rw [hs] at hR4 hsj q1 hsz0
       have Hs := Lib.hid hs
       clear hs
       by_cases hneg : b - (m.f1.size + m.f2.size : Int) - s < 0
       ·have hc : chk d m n b = false := chk_false_of (fun h => by have := h.2.2.2.1; rw [Hs.out] at this; omega)
        go_wp2
        go_ret
        exact HoldsPost.no hc hB4 hK4 hR4
       ·have Hchk := Lib.hid (show chk d m n b = chkL (d + 1) m.f4 (n - 1) (b - (m.f1.size + m.f2.size : Int) - s) from by
         rw [Bool.eq_iff_iff, chk_iff, Hs.out]
         constructor
         ·rintro ⟨_, _, _, _, h⟩
          rw [show b - (m.f1.size + m.f2.size : Int) - s = b - ((m.f1.size + m.f2.size : Int) + s) by omega]; exact h
         ·intro h
          rw [show b - (m.f1.size + m.f2.size : Int) - s = b - ((m.f1.size + m.f2.size : Int) + s) by omega] at h
          exact ⟨by omega, by omega, Ha.out, by omega, h⟩)
        have Hnod := Lib.hid (nodesM_mk m)
        have Hbyt := Lib.hid (show bytesM m = m.f1.size + m.f2.size + s + bytesL m.f4 from by rw [bytesM_mk, Hs.out])
        obtain ⟨b1, hb1⟩ : ∃ b1, b - (m.f1.size + m.f2.size : Int) - s = b1 := ⟨_, rfl⟩
        rw [hb1] at hR4 q1 hneg Hchk
        have Hb1 := Lib.hid hb1
        have hbb : b1 ≤ 4096 := by omega
        clear hb1
        have hlen4 := hM.2.2.2.2.1
        go_wp2
        clear y4 q1 z1
        go_loopw [71] (fun u71 wx => ∃ (j : Nat) (n' b' : Int), u71 = .int .i64 j ∧ j ≤ m.f4.length ∧ Room wx g n' b' ∧ 0 ≤ n' ∧ 0 ≤ b' ∧ n' ≤ 64 ∧ b' ≤ 4096 ∧ n' = n - 1 - nodesL (m.f4.take j) ∧ b' = b1 - bytesL (m.f4.take j) ∧ chkL (d + 1) m.f4 (n - 1) b1 = chkL (d + 1) (m.f4.drop j) n' b' ∧ Below w0.heap.size w0 wx ∧ KeepBut w wx g none)
         (fun u71 _ => m.f4.length - (intOf u71).toNat)
        case atStart => exact ⟨0, n - 1, b1, rfl, Nat.zero_le _, hR4, by omega, by omega, by omega, by omega, by simp [nodesL], by simp [bytesL], by simp, hB4, hK4⟩
        case round =>
         clear hR4 hB4 hK4
         obtain ⟨j, n', b', rfl, hj, hR4, hn1', hb1', hn2', hb2', hne1, hbe1, hce, hB4, hK4⟩ := hrel
         have Hne1 := Lib.hid hne1
         have Hbe1 := Lib.hid hbe1
         have Hce := Lib.hid hce
         clear hne1 hbe1 hce
         by_cases hlt : j < m.f4.length
         ·obtain ⟨ad, B3, e3, B4, e4, rfl, hMk, k0, k1, k2, k3, k4⟩ := hM.kid j hlt
          have k0 := pw_cell_below hB4 k0
          have k1 := pw_cell_below hB4 k1
          have k2 := pw_cell_below hB4 k2
          have k3 := pw_cell_below hB4 k3
          have k4 := pw_cell_below hB4 k4
          have hmem : m.f4.getD j z25 ∈ m.f4 := by simp [List.getD_eq_getElem?_getD, hlt]
          have hsmall := nodes_lt m _ hmem
          have Hdrop := Lib.hid (chkL_drop (d + 1) m.f4 j hlt n' b')
          have Hn4 := Lib.hid (nodesL_split m.f4 j hlt)
          have Hb4 := Lib.hid (bytesL_split m.f4 j hlt)
          obtain ⟨kid, ek⟩ : ∃ kid, m.f4.getD j z25 = kid := ⟨_, rfl⟩
          rw [ek] at hMk k0 k1 k2 k3 k4 hsmall Hdrop Hn4 Hb4
          clear ek hmem
          go_wp2_with fail
          (with_reducible refine (IH.out kid (by omega) (d + 1) n' b' B3 e3 B4 e4 g w0 _ (by omega) (by omega) (by omega) (by omega) (by omega) (by omega) hMk (below_alloc hB4 _) hg (hR4.alloc _)).mono ?_)
          rintro e w5 ⟨rfl, hB5, hK5, n5, b5, hR5, hyes⟩
          cases hk : chk (d + 1) kid n' b' with
          | false =>
           have hc : chk d m n b = false := by
            rw [Hchk.out, Hce.out, ← Bool.not_eq_true, Hdrop.out]
            exact fun h => by rw [hk] at h; cases h.1
           go_wp2_with fail
           go_ret
           exact HoldsPost.no hc hB5 (hK4.trans ((KeepBut.of_below (below_alloc (Below.refl _ _) _) g none).trans hK5 (.inl rfl)) (.inl rfl)) hR5
          | true =>
           obtain ⟨e1, e2⟩ := hyes hk
           have E1 := Lib.hid e1
           have E2 := Lib.hid e2
           have Hk := Lib.hid hk
           clear e1 e2 hyes hk
           go_wp2_with fail
           go_roundw
           case rel =>
            have hd := chk_def.1 Hk.out
            refine ⟨j + 1, n5, b5, by go_num, by omega, hR5, ?_, ?_, ?_, ?_, ?_, ?_, ?_, hB5, hK4.trans ((KeepBut.of_below (below_alloc (Below.refl _ _) _) g none).trans hK5 (.inl rfl)) (.inl rfl)⟩
            ·rw [E1.out]; omega
            ·rw [E2.out]; omega
            ·rw [E1.out]; omega
            ·rw [E2.out]; omega
            ·rw [E1.out, Hne1.out, Hn4.out]; omega
            ·rw [E2.out, Hbe1.out, Hb4.out]; omega
            ·rw [Hce.out, Bool.eq_iff_iff, Hdrop.out, E1.out, E2.out]
             exact ⟨fun h => h.2, fun h => ⟨Hk.out, h⟩⟩
           case measure => simp [intOf]; omega
         ·obtain rfl : j = m.f4.length := by omega
          have hc : chk d m n b = true := by
           rw [Hchk.out, Hce.out, List.drop_length, chkL_nil]
           omega
          have hres : HoldsPost w0 w g d m n b (.returned (.bool true)) wr := ⟨by rw [hc], hB4, hK4, n', b', hR4, fun _ => by
           rw [Hne1.out, Hbe1.out, List.take_length, Hnod.out, Hbyt.out, ← Hb1.out]
           exact ⟨by omega, by omega⟩⟩
          clear Hchk hc
          go_wp2
          go_ret
          exact hres
set_option maxRecDepth 100000 in
set_option maxHeartbeats 4000000 in
/-- match.Check. -/
theorem check53 (w : World) (m : S25) (A3 : Option Addr) (c3 : Nat) (A4 : Option Addr) (c4 : Nat) (hM : MC w m A3 c3 A4 c4) :
  Calls Try.prog 53 #[.agg #[.int .i64 m.f0, .string m.f1, .string m.f2, .slice A3 m.f3.length c3, .slice A4 m.f4.length c4]] w fun e w' => e = .returned (.bool (chkB m)) ∧ Below w.heap.size w w' := by
 have hb : Below w.heap.size w ((w.alloc (.cells #[.int .i64 m.f0, .string m.f1, .string m.f2, .slice A3 m.f3.length c3, .slice A4 m.f4.length c4] 25)).alloc (.cells #[.int .i64 64, .int .i64 4096] 130)) := below_alloc (below_alloc (Below.refl _ _) _) _
 have hr : Room ((w.alloc (.cells #[.int .i64 m.f0, .string m.f1, .string m.f2, .slice A3 m.f3.length c3, .slice A4 m.f4.length c4] 25)).alloc (.cells #[.int .i64 64, .int .i64 4096] 130)) (w.heap.size + 1) 64 4096 := by
  have := blk_new (w.alloc (.cells #[.int .i64 m.f0, .string m.f1, .string m.f2, .slice A3 m.f3.length c3, .slice A4 m.f4.length c4] 25)) (.cells #[.int .i64 64, .int .i64 4096] 130)
  rwa [World.size_alloc] at this
 have hh := holds106 (nodesM m) m (Nat.le_refl _) 1 64 4096 A3 c3 A4 c4 (w.heap.size + 1) w _ (by decide) (by decide) (by decide) (by decide) (by decide) (by decide) hM hb (by omega) hr
 go_enter Try.func53, Try.ntmps53
 go_wp2_with fail
 (with_reducible refine hh.mono ?_)
 rintro e w5 ⟨rfl, hB5, -, -⟩
 go_wp2_with fail
 go_ret
 exact ⟨rfl, hB5⟩
end Go.Proofs.Yteafilojjdfllaa
end
section
namespace Go.Proofs.Yteafilojjdfllaa
open Go Go.ChangeShapes Go.WideShapes Go.ChangeAt Go.RowKit Go.Proofs.YteafilojjdfllaaW.PrintWords Go.Proofs.Yteafilojjdfllaa.PAll
theorem own : ownKnob Try.prog.godebug = none := by kernel_rfl
theorem laidOut : laidOutB Try.prog = true := by kernel_rfl
/-- below the heap's old size nothing has turned: so all arguments read as they did -/
theorem trodAll_below {H : Type} {enc : TypeId × Value → H} {W W' : World} (hb : Below W.heap.size W W') : ∀ {ts : List TypeId} {vs : List Value} {ds : List (DataW H)} {ps : List MemPlace},
  (∀ t ∈ ts, Try.prog.readableRec t = true ∧ t < Try.prog.types.size) →
  DataW.TrodAll enc Try.prog W 0 (fun _ => true) true ts vs ds ps → DataW.TrodAll enc Try.prog W' 0 (fun b => decide (b < W.heap.size)) true ts vs ds ps
 | [], vs, ds, ps, _, h => by
  obtain ⟨rfl, rfl, rfl⟩ := trodAll_nil h
  exact trodAll_mk0
 | t :: ts, vs, ds, ps, hr, h => by
  obtain ⟨v0, vs0, d0, ds0, p0, q0, rfl, rfl, rfl, h0, r0⟩ := trodAll_cons h
  have ht := hr t (List.mem_cons_self ..)
  refine trodAll_cons_mk (Below.trod laidOut ht.1 ht.2 h0 hb ?_) (trodAll_below hb (fun u hu => hr u (List.mem_cons_of_mem _ hu)) r0)
  obtain ⟨n, hn⟩ := h0
  exact DataW.trod_lt n t _ _ hn
section
variable {H : Type} {enc : TypeId × Value → H} {W : World}
end
section
variable {H : Type} {enc : TypeId × Value → H} {W : World}
end
section
variable {H : Type} {enc : TypeId × Value → H} {W : World} {base : Nat} {v : Value} {d : DataW H} {p : List MemPlace}
end
end Go.Proofs.Yteafilojjdfllaa
end
section
namespace Go.Proofs.Yteafilojjdfllaa
open Go
def ioCodes : List Nat := [104, 97, 114, 110, 101, 115, 115, 32, 102, 50, 56, 101, 48, 56, 101, 97, 101, 53, 53, 53, 50, 54, 100, 53, 102, 52, 51, 52, 54, 51, 51, 101, 54, 49, 52, 51, 99, 54, 54, 50, 98, 57, 51, 100, 100, 56, 102, 102, 50, 101, 54, 97, 52, 51, 51, 101, 101, 51, 51, 54, 54, 101, 97, 52, 54, 50, 101, 100, 55, 97, 54, 56, 32, 99, 117, 116, 32, 97, 116, 32, 118, 97, 114, 118, 101, 47, 118, 97, 114, 118, 101, 108, 97, 119, 49, 57, 46, 84, 111, 109, 98, 67, 104, 101, 99, 107, 115, 32, 118, 97, 114, 118, 101, 47, 118, 97, 114, 118, 101, 108, 97, 119, 49, 57, 46, 84, 111, 109, 98, 65, 112, 112, 108, 105, 101, 115, 32, 118, 97, 114, 118, 101, 47, 118, 97, 114, 118, 101, 108, 97, 119, 49, 57, 46, 84, 111, 109, 98, 79, 114, 100, 101, 114, 32, 118, 97, 114, 118, 101, 47, 118, 97, 114, 118, 101, 108, 97, 119, 49, 57, 46, 84, 111, 109, 98, 87, 104, 111, 108, 101, 32, 118, 97, 114, 118, 101, 47, 118, 97, 114, 118, 101, 108, 97, 119, 49, 57, 46, 84, 111, 109, 98, 80, 114, 117, 110, 101, 115, 32, 118, 97, 114, 118, 101, 47, 118, 97, 114, 118, 101, 108, 97, 119, 49, 57, 46, 84, 111, 109, 98, 68, 111, 110, 101, 32, 118, 97, 114, 118, 101, 47, 118, 97, 114, 118, 101, 108, 97, 119, 49, 50, 46, 77, 97, 116, 99, 104, 67, 104, 101, 99, 107, 115, 32, 118, 97, 114, 118, 101, 47, 118, 97, 114, 118, 101, 108, 97, 119, 49, 50, 46, 77, 97, 116, 99, 104, 69, 118, 97, 108, 115, 32, 118, 97, 114, 118, 101, 47, 118, 97, 114, 118, 101, 108, 97, 119, 49, 50, 46, 77, 97, 116, 99, 104, 76, 97, 119, 115, 32, 118, 97, 114, 118, 101, 47, 118, 97, 114, 118, 101, 108, 97, 119, 49, 50, 46, 77, 97, 116, 99, 104, 76, 97, 98, 101, 108, 115, 32, 118, 97, 114, 118, 101, 47, 118, 97, 114, 118, 101, 108, 97, 119, 49, 50, 46, 77, 97, 116, 99, 104, 79, 110, 99, 101, 32, 118, 97, 114, 118, 101, 47, 118, 97, 114, 118, 101, 108, 97, 119, 49, 50, 46, 77, 97, 116, 99, 104, 83, 97, 109, 101, 32, 118, 97, 114, 118, 101, 47, 118, 97, 114, 118, 101, 108, 97, 119, 49, 49, 46, 76, 97, 98, 101, 108, 67, 104, 101, 99, 107, 115, 32, 118, 97, 114, 118, 101, 47, 118, 97, 114, 118, 101, 108, 97, 119, 49, 49, 46, 76, 97, 98, 101, 108, 77, 97, 107, 101, 115, 32, 118, 97, 114, 118, 101, 47, 118, 97, 114, 118, 101, 108, 97, 119, 49, 49, 46, 76, 97, 98, 101, 108, 84, 117, 114, 110, 115, 32, 118, 97, 114, 118, 101, 47, 118, 97, 114, 118, 101, 108, 97, 119, 49, 49, 46, 76, 97, 98, 101, 108, 86, 97, 108, 117, 101, 115, 32, 118, 97, 114, 118, 101, 47, 118, 97, 114, 118, 101, 108, 97, 119, 49, 57, 46, 84, 111, 109, 98, 66, 121, 116, 101, 115, 32, 118, 97, 114, 118, 101, 47, 118, 97, 114, 118, 101, 108, 97, 119, 49, 49, 46, 76, 97, 98, 101, 108, 67, 109, 112, 115, 32, 118, 97, 114, 118, 101, 47, 118, 97, 114, 118, 101, 108, 97, 119, 49, 49, 46, 76, 97, 98, 101, 108, 79, 114, 100, 101, 114, 115, 32, 118, 97, 114, 118, 101, 47, 118, 97, 114, 118, 101, 108, 97, 119, 49, 49, 46, 76, 97, 98, 101, 108, 83, 116, 97, 114, 116, 115, 32, 118, 97, 114, 118, 101, 47, 118, 97, 114, 118, 101, 108, 97, 119, 49, 49, 46, 76, 97, 98, 101, 108, 66, 121, 116, 101, 115, 32, 118, 97, 114, 118, 101, 47, 118, 97, 114, 118, 101, 108, 97, 119, 49, 49, 46, 76, 97, 98, 101, 108, 84, 101, 120, 116, 115, 32, 118, 97, 114, 118, 101, 47, 118, 97, 114, 118, 101, 108, 97, 119, 49, 49, 46, 76, 97, 98, 101, 108, 80, 97, 114, 115, 101, 115, 32, 118, 97, 114, 118, 101, 47, 118, 97, 114, 118, 101, 108, 97, 119, 49, 49, 46, 76, 97, 98, 101, 108, 66, 114, 111, 107, 101, 110, 32, 118, 97, 114, 118, 101, 47, 118, 97, 114, 118, 101, 108, 97, 119, 49, 50, 46, 77, 97, 116, 99, 104, 66, 121, 116, 101, 115, 32, 118, 97, 114, 118, 101, 47, 118, 97, 114, 118, 101, 108, 97, 119, 49, 50, 46, 77, 97, 116, 99, 104, 84, 101, 120, 116, 115, 32, 118, 97, 114, 118, 101, 47, 118, 97, 114, 118, 101, 108, 97, 119, 49, 50, 46, 77, 97, 116, 99, 104, 80, 97, 114, 115, 101, 115, 32, 118, 97, 114, 118, 101, 47, 118, 97, 114, 118, 101, 108, 97, 119, 49, 50, 46, 77, 97, 116, 99, 104, 68, 101, 101, 112]
theorem io_str : Try.prog.initOrder = String.ofList (ioCodes.map Char.ofNat) := by kernel_rfl
theorem io_list : Try.prog.initOrder.toList = ioCodes.map Char.ofNat := by rw [io_str, String.toList_ofList]
theorem pf_lifts : Try.prog.liftsFinal = false := by
 unfold Program.liftsFinal Program.headLifts
 rw [io_list]
 kernel_rfl
def cutW : List Char := [99, 117, 116].map Char.ofNat
theorem bw_head : ((behindMainWord (wordsSigns (ioCodes.map Char.ofNat))).head? == some cutW) = true := by kernel_rfl
theorem head_cut : (behindMainWord (wordsSigns Try.prog.initOrder.toList)).head? = some cutW := by
 rw [io_list]
 exact beq_iff_eq.1 bw_head
theorem cut_strip (rest : List (List Char)) : stripLifts liftWords (cutW :: rest) = ([], cutW :: rest) := by kernel_rfl
theorem cut_gc : (cutW == "gc".toList) = false := by kernel_rfl
theorem cut_spec : (cutW == "spec".toList) = false := by kernel_rfl
theorem cut_cut : (cutW == "cut".toList) = true := by kernel_rfl
theorem cut_car : (cutW == "carried".toList) = false := by kernel_rfl
theorem cut_head (rest : List (List Char)) : ((cutW :: rest).head? == some "cut".toList) = true := by kernel_rfl
theorem make_of (P : Program) (h : (behindMainWord (wordsSigns P.initOrder.toList)).head? = some cutW) : P.make = some .cut := by
 unfold Program.make
 cases hl : behindMainWord (wordsSigns P.initOrder.toList) with
 | nil => rw [hl] at h; cases h
 | cons c rest =>
  rw [hl, List.head?_cons] at h
  cases h
  have h1 := cut_gc
  have h2 := cut_spec
  have h3 := cut_cut
  generalize cutW = c at h1 h2 h3
  simp only [h1, h2, h3, Bool.or_self, Bool.true_or, if_true]
  rfl
theorem enter_of (P : Program) (h : (behindMainWord (wordsSigns P.initOrder.toList)).head? = some cutW) (p1 : P.laysLater = false) (p2 : P.bearsReflect = false) (p3 : P.doorFits [] = true) : P.mayEnter = true := by
 unfold Program.mayEnter
 cases hl : behindMainWord (wordsSigns P.initOrder.toList) with
 | nil => rw [hl] at h; cases h
 | cons c rest =>
  rw [hl, List.head?_cons] at h
  cases h
  have h1 := cut_gc
  have h2 := cut_spec
  have h4 := cut_car
  have h5 := cut_strip rest
  have h6 := cut_head rest
  generalize cutW = c at h1 h2 h4 h5 h6
  simp only [h1, h2, h4, h5, h6, p1, p2, p3, List.contains_nil]
  rfl
theorem pf_later : Try.prog.laysLater = false := by kernel_rfl
theorem pf_refl : Try.prog.bearsReflect = false := by kernel_rfl
theorem pf_door : Try.prog.doorFits [] = true := by kernel_rfl
theorem pf_make : Try.prog.make = some .cut := make_of _ head_cut
theorem pf_enter : Try.prog.mayEnter = true := enter_of _ head_cut pf_later pf_refl pf_door
theorem pf_laid : laidOutB Try.prog = true := by kernel_rfl
theorem pf_maps : mapsRowed Try.prog = true := by kernel_rfl
theorem pf_stops : (Try.prog.stops == []) = true := by kernel_rfl
theorem pf_knobs : (Try.prog.stopKnobs == []) = true := by kernel_rfl
theorem pf_plain : Try.prog.plainKeys = true := by kernel_rfl
theorem pf_heard : Try.prog.stopsHeard = true := by kernel_rfl
end Go.Proofs.Yteafilojjdfllaa
end
section
namespace Go.Proofs.Yteafilojjdfllaa
open Go Go.Proofs.Yteafilojjdfllaa.PAll
/-- a digit's byte -/
def hexD (n : Nat) : UInt8 := if n < 10 then (48 + n).toUInt8 else (87 + n).toUInt8
/-- a byte between quotes -/
def encB (c : UInt8) : List UInt8 :=
 if c = 34 ∨ c = 92 then [92, c] else if c.toNat < 32 ∨ 127 ≤ c.toNat then [92, 120, hexD (c.toNat / 16), hexD (c.toNat % 16)] else [c]
/-- a value between quotes -/
def quoteL (l : List UInt8) : List UInt8 := 34 :: (l.flatMap encB ++ [34])
/-- with commas between -/
def commas : List (List UInt8) → List UInt8
 | [] => []
 | [x] => x
 | x :: y :: r => x ++ 44 :: commas (y :: r)
theorem commas_join (l : List (List UInt8)) : Lib.join l [44] = commas l := by
 match l with
 | [] => rfl
 | [x] => rw [Lib.join_one]; rfl
 | x :: y :: r =>
  have h := commas_join (y :: r)
  rw [Lib.join_cons] at h ⊢
  rw [commas, ← h]
  simp [Lib.joinTail]
/-- a text's own bytes -/
def quoteT (v : ByteArray) : List UInt8 := quoteL v.data.toList
theorem nameB_all {n : ByteArray} (h : nameB n = true) : n.data.toList.all nameC = true := by
 unfold nameB at h
 rw [Bool.and_eq_true] at h
 exact h.2
theorem nameB_cons {n : ByteArray} (h : nameB n = true) : ∃ c r, n.data.toList = c :: r ∧ nameC c = true := by
 have h2 := nameB_all h
 unfold nameB at h
 rw [Bool.and_eq_true, decide_eq_true_iff] at h
 have h1 : 1 ≤ n.data.toList.length := h.1.1
 match hl : n.data.toList, h1 with
 | c :: r, _ =>
  rw [hl, List.all_cons, Bool.and_eq_true] at h2
  exact ⟨c, r, rfl, h2.1⟩
theorem ba_nil {b : ByteArray} (h : b.toList = []) : b = ⟨#[]⟩ := by
 rw [ByteArray.toList_eq] at h
 cases b
 simp only at h
 rw [Array.toList_eq_nil_iff.1 h]
theorem len_nil {α : Type} {l : List α} (h : l.length = 0) : l = [] := List.length_eq_zero_iff.1 h
theorem encB_len (c : UInt8) : (encB c).length ≤ 4 := by
 unfold encB
 split
 ·simp
 ·split <;> simp
theorem encs_len : ∀ (l : List UInt8), (l.flatMap encB).length ≤ 4 * l.length
 | [] => by simp
 | c :: l => by have := encB_len c; have := encs_len l; simp only [List.flatMap_cons, List.length_append, List.length_cons]; omega
theorem quoteT_len (v : ByteArray) : (quoteT v).length ≤ 4 * v.size + 2 := by
 have h := encs_len v.data.toList
 have e : v.data.toList.length = v.size := by simp
 unfold quoteT quoteL
 simp only [List.length_cons, List.length_append, List.length_nil]
 omega
theorem commas_len : ∀ (l : List (List UInt8)), (commas l).length ≤ (l.map (fun x => x.length + 1)).sum
 | [] => by simp [commas]
 | [x] => by simp [commas]
 | x :: y :: r => by
  have := commas_len (y :: r)
  simp only [commas, List.length_append, List.length_cons, List.map_cons, List.sum_cons] at this ⊢
  omega
/-- what a matcher that may be looks like -/
theorem shape {m : S25} (h : okM m = true) :
  m = ⟨0, ⟨#[]⟩, ⟨#[]⟩, [], []⟩ ∨ (∃ op n v, (op = 1 ∨ op = 2 ∨ op = 3) ∧ nameB n = true ∧ m = ⟨op, n, v, [], []⟩) ∨ (∃ n vs, nameB n = true ∧ m = ⟨4, n, ⟨#[]⟩, vs, []⟩) ∨
   (∃ op ks, (op = 5 ∨ op = 6 ∨ op = 7) ∧ okL ks = true ∧ m = ⟨op, ⟨#[]⟩, ⟨#[]⟩, [], ks⟩) := by
 obtain ⟨op, n, v, vs, ks⟩ := m
 rw [okM_mk, Bool.and_eq_true] at h
 obtain ⟨h, hk⟩ := h
 simp only at hk
 unfold aloneB plainB at h
 by_cases e0 : op = 0
 ·rw [if_pos e0] at h
  simp only [Bool.and_eq_true, decide_eq_true_iff] at h
  obtain ⟨⟨h1, h2, h3⟩, h4⟩ := h
  left
  rw [e0, ba_nil h1, ba_nil h2, len_nil h3, len_nil h4]
 rw [if_neg e0] at h
 right
 by_cases e1 : op = 1 ∨ op = 2 ∨ op = 3
 ·rw [if_pos e1] at h
  simp only [Bool.and_eq_true, decide_eq_true_iff] at h
  obtain ⟨h1, _, h2, h3⟩ := h
  exact Or.inl ⟨op, n, v, e1, h1, by rw [len_nil h3, len_nil h2]⟩
 rw [if_neg e1] at h
 right
 by_cases e4 : op = 4
 ·rw [if_pos e4] at h
  simp only [Bool.and_eq_true, decide_eq_true_iff] at h
  obtain ⟨⟨h1, h2, h3⟩, h4⟩ := h
  exact Or.inl ⟨n, vs, h1, by rw [e4, ba_nil h3, len_nil h2]⟩
 rw [if_neg e4] at h
 right
 by_cases e5 : op = 5 ∨ op = 6
 ·rw [if_pos e5] at h
  simp only [decide_eq_true_iff] at h
  obtain ⟨h1, h2, h3⟩ := h
  exact ⟨op, ks, by omega, hk, by rw [ba_nil h1, ba_nil h2, len_nil h3]⟩
 rw [if_neg e5] at h
 by_cases e7 : op = 7
 ·rw [if_pos e7] at h
  simp only [Bool.and_eq_true, decide_eq_true_iff] at h
  obtain ⟨⟨h1, h2, h3⟩, h4⟩ := h
  exact ⟨op, ks, by omega, hk, by rw [ba_nil h1, ba_nil h2, len_nil h3]⟩
 rw [if_neg e7] at h
 cases h
theorem okL_mem : ∀ {ks : List S25} {k : S25}, okL ks = true → k ∈ ks → okM k = true
 | x :: ks, k, h, hk => by
  simp only [okL, Bool.and_eq_true] at h
  rcases List.mem_cons.1 hk with rfl | hk
  ·exact h.1
  ·exact okL_mem h.2 hk
end Go.Proofs.Yteafilojjdfllaa
end
section
namespace Go.Proofs.Yteafilojjdfllaa
section
open Go Go.Proofs.Yteafilojjdfllaa.PAll
end
section
open Go Go.Proofs.Yteafilojjdfllaa.PAll
end
end Go.Proofs.Yteafilojjdfllaa
end
section
namespace Go.Proofs.Yteafilojjdfllaa
open Go Go.Proofs.Yteafilojjdfllaa.PAll
inductive Step where
 | stop
 | done
 | byte (c : UInt8) (n : Nat)
def digL : List UInt8 := [48, 49, 50, 51, 52, 53, 54, 55, 56, 57, 97, 98, 99, 100, 101, 102]
def hexV (c : UInt8) : Int := Lib.indexByte digL c
def hexB (h l : UInt8) : UInt8 := ((hexV h).toNat * 16 + (hexV l).toNat).toUInt8
/-- the program's -/
def stepP : List UInt8 → Step
 | [] => .stop
 | x :: r =>
  if x = 34 then .done
  else if x = 92 then
   (if 3 ≤ r.length ∧ r.getD 0 0 = 120 then (if hexV (r.getD 1 0) < 0 ∨ hexV (r.getD 2 0) < 0 then .stop else .byte (hexB (r.getD 1 0) (r.getD 2 0)) 3)
   else if r.length < 1 then .stop else .byte (r.getD 0 0) 1)
  else .byte x 0
theorem stepP_cons (x : UInt8) (r : List UInt8) : stepP (x :: r) = if x = 34 then .done
  else if x = 92 then
   (if 3 ≤ r.length ∧ r.getD 0 0 = 120 then (if hexV (r.getD 1 0) < 0 ∨ hexV (r.getD 2 0) < 0 then .stop else .byte (hexB (r.getD 1 0) (r.getD 2 0)) 3)
   else if r.length < 1 then .stop else .byte (r.getD 0 0) 1)
  else .byte x 0 := rfl
def unqW (step : List UInt8 → Step) : List UInt8 → Option (List UInt8 × List UInt8)
 | [] => none
 | x :: r => match step (x :: r) with
  | .stop => none
  | .done => some ([], r)
  | .byte c n => (unqW step (r.drop n)).map (fun q => (c :: q.1, q.2))
termination_by l => l.length
decreasing_by simp only [List.length_drop, List.length_cons]; omega
theorem hexV_hexD : ∀ n : Fin 16, hexV (hexD n.val) = (n.val : Int) := by decide +kernel
theorem hexB_hexD (c : UInt8) : hexB (hexD (c.toNat / 16)) (hexD (c.toNat % 16)) = c := by
 have h := c.toNat_lt
 have h1 := hexV_hexD ⟨c.toNat / 16, by omega⟩
 have h2 := hexV_hexD ⟨c.toNat % 16, by omega⟩
 simp only at h1 h2
 unfold hexB
 rw [h1, h2, Int.toNat_natCast, Int.toNat_natCast, show c.toNat / 16 * 16 + c.toNat % 16 = c.toNat by omega]
 simp
def Right (step : List UInt8 → Step) : Prop := (∀ t, step (34 :: t) = .done) ∧ ∀ c u, ∃ x r, encB c ++ u = x :: r ∧ ∃ n, step (x :: r) = .byte c n ∧ r.drop n = u
theorem right_P : Right stepP := by
 refine ⟨fun t => by rw [stepP_cons, if_pos rfl], fun c u => ?_⟩
 unfold encB
 by_cases h1 : c = 34 ∨ c = 92
 ·rw [if_pos h1]
  refine ⟨92, c :: u, rfl, 1, ?_, rfl⟩
  rw [stepP_cons, if_neg (by decide), if_pos rfl, if_neg (by rintro ⟨-, h⟩; simp only [List.getD_cons_zero] at h; rcases h1 with e | e <;> rw [e] at h <;> exact absurd h (by decide)), if_neg (by simp)]
  rfl
 ·rw [if_neg h1]
  by_cases h2 : c.toNat < 32 ∨ 127 ≤ c.toNat
  ·rw [if_pos h2]
   refine ⟨92, 120 :: hexD (c.toNat / 16) :: hexD (c.toNat % 16) :: u, rfl, 3, ?_, rfl⟩
   have h := c.toNat_lt
   have e1 := hexV_hexD ⟨c.toNat / 16, by omega⟩
   have e2 := hexV_hexD ⟨c.toNat % 16, by omega⟩
   simp only at e1 e2
   rw [stepP_cons, if_neg (by decide), if_pos rfl, if_pos ⟨by simp, rfl⟩]
   show (if hexV (hexD (c.toNat / 16)) < 0 ∨ hexV (hexD (c.toNat % 16)) < 0 then Step.stop else .byte (hexB (hexD (c.toNat / 16)) (hexD (c.toNat % 16))) 3) = _
   rw [e1, e2, if_neg (by omega), hexB_hexD]
  ·rw [if_neg h2]
   refine ⟨c, u, rfl, 0, ?_, rfl⟩
   rw [stepP_cons, if_neg (fun e => h1 (Or.inl e)), if_neg (fun e => h1 (Or.inr e))]
theorem unq_quote {step : List UInt8 → Step} (hr : Right step) (t : List UInt8) : ∀ (v : List UInt8), unqW step (v.flatMap encB ++ 34 :: t) = some (v, t)
 | [] => by rw [List.flatMap_nil, List.nil_append, unqW, hr.1]
 | c :: v => by
  obtain ⟨x, r, e, n, h1, h2⟩ := hr.2 c (v.flatMap encB ++ 34 :: t)
  rw [List.flatMap_cons, List.append_assoc, e, unqW, h1]
  simp only [h2]
  rw [unq_quote hr t v]
  rfl
/-- what stands behind '=' -/
def valW (step : List UInt8 → Step) : List UInt8 → Option (List UInt8 × List UInt8)
 | 34 :: r => unqW step r
 | _ => none
theorem val_quote {step : List UInt8 → Step} (hr : Right step) (v : ByteArray) (t : List UInt8) : valW step (quoteT v ++ t) = some (v.data.toList, t) := by
 unfold quoteT quoteL
 rw [List.cons_append, List.append_assoc]
 exact unq_quote hr t v.data.toList
theorem nameB_size {n : ByteArray} (h : nameB n = true) : n.data.toList.length ≤ 32 := by
 unfold nameB at h
 rw [Bool.and_eq_true, decide_eq_true_iff] at h
 have : n.data.toList.length = n.size := by simp
 omega
end Go.Proofs.Yteafilojjdfllaa
end
section
namespace Go.Proofs.Yteafilojjdfllaa.PAll
open Go.RowKit Go.Proofs.YteafilojjdfllaaW.PrintWords Go.Proofs.YteafilojjdfllaaW.PrintLast Go.Proofs.YteafilojjdfllaaW.PrintMore
attribute [local go_sem] max2_int min2_int max_two min_two max_three min_three max_four min_four   -- for this text's walks alone
set_option linter.unusedVariables false
set_option linter.unusedSimpArgs false
mutual
def label_Quoted.l0 : Nat → ByteArray → List Int → Int → Int → Option (ByteArray)
 | 0, _, _, _, _ => none
 | k + 1, x0, x3, x8, x9 => if x9 < x8 then (if 0 ≤ x9 then (if x9 < (x0.size : Int) then (if (bt x0 x9) = 34 then (label_Quoted.j1 k x0 x3 (bt x0 x9) x8 x9 true) else (label_Quoted.j1 k x0 x3 (bt x0 x9) x8 x9 ((bt x0 x9) == 92))) else (none)) else (none)) else (if x3.length < 140737488355328 then (some (strOfNums (x3 ++ [34]))) else (none))
def label_Quoted.j1 : Nat → ByteArray → List Int → Int → Int → Int → Bool → Option (ByteArray)
 | 0, _, _, _, _, _, _ => none
 | k + 1, x0, x3, x5, x8, x9, x19 => if x19 = true then ((some (([92, x5] : List Int) : List Int)).bind fun y285 => (if x3.length + y285.length < 140737488355328 then (label_Quoted.l0 k x0 (x3 ++ y285) x8 (wrap64 (x9 + 1))) else (none))) else (if x5 < 32 then (if 0 ≤ (x5 / 16) then (if (x5 / 16) < 16 then (if 0 ≤ (Go.bits .and .u8 x5 15) then (if (Go.bits .and .u8 x5 15) < 16 then ((some (([92, 120, bt (⟨#[48, 49, 50, 51, 52, 53, 54, 55, 56, 57, 97, 98, 99, 100, 101, 102]⟩ : ByteArray) (x5 / 16), bt (⟨#[48, 49, 50, 51, 52, 53, 54, 55, 56, 57, 97, 98, 99, 100, 101, 102]⟩ : ByteArray) (Go.bits .and .u8 x5 15)] : List Int) : List Int)).bind fun y291 => (if x3.length + y291.length < 140737488355328 then (label_Quoted.l0 k x0 (x3 ++ y291) x8 (wrap64 (x9 + 1))) else (none))) else (none)) else (none)) else (none)) else (none)) else (if x5 ≥ 127 then (if 0 ≤ (x5 / 16) then (if (x5 / 16) < 16 then (if 0 ≤ (Go.bits .and .u8 x5 15) then (if (Go.bits .and .u8 x5 15) < 16 then ((some (([92, 120, bt (⟨#[48, 49, 50, 51, 52, 53, 54, 55, 56, 57, 97, 98, 99, 100, 101, 102]⟩ : ByteArray) (x5 / 16), bt (⟨#[48, 49, 50, 51, 52, 53, 54, 55, 56, 57, 97, 98, 99, 100, 101, 102]⟩ : ByteArray) (Go.bits .and .u8 x5 15)] : List Int) : List Int)).bind fun y297 => (if x3.length + y297.length < 140737488355328 then (label_Quoted.l0 k x0 (x3 ++ y297) x8 (wrap64 (x9 + 1))) else (none))) else (none)) else (none)) else (none)) else (none)) else (if x3.length < 140737488355328 then (label_Quoted.l0 k x0 (x3 ++ [x5]) x8 (wrap64 (x9 + 1))) else (none))))
end
def label_Quoted.f (k : Nat) (a0 : ByteArray) : Option (ByteArray) := label_Quoted.l0 k a0 (([34] : List Int)) (a0.size : Int) 0
theorem label_Quoted.mono_l : ∀ k, (∀ y0 y1 y2 y3, LeO (label_Quoted.l0 k y0 y1 y2 y3) (label_Quoted.l0 (k + 1) y0 y1 y2 y3)) ∧ (∀ y0 y1 y2 y3 y4 y5, LeO (label_Quoted.j1 k y0 y1 y2 y3 y4 y5) (label_Quoted.j1 (k + 1) y0 y1 y2 y3 y4 y5))
 | 0 => ⟨fun _ _ _ _ r h => by simp [label_Quoted.l0] at h, fun _ _ _ _ _ _ r h => by simp [label_Quoted.j1] at h⟩
 | k + 1 => by
  obtain ⟨ih0, ih1⟩ := label_Quoted.mono_l k
  refine ⟨?_, ?_⟩
  ·intro y0 y1 y2 y3
   unfold label_Quoted.l0
   repeat' first
   | (with_reducible exact ih0 _ _ _ _)
   | (with_reducible exact ih1 _ _ _ _ _ _)
   | (with_reducible exact LeO.refl _)
   | (with_reducible exact LeO.none _)
   | (with_reducible refine LeO.ite ?_ ?_)
   | (with_reducible refine LeO.bind ?_ (fun _ => ?_))
   | exact ih0 _ _ _ _
   | exact ih1 _ _ _ _ _ _
   | exact LeO.none _
   | refine LeO.ite ?_ ?_
   | refine LeO.bind ?_ (fun _ => ?_)
  ·intro y0 y1 y2 y3 y4 y5
   unfold label_Quoted.j1
   repeat' first
   | (with_reducible exact ih0 _ _ _ _)
   | (with_reducible exact ih1 _ _ _ _ _ _)
   | (with_reducible exact LeO.refl _)
   | (with_reducible exact LeO.none _)
   | (with_reducible refine LeO.ite ?_ ?_)
   | (with_reducible refine LeO.bind ?_ (fun _ => ?_))
   | exact ih0 _ _ _ _
   | exact ih1 _ _ _ _ _ _
   | exact LeO.none _
   | refine LeO.ite ?_ ?_
   | refine LeO.bind ?_ (fun _ => ?_)
theorem label_Quoted.mono : ∀ a0 k, LeO (label_Quoted.f k a0) (label_Quoted.f (k + 1) a0) := by
 intro a0 k
 obtain ⟨ih0, ih1⟩ := label_Quoted.mono_l k
 unfold label_Quoted.f
 repeat' first
   | (with_reducible exact ih0 _ _ _ _)
   | (with_reducible exact ih1 _ _ _ _ _ _)
   | (with_reducible exact LeO.refl _)
   | (with_reducible exact LeO.none _)
   | (with_reducible refine LeO.ite ?_ ?_)
   | (with_reducible refine LeO.bind ?_ (fun _ => ?_))
   | exact ih0 _ _ _ _
   | exact ih1 _ _ _ _ _ _
   | exact LeO.none _
   | refine LeO.ite ?_ ?_
   | refine LeO.bind ?_ (fun _ => ?_)
def label_Quoted.T10 : Bool × List (List Nat × List Nat) := (true, [([], []), ([], []), ([1], [1]), ([2], [2]), ([], []), ([4], [4]), ([5], [5]), ([3, 6], [3, 6]), ([0, 7], [0, 7]), ([8, 8, 0, 1, 2, 3, 4, 5, 6, 7, 8], [0, 8])])
def label_Quoted.B10 : List Nat := [0, 0, 2, 6, 0, 16, 48, 126, 255, 511]
theorem label_Quoted.tab10 : rtab .any (opsOf Try.f125 10) = label_Quoted.T10 := by kernel_rfl
theorem label_Quoted.bits10 : waitsOk label_Quoted.T10.2 label_Quoted.B10 = true := by kernel_rfl
set_option maxHeartbeats 8000000 in
set_option maxRecDepth 100000 in
theorem label_Quoted.calls (k : Nat) (a0 : ByteArray) (r : ByteArray) (w : World) (h : label_Quoted.f k a0 = some r) :
  Calls Try.prog 125 #[.string a0] w fun e w' => e = .returned (.string r) ∧ Below w.heap.size w w' := by
 have HB := Aside0.mk (Below.refl w.heap.size w)
 have H : (label_Quoted.l0 k a0 (([34] : List Int)) (a0.size : Int) 0) = some r := h
 clear h
 obtain ⟨y279, hy279⟩ : ∃ y_ : List Int, y_ = (([34] : List Int)) := ⟨_, rfl⟩
 replace H : (label_Quoted.l0 k a0 y279 (a0.size : Int) 0) = some r := by first | (rw [hy279]; with_reducible exact H) | (have H2_ := (Option.bind_some _ _).symm.trans H; rw [hy279]; with_reducible exact H2_) | (have H2_ := (Option.bind_some _ _).symm.trans H; with_reducible exact H2_) | with_reducible exact H | (rw [hy279]; exact H) | exact H
 have Ny279 := Aside0.mk hy279
 clear hy279
 have H' := Aside0.mk H
 clear H
 go_enter Try.func125, Try.ntmps125
 go_wp2_with (first | ((with_reducible refine gate_dst (N := 6) rfl ?_); refine Kd.R_lit (Kd.int .u8) _ 5 ?hg (N := 6) ?hd (xs := ([34] : List Int)) (inner := [.int .u8 34]) (ok := fun _ => True) (okp := fun _ => True) ?hr ?hp (fun _ hk => hk) trivial (Below.refl _ _) (Nat.le_refl _) (by simp) ?_; (case hd => rfl); (case hg => rfl); (case hr => first | (go_simp; done) | (go_simp; rfl)); (case hp => exact (Reps.one (show Kd.M (Kd.int .u8) _ _ _ 34 [.int .u8 34] from rfl) (Reps.none _ _))); intro v280 w2 ho3 hb hg_ hnew_; clear hg_ hnew_; (first | rw [← Ny279.out] at ho3 | (simp only [Int.reduceToNat] at ho3; rw [← Ny279.out] at ho3)); have n0_ := Aside0.mk (Kd.R_lower ho3 (below_size (by repeat (first | (with_reducible first | exact HB.out | apply below_alloc | apply pw_below_drewN | apply below_drew1) | exact HB.out)))); have n1_ := Aside0.mk (below_step (by repeat (first | (with_reducible first | exact HB.out | apply below_alloc | apply pw_below_drewN | apply below_drew1) | exact HB.out)) hb); clear HB; have HO281 := n0_; have HB := n1_; clear n0_ n1_; clear hb ho3))
 go_loopg [3, 9] k (fun kq v3 v9 w' => ∃ (x3_1 : List Int) (x9_1 : Int), v9 = .int .i64 x9_1 ∧ Aside0 (label_Quoted.l0 kq a0 x3_1 (a0.size : Int) x9_1 = some r) ∧ Aside0 (kq ≤ k) ∧ Aside0 (Kd.R (Kd.int .u8) 5 w' w.heap.size (fun _ => True) v3 x3_1) ∧ Aside0 (Below w.heap.size w w'))
 case atStart => exact ⟨(y279), (0), (by first | rfl | (simp; done) | (simp [*]; done)), H', ⟨Nat.le_refl _⟩, ⟨by (with_reducible repeat (first | apply Kd.R_alloc | apply Kd.R_drewN | apply Kd.R_drew)); exact HO281.out⟩, ⟨by repeat (first | (with_reducible first | exact HB.out | apply below_alloc | apply pw_below_drewN | apply below_drew1) | exact HB.out)⟩⟩
 case round =>
  clear H'
  try clear c1
  try clear p2
  obtain ⟨x3_1, x9_1, rfl, HA, HK1, HO_3, HB⟩ := hrel
  cases gk with
  | zero => exact absurd HA.out (by simp [label_Quoted.l0])
  | succ k1 =>
   have H := HA.out
   clear HA
   simp only [label_Quoted.l0] at H
   by_cases c4 : x9_1 < (a0.size : Int)
   ·rw [if_pos c4] at H
    have c4b0 : decide (x9_1 < (a0.size : Int)) = true := decide_eq_true c4
    clear c4
    by_cases c5 : 0 ≤ x9_1
    ·rw [if_pos c5] at H
     have c5b0 : decide (0 ≤ x9_1) = true := decide_eq_true c5
     clear c5
     by_cases c6 : x9_1 < (a0.size : Int)
     ·rw [if_pos c6] at H
      have c6b0 : decide (x9_1 < (a0.size : Int)) = true := decide_eq_true c6
      clear c6
      have HC8 := Aside0.mk H
      clear H
      have p7 : 0 ≤ (x9_1 : Int) := of_decide_eq_true (by first | (with_reducible assumption) | assumption)
      have q7 : x9_1 < (a0.size : Int) := of_decide_eq_true (by first | (with_reducible assumption) | assumption)
      have hx7 := bt_at a0 x9_1
      replace p7 := eq_true p7
      replace q7 := eq_true q7
      go_upto_region 7 with (fail)
      go_cut [19] (fun v19 wc => ∃ (kq : Nat) (x19_7 : Bool), v19 = .bool x19_7 ∧ Aside0 (label_Quoted.j1 kq a0 x3_1 (bt a0 x9_1) (a0.size : Int) x9_1 x19_7 = some r) ∧ Aside0 (kq ≤ k1) ∧ Aside0 (Kd.R (Kd.int .u8) 5 wc w.heap.size (fun _ => True) u3 x3_1) ∧ Aside0 (Below w.heap.size w wc))
      case first =>
       have H := HC8.out
       clear HC8
       by_cases c9 : (bt a0 x9_1) = 34
       ·rw [if_pos c9] at H
        have c9b0 : ((bt a0 x9_1) == 34) = true := beq_iff_eq.mpr c9
        have c9b1 : ((bt a0 x9_1) != 34) = false := bne_eq_false_iff_eq.mpr c9
        clear c9
        (first | rw [c9b0] | (simp only [i64_w, i32_w]; rw [c9b0]) | skip)
        have H' := Aside0.mk H
        clear H
        go_wp2
        go_meet
        case rel => exact ⟨_, (true), (by first | rfl | (simp; done) | (simp [*]; done)), H', ⟨by have := HK1.out; first | omega | exact Nat.le_refl _⟩, ⟨by (with_reducible repeat (first | apply Kd.R_alloc | apply Kd.R_drewN | apply Kd.R_drew)); exact HO_3.out⟩, ⟨by repeat (first | (with_reducible first | exact HB.out | apply below_alloc | apply pw_below_drewN | apply below_drew1) | exact HB.out)⟩⟩
       ·rw [if_neg c9] at H
        have c9b0 : ((bt a0 x9_1) == 34) = false := beq_eq_false_iff_ne.mpr c9
        have c9b1 : ((bt a0 x9_1) != 34) = true := bne_iff_ne.mpr c9
        (first | rw [c9b0] | (simp only [i64_w, i32_w]; rw [c9b0]) | skip)
        have H' := Aside0.mk H
        clear H
        go_wp2
        go_meet
        case rel => exact ⟨_, (((bt a0 x9_1) == 92)), (by first | rfl | (simp; done) | (simp [*]; done)), H', ⟨by have := HK1.out; first | omega | exact Nat.le_refl _⟩, ⟨by (with_reducible repeat (first | apply Kd.R_alloc | apply Kd.R_drewN | apply Kd.R_drew)); exact HO_3.out⟩, ⟨by repeat (first | (with_reducible first | exact HB.out | apply below_alloc | apply pw_below_drewN | apply below_drew1) | exact HB.out)⟩⟩
      case rest =>
       clear HC8
       try clear c1
       try clear p2
       try clear c4
       try clear c4b0
       try clear c5
       try clear c5b0
       try clear c6
       try clear c6b0
       try clear p7
       try clear q7
       try clear hx7
       try clear c9
       try clear c9b0
       try clear c9b1
       try clear p2
       try clear p7
       try clear q7
       obtain ⟨kq, x19_7, rfl, HA, HJ7, HO_3, HB⟩ := hcut
       cases kq with
       | zero => exact absurd HA.out (by simp [label_Quoted.j1])
       | succ kj7 =>
        have H := HA.out
        clear HA
        simp only [label_Quoted.j1] at H
        by_cases c10 : x19_7 = true
        ·subst c10
         have H1 : ((some (([92, (bt a0 x9_1)] : List Int) : List Int)).bind fun y285 => (if x3_1.length + y285.length < 140737488355328 then (label_Quoted.l0 kj7 a0 (x3_1 ++ y285) (a0.size : Int) (wrap64 (x9_1 + 1))) else (none))) = some r := by rw [if_pos rfl] at H; exact H
         clear H
         have H := H1
         clear H1
         obtain ⟨y285, hy285⟩ : ∃ y_ : List Int, y_ = (([92, (bt a0 x9_1)] : List Int)) := ⟨_, rfl⟩
         replace H : (if x3_1.length + y285.length < 140737488355328 then (label_Quoted.l0 kj7 a0 (x3_1 ++ y285) (a0.size : Int) (wrap64 (x9_1 + 1))) else (none)) = some r := by first | (rw [hy285]; with_reducible exact H) | (have H2_ := (Option.bind_some _ _).symm.trans H; rw [hy285]; with_reducible exact H2_) | (have H2_ := (Option.bind_some _ _).symm.trans H; with_reducible exact H2_) | with_reducible exact H | (rw [hy285]; exact H) | exact H
         have Ny285 := Aside0.mk hy285
         clear hy285
         by_cases c11 : x3_1.length + y285.length < 140737488355328
         ·rw [if_pos c11] at H
          have LMc11 := Aside0.mk c11
          clear c11
          obtain ⟨y288, hy288⟩ : ∃ y_ : List Int, y_ = (x3_1 ++ y285) := ⟨_, rfl⟩
          replace H : (label_Quoted.l0 kj7 a0 y288 (a0.size : Int) (wrap64 (x9_1 + 1))) = some r := by first | (rw [hy288]; with_reducible exact H) | (have H2_ := (Option.bind_some _ _).symm.trans H; rw [hy288]; with_reducible exact H2_) | (have H2_ := (Option.bind_some _ _).symm.trans H; with_reducible exact H2_) | with_reducible exact H | (rw [hy288]; exact H) | exact H
          have Ny288 := Aside0.mk hy288
          clear hy288
          have H' := Aside0.mk H
          clear H
          go_wp2_with (first | ((with_reducible refine gate_dst (N := 28) rfl ?_); refine Kd.R_lit (Kd.int .u8) _ 5 ?hg (N := 28) ?hd (xs := ([92, (bt a0 x9_1)] : List Int)) (inner := [.int .u8 92, .int .u8 (bt a0 x9_1)]) (ok := fun _ => True) (okp := fun _ => True) ?hr ?hp (fun _ hk => hk) trivial (Below.refl _ _) (Nat.le_refl _) (by simp) ?_; (case hd => rfl); (case hg => rfl); (case hr => first | (go_simp; done) | (go_simp; rfl)); (case hp => exact (Reps.one (show Kd.M (Kd.int .u8) _ _ _ 92 [.int .u8 92] from rfl) (Reps.one (show Kd.M (Kd.int .u8) _ _ _ (bt a0 x9_1) [.int .u8 (bt a0 x9_1)] from rfl) (Reps.none _ _)))); intro v286 w12 ho13 hb hg_ hnew_; clear hg_ hnew_; (first | rw [← Ny285.out] at ho13 | (simp only [Int.reduceToNat] at ho13; rw [← Ny285.out] at ho13)); have n0_ := Aside0.mk (Kd.R_elder' (by (with_reducible repeat (first | apply Kd.R_alloc | apply Kd.R_drewN | apply Kd.R_drew)); exact HO_3.out) (Kd.R_base ho13) hb); have n1_ := Aside0.mk (Kd.R_lower (Kd.R_new' ho13 (Kd.R_lt (by (with_reducible repeat (first | apply Kd.R_alloc | apply Kd.R_drewN | apply Kd.R_drew)); exact HO_3.out))) (below_size (by repeat (first | (with_reducible first | exact HB.out | apply below_alloc | apply pw_below_drewN | apply below_drew1) | exact HB.out)))); have n2_ := Aside0.mk (below_step (by repeat (first | (with_reducible first | exact HB.out | apply below_alloc | apply pw_below_drewN | apply below_drew1) | exact HB.out)) hb); clear HO_3; clear HB; have HO_3 := n0_; have HO287 := n1_; have HB := n2_; clear n0_ n1_ n2_; clear hb ho13; obtain ⟨Ao15, co15, eo15⟩ := Kd.R_slice HO287.out; subst eo15) | ((with_reducible refine gate_builtin (b := .append) (xs := #[.tmp 26, .tmp 28]) rfl ?_); at_builtin; refine Kd.R_append_rows (Kd.int .u8) (w0 := w) w.heap.size rfl (.tmp 26) (.tmp 28) 85 5 (.int .u8 0) 1 rfl Try.underlying85 info5 rfl (by decide) (by omega) u3 x3_1 y285 _ _ _ (fun k_ => some k_ ≠ (.slice Ao15 y285.length co15 : Value).ownBlock) (fun _ => False) rfl rfl ?aO ?aR (fun _ _ h => h) (fun _ h => h.elim) ?aF ?aB ?aS ?aL ?_; (case aR => repeat (first | exact (Kd.R_reads' HO287.out).2.2 | (with_reducible refine Kd.C_alloc ?_ _) | (with_reducible refine Kd.C_drewN ?_ _) | (with_reducible refine Kd.C_drew ?_))); (case aB => exact (by repeat (first | (with_reducible first | exact HB.out | apply below_alloc | apply pw_below_drewN | apply below_drew1) | exact HB.out))); (case aF => exact (fun k_ hk => Kd.fresh' (Kd.R_lt (by (with_reducible repeat (first | apply Kd.R_alloc | apply Kd.R_drewN | apply Kd.R_drew)); exact HO287.out)) k_ hk)); (case aO => exact (by (with_reducible repeat (first | apply Kd.R_alloc | apply Kd.R_drewN | apply Kd.R_drew)); exact Kd.R_mono HO_3.out (fun _ hk => hk.2))); (case aS => exact (below_size (by repeat (first | (with_reducible first | exact HB.out | apply below_alloc | apply pw_below_drewN | apply below_drew1) | exact HB.out)))); (case aL => have := LMc11.out; omega); intro v289 w14 ho hb hg hat; rw [← Ny288.out] at ho; have n0_ := Aside0.mk (Kd.R_after (ok := (fun _ => True)) (by (with_reducible repeat (first | apply Kd.R_alloc | apply Kd.R_drewN | apply Kd.R_drew)); exact HO287.out) hg hat); have n1_ := Aside0.mk (hb); have n2_ := Aside0.mk (ho); clear HO287; clear HB; clear HO_3; have HO287 := n0_; have HB := n1_; have HO290 := n2_; clear n0_ n1_ n2_; clear ho hb hg hat))
          go_roundg kj7
          case measure => have := HK1.out; have := HJ7.out; omega
          case rel => exact ⟨(y288), (wrap64 (x9_1 + 1)), (by first | rfl | (simp; done) | (simp [*]; done)), H', ⟨by have := HK1.out; have := HJ7.out; omega⟩, ⟨by (with_reducible repeat (first | apply Kd.R_alloc | apply Kd.R_drewN | apply Kd.R_drew)); exact Kd.R_mono HO290.out (fun _ hk => trivial)⟩, ⟨by repeat (first | (with_reducible first | exact HB.out | apply below_alloc | apply pw_below_drewN | apply below_drew1) | exact HB.out)⟩⟩
         ·rw [if_neg c11] at H
          exact absurd H (by simp)
        ·replace c10 := Bool.eq_false_iff.mpr c10
         subst c10
         have H1 : (if (bt a0 x9_1) < 32 then (if 0 ≤ ((bt a0 x9_1) / 16) then (if ((bt a0 x9_1) / 16) < 16 then (if 0 ≤ (Go.bits .and .u8 (bt a0 x9_1) 15) then (if (Go.bits .and .u8 (bt a0 x9_1) 15) < 16 then ((some (([92, 120, bt (⟨#[48, 49, 50, 51, 52, 53, 54, 55, 56, 57, 97, 98, 99, 100, 101, 102]⟩ : ByteArray) ((bt a0 x9_1) / 16), bt (⟨#[48, 49, 50, 51, 52, 53, 54, 55, 56, 57, 97, 98, 99, 100, 101, 102]⟩ : ByteArray) (Go.bits .and .u8 (bt a0 x9_1) 15)] : List Int) : List Int)).bind fun y291 => (if x3_1.length + y291.length < 140737488355328 then (label_Quoted.l0 kj7 a0 (x3_1 ++ y291) (a0.size : Int) (wrap64 (x9_1 + 1))) else (none))) else (none)) else (none)) else (none)) else (none)) else (if (bt a0 x9_1) ≥ 127 then (if 0 ≤ ((bt a0 x9_1) / 16) then (if ((bt a0 x9_1) / 16) < 16 then (if 0 ≤ (Go.bits .and .u8 (bt a0 x9_1) 15) then (if (Go.bits .and .u8 (bt a0 x9_1) 15) < 16 then ((some (([92, 120, bt (⟨#[48, 49, 50, 51, 52, 53, 54, 55, 56, 57, 97, 98, 99, 100, 101, 102]⟩ : ByteArray) ((bt a0 x9_1) / 16), bt (⟨#[48, 49, 50, 51, 52, 53, 54, 55, 56, 57, 97, 98, 99, 100, 101, 102]⟩ : ByteArray) (Go.bits .and .u8 (bt a0 x9_1) 15)] : List Int) : List Int)).bind fun y297 => (if x3_1.length + y297.length < 140737488355328 then (label_Quoted.l0 kj7 a0 (x3_1 ++ y297) (a0.size : Int) (wrap64 (x9_1 + 1))) else (none))) else (none)) else (none)) else (none)) else (none)) else (if x3_1.length < 140737488355328 then (label_Quoted.l0 kj7 a0 (x3_1 ++ [(bt a0 x9_1)]) (a0.size : Int) (wrap64 (x9_1 + 1))) else (none)))) = some r := by rw [if_neg (show ¬ (false = true) by decide)] at H; exact H
         clear H
         have H := H1
         clear H1
         by_cases c16 : (bt a0 x9_1) < 32
         ·rw [if_pos c16] at H
          have c16b0 : decide ((bt a0 x9_1) < 32) = true := decide_eq_true c16
          clear c16
          obtain ⟨ji17, hji17⟩ : ∃ j_ : Int, ((bt a0 x9_1) / 16) = j_ := ⟨_, rfl⟩
          replace H : (if 0 ≤ (ji17) then (if (ji17) < 16 then (if 0 ≤ (Go.bits .and .u8 (bt a0 x9_1) 15) then (if (Go.bits .and .u8 (bt a0 x9_1) 15) < 16 then ((some (([92, 120, bt (⟨#[48, 49, 50, 51, 52, 53, 54, 55, 56, 57, 97, 98, 99, 100, 101, 102]⟩ : ByteArray) (ji17), bt (⟨#[48, 49, 50, 51, 52, 53, 54, 55, 56, 57, 97, 98, 99, 100, 101, 102]⟩ : ByteArray) (Go.bits .and .u8 (bt a0 x9_1) 15)] : List Int) : List Int)).bind fun y291 => (if x3_1.length + y291.length < 140737488355328 then (label_Quoted.l0 kj7 a0 (x3_1 ++ y291) (a0.size : Int) (wrap64 (x9_1 + 1))) else (none))) else (none)) else (none)) else (none)) else (none)) = some r := by first | (rw [hji17] at H; exact H) | (simp only [hji17] at H ⊢; exact H)
          by_cases c18 : 0 ≤ (ji17)
          ·rw [if_pos c18] at H
           have c18b0 : decide (0 ≤ (ji17)) = true := decide_eq_true c18
           clear c18
           by_cases c19 : (ji17) < 16
           ·rw [if_pos c19] at H
            have c19b0 : decide ((ji17) < 16) = true := decide_eq_true c19
            clear c19
            by_cases c21 : 0 ≤ (Go.bits .and .u8 (bt a0 x9_1) 15)
            ·rw [if_pos c21] at H
             have c21b0 : decide (0 ≤ (Go.bits .and .u8 (bt a0 x9_1) 15)) = true := decide_eq_true c21
             clear c21
             by_cases c22 : (Go.bits .and .u8 (bt a0 x9_1) 15) < 16
             ·rw [if_pos c22] at H
              have c22b0 : decide ((Go.bits .and .u8 (bt a0 x9_1) 15) < 16) = true := decide_eq_true c22
              clear c22
              obtain ⟨y291, hy291⟩ : ∃ y_ : List Int, y_ = (([92, 120, bt (⟨#[48, 49, 50, 51, 52, 53, 54, 55, 56, 57, 97, 98, 99, 100, 101, 102]⟩ : ByteArray) (ji17), bt (⟨#[48, 49, 50, 51, 52, 53, 54, 55, 56, 57, 97, 98, 99, 100, 101, 102]⟩ : ByteArray) (Go.bits .and .u8 (bt a0 x9_1) 15)] : List Int)) := ⟨_, rfl⟩
              replace H : (if x3_1.length + y291.length < 140737488355328 then (label_Quoted.l0 kj7 a0 (x3_1 ++ y291) (a0.size : Int) (wrap64 (x9_1 + 1))) else (none)) = some r := by first | (rw [hy291]; with_reducible exact H) | (have H2_ := (Option.bind_some _ _).symm.trans H; rw [hy291]; with_reducible exact H2_) | (have H2_ := (Option.bind_some _ _).symm.trans H; with_reducible exact H2_) | with_reducible exact H | (rw [hy291]; exact H) | exact H
              have Ny291 := Aside0.mk hy291
              clear hy291
              by_cases c24 : x3_1.length + y291.length < 140737488355328
              ·rw [if_pos c24] at H
               have LMc24 := Aside0.mk c24
               clear c24
               obtain ⟨y294, hy294⟩ : ∃ y_ : List Int, y_ = (x3_1 ++ y291) := ⟨_, rfl⟩
               replace H : (label_Quoted.l0 kj7 a0 y294 (a0.size : Int) (wrap64 (x9_1 + 1))) = some r := by first | (rw [hy294]; with_reducible exact H) | (have H2_ := (Option.bind_some _ _).symm.trans H; rw [hy294]; with_reducible exact H2_) | (have H2_ := (Option.bind_some _ _).symm.trans H; with_reducible exact H2_) | with_reducible exact H | (rw [hy294]; exact H) | exact H
               have Ny294 := Aside0.mk hy294
               clear hy294
               have H' := Aside0.mk H
               clear H
               try go_wp2
               have n0_ := Aside0.mk (Kd.R_drew HO_3.out)
               have n1_ := Aside0.mk (below_drew1 HB.out)
               clear HO_3
               clear HB
               have HO_3 := n0_
               have HB := n1_
               clear n0_ n1_
               have p20 : 0 ≤ ((ji17) : Int) := of_decide_eq_true (by first | (with_reducible assumption) | assumption)
               have q20 : (ji17) < (16 : Int) := of_decide_eq_true (by first | (with_reducible assumption) | assumption)
               have hx20 := bt_at (⟨#[48, 49, 50, 51, 52, 53, 54, 55, 56, 57, 97, 98, 99, 100, 101, 102]⟩ : ByteArray) (ji17)
               replace p20 := eq_true p20
               replace q20 := eq_true q20
               have p23 : 0 ≤ ((Go.bits .and .u8 (bt a0 x9_1) 15) : Int) := of_decide_eq_true (by first | (with_reducible assumption) | assumption)
               have q23 : (Go.bits .and .u8 (bt a0 x9_1) 15) < (16 : Int) := of_decide_eq_true (by first | (with_reducible assumption) | assumption)
               have hx23 := bt_at (⟨#[48, 49, 50, 51, 52, 53, 54, 55, 56, 57, 97, 98, 99, 100, 101, 102]⟩ : ByteArray) (Go.bits .and .u8 (bt a0 x9_1) 15)
               replace p23 := eq_true p23
               replace q23 := eq_true q23
               refine start_ (n := 10) (S := fun w' => True) (ds := []) #[false, false, false, false, false, false, false, false, false, false] (by kernel_rfl) rfl rfl trivial (fun hHeld => ?_); refine with_tabW label_Quoted.tab10 label_Quoted.bits10 (fun HT_ HW_ => ?_)
               generalize wc.drew = w25 at HO_3 HB hHeld ⊢
               refine pure_ (i := 0) (N := some 37) (v := ?_) (a' := ?_) #[true, false, false, false, false, false, false, false, false, false] rfl rfl (any_of HT_.out (by kernel_rfl)) (fun _ _ _ h => h) (Or.inl ⟨by rfl, ?_⟩) ?_ ?_
               rotate_left
               ·intro w'
                go_simp
                with_reducible rfl
               rotate_left
               ·simp only [Act.put, List.setIfInBounds_toArray, List.set_cons_zero, List.set_cons_succ, i64_w, i32_w]
                rfl
               refine pure_ (i := 1) (N := some 38) (v := ?_) (a' := ?_) #[true, true, false, false, false, false, false, false, false, false] rfl rfl (any_of HT_.out (by kernel_rfl)) (fun _ _ _ h => h) (Or.inl ⟨by rfl, ?_⟩) ?_ ?_
               rotate_left
               ·intro w'
                go_simp
                with_reducible rfl
               rotate_left
               ·simp only [Act.put, List.setIfInBounds_toArray, List.set_cons_zero, List.set_cons_succ, i64_w, i32_w]
                rfl
               refine pure_ (i := 2) (N := some 39) (v := ?_) (a' := ?_) #[true, true, true, false, false, false, false, false, false, false] rfl rfl (any_of HT_.out (by kernel_rfl)) (fun _ _ _ h => h) (Or.inl ⟨by rfl, ?_⟩) ?_ ?_
               rotate_left
               ·intro w'
                go_simp
                with_reducible rfl
               rotate_left
               ·simp only [Act.put, List.setIfInBounds_toArray, List.set_cons_zero, List.set_cons_succ, i64_w, i32_w]
                rfl
               refine pure_ (i := 4) (N := some 41) (v := ?_) (a' := ?_) #[true, true, true, false, true, false, false, false, false, false] rfl rfl (any_of HT_.out (by kernel_rfl)) (fun _ _ _ h => h) (Or.inl ⟨by rfl, ?_⟩) ?_ ?_
               rotate_left
               ·intro w'
                go_simp
                with_reducible rfl
               rotate_left
               ·simp only [Act.put, List.setIfInBounds_toArray, List.set_cons_zero, List.set_cons_succ, i64_w, i32_w]
                rfl
               refine pure_ (i := 5) (N := some 42) (v := ?_) (a' := ?_) #[true, true, true, false, true, true, false, false, false, false] rfl rfl (any_of HT_.out (by kernel_rfl)) (fun _ _ _ h => h) (Or.inl ⟨by rfl, ?_⟩) ?_ ?_
               rotate_left
               ·intro w'
                go_simp
                with_reducible rfl
               rotate_left
               ·simp only [Act.put, List.setIfInBounds_toArray, List.set_cons_zero, List.set_cons_succ, i64_w, i32_w]
                rfl
               refine take_ (i := 3) (N := some 40) (v := ?_) (a' := ?_) #[true, true, true, true, true, true, false, false, false, false] rfl rfl (take_ofW HT_.out HW_.out (by kernel_rfl)) (fun _ _ _ h => h) (Or.inl ⟨by rfl, ?_⟩) hHeld ?_ ?_
               rotate_left
               ·intro w' _
                go_simp
                with_reducible rfl
               rotate_left
               ·simp only [Act.put, List.setIfInBounds_toArray, List.set_cons_zero, List.set_cons_succ, i64_w, i32_w]
                rfl
               refine take_ (i := 6) (N := some 43) (v := ?_) (a' := ?_) #[true, true, true, true, true, true, true, false, false, false] rfl rfl (take_ofW HT_.out HW_.out (by kernel_rfl)) (fun _ _ _ h => h) (Or.inl ⟨by rfl, ?_⟩) hHeld ?_ ?_
               rotate_left
               ·intro w' _
                go_simp
                with_reducible rfl
               rotate_left
               ·simp only [Act.put, List.setIfInBounds_toArray, List.set_cons_zero, List.set_cons_succ, i64_w, i32_w]
                rfl
               refine one_ (i := 7) (N := some 44) #[true, true, true, true, true, true, true, true, false, false] rfl rfl (one_of HT_.out (by kernel_rfl)) (by decide) (fun K hK => ?_)
               refine Kd.R_lit_step (Kd.int .u8) _ 5 ?hg (N := 44) ?hd (xs := ([92, 120, bt (⟨#[48, 49, 50, 51, 52, 53, 54, 55, 56, 57, 97, 98, 99, 100, 101, 102]⟩ : ByteArray) (ji17), bt (⟨#[48, 49, 50, 51, 52, 53, 54, 55, 56, 57, 97, 98, 99, 100, 101, 102]⟩ : ByteArray) (Go.bits .and .u8 (bt a0 x9_1) 15)] : List Int)) (inner := [.int .u8 92, .int .u8 120, .int .u8 (bt (⟨#[48, 49, 50, 51, 52, 53, 54, 55, 56, 57, 97, 98, 99, 100, 101, 102]⟩ : ByteArray) (ji17)), .int .u8 (bt (⟨#[48, 49, 50, 51, 52, 53, 54, 55, 56, 57, 97, 98, 99, 100, 101, 102]⟩ : ByteArray) (Go.bits .and .u8 (bt a0 x9_1) 15))]) (ok := fun _ => True) (okp := fun _ => True) ?hr ?hp (fun _ hk => hk) trivial (Below.refl _ _) (Nat.le_refl _) (by simp) ?_; (case hd => rfl); (case hg => rfl); (case hr => first | (go_simp; done) | (go_simp; rfl)); (case hp => exact (Reps.one (show Kd.M (Kd.int .u8) _ _ _ 92 [.int .u8 92] from rfl) (Reps.one (show Kd.M (Kd.int .u8) _ _ _ 120 [.int .u8 120] from rfl) (Reps.one (show Kd.M (Kd.int .u8) _ _ _ (bt (⟨#[48, 49, 50, 51, 52, 53, 54, 55, 56, 57, 97, 98, 99, 100, 101, 102]⟩ : ByteArray) (ji17)) [.int .u8 (bt (⟨#[48, 49, 50, 51, 52, 53, 54, 55, 56, 57, 97, 98, 99, 100, 101, 102]⟩ : ByteArray) (ji17))] from rfl) (Reps.one (show Kd.M (Kd.int .u8) _ _ _ (bt (⟨#[48, 49, 50, 51, 52, 53, 54, 55, 56, 57, 97, 98, 99, 100, 101, 102]⟩ : ByteArray) (Go.bits .and .u8 (bt a0 x9_1) 15)) [.int .u8 (bt (⟨#[48, 49, 50, 51, 52, 53, 54, 55, 56, 57, 97, 98, 99, 100, 101, 102]⟩ : ByteArray) (Go.bits .and .u8 (bt a0 x9_1) 15))] from rfl) (Reps.none _ _))))))
               intro v292 w26 ho27 hb hg_ hnew_
               clear hg_ hnew_
               (first | rw [← Ny291.out] at ho27 | (simp only [Int.reduceToNat] at ho27; rw [← Ny291.out] at ho27))
               have n0_ := Aside0.mk (Kd.R_elder' (by (with_reducible repeat (first | apply Kd.R_alloc | apply Kd.R_drewN | apply Kd.R_drew)); exact HO_3.out) (Kd.R_base ho27) hb)
               have n1_ := Aside0.mk (Kd.R_lower (Kd.R_new' ho27 (Kd.R_lt (by (with_reducible repeat (first | apply Kd.R_alloc | apply Kd.R_drewN | apply Kd.R_drew)); exact HO_3.out))) (below_size (by repeat (first | (with_reducible first | exact HB.out | apply below_alloc | apply pw_below_drewN | apply below_drew1) | exact HB.out))))
               have n2_ := Aside0.mk (below_step (by repeat (first | (with_reducible first | exact HB.out | apply below_alloc | apply pw_below_drewN | apply below_drew1) | exact HB.out)) hb)
               clear HO_3
               clear HB
               have HO_3 := n0_
               have HO293 := n1_
               have HB := n2_
               clear n0_ n1_ n2_
               clear hb ho27
               obtain ⟨Ao29, co29, eo29⟩ := Kd.R_slice HO293.out
               (first | subst eo29 | (injection eo29 with f1_ f2_ f3_; have f4_ := f1_.symm; have f5_ := f3_.symm; clear f1_ f2_ f3_; subst f4_; subst f5_))
               refine hK.out _ _ trivial (fun hHeld => ?_)
               clear hK K
               refine norm_ (a' := ?_) ?_ ?_
               rotate_left
               ·show Act.put _ (some 44) _ = _
                simp only [Act.put, List.setIfInBounds_toArray, List.set_cons_zero, List.set_cons_succ, i64_w, i32_w]
                rfl
               refine one_ (i := 8) (N := some 45) #[true, true, true, true, true, true, true, true, true, false] rfl rfl (one_of HT_.out (by kernel_rfl)) (by decide) (fun K hK => ?_)
               refine Kd.R_append_rows_step (Kd.int .u8) (w0 := w) w.heap.size (by rfl) (.tmp 37) (.tmp 44) 85 5 (.int .u8 0) 1 rfl Try.underlying85 info5 rfl (by decide) (by omega) u3 x3_1 y291 _ _ _ (fun k_ => some k_ ≠ (.slice Ao29 y291.length co29 : Value).ownBlock) (fun _ => False) rfl rfl ?aO ?aR (fun _ _ h => h) (fun _ h => h.elim) ?aF ?aB ?aS ?aL ?_
               (case aR => repeat (first | exact (Kd.R_reads' HO293.out).2.2 | (with_reducible refine Kd.C_alloc ?_ _) | (with_reducible refine Kd.C_drewN ?_ _) | (with_reducible refine Kd.C_drew ?_)))
               (case aB => exact (by repeat (first | (with_reducible first | exact HB.out | apply below_alloc | apply pw_below_drewN | apply below_drew1) | exact HB.out)))
               (case aF => exact (fun k_ hk => Kd.fresh' (Kd.R_lt (by (with_reducible repeat (first | apply Kd.R_alloc | apply Kd.R_drewN | apply Kd.R_drew)); exact HO293.out)) k_ hk))
               (case aO => exact (by (with_reducible repeat (first | apply Kd.R_alloc | apply Kd.R_drewN | apply Kd.R_drew)); exact Kd.R_mono HO_3.out (fun _ hk => hk.2)))
               (case aS => exact (below_size (by repeat (first | (with_reducible first | exact HB.out | apply below_alloc | apply pw_below_drewN | apply below_drew1) | exact HB.out))))
               (case aL => have := LMc24.out; omega)
               intro v295 w28 ho hb hg hat
               rw [← Ny294.out] at ho
               have n0_ := Aside0.mk (Kd.R_after (ok := (fun _ => True)) (by (with_reducible repeat (first | apply Kd.R_alloc | apply Kd.R_drewN | apply Kd.R_drew)); exact HO293.out) hg hat)
               have n1_ := Aside0.mk (hb)
               have n2_ := Aside0.mk (ho)
               clear HO293
               clear HB
               clear HO_3
               have HO293 := n0_
               have HB := n1_
               have HO296 := n2_
               clear n0_ n1_ n2_
               clear ho hb hg hat
               refine hK.out _ _ trivial (fun hHeld => ?_)
               clear hK K
               refine norm_ (a' := ?_) ?_ ?_
               rotate_left
               ·show Act.put _ (some 45) _ = _
                simp only [Act.put, List.setIfInBounds_toArray, List.set_cons_zero, List.set_cons_succ, i64_w, i32_w]
                rfl
               refine pure_ (i := 9) (N := some 3) (v := ?_) (a' := ?_) #[true, true, true, true, true, true, true, true, true, true] rfl rfl (any_of HT_.out (by kernel_rfl)) (fun _ _ _ h => h) (Or.inl ⟨by rfl, ?_⟩) ?_ ?_
               rotate_left
               ·intro w'
                go_simp
                with_reducible rfl
               rotate_left
               ·simp only [Act.put, List.setIfInBounds_toArray, List.set_cons_zero, List.set_cons_succ, i64_w, i32_w]
                rfl
               refine done_ (done_of HT_.out (by kernel_rfl)) ?_
               try go_wp2
               go_roundg kj7
               case measure => have := HK1.out; have := HJ7.out; omega
               case rel => exact ⟨(y294), (wrap64 (x9_1 + 1)), (by first | rfl | (simp; done) | (simp [*]; done)), H', ⟨by have := HK1.out; have := HJ7.out; omega⟩, ⟨by (with_reducible repeat (first | apply Kd.R_alloc | apply Kd.R_drewN | apply Kd.R_drew)); exact Kd.R_mono HO296.out (fun _ hk => trivial)⟩, ⟨by repeat (first | (with_reducible first | exact HB.out | apply below_alloc | apply pw_below_drewN | apply below_drew1) | exact HB.out)⟩⟩
              ·rw [if_neg c24] at H
               exact absurd H (by simp)
             ·rw [if_neg c22] at H
              exact absurd H (by simp)
            ·rw [if_neg c21] at H
             exact absurd H (by simp)
           ·rw [if_neg c19] at H
            exact absurd H (by simp)
          ·rw [if_neg c18] at H
           exact absurd H (by simp)
         ·rw [if_neg c16] at H
          have c16b0 : decide ((bt a0 x9_1) < 32) = false := decide_eq_false c16
          clear c16
          by_cases c30 : (bt a0 x9_1) ≥ 127
          ·rw [if_pos c30] at H
           have c30b0 : decide (127 ≤ (bt a0 x9_1)) = true := decide_eq_true c30
           clear c30
           obtain ⟨ji31, hji31⟩ : ∃ j_ : Int, ((bt a0 x9_1) / 16) = j_ := ⟨_, rfl⟩
           replace H : (if 0 ≤ (ji31) then (if (ji31) < 16 then (if 0 ≤ (Go.bits .and .u8 (bt a0 x9_1) 15) then (if (Go.bits .and .u8 (bt a0 x9_1) 15) < 16 then ((some (([92, 120, bt (⟨#[48, 49, 50, 51, 52, 53, 54, 55, 56, 57, 97, 98, 99, 100, 101, 102]⟩ : ByteArray) (ji31), bt (⟨#[48, 49, 50, 51, 52, 53, 54, 55, 56, 57, 97, 98, 99, 100, 101, 102]⟩ : ByteArray) (Go.bits .and .u8 (bt a0 x9_1) 15)] : List Int) : List Int)).bind fun y297 => (if x3_1.length + y297.length < 140737488355328 then (label_Quoted.l0 kj7 a0 (x3_1 ++ y297) (a0.size : Int) (wrap64 (x9_1 + 1))) else (none))) else (none)) else (none)) else (none)) else (none)) = some r := by first | (rw [hji31] at H; exact H) | (simp only [hji31] at H ⊢; exact H)
           by_cases c32 : 0 ≤ (ji31)
           ·rw [if_pos c32] at H
            have c32b0 : decide (0 ≤ (ji31)) = true := decide_eq_true c32
            clear c32
            by_cases c33 : (ji31) < 16
            ·rw [if_pos c33] at H
             have c33b0 : decide ((ji31) < 16) = true := decide_eq_true c33
             clear c33
             by_cases c35 : 0 ≤ (Go.bits .and .u8 (bt a0 x9_1) 15)
             ·rw [if_pos c35] at H
              have c35b0 : decide (0 ≤ (Go.bits .and .u8 (bt a0 x9_1) 15)) = true := decide_eq_true c35
              clear c35
              by_cases c36 : (Go.bits .and .u8 (bt a0 x9_1) 15) < 16
              ·rw [if_pos c36] at H
               have c36b0 : decide ((Go.bits .and .u8 (bt a0 x9_1) 15) < 16) = true := decide_eq_true c36
               clear c36
               obtain ⟨y297, hy297⟩ : ∃ y_ : List Int, y_ = (([92, 120, bt (⟨#[48, 49, 50, 51, 52, 53, 54, 55, 56, 57, 97, 98, 99, 100, 101, 102]⟩ : ByteArray) (ji31), bt (⟨#[48, 49, 50, 51, 52, 53, 54, 55, 56, 57, 97, 98, 99, 100, 101, 102]⟩ : ByteArray) (Go.bits .and .u8 (bt a0 x9_1) 15)] : List Int)) := ⟨_, rfl⟩
               replace H : (if x3_1.length + y297.length < 140737488355328 then (label_Quoted.l0 kj7 a0 (x3_1 ++ y297) (a0.size : Int) (wrap64 (x9_1 + 1))) else (none)) = some r := by first | (rw [hy297]; with_reducible exact H) | (have H2_ := (Option.bind_some _ _).symm.trans H; rw [hy297]; with_reducible exact H2_) | (have H2_ := (Option.bind_some _ _).symm.trans H; with_reducible exact H2_) | with_reducible exact H | (rw [hy297]; exact H) | exact H
               have Ny297 := Aside0.mk hy297
               clear hy297
               by_cases c38 : x3_1.length + y297.length < 140737488355328
               ·rw [if_pos c38] at H
                have LMc38 := Aside0.mk c38
                clear c38
                obtain ⟨y300, hy300⟩ : ∃ y_ : List Int, y_ = (x3_1 ++ y297) := ⟨_, rfl⟩
                replace H : (label_Quoted.l0 kj7 a0 y300 (a0.size : Int) (wrap64 (x9_1 + 1))) = some r := by first | (rw [hy300]; with_reducible exact H) | (have H2_ := (Option.bind_some _ _).symm.trans H; rw [hy300]; with_reducible exact H2_) | (have H2_ := (Option.bind_some _ _).symm.trans H; with_reducible exact H2_) | with_reducible exact H | (rw [hy300]; exact H) | exact H
                have Ny300 := Aside0.mk hy300
                clear hy300
                have H' := Aside0.mk H
                clear H
                try go_wp2
                have n0_ := Aside0.mk (Kd.R_drew HO_3.out)
                have n1_ := Aside0.mk (below_drew1 HB.out)
                clear HO_3
                clear HB
                have HO_3 := n0_
                have HB := n1_
                clear n0_ n1_
                have p34 : 0 ≤ ((ji31) : Int) := of_decide_eq_true (by first | (with_reducible assumption) | assumption)
                have q34 : (ji31) < (16 : Int) := of_decide_eq_true (by first | (with_reducible assumption) | assumption)
                have hx34 := bt_at (⟨#[48, 49, 50, 51, 52, 53, 54, 55, 56, 57, 97, 98, 99, 100, 101, 102]⟩ : ByteArray) (ji31)
                replace p34 := eq_true p34
                replace q34 := eq_true q34
                have p37 : 0 ≤ ((Go.bits .and .u8 (bt a0 x9_1) 15) : Int) := of_decide_eq_true (by first | (with_reducible assumption) | assumption)
                have q37 : (Go.bits .and .u8 (bt a0 x9_1) 15) < (16 : Int) := of_decide_eq_true (by first | (with_reducible assumption) | assumption)
                have hx37 := bt_at (⟨#[48, 49, 50, 51, 52, 53, 54, 55, 56, 57, 97, 98, 99, 100, 101, 102]⟩ : ByteArray) (Go.bits .and .u8 (bt a0 x9_1) 15)
                replace p37 := eq_true p37
                replace q37 := eq_true q37
                refine start_ (n := 10) (S := fun w' => True) (ds := []) #[false, false, false, false, false, false, false, false, false, false] (by kernel_rfl) rfl rfl trivial (fun hHeld => ?_); refine with_tabW label_Quoted.tab10 label_Quoted.bits10 (fun HT_ HW_ => ?_)
                generalize wc.drew = w39 at HO_3 HB hHeld ⊢
                refine pure_ (i := 0) (N := some 37) (v := ?_) (a' := ?_) #[true, false, false, false, false, false, false, false, false, false] rfl rfl (any_of HT_.out (by kernel_rfl)) (fun _ _ _ h => h) (Or.inl ⟨by rfl, ?_⟩) ?_ ?_
                rotate_left
                ·intro w'
                 go_simp
                 with_reducible rfl
                rotate_left
                ·simp only [Act.put, List.setIfInBounds_toArray, List.set_cons_zero, List.set_cons_succ, i64_w, i32_w]
                 rfl
                refine pure_ (i := 1) (N := some 38) (v := ?_) (a' := ?_) #[true, true, false, false, false, false, false, false, false, false] rfl rfl (any_of HT_.out (by kernel_rfl)) (fun _ _ _ h => h) (Or.inl ⟨by rfl, ?_⟩) ?_ ?_
                rotate_left
                ·intro w'
                 go_simp
                 with_reducible rfl
                rotate_left
                ·simp only [Act.put, List.setIfInBounds_toArray, List.set_cons_zero, List.set_cons_succ, i64_w, i32_w]
                 rfl
                refine pure_ (i := 2) (N := some 39) (v := ?_) (a' := ?_) #[true, true, true, false, false, false, false, false, false, false] rfl rfl (any_of HT_.out (by kernel_rfl)) (fun _ _ _ h => h) (Or.inl ⟨by rfl, ?_⟩) ?_ ?_
                rotate_left
                ·intro w'
                 go_simp
                 with_reducible rfl
                rotate_left
                ·simp only [Act.put, List.setIfInBounds_toArray, List.set_cons_zero, List.set_cons_succ, i64_w, i32_w]
                 rfl
                refine pure_ (i := 4) (N := some 41) (v := ?_) (a' := ?_) #[true, true, true, false, true, false, false, false, false, false] rfl rfl (any_of HT_.out (by kernel_rfl)) (fun _ _ _ h => h) (Or.inl ⟨by rfl, ?_⟩) ?_ ?_
                rotate_left
                ·intro w'
                 go_simp
                 with_reducible rfl
                rotate_left
                ·simp only [Act.put, List.setIfInBounds_toArray, List.set_cons_zero, List.set_cons_succ, i64_w, i32_w]
                 rfl
                refine pure_ (i := 5) (N := some 42) (v := ?_) (a' := ?_) #[true, true, true, false, true, true, false, false, false, false] rfl rfl (any_of HT_.out (by kernel_rfl)) (fun _ _ _ h => h) (Or.inl ⟨by rfl, ?_⟩) ?_ ?_
                rotate_left
                ·intro w'
                 go_simp
                 with_reducible rfl
                rotate_left
                ·simp only [Act.put, List.setIfInBounds_toArray, List.set_cons_zero, List.set_cons_succ, i64_w, i32_w]
                 rfl
                refine take_ (i := 3) (N := some 40) (v := ?_) (a' := ?_) #[true, true, true, true, true, true, false, false, false, false] rfl rfl (take_ofW HT_.out HW_.out (by kernel_rfl)) (fun _ _ _ h => h) (Or.inl ⟨by rfl, ?_⟩) hHeld ?_ ?_
                rotate_left
                ·intro w' _
                 go_simp
                 with_reducible rfl
                rotate_left
                ·simp only [Act.put, List.setIfInBounds_toArray, List.set_cons_zero, List.set_cons_succ, i64_w, i32_w]
                 rfl
                refine take_ (i := 6) (N := some 43) (v := ?_) (a' := ?_) #[true, true, true, true, true, true, true, false, false, false] rfl rfl (take_ofW HT_.out HW_.out (by kernel_rfl)) (fun _ _ _ h => h) (Or.inl ⟨by rfl, ?_⟩) hHeld ?_ ?_
                rotate_left
                ·intro w' _
                 go_simp
                 with_reducible rfl
                rotate_left
                ·simp only [Act.put, List.setIfInBounds_toArray, List.set_cons_zero, List.set_cons_succ, i64_w, i32_w]
                 rfl
                refine one_ (i := 7) (N := some 44) #[true, true, true, true, true, true, true, true, false, false] rfl rfl (one_of HT_.out (by kernel_rfl)) (by decide) (fun K hK => ?_)
                refine Kd.R_lit_step (Kd.int .u8) _ 5 ?hg (N := 44) ?hd (xs := ([92, 120, bt (⟨#[48, 49, 50, 51, 52, 53, 54, 55, 56, 57, 97, 98, 99, 100, 101, 102]⟩ : ByteArray) (ji31), bt (⟨#[48, 49, 50, 51, 52, 53, 54, 55, 56, 57, 97, 98, 99, 100, 101, 102]⟩ : ByteArray) (Go.bits .and .u8 (bt a0 x9_1) 15)] : List Int)) (inner := [.int .u8 92, .int .u8 120, .int .u8 (bt (⟨#[48, 49, 50, 51, 52, 53, 54, 55, 56, 57, 97, 98, 99, 100, 101, 102]⟩ : ByteArray) (ji31)), .int .u8 (bt (⟨#[48, 49, 50, 51, 52, 53, 54, 55, 56, 57, 97, 98, 99, 100, 101, 102]⟩ : ByteArray) (Go.bits .and .u8 (bt a0 x9_1) 15))]) (ok := fun _ => True) (okp := fun _ => True) ?hr ?hp (fun _ hk => hk) trivial (Below.refl _ _) (Nat.le_refl _) (by simp) ?_; (case hd => rfl); (case hg => rfl); (case hr => first | (go_simp; done) | (go_simp; rfl)); (case hp => exact (Reps.one (show Kd.M (Kd.int .u8) _ _ _ 92 [.int .u8 92] from rfl) (Reps.one (show Kd.M (Kd.int .u8) _ _ _ 120 [.int .u8 120] from rfl) (Reps.one (show Kd.M (Kd.int .u8) _ _ _ (bt (⟨#[48, 49, 50, 51, 52, 53, 54, 55, 56, 57, 97, 98, 99, 100, 101, 102]⟩ : ByteArray) (ji31)) [.int .u8 (bt (⟨#[48, 49, 50, 51, 52, 53, 54, 55, 56, 57, 97, 98, 99, 100, 101, 102]⟩ : ByteArray) (ji31))] from rfl) (Reps.one (show Kd.M (Kd.int .u8) _ _ _ (bt (⟨#[48, 49, 50, 51, 52, 53, 54, 55, 56, 57, 97, 98, 99, 100, 101, 102]⟩ : ByteArray) (Go.bits .and .u8 (bt a0 x9_1) 15)) [.int .u8 (bt (⟨#[48, 49, 50, 51, 52, 53, 54, 55, 56, 57, 97, 98, 99, 100, 101, 102]⟩ : ByteArray) (Go.bits .and .u8 (bt a0 x9_1) 15))] from rfl) (Reps.none _ _))))))
                intro v298 w40 ho41 hb hg_ hnew_
                clear hg_ hnew_
                (first | rw [← Ny297.out] at ho41 | (simp only [Int.reduceToNat] at ho41; rw [← Ny297.out] at ho41))
                have n0_ := Aside0.mk (Kd.R_elder' (by (with_reducible repeat (first | apply Kd.R_alloc | apply Kd.R_drewN | apply Kd.R_drew)); exact HO_3.out) (Kd.R_base ho41) hb)
                have n1_ := Aside0.mk (Kd.R_lower (Kd.R_new' ho41 (Kd.R_lt (by (with_reducible repeat (first | apply Kd.R_alloc | apply Kd.R_drewN | apply Kd.R_drew)); exact HO_3.out))) (below_size (by repeat (first | (with_reducible first | exact HB.out | apply below_alloc | apply pw_below_drewN | apply below_drew1) | exact HB.out))))
                have n2_ := Aside0.mk (below_step (by repeat (first | (with_reducible first | exact HB.out | apply below_alloc | apply pw_below_drewN | apply below_drew1) | exact HB.out)) hb)
                clear HO_3
                clear HB
                have HO_3 := n0_
                have HO299 := n1_
                have HB := n2_
                clear n0_ n1_ n2_
                clear hb ho41
                obtain ⟨Ao43, co43, eo43⟩ := Kd.R_slice HO299.out
                (first | subst eo43 | (injection eo43 with f1_ f2_ f3_; have f4_ := f1_.symm; have f5_ := f3_.symm; clear f1_ f2_ f3_; subst f4_; subst f5_))
                refine hK.out _ _ trivial (fun hHeld => ?_)
                clear hK K
                refine norm_ (a' := ?_) ?_ ?_
                rotate_left
                ·show Act.put _ (some 44) _ = _
                 simp only [Act.put, List.setIfInBounds_toArray, List.set_cons_zero, List.set_cons_succ, i64_w, i32_w]
                 rfl
                refine one_ (i := 8) (N := some 45) #[true, true, true, true, true, true, true, true, true, false] rfl rfl (one_of HT_.out (by kernel_rfl)) (by decide) (fun K hK => ?_)
                refine Kd.R_append_rows_step (Kd.int .u8) (w0 := w) w.heap.size (by rfl) (.tmp 37) (.tmp 44) 85 5 (.int .u8 0) 1 rfl Try.underlying85 info5 rfl (by decide) (by omega) u3 x3_1 y297 _ _ _ (fun k_ => some k_ ≠ (.slice Ao43 y297.length co43 : Value).ownBlock) (fun _ => False) rfl rfl ?aO ?aR (fun _ _ h => h) (fun _ h => h.elim) ?aF ?aB ?aS ?aL ?_
                (case aR => repeat (first | exact (Kd.R_reads' HO299.out).2.2 | (with_reducible refine Kd.C_alloc ?_ _) | (with_reducible refine Kd.C_drewN ?_ _) | (with_reducible refine Kd.C_drew ?_)))
                (case aB => exact (by repeat (first | (with_reducible first | exact HB.out | apply below_alloc | apply pw_below_drewN | apply below_drew1) | exact HB.out)))
                (case aF => exact (fun k_ hk => Kd.fresh' (Kd.R_lt (by (with_reducible repeat (first | apply Kd.R_alloc | apply Kd.R_drewN | apply Kd.R_drew)); exact HO299.out)) k_ hk))
                (case aO => exact (by (with_reducible repeat (first | apply Kd.R_alloc | apply Kd.R_drewN | apply Kd.R_drew)); exact Kd.R_mono HO_3.out (fun _ hk => hk.2)))
                (case aS => exact (below_size (by repeat (first | (with_reducible first | exact HB.out | apply below_alloc | apply pw_below_drewN | apply below_drew1) | exact HB.out))))
                (case aL => have := LMc38.out; omega)
                intro v301 w42 ho hb hg hat
                rw [← Ny300.out] at ho
                have n0_ := Aside0.mk (Kd.R_after (ok := (fun _ => True)) (by (with_reducible repeat (first | apply Kd.R_alloc | apply Kd.R_drewN | apply Kd.R_drew)); exact HO299.out) hg hat)
                have n1_ := Aside0.mk (hb)
                have n2_ := Aside0.mk (ho)
                clear HO299
                clear HB
                clear HO_3
                have HO299 := n0_
                have HB := n1_
                have HO302 := n2_
                clear n0_ n1_ n2_
                clear ho hb hg hat
                refine hK.out _ _ trivial (fun hHeld => ?_)
                clear hK K
                refine norm_ (a' := ?_) ?_ ?_
                rotate_left
                ·show Act.put _ (some 45) _ = _
                 simp only [Act.put, List.setIfInBounds_toArray, List.set_cons_zero, List.set_cons_succ, i64_w, i32_w]
                 rfl
                refine pure_ (i := 9) (N := some 3) (v := ?_) (a' := ?_) #[true, true, true, true, true, true, true, true, true, true] rfl rfl (any_of HT_.out (by kernel_rfl)) (fun _ _ _ h => h) (Or.inl ⟨by rfl, ?_⟩) ?_ ?_
                rotate_left
                ·intro w'
                 go_simp
                 with_reducible rfl
                rotate_left
                ·simp only [Act.put, List.setIfInBounds_toArray, List.set_cons_zero, List.set_cons_succ, i64_w, i32_w]
                 rfl
                refine done_ (done_of HT_.out (by kernel_rfl)) ?_
                try go_wp2
                go_roundg kj7
                case measure => have := HK1.out; have := HJ7.out; omega
                case rel => exact ⟨(y300), (wrap64 (x9_1 + 1)), (by first | rfl | (simp; done) | (simp [*]; done)), H', ⟨by have := HK1.out; have := HJ7.out; omega⟩, ⟨by (with_reducible repeat (first | apply Kd.R_alloc | apply Kd.R_drewN | apply Kd.R_drew)); exact Kd.R_mono HO302.out (fun _ hk => trivial)⟩, ⟨by repeat (first | (with_reducible first | exact HB.out | apply below_alloc | apply pw_below_drewN | apply below_drew1) | exact HB.out)⟩⟩
               ·rw [if_neg c38] at H
                exact absurd H (by simp)
              ·rw [if_neg c36] at H
               exact absurd H (by simp)
             ·rw [if_neg c35] at H
              exact absurd H (by simp)
            ·rw [if_neg c33] at H
             exact absurd H (by simp)
           ·rw [if_neg c32] at H
            exact absurd H (by simp)
          ·rw [if_neg c30] at H
           have c30b0 : decide (127 ≤ (bt a0 x9_1)) = false := decide_eq_false c30
           clear c30
           by_cases c44 : x3_1.length < 140737488355328
           ·rw [if_pos c44] at H
            have LMc44 := Aside0.mk c44
            clear c44
            obtain ⟨y303, hy303⟩ : ∃ y_ : List Int, y_ = (x3_1 ++ [(bt a0 x9_1)]) := ⟨_, rfl⟩
            replace H : (label_Quoted.l0 kj7 a0 y303 (a0.size : Int) (wrap64 (x9_1 + 1))) = some r := by first | (rw [hy303]; with_reducible exact H) | (have H2_ := (Option.bind_some _ _).symm.trans H; rw [hy303]; with_reducible exact H2_) | (have H2_ := (Option.bind_some _ _).symm.trans H; with_reducible exact H2_) | with_reducible exact H | (rw [hy303]; exact H) | exact H
            have Ny303 := Aside0.mk hy303
            clear hy303
            have H' := Aside0.mk H
            clear H
            go_wp2_with (first | ((with_reducible refine gate_builtin (b := .append) (xs := #[.tmp 15, .tmp 17]) rfl ?_); at_builtin; refine Kd.R_append (Kd.int .u8) (w0 := w) w.heap.size rfl (.tmp 15) (.tmp 17) 85 5 (.int .u8 0) 1 rfl Try.underlying85 info5 rfl (by decide) (by omega) u3 x3_1 (bt a0 x9_1) [.int .u8 (bt a0 x9_1)] (fun _ => True) (fun _ => False) rfl rfl ?aP (fun _ hk => hk.elim) ?aF ?aO ?aB ?aS ?aL ?_; (case aP => exact rfl); (case aB => exact (by repeat (first | (with_reducible first | exact HB.out | apply below_alloc | apply pw_below_drewN | apply below_drew1) | exact HB.out))); (case aF => exact (fun _ _ => trivial)); (case aO => exact (by (with_reducible repeat (first | apply Kd.R_alloc | apply Kd.R_drewN | apply Kd.R_drew)); exact HO_3.out)); (case aS => exact (below_size (by repeat (first | (with_reducible first | exact HB.out | apply below_alloc | apply pw_below_drewN | apply below_drew1) | exact HB.out)))); (case aL => have := LMc44.out; omega); intro v304 w45 ho hb hg hat; rw [← Ny303.out] at ho; have n0_ := Aside0.mk (hb); have n1_ := Aside0.mk (ho); clear HB; clear HO_3; have HB := n0_; have HO305 := n1_; clear n0_ n1_; clear ho hb hg hat))
            go_roundg kj7
            case measure => have := HK1.out; have := HJ7.out; omega
            case rel => exact ⟨(y303), (wrap64 (x9_1 + 1)), (by first | rfl | (simp; done) | (simp [*]; done)), H', ⟨by have := HK1.out; have := HJ7.out; omega⟩, ⟨by (with_reducible repeat (first | apply Kd.R_alloc | apply Kd.R_drewN | apply Kd.R_drew)); exact HO305.out⟩, ⟨by repeat (first | (with_reducible first | exact HB.out | apply below_alloc | apply pw_below_drewN | apply below_drew1) | exact HB.out)⟩⟩
           ·rw [if_neg c44] at H
            exact absurd H (by simp)
     ·rw [if_neg c6] at H
      exact absurd H (by simp)
    ·rw [if_neg c5] at H
     exact absurd H (by simp)
   ·rw [if_neg c4] at H
    have c4b0 : decide (x9_1 < (a0.size : Int)) = false := decide_eq_false c4
    clear c4
    by_cases c46 : x3_1.length < 140737488355328
    ·rw [if_pos c46] at H
     have LMc46 := Aside0.mk c46
     clear c46
     obtain ⟨y282, hy282⟩ : ∃ y_ : List Int, y_ = (x3_1 ++ [34]) := ⟨_, rfl⟩
     replace H : (some (strOfNums y282)) = some r := by first | (rw [hy282]; with_reducible exact H) | (have H2_ := (Option.bind_some _ _).symm.trans H; rw [hy282]; with_reducible exact H2_) | (have H2_ := (Option.bind_some _ _).symm.trans H; with_reducible exact H2_) | with_reducible exact H | (rw [hy282]; exact H) | exact H
     have Ny282 := Aside0.mk hy282
     clear hy282
     obtain rfl := Option.some.inj H
     go_wp2_with (first | ((with_reducible refine gate_builtin (b := .append) (xs := #[.tmp 47, .tmp 48]) rfl ?_); at_builtin; refine Kd.R_append (Kd.int .u8) (w0 := w) w.heap.size rfl (.tmp 47) (.tmp 48) 85 5 (.int .u8 0) 1 rfl Try.underlying85 info5 rfl (by decide) (by omega) u3 x3_1 34 [.int .u8 34] (fun _ => True) (fun _ => False) rfl rfl ?aP (fun _ hk => hk.elim) ?aF ?aO ?aB ?aS ?aL ?_; (case aP => exact rfl); (case aB => exact (by repeat (first | (with_reducible first | exact HB.out | apply below_alloc | apply pw_below_drewN | apply below_drew1) | exact HB.out))); (case aF => exact (fun _ _ => trivial)); (case aO => exact (by (with_reducible repeat (first | apply Kd.R_alloc | apply Kd.R_drewN | apply Kd.R_drew)); exact HO_3.out)); (case aS => exact (below_size (by repeat (first | (with_reducible first | exact HB.out | apply below_alloc | apply pw_below_drewN | apply below_drew1) | exact HB.out)))); (case aL => have := LMc46.out; omega); intro v283 w47 ho hb hg hat; rw [← Ny282.out] at ho; have n0_ := Aside0.mk (hb); have n1_ := Aside0.mk (ho); clear HB; clear HO_3; have HB := n0_; have HO284 := n1_; clear n0_ n1_; clear ho hb hg hat; have hcv48 := own_string (P := Try.prog) Try.underlying85 Try.underlying5 Try.underlying9 (Kd.own_of_R HO284.out)))
     go_ret
     exact ⟨by first | rfl | (simp [errW_none, errW_some] <;> rfl) | (simp [*, errW_none, errW_some] <;> rfl), by repeat (first | (with_reducible first | exact HB.out | apply below_alloc | apply pw_below_drewN | apply below_drew1) | exact HB.out)⟩
    ·rw [if_neg c46] at H
     exact absurd H (by simp)

-- NOT PRINTED: function 191 (abi_NoEscape)

-- NOT PRINTED: function 183 (strings_Builder_copyCheck)

-- NOT PRINTED: function 192 (bytealg_MakeNoZero)

-- NOT PRINTED: function 184 (strings_Builder_grow)

-- NOT PRINTED: function 165 (strings_Builder_Grow)

-- NOT PRINTED: function 166 (strings_Builder_WriteString)

-- NOT PRINTED: function 167 (strings_Builder_String)

-- NOT PRINTED: function 126 (strings_Join)
def match_sign.f (a0 : Int) : Option (ByteArray) := if a0 = 5 then (some (⟨#[38]⟩ : ByteArray)) else (if a0 = 6 then (some (⟨#[124]⟩ : ByteArray)) else (some (⟨#[33]⟩ : ByteArray)))
set_option maxHeartbeats 8000000 in
set_option maxRecDepth 100000 in
theorem match_sign.calls (a0 : Int) (r : ByteArray) (w : World) (h : match_sign.f a0 = some r) :
  Calls Try.prog 159 #[.int .i64 a0] w fun e w' => e = .returned (.string r) ∧ Drawn0 w w' := by
 have H : (if a0 = 5 then (some (⟨#[38]⟩ : ByteArray)) else (if a0 = 6 then (some (⟨#[124]⟩ : ByteArray)) else (some (⟨#[33]⟩ : ByteArray)))) = some r := h
 clear h
 by_cases c2 : a0 = 5
 ·rw [if_pos c2] at H
  have c2b0 : (a0 == 5) = true := beq_iff_eq.mpr c2
  have c2b1 : (a0 != 5) = false := bne_eq_false_iff_eq.mpr c2
  clear c2
  obtain rfl := Option.some.inj H
  go_enter Try.func159, Try.ntmps159
  go_wp2
  go_ret
  exact ⟨by first | rfl | (simp; done) | (simp [*]; done), by repeat (first | exact Drawn0.refl _ | apply Drawn0.step)⟩
 ·rw [if_neg c2] at H
  have c2b0 : (a0 == 5) = false := beq_eq_false_iff_ne.mpr c2
  have c2b1 : (a0 != 5) = true := bne_iff_ne.mpr c2
  by_cases c3 : a0 = 6
  ·rw [if_pos c3] at H
   have c3b0 : (a0 == 6) = true := beq_iff_eq.mpr c3
   have c3b1 : (a0 != 6) = false := bne_eq_false_iff_eq.mpr c3
   clear c3
   obtain rfl := Option.some.inj H
   go_enter Try.func159, Try.ntmps159
   go_wp2
   go_ret
   exact ⟨by first | rfl | (simp; done) | (simp [*]; done), by repeat (first | exact Drawn0.refl _ | apply Drawn0.step)⟩
  ·rw [if_neg c3] at H
   have c3b0 : (a0 == 6) = false := beq_eq_false_iff_ne.mpr c3
   have c3b1 : (a0 != 6) = true := bne_iff_ne.mpr c3
   obtain rfl := Option.some.inj H
   go_enter Try.func159, Try.ntmps159
   go_wp2
   go_ret
   exact ⟨by first | rfl | (simp; done) | (simp [*]; done), by repeat (first | exact Drawn0.refl _ | apply Drawn0.step)⟩

-- NOT PRINTED: function 110 (match_text)

-- NOT PRINTED: function 61 (match_Text)

-- NOT PRINTED: function 52 (varvelaw12_awake)

-- NOT PRINTED: function 9 (varvelaw12_MatchChecks)

-- NOT PRINTED: function 10 (varvelaw12_MatchEvals)

-- NOT PRINTED: function 11 (varvelaw12_MatchLaws)
end Go.Proofs.Yteafilojjdfllaa.PAll
end
section
namespace Go.Proofs
open Go.Shelf
def Try.lays156_ren : Go.Shelf.Ren := ⟨fun | 156 => 126 | 165 => 165 | 166 => 166 | 169 => 167 | 240 => 183 | 241 => 184 | 276 => 191 | 277 => 192 | n => n, fun | 31 => 22 | 9 => 9 | 3 => 3 | 4 => 4 | 0 => 0 | 20 => 20 | 72 => 188 | 76 => 192 | 70 => 186 | 37 => 85 | 75 => 191 | 127 => 204 | 164 => 205 | 5 => 5 | 80 => 160 | n => n, fun | n => n⟩
theorem Try.lays156 : Go.Proofs.Lays.n156 Try.prog Try.lays156_ren := {
 mixed := by kernel_rfl
 f156 := Try.func126.trans (congrArg some (by kernel_rfl))
 f165 := Try.func165.trans (congrArg some (by kernel_rfl))
 f166 := Try.func166.trans (congrArg some (by kernel_rfl))
 f169 := Try.func167.trans (congrArg some (by kernel_rfl))
 f240 := Try.func183.trans (congrArg some (by kernel_rfl))
 f241 := Try.func184.trans (congrArg some (by kernel_rfl))
 f276 := Try.func191.trans (congrArg some (by kernel_rfl))
 f277 := Try.func192.trans (congrArg some (by kernel_rfl))
 t0 := Try.underlying0
 a0 := Try.isAgg0
 z0 := Try.sizeOf0
 v0 := Try.zeroValue0
 t3 := Try.underlying3
 a3 := Try.isAgg3
 z3 := Try.sizeOf3
 v3 := Try.zeroValue3
 t4 := Try.underlying4
 a4 := Try.isAgg4
 z4 := Try.sizeOf4
 v4 := Try.zeroValue4
 t9 := Try.underlying9
 a9 := Try.isAgg9
 z9 := Try.sizeOf9
 v9 := Try.zeroValue9
 t20 := Try.underlying20
 a20 := Try.isAgg20
 z20 := Try.sizeOf20
 v20 := Try.zeroValue20
 t31 := Try.underlying22
 a31 := Try.isAgg22
 z31 := Try.sizeOf22
 v31 := Try.zeroValue22
 t37 := Try.underlying85
 a37 := Try.isAgg85
 z37 := Try.sizeOf85
 v37 := Try.zeroValue85
 t70 := Try.underlying186
 a70 := Try.isAgg186
 z70 := Try.sizeOf186
 v70 := Try.zeroValue186
 t72 := Try.underlying188
 a72 := Try.isAgg188
 z72 := Try.sizeOf188
 v72 := Try.zeroValue188
 t75 := Try.underlying191
 a75 := Try.isAgg191
 z75 := Try.sizeOf191
 v75 := Try.zeroValue191
 t76 := Try.underlying192
 a76 := Try.isAgg192
 z76 := Try.sizeOf192
 v76 := Try.zeroValue192
 t127 := Try.underlying204
 a127 := Try.isAgg204
 z127 := Try.sizeOf204
 v127 := Try.zeroValue204
 t164 := Try.underlying205
 a164 := Try.isAgg205
 z164 := Try.sizeOf205
 v164 := Try.zeroValue205 }
theorem Try.Builder_Extra_156 : Builder.Extra Try.prog Try.lays156_ren := {
 sizeBuilder := by kernel_rfl
 liesBuilder := by kernel_rfl
 t5 := Try.underlying5
 a5 := Try.isAgg5
 z5 := Try.sizeOf5
 v5 := Try.zeroValue5
 infoByte := by kernel_rfl
 cellsByte := by kernel_rfl
 sizeByte := by kernel_rfl
 neB5 := by decide }
open Go.RowKit in
/-- No element: the empty string; the world is as it was. (Whatever the slice's address and capacity: a nil slice too.) (LAID: no walk: one application.) -/
theorem Try.strings_Join_none (a : Option Addr) (c : Nat) (sep : ByteArray) (w : World) :
  Calls Try.prog 126 #[.slice a 0 c, .string sep] w fun e w' => e = .returned (.string ⟨#[]⟩) ∧ w' = w := Any.strings_Join_none Try.lays156 Try.Builder_Extra_156 a c sep w
open Go.RowKit in
/-- strings.Join: "Join concatenates the elements of its first argument to create a single string. The separator string sep is placed between elements in the resulting string.": HOWEVER MANY ELEMENTS. Below the heap's end the world is as it was. (LAID: no walk: one application.) -/
theorem Try.strings_Join (bk o c : Nat) (xs : List ByteArray) (sep : ByteArray) (w : World) (hcells : ∀ (j : Nat) x, xs[j]? = some x → w.cell? ⟨bk, o + j, none⟩ = some (.string x)) (hbk : bk < w.heap.size) (hN : xs.length ≤ 140737488355328) (hcap : xs.length ≤ c) (hlen : (Lib.join (xs.map (·.data.toList)) sep.data.toList).length ≤ 140737488355328) :
  Calls Try.prog 126 #[.slice (some ⟨bk, o, none⟩) xs.length c, .string sep] w fun e w' => e = .returned (.string ⟨(Lib.join (xs.map (·.data.toList)) sep.data.toList).toArray⟩) ∧ Below w.heap.size w w' := Any.strings_Join Try.lays156 Try.Builder_Extra_156 bk o c xs sep w hcells hbk hN hcap hlen
def Try.lays137_ren : Go.Shelf.Ren := ⟨fun | 137 => 131 | 217 => 168 | 266 => 185 | n => n, fun | 9 => 9 | 5 => 5 | 3 => 3 | n => n, fun | n => n⟩
theorem Try.lays137 : Go.Proofs.Lays.n137 Try.prog Try.lays137_ren := {
 mixed := by kernel_rfl
 f137 := Try.func131.trans (congrArg some (by kernel_rfl))
 f217 := Try.func168.trans (congrArg some (by kernel_rfl))
 f266 := Try.func185.trans (congrArg some (by kernel_rfl))
 t3 := Try.underlying3
 a3 := Try.isAgg3
 z3 := Try.sizeOf3
 v3 := Try.zeroValue3
 t5 := Try.underlying5
 a5 := Try.isAgg5
 z5 := Try.sizeOf5
 v5 := Try.zeroValue5
 t9 := Try.underlying9
 a9 := Try.isAgg9
 z9 := Try.sizeOf9
 v9 := Try.zeroValue9 }
open Go.RowKit in
/-- strings.IndexByte: "IndexByte returns the index of the first instance of c in s, or -1 if c is not present in s.": IT RETURNS 'Lib.indexByte s c'; the world is as it was. (LAID: no walk: one application.) -/
theorem Try.strings_IndexByte (s : ByteArray) (c : Int) (w : World) :
  Calls Try.prog 131 #[.string s, .int .u8 c] w fun e w' => e = .returned (.int .i64 (Lib.indexByte s.data.toList c.toNat.toUInt8)) ∧ w' = w := Any.strings_IndexByte Try.lays137 s c w
def Try.lays217_ren : Go.Shelf.Ren := ⟨fun | 217 => 168 | 266 => 185 | n => n, fun | 9 => 9 | 5 => 5 | 3 => 3 | n => n, fun | n => n⟩
theorem Try.lays217 : Go.Proofs.Lays.n217 Try.prog Try.lays217_ren := {
 mixed := by kernel_rfl
 f217 := Try.func168.trans (congrArg some (by kernel_rfl))
 f266 := Try.func185.trans (congrArg some (by kernel_rfl))
 t3 := Try.underlying3
 a3 := Try.isAgg3
 z3 := Try.sizeOf3
 v3 := Try.zeroValue3
 t5 := Try.underlying5
 a5 := Try.isAgg5
 z5 := Try.sizeOf5
 v5 := Try.zeroValue5
 t9 := Try.underlying9
 a9 := Try.isAgg9
 z9 := Try.sizeOf9
 v9 := Try.zeroValue9 }
open Go.RowKit Go.Lib in
/-- internal/stringslite.IndexByte (what strings.IndexByte calls): IT RETURNS 'Lib.indexByte s c'; the world is as it was. (LAID: no walk: one application.) -/
theorem Try.stringslite_IndexByte (s : ByteArray) (c : Int) (w : World) :
  Calls Try.prog 168 #[.string s, .int .u8 c] w fun e w' => e = .returned (.int .i64 (Lib.indexByte s.data.toList c.toNat.toUInt8)) ∧ w' = w := Any.stringslite_IndexByte Try.lays217 s c w
end Go.Proofs
end
section
namespace Go.Proofs.Yteafilojjdfllaa
open Go Go.RowKit Go.Proofs.YteafilojjdfllaaW.PrintWords Go.Proofs.YteafilojjdfllaaW.PrintLast Go.Proofs.YteafilojjdfllaaW.PrintMore Go.Proofs.Yteafilojjdfllaa.PAll
def ints (l : List UInt8) : List Int := l.map fun b => (b.toNat : Int)
theorem ints_app (a b : List UInt8) : ints (a ++ b) = ints a ++ ints b := by simp [ints]
theorem ints_len (a : List UInt8) : (ints a).length = a.length := by simp [ints]
theorem and15 : ∀ n : Fin 256, Go.bits .and .u8 (n.val : Int) 15 = ((n.val % 16 : Nat) : Int) := by decide +kernel
theorem digit_at : ∀ n : Fin 16, bt (⟨#[48, 49, 50, 51, 52, 53, 54, 55, 56, 57, 97, 98, 99, 100, 101, 102]⟩ : ByteArray) (n.val : Int) = ((hexD n.val).toNat : Int) := by decide +kernel
theorem quoted_l0 (t : ByteArray) (ht : t.size ≤ 1000000) : ∀ (d i k : Nat) (x : List Int), i ≤ t.size → t.size ≤ i + d → 2 * d < k → x.length + 4 * d ≤ 100000000 →
  label_Quoted.l0 k t x (t.size : Int) (i : Int) = some (strOfNums (x ++ ints ((t.data.toList.drop i).flatMap encB) ++ [34]))
 | d, i, 0, _, _, _, h, _ => by omega
 | d, i, k + 1, x, hi, hd, hk, hx => by
  simp only [label_Quoted.l0]
  by_cases hlt : i < t.size
  ·obtain ⟨d, rfl⟩ : ∃ q, d = q + 1 := ⟨d - 1, by omega⟩
   obtain ⟨k, rfl⟩ : ∃ q, k = q + 1 := ⟨k - 1, by omega⟩
   have ih := fun x' (hx' : x'.length + 4 * d ≤ 100000000) => quoted_l0 t ht d (i + 1) k x' (by omega) (by omega) (by omega) hx'
   rw [if_pos (by omega), if_pos (by omega), if_pos (by omega), bt_nat t i hlt, bdrop t i hlt]
   generalize t.data.toList.getD i 0 = c
   have hc := c.toNat_lt
   have h92 : c = 92 ↔ (c.toNat : Int) = 92 := ⟨fun h => by rw [h]; rfl, fun h => UInt8.toNat_inj.1 (by have : (92 : UInt8).toNat = 92 := rfl; omega)⟩
   have h34 : c = 34 ↔ (c.toNat : Int) = 34 := ⟨fun h => by rw [h]; rfl, fun h => UInt8.toNat_inj.1 (by have : (34 : UInt8).toNat = 34 := rfl; omega)⟩
   rw [List.flatMap_cons, ints_app]
   have two : ∀ y : List Int, y.length ≤ 4 → ints (encB c) = y → (some y : Option (List Int)).bind (fun y2 => if x.length + y2.length < 140737488355328 then label_Quoted.l0 k t (x ++ y2) (t.size : Int) (wrap64 ((i : Int) + 1)) else none) = some (strOfNums (x ++ (ints (encB c) ++ ints ((t.data.toList.drop (i + 1)).flatMap encB)) ++ [34])) := by
    intro y hy e
    rw [Option.bind_some, if_pos (by omega), w64s i (by omega), ih (x ++ y) (by rw [List.length_append]; omega), e, List.append_assoc x y]
   have hex : 32 > (c.toNat : Int) ∨ (c.toNat : Int) ≥ 127 → ¬ c = 34 ∧ ¬ c = 92 → (if 0 ≤ ((c.toNat : Int) / 16) then (if ((c.toNat : Int) / 16) < 16 then (if 0 ≤ (Go.bits .and .u8 (c.toNat : Int) 15) then (if (Go.bits .and .u8 (c.toNat : Int) 15) < 16 then ((some (([92, 120, bt (⟨#[48, 49, 50, 51, 52, 53, 54, 55, 56, 57, 97, 98, 99, 100, 101, 102]⟩ : ByteArray) ((c.toNat : Int) / 16), bt (⟨#[48, 49, 50, 51, 52, 53, 54, 55, 56, 57, 97, 98, 99, 100, 101, 102]⟩ : ByteArray) (Go.bits .and .u8 (c.toNat : Int) 15)] : List Int) : List Int)).bind fun y2 => (if x.length + y2.length < 140737488355328 then (label_Quoted.l0 k t (x ++ y2) (t.size : Int) (wrap64 ((i : Int) + 1))) else (none))) else (none)) else (none)) else (none)) else (none)) = some (strOfNums (x ++ (ints (encB c) ++ ints ((t.data.toList.drop (i + 1)).flatMap encB)) ++ [34])) := by
    intro h1 h2
    have ha := and15 ⟨c.toNat, hc⟩
    have hd1 := digit_at ⟨c.toNat / 16, by omega⟩
    have hd2 := digit_at ⟨c.toNat % 16, by omega⟩
    simp only at ha hd1 hd2
    rw [ha, if_pos (by omega), if_pos (by omega), if_pos (by omega), if_pos (by omega)]
    rw [show (c.toNat : Int) / 16 = ((c.toNat / 16 : Nat) : Int) by omega, hd1, hd2]
    refine two _ (by simp) ?_
    unfold encB
    rw [if_neg (by rintro (h | h); exact h2.1 h; exact h2.2 h), if_pos (by omega)]
    rfl
   by_cases e34 : (c.toNat : Int) = 34
   ·rw [if_pos e34]
    simp only [label_Quoted.j1, if_true]
    exact two _ (by simp) (by unfold encB; rw [if_pos (Or.inl (h34.2 e34))]; rfl)
   ·rw [if_neg e34]
    by_cases e92 : (c.toNat : Int) = 92
    ·simp only [label_Quoted.j1, e92, beq_self_eq_true, if_true]
     exact two _ (by simp) (by unfold encB; rw [if_pos (Or.inr (h92.2 e92))]; simp [ints, e92])
    ·have hb : ((c.toNat : Int) == 92) = false := by rw [beq_eq_false_iff_ne]; exact e92
     simp only [label_Quoted.j1, hb]
     rw [if_neg (by decide)]
     have hno : ¬ c = 34 ∧ ¬ c = 92 := ⟨fun h => e34 (h34.1 h), fun h => e92 (h92.1 h)⟩
     by_cases e1 : (c.toNat : Int) < 32
     ·rw [if_pos e1]
      exact hex (Or.inl (by omega)) hno
     ·rw [if_neg e1]
      by_cases e2 : (c.toNat : Int) ≥ 127
      ·rw [if_pos e2]
       exact hex (Or.inr e2) hno
      ·rw [if_neg e2, if_pos (by omega), w64s i (by omega), ih (x ++ [(c.toNat : Int)]) (by rw [List.length_append, List.length_singleton]; omega)]
       have : encB c = [c] := by
        unfold encB
        rw [if_neg (by rintro (h | h); exact hno.1 h; exact hno.2 h), if_neg (by omega)]
       rw [this]
       simp [ints]
  ·rw [if_neg (by omega), if_pos (by omega), List.drop_of_length_le (by simp; omega)]
   simp [ints]
theorem label_Quoted.val (t : ByteArray) (ht : t.size ≤ 1000000) (k : Nat) (hk : 2 * t.size < k) : label_Quoted.f k t = some ⟨(quoteT t).toArray⟩ := by
 have h := quoted_l0 t ht t.size 0 k [34] (by omega) (by omega) hk (by simp; omega)
 rw [label_Quoted.f]
 rw [show ((0 : Nat) : Int) = 0 from rfl, List.drop_zero] at h
 rw [h, ← Lib.Lz.strOfNums_map]
 simp [quoteT, quoteL, ints]
/-- a text between quotes -/
def qB (v : ByteArray) : ByteArray := ⟨(quoteT v).toArray⟩
theorem quoted125 (w : World) (t : ByteArray) (ht : t.size ≤ 1000000) : Calls Try.prog 125 #[.string t] w fun e w' => e = .returned (.string (qB t)) ∧ Below w.heap.size w w' :=
 label_Quoted.calls (2 * t.size + 1) t _ w (label_Quoted.val t ht _ (Nat.lt_succ_self _))
theorem infoSt : (Try.prog.info? 9).map (fun i => (i.zero, i.size, i.bytes)) = some (some (.string ByteArray.empty), 1, 16) := by kernel_rfl
/-- strings.Join at a comma, over a list of the call's own -/
theorem join126 (w : World) (base : Nat) (v : Value) (xs : List ByteArray) (ho : w.ownsRow base 9 1 v xs.length (encs Value.string xs)) (hn : xs.length ≤ 1000000) (hl : (commas (xs.map (·.data.toList))).length ≤ 140737488355328) :
  Calls Try.prog 126 #[v, .string ⟨#[44]⟩] w fun e w' => e = .returned (.string ⟨(commas (xs.map (·.data.toList))).toArray⟩) ∧ Below w.heap.size w w' := by
 cases xs with
 | nil =>
  obtain ⟨A, c, rfl⟩ := own_slice ho
  exact (Try.strings_Join_none A c ⟨#[44]⟩ w).mono fun e w' ⟨he, hw⟩ => ⟨he, by rw [hw]; exact Below.refl _ _⟩
 | cons x xs =>
  have hlt := own_lt ho
  have hle := own_slice ho
  rcases ho.2 with ⟨_, h0⟩ | ⟨g, cap, cur, rfl, hb, hg, hcap, _⟩
  ·simp at h0
  ·have h := Try.strings_Join g 0 cap (x :: xs) ⟨#[44]⟩ w (fun j u hu => by
    have := ho.cells (g := g) rfl j (.string u) (by rw [encs_get (d := ByteArray.empty) (x :: xs) j (List.getElem?_eq_some_iff.1 hu).1]; simp [List.getD_eq_getElem?_getD, hu])
    rw [add_plain] at this
    rwa [Nat.zero_add]) (hlt g (by simp [Value.ownBlock])) (by omega) hcap (by rw [show (⟨#[44]⟩ : ByteArray).data.toList = [44] from rfl, commas_join]; exact hl)
   rw [show (⟨#[44]⟩ : ByteArray).data.toList = [44] from rfl, commas_join] at h
   exact h
theorem ba_ext {a b : ByteArray} (h : a.data.toList = b.data.toList) : a = b := by
 cases a; cases b
 simp only at h
 rw [Array.toList_inj.1 h]
theorem takeD {α : Type} (xs : List α) (z : α) (j : Nat) (h : j < xs.length) : xs.take (j + 1) = xs.take j ++ [xs.getD j z] := by
 rw [List.take_succ_eq_append_getElem h]; simp [List.getD_eq_getElem?_getD, h]
theorem qB_map (vs : List ByteArray) : (vs.map qB).map (·.data.toList) = vs.map quoteT := by simp [qB, Function.comp_def]
theorem add_to {a b c : ByteArray} (h : a.data.toList ++ b.data.toList = c.data.toList) (hs : c.data.toList.length ≤ 1000000000) : Op.stringOp .add a b = pure (.string c) := by
 have e : c = a ++ b := ba_ext (by rw [← h]; simp [ByteArray.data_append])
 have e1 : a.data.toList.length = a.size := by simp
 have e2 : b.data.toList.length = b.size := by simp
 have hl : a.size + b.size ≤ 1000000000 := by rw [← h, List.length_append] at hs; omega
 unfold Op.stringOp
 simp only
 rw [if_neg (by rw [show IntKind.i64.max = 9223372036854775807 from rfl]; omega), e]
end Go.Proofs.Yteafilojjdfllaa
end
section
namespace Go.Proofs.Yteafilojjdfllaa
open Go
/-- As Q; by a goto to label l: J l. -/
def jumpsTo (J : Nat → Act → World → Prop) (Q : Exit → Act → World → Prop) : Exit → Act → World → Prop
 | .goto l, a, w => J l a w
 | e, a, w => Q e a w
theorem jumps_ret (J : Nat → Act → World → Prop) (Q : Exit → Act → World → Prop) : jumpsTo J Q .ret = Q .ret := rfl
section
variable {P : Program} {a : Act} {w : World} {Q : Exit → Act → World → Prop}
theorem wp_scope_many {c : Code} (J : Nat → Nat → Act → World → Prop)
  (first : (∀ l n a w, J l n a w → ∃ rest, findLabel c l = some rest ∧ rest.wp P (jumpsTo (fun l' a' w' => ∃ m, J l' m a' w') Q) a w) → c.wp P (jumpsTo (fun l a' w' => ∃ n, J l n a' w') Q) a w)
  (pass : ∀ l n a w, J l n a w → ∃ rest, findLabel c l = some rest ∧ rest.wp P (jumpsTo (fun l' a' w' => ∃ m, m < n ∧ J l' m a' w') Q) a w) : (Code.scope c).wp P Q a w := by
 intro b k cs
 have hg : ∀ l rest, findLabel c l = some rest → gotoIn l (.inScope c :: k) = some (.code rest :: .inScope c :: k) := fun l rest hf => by simp [gotoIn, hf]
 have key : ∀ n l a w, J l n a w → ∃ rest, findLabel c l = some rest ∧ ∃ e a' w', Q e a' w' ∧ Arrives P (lone (b.at a (.code rest :: .inScope c :: k)) cs w) b k cs e a' w' := by
  intro n
  induction n using Nat.strongRecOn with
  | _ n ih =>
   intro l a w hJ
   obtain ⟨rest, hf, hw⟩ := pass l n a w hJ
   refine ⟨rest, hf, ?_⟩
   obtain ⟨e, a₁, w₁, hq, harr⟩ := hw b (.inScope c :: k) cs
   cases e with
   | normal => exact ⟨.normal, a₁, w₁, hq, Steps.trans harr (.one step_inScope)⟩
   | exit id => exact ⟨.exit id, a₁, w₁, hq, fun k' hk => harr k' (by simp [exitTo, hk])⟩
   | goto l' =>
    obtain ⟨m, hlt, hJ'⟩ := hq
    obtain ⟨rest', hf', e₂, a₂, w₂, hq₂, harr₂⟩ := ih m hlt l' a₁ w₁ hJ'
    exact ⟨e₂, a₂, w₂, hq₂, .of_steps (harr _ (hg _ _ hf')) harr₂⟩
   | ret => exact ⟨_, a₁, w₁, hq, harr⟩
   | panic ch => exact ⟨_, a₁, w₁, hq, harr⟩
   | outgrown => exact ⟨_, a₁, w₁, hq, harr⟩
 have weak : ∀ l n a w, J l n a w → ∃ rest, findLabel c l = some rest ∧ rest.wp P (jumpsTo (fun l' a' w' => ∃ m, J l' m a' w') Q) a w := by
  intro l n a w hJ
  obtain ⟨rest, hf, hw⟩ := pass l n a w hJ
  refine ⟨rest, hf, Code.wp_mono ?_ hw⟩
  intro e a w h
  cases e with
  | goto l' => obtain ⟨m, _, hm⟩ := h; exact ⟨m, hm⟩
  | normal => exact h
  | exit id => exact h
  | ret => exact h
  | panic ch => exact h
  | outgrown => exact h
 obtain ⟨e, a₁, w₁, hq, harr⟩ := first weak b (.inScope c :: k) cs
 cases e with
 | normal => exact ⟨.normal, a₁, w₁, hq, .head step_scope (Steps.trans harr (.one step_inScope))⟩
 | exit id => exact ⟨.exit id, a₁, w₁, hq, fun k' hk => .head step_scope (harr k' (by simp [exitTo, hk]))⟩
 | goto l' =>
  obtain ⟨n, hJ'⟩ := hq
  obtain ⟨rest', hf', e₂, a₂, w₂, hq₂, harr₂⟩ := key n l' a₁ w₁ hJ'
  exact ⟨e₂, a₂, w₂, hq₂, .of_steps (.head step_scope (harr _ (hg _ _ hf'))) harr₂⟩
 | ret => exact ⟨_, a₁, w₁, hq, .of_steps (.one step_scope) harr⟩
 | panic ch => exact ⟨_, a₁, w₁, hq, .of_steps (.one step_scope) harr⟩
 | outgrown => exact ⟨_, a₁, w₁, hq, .of_steps (.one step_scope) harr⟩
end
end Go.Proofs.Yteafilojjdfllaa
end
section
namespace Go.Proofs.Yteafilojjdfllaa
open Go Go.RowKit Go.Proofs.YteafilojjdfllaaW.PrintWords Go.Proofs.YteafilojjdfllaaW.PrintLast Go.Proofs.YteafilojjdfllaaW.PrintMore Go.Proofs.Yteafilojjdfllaa.PAll
set_option linter.unusedVariables false
set_option linter.unusedSimpArgs false
def unqRet (n : Nat) : Option (List UInt8 × List UInt8) → Value
 | none => .tuple #[.string ⟨#[]⟩, .int .i64 0, .bool false]
 | some (v, t) => .tuple #[.string ⟨v.toArray⟩, .int .i64 ((n : Int) - t.length), .bool true]
def bN (s : ByteArray) (n : Nat) : UInt8 := s.data.toList.getD n 0
theorem bN_at (s : ByteArray) (n : Nat) (x : UInt8) (hx : bN s n = x) : ∀ h : n < s.size, ((s[n]'h).toNat : Int) = (x.toNat : Int) := fun h => by
 have h' : n < s.data.size := h
 rw [← hx, bN, List.getD_eq_getElem?_getD, Array.getElem?_toList, Array.getElem?_eq_getElem h']
 rfl
theorem bN_drop (s : ByteArray) (n : Nat) (h : n < s.size) : s.data.toList.drop n = bN s n :: s.data.toList.drop (n + 1) := bdrop s n h
theorem unq_nil {step : List UInt8 → Step} : unqW step [] = none := by rw [unqW]
theorem unq_cons {step : List UInt8 → Step} (x : UInt8) (r : List UInt8) : unqW step (x :: r) = match step (x :: r) with
  | .stop => none
  | .done => some ([], r)
  | .byte c n => (unqW step (r.drop n)).map (fun q => (c :: q.1, q.2)) := by first | (rw [unqW]; rfl) | rw [unqW]
theorem unq_end (s : ByteArray) (j : Nat) (h : s.size ≤ j) : unqW stepP (s.data.toList.drop j) = none := by
 rw [List.drop_of_length_le (by simpa using h), unq_nil]
theorem unq_34 (s : ByteArray) (j : Nat) (h : j < s.size) (hx : bN s j = 34) : unqW stepP (s.data.toList.drop j) = some ([], s.data.toList.drop (j + 1)) := by
 rw [bN_drop s j h, hx, unq_cons, stepP_cons, if_pos rfl]
theorem unq_raw (s : ByteArray) (j : Nat) (h : j < s.size) (x : UInt8) (hx : bN s j = x) (h1 : x ≠ 34) (h2 : x ≠ 92) : unqW stepP (s.data.toList.drop j) = (unqW stepP (s.data.toList.drop (j + 1))).map (fun q => (x :: q.1, q.2)) := by
 rw [bN_drop s j h, hx, unq_cons, stepP_cons, if_neg h1, if_neg h2]
 rfl
theorem drop_getD (s : ByteArray) (j i : Nat) : (s.data.toList.drop j).getD i 0 = bN s (j + i) := by
 rw [bN, List.getD_eq_getElem?_getD, List.getD_eq_getElem?_getD, List.getElem?_drop]
theorem drop_len (s : ByteArray) (j : Nat) : (s.data.toList.drop j).length = s.size - j := by
 rw [List.length_drop]; simp
theorem unq_hex (s : ByteArray) (j : Nat) (h : j + 4 ≤ s.size) (hx : bN s j = 92) (h1 : bN s (j + 1) = 120) (y z : UInt8) (hy : bN s (j + 2) = y) (hz : bN s (j + 3) = z) : unqW stepP (s.data.toList.drop j) = if hexV y < 0 ∨ hexV z < 0 then none else (unqW stepP (s.data.toList.drop (j + 4))).map (fun q => (hexB y z :: q.1, q.2)) := by
 rw [bN_drop s j (by omega), hx, unq_cons, stepP_cons, if_neg (by decide), if_pos rfl, drop_getD, drop_getD, drop_getD, drop_len, if_pos ⟨by omega, h1⟩, hy, hz]
 split <;> rename_i e <;> split at e <;> cases e <;> rename_i e2
 ·rw [if_pos e2]
 ·rw [if_neg e2, List.drop_drop]
theorem unq_short (s : ByteArray) (j : Nat) (h : j < s.size) (h2 : s.size < j + 2) (hx : bN s j = 92) : unqW stepP (s.data.toList.drop j) = none := by
 rw [bN_drop s j (by omega), hx, unq_cons, stepP_cons, if_neg (by decide), if_pos rfl, drop_getD, drop_getD, drop_getD, drop_len, if_neg (fun h => by omega), if_pos (by omega)]
theorem unq_next (s : ByteArray) (j : Nat) (h : j + 2 ≤ s.size) (hx : bN s j = 92) (h1 : ¬ (j + 4 ≤ s.size ∧ bN s (j + 1) = 120)) (y : UInt8) (hy : bN s (j + 1) = y) : unqW stepP (s.data.toList.drop j) = (unqW stepP (s.data.toList.drop (j + 2))).map (fun q => (y :: q.1, q.2)) := by
 rw [bN_drop s j (by omega), hx, unq_cons, stepP_cons, if_neg (by decide), if_pos rfl, drop_getD, drop_getD, drop_getD, drop_len, if_neg (fun h => h1 ⟨by omega, h.2⟩), if_neg (by omega)]
 simp only [Nat.add_zero, hy, List.drop_drop]
theorem un_toNat {x : UInt8} {n : Nat} (hn : n < 256) : (x.toNat : Int) = (n : Int) ↔ x = n.toUInt8 := by
 constructor
 ·intro h
  refine UInt8.toNat_inj.1 ?_
  simp
  omega
 ·rintro rfl
  simp
  omega
theorem hexV_fin : ∀ n : Fin 256, -1 ≤ hexV n.val.toUInt8 ∧ hexV n.val.toUInt8 ≤ 15 := by decide +kernel
theorem hexV_range (c : UInt8) : -1 ≤ hexV c ∧ hexV c ≤ 15 := by
 have h := hexV_fin ⟨c.toNat, c.toNat_lt⟩
 simp only [show c.toNat.toUInt8 = c from by simp] at h
 exact h
theorem or16 : ∀ a b : Fin 16, Go.bits .or .i64 ((a.val : Int) * 16) (b.val : Int) % 256 = ((a.val * 16 + b.val : Nat) : Int) := by decide +kernel
theorem or_hex {y z : UInt8} {v1 v2 : Int} (h1 : hexV y = v1) (h2 : hexV z = v2) (p1 : 0 ≤ v1) (p2 : 0 ≤ v2) : Go.bits .or .i64 (v1 * 16) v2 % 256 = ((hexB y z).toNat : Int) := by
 have r1 := (hexV_range y).2
 have r2 := (hexV_range z).2
 rw [h1] at r1
 rw [h2] at r2
 have h := or16 ⟨v1.toNat, by omega⟩ ⟨v2.toNat, by omega⟩
 simp only at h
 rw [Int.toNat_of_nonneg p1, Int.toNat_of_nonneg p2] at h
 rw [h, hexB, h1, h2]
 simp
 omega
theorem idx131 (w : World) (b : UInt8) (v : Int) (hv : hexV b = v) : Calls Try.prog 131 #[.string ⟨#[48, 49, 50, 51, 52, 53, 54, 55, 56, 57, 97, 98, 99, 100, 101, 102]⟩, .int .u8 (b.toNat : Int)] w fun e w' => e = .returned (.int .i64 v) ∧ ∃ m, w' = w.drewN m := by
 refine (Try.strings_IndexByte _ _ w).mono ?_
 rintro e w' ⟨rfl, rfl⟩
 refine ⟨?_, 0, rfl⟩
 rw [← hv, Int.toNat_natCast]
 unfold hexV digL
 simp
theorem val_34 (s : ByteArray) (j : Nat) (h : j < s.size) (hx : bN s j = 34) : valW stepP (s.data.toList.drop j) = (unqW stepP (s.data.toList.drop (j + 1))).map (fun q => ([] ++ q.1, q.2)) := by
 rw [bN_drop s j h, hx]
 show unqW stepP _ = _
 cases unqW stepP (s.data.toList.drop (j + 1)) <;> rfl
theorem val_end (s : ByteArray) (j : Nat) (h : s.size ≤ j) : valW stepP (s.data.toList.drop j) = none := by
 rw [List.drop_of_length_le (by simpa using h)]; rfl
theorem val_no (s : ByteArray) (j : Nat) (h : j < s.size) (hx : bN s j ≠ 34) : valW stepP (s.data.toList.drop j) = none := by
 rw [bN_drop s j h]
 generalize bN s j = y at hx
 unfold valW
 split
 ·rename_i e; cases e; exact absurd rfl hx
 ·rfl
theorem map_snoc {Q q : Option (List UInt8 × List UInt8)} {xs : List UInt8} {c : UInt8} {r : Option (List UInt8 × List UInt8)} (h : Q = q.map (fun q => (xs ++ q.1, q.2))) (hq : q = r.map (fun q => (c :: q.1, q.2))) : Q = r.map (fun q => ((xs ++ [c]) ++ q.1, q.2)) := by
 rw [h, hq]
 cases r <;> simp
theorem map_none' {Q q : Option (List UInt8 × List UInt8)} {xs : List UInt8} (h : Q = q.map (fun q => (xs ++ q.1, q.2))) (hq : q = none) : Q = none := by rw [h, hq]; rfl
/-- the frame at a label -/
def unqF (s : ByteArray) (j : Nat) (o : Value) (a : Act) : Prop :=
 ∃ f : Nat → Value, a = { tmps := #[.string s, .int .i64 (j : Int), undef, undef, f 4, f 5, f 6, o, f 8, f 9, f 10, f 11, f 12, f 13, f 14, f 15, f 16, f 17, f 18, f 19, f 20, f 21, f 22, f 23, f 24, f 25, f 26, f 27, f 28, f 29, f 30, f 31, f 32, f 33, f 34, f 35, f 36, f 37, f 38, f 39, f 40, f 41, f 42, f 43, f 44, f 45, f 46, f 47, f 48, f 49, f 50, f 51, f 52, f 53, f 54, f 55, f 56, f 57, f 58, f 59, f 60, f 61, f 62, f 63, f 64, f 65, f 66, f 67, f 68, f 69, f 70, f 71, f 72, f 73, f 74, f 75, f 76, f 77, f 78, f 79, f 80, f 81, f 82, f 83, f 84, f 85, f 86, f 87, f 88, f 89, f 90, f 91, f 92, f 93, f 94, f 95, f 96], defers := [] }
theorem unqF_mk (s : ByteArray) (j : Nat) (o : Value) (T : Array Value) (h : T = #[.string s, .int .i64 (j : Int), undef, undef, T.getD 4 undef, T.getD 5 undef, T.getD 6 undef, o, T.getD 8 undef, T.getD 9 undef, T.getD 10 undef, T.getD 11 undef, T.getD 12 undef, T.getD 13 undef, T.getD 14 undef, T.getD 15 undef, T.getD 16 undef, T.getD 17 undef, T.getD 18 undef, T.getD 19 undef, T.getD 20 undef, T.getD 21 undef, T.getD 22 undef, T.getD 23 undef, T.getD 24 undef, T.getD 25 undef, T.getD 26 undef, T.getD 27 undef, T.getD 28 undef, T.getD 29 undef, T.getD 30 undef, T.getD 31 undef, T.getD 32 undef, T.getD 33 undef, T.getD 34 undef, T.getD 35 undef, T.getD 36 undef, T.getD 37 undef, T.getD 38 undef, T.getD 39 undef, T.getD 40 undef, T.getD 41 undef, T.getD 42 undef, T.getD 43 undef, T.getD 44 undef, T.getD 45 undef, T.getD 46 undef, T.getD 47 undef, T.getD 48 undef, T.getD 49 undef, T.getD 50 undef, T.getD 51 undef, T.getD 52 undef, T.getD 53 undef, T.getD 54 undef, T.getD 55 undef, T.getD 56 undef, T.getD 57 undef, T.getD 58 undef, T.getD 59 undef, T.getD 60 undef, T.getD 61 undef, T.getD 62 undef, T.getD 63 undef, T.getD 64 undef, T.getD 65 undef, T.getD 66 undef, T.getD 67 undef, T.getD 68 undef, T.getD 69 undef, T.getD 70 undef, T.getD 71 undef, T.getD 72 undef, T.getD 73 undef, T.getD 74 undef, T.getD 75 undef, T.getD 76 undef, T.getD 77 undef, T.getD 78 undef, T.getD 79 undef, T.getD 80 undef, T.getD 81 undef, T.getD 82 undef, T.getD 83 undef, T.getD 84 undef, T.getD 85 undef, T.getD 86 undef, T.getD 87 undef, T.getD 88 undef, T.getD 89 undef, T.getD 90 undef, T.getD 91 undef, T.getD 92 undef, T.getD 93 undef, T.getD 94 undef, T.getD 95 undef, T.getD 96 undef]) : unqF s j o { tmps := T, defers := [] } := ⟨fun k => T.getD k undef, congrArg (fun t => ({ tmps := t, defers := [] } : Act)) h⟩
def unqJ (w : World) (s : ByteArray) (Q : Option (List UInt8 × List UInt8)) (n : Nat) (j : Nat) (a : Act) (w' : World) : Prop :=
 ∃ (o : Value) (xs : List UInt8), unqF s j o a ∧ j ≤ s.size ∧ (Kd.int .u8).R 5 w' w.heap.size (fun _ => True) o (ints xs) ∧ Q = (unqW stepP (s.data.toList.drop j)).map (fun q => (xs ++ q.1, q.2)) ∧ Below w.heap.size w w' ∧ xs.length ≤ j
def unqL (w : World) (s : ByteArray) (Q : Option (List UInt8 × List UInt8)) (l n : Nat) (a : Act) (w' : World) : Prop :=
 (l = 0 ∧ ∃ j, n = 2 * (s.size - j) + 1 ∧ unqJ w s Q n j a w') ∨ (l = 1 ∧ ∃ j, n = 0 ∧ j < s.size ∧ bN s j = 34 ∧ unqJ w s Q n j a w') ∨ (l = 2 ∧ ∃ j, n = 2 * (s.size - j) ∧ j < s.size ∧ bN s j = 92 ∧ unqJ w s Q n j a w')
set_option maxRecDepth 100000 in
set_option maxHeartbeats 8000000 in
theorem unq132 (w : World) (s : ByteArray) (i : Nat) (hi : i ≤ s.size) (hs : s.size ≤ 1000000000) :
  Calls Try.prog 132 #[.string s, .int .i64 i] w fun e w' => e = .returned (unqRet s.size (valW stepP (s.data.toList.drop i))) ∧ Below w.heap.size w w' := by
 obtain ⟨Q, hQ⟩ : ∃ Q, valW stepP (s.data.toList.drop i) = Q := ⟨_, rfl⟩
 rw [hQ]
 have HQ := Lib.hid hQ
 clear hQ
 go_enter Try.func132, Try.ntmps132
 go_wp2
 refine wp_scope_many (unqL w s Q) ?first ?pass
 case first =>
  intro hpass
  have HB := Lib.hid (Below.refl w.heap.size w)
  by_cases hlt : i < s.size
  ·obtain ⟨x, hx⟩ : ∃ x, bN s i = x := ⟨_, rfl⟩
   have hx0 := bN_at s i x hx
   have hge : decide (s.size ≤ i) = false := decide_eq_false (by omega)
   by_cases e34 : (x.toNat : Int) = 34
   ·have HQ2 := Lib.hid (HQ.out.symm.trans (val_34 s i hlt (hx.trans ((un_toNat (n := 34) (by decide)).1 e34))))
    clear hx
    go_wp2
    go_step3
    clear e34 hx0 hge
    have hHE : ∃ j : Nat, j = i + 1 ∧ (i : Int) + 1 = (j : Int) ∧ Hid (Q = (unqW stepP (s.data.toList.drop j)).map (fun q => (([] : List UInt8) ++ q.1, q.2))) := ⟨i + 1, rfl, rfl, HQ2⟩
    obtain ⟨j, ej, ejI, HE⟩ := hHE
    rw [ejI]
    have hjs : j ≤ s.size := by omega
    clear ej ejI HQ2
    have HR := Lib.hid (Kd.R_nil (d := Kd.int .u8) 5 w w.heap.size (fun _ => True))
    obtain ⟨o, eo⟩ : ∃ o, Value.slice none 0 0 = o := ⟨_, rfl⟩
    rw [eo] at HR
    obtain ⟨xs, exs⟩ : ∃ xs : List UInt8, ([] : List UInt8) = xs := ⟨_, rfl⟩
    have hl : xs.length ≤ j := by rw [← exs]; exact Nat.zero_le _
    rw [exs] at HE
    have HR := Lib.hid (show (Kd.int .u8).R 5 w w.heap.size (fun _ => True) o (ints xs) from by rw [← exs]; exact HR.out)
    clear exs
    rw [eo]
    clear eo
    by_cases hlj : j < s.size
    ·obtain ⟨x, hx⟩ : ∃ x, bN s j = x := ⟨_, rfl⟩
     have hx0 := bN_at s j x hx
     have hge : decide (s.size ≤ j) = false := decide_eq_false (by omega)
     have HX := Lib.hid hx
     clear hx
     by_cases e34 : (x.toNat : Int) = 34
     ·go_wp2
      go_step3
      exact (show ∃ m, unqL w s Q 1 m _ _ from ⟨0, Or.inr (Or.inl ⟨rfl, j, rfl, hlj, HX.out.trans ((un_toNat (n := 34) (by decide)).1 e34), o, xs, unqF_mk s j o _ rfl, hjs, HR.out, HE.out, HB.out, hl⟩)⟩)
     ·have n34 : ((x.toNat : Int) == 34) = false := beq_eq_false_iff_ne.2 e34
      by_cases e92 : (x.toNat : Int) = 92
      ·go_wp2
       go_step3
       exact (show ∃ m, unqL w s Q 2 m _ _ from ⟨_, Or.inr (Or.inr ⟨rfl, j, rfl, hlj, HX.out.trans ((un_toNat (n := 92) (by decide)).1 e92), o, xs, unqF_mk s j o _ rfl, hjs, HR.out, HE.out, HB.out, hl⟩)⟩)
      ·have n92 : ((x.toNat : Int) == 92) = false := beq_eq_false_iff_ne.2 e92
       have HE2 := Lib.hid (map_snoc HE.out (unq_raw s j hlj x HX.out (fun e => e34 (by rw [e]; rfl)) (fun e => e92 (by rw [e]; rfl))))
       go_wp2_with (at_builtin; refine Kd.R_append (Kd.int .u8) (w0 := w) w.heap.size rfl (.tmp 33) (.tmp 37) 85 5 (.int .u8 0) 1 rfl Try.underlying85 info5 rfl (by decide) (by omega) o (ints xs) ((x.toNat : Int)) [.int .u8 ((x.toNat : Int))] (fun _ => True) (fun _ => False) rfl rfl rfl (fun _ hk => hk.elim) (fun _ _ => trivial) HR.out HB.out (below_size HB.out) (by rw [ints_len]; omega) ?_; intro v1 w1 hown1 hbel1 hg1 hat1; clear hg1 hat1)
       have HO := Lib.hid (show (Kd.int .u8).R 5 w1 w.heap.size (fun _ => True) v1 (ints (xs ++ [x])) from by rw [ints_app]; exact hown1)
       have HB1 := Lib.hid hbel1
       clear hown1 hbel1
       go_wp2
       go_step3
       exact (show ∃ m, unqL w s Q 0 m _ _ from ⟨_, Or.inl ⟨rfl, j + 1, rfl, v1, xs ++ [x], unqF_mk s (j + 1) v1 _ rfl, by omega, HO.out, HE2.out, HB1.out, by rw [List.length_append, List.length_singleton]; omega⟩⟩)
    ·have hge : decide (s.size ≤ j) = true := decide_eq_true (by omega)
     have HE2 := Lib.hid (map_none' HE.out (unq_end s j (by omega)))
     go_wp2
     rw [jumps_ret]
     go_ret3
     exact ⟨by rw [HE2.out]; rfl, HB.out⟩
   ·have HQ2 := Lib.hid (HQ.out.symm.trans (val_no s i hlt (fun e => e34 ((un_toNat (n := 34) (by decide)).2 (hx.symm.trans e)))))
    have n34 : ((x.toNat : Int) == 34) = false := beq_eq_false_iff_ne.2 e34
    have n34b : ((x.toNat : Int) != 34) = true := by simp [bne, n34]
    clear hx
    go_wp2
    rw [jumps_ret]
    go_ret3
    exact ⟨by rw [HQ2.out]; rfl, HB.out⟩
  ·have HQ2 := Lib.hid (HQ.out.symm.trans (val_end s i (by omega)))
   have hge : decide (s.size ≤ i) = true := decide_eq_true (by omega)
   go_wp2
   rw [jumps_ret]
   go_ret3
   exact ⟨by rw [HQ2.out]; rfl, HB.out⟩
 case pass =>
  rintro l n a w' (⟨rfl, j, rfl, hJ⟩ | ⟨rfl, j, rfl, hj, hx, hJ⟩ | ⟨rfl, j, rfl, hj, hx, hJ⟩)
  ·refine ⟨_, rfl, ?_⟩
   obtain ⟨o, xs, ⟨f, rfl⟩, hj, hR, hE, hB, hl⟩ := hJ
   have HR := Lib.hid hR
   have HE := Lib.hid hE
   have HB := Lib.hid hB
   clear hR hE hB
   by_cases hlt : j < s.size
   ·obtain ⟨x, hx⟩ : ∃ x, bN s j = x := ⟨_, rfl⟩
    have hx0 := bN_at s j x hx
    have hge : decide (s.size ≤ j) = false := decide_eq_false (by omega)
    have HX := Lib.hid hx
    clear hx
    by_cases e34 : (x.toNat : Int) = 34
    ·go_wp2
     go_step3
     exact (show ∃ m, m < 2 * (s.size - j) + 1 ∧ unqL w s Q 1 m _ _ from ⟨0, by omega, Or.inr (Or.inl ⟨rfl, j, rfl, hlt, HX.out.trans ((un_toNat (n := 34) (by decide)).1 e34), o, xs, unqF_mk s j o _ rfl, hj, HR.out, HE.out, HB.out, hl⟩)⟩)
    ·have n34 : ((x.toNat : Int) == 34) = false := beq_eq_false_iff_ne.2 e34
     by_cases e92 : (x.toNat : Int) = 92
     ·go_wp2
      go_step3
      exact (show ∃ m, m < 2 * (s.size - j) + 1 ∧ unqL w s Q 2 m _ _ from ⟨_, by omega, Or.inr (Or.inr ⟨rfl, j, rfl, hlt, HX.out.trans ((un_toNat (n := 92) (by decide)).1 e92), o, xs, unqF_mk s j o _ rfl, hj, HR.out, HE.out, HB.out, hl⟩)⟩)
     ·have n92 : ((x.toNat : Int) == 92) = false := beq_eq_false_iff_ne.2 e92
      have HE2 := Lib.hid (map_snoc HE.out (unq_raw s j hlt x HX.out (fun e => e34 (by rw [e]; rfl)) (fun e => e92 (by rw [e]; rfl))))
      go_wp2_with (at_builtin; refine Kd.R_append (Kd.int .u8) (w0 := w) w.heap.size rfl (.tmp 33) (.tmp 37) 85 5 (.int .u8 0) 1 rfl Try.underlying85 info5 rfl (by decide) (by omega) o (ints xs) ((x.toNat : Int)) [.int .u8 ((x.toNat : Int))] (fun _ => True) (fun _ => False) rfl rfl rfl (fun _ hk => hk.elim) (fun _ _ => trivial) HR.out HB.out (below_size HB.out) (by rw [ints_len]; omega) ?_; intro v1 w1 hown1 hbel1 hg1 hat1; clear hg1 hat1)
      have HO := Lib.hid (show (Kd.int .u8).R 5 w1 w.heap.size (fun _ => True) v1 (ints (xs ++ [x])) from by rw [ints_app]; exact hown1)
      have HB1 := Lib.hid hbel1
      clear hown1 hbel1
      go_wp2
      go_step3
      exact (show ∃ m, m < 2 * (s.size - j) + 1 ∧ unqL w s Q 0 m _ _ from ⟨_, by omega, Or.inl ⟨rfl, j + 1, rfl, v1, xs ++ [x], unqF_mk s (j + 1) v1 _ rfl, by omega, HO.out, HE2.out, HB1.out, by rw [List.length_append, List.length_singleton]; omega⟩⟩)
   ·have hge : decide (s.size ≤ j) = true := decide_eq_true (by omega)
    have HE2 := Lib.hid (map_none' HE.out (unq_end s j (by omega)))
    go_wp2
    rw [jumps_ret]
    go_ret3
    exact ⟨by rw [HE2.out]; rfl, HB.out⟩
  ·refine ⟨_, rfl, ?_⟩
   obtain ⟨o, xs, ⟨f, rfl⟩, hjs, hR, hE, hB, hl⟩ := hJ
   have HR := Lib.hid hR
   have HE := Lib.hid hE
   have HB := Lib.hid hB
   have HX := Lib.hid hx
   clear hR hE hB hx
   have hcv := own_string (P := Try.prog) Try.underlying85 Try.underlying5 Try.underlying9 (Kd.own_of_R HR.out)
   have HE2 := Lib.hid (HE.out.trans (congrArg (Option.map (fun q => (xs ++ q.1, q.2))) (unq_34 s j hj HX.out)))
   go_wp2
   rw [jumps_ret]
   go_ret3
   refine ⟨?_, HB.out⟩
   rw [HE2.out]
   have h1 : strOfNums (ints xs) = ⟨xs.toArray⟩ := Lib.Lz.strOfNums_map xs
   have h2 : ((s.size : Int) - ((s.data.toList.drop (j + 1)).length : Nat)) = (j : Int) + 1 := by rw [drop_len]; omega
   show _ = Ending.returned (.tuple #[.string ⟨(xs ++ []).toArray⟩, .int .i64 ((s.size : Int) - ((s.data.toList.drop (j + 1)).length : Nat)), .bool true])
   rw [h2, List.append_nil, ← h1]
   rfl
  ·refine ⟨_, rfl, ?_⟩
   obtain ⟨o, xs, ⟨f, rfl⟩, hjs, hR, hE, hB, hl⟩ := hJ
   have HR := Lib.hid hR
   have HE := Lib.hid hE
   have HB := Lib.hid hB
   have HX := Lib.hid hx
   clear hR hE hB hx
   by_cases h2 : s.size < j + 2
   ·have HE2 := Lib.hid (map_none' HE.out (unq_short s j hj h2 HX.out))
    have d4 : decide ((4 : Int) ≤ (s.size : Int) - (j : Int)) = false := decide_eq_false (by omega)
    have d2 : decide ((s.size : Int) - (j : Int) < (2 : Int)) = true := decide_eq_true (by omega)
    have n4 : ¬ (4 : Int) ≤ (s.size : Int) - (j : Int) := by omega
    have n2 : (s.size : Int) - (j : Int) < (2 : Int) := by omega
    go_wp2
    rw [jumps_ret]
    go_ret3
    exact ⟨by rw [HE2.out]; rfl, HB.out⟩
   ·have d2 : decide ((s.size : Int) - (j : Int) < (2 : Int)) = false := decide_eq_false (by omega)
    have n2 : ¬ (s.size : Int) - (j : Int) < (2 : Int) := by omega
    obtain ⟨x1, hx1⟩ : ∃ x, bN s (j + 1) = x := ⟨_, rfl⟩
    have g1 := bN_at s (j + 1) x1 hx1
    have HX1 := Lib.hid hx1
    clear hx1
    have b1 : (j : Int) + 1 < (s.size : Int) := by omega
    have b1n : j + 1 < s.size := by omega
    by_cases h4 : j + 4 ≤ s.size
    ·have d4 : decide ((4 : Int) ≤ (s.size : Int) - (j : Int)) = true := decide_eq_true (by omega)
     have n4 : (4 : Int) ≤ (s.size : Int) - (j : Int) := by omega
     by_cases e120 : (x1.toNat : Int) = 120
     ·obtain ⟨y, hy⟩ : ∃ x, bN s (j + 2) = x := ⟨_, rfl⟩
      obtain ⟨z, hz⟩ : ∃ x, bN s (j + 3) = x := ⟨_, rfl⟩
      have g2 := bN_at s (j + 2) y hy
      have g3 := bN_at s (j + 3) z hz
      have HE0 := unq_hex s j h4 HX.out (HX1.out.trans ((un_toNat (n := 120) (by decide)).1 e120)) y z hy hz
      obtain ⟨v1, hv1⟩ : ∃ v, hexV y = v := ⟨_, rfl⟩
      obtain ⟨v2, hv2⟩ : ∃ v, hexV z = v := ⟨_, rfl⟩
      rw [hv1, hv2] at HE0
      have HV1 := Lib.hid hv1
      have HV2 := Lib.hid hv2
      have HE0 := Lib.hid HE0
      clear hy hz hv1 hv2
      have b2 : (j : Int) + 2 < (s.size : Int) := by omega
      have b3 : (j : Int) + 3 < (s.size : Int) := by omega
      have b2n : j + 2 < s.size := by omega
      have b3n : j + 3 < s.size := by omega
      go_wp2
      have wr2 : IntKind.i64.wrap ((j : Int) + 2) = (j : Int) + 2 := by rw [i64_w]; unfold wrap64; omega
      have wr3 : IntKind.i64.wrap ((j : Int) + 3) = (j : Int) + 3 := by rw [i64_w]; unfold wrap64; omega
      have p2 : (0 : Int) ≤ (j : Int) + 2 := by omega
      have p3 : (0 : Int) ≤ (j : Int) + 3 := by omega
      have g2' : ∀ h : ((j : Int) + 2).toNat < s.size, ((s[((j : Int) + 2).toNat]'h).toNat : Int) = (y.toNat : Int) := fun h => g2 b2n
      have g3' : ∀ h : ((j : Int) + 3).toNat < s.size, ((s[((j : Int) + 3).toNat]'h).toNat : Int) = (z.toNat : Int) := fun h => g3 b3n
      go_quiet (first | (go_at_call 131; first | exact Calls.quiet_of (idx131 _ y v1 HV1.out) | exact Calls.quiet_of (idx131 _ z v2 HV2.out)))
      obtain ⟨l1, m1⟩ := hexV_range y
      obtain ⟨l2, m2⟩ := hexV_range z
      rw [HV1.out] at l1 m1
      rw [HV2.out] at l2 m2
      have HB := Lib.hid (pw_below_drewN HB.out nq)
      have HR := Lib.hid (Kd.R_drewN HR.out nq)
      generalize w'.drewN nq = W at HB HR ⊢
      by_cases q1 : v1 < 0
      ·have HE2 := Lib.hid (map_none' HE.out (HE0.out.trans (if_pos (Or.inl q1))))
       go_wp2
       rw [jumps_ret]
       go_ret3
       exact ⟨by rw [HE2.out]; rfl, HB.out⟩
      ·by_cases q2 : v2 < 0
       ·have HE2 := Lib.hid (map_none' HE.out (HE0.out.trans (if_pos (Or.inr q2))))
        go_wp2
        rw [jumps_ret]
        go_ret3
        exact ⟨by rw [HE2.out]; rfl, HB.out⟩
       ·have HE2 := Lib.hid (map_snoc HE.out (HE0.out.trans (if_neg (fun h => h.elim q1 q2))))
        go_wp2_with (at_builtin; refine Kd.R_append (Kd.int .u8) (w0 := w) w.heap.size rfl (.tmp 69) (.tmp 75) 85 5 (.int .u8 0) 1 rfl Try.underlying85 info5 rfl (by decide) (by omega) o (ints xs) (Go.bits .or .i64 (v1 * 16) v2 % 256) [.int .u8 (Go.bits .or .i64 (v1 * 16) v2 % 256)] (fun _ => True) (fun _ => False) rfl rfl rfl (fun _ hk => hk.elim) (fun _ _ => trivial) HR.out HB.out (below_size HB.out) (by rw [ints_len]; omega) ?_; intro o1 w1 hown1 hbel1 hg1 hat1; clear hg1 hat1)
        rw [or_hex HV1.out HV2.out (by omega) (by omega)] at hown1
        have HO := Lib.hid (show (Kd.int .u8).R 5 w1 w.heap.size (fun _ => True) o1 (ints (xs ++ [hexB y z])) from by rw [ints_app]; exact hown1)
        have HB1 := Lib.hid hbel1
        clear hown1 hbel1
        go_wp2
        go_step3
        exact (show ∃ m, m < 2 * (s.size - j) ∧ unqL w s Q 0 m _ _ from ⟨_, by omega, Or.inl ⟨rfl, j + 4, rfl, o1, xs ++ [hexB y z], unqF_mk s (j + 4) o1 _ rfl, by omega, HO.out, HE2.out, HB1.out, by rw [List.length_append, List.length_singleton]; omega⟩⟩)
     ·have n120 : ((x1.toNat : Int) == 120) = false := beq_eq_false_iff_ne.2 e120
      have HE2 := Lib.hid (map_snoc HE.out (unq_next s j (by omega) HX.out (fun h => e120 (by rw [← HX1.out, h.2]; rfl)) x1 HX1.out))
      go_wp2_with (at_builtin; refine Kd.R_append (Kd.int .u8) (w0 := w) w.heap.size rfl (.tmp 84) (.tmp 89) 85 5 (.int .u8 0) 1 rfl Try.underlying85 info5 rfl (by decide) (by omega) o (ints xs) ((x1.toNat : Int)) [.int .u8 ((x1.toNat : Int))] (fun _ => True) (fun _ => False) rfl rfl rfl (fun _ hk => hk.elim) (fun _ _ => trivial) HR.out HB.out (below_size HB.out) (by rw [ints_len]; omega) ?_; intro v1 w1 hown1 hbel1 hg1 hat1; clear hg1 hat1)
      have HO := Lib.hid (show (Kd.int .u8).R 5 w1 w.heap.size (fun _ => True) v1 (ints (xs ++ [x1])) from by rw [ints_app]; exact hown1)
      have HB1 := Lib.hid hbel1
      clear hown1 hbel1
      go_wp2
      go_step3
      exact (show ∃ m, m < 2 * (s.size - j) ∧ unqL w s Q 0 m _ _ from ⟨_, by omega, Or.inl ⟨rfl, j + 2, rfl, v1, xs ++ [x1], unqF_mk s (j + 2) v1 _ rfl, by omega, HO.out, HE2.out, HB1.out, by rw [List.length_append, List.length_singleton]; omega⟩⟩)
    ·have d4 : decide ((4 : Int) ≤ (s.size : Int) - (j : Int)) = false := decide_eq_false (by omega)
     have n4 : ¬ (4 : Int) ≤ (s.size : Int) - (j : Int) := by omega
     have HE2 := Lib.hid (map_snoc HE.out (unq_next s j (by omega) HX.out (fun h => h4 h.1) x1 HX1.out))
     go_wp2_with (at_builtin; refine Kd.R_append (Kd.int .u8) (w0 := w) w.heap.size rfl (.tmp 84) (.tmp 89) 85 5 (.int .u8 0) 1 rfl Try.underlying85 info5 rfl (by decide) (by omega) o (ints xs) ((x1.toNat : Int)) [.int .u8 ((x1.toNat : Int))] (fun _ => True) (fun _ => False) rfl rfl rfl (fun _ hk => hk.elim) (fun _ _ => trivial) HR.out HB.out (below_size HB.out) (by rw [ints_len]; omega) ?_; intro v1 w1 hown1 hbel1 hg1 hat1; clear hg1 hat1)
     have HO := Lib.hid (show (Kd.int .u8).R 5 w1 w.heap.size (fun _ => True) v1 (ints (xs ++ [x1])) from by rw [ints_app]; exact hown1)
     have HB1 := Lib.hid hbel1
     clear hown1 hbel1
     go_wp2
     go_step3
     exact (show ∃ m, m < 2 * (s.size - j) ∧ unqL w s Q 0 m _ _ from ⟨_, by omega, Or.inl ⟨rfl, j + 2, rfl, v1, xs ++ [x1], unqF_mk s (j + 2) v1 _ rfl, by omega, HO.out, HE2.out, HB1.out, by rw [List.length_append, List.length_singleton]; omega⟩⟩)
end Go.Proofs.Yteafilojjdfllaa
end
section
namespace Go.Proofs.Yteafilojjdfllaa
open Go Go.Proofs.Yteafilojjdfllaa.PAll
mutual
/-- a matcher as a text -/
def textM : S25 → List UInt8
 | ⟨op, n, v, vs, ks⟩ =>
  if op = 0 then [42] else if op = 1 then n.data.toList ++ 61 :: quoteT v else if op = 2 then n.data.toList ++ 33 :: 61 :: quoteT v
  else if op = 3 then n.data.toList ++ 94 :: 61 :: quoteT v else if op = 4 then n.data.toList ++ 64 :: 40 :: (commas (vs.map quoteT) ++ [41])
  else (if op = 5 then 38 else if op = 6 then 124 else 33) :: 40 :: (commas (textsM ks) ++ [41])
def textsM : List S25 → List (List UInt8)
 | [] => []
 | k :: ks => textM k :: textsM ks
end
theorem textsM_map : ∀ (ks : List S25), textsM ks = ks.map textM
 | [] => rfl
 | k :: ks => by rw [textsM, textsM_map ks, List.map_cons]
theorem textM_mk (m : S25) : textM m = if m.f0 = 0 then [42] else if m.f0 = 1 then m.f1.data.toList ++ 61 :: quoteT m.f2 else if m.f0 = 2 then m.f1.data.toList ++ 33 :: 61 :: quoteT m.f2
  else if m.f0 = 3 then m.f1.data.toList ++ 94 :: 61 :: quoteT m.f2 else if m.f0 = 4 then m.f1.data.toList ++ 64 :: 40 :: (commas (m.f3.map quoteT) ++ [41])
  else (if m.f0 = 5 then 38 else if m.f0 = 6 then 124 else 33) :: 40 :: (commas (m.f4.map textM) ++ [41]) := by
 cases m; simp only [textM, textsM_map]
/-- the sign behind a name, and the rest -/
def textN (op : Int) (v : ByteArray) (vs : List ByteArray) : UInt8 × List UInt8 :=
 if op = 1 then (61, quoteT v) else if op = 2 then (33, 61 :: quoteT v) else if op = 3 then (94, 61 :: quoteT v) else (64, 40 :: (commas (vs.map quoteT) ++ [41]))
theorem text_0 : textM ⟨0, ⟨#[]⟩, ⟨#[]⟩, [], []⟩ = [42] := rfl
theorem text_n {op : Int} {n v : ByteArray} {vs : List ByteArray} (h : op = 1 ∨ op = 2 ∨ op = 3 ∨ op = 4) : textM ⟨op, n, v, vs, []⟩ = n.data.toList ++ (textN op v vs).1 :: (textN op v vs).2 := by
 rcases h with rfl | rfl | rfl | rfl <;> rfl
theorem text_k {op : Int} {ks : List S25} (h : op = 5 ∨ op = 6 ∨ op = 7) : textM ⟨op, ⟨#[]⟩, ⟨#[]⟩, [], ks⟩ = (if op = 5 then 38 else if op = 6 then 124 else 33) :: 40 :: (commas (ks.map textM) ++ [41]) := by
 rw [textM_mk]
 rcases h with rfl | rfl | rfl <;> rfl
theorem text_head {m : S25} (h : okM m = true) : ∃ c r, textM m = c :: r ∧ c ≠ 41 := by
 rcases shape h with rfl | ⟨op, n, v, ho, hn, rfl⟩ | ⟨n, vs, hn, rfl⟩ | ⟨op, ks, ho, hk, rfl⟩
 ·exact ⟨42, [], rfl, by decide⟩
 ·obtain ⟨c, r, e, hc⟩ := nameB_cons hn
  rw [text_n (by omega), e]
  exact ⟨c, _, rfl, fun h => by rw [h] at hc; cases hc⟩
 ·obtain ⟨c, r, e, hc⟩ := nameB_cons hn
  rw [text_n (by omega), e]
  exact ⟨c, _, rfl, fun h => by rw [h] at hc; cases hc⟩
 ·rw [text_k ho]
  refine ⟨_, _, rfl, ?_⟩
  rcases ho with rfl | rfl | rfl <;> decide
theorem values_len : ∀ (vs : List ByteArray), ((vs.map quoteT).map (fun x => x.length + 1)).sum ≤ 4 * sizes vs + 3 * vs.length
 | [] => by simp
 | v :: vs => by
  have := values_len vs
  have := quoteT_len v
  simp only [List.map_cons, List.sum_cons, sizes, List.length_cons]
  omega
theorem ok_vals16 {n v : ByteArray} {vs : List ByteArray} {ks : List S25} (h : okM ⟨4, n, v, vs, ks⟩ = true) : vs.length ≤ 16 := by
 rw [okM_mk, Bool.and_eq_true] at h
 have h1 := h.1
 unfold aloneB at h1
 rw [if_neg (show ¬ (4 : Int) = 0 by decide), if_neg (show ¬ ((4 : Int) = 1 ∨ (4 : Int) = 2 ∨ (4 : Int) = 3) by decide), if_pos rfl, Bool.and_eq_true] at h1
 have h2 := h1.2
 unfold valuesB at h2
 rw [Bool.and_eq_true, Bool.and_eq_true, decide_eq_true_iff] at h2
 exact h2.1.1.2
theorem textM_len : ∀ (N : Nat) (m : S25), nodesM m ≤ N → okM m = true → (textM m).length + 1 ≤ 4 * bytesM m + 60 * nodesM m := by
 intro N
 induction N with
 | zero => intro m h; rw [nodesM_mk] at h; omega
 | succ N ih =>
  intro m hN h
  rcases shape h with rfl | ⟨op, n, v, ho, hn, rfl⟩ | ⟨n, vs, hn, rfl⟩ | ⟨op, ks, ho, hk, rfl⟩
  ·rw [text_0, nodesM_mk]; simp only [List.length_cons, List.length_nil]; omega
  ·rw [text_n (by omega), nodesM_mk, bytesM_mk]
   have e : n.data.toList.length = n.size := by simp
   have q := quoteT_len v
   simp only [List.length_append, List.length_cons]
   have : (textN op v []).2.length ≤ 4 * v.size + 3 := by
    rcases ho with rfl | rfl | rfl <;> simp [textN] <;> omega
   omega
  ·have h16 := ok_vals16 h
   rw [text_n (by omega), nodesM_mk, bytesM_mk]
   have e : n.data.toList.length = n.size := by simp
   have q := values_len vs
   have c := commas_len (vs.map quoteT)
   have : (textN 4 ⟨#[]⟩ vs).2 = 40 :: (commas (vs.map quoteT) ++ [41]) := rfl
   rw [this]
   simp only [List.length_append, List.length_cons, List.length_nil]
   omega
  ·have kids : ∀ (l : List S25), (∀ k ∈ l, okM k = true ∧ nodesM k ≤ N) → ((l.map textM).map (fun x => x.length + 1)).sum ≤ 4 * bytesL l + 60 * nodesL l := by
    intro l
    induction l with
    | nil => intro _; simp
    | cons k l il =>
     intro hl
     have h1 := hl k (List.mem_cons_self ..)
     have := ih k h1.2 h1.1
     have := il (fun x hx => hl x (List.mem_cons_of_mem _ hx))
     simp only [List.map_cons, List.sum_cons, bytesL, nodesL]
     omega
   have := kids ks (fun k hk2 => ⟨okL_mem hk hk2, by have := nodes_lt ⟨op, ⟨#[]⟩, ⟨#[]⟩, [], ks⟩ k hk2; omega⟩)
   have c := commas_len (ks.map textM)
   rw [text_k ho, nodesM_mk, bytesM_mk]
   simp only [List.length_append, List.length_cons, List.length_nil]
   omega
end Go.Proofs.Yteafilojjdfllaa
end
section
namespace Go.Proofs.Yteafilojjdfllaa
open Go Go.Proofs.Yteafilojjdfllaa.PAll
/-- texts between quotes, a comma between, a parenthesis behind: so many at most -/
def valsW (step : List UInt8 → Step) : Nat → List UInt8 → Option (List ByteArray × List UInt8)
 | 0, _ => none
 | k + 1, r => match valW step r with
  | none => none
  | some (_, []) => none
  | some (v, c :: t) => if c = 41 then some ([⟨v.toArray⟩], t) else if c = 44 then (valsW step k t).map (fun q => (⟨v.toArray⟩ :: q.1, q.2)) else none
/-- what begins with a name -/
def namedW (cut : List UInt8 → Nat) (step : List UInt8 → Step) (emp : Bool) (r : List UInt8) : Option (S25 × List UInt8) :=
 let n : ByteArray := ⟨(r.take (cut r)).toArray⟩
 match r.drop (cut r) with
 | [] => none
 | c :: q =>
  if c = 61 then (valW step q).map (fun p => (⟨1, n, ⟨p.1.toArray⟩, [], []⟩, p.2))
  else if c = 33 then (match q with | [] => none | e :: q => if e = 61 then (valW step q).map (fun p => (⟨2, n, ⟨p.1.toArray⟩, [], []⟩, p.2)) else none)
  else if c = 94 then (match q with | [] => none | e :: q => if e = 61 then (valW step q).map (fun p => (⟨3, n, ⟨p.1.toArray⟩, [], []⟩, p.2)) else none)
  else if c = 64 then (match q with
   | [] => none
   | e :: q => if e = 40 then (if emp = true ∧ q.head? = some 41 then some (⟨4, n, ⟨#[]⟩, [], []⟩, q.drop 1) else (valsW step 17 q).map (fun p => (⟨4, n, ⟨#[]⟩, p.1, []⟩, p.2))) else none)
  else none
mutual
/-- a matcher: so deep it may be yet, so many matchers may be yet; what is left of them, and of the bytes -/
def readM (cut : List UInt8 → Nat) (step : List UInt8 → Step) (emp : Bool) : Nat → Nat → List UInt8 → Option (S25 × Nat × List UInt8)
 | 0, _, _ => none
 | _, 0, _ => none
 | _, _, [] => none
 | d + 1, left + 1, c :: r =>
  if c = 42 then some (⟨0, ⟨#[]⟩, ⟨#[]⟩, [], []⟩, left, r)
  else if c = 38 ∨ c = 124 ∨ c = 33 then (match r with
   | [] => none
   | e :: q => if e = 40 then (if q.head? = some 41 then some (⟨if c = 38 then 5 else if c = 124 then 6 else 7, ⟨#[]⟩, ⟨#[]⟩, [], []⟩, left, q.drop 1)
     else (readML cut step emp d 65 left q).map (fun p => (⟨if c = 38 then 5 else if c = 124 then 6 else 7, ⟨#[]⟩, ⟨#[]⟩, [], p.1⟩, p.2))) else none)
  else (namedW cut step emp (c :: r)).map (fun p => (p.1, left, p.2))
termination_by d _ _ => (d, 0)
def readML (cut : List UInt8 → Nat) (step : List UInt8 → Step) (emp : Bool) : Nat → Nat → Nat → List UInt8 → Option (List S25 × Nat × List UInt8)
 | _, 0, _, _ => none
 | d, k + 1, left, r => match readM cut step emp d left r with
  | none => none
  | some (_, _, []) => none
  | some (m, left1, c :: t) => if c = 41 then some ([m], left1, t) else if c = 44 then (readML cut step emp d k left1 t).map (fun p => (m :: p.1, p.2)) else none
termination_by d k _ _ => (d, k)
end
/-- the program's: a name ends at the first of four signs -/
def cutM : Nat → List UInt8 → Nat
 | 0, _ => 0
 | _, [] => 0
 | k + 1, c :: r => if c = 61 ∨ c = 33 ∨ c = 94 ∨ c = 64 then 0 else cutM k r + 1
def Cuts (cut : List UInt8 → Nat) : Prop := ∀ (n : ByteArray), nameB n = true → ∀ c s, (c = 61 ∨ c = 33 ∨ c = 94 ∨ c = 64) → cut (n.data.toList ++ c :: s) = n.data.toList.length
theorem cutM_go : ∀ (n : List UInt8) (k : Nat) (c : UInt8) (s : List UInt8), n.all nameC = true → n.length < k → (c = 61 ∨ c = 33 ∨ c = 94 ∨ c = 64) → cutM k (n ++ c :: s) = n.length
 | [], 0, _, _, _, h, _ => absurd h (Nat.not_lt_zero _)
 | [], k + 1, c, s, _, _, hc => by rw [List.nil_append, cutM, if_pos hc]; rfl
 | x :: n, 0, _, _, _, h, _ => absurd h (Nat.not_lt_zero _)
 | x :: n, k + 1, c, s, h, hk, hc => by
  rw [List.all_cons, Bool.and_eq_true] at h
  rw [List.cons_append, cutM, if_neg ?_, cutM_go n k c s h.2 (by simpa using hk) hc]
  ·rfl
  ·rintro (e | e | e | e) <;> rw [e] at h <;> exact absurd h.1 (by decide)
theorem cuts_M : Cuts (cutM 33) := fun n hn c s hc => cutM_go _ 33 c s (nameB_all hn) (by have := nameB_size hn; omega) hc
theorem vals_text {step : List UInt8 → Step} (hr : Right step) (t : List UInt8) : ∀ (l : List ByteArray) (k : Nat), l ≠ [] → l.length ≤ k → valsW step k (commas (l.map quoteT) ++ 41 :: t) = some (l, t)
 | [], _, h, _ => absurd rfl h
 | x :: l, 0, _, h => by simp at h
 | [x], k + 1, _, _ => by
  show valsW step (k + 1) (quoteT x ++ 41 :: t) = _
  rw [valsW, val_quote hr]
  simp
 | x :: y :: l, k + 1, _, h => by
  show valsW step (k + 1) ((quoteT x ++ 44 :: commas ((y :: l).map quoteT)) ++ 41 :: t) = _
  rw [List.append_assoc, valsW, val_quote hr]
  simp only [List.cons_append]
  rw [if_neg (by decide), if_pos trivial, vals_text hr t (y :: l) k (by simp) (by simpa using h)]
  simp
theorem commas_head (l : List ByteArray) (h : l ≠ []) (t : List UInt8) : (commas (l.map quoteT) ++ t).head? = some 34 := by
 match l, h with
 | [x], _ => rfl
 | x :: y :: r, _ => rfl
theorem named_text {cut : List UInt8 → Nat} {step : List UInt8 → Step} {emp : Bool} (hr : Right step) (hc : Cuts cut) {m : S25} (hn : nameB m.f1 = true) (hk : m.f4 = []) (h : (m.f0 = 1 ∨ m.f0 = 2 ∨ m.f0 = 3) ∧ m.f3 = [] ∨ m.f0 = 4 ∧ m.f2 = ⟨#[]⟩ ∧ m.f3 ≠ [] ∧ m.f3.length ≤ 17) (t : List UInt8) :
  namedW cut step emp (textM m ++ t) = some (m, t) := by
 obtain ⟨op, n, v, vs, ks⟩ := m
 simp only at hn hk h
 subst hk
 have hcut : ∀ c s, (c = 61 ∨ c = 33 ∨ c = 94 ∨ c = 64) → (n.data.toList ++ c :: s).take (cut (n.data.toList ++ c :: s)) = n.data.toList ∧ (n.data.toList ++ c :: s).drop (cut (n.data.toList ++ c :: s)) = c :: s := by
  intro c s h; rw [hc n hn c s h]; simp
 rcases h with ⟨ho, rfl⟩ | ⟨rfl, rfl, hv, hl⟩
 ·rcases ho with rfl | rfl | rfl
  ·obtain ⟨e1, e2⟩ := hcut 61 (quoteT v ++ t) (by simp)
   rw [show textM ⟨1, n, v, [], []⟩ = n.data.toList ++ 61 :: quoteT v from rfl]
   simp only [List.append_assoc, List.cons_append]
   unfold namedW
   simp only [e1, e2]
   rw [if_pos trivial, val_quote hr]; simp
  ·obtain ⟨e1, e2⟩ := hcut 33 (61 :: (quoteT v ++ t)) (by simp)
   rw [show textM ⟨2, n, v, [], []⟩ = n.data.toList ++ 33 :: 61 :: quoteT v from rfl]
   simp only [List.append_assoc, List.cons_append]
   unfold namedW
   simp only [e1, e2]
   rw [if_neg (by decide), if_pos trivial, if_pos trivial, val_quote hr]; simp
  ·obtain ⟨e1, e2⟩ := hcut 94 (61 :: (quoteT v ++ t)) (by simp)
   rw [show textM ⟨3, n, v, [], []⟩ = n.data.toList ++ 94 :: 61 :: quoteT v from rfl]
   simp only [List.append_assoc, List.cons_append]
   unfold namedW
   simp only [e1, e2]
   rw [if_neg (by decide), if_neg (by decide), if_pos trivial, if_pos trivial, val_quote hr]; simp
 ·obtain ⟨e1, e2⟩ := hcut 64 (40 :: (commas (vs.map quoteT) ++ 41 :: t)) (by simp)
  rw [show textM ⟨4, n, ⟨#[]⟩, vs, []⟩ = n.data.toList ++ 64 :: 40 :: (commas (vs.map quoteT) ++ [41]) from rfl]
  simp only [List.append_assoc, List.cons_append, List.nil_append]
  unfold namedW
  simp only [e1, e2]
  rw [if_neg (by decide), if_neg (by decide), if_neg (by decide), if_pos trivial, if_pos trivial, commas_head vs hv, if_neg (by rintro ⟨-, h⟩; exact absurd h (by decide)), vals_text hr t vs 17 hv hl]; simp
theorem readM_cons (cut : List UInt8 → Nat) (step : List UInt8 → Step) (emp : Bool) (d left : Nat) (c : UInt8) (r : List UInt8) : readM cut step emp (d + 1) (left + 1) (c :: r) =
  if c = 42 then some (⟨0, ⟨#[]⟩, ⟨#[]⟩, [], []⟩, left, r)
  else if c = 38 ∨ c = 124 ∨ c = 33 then (match r with
   | [] => none
   | e :: q => if e = 40 then (if q.head? = some 41 then some (⟨if c = 38 then 5 else if c = 124 then 6 else 7, ⟨#[]⟩, ⟨#[]⟩, [], []⟩, left, q.drop 1)
     else (readML cut step emp d 65 left q).map (fun p => (⟨if c = 38 then 5 else if c = 124 then 6 else 7, ⟨#[]⟩, ⟨#[]⟩, [], p.1⟩, p.2))) else none)
  else (namedW cut step emp (c :: r)).map (fun p => (p.1, left, p.2)) := by rw [readM.eq_def]
theorem head_not41 {m : S25} (h : okM m = true) (t : List UInt8) : (textM m ++ t).head? ≠ some 41 := by
 obtain ⟨c, r, e, hc⟩ := text_head h
 rw [e]
 simpa using hc
theorem kids_head {ks : List S25} (hk : okL ks = true) (hne : ks ≠ []) (t : List UInt8) : (commas (ks.map textM) ++ t).head? ≠ some 41 := by
 match ks, hne with
 | [x], _ => exact head_not41 (okL_mem hk (List.mem_cons_self ..)) t
 | x :: y :: r, _ =>
  show ((textM x ++ 44 :: commas ((y :: r).map textM)) ++ t).head? ≠ some 41
  rw [List.append_assoc]
  exact head_not41 (okL_mem hk (List.mem_cons_self ..)) _
theorem readML_text {cut : List UInt8 → Nat} {step : List UInt8 → Step} {emp : Bool} (d N : Nat) (ih : ∀ (m : S25) (left : Nat) (t : List UInt8), nodesM m ≤ N → okM m = true → depthM m ≤ d → nodesM m ≤ left → readM cut step emp d left (textM m ++ t) = some (m, left - nodesM m, t)) (t : List UInt8) :
  ∀ (ks : List S25) (k left : Nat), ks ≠ [] → ks.length ≤ k → nodesL ks ≤ N → okL ks = true → depthL ks ≤ d → nodesL ks ≤ left → readML cut step emp d k left (commas (ks.map textM) ++ 41 :: t) = some (ks, left - nodesL ks, t)
 | [], _, _, h, _, _, _, _, _ => absurd rfl h
 | x :: ks, 0, _, _, h, _, _, _, _ => by simp at h
 | [x], k + 1, left, _, _, hN, hok, hd, hl => by
  rw [okL, Bool.and_eq_true] at hok
  rw [nodesL, nodesL] at hN hl
  rw [depthL, depthL] at hd
  show readML cut step emp d (k + 1) left (textM x ++ 41 :: t) = _
  rw [readML, ih x left _ (by omega) hok.1 (by omega) (by omega)]
  simp [nodesL]
 | x :: y :: ks, k + 1, left, _, hk, hN, hok, hd, hl => by
  rw [okL, Bool.and_eq_true] at hok
  rw [nodesL] at hN hl
  rw [depthL] at hd
  show readML cut step emp d (k + 1) left ((textM x ++ 44 :: commas ((y :: ks).map textM)) ++ 41 :: t) = _
  rw [List.append_assoc, readML, ih x left _ (by omega) hok.1 (by omega) (by omega)]
  simp only [List.cons_append]
  rw [if_neg (by decide), if_pos trivial, readML_text d N ih t (y :: ks) k (left - nodesM x) (by simp) (by simpa using hk) (by omega) hok.2 (by omega) (by omega), show nodesL (x :: y :: ks) = nodesM x + nodesL (y :: ks) from rfl]
  simp only [Option.map_some, Option.some.injEq, Prod.mk.injEq, true_and, and_true]
  omega
theorem len_nodesQ : ∀ (ks : List S25), ks.length ≤ nodesL ks
 | [] => by simp [nodesL]
 | k :: ks => by have := len_nodesQ ks; have h2 := nodesM_mk k; simp only [List.length_cons, nodesL]; omega
theorem okP_vals {n v : ByteArray} {vs : List ByteArray} {ks : List S25} (h : okM ⟨4, n, v, vs, ks⟩ = true) : vs ≠ [] ∧ vs.length ≤ 16 := by
 rw [okM_mk, Bool.and_eq_true] at h
 have ha := h.1
 unfold aloneB at ha
 simp only at ha
 rw [if_neg (by decide), if_neg (by decide), if_pos trivial, Bool.and_eq_true, Bool.and_eq_true] at ha
 have hv := ha.2
 unfold valuesB at hv
 rw [Bool.and_eq_true, Bool.and_eq_true, decide_eq_true_iff] at hv
 exact ⟨fun e => by rw [e] at hv; simp at hv, hv.1.1.2⟩
theorem readM_text {cut : List UInt8 → Nat} {step : List UInt8 → Step} {emp : Bool} (hr : Right step) (hc : Cuts cut) : ∀ (N : Nat) (m : S25) (d left : Nat) (t : List UInt8), nodesM m ≤ N → okM m = true → depthM m ≤ d → nodesM m ≤ left → nodesM m ≤ 64 → readM cut step emp d left (textM m ++ t) = some (m, left - nodesM m, t)
 | 0, m, _, _, _, h, _, _, _, _ => by rw [nodesM_mk] at h; omega
 | N + 1, m, d, left, t, hN, hok, hd, hl, h64 => by
  rw [nodesM_mk] at hN hl h64
  rw [depthM_mk] at hd
  obtain ⟨d, rfl⟩ : ∃ q, d = q + 1 := ⟨d - 1, by omega⟩
  obtain ⟨left, rfl⟩ : ∃ q, left = q + 1 := ⟨left - 1, by omega⟩
  have leaf : ∀ (m : S25), okM m = true → nameB m.f1 = true → m.f4 = [] → ((m.f0 = 1 ∨ m.f0 = 2 ∨ m.f0 = 3) ∧ m.f3 = [] ∨ m.f0 = 4 ∧ m.f2 = ⟨#[]⟩ ∧ m.f3 ≠ [] ∧ m.f3.length ≤ 17) → (∃ s, textM m = m.f1.data.toList ++ s) → readM cut step emp (d + 1) (left + 1) (textM m ++ t) = some (m, left + 1 - nodesM m, t) := by
   intro m hok hn hk h ⟨s, hs⟩
   have hw := named_text (emp := emp) hr hc hn hk h t
   obtain ⟨c, r, e, hc1⟩ := nameB_cons hn
   rw [hs, e, List.cons_append, List.cons_append] at hw ⊢
   rw [readM_cons, if_neg (by rintro rfl; exact absurd hc1 (by decide)), if_neg (by rintro (rfl | rfl | rfl) <;> exact absurd hc1 (by decide)), hw, nodesM_mk, hk, nodesL]
   simp
  rcases shape hok with rfl | ⟨op, n, v, ho, hn, rfl⟩ | ⟨n, vs, hn, rfl⟩ | ⟨op, ks, ho, hk, rfl⟩
  ·show readM cut step emp (d + 1) (left + 1) (42 :: t) = _
   rw [readM_cons, if_pos rfl]
   simp [nodesM, nodesL]
  ·refine leaf _ hok hn rfl (Or.inl ⟨ho, rfl⟩) ?_
   rcases ho with rfl | rfl | rfl
   ·exact ⟨_, rfl⟩
   ·exact ⟨_, rfl⟩
   ·exact ⟨_, rfl⟩
  ·obtain ⟨h1, h2⟩ := okP_vals hok
   exact leaf _ hok hn rfl (Or.inr ⟨rfl, rfl, h1, by simp only; omega⟩) ⟨_, rfl⟩
  ·simp only at hN hl h64 hd
   have hlen := len_nodesQ ks
   have key : ∀ (c : UInt8) (op : Int), (c = 38 ∨ c = 124 ∨ c = 33) → (if c = 38 then (5 : Int) else if c = 124 then 6 else 7) = op → readM cut step emp (d + 1) (left + 1) (c :: 40 :: (commas (ks.map textM) ++ [41]) ++ t) = some (⟨op, ⟨#[]⟩, ⟨#[]⟩, [], ks⟩, left + 1 - nodesM ⟨op, ⟨#[]⟩, ⟨#[]⟩, [], ks⟩, t) := by
    intro c op hc1 ho
    simp only [List.cons_append, List.append_assoc, List.nil_append]
    rw [readM_cons, if_neg (by rcases hc1 with rfl | rfl | rfl <;> decide), if_pos hc1, nodesM_mk, ho]
    simp only
    rw [if_pos trivial]
    by_cases hne : ks = []
    ·subst hne
     simp [commas, nodesL]
    ·rw [if_neg (kids_head hk hne _), readML_text d (min N 64) (fun m left t h1 h2 h3 h4 => readM_text hr hc N m d left t (by omega) h2 h3 h4 (by omega)) t ks 65 left hne (by omega) (by omega) hk (by omega) (by omega)]
     simp only [Option.map_some, Option.some.injEq, Prod.mk.injEq, true_and, and_true]
     omega
   rcases ho with rfl | rfl | rfl
   ·rw [text_k (by simp)]; exact key 38 5 (by simp) rfl
   ·rw [text_k (by simp)]; exact key 124 6 (by simp) rfl
   ·rw [text_k (by simp)]; exact key 33 7 (by simp) rfl
/-- more than eight? -/
def deepW : Nat → Bool → List UInt8 → Bool
 | _, _, [] => false
 | o, q, c :: r =>
  if q = true ∧ c = 92 then deepW o q (r.drop 1)
  else if c = 34 then deepW o (!q) r
  else if q = false ∧ c = 40 then (if o + 1 > 8 then true else deepW (o + 1) q r)
  else if q = false ∧ c = 41 then deepW (o - 1) q r
  else deepW o q r
termination_by _ _ l => l.length
decreasing_by all_goals (simp only [List.length_drop, List.length_cons]; omega)
theorem deep_enc (o : Nat) (c : UInt8) (t : List UInt8) : deepW o true (encB c ++ t) = deepW o true t := by
 unfold encB
 by_cases h1 : c = 34 ∨ c = 92
 ·rw [if_pos h1]
  show deepW o true (92 :: c :: t) = _
  rw [deepW, if_pos ⟨rfl, rfl⟩]; rfl
 ·rw [if_neg h1]
  by_cases h2 : c.toNat < 32 ∨ 127 ≤ c.toNat
  ·rw [if_pos h2]
   show deepW o true (92 :: 120 :: hexD (c.toNat / 16) :: hexD (c.toNat % 16) :: t) = _
   have hx : ∀ n : Fin 16, hexD n.val ≠ 34 ∧ hexD n.val ≠ 92 := by decide +kernel
   have hc := c.toNat_lt
   have e1 := hx ⟨c.toNat / 16, by omega⟩
   have e2 := hx ⟨c.toNat % 16, by omega⟩
   simp only at e1 e2
   rw [deepW, if_pos ⟨rfl, rfl⟩]
   show deepW o true (hexD (c.toNat / 16) :: hexD (c.toNat % 16) :: t) = _
   rw [deepW, if_neg (fun h => e1.2 h.2), if_neg e1.1, if_neg (by simp), if_neg (by simp), deepW, if_neg (fun h => e2.2 h.2), if_neg e2.1, if_neg (by simp), if_neg (by simp)]
  ·rw [if_neg h2]
   show deepW o true (c :: t) = _
   rw [deepW, if_neg (fun h => h1 (Or.inr h.2)), if_neg (fun h => h1 (Or.inl h)), if_neg (by simp), if_neg (by simp)]
theorem deep_body (o : Nat) (t : List UInt8) : ∀ (v : List UInt8), deepW o true (v.flatMap encB ++ 34 :: t) = deepW o false t
 | [] => by rw [List.flatMap_nil, List.nil_append, deepW, if_neg (by simp), if_pos rfl]; rfl
 | c :: v => by rw [List.flatMap_cons, List.append_assoc, deep_enc, deep_body o t v]
theorem deep_quote (o : Nat) (v : ByteArray) (t : List UInt8) : deepW o false (quoteT v ++ t) = deepW o false t := by
 unfold quoteT quoteL
 simp only [List.cons_append, List.append_assoc, List.nil_append]
 rw [deepW, if_neg (by simp), if_pos rfl]
 exact deep_body o t _
theorem deep_skip (o : Nat) (c : UInt8) (t : List UInt8) (h : c ≠ 34 ∧ c ≠ 40 ∧ c ≠ 41) : deepW o false (c :: t) = deepW o false t := by
 rw [deepW, if_neg (by simp), if_neg h.1, if_neg (fun e => h.2.1 e.2), if_neg (fun e => h.2.2 e.2)]
theorem deep_name (o : Nat) (t : List UInt8) : ∀ (n : List UInt8), n.all nameC = true → deepW o false (n ++ t) = deepW o false t
 | [], _ => rfl
 | c :: n, h => by
  rw [List.all_cons, Bool.and_eq_true] at h
  rw [List.cons_append, deep_skip o c _ ⟨by rintro rfl; exact absurd h.1 (by decide), by rintro rfl; exact absurd h.1 (by decide), by rintro rfl; exact absurd h.1 (by decide)⟩, deep_name o t n h.2]
theorem deep_open (o : Nat) (t : List UInt8) (h : o + 1 ≤ 8) : deepW o false (40 :: t) = deepW (o + 1) false t := by
 rw [deepW, if_neg (by simp), if_neg (by decide), if_pos ⟨rfl, rfl⟩, if_neg (by omega)]
theorem deep_close (o : Nat) (t : List UInt8) : deepW (o + 1) false (41 :: t) = deepW o false t := by
 rw [deepW, if_neg (by simp), if_neg (by decide), if_neg (by simp), if_pos ⟨rfl, rfl⟩]; rfl
theorem deep_vals (o : Nat) (t : List UInt8) : ∀ (l : List ByteArray), deepW o false (commas (l.map quoteT) ++ t) = deepW o false t
 | [] => rfl
 | [x] => deep_quote o x t
 | x :: y :: l => by
  show deepW o false ((quoteT x ++ 44 :: commas ((y :: l).map quoteT)) ++ t) = _
  rw [List.append_assoc, deep_quote, List.cons_append, deep_skip _ _ _ (by decide), deep_vals o t (y :: l)]
theorem deep_kids (o N : Nat) (ih : ∀ (m : S25) (t : List UInt8), nodesM m ≤ N → okM m = true → o + depthM m ≤ 8 → deepW o false (textM m ++ t) = deepW o false t) (t : List UInt8) :
  ∀ (ks : List S25), nodesL ks ≤ N → okL ks = true → o + depthL ks ≤ 8 → deepW o false (commas (ks.map textM) ++ t) = deepW o false t
 | [], _, _, _ => rfl
 | [x], hN, hok, hd => by
  rw [okL, Bool.and_eq_true] at hok
  rw [nodesL, nodesL] at hN
  rw [depthL, depthL] at hd
  exact ih x t (by omega) hok.1 (by omega)
 | x :: y :: l, hN, hok, hd => by
  rw [okL, Bool.and_eq_true] at hok
  rw [nodesL] at hN
  rw [depthL] at hd
  show deepW o false ((textM x ++ 44 :: commas ((y :: l).map textM)) ++ t) = _
  rw [List.append_assoc, ih x _ (by omega) hok.1 (by omega), List.cons_append, deep_skip _ _ _ (by decide), deep_kids o N ih t (y :: l) (by omega) hok.2 (by omega)]
theorem deep_text : ∀ (N : Nat) (m : S25) (o : Nat) (t : List UInt8), nodesM m ≤ N → okM m = true → o + depthM m ≤ 8 → deepW o false (textM m ++ t) = deepW o false t
 | 0, m, _, _, h, _, _ => by rw [nodesM_mk] at h; omega
 | N + 1, m, o, t, hN, hok, hd => by
  rw [nodesM_mk] at hN
  rw [depthM_mk] at hd
  rcases shape hok with rfl | ⟨op, n, v, ho, hn, rfl⟩ | ⟨n, vs, hn, rfl⟩ | ⟨op, ks, ho, hk, rfl⟩
  ·show deepW o false (42 :: t) = _
   rw [deep_skip _ _ _ (by decide)]
  ·rcases ho with rfl | rfl | rfl
   ·show deepW o false ((n.data.toList ++ 61 :: quoteT v) ++ t) = _
    rw [List.append_assoc, deep_name _ _ _ (nameB_all hn), List.cons_append, deep_skip _ _ _ (by decide), deep_quote]
   ·show deepW o false ((n.data.toList ++ 33 :: 61 :: quoteT v) ++ t) = _
    rw [List.append_assoc, deep_name _ _ _ (nameB_all hn), List.cons_append, deep_skip _ _ _ (by decide), List.cons_append, deep_skip _ _ _ (by decide), deep_quote]
   ·show deepW o false ((n.data.toList ++ 94 :: 61 :: quoteT v) ++ t) = _
    rw [List.append_assoc, deep_name _ _ _ (nameB_all hn), List.cons_append, deep_skip _ _ _ (by decide), List.cons_append, deep_skip _ _ _ (by decide), deep_quote]
  ·show deepW o false ((n.data.toList ++ 64 :: 40 :: (commas (vs.map quoteT) ++ [41])) ++ t) = _
   rw [List.append_assoc, deep_name _ _ _ (nameB_all hn), List.cons_append, deep_skip _ _ _ (by decide), List.cons_append, deep_open _ _ (by omega), List.append_assoc, deep_vals, List.singleton_append, deep_close]
  ·simp only at hN hd
   have key : ∀ c : UInt8, (c ≠ 34 ∧ c ≠ 40 ∧ c ≠ 41) → deepW o false ((c :: 40 :: (commas (ks.map textM) ++ [41])) ++ t) = deepW o false t := by
    intro c hc
    rw [List.cons_append, deep_skip _ _ _ hc, List.cons_append, deep_open _ _ (by omega), List.append_assoc, deep_kids (o + 1) N (fun m t h1 h2 h3 => deep_text N m (o + 1) t h1 h2 h3) _ ks (by omega) hk (by omega), List.singleton_append, deep_close]
   rcases ho with rfl | rfl | rfl
   ·rw [text_k (by simp)]; exact key 38 (by decide)
   ·rw [text_k (by simp)]; exact key 124 (by decide)
   ·rw [text_k (by simp)]; exact key 33 (by decide)
end Go.Proofs.Yteafilojjdfllaa
end
section
namespace Go.Proofs.Yteafilojjdfllaa
open Go Go.RowKit Go.Proofs.YteafilojjdfllaaW.PrintWords Go.Proofs.YteafilojjdfllaaW.PrintLast Go.Proofs.YteafilojjdfllaaW.PrintMore Go.Proofs.Yteafilojjdfllaa.PAll
set_option linter.unusedVariables false
set_option linter.unusedSimpArgs false
theorem deepW_cons (o : Nat) (q : Bool) (c : UInt8) (r : List UInt8) : deepW o q (c :: r) = if q = true ∧ c = 92 then deepW o q (r.drop 1)
  else if c = 34 then deepW o (!q) r
  else if q = false ∧ c = 40 then (if o + 1 > 8 then true else deepW (o + 1) q r)
  else if q = false ∧ c = 41 then deepW (o - 1) q r
  else deepW o q r := by rw [deepW]
theorem u8_eq {c : UInt8} {k : Nat} (hk : k < 256) (h : (c.toNat : Int) = (k : Int)) : c = UInt8.ofNat k := UInt8.toNat_inj.1 (by simp; omega)
section
variable {s : ByteArray} {i o : Nat} {c : UInt8} {q Q : Bool}
theorem deep_at (hi : i < s.size) (hc : bN s i = c) (h : deepW o q (s.data.toList.drop i) = Q) : (if q = true ∧ c = 92 then deepW o q (s.data.toList.drop (i + 2))
  else if c = 34 then deepW o (!q) (s.data.toList.drop (i + 1))
  else if q = false ∧ c = 40 then (if o + 1 > 8 then true else deepW (o + 1) q (s.data.toList.drop (i + 1)))
  else if q = false ∧ c = 41 then deepW (o - 1) q (s.data.toList.drop (i + 1))
  else deepW o q (s.data.toList.drop (i + 1))) = Q := by
 rw [bN_drop s i hi, hc, deepW_cons, List.drop_drop] at h
 exact h
theorem deep_esc (hi : i < s.size) (hx : bN s i = c) (e : (c.toNat : Int) = 92) (h : deepW o true (s.data.toList.drop i) = Q) : deepW o true (s.data.toList.drop (i + 2)) = Q := by
 have h2 := deep_at hi hx h
 rwa [if_pos ⟨rfl, u8_eq (k := 92) (by decide) e⟩] at h2
theorem deep_q (hi : i < s.size) (hx : bN s i = c) (e : (c.toNat : Int) = 34) (h : deepW o q (s.data.toList.drop i) = Q) : deepW o (!q) (s.data.toList.drop (i + 1)) = Q := by
 have h2 := deep_at hi hx h
 have hc := u8_eq (k := 34) (by decide) e
 subst hc
 rwa [if_neg (fun h => absurd h.2 (by decide)), if_pos (by decide)] at h2
theorem deep_in (hi : i < s.size) (hx : bN s i = c) (e1 : ¬(c.toNat : Int) = 92) (e2 : ¬(c.toNat : Int) = 34) (h : deepW o true (s.data.toList.drop i) = Q) : deepW o true (s.data.toList.drop (i + 1)) = Q := by
 have h2 := deep_at hi hx h
 rwa [if_neg (fun h => e1 (by rw [h.2]; decide)), if_neg (fun h => e2 (by rw [h]; decide)), if_neg (by simp), if_neg (by simp)] at h2
theorem deep_o (hi : i < s.size) (hx : bN s i = c) (e : (c.toNat : Int) = 40) (ho : o + 1 ≤ 8) (h : deepW o false (s.data.toList.drop i) = Q) : deepW (o + 1) false (s.data.toList.drop (i + 1)) = Q := by
 have h2 := deep_at hi hx h
 have hc := u8_eq (k := 40) (by decide) e
 subst hc
 rwa [if_neg (by simp), if_neg (by decide), if_pos ⟨rfl, by decide⟩, if_neg (by omega)] at h2
theorem deep_O (hi : i < s.size) (hx : bN s i = c) (e : (c.toNat : Int) = 40) (ho : ¬ o + 1 ≤ 8) (h : deepW o false (s.data.toList.drop i) = Q) : Q = true := by
 have h2 := deep_at hi hx h
 have hc := u8_eq (k := 40) (by decide) e
 subst hc
 rw [if_neg (by simp), if_neg (by decide), if_pos ⟨rfl, by decide⟩, if_pos (by omega)] at h2
 exact h2.symm
theorem deep_c (hi : i < s.size) (hx : bN s i = c) (e : (c.toNat : Int) = 41) (h : deepW o false (s.data.toList.drop i) = Q) : deepW (o - 1) false (s.data.toList.drop (i + 1)) = Q := by
 have h2 := deep_at hi hx h
 have hc := u8_eq (k := 41) (by decide) e
 subst hc
 rwa [if_neg (by simp), if_neg (by decide), if_neg (fun h => absurd h.2 (by decide)), if_pos ⟨rfl, by decide⟩] at h2
theorem deep_n (hi : i < s.size) (hx : bN s i = c) (e2 : ¬(c.toNat : Int) = 34) (e3 : ¬(c.toNat : Int) = 40) (e4 : ¬(c.toNat : Int) = 41) (h : deepW o false (s.data.toList.drop i) = Q) : deepW o false (s.data.toList.drop (i + 1)) = Q := by
 have h2 := deep_at hi hx h
 rwa [if_neg (by simp), if_neg (fun h => e2 (by rw [h]; decide)), if_neg (fun h => e3 (by rw [h.2]; decide)), if_neg (fun h => e4 (by rw [h.2]; decide))] at h2
theorem deep_end (hi : s.size ≤ i) (h : deepW o q (s.data.toList.drop i) = Q) : Q = false := by
 rw [List.drop_of_length_le (by simpa using hi), deepW] at h
 exact h.symm
end
set_option maxRecDepth 100000 in
set_option maxHeartbeats 16000000 in
/-- deep. -/
theorem deep142 (w : World) (s : ByteArray) (hs : s.size ≤ 1000000000) : Calls Try.prog 142 #[.string s] w fun e w' => e = .returned (.bool (deepW 0 false s.data.toList)) ∧ w' = w := by
 obtain ⟨Q, eQ⟩ : ∃ Q, deepW 0 false s.data.toList = Q := ⟨_, rfl⟩
 rw [eQ]
 have HQ0 := Lib.hid eQ
 clear eQ
 go_enter Try.func142, Try.ntmps142
 go_wp2
 go_loopw [3, 4, 5, 6] (fun u3 u4 u5 _ wr => ∃ (o : Nat) (q : Bool) (i : Nat), u3 = .int .i64 (o : Int) ∧ u4 = .bool q ∧ u5 = .int .i64 (i : Int) ∧ o ≤ 8 ∧ i ≤ s.size + 1 ∧ Hid (deepW o q (s.data.toList.drop i) = Q) ∧ wr = w)
  (fun _ _ u5 _ _ => s.size + 1 - (intOf u5).toNat)
 case atStart => exact ⟨0, false, 0, rfl, rfl, rfl, by omega, by omega, HQ0, rfl⟩
 case round =>
  obtain ⟨o, q, i, rfl, rfl, rfl, ho, hi, HQ, rfl⟩ := hrel
  by_cases hlt : i < s.size
  ·have hltI : (i : Int) < (s.size : Int) := by omega
   obtain ⟨c, hc⟩ : ∃ c, bN s i = c := ⟨_, rfl⟩
   have hx0 := bN_at s i c hc
   have HX := Lib.hid hc
   clear hc HQ0
   cases q with
   | true =>
    by_cases e92 : (c.toNat : Int) = 92
    ·have b92 : ((c.toNat : Int) == 92) = true := beq_iff_eq.2 e92
     go_wp2
     go_roundw
     case rel => exact ⟨o, true, i + 2, by go_num, by first | rfl | simp, by go_num, by omega, by omega, Lib.hid (deep_esc hlt HX.out e92 HQ.out), trivial⟩
     case measure => simp [intOf]; omega
    ·have b92 : ((c.toNat : Int) == 92) = false := beq_eq_false_iff_ne.2 e92
     by_cases e34 : (c.toNat : Int) = 34
     ·have b34 : ((c.toNat : Int) == 34) = true := beq_iff_eq.2 e34
      go_wp2
      go_roundw
      case rel => exact ⟨o, false, i + 1, by go_num, by first | rfl | simp, by go_num, by omega, by omega, Lib.hid (deep_q hlt HX.out e34 HQ.out), trivial⟩
      case measure => simp [intOf]; omega
     ·have b34 : ((c.toNat : Int) == 34) = false := beq_eq_false_iff_ne.2 e34
      go_wp2
      go_roundw
      case rel => exact ⟨o, true, i + 1, by go_num, by first | rfl | simp, by go_num, by omega, by omega, Lib.hid (deep_in hlt HX.out e92 e34 HQ.out), trivial⟩
      case measure => simp [intOf]; omega
   | false =>
    by_cases e34 : (c.toNat : Int) = 34
    ·have b34 : ((c.toNat : Int) == 34) = true := beq_iff_eq.2 e34
     go_wp2
     go_roundw
     case rel => exact ⟨o, true, i + 1, by go_num, by first | rfl | simp, by go_num, by omega, by omega, Lib.hid (deep_q hlt HX.out e34 HQ.out), trivial⟩
     case measure => simp [intOf]; omega
    ·have b34 : ((c.toNat : Int) == 34) = false := beq_eq_false_iff_ne.2 e34
     by_cases e40 : (c.toNat : Int) = 40
     ·have b40 : ((c.toNat : Int) == 40) = true := beq_iff_eq.2 e40
      by_cases h8 : o + 1 ≤ 8
      ·have h8I : ¬ (8 : Int) < (o : Int) + 1 := by omega
       go_wp2
       go_roundw
       case rel => exact ⟨o + 1, false, i + 1, by go_num, by first | rfl | simp, by go_num, by omega, by omega, Lib.hid (deep_o hlt HX.out e40 h8 HQ.out), trivial⟩
       case measure => simp [intOf]; omega
      ·have h8I : (8 : Int) < (o : Int) + 1 := by omega
       have HT := Lib.hid (deep_O hlt HX.out e40 h8 HQ.out)
       go_wp2
       go_ret
       rw [HT.out]
       exact ⟨rfl, rfl⟩
     ·have b40 : ((c.toNat : Int) == 40) = false := beq_eq_false_iff_ne.2 e40
      by_cases e41 : (c.toNat : Int) = 41
      ·have b41 : ((c.toNat : Int) == 41) = true := beq_iff_eq.2 e41
       have hm : max (0 : Int) ((o : Int) - 1) = ((o - 1 : Nat) : Int) := by omega
       go_wp2
       go_roundw
       case rel => exact ⟨o - 1, false, i + 1, by go_num, by first | rfl | simp, by go_num, by omega, by omega, Lib.hid (deep_c hlt HX.out e41 HQ.out), trivial⟩
       case measure => simp [intOf]; omega
      ·have b41 : ((c.toNat : Int) == 41) = false := beq_eq_false_iff_ne.2 e41
       go_wp2
       go_roundw
       case rel => exact ⟨o, false, i + 1, by go_num, by first | rfl | simp, by go_num, by omega, by omega, Lib.hid (deep_n hlt HX.out e34 e40 e41 HQ.out), trivial⟩
       case measure => simp [intOf]; omega
  ·have hltI : ¬ (i : Int) < (s.size : Int) := by omega
   have HT := Lib.hid (deep_end (by omega) HQ.out)
   go_wp2
   go_ret
   rw [HT.out]
   exact ⟨rfl, rfl⟩
end Go.Proofs.Yteafilojjdfllaa
end
