/- A part of the proof of MatchParses. No condition. -/
import Derived.Laws.Strings
import Derived.Lib.Hide
import Derived.RegionTactic
import Derived.ChangeAlike
import Derived.Test.YteafilojjdfllaaRows
import Derived.WalkKit
import Derived.ProofKit
import Derived.OpenShut
import Derived.ChangeOld
import Derived.Below
import Derived.Carry
import Derived.SizedLaws
import Derived.JoinedOf
import Derived.KernelRfl
import Derived.ArgAppend
import Derived.Laws.Bits64b
import Derived.Lib.LazyBuf
import Derived.Deep.QuietTactic
import Derived.BigQuiet
import Derived.Defers
import Derived.Recover
import Derived.Test.YteafilojjdfllaaZMatchParsesA
section
namespace Go.Proofs.Yteafilojjdfllaa.PAll
open Go.RowKit Go.Proofs.YteafilojjdfllaaW.PrintWords Go.Proofs.YteafilojjdfllaaW.PrintLast Go.Proofs.YteafilojjdfllaaW.PrintMore
attribute [local go_sem] max2_int min2_int max_two min_two max_three min_three max_four min_four   -- for this text's walks alone
set_option linter.unusedVariables false
set_option linter.unusedSimpArgs false
def varveref11_Name.l0 : Nat → ByteArray → Int → Option (Bool)
 | 0, _, _ => none
 | k + 1, x0, x3 => if x3 < (x0.size : Int) then (if 0 ≤ x3 then (if (bt x0 x3) = 95 then (varveref11_Name.l0 k x0 (wrap64 (x3 + 1))) else (if (bt x0 x3) < 97 then (if (bt x0 x3) < 48 then (some false) else (if (bt x0 x3) > 57 then (some false) else (if x3 = 0 then (some false) else (varveref11_Name.l0 k x0 (wrap64 (x3 + 1)))))) else (if (bt x0 x3) > 122 then (if (bt x0 x3) < 48 then (some false) else (if (bt x0 x3) > 57 then (some false) else (if x3 = 0 then (some false) else (varveref11_Name.l0 k x0 (wrap64 (x3 + 1)))))) else (varveref11_Name.l0 k x0 (wrap64 (x3 + 1)))))) else (none)) else (if (x0.size : Int) ≥ 1 then (some (decide ((x0.size : Int) ≤ 32))) else (some false))
def varveref11_Name.f (k : Nat) (a0 : ByteArray) : Option (Bool) := varveref11_Name.l0 k a0 0
theorem varveref11_Name.mono_l : ∀ k, (∀ y0 y1, LeO (varveref11_Name.l0 k y0 y1) (varveref11_Name.l0 (k + 1) y0 y1))
 | 0 => fun _ _ r h => by simp [varveref11_Name.l0] at h
 | k + 1 => by
  have ih0 := varveref11_Name.mono_l k
  ·intro y0 y1
   unfold varveref11_Name.l0
   repeat' first
   | (with_reducible exact ih0 _ _)
   | (with_reducible exact LeO.refl _)
   | (with_reducible exact LeO.none _)
   | (with_reducible refine LeO.ite ?_ ?_)
   | (with_reducible refine LeO.bind ?_ (fun _ => ?_))
   | exact ih0 _ _
   | exact LeO.none _
   | refine LeO.ite ?_ ?_
   | refine LeO.bind ?_ (fun _ => ?_)
theorem varveref11_Name.mono : ∀ a0 k, LeO (varveref11_Name.f k a0) (varveref11_Name.f (k + 1) a0) := by
 intro a0 k
 have ih0 := varveref11_Name.mono_l k
 unfold varveref11_Name.f
 repeat' first
   | (with_reducible exact ih0 _ _)
   | (with_reducible exact LeO.refl _)
   | (with_reducible exact LeO.none _)
   | (with_reducible refine LeO.ite ?_ ?_)
   | (with_reducible refine LeO.bind ?_ (fun _ => ?_))
   | exact ih0 _ _
   | exact LeO.none _
   | refine LeO.ite ?_ ?_
   | refine LeO.bind ?_ (fun _ => ?_)
set_option maxHeartbeats 8000000 in
set_option maxRecDepth 100000 in
theorem varveref11_Name.calls (k : Nat) (a0 : ByteArray) (r : Bool) (w : World) (h : varveref11_Name.f k a0 = some r) :
  Calls Try.prog 64 #[.string a0] w fun e w' => e = .returned (.bool r) ∧ Drawn0 w w' := by
 have H : (varveref11_Name.l0 k a0 0) = some r := h
 clear h
 have H' := Aside0.mk H
 clear H
 go_enter Try.func64, Try.ntmps64
 go_wp2
 go_loopg [3] k (fun kq v3 w' => ∃ (x3_1 : Int), v3 = .int .i64 x3_1 ∧ Aside0 (varveref11_Name.l0 kq a0 x3_1 = some r) ∧ Aside0 (kq ≤ k) ∧ Drawn0 w w')
 case atStart => exact ⟨(0), (by first | rfl | (simp; done) | (simp [*]; done)), H', ⟨Nat.le_refl _⟩, by repeat (first | exact Drawn0.refl _ | apply Drawn0.step)⟩
 case round =>
  clear H'
  obtain ⟨x3_1, rfl, HA, HK1, ⟨m1, rfl⟩⟩ := hrel
  cases gk with
  | zero => exact absurd HA.out (by simp [varveref11_Name.l0])
  | succ k1 =>
   have H := HA.out
   clear HA
   simp only [varveref11_Name.l0] at H
   by_cases c2 : x3_1 < (a0.size : Int)
   ·rw [if_pos c2] at H
    have c2b0 : decide (x3_1 < (a0.size : Int)) = true := decide_eq_true c2
    clear c2
    by_cases c3 : 0 ≤ x3_1
    ·rw [if_pos c3] at H
     have c3b0 : decide (0 ≤ x3_1) = true := decide_eq_true c3
     clear c3
     by_cases c5 : (bt a0 x3_1) = 95
     ·rw [if_pos c5] at H
      have c5b0 : ((bt a0 x3_1) == 95) = true := beq_iff_eq.mpr c5
      have c5b1 : ((bt a0 x3_1) != 95) = false := bne_eq_false_iff_eq.mpr c5
      clear c5
      have H' := Aside0.mk H
      clear H
      have p4 : 0 ≤ (x3_1 : Int) := of_decide_eq_true (by first | (with_reducible assumption) | assumption)
      have q4 : x3_1 < (a0.size : Int) := of_decide_eq_true (by first | (with_reducible assumption) | assumption)
      have hx4 := bt_at a0 x3_1
      replace p4 := eq_true p4
      replace q4 := eq_true q4
      go_wp2
      go_roundg k1
      case measure => have := HK1.out; omega
      case rel => exact ⟨(wrap64 (x3_1 + 1)), (by first | rfl | (simp; done) | (simp [*]; done)), H', ⟨by have := HK1.out; omega⟩, by repeat (first | exact Drawn0.refl _ | apply Drawn0.step)⟩
     ·rw [if_neg c5] at H
      have c5b0 : ((bt a0 x3_1) == 95) = false := beq_eq_false_iff_ne.mpr c5
      have c5b1 : ((bt a0 x3_1) != 95) = true := bne_iff_ne.mpr c5
      by_cases c6 : (bt a0 x3_1) < 97
      ·rw [if_pos c6] at H
       have c6b0 : decide ((bt a0 x3_1) < 97) = true := decide_eq_true c6
       clear c6
       by_cases c7 : (bt a0 x3_1) < 48
       ·rw [if_pos c7] at H
        have c7b0 : decide ((bt a0 x3_1) < 48) = true := decide_eq_true c7
        clear c7
        obtain rfl := Option.some.inj H
        have p4 : 0 ≤ (x3_1 : Int) := of_decide_eq_true (by first | (with_reducible assumption) | assumption)
        have q4 : x3_1 < (a0.size : Int) := of_decide_eq_true (by first | (with_reducible assumption) | assumption)
        have hx4 := bt_at a0 x3_1
        replace p4 := eq_true p4
        replace q4 := eq_true q4
        go_wp2
        go_ret
        exact ⟨by first | rfl | (simp; done) | (simp [*]; done), by repeat (first | exact Drawn0.refl _ | apply Drawn0.step)⟩
       ·rw [if_neg c7] at H
        have c7b0 : decide ((bt a0 x3_1) < 48) = false := decide_eq_false c7
        clear c7
        by_cases c8 : (bt a0 x3_1) > 57
        ·rw [if_pos c8] at H
         have c8b0 : decide (57 < (bt a0 x3_1)) = true := decide_eq_true c8
         clear c8
         obtain rfl := Option.some.inj H
         have p4 : 0 ≤ (x3_1 : Int) := of_decide_eq_true (by first | (with_reducible assumption) | assumption)
         have q4 : x3_1 < (a0.size : Int) := of_decide_eq_true (by first | (with_reducible assumption) | assumption)
         have hx4 := bt_at a0 x3_1
         replace p4 := eq_true p4
         replace q4 := eq_true q4
         go_wp2
         go_ret
         exact ⟨by first | rfl | (simp; done) | (simp [*]; done), by repeat (first | exact Drawn0.refl _ | apply Drawn0.step)⟩
        ·rw [if_neg c8] at H
         have c8b0 : decide (57 < (bt a0 x3_1)) = false := decide_eq_false c8
         clear c8
         by_cases c9 : x3_1 = 0
         ·rw [if_pos c9] at H
          have c9b0 : (x3_1 == 0) = true := beq_iff_eq.mpr c9
          have c9b1 : (x3_1 != 0) = false := bne_eq_false_iff_eq.mpr c9
          clear c9
          obtain rfl := Option.some.inj H
          have p4 : 0 ≤ (x3_1 : Int) := of_decide_eq_true (by first | (with_reducible assumption) | assumption)
          have q4 : x3_1 < (a0.size : Int) := of_decide_eq_true (by first | (with_reducible assumption) | assumption)
          have hx4 := bt_at a0 x3_1
          replace p4 := eq_true p4
          replace q4 := eq_true q4
          go_wp2
          go_ret
          exact ⟨by first | rfl | (simp; done) | (simp [*]; done), by repeat (first | exact Drawn0.refl _ | apply Drawn0.step)⟩
         ·rw [if_neg c9] at H
          have c9b0 : (x3_1 == 0) = false := beq_eq_false_iff_ne.mpr c9
          have c9b1 : (x3_1 != 0) = true := bne_iff_ne.mpr c9
          have H' := Aside0.mk H
          clear H
          have p4 : 0 ≤ (x3_1 : Int) := of_decide_eq_true (by first | (with_reducible assumption) | assumption)
          have q4 : x3_1 < (a0.size : Int) := of_decide_eq_true (by first | (with_reducible assumption) | assumption)
          have hx4 := bt_at a0 x3_1
          replace p4 := eq_true p4
          replace q4 := eq_true q4
          go_wp2
          go_roundg k1
          case measure => have := HK1.out; omega
          case rel => exact ⟨(wrap64 (x3_1 + 1)), (by first | rfl | (simp; done) | (simp [*]; done)), H', ⟨by have := HK1.out; omega⟩, by repeat (first | exact Drawn0.refl _ | apply Drawn0.step)⟩
      ·rw [if_neg c6] at H
       have c6b0 : decide ((bt a0 x3_1) < 97) = false := decide_eq_false c6
       clear c6
       by_cases c10 : (bt a0 x3_1) > 122
       ·rw [if_pos c10] at H
        have c10b0 : decide (122 < (bt a0 x3_1)) = true := decide_eq_true c10
        clear c10
        by_cases c11 : (bt a0 x3_1) < 48
        ·rw [if_pos c11] at H
         have c11b0 : decide ((bt a0 x3_1) < 48) = true := decide_eq_true c11
         clear c11
         obtain rfl := Option.some.inj H
         have p4 : 0 ≤ (x3_1 : Int) := of_decide_eq_true (by first | (with_reducible assumption) | assumption)
         have q4 : x3_1 < (a0.size : Int) := of_decide_eq_true (by first | (with_reducible assumption) | assumption)
         have hx4 := bt_at a0 x3_1
         replace p4 := eq_true p4
         replace q4 := eq_true q4
         go_wp2
         go_ret
         exact ⟨by first | rfl | (simp; done) | (simp [*]; done), by repeat (first | exact Drawn0.refl _ | apply Drawn0.step)⟩
        ·rw [if_neg c11] at H
         have c11b0 : decide ((bt a0 x3_1) < 48) = false := decide_eq_false c11
         clear c11
         by_cases c12 : (bt a0 x3_1) > 57
         ·rw [if_pos c12] at H
          have c12b0 : decide (57 < (bt a0 x3_1)) = true := decide_eq_true c12
          clear c12
          obtain rfl := Option.some.inj H
          have p4 : 0 ≤ (x3_1 : Int) := of_decide_eq_true (by first | (with_reducible assumption) | assumption)
          have q4 : x3_1 < (a0.size : Int) := of_decide_eq_true (by first | (with_reducible assumption) | assumption)
          have hx4 := bt_at a0 x3_1
          replace p4 := eq_true p4
          replace q4 := eq_true q4
          go_wp2
          go_ret
          exact ⟨by first | rfl | (simp; done) | (simp [*]; done), by repeat (first | exact Drawn0.refl _ | apply Drawn0.step)⟩
         ·rw [if_neg c12] at H
          have c12b0 : decide (57 < (bt a0 x3_1)) = false := decide_eq_false c12
          clear c12
          by_cases c13 : x3_1 = 0
          ·rw [if_pos c13] at H
           have c13b0 : (x3_1 == 0) = true := beq_iff_eq.mpr c13
           have c13b1 : (x3_1 != 0) = false := bne_eq_false_iff_eq.mpr c13
           clear c13
           obtain rfl := Option.some.inj H
           have p4 : 0 ≤ (x3_1 : Int) := of_decide_eq_true (by first | (with_reducible assumption) | assumption)
           have q4 : x3_1 < (a0.size : Int) := of_decide_eq_true (by first | (with_reducible assumption) | assumption)
           have hx4 := bt_at a0 x3_1
           replace p4 := eq_true p4
           replace q4 := eq_true q4
           go_wp2
           go_ret
           exact ⟨by first | rfl | (simp; done) | (simp [*]; done), by repeat (first | exact Drawn0.refl _ | apply Drawn0.step)⟩
          ·rw [if_neg c13] at H
           have c13b0 : (x3_1 == 0) = false := beq_eq_false_iff_ne.mpr c13
           have c13b1 : (x3_1 != 0) = true := bne_iff_ne.mpr c13
           have H' := Aside0.mk H
           clear H
           have p4 : 0 ≤ (x3_1 : Int) := of_decide_eq_true (by first | (with_reducible assumption) | assumption)
           have q4 : x3_1 < (a0.size : Int) := of_decide_eq_true (by first | (with_reducible assumption) | assumption)
           have hx4 := bt_at a0 x3_1
           replace p4 := eq_true p4
           replace q4 := eq_true q4
           go_wp2
           go_roundg k1
           case measure => have := HK1.out; omega
           case rel => exact ⟨(wrap64 (x3_1 + 1)), (by first | rfl | (simp; done) | (simp [*]; done)), H', ⟨by have := HK1.out; omega⟩, by repeat (first | exact Drawn0.refl _ | apply Drawn0.step)⟩
       ·rw [if_neg c10] at H
        have c10b0 : decide (122 < (bt a0 x3_1)) = false := decide_eq_false c10
        clear c10
        have H' := Aside0.mk H
        clear H
        have p4 : 0 ≤ (x3_1 : Int) := of_decide_eq_true (by first | (with_reducible assumption) | assumption)
        have q4 : x3_1 < (a0.size : Int) := of_decide_eq_true (by first | (with_reducible assumption) | assumption)
        have hx4 := bt_at a0 x3_1
        replace p4 := eq_true p4
        replace q4 := eq_true q4
        go_wp2
        go_roundg k1
        case measure => have := HK1.out; omega
        case rel => exact ⟨(wrap64 (x3_1 + 1)), (by first | rfl | (simp; done) | (simp [*]; done)), H', ⟨by have := HK1.out; omega⟩, by repeat (first | exact Drawn0.refl _ | apply Drawn0.step)⟩
    ·rw [if_neg c3] at H
     exact absurd H (by simp)
   ·rw [if_neg c2] at H
    have c2b0 : decide (x3_1 < (a0.size : Int)) = false := decide_eq_false c2
    clear c2
    by_cases c14 : (a0.size : Int) ≥ 1
    ·rw [if_pos c14] at H
     have c14b0 : decide (1 ≤ (a0.size : Int)) = true := decide_eq_true c14
     have c14b1 : decide (1 ≤ a0.size) = true := decide_eq_true (by omega)
     clear c14
     obtain rfl := Option.some.inj H
     go_wp2
     go_ret
     exact ⟨by first | rfl | (simp; done) | (simp [*]; done), by repeat (first | exact Drawn0.refl _ | apply Drawn0.step)⟩
    ·rw [if_neg c14] at H
     have c14b0 : decide (1 ≤ (a0.size : Int)) = false := decide_eq_false c14
     have c14b1 : decide (1 ≤ a0.size) = false := decide_eq_false (by omega)
     clear c14
     obtain rfl := Option.some.inj H
     go_wp2
     go_ret
     exact ⟨by first | rfl | (simp; done) | (simp [*]; done), by repeat (first | exact Drawn0.refl _ | apply Drawn0.step)⟩
def varveref12_bare.f (a0_0 : Int) (a0_1 : ByteArray) (a0_2 : ByteArray) (l0_3 : List ByteArray) (l0_4 : List (S25)) (a1 : Bool) (a2 : Bool) (a3 : Bool) : Option (Bool) := if a1 = true then (if a2 = true then (if a3 = true then (some true) else (some ((l0_4.length : Int) == 0))) else (if (l0_3.length : Int) = 0 then (if a3 = true then (some true) else (some ((l0_4.length : Int) == 0))) else (some false))) else (if a0_2.toList = ([] : List UInt8) then (if a2 = true then (if a3 = true then (some true) else (some ((l0_4.length : Int) == 0))) else (if a0_1.toList = ([] : List UInt8) then (if (l0_3.length : Int) = 0 then (if a3 = true then (some true) else (some ((l0_4.length : Int) == 0))) else (some false)) else (some false))) else (some false))
set_option maxHeartbeats 8000000 in
set_option maxRecDepth 100000 in
theorem varveref12_bare.calls (a0_0 : Int) (a0_1 : ByteArray) (a0_2 : ByteArray) (A0_3 : Option Addr) (c0_3 : Nat) (l0_3 : List ByteArray) (A0_4 : Option Addr) (c0_4 : Nat) (l0_4 : List (S25)) (a1 : Bool) (a2 : Bool) (a3 : Bool) (r : Bool) (w : World) (hr0_3 : Kd.C Kd.string w A0_3 l0_3.length l0_3) (hc0_3 : l0_3.length ≤ c0_3) (hr0_4 : Kd.C k25 w A0_4 l0_4.length l0_4) (hc0_4 : l0_4.length ≤ c0_4) (h : varveref12_bare.f a0_0 a0_1 a0_2 l0_3 l0_4 a1 a2 a3 = some r) :
  Calls Try.prog 147 #[.agg #[.int .i64 a0_0, .string a0_1, .string a0_2, .slice A0_3 l0_3.length c0_3, .slice A0_4 l0_4.length c0_4], .bool a1, .bool a2, .bool a3] w fun e w' => e = .returned (.bool r) ∧ Below w.heap.size w w' := by
 have hu25 := Try.underlying25
 have HR0_3 := Aside0.mk hr0_3
 have HC0_3 := Aside0.mk hc0_3
 clear hr0_3 hc0_3
 have HR0_4 := Aside0.mk hr0_4
 have HC0_4 := Aside0.mk hc0_4
 clear hr0_4 hc0_4
 have HB := Aside0.mk (Below.refl w.heap.size w)
 have H : (if a1 = true then (if a2 = true then (if a3 = true then (some true) else (some ((l0_4.length : Int) == 0))) else (if (l0_3.length : Int) = 0 then (if a3 = true then (some true) else (some ((l0_4.length : Int) == 0))) else (some false))) else (if a0_2.toList = ([] : List UInt8) then (if a2 = true then (if a3 = true then (some true) else (some ((l0_4.length : Int) == 0))) else (if a0_1.toList = ([] : List UInt8) then (if (l0_3.length : Int) = 0 then (if a3 = true then (some true) else (some ((l0_4.length : Int) == 0))) else (some false)) else (some false))) else (some false))) = some r := h
 clear h
 by_cases c5 : a1 = true
 ·subst c5
  have H1 : (if a2 = true then (if a3 = true then (some true) else (some ((l0_4.length : Int) == 0))) else (if (l0_3.length : Int) = 0 then (if a3 = true then (some true) else (some ((l0_4.length : Int) == 0))) else (some false))) = some r := by rw [if_pos rfl] at H; exact H
  clear H
  have H := H1
  clear H1
  by_cases c6 : a2 = true
  ·subst c6
   have H1 : (if a3 = true then (some true) else (some ((l0_4.length : Int) == 0))) = some r := by rw [if_pos rfl] at H; exact H
   clear H
   have H := H1
   clear H1
   by_cases c7 : a3 = true
   ·subst c7
    have H1 : (some true) = some r := by rw [if_pos rfl] at H; exact H
    clear H
    have H := H1
    clear H1
    obtain rfl := Option.some.inj H
    go_enter Try.func147, Try.ntmps147
    go_wp2_with (first | ((with_reducible refine gate_dst (N := 4) rfl ?_); (try (refine gate_guard (by rfl) ?_; dsimp only)); refine box_event ?hg (N := 4) ?hd (cs := #[.int .i64 a0_0, .string a0_1, .string a0_2, .slice A0_3 l0_3.length c0_3, .slice A0_4 l0_4.length c0_4]) (t := 25) ?hr ?_; (case hd => rfl); (case hg => rfl); (case hr => first | (go_simp; done) | (go_simp; rfl)); intro gb157 hg w8 hbox hb; have n0_ := Aside0.mk (below_step (by repeat (first | (with_reducible first | exact HB.out | apply below_alloc | apply pw_below_drewN | apply below_drew1) | exact HB.out)) hb); have n1_ := Aside0.mk (hbox); have n2_ := Aside0.mk ((by rw [hg]; exact (below_size (by repeat (first | (with_reducible first | exact HB.out | apply below_alloc | apply pw_below_drewN | apply below_drew1) | exact HB.out))) : w.heap.size ≤ gb157)); have n3_ := Aside0.mk ((by rw [hg]; exact (below_size (by repeat (first | (with_reducible first | exact HB.out | apply below_alloc | apply pw_below_drewN | apply below_drew1) | exact HB.out))) : w.heap.size ≤ gb157)); clear HB; have HB := n0_; have BK157 := n1_; have GW157 := n2_; have GE157 := n3_; clear n0_ n1_ n2_ n3_; clear hb hbox hg))
    go_ret
    exact ⟨by first | rfl | (simp [errW_none, errW_some] <;> rfl) | (simp [*, errW_none, errW_some] <;> rfl), by repeat (first | (with_reducible first | exact HB.out | apply below_alloc | apply pw_below_drewN | apply below_drew1 | refine below_set ?_ GE157.out) | exact HB.out)⟩
   ·replace c7 := Bool.eq_false_iff.mpr c7
    subst c7
    have H1 : (some ((l0_4.length : Int) == 0)) = some r := by rw [if_neg (show ¬ (false = true) by decide)] at H; exact H
    clear H
    have H := H1
    clear H1
    obtain rfl := Option.some.inj H
    go_enter Try.func147, Try.ntmps147
    go_wp2_with (first | ((with_reducible refine gate_dst (N := 4) rfl ?_); (try (refine gate_guard (by rfl) ?_; dsimp only)); refine box_event ?hg (N := 4) ?hd (cs := #[.int .i64 a0_0, .string a0_1, .string a0_2, .slice A0_3 l0_3.length c0_3, .slice A0_4 l0_4.length c0_4]) (t := 25) ?hr ?_; (case hd => rfl); (case hg => rfl); (case hr => first | (go_simp; done) | (go_simp; rfl)); intro gb157 hg w9 hbox hb; have n0_ := Aside0.mk (below_step (by repeat (first | (with_reducible first | exact HB.out | apply below_alloc | apply pw_below_drewN | apply below_drew1) | exact HB.out)) hb); have n1_ := Aside0.mk (hbox); have n2_ := Aside0.mk ((by rw [hg]; exact (below_size (by repeat (first | (with_reducible first | exact HB.out | apply below_alloc | apply pw_below_drewN | apply below_drew1) | exact HB.out))) : w.heap.size ≤ gb157)); have n3_ := Aside0.mk ((by rw [hg]; exact (below_size (by repeat (first | (with_reducible first | exact HB.out | apply below_alloc | apply pw_below_drewN | apply below_drew1) | exact HB.out))) : w.heap.size ≤ gb157)); clear HB; have HB := n0_; have BK157 := n1_; have GW157 := n2_; have GE157 := n3_; clear n0_ n1_ n2_ n3_; clear hb hbox hg; have hcz10_0 : w9.cell? ⟨gb157, 0, none⟩ = some (.int .i64 a0_0) := (blk_cell BK157.out 0).trans rfl; have hcz10_1 : w9.cell? ⟨gb157, 1, none⟩ = some (.string a0_1) := (blk_cell BK157.out 1).trans rfl; have hcz10_2 : w9.cell? ⟨gb157, 2, none⟩ = some (.string a0_2) := (blk_cell BK157.out 2).trans rfl; have hcz10_3 : w9.cell? ⟨gb157, 3, none⟩ = some (.slice A0_3 l0_3.length c0_3) := (blk_cell BK157.out 3).trans rfl; have hcz10_4 : w9.cell? ⟨gb157, 4, none⟩ = some (.slice A0_4 l0_4.length c0_4) := (blk_cell BK157.out 4).trans rfl; have hfz10_0 := blk_frozen BK157.out 0; have hfz10_1 := blk_frozen BK157.out 1; have hfz10_2 := blk_frozen BK157.out 2; have hfz10_3 := blk_frozen BK157.out 3; have hfz10_4 := blk_frozen BK157.out 4))
    go_ret
    exact ⟨by first | rfl | (simp [errW_none, errW_some] <;> rfl) | (simp [*, errW_none, errW_some] <;> rfl), by repeat (first | (with_reducible first | exact HB.out | apply below_alloc | apply pw_below_drewN | apply below_drew1 | refine below_set ?_ GE157.out) | exact HB.out)⟩
  ·replace c6 := Bool.eq_false_iff.mpr c6
   subst c6
   have H1 : (if (l0_3.length : Int) = 0 then (if a3 = true then (some true) else (some ((l0_4.length : Int) == 0))) else (some false)) = some r := by rw [if_neg (show ¬ (false = true) by decide)] at H; exact H
   clear H
   have H := H1
   clear H1
   by_cases c11 : (l0_3.length : Int) = 0
   ·rw [if_pos c11] at H
    have c11b0 : ((l0_3.length : Int) == 0) = true := beq_iff_eq.mpr c11
    have c11b1 : ((l0_3.length : Int) != 0) = false := bne_eq_false_iff_eq.mpr c11
    clear c11
    by_cases c12 : a3 = true
    ·subst c12
     have H1 : (some true) = some r := by rw [if_pos rfl] at H; exact H
     clear H
     have H := H1
     clear H1
     obtain rfl := Option.some.inj H
     go_enter Try.func147, Try.ntmps147
     go_wp2_with (first | ((with_reducible refine gate_dst (N := 4) rfl ?_); (try (refine gate_guard (by rfl) ?_; dsimp only)); refine box_event ?hg (N := 4) ?hd (cs := #[.int .i64 a0_0, .string a0_1, .string a0_2, .slice A0_3 l0_3.length c0_3, .slice A0_4 l0_4.length c0_4]) (t := 25) ?hr ?_; (case hd => rfl); (case hg => rfl); (case hr => first | (go_simp; done) | (go_simp; rfl)); intro gb157 hg w13 hbox hb; have n0_ := Aside0.mk (below_step (by repeat (first | (with_reducible first | exact HB.out | apply below_alloc | apply pw_below_drewN | apply below_drew1) | exact HB.out)) hb); have n1_ := Aside0.mk (hbox); have n2_ := Aside0.mk ((by rw [hg]; exact (below_size (by repeat (first | (with_reducible first | exact HB.out | apply below_alloc | apply pw_below_drewN | apply below_drew1) | exact HB.out))) : w.heap.size ≤ gb157)); have n3_ := Aside0.mk ((by rw [hg]; exact (below_size (by repeat (first | (with_reducible first | exact HB.out | apply below_alloc | apply pw_below_drewN | apply below_drew1) | exact HB.out))) : w.heap.size ≤ gb157)); clear HB; have HB := n0_; have BK157 := n1_; have GW157 := n2_; have GE157 := n3_; clear n0_ n1_ n2_ n3_; clear hb hbox hg; have hcz14_0 : w13.cell? ⟨gb157, 0, none⟩ = some (.int .i64 a0_0) := (blk_cell BK157.out 0).trans rfl; have hcz14_1 : w13.cell? ⟨gb157, 1, none⟩ = some (.string a0_1) := (blk_cell BK157.out 1).trans rfl; have hcz14_2 : w13.cell? ⟨gb157, 2, none⟩ = some (.string a0_2) := (blk_cell BK157.out 2).trans rfl; have hcz14_3 : w13.cell? ⟨gb157, 3, none⟩ = some (.slice A0_3 l0_3.length c0_3) := (blk_cell BK157.out 3).trans rfl; have hcz14_4 : w13.cell? ⟨gb157, 4, none⟩ = some (.slice A0_4 l0_4.length c0_4) := (blk_cell BK157.out 4).trans rfl; have hfz14_0 := blk_frozen BK157.out 0; have hfz14_1 := blk_frozen BK157.out 1; have hfz14_2 := blk_frozen BK157.out 2; have hfz14_3 := blk_frozen BK157.out 3; have hfz14_4 := blk_frozen BK157.out 4))
     go_ret
     exact ⟨by first | rfl | (simp [errW_none, errW_some] <;> rfl) | (simp [*, errW_none, errW_some] <;> rfl), by repeat (first | (with_reducible first | exact HB.out | apply below_alloc | apply pw_below_drewN | apply below_drew1 | refine below_set ?_ GE157.out) | exact HB.out)⟩
    ·replace c12 := Bool.eq_false_iff.mpr c12
     subst c12
     have H1 : (some ((l0_4.length : Int) == 0)) = some r := by rw [if_neg (show ¬ (false = true) by decide)] at H; exact H
     clear H
     have H := H1
     clear H1
     obtain rfl := Option.some.inj H
     go_enter Try.func147, Try.ntmps147
     go_wp2_with (first | ((with_reducible refine gate_dst (N := 4) rfl ?_); (try (refine gate_guard (by rfl) ?_; dsimp only)); refine box_event ?hg (N := 4) ?hd (cs := #[.int .i64 a0_0, .string a0_1, .string a0_2, .slice A0_3 l0_3.length c0_3, .slice A0_4 l0_4.length c0_4]) (t := 25) ?hr ?_; (case hd => rfl); (case hg => rfl); (case hr => first | (go_simp; done) | (go_simp; rfl)); intro gb157 hg w15 hbox hb; have n0_ := Aside0.mk (below_step (by repeat (first | (with_reducible first | exact HB.out | apply below_alloc | apply pw_below_drewN | apply below_drew1) | exact HB.out)) hb); have n1_ := Aside0.mk (hbox); have n2_ := Aside0.mk ((by rw [hg]; exact (below_size (by repeat (first | (with_reducible first | exact HB.out | apply below_alloc | apply pw_below_drewN | apply below_drew1) | exact HB.out))) : w.heap.size ≤ gb157)); have n3_ := Aside0.mk ((by rw [hg]; exact (below_size (by repeat (first | (with_reducible first | exact HB.out | apply below_alloc | apply pw_below_drewN | apply below_drew1) | exact HB.out))) : w.heap.size ≤ gb157)); clear HB; have HB := n0_; have BK157 := n1_; have GW157 := n2_; have GE157 := n3_; clear n0_ n1_ n2_ n3_; clear hb hbox hg; have hcz16_0 : w15.cell? ⟨gb157, 0, none⟩ = some (.int .i64 a0_0) := (blk_cell BK157.out 0).trans rfl; have hcz16_1 : w15.cell? ⟨gb157, 1, none⟩ = some (.string a0_1) := (blk_cell BK157.out 1).trans rfl; have hcz16_2 : w15.cell? ⟨gb157, 2, none⟩ = some (.string a0_2) := (blk_cell BK157.out 2).trans rfl; have hcz16_3 : w15.cell? ⟨gb157, 3, none⟩ = some (.slice A0_3 l0_3.length c0_3) := (blk_cell BK157.out 3).trans rfl; have hcz16_4 : w15.cell? ⟨gb157, 4, none⟩ = some (.slice A0_4 l0_4.length c0_4) := (blk_cell BK157.out 4).trans rfl; have hfz16_0 := blk_frozen BK157.out 0; have hfz16_1 := blk_frozen BK157.out 1; have hfz16_2 := blk_frozen BK157.out 2; have hfz16_3 := blk_frozen BK157.out 3; have hfz16_4 := blk_frozen BK157.out 4))
     go_ret
     exact ⟨by first | rfl | (simp [errW_none, errW_some] <;> rfl) | (simp [*, errW_none, errW_some] <;> rfl), by repeat (first | (with_reducible first | exact HB.out | apply below_alloc | apply pw_below_drewN | apply below_drew1 | refine below_set ?_ GE157.out) | exact HB.out)⟩
   ·rw [if_neg c11] at H
    have c11b0 : ((l0_3.length : Int) == 0) = false := beq_eq_false_iff_ne.mpr c11
    have c11b1 : ((l0_3.length : Int) != 0) = true := bne_iff_ne.mpr c11
    have c11b2 : ¬ (l0_3 = []) := fun h_ => c11 (by rw [h_]; rfl)
    obtain rfl := Option.some.inj H
    go_enter Try.func147, Try.ntmps147
    go_wp2_with (first | ((with_reducible refine gate_dst (N := 4) rfl ?_); (try (refine gate_guard (by rfl) ?_; dsimp only)); refine box_event ?hg (N := 4) ?hd (cs := #[.int .i64 a0_0, .string a0_1, .string a0_2, .slice A0_3 l0_3.length c0_3, .slice A0_4 l0_4.length c0_4]) (t := 25) ?hr ?_; (case hd => rfl); (case hg => rfl); (case hr => first | (go_simp; done) | (go_simp; rfl)); intro gb157 hg w17 hbox hb; have n0_ := Aside0.mk (below_step (by repeat (first | (with_reducible first | exact HB.out | apply below_alloc | apply pw_below_drewN | apply below_drew1) | exact HB.out)) hb); have n1_ := Aside0.mk (hbox); have n2_ := Aside0.mk ((by rw [hg]; exact (below_size (by repeat (first | (with_reducible first | exact HB.out | apply below_alloc | apply pw_below_drewN | apply below_drew1) | exact HB.out))) : w.heap.size ≤ gb157)); have n3_ := Aside0.mk ((by rw [hg]; exact (below_size (by repeat (first | (with_reducible first | exact HB.out | apply below_alloc | apply pw_below_drewN | apply below_drew1) | exact HB.out))) : w.heap.size ≤ gb157)); clear HB; have HB := n0_; have BK157 := n1_; have GW157 := n2_; have GE157 := n3_; clear n0_ n1_ n2_ n3_; clear hb hbox hg; have hcz18_0 : w17.cell? ⟨gb157, 0, none⟩ = some (.int .i64 a0_0) := (blk_cell BK157.out 0).trans rfl; have hcz18_1 : w17.cell? ⟨gb157, 1, none⟩ = some (.string a0_1) := (blk_cell BK157.out 1).trans rfl; have hcz18_2 : w17.cell? ⟨gb157, 2, none⟩ = some (.string a0_2) := (blk_cell BK157.out 2).trans rfl; have hcz18_3 : w17.cell? ⟨gb157, 3, none⟩ = some (.slice A0_3 l0_3.length c0_3) := (blk_cell BK157.out 3).trans rfl; have hcz18_4 : w17.cell? ⟨gb157, 4, none⟩ = some (.slice A0_4 l0_4.length c0_4) := (blk_cell BK157.out 4).trans rfl; have hfz18_0 := blk_frozen BK157.out 0; have hfz18_1 := blk_frozen BK157.out 1; have hfz18_2 := blk_frozen BK157.out 2; have hfz18_3 := blk_frozen BK157.out 3; have hfz18_4 := blk_frozen BK157.out 4))
    go_ret
    exact ⟨by first | rfl | (simp [errW_none, errW_some] <;> rfl) | (simp [*, errW_none, errW_some] <;> rfl), by repeat (first | (with_reducible first | exact HB.out | apply below_alloc | apply pw_below_drewN | apply below_drew1 | refine below_set ?_ GE157.out) | exact HB.out)⟩
 ·replace c5 := Bool.eq_false_iff.mpr c5
  subst c5
  have H1 : (if a0_2.toList = ([] : List UInt8) then (if a2 = true then (if a3 = true then (some true) else (some ((l0_4.length : Int) == 0))) else (if a0_1.toList = ([] : List UInt8) then (if (l0_3.length : Int) = 0 then (if a3 = true then (some true) else (some ((l0_4.length : Int) == 0))) else (some false)) else (some false))) else (some false)) = some r := by rw [if_neg (show ¬ (false = true) by decide)] at H; exact H
  clear H
  have H := H1
  clear H1
  by_cases c19 : a0_2.toList = ([] : List UInt8)
  ·rw [if_pos c19] at H
   have c19b0 : (a0_2.toList == ([] : List UInt8)) = true := beq_iff_eq.mpr c19
   have c19b1 : (a0_2.toList != ([] : List UInt8)) = false := bne_eq_false_iff_eq.mpr c19
   clear c19
   by_cases c20 : a2 = true
   ·subst c20
    have H1 : (if a3 = true then (some true) else (some ((l0_4.length : Int) == 0))) = some r := by rw [if_pos rfl] at H; exact H
    clear H
    have H := H1
    clear H1
    by_cases c21 : a3 = true
    ·subst c21
     have H1 : (some true) = some r := by rw [if_pos rfl] at H; exact H
     clear H
     have H := H1
     clear H1
     obtain rfl := Option.some.inj H
     go_enter Try.func147, Try.ntmps147
     go_wp2_with (first | ((with_reducible refine gate_dst (N := 4) rfl ?_); (try (refine gate_guard (by rfl) ?_; dsimp only)); refine box_event ?hg (N := 4) ?hd (cs := #[.int .i64 a0_0, .string a0_1, .string a0_2, .slice A0_3 l0_3.length c0_3, .slice A0_4 l0_4.length c0_4]) (t := 25) ?hr ?_; (case hd => rfl); (case hg => rfl); (case hr => first | (go_simp; done) | (go_simp; rfl)); intro gb157 hg w22 hbox hb; have n0_ := Aside0.mk (below_step (by repeat (first | (with_reducible first | exact HB.out | apply below_alloc | apply pw_below_drewN | apply below_drew1) | exact HB.out)) hb); have n1_ := Aside0.mk (hbox); have n2_ := Aside0.mk ((by rw [hg]; exact (below_size (by repeat (first | (with_reducible first | exact HB.out | apply below_alloc | apply pw_below_drewN | apply below_drew1) | exact HB.out))) : w.heap.size ≤ gb157)); have n3_ := Aside0.mk ((by rw [hg]; exact (below_size (by repeat (first | (with_reducible first | exact HB.out | apply below_alloc | apply pw_below_drewN | apply below_drew1) | exact HB.out))) : w.heap.size ≤ gb157)); clear HB; have HB := n0_; have BK157 := n1_; have GW157 := n2_; have GE157 := n3_; clear n0_ n1_ n2_ n3_; clear hb hbox hg; have hcz23_0 : w22.cell? ⟨gb157, 0, none⟩ = some (.int .i64 a0_0) := (blk_cell BK157.out 0).trans rfl; have hcz23_1 : w22.cell? ⟨gb157, 1, none⟩ = some (.string a0_1) := (blk_cell BK157.out 1).trans rfl; have hcz23_2 : w22.cell? ⟨gb157, 2, none⟩ = some (.string a0_2) := (blk_cell BK157.out 2).trans rfl; have hcz23_3 : w22.cell? ⟨gb157, 3, none⟩ = some (.slice A0_3 l0_3.length c0_3) := (blk_cell BK157.out 3).trans rfl; have hcz23_4 : w22.cell? ⟨gb157, 4, none⟩ = some (.slice A0_4 l0_4.length c0_4) := (blk_cell BK157.out 4).trans rfl; have hfz23_0 := blk_frozen BK157.out 0; have hfz23_1 := blk_frozen BK157.out 1; have hfz23_2 := blk_frozen BK157.out 2; have hfz23_3 := blk_frozen BK157.out 3; have hfz23_4 := blk_frozen BK157.out 4))
     go_ret
     exact ⟨by first | rfl | (simp [errW_none, errW_some] <;> rfl) | (simp [*, errW_none, errW_some] <;> rfl), by repeat (first | (with_reducible first | exact HB.out | apply below_alloc | apply pw_below_drewN | apply below_drew1 | refine below_set ?_ GE157.out) | exact HB.out)⟩
    ·replace c21 := Bool.eq_false_iff.mpr c21
     subst c21
     have H1 : (some ((l0_4.length : Int) == 0)) = some r := by rw [if_neg (show ¬ (false = true) by decide)] at H; exact H
     clear H
     have H := H1
     clear H1
     obtain rfl := Option.some.inj H
     go_enter Try.func147, Try.ntmps147
     go_wp2_with (first | ((with_reducible refine gate_dst (N := 4) rfl ?_); (try (refine gate_guard (by rfl) ?_; dsimp only)); refine box_event ?hg (N := 4) ?hd (cs := #[.int .i64 a0_0, .string a0_1, .string a0_2, .slice A0_3 l0_3.length c0_3, .slice A0_4 l0_4.length c0_4]) (t := 25) ?hr ?_; (case hd => rfl); (case hg => rfl); (case hr => first | (go_simp; done) | (go_simp; rfl)); intro gb157 hg w24 hbox hb; have n0_ := Aside0.mk (below_step (by repeat (first | (with_reducible first | exact HB.out | apply below_alloc | apply pw_below_drewN | apply below_drew1) | exact HB.out)) hb); have n1_ := Aside0.mk (hbox); have n2_ := Aside0.mk ((by rw [hg]; exact (below_size (by repeat (first | (with_reducible first | exact HB.out | apply below_alloc | apply pw_below_drewN | apply below_drew1) | exact HB.out))) : w.heap.size ≤ gb157)); have n3_ := Aside0.mk ((by rw [hg]; exact (below_size (by repeat (first | (with_reducible first | exact HB.out | apply below_alloc | apply pw_below_drewN | apply below_drew1) | exact HB.out))) : w.heap.size ≤ gb157)); clear HB; have HB := n0_; have BK157 := n1_; have GW157 := n2_; have GE157 := n3_; clear n0_ n1_ n2_ n3_; clear hb hbox hg; have hcz25_0 : w24.cell? ⟨gb157, 0, none⟩ = some (.int .i64 a0_0) := (blk_cell BK157.out 0).trans rfl; have hcz25_1 : w24.cell? ⟨gb157, 1, none⟩ = some (.string a0_1) := (blk_cell BK157.out 1).trans rfl; have hcz25_2 : w24.cell? ⟨gb157, 2, none⟩ = some (.string a0_2) := (blk_cell BK157.out 2).trans rfl; have hcz25_3 : w24.cell? ⟨gb157, 3, none⟩ = some (.slice A0_3 l0_3.length c0_3) := (blk_cell BK157.out 3).trans rfl; have hcz25_4 : w24.cell? ⟨gb157, 4, none⟩ = some (.slice A0_4 l0_4.length c0_4) := (blk_cell BK157.out 4).trans rfl; have hfz25_0 := blk_frozen BK157.out 0; have hfz25_1 := blk_frozen BK157.out 1; have hfz25_2 := blk_frozen BK157.out 2; have hfz25_3 := blk_frozen BK157.out 3; have hfz25_4 := blk_frozen BK157.out 4))
     go_ret
     exact ⟨by first | rfl | (simp [errW_none, errW_some] <;> rfl) | (simp [*, errW_none, errW_some] <;> rfl), by repeat (first | (with_reducible first | exact HB.out | apply below_alloc | apply pw_below_drewN | apply below_drew1 | refine below_set ?_ GE157.out) | exact HB.out)⟩
   ·replace c20 := Bool.eq_false_iff.mpr c20
    subst c20
    have H1 : (if a0_1.toList = ([] : List UInt8) then (if (l0_3.length : Int) = 0 then (if a3 = true then (some true) else (some ((l0_4.length : Int) == 0))) else (some false)) else (some false)) = some r := by rw [if_neg (show ¬ (false = true) by decide)] at H; exact H
    clear H
    have H := H1
    clear H1
    by_cases c26 : a0_1.toList = ([] : List UInt8)
    ·rw [if_pos c26] at H
     have c26b0 : (a0_1.toList == ([] : List UInt8)) = true := beq_iff_eq.mpr c26
     have c26b1 : (a0_1.toList != ([] : List UInt8)) = false := bne_eq_false_iff_eq.mpr c26
     clear c26
     by_cases c27 : (l0_3.length : Int) = 0
     ·rw [if_pos c27] at H
      have c27b0 : ((l0_3.length : Int) == 0) = true := beq_iff_eq.mpr c27
      have c27b1 : ((l0_3.length : Int) != 0) = false := bne_eq_false_iff_eq.mpr c27
      clear c27
      by_cases c28 : a3 = true
      ·subst c28
       have H1 : (some true) = some r := by rw [if_pos rfl] at H; exact H
       clear H
       have H := H1
       clear H1
       obtain rfl := Option.some.inj H
       go_enter Try.func147, Try.ntmps147
       go_wp2_with (first | ((with_reducible refine gate_dst (N := 4) rfl ?_); (try (refine gate_guard (by rfl) ?_; dsimp only)); refine box_event ?hg (N := 4) ?hd (cs := #[.int .i64 a0_0, .string a0_1, .string a0_2, .slice A0_3 l0_3.length c0_3, .slice A0_4 l0_4.length c0_4]) (t := 25) ?hr ?_; (case hd => rfl); (case hg => rfl); (case hr => first | (go_simp; done) | (go_simp; rfl)); intro gb157 hg w29 hbox hb; have n0_ := Aside0.mk (below_step (by repeat (first | (with_reducible first | exact HB.out | apply below_alloc | apply pw_below_drewN | apply below_drew1) | exact HB.out)) hb); have n1_ := Aside0.mk (hbox); have n2_ := Aside0.mk ((by rw [hg]; exact (below_size (by repeat (first | (with_reducible first | exact HB.out | apply below_alloc | apply pw_below_drewN | apply below_drew1) | exact HB.out))) : w.heap.size ≤ gb157)); have n3_ := Aside0.mk ((by rw [hg]; exact (below_size (by repeat (first | (with_reducible first | exact HB.out | apply below_alloc | apply pw_below_drewN | apply below_drew1) | exact HB.out))) : w.heap.size ≤ gb157)); clear HB; have HB := n0_; have BK157 := n1_; have GW157 := n2_; have GE157 := n3_; clear n0_ n1_ n2_ n3_; clear hb hbox hg; have hcz30_0 : w29.cell? ⟨gb157, 0, none⟩ = some (.int .i64 a0_0) := (blk_cell BK157.out 0).trans rfl; have hcz30_1 : w29.cell? ⟨gb157, 1, none⟩ = some (.string a0_1) := (blk_cell BK157.out 1).trans rfl; have hcz30_2 : w29.cell? ⟨gb157, 2, none⟩ = some (.string a0_2) := (blk_cell BK157.out 2).trans rfl; have hcz30_3 : w29.cell? ⟨gb157, 3, none⟩ = some (.slice A0_3 l0_3.length c0_3) := (blk_cell BK157.out 3).trans rfl; have hcz30_4 : w29.cell? ⟨gb157, 4, none⟩ = some (.slice A0_4 l0_4.length c0_4) := (blk_cell BK157.out 4).trans rfl; have hfz30_0 := blk_frozen BK157.out 0; have hfz30_1 := blk_frozen BK157.out 1; have hfz30_2 := blk_frozen BK157.out 2; have hfz30_3 := blk_frozen BK157.out 3; have hfz30_4 := blk_frozen BK157.out 4))
       go_ret
       exact ⟨by first | rfl | (simp [errW_none, errW_some] <;> rfl) | (simp [*, errW_none, errW_some] <;> rfl), by repeat (first | (with_reducible first | exact HB.out | apply below_alloc | apply pw_below_drewN | apply below_drew1 | refine below_set ?_ GE157.out) | exact HB.out)⟩
      ·replace c28 := Bool.eq_false_iff.mpr c28
       subst c28
       have H1 : (some ((l0_4.length : Int) == 0)) = some r := by rw [if_neg (show ¬ (false = true) by decide)] at H; exact H
       clear H
       have H := H1
       clear H1
       obtain rfl := Option.some.inj H
       go_enter Try.func147, Try.ntmps147
       go_wp2_with (first | ((with_reducible refine gate_dst (N := 4) rfl ?_); (try (refine gate_guard (by rfl) ?_; dsimp only)); refine box_event ?hg (N := 4) ?hd (cs := #[.int .i64 a0_0, .string a0_1, .string a0_2, .slice A0_3 l0_3.length c0_3, .slice A0_4 l0_4.length c0_4]) (t := 25) ?hr ?_; (case hd => rfl); (case hg => rfl); (case hr => first | (go_simp; done) | (go_simp; rfl)); intro gb157 hg w31 hbox hb; have n0_ := Aside0.mk (below_step (by repeat (first | (with_reducible first | exact HB.out | apply below_alloc | apply pw_below_drewN | apply below_drew1) | exact HB.out)) hb); have n1_ := Aside0.mk (hbox); have n2_ := Aside0.mk ((by rw [hg]; exact (below_size (by repeat (first | (with_reducible first | exact HB.out | apply below_alloc | apply pw_below_drewN | apply below_drew1) | exact HB.out))) : w.heap.size ≤ gb157)); have n3_ := Aside0.mk ((by rw [hg]; exact (below_size (by repeat (first | (with_reducible first | exact HB.out | apply below_alloc | apply pw_below_drewN | apply below_drew1) | exact HB.out))) : w.heap.size ≤ gb157)); clear HB; have HB := n0_; have BK157 := n1_; have GW157 := n2_; have GE157 := n3_; clear n0_ n1_ n2_ n3_; clear hb hbox hg; have hcz32_0 : w31.cell? ⟨gb157, 0, none⟩ = some (.int .i64 a0_0) := (blk_cell BK157.out 0).trans rfl; have hcz32_1 : w31.cell? ⟨gb157, 1, none⟩ = some (.string a0_1) := (blk_cell BK157.out 1).trans rfl; have hcz32_2 : w31.cell? ⟨gb157, 2, none⟩ = some (.string a0_2) := (blk_cell BK157.out 2).trans rfl; have hcz32_3 : w31.cell? ⟨gb157, 3, none⟩ = some (.slice A0_3 l0_3.length c0_3) := (blk_cell BK157.out 3).trans rfl; have hcz32_4 : w31.cell? ⟨gb157, 4, none⟩ = some (.slice A0_4 l0_4.length c0_4) := (blk_cell BK157.out 4).trans rfl; have hfz32_0 := blk_frozen BK157.out 0; have hfz32_1 := blk_frozen BK157.out 1; have hfz32_2 := blk_frozen BK157.out 2; have hfz32_3 := blk_frozen BK157.out 3; have hfz32_4 := blk_frozen BK157.out 4))
       go_ret
       exact ⟨by first | rfl | (simp [errW_none, errW_some] <;> rfl) | (simp [*, errW_none, errW_some] <;> rfl), by repeat (first | (with_reducible first | exact HB.out | apply below_alloc | apply pw_below_drewN | apply below_drew1 | refine below_set ?_ GE157.out) | exact HB.out)⟩
     ·rw [if_neg c27] at H
      have c27b0 : ((l0_3.length : Int) == 0) = false := beq_eq_false_iff_ne.mpr c27
      have c27b1 : ((l0_3.length : Int) != 0) = true := bne_iff_ne.mpr c27
      have c27b2 : ¬ (l0_3 = []) := fun h_ => c27 (by rw [h_]; rfl)
      obtain rfl := Option.some.inj H
      go_enter Try.func147, Try.ntmps147
      go_wp2_with (first | ((with_reducible refine gate_dst (N := 4) rfl ?_); (try (refine gate_guard (by rfl) ?_; dsimp only)); refine box_event ?hg (N := 4) ?hd (cs := #[.int .i64 a0_0, .string a0_1, .string a0_2, .slice A0_3 l0_3.length c0_3, .slice A0_4 l0_4.length c0_4]) (t := 25) ?hr ?_; (case hd => rfl); (case hg => rfl); (case hr => first | (go_simp; done) | (go_simp; rfl)); intro gb157 hg w33 hbox hb; have n0_ := Aside0.mk (below_step (by repeat (first | (with_reducible first | exact HB.out | apply below_alloc | apply pw_below_drewN | apply below_drew1) | exact HB.out)) hb); have n1_ := Aside0.mk (hbox); have n2_ := Aside0.mk ((by rw [hg]; exact (below_size (by repeat (first | (with_reducible first | exact HB.out | apply below_alloc | apply pw_below_drewN | apply below_drew1) | exact HB.out))) : w.heap.size ≤ gb157)); have n3_ := Aside0.mk ((by rw [hg]; exact (below_size (by repeat (first | (with_reducible first | exact HB.out | apply below_alloc | apply pw_below_drewN | apply below_drew1) | exact HB.out))) : w.heap.size ≤ gb157)); clear HB; have HB := n0_; have BK157 := n1_; have GW157 := n2_; have GE157 := n3_; clear n0_ n1_ n2_ n3_; clear hb hbox hg; have hcz34_0 : w33.cell? ⟨gb157, 0, none⟩ = some (.int .i64 a0_0) := (blk_cell BK157.out 0).trans rfl; have hcz34_1 : w33.cell? ⟨gb157, 1, none⟩ = some (.string a0_1) := (blk_cell BK157.out 1).trans rfl; have hcz34_2 : w33.cell? ⟨gb157, 2, none⟩ = some (.string a0_2) := (blk_cell BK157.out 2).trans rfl; have hcz34_3 : w33.cell? ⟨gb157, 3, none⟩ = some (.slice A0_3 l0_3.length c0_3) := (blk_cell BK157.out 3).trans rfl; have hcz34_4 : w33.cell? ⟨gb157, 4, none⟩ = some (.slice A0_4 l0_4.length c0_4) := (blk_cell BK157.out 4).trans rfl; have hfz34_0 := blk_frozen BK157.out 0; have hfz34_1 := blk_frozen BK157.out 1; have hfz34_2 := blk_frozen BK157.out 2; have hfz34_3 := blk_frozen BK157.out 3; have hfz34_4 := blk_frozen BK157.out 4))
      go_ret
      exact ⟨by first | rfl | (simp [errW_none, errW_some] <;> rfl) | (simp [*, errW_none, errW_some] <;> rfl), by repeat (first | (with_reducible first | exact HB.out | apply below_alloc | apply pw_below_drewN | apply below_drew1 | refine below_set ?_ GE157.out) | exact HB.out)⟩
    ·rw [if_neg c26] at H
     have c26b0 : (a0_1.toList == ([] : List UInt8)) = false := beq_eq_false_iff_ne.mpr c26
     have c26b1 : (a0_1.toList != ([] : List UInt8)) = true := bne_iff_ne.mpr c26
     obtain rfl := Option.some.inj H
     go_enter Try.func147, Try.ntmps147
     go_wp2_with (first | ((with_reducible refine gate_dst (N := 4) rfl ?_); (try (refine gate_guard (by rfl) ?_; dsimp only)); refine box_event ?hg (N := 4) ?hd (cs := #[.int .i64 a0_0, .string a0_1, .string a0_2, .slice A0_3 l0_3.length c0_3, .slice A0_4 l0_4.length c0_4]) (t := 25) ?hr ?_; (case hd => rfl); (case hg => rfl); (case hr => first | (go_simp; done) | (go_simp; rfl)); intro gb157 hg w35 hbox hb; have n0_ := Aside0.mk (below_step (by repeat (first | (with_reducible first | exact HB.out | apply below_alloc | apply pw_below_drewN | apply below_drew1) | exact HB.out)) hb); have n1_ := Aside0.mk (hbox); have n2_ := Aside0.mk ((by rw [hg]; exact (below_size (by repeat (first | (with_reducible first | exact HB.out | apply below_alloc | apply pw_below_drewN | apply below_drew1) | exact HB.out))) : w.heap.size ≤ gb157)); have n3_ := Aside0.mk ((by rw [hg]; exact (below_size (by repeat (first | (with_reducible first | exact HB.out | apply below_alloc | apply pw_below_drewN | apply below_drew1) | exact HB.out))) : w.heap.size ≤ gb157)); clear HB; have HB := n0_; have BK157 := n1_; have GW157 := n2_; have GE157 := n3_; clear n0_ n1_ n2_ n3_; clear hb hbox hg; have hcz36_0 : w35.cell? ⟨gb157, 0, none⟩ = some (.int .i64 a0_0) := (blk_cell BK157.out 0).trans rfl; have hcz36_1 : w35.cell? ⟨gb157, 1, none⟩ = some (.string a0_1) := (blk_cell BK157.out 1).trans rfl; have hcz36_2 : w35.cell? ⟨gb157, 2, none⟩ = some (.string a0_2) := (blk_cell BK157.out 2).trans rfl; have hcz36_3 : w35.cell? ⟨gb157, 3, none⟩ = some (.slice A0_3 l0_3.length c0_3) := (blk_cell BK157.out 3).trans rfl; have hcz36_4 : w35.cell? ⟨gb157, 4, none⟩ = some (.slice A0_4 l0_4.length c0_4) := (blk_cell BK157.out 4).trans rfl; have hfz36_0 := blk_frozen BK157.out 0; have hfz36_1 := blk_frozen BK157.out 1; have hfz36_2 := blk_frozen BK157.out 2; have hfz36_3 := blk_frozen BK157.out 3; have hfz36_4 := blk_frozen BK157.out 4))
     go_ret
     exact ⟨by first | rfl | (simp [errW_none, errW_some] <;> rfl) | (simp [*, errW_none, errW_some] <;> rfl), by repeat (first | (with_reducible first | exact HB.out | apply below_alloc | apply pw_below_drewN | apply below_drew1 | refine below_set ?_ GE157.out) | exact HB.out)⟩
  ·rw [if_neg c19] at H
   have c19b0 : (a0_2.toList == ([] : List UInt8)) = false := beq_eq_false_iff_ne.mpr c19
   have c19b1 : (a0_2.toList != ([] : List UInt8)) = true := bne_iff_ne.mpr c19
   obtain rfl := Option.some.inj H
   go_enter Try.func147, Try.ntmps147
   go_wp2_with (first | ((with_reducible refine gate_dst (N := 4) rfl ?_); (try (refine gate_guard (by rfl) ?_; dsimp only)); refine box_event ?hg (N := 4) ?hd (cs := #[.int .i64 a0_0, .string a0_1, .string a0_2, .slice A0_3 l0_3.length c0_3, .slice A0_4 l0_4.length c0_4]) (t := 25) ?hr ?_; (case hd => rfl); (case hg => rfl); (case hr => first | (go_simp; done) | (go_simp; rfl)); intro gb157 hg w37 hbox hb; have n0_ := Aside0.mk (below_step (by repeat (first | (with_reducible first | exact HB.out | apply below_alloc | apply pw_below_drewN | apply below_drew1) | exact HB.out)) hb); have n1_ := Aside0.mk (hbox); have n2_ := Aside0.mk ((by rw [hg]; exact (below_size (by repeat (first | (with_reducible first | exact HB.out | apply below_alloc | apply pw_below_drewN | apply below_drew1) | exact HB.out))) : w.heap.size ≤ gb157)); have n3_ := Aside0.mk ((by rw [hg]; exact (below_size (by repeat (first | (with_reducible first | exact HB.out | apply below_alloc | apply pw_below_drewN | apply below_drew1) | exact HB.out))) : w.heap.size ≤ gb157)); clear HB; have HB := n0_; have BK157 := n1_; have GW157 := n2_; have GE157 := n3_; clear n0_ n1_ n2_ n3_; clear hb hbox hg; have hcz38_0 : w37.cell? ⟨gb157, 0, none⟩ = some (.int .i64 a0_0) := (blk_cell BK157.out 0).trans rfl; have hcz38_1 : w37.cell? ⟨gb157, 1, none⟩ = some (.string a0_1) := (blk_cell BK157.out 1).trans rfl; have hcz38_2 : w37.cell? ⟨gb157, 2, none⟩ = some (.string a0_2) := (blk_cell BK157.out 2).trans rfl; have hcz38_3 : w37.cell? ⟨gb157, 3, none⟩ = some (.slice A0_3 l0_3.length c0_3) := (blk_cell BK157.out 3).trans rfl; have hcz38_4 : w37.cell? ⟨gb157, 4, none⟩ = some (.slice A0_4 l0_4.length c0_4) := (blk_cell BK157.out 4).trans rfl; have hfz38_0 := blk_frozen BK157.out 0; have hfz38_1 := blk_frozen BK157.out 1; have hfz38_2 := blk_frozen BK157.out 2; have hfz38_3 := blk_frozen BK157.out 3; have hfz38_4 := blk_frozen BK157.out 4))
   go_ret
   exact ⟨by first | rfl | (simp [errW_none, errW_some] <;> rfl) | (simp [*, errW_none, errW_some] <;> rfl), by repeat (first | (with_reducible first | exact HB.out | apply below_alloc | apply pw_below_drewN | apply below_drew1 | refine below_set ?_ GE157.out) | exact HB.out)⟩
/-- A state of type 122 at block g of W; what its slices lead to came in by w0. -/
def IsS122 (w0 W : World) (g : Nat) (f0 : Int) (f1 : Int) (f2 : Bool) : Prop := W.heap[g]? = some (.cells #[.int .i64 f0, .int .i64 f1, .bool f2] 122 (0, 0)) ∧ w0.heap.size ≤ g
theorem IsS122.grown {w0 W : World} {g : Nat} {f0 : Int} {f1 : Int} {f2 : Bool} {W1 : World} {row : Option Nat} (h : IsS122 w0 W g f0 f1 f2) (hw : W.grownBy W1 row) (hne : some g ≠ row) : IsS122 w0 W1 g f0 f1 f2 := by
 obtain ⟨hb, hg⟩ := h
 exact ⟨blk_grown hb hw hne, hg⟩
theorem IsS122.below {w0 W : World} {g : Nat} {f0 : Int} {f1 : Int} {f2 : Bool} {W1 : World} (h : IsS122 w0 W g f0 f1 f2) (hw : Below W.heap.size W W1) : IsS122 w0 W1 g f0 f1 f2 := h.grown (grown_of_below hw none) (by simp)
theorem IsS122.alloc {w0 W : World} {g : Nat} {f0 : Int} {f1 : Int} {f2 : Bool} (h : IsS122 w0 W g f0 f1 f2) (o : Obj) : IsS122 w0 (W.alloc o) g f0 f1 f2 := h.below (below_alloc (Below.refl _ _) o)
theorem IsS122.drewN {w0 W : World} {g : Nat} {f0 : Int} {f1 : Int} {f2 : Bool} (h : IsS122 w0 W g f0 f1 f2) (m : Nat) : IsS122 w0 (W.drewN m) g f0 f1 f2 := h
theorem IsS122.drew {w0 W : World} {g : Nat} {f0 : Int} {f1 : Int} {f2 : Bool} (h : IsS122 w0 W g f0 f1 f2) : IsS122 w0 W.drew g f0 f1 f2 := h
theorem IsS122.lt {w0 W : World} {g : Nat} {f0 : Int} {f1 : Int} {f2 : Bool} (h : IsS122 w0 W g f0 f1 f2) : g < W.heap.size := by
 obtain ⟨hb, hg⟩ := h
 exact blk_lt hb
theorem IsS122.ge {w0 W : World} {g : Nat} {f0 : Int} {f1 : Int} {f2 : Bool} (h : IsS122 w0 W g f0 f1 f2) : w0.heap.size ≤ g := by
 obtain ⟨hb, hg⟩ := h
 exact hg
theorem IsS122.far {w0 W : World} {g : Nat} {f0 : Int} {f1 : Int} {f2 : Bool} {p : Addr} (h : IsS122 w0 W g f0 f1 f2) (hne : g ≠ p.block) (u : Value) : IsS122 w0 (W.setCell p u) g f0 f1 f2 := by
 obtain ⟨hb, hg⟩ := h
 exact ⟨blk_far hb hne u, hg⟩
theorem cellS122_0 {W : World} {g : Nat} {f0 : Int} {f1 : Int} {f2 : Bool} (h : W.heap[g]? = some (.cells #[.int .i64 f0, .int .i64 f1, .bool f2] 122 (0, 0))) : W.cell? ⟨g, 0, none⟩ = some (.int .i64 f0) := (blk_cell h 0).trans rfl
theorem IsS122.set_0 {w0 W : World} {g : Nat} {f0 : Int} {f1 : Int} {f2 : Bool} (h : IsS122 w0 W g f0 f1 f2) (x : Int) : IsS122 w0 (W.setCell ⟨g, 0, none⟩ (.int .i64 x)) g x f1 f2 := by
 obtain ⟨hb, hg⟩ := h
 exact ⟨by simpa using blk_set hb 0 (.int .i64 x), hg⟩
theorem cellS122_1 {W : World} {g : Nat} {f0 : Int} {f1 : Int} {f2 : Bool} (h : W.heap[g]? = some (.cells #[.int .i64 f0, .int .i64 f1, .bool f2] 122 (0, 0))) : W.cell? ⟨g, 1, none⟩ = some (.int .i64 f1) := (blk_cell h 1).trans rfl
theorem IsS122.set_1 {w0 W : World} {g : Nat} {f0 : Int} {f1 : Int} {f2 : Bool} (h : IsS122 w0 W g f0 f1 f2) (x : Int) : IsS122 w0 (W.setCell ⟨g, 1, none⟩ (.int .i64 x)) g f0 x f2 := by
 obtain ⟨hb, hg⟩ := h
 exact ⟨by simpa using blk_set hb 1 (.int .i64 x), hg⟩
theorem cellS122_2 {W : World} {g : Nat} {f0 : Int} {f1 : Int} {f2 : Bool} (h : W.heap[g]? = some (.cells #[.int .i64 f0, .int .i64 f1, .bool f2] 122 (0, 0))) : W.cell? ⟨g, 2, none⟩ = some (.bool f2) := (blk_cell h 2).trans rfl
theorem IsS122.set_2 {w0 W : World} {g : Nat} {f0 : Int} {f1 : Int} {f2 : Bool} (h : IsS122 w0 W g f0 f1 f2) (x : Bool) : IsS122 w0 (W.setCell ⟨g, 2, none⟩ (.bool x)) g f0 f1 x := by
 obtain ⟨hb, hg⟩ := h
 exact ⟨by simpa using blk_set hb 2 (.bool x), hg⟩
theorem IsS122.new (w0 W : World) (f0 : Int) (f1 : Int) (f2 : Bool) (hB : Below w0.heap.size w0 W) : IsS122 w0 (W.alloc (.cells #[.int .i64 f0, .int .i64 f1, .bool f2] 122)) W.heap.size f0 f1 f2 := ⟨by simpa using heap_alloc_new W _, hB.size⟩
def varveref12_size_text.f (s0_0 : Int) (s0_1 : Int) (s0_2 : Bool) (a1 : ByteArray) : Option (Int × Int × Bool) := if (a1.size : Int) > (wrap64 (4096 - s0_1)) then (some (s0_0, s0_1, true)) else (some (s0_0, wrap64 (s0_1 + (a1.size : Int)), s0_2))
set_option maxHeartbeats 8000000 in
set_option maxRecDepth 100000 in
theorem varveref12_size_text.calls (g : Nat) (s0_0 : Int) (s0_1 : Int) (s0_2 : Bool) (a1 : ByteArray) (r1 : Int) (r2 : Int) (r3 : Bool) (w0 w : World) (hI : IsS122 w0 w g s0_0 s0_1 s0_2) (hB : Below w0.heap.size w0 w) (h : varveref12_size_text.f s0_0 s0_1 s0_2 a1 = some (r1, r2, r3)) :
  Calls Try.prog 148 #[.pointer (some ⟨g, 0, none⟩), .string a1] w fun e w' => e = .returned (.tuple #[]) ∧ IsS122 w0 w' g r1 r2 r3 ∧ Below w0.heap.size w0 w' ∧ KeepBut w w' g none := by
 have HI0 := Aside0.mk hI
 have HK := Aside0.mk (KeepBut.refl w g none)
 have HL := Aside0.mk hB.size
 clear hI
 have HW0 := Aside0.mk hB.size
 have HB := Aside0.mk hB
 clear hB
 have H : (if (a1.size : Int) > (wrap64 (4096 - s0_1)) then (some (s0_0, s0_1, true)) else (some (s0_0, wrap64 (s0_1 + (a1.size : Int)), s0_2))) = some (r1, r2, r3) := h
 clear h
 by_cases c3 : (a1.size : Int) > (wrap64 (4096 - s0_1))
 ·rw [if_pos c3] at H
  have c3b0 : decide ((wrap64 (4096 - s0_1)) < (a1.size : Int)) = true := decide_eq_true c3
  clear c3
  simp only [Option.some.injEq, Prod.mk.injEq] at H
  obtain ⟨rfl, rfl, rfl⟩ := H
  obtain ⟨HGz4, hgz4⟩ := HI0.out
  have hcz4_0 := cellS122_0 HGz4
  have hcz4_1 := cellS122_1 HGz4
  have hcz4_2 := cellS122_2 HGz4
  have hfz4_0 := blk_frozen HGz4 0
  have hfz4_1 := blk_frozen HGz4 1
  have hfz4_2 := blk_frozen HGz4 2
  clear HGz4 hgz4
  go_enter Try.func148, Try.ntmps148
  go_wp2
  first | go_end0 | ((try simp only [Exit.inBlock, Exit.then]); refine bodyPost_ret (results_none rfl _ _ _) rfl ?_)
  exact ⟨by first | rfl | (simp [errW_none, errW_some] <;> rfl) | (simp [*, errW_none, errW_some] <;> rfl), by repeat (first | (with_reducible first | exact HI0.out | apply IsS122.alloc | apply IsS122.drewN | apply IsS122.drew | apply IsS122.set_0 | apply IsS122.set_1 | apply IsS122.set_2) | exact HI0.out), by repeat (first | (with_reducible first | exact HB.out | apply below_alloc | apply pw_below_drewN | apply below_drew1 | refine below_set ?_ (IsS122.ge HI0.out)) | exact HB.out), by repeat (first | (with_reducible first | exact HK.out | apply KeepBut.set_ | apply keep_drewN | apply keep_drew | apply keep_alloc) | exact HK.out)⟩
 ·rw [if_neg c3] at H
  have c3b0 : decide ((wrap64 (4096 - s0_1)) < (a1.size : Int)) = false := decide_eq_false c3
  clear c3
  simp only [Option.some.injEq, Prod.mk.injEq] at H
  obtain ⟨rfl, rfl, rfl⟩ := H
  obtain ⟨HGz5, hgz5⟩ := HI0.out
  have hcz5_0 := cellS122_0 HGz5
  have hcz5_1 := cellS122_1 HGz5
  have hcz5_2 := cellS122_2 HGz5
  have hfz5_0 := blk_frozen HGz5 0
  have hfz5_1 := blk_frozen HGz5 1
  have hfz5_2 := blk_frozen HGz5 2
  clear HGz5 hgz5
  go_enter Try.func148, Try.ntmps148
  go_wp2
  first | go_end0 | ((try simp only [Exit.inBlock, Exit.then]); refine bodyPost_ret (results_none rfl _ _ _) rfl ?_)
  exact ⟨by first | rfl | (simp [errW_none, errW_some] <;> rfl) | (simp [*, errW_none, errW_some] <;> rfl), by repeat (first | (with_reducible first | exact HI0.out | apply IsS122.alloc | apply IsS122.drewN | apply IsS122.drew | apply IsS122.set_0 | apply IsS122.set_1 | apply IsS122.set_2) | exact HI0.out), by repeat (first | (with_reducible first | exact HB.out | apply below_alloc | apply pw_below_drewN | apply below_drew1 | refine below_set ?_ (IsS122.ge HI0.out)) | exact HB.out), by repeat (first | (with_reducible first | exact HK.out | apply KeepBut.set_ | apply keep_drewN | apply keep_drew | apply keep_alloc) | exact HK.out)⟩
end Go.Proofs.Yteafilojjdfllaa.PAll
end
section
namespace Go.Proofs.Yteafilojjdfllaa.PAll
open Go.RowKit Go.Proofs.YteafilojjdfllaaW.PrintWords Go.Proofs.YteafilojjdfllaaW.PrintLast Go.Proofs.YteafilojjdfllaaW.PrintMore
attribute [local go_sem] max2_int min2_int max_two min_two max_three min_three max_four min_four   -- for this text's walks alone
set_option linter.unusedVariables false
set_option linter.unusedSimpArgs false
mutual
def varveref12_values.j0 : Nat → List ByteArray → Bool → Option (Bool)
 | 0, _, _ => none
 | k + 1, x0, x11 => if x11 = true then (some false) else (varveref12_values.l0 k x0 0)
def varveref12_values.l0 : Nat → List ByteArray → Int → Option (Bool)
 | 0, _, _ => none
 | k + 1, x0, x3 => if x3 < (x0.length : Int) then (if 0 ≤ x3 then (if ((rdOf ByteArray.empty x0 x3).size : Int) > 64 then (some false) else (if x3 > 0 then (if 0 ≤ (wrap64 (x3 - 1)) then (if (wrap64 (x3 - 1)) < (x0.length : Int) then (if ((Op.bytesLess ((rdOf ByteArray.empty x0 (wrap64 (x3 - 1))).toList) ((rdOf ByteArray.empty x0 x3).toList)) = true) then (varveref12_values.l0 k x0 (wrap64 (x3 + 1))) else (some false)) else (none)) else (none)) else (varveref12_values.l0 k x0 (wrap64 (x3 + 1))))) else (none)) else (some true)
end
def varveref12_values.f (k : Nat) (l0 : List ByteArray) : Option (Bool) := if (l0.length : Int) < 1 then (varveref12_values.j0 k l0 true) else (varveref12_values.j0 k l0 (decide ((l0.length : Int) > 16)))
theorem varveref12_values.mono_l : ∀ k, (∀ y0 y1, LeO (varveref12_values.j0 k y0 y1) (varveref12_values.j0 (k + 1) y0 y1)) ∧ (∀ y0 y1, LeO (varveref12_values.l0 k y0 y1) (varveref12_values.l0 (k + 1) y0 y1))
 | 0 => ⟨fun _ _ r h => by simp [varveref12_values.j0] at h, fun _ _ r h => by simp [varveref12_values.l0] at h⟩
 | k + 1 => by
  obtain ⟨ih0, ih1⟩ := varveref12_values.mono_l k
  refine ⟨?_, ?_⟩
  ·intro y0 y1
   unfold varveref12_values.j0
   repeat' first
   | (with_reducible exact ih0 _ _)
   | (with_reducible exact ih1 _ _)
   | (with_reducible exact LeO.refl _)
   | (with_reducible exact LeO.none _)
   | (with_reducible refine LeO.ite ?_ ?_)
   | (with_reducible refine LeO.bind ?_ (fun _ => ?_))
   | exact ih0 _ _
   | exact ih1 _ _
   | exact LeO.none _
   | refine LeO.ite ?_ ?_
   | refine LeO.bind ?_ (fun _ => ?_)
  ·intro y0 y1
   unfold varveref12_values.l0
   repeat' first
   | (with_reducible exact ih0 _ _)
   | (with_reducible exact ih1 _ _)
   | (with_reducible exact LeO.refl _)
   | (with_reducible exact LeO.none _)
   | (with_reducible refine LeO.ite ?_ ?_)
   | (with_reducible refine LeO.bind ?_ (fun _ => ?_))
   | exact ih0 _ _
   | exact ih1 _ _
   | exact LeO.none _
   | refine LeO.ite ?_ ?_
   | refine LeO.bind ?_ (fun _ => ?_)
theorem varveref12_values.mono : ∀ a0 k, LeO (varveref12_values.f k a0) (varveref12_values.f (k + 1) a0) := by
 intro a0 k
 obtain ⟨ih0, ih1⟩ := varveref12_values.mono_l k
 unfold varveref12_values.f
 repeat' first
   | (with_reducible exact ih0 _ _)
   | (with_reducible exact ih1 _ _)
   | (with_reducible exact LeO.refl _)
   | (with_reducible exact LeO.none _)
   | (with_reducible refine LeO.ite ?_ ?_)
   | (with_reducible refine LeO.bind ?_ (fun _ => ?_))
   | exact ih0 _ _
   | exact ih1 _ _
   | exact LeO.none _
   | refine LeO.ite ?_ ?_
   | refine LeO.bind ?_ (fun _ => ?_)
set_option maxHeartbeats 8000000 in
set_option maxRecDepth 100000 in
theorem varveref12_values.calls (k : Nat) (A0 : Option Addr) (c0 : Nat) (l0 : List ByteArray) (r : Bool) (w : World) (hr0 : Kd.C Kd.string w A0 l0.length l0) (hc0 : l0.length ≤ c0) (h : varveref12_values.f k l0 = some r) :
  Calls Try.prog 149 #[.slice A0 l0.length c0] w fun e w' => e = .returned (.bool r) ∧ Drawn0 w w' := by
 have HR0 := Aside0.mk hr0
 have HC0 := Aside0.mk hc0
 clear hr0 hc0
 have H : (if (l0.length : Int) < 1 then (varveref12_values.j0 k l0 true) else (varveref12_values.j0 k l0 (decide ((l0.length : Int) > 16)))) = some r := h
 clear h
 have HC2 := Aside0.mk H
 clear H
 go_enter Try.func149, Try.ntmps149
 go_upto_region 1 with (fail)
 repeat (go_quiet (fail); go_upto_region 1 with (fail))
 go_cut [11] (fun v11 wc => ∃ (kq : Nat) (x11_1 : Bool), v11 = .bool x11_1 ∧ Aside0 (varveref12_values.j0 kq l0 x11_1 = some r) ∧ Aside0 (kq ≤ k) ∧ Drawn0 w wc)
 case first =>
  have H := HC2.out
  clear HC2
  by_cases c3 : (l0.length : Int) < 1
  ·rw [if_pos c3] at H
   have c3b0 : decide ((l0.length : Int) < 1) = true := decide_eq_true c3
   have c3b1 : decide (l0.length < 1) = true := decide_eq_true (by omega)
   clear c3
   (first | rw [c3b0] | (simp only [i64_w, i32_w]; rw [c3b0]) | skip)
   have H' := Aside0.mk H
   clear H
   go_wp2
   repeat (go_quiet (fail); try go_wp2)
   go_meet
   case rel => exact ⟨_, (true), (by first | rfl | (simp; done) | (simp [*]; done)), H', ⟨by first | omega | exact Nat.le_refl _⟩, by repeat (first | exact Drawn0.refl _ | apply Drawn0.step)⟩
  ·rw [if_neg c3] at H
   have c3b0 : decide ((l0.length : Int) < 1) = false := decide_eq_false c3
   have c3b1 : decide (l0.length < 1) = false := decide_eq_false (by omega)
   clear c3
   (first | rw [c3b0] | (simp only [i64_w, i32_w]; rw [c3b0]) | skip)
   have H' := Aside0.mk H
   clear H
   go_wp2
   repeat (go_quiet (fail); try go_wp2)
   go_meet
   case rel => exact ⟨_, (decide ((l0.length : Int) > 16)), (by first | rfl | (simp; done) | (simp [*]; done)), H', ⟨by first | omega | exact Nat.le_refl _⟩, by repeat (first | exact Drawn0.refl _ | apply Drawn0.step)⟩
 case rest =>
  clear HC2
  try clear c1
  try clear p2
  try clear c3
  try clear c3b0
  try clear c3b1
  obtain ⟨kq, x11_1, rfl, HA, HJ1, ⟨mc1, rfl⟩⟩ := hcut
  cases kq with
  | zero => exact absurd HA.out (by simp [varveref12_values.j0])
  | succ kj1 =>
   have H := HA.out
   clear HA
   simp only [varveref12_values.j0] at H
   by_cases c4 : x11_1 = true
   ·subst c4
    have H1 : (some false) = some r := by rw [if_pos rfl] at H; exact H
    clear H
    have H := H1
    clear H1
    obtain rfl := Option.some.inj H
    go_wp2
    repeat (go_quiet (fail); try go_wp2)
    go_ret
    exact ⟨by first | rfl | (simp; done) | (simp [*]; done), by repeat (first | exact Drawn0.refl _ | apply Drawn0.step)⟩
   ·replace c4 := Bool.eq_false_iff.mpr c4
    subst c4
    have H1 : (varveref12_values.l0 kj1 l0 0) = some r := by rw [if_neg (show ¬ (false = true) by decide)] at H; exact H
    clear H
    have H := H1
    clear H1
    have H' := Aside0.mk H
    clear H
    go_wp2
    repeat (go_quiet (fail); try go_wp2)
    go_loopg [3] kj1 (fun kq v3 w' => ∃ (x3_2 : Int), v3 = .int .i64 x3_2 ∧ Aside0 (varveref12_values.l0 kq l0 x3_2 = some r) ∧ Aside0 (kq ≤ kj1) ∧ Drawn0 w w')
    case atStart => exact ⟨(0), (by first | rfl | (simp; done) | (simp [*]; done)), H', ⟨Nat.le_refl _⟩, by repeat (first | exact Drawn0.refl _ | apply Drawn0.step)⟩
    case round =>
     clear H'
     try clear c1
     try clear p2
     try clear c3
     try clear c3b0
     try clear c3b1
     try clear c4
     try clear p2
     obtain ⟨x3_2, rfl, HA, HK2, ⟨m2, rfl⟩⟩ := hrel
     cases gk with
     | zero => exact absurd HA.out (by simp [varveref12_values.l0])
     | succ k2 =>
      have H := HA.out
      clear HA
      simp only [varveref12_values.l0] at H
      by_cases c5 : x3_2 < (l0.length : Int)
      ·rw [if_pos c5] at H
       have c5b0 : decide (x3_2 < (l0.length : Int)) = true := decide_eq_true c5
       clear c5
       by_cases c6 : 0 ≤ x3_2
       ·rw [if_pos c6] at H
        have c6b0 : decide (0 ≤ x3_2) = true := decide_eq_true c6
        clear c6
        by_cases c7 : ((rdOf ByteArray.empty l0 x3_2).size : Int) > 64
        ·rw [if_pos c7] at H
         have c7b0 : decide (64 < ((rdOf ByteArray.empty l0 x3_2).size : Int)) = true := decide_eq_true c7
         have c7b1 : decide (64 < (rdOf ByteArray.empty l0 x3_2).size) = true := decide_eq_true (by omega)
         clear c7
         obtain rfl := Option.some.inj H
         have p158 : 0 ≤ (x3_2 : Int) := of_decide_eq_true (by first | (with_reducible assumption) | assumption)
         have q158 : x3_2 < (l0.length : Int) := of_decide_eq_true (by first | (with_reducible assumption) | assumption)
         obtain ⟨ad158, e158, hx158_0⟩ := Kd.at_string HR0.out x3_2 p158 q158
         cases e158
         replace p158 := eq_true p158
         replace q158 := eq_true q158
         go_wp2
         repeat (go_quiet (fail); try go_wp2)
         go_ret
         exact ⟨by first | rfl | (simp; done) | (simp [*]; done), by repeat (first | exact Drawn0.refl _ | apply Drawn0.step)⟩
        ·rw [if_neg c7] at H
         have c7b0 : decide (64 < ((rdOf ByteArray.empty l0 x3_2).size : Int)) = false := decide_eq_false c7
         have c7b1 : decide (64 < (rdOf ByteArray.empty l0 x3_2).size) = false := decide_eq_false (by omega)
         clear c7
         by_cases c8 : x3_2 > 0
         ·rw [if_pos c8] at H
          have c8b0 : decide (0 < x3_2) = true := decide_eq_true c8
          clear c8
          obtain ⟨ji9, hji9⟩ : ∃ j_ : Int, (wrap64 (x3_2 - 1)) = j_ := ⟨_, rfl⟩
          replace H : (if 0 ≤ (ji9) then (if (ji9) < (l0.length : Int) then (if ((Op.bytesLess ((rdOf ByteArray.empty l0 (ji9)).toList) ((rdOf ByteArray.empty l0 x3_2).toList)) = true) then (varveref12_values.l0 k2 l0 (wrap64 (x3_2 + 1))) else (some false)) else (none)) else (none)) = some r := by first | (rw [hji9] at H; exact H) | (simp only [hji9] at H ⊢; exact H)
          have hji9w : (IntKind.i64.wrap (x3_2 - 1)) = ji9 := (i64_w _).trans hji9
          by_cases c10 : 0 ≤ (ji9)
          ·rw [if_pos c10] at H
           have c10b0 : decide (0 ≤ (ji9)) = true := decide_eq_true c10
           clear c10
           by_cases c11 : (ji9) < (l0.length : Int)
           ·rw [if_pos c11] at H
            have c11b0 : decide ((ji9) < (l0.length : Int)) = true := decide_eq_true c11
            clear c11
            by_cases c12 : ((Op.bytesLess ((rdOf ByteArray.empty l0 (ji9)).toList) ((rdOf ByteArray.empty l0 x3_2).toList)) = true)
            ·rw [if_pos c12] at H
             have c12b0 : (Op.bytesLess ((rdOf ByteArray.empty l0 (ji9)).toList) ((rdOf ByteArray.empty l0 x3_2).toList)) = true := c12
             have c12bq := bl_t c12b0
             clear c12
             have H' := Aside0.mk H
             clear H
             have p158 : 0 ≤ (x3_2 : Int) := of_decide_eq_true (by first | (with_reducible assumption) | assumption)
             have q158 : x3_2 < (l0.length : Int) := of_decide_eq_true (by first | (with_reducible assumption) | assumption)
             obtain ⟨ad158, e158, hx158_0⟩ := Kd.at_string HR0.out x3_2 p158 q158
             cases e158
             replace p158 := eq_true p158
             replace q158 := eq_true q158
             have p159 : 0 ≤ (x3_2 : Int) := of_decide_eq_true (by first | (with_reducible assumption) | assumption)
             have q159 : x3_2 < (l0.length : Int) := of_decide_eq_true (by first | (with_reducible assumption) | assumption)
             obtain ⟨ad159, e159, hx159_0⟩ := Kd.at_string HR0.out x3_2 p159 q159
             obtain rfl : ad158 = ad159 := (by injection e159)
             replace p159 := eq_true p159
             replace q159 := eq_true q159
             have p160 : 0 ≤ ((ji9) : Int) := of_decide_eq_true (by first | (with_reducible assumption) | assumption)
             have q160 : (ji9) < (l0.length : Int) := of_decide_eq_true (by first | (with_reducible assumption) | assumption)
             obtain ⟨ad160, e160, hx160_0⟩ := Kd.at_string HR0.out (ji9) p160 q160
             obtain rfl : ad158 = ad160 := (by injection e160)
             replace p160 := eq_true p160
             replace q160 := eq_true q160
             go_wp2
             repeat (go_quiet (fail); try go_wp2)
             go_roundg k2
             case measure => have := HJ1.out; have := HK2.out; omega
             case rel => exact ⟨(wrap64 (x3_2 + 1)), (by first | rfl | (simp; done) | (simp [*]; done)), H', ⟨by have := HJ1.out; have := HK2.out; omega⟩, by repeat (first | exact Drawn0.refl _ | apply Drawn0.step)⟩
            ·rw [if_neg c12] at H
             have c12b0 : (Op.bytesLess ((rdOf ByteArray.empty l0 (ji9)).toList) ((rdOf ByteArray.empty l0 x3_2).toList)) = false := by simpa using c12
             have c12bq := bl_f c12b0
             clear c12
             obtain rfl := Option.some.inj H
             have p158 : 0 ≤ (x3_2 : Int) := of_decide_eq_true (by first | (with_reducible assumption) | assumption)
             have q158 : x3_2 < (l0.length : Int) := of_decide_eq_true (by first | (with_reducible assumption) | assumption)
             obtain ⟨ad158, e158, hx158_0⟩ := Kd.at_string HR0.out x3_2 p158 q158
             cases e158
             replace p158 := eq_true p158
             replace q158 := eq_true q158
             have p159 : 0 ≤ (x3_2 : Int) := of_decide_eq_true (by first | (with_reducible assumption) | assumption)
             have q159 : x3_2 < (l0.length : Int) := of_decide_eq_true (by first | (with_reducible assumption) | assumption)
             obtain ⟨ad159, e159, hx159_0⟩ := Kd.at_string HR0.out x3_2 p159 q159
             obtain rfl : ad158 = ad159 := (by injection e159)
             replace p159 := eq_true p159
             replace q159 := eq_true q159
             have p160 : 0 ≤ ((ji9) : Int) := of_decide_eq_true (by first | (with_reducible assumption) | assumption)
             have q160 : (ji9) < (l0.length : Int) := of_decide_eq_true (by first | (with_reducible assumption) | assumption)
             obtain ⟨ad160, e160, hx160_0⟩ := Kd.at_string HR0.out (ji9) p160 q160
             obtain rfl : ad158 = ad160 := (by injection e160)
             replace p160 := eq_true p160
             replace q160 := eq_true q160
             go_wp2
             repeat (go_quiet (fail); try go_wp2)
             go_ret
             exact ⟨by first | rfl | (simp; done) | (simp only [← hji9] <;> (first | rfl | simp)) | (simp [*]; done), by repeat (first | exact Drawn0.refl _ | apply Drawn0.step)⟩
           ·rw [if_neg c11] at H
            exact absurd H (by simp)
          ·rw [if_neg c10] at H
           exact absurd H (by simp)
         ·rw [if_neg c8] at H
          have c8b0 : decide (0 < x3_2) = false := decide_eq_false c8
          clear c8
          have H' := Aside0.mk H
          clear H
          have p158 : 0 ≤ (x3_2 : Int) := of_decide_eq_true (by first | (with_reducible assumption) | assumption)
          have q158 : x3_2 < (l0.length : Int) := of_decide_eq_true (by first | (with_reducible assumption) | assumption)
          obtain ⟨ad158, e158, hx158_0⟩ := Kd.at_string HR0.out x3_2 p158 q158
          cases e158
          replace p158 := eq_true p158
          replace q158 := eq_true q158
          go_wp2
          repeat (go_quiet (fail); try go_wp2)
          go_roundg k2
          case measure => have := HJ1.out; have := HK2.out; omega
          case rel => exact ⟨(wrap64 (x3_2 + 1)), (by first | rfl | (simp; done) | (simp [*]; done)), H', ⟨by have := HJ1.out; have := HK2.out; omega⟩, by repeat (first | exact Drawn0.refl _ | apply Drawn0.step)⟩
       ·rw [if_neg c6] at H
        exact absurd H (by simp)
      ·rw [if_neg c5] at H
       have c5b0 : decide (x3_2 < (l0.length : Int)) = false := decide_eq_false c5
       clear c5
       obtain rfl := Option.some.inj H
       go_wp2
       repeat (go_quiet (fail); try go_wp2)
       go_ret
       exact ⟨by first | rfl | (simp; done) | (simp [*]; done), by repeat (first | exact Drawn0.refl _ | apply Drawn0.step)⟩

-- NOT PRINTED: function 99 (varveref12_size_look)

-- NOT PRINTED: function 36 (varveref12_Check)
def varveref19_Aligned.f (a0 : Int) : Option (Bool) := if a0 ≥ 0 then (if a0 ≤ 1099511634240 then (some ((Int.tmod a0 8640) == 0)) else (some false)) else (some false)
set_option maxHeartbeats 8000000 in
set_option maxRecDepth 100000 in
theorem varveref19_Aligned.calls (a0 : Int) (r : Bool) (w : World) (h : varveref19_Aligned.f a0 = some r) :
  Calls Try.prog 98 #[.int .i64 a0] w fun e w' => e = .returned (.bool r) ∧ Drawn0 w w' := by
 have H : (if a0 ≥ 0 then (if a0 ≤ 1099511634240 then (some ((Int.tmod a0 8640) == 0)) else (some false)) else (some false)) = some r := h
 clear h
 by_cases c2 : a0 ≥ 0
 ·rw [if_pos c2] at H
  have c2b0 : decide (0 ≤ a0) = true := decide_eq_true c2
  clear c2
  by_cases c3 : a0 ≤ 1099511634240
  ·rw [if_pos c3] at H
   have c3b0 : decide (a0 ≤ 1099511634240) = true := decide_eq_true c3
   clear c3
   obtain rfl := Option.some.inj H
   go_enter Try.func98, Try.ntmps98
   go_wp2
   go_ret
   exact ⟨by first | rfl | (simp; done) | (simp [*]; done), by repeat (first | exact Drawn0.refl _ | apply Drawn0.step)⟩
  ·rw [if_neg c3] at H
   have c3b0 : decide (a0 ≤ 1099511634240) = false := decide_eq_false c3
   clear c3
   obtain rfl := Option.some.inj H
   go_enter Try.func98, Try.ntmps98
   go_wp2
   go_ret
   exact ⟨by first | rfl | (simp; done) | (simp [*]; done), by repeat (first | exact Drawn0.refl _ | apply Drawn0.step)⟩
 ·rw [if_neg c2] at H
  have c2b0 : decide (0 ≤ a0) = false := decide_eq_false c2
  clear c2
  obtain rfl := Option.some.inj H
  go_enter Try.func98, Try.ntmps98
  go_wp2
  go_ret
  exact ⟨by first | rfl | (simp; done) | (simp [*]; done), by repeat (first | exact Drawn0.refl _ | apply Drawn0.step)⟩

-- NOT PRINTED: function 35 (varveref19_Check)

-- NOT PRINTED: function 56 (varvelaw00_Labels)

-- NOT PRINTED: function 150 (varvelaw00_Buckets)

-- NOT PRINTED: function 151 (varvelaw00_Nums)

-- NOT PRINTED: function 100 (varvelaw00_Sketch)

-- NOT PRINTED: function 38 (varvelaw00_Row)
def varveref11_Value.l0 : Nat → List (S68) → ByteArray → Int → Option (ByteArray)
 | 0, _, _, _ => none
 | k + 1, x0, x1, x5 => if x5 < (x0.length : Int) then (if 0 ≤ x5 then (if ((rd_T68 x0 x5).f0).toList = x1.toList then (some ((rd_T68 x0 x5).f1)) else (varveref11_Value.l0 k x0 x1 (wrap64 (x5 + 1)))) else (none)) else (some (⟨#[]⟩ : ByteArray))
def varveref11_Value.f (k : Nat) (l0 : List (S68)) (a1 : ByteArray) : Option (ByteArray) := varveref11_Value.l0 k l0 a1 0
theorem varveref11_Value.mono_l : ∀ k, (∀ y0 y1 y2, LeO (varveref11_Value.l0 k y0 y1 y2) (varveref11_Value.l0 (k + 1) y0 y1 y2))
 | 0 => fun _ _ _ r h => by simp [varveref11_Value.l0] at h
 | k + 1 => by
  have ih0 := varveref11_Value.mono_l k
  ·intro y0 y1 y2
   unfold varveref11_Value.l0
   repeat' first
   | (with_reducible exact ih0 _ _ _)
   | (with_reducible exact LeO.refl _)
   | (with_reducible exact LeO.none _)
   | (with_reducible refine LeO.ite ?_ ?_)
   | (with_reducible refine LeO.bind ?_ (fun _ => ?_))
   | exact ih0 _ _ _
   | exact LeO.none _
   | refine LeO.ite ?_ ?_
   | refine LeO.bind ?_ (fun _ => ?_)
theorem varveref11_Value.mono : ∀ a0 a1 k, LeO (varveref11_Value.f k a0 a1) (varveref11_Value.f (k + 1) a0 a1) := by
 intro a0 a1 k
 have ih0 := varveref11_Value.mono_l k
 unfold varveref11_Value.f
 repeat' first
   | (with_reducible exact ih0 _ _ _)
   | (with_reducible exact LeO.refl _)
   | (with_reducible exact LeO.none _)
   | (with_reducible refine LeO.ite ?_ ?_)
   | (with_reducible refine LeO.bind ?_ (fun _ => ?_))
   | exact ih0 _ _ _
   | exact LeO.none _
   | refine LeO.ite ?_ ?_
   | refine LeO.bind ?_ (fun _ => ?_)
set_option maxHeartbeats 8000000 in
set_option maxRecDepth 100000 in
theorem varveref11_Value.calls (k : Nat) (A0 : Option Addr) (c0 : Nat) (l0 : List (S68)) (a1 : ByteArray) (r : ByteArray) (w : World) (hr0 : Kd.C k68 w A0 l0.length l0) (hc0 : l0.length ≤ c0) (h : varveref11_Value.f k l0 a1 = some r) :
  Calls Try.prog 66 #[.slice A0 l0.length c0, .string a1] w fun e w' => e = .returned (.string r) ∧ Drawn0 w w' := by
 have HR0 := Aside0.mk hr0
 have HC0 := Aside0.mk hc0
 clear hr0 hc0
 have H : (varveref11_Value.l0 k l0 a1 0) = some r := h
 clear h
 have H' := Aside0.mk H
 clear H
 go_enter Try.func66, Try.ntmps66
 go_wp2
 go_loopg [5] k (fun kq v5 w' => ∃ (x5_1 : Int), v5 = .int .i64 x5_1 ∧ Aside0 (varveref11_Value.l0 kq l0 a1 x5_1 = some r) ∧ Aside0 (kq ≤ k) ∧ Drawn0 w w')
 case atStart => exact ⟨(0), (by first | rfl | (simp; done) | (simp [*]; done)), H', ⟨Nat.le_refl _⟩, by repeat (first | exact Drawn0.refl _ | apply Drawn0.step)⟩
 case round =>
  clear H'
  try clear p2
  obtain ⟨x5_1, rfl, HA, HK1, ⟨m1, rfl⟩⟩ := hrel
  cases gk with
  | zero => exact absurd HA.out (by simp [varveref11_Value.l0])
  | succ k1 =>
   have H := HA.out
   clear HA
   simp only [varveref11_Value.l0] at H
   by_cases c3 : x5_1 < (l0.length : Int)
   ·rw [if_pos c3] at H
    have c3b0 : decide (x5_1 < (l0.length : Int)) = true := decide_eq_true c3
    clear c3
    by_cases c4 : 0 ≤ x5_1
    ·rw [if_pos c4] at H
     have c4b0 : decide (0 ≤ x5_1) = true := decide_eq_true c4
     clear c4
     by_cases c5 : ((rd_T68 l0 x5_1).f0).toList = a1.toList
     ·rw [if_pos c5] at H
      have c5b0 : (((rd_T68 l0 x5_1).f0).toList == a1.toList) = true := beq_iff_eq.mpr c5
      have c5b1 : (((rd_T68 l0 x5_1).f0).toList != a1.toList) = false := bne_eq_false_iff_eq.mpr c5
      clear c5
      obtain rfl := Option.some.inj H
      have p205 : 0 ≤ (x5_1 : Int) := of_decide_eq_true (by first | (with_reducible assumption) | assumption)
      have q205 : x5_1 < (l0.length : Int) := of_decide_eq_true (by first | (with_reducible assumption) | assumption)
      obtain ⟨ad205, e205, hx205_0, hx205_1⟩ := at_T68 HR0.out x5_1 p205 q205
      cases e205
      replace p205 := eq_true p205
      replace q205 := eq_true q205
      have p206 : 0 ≤ (x5_1 : Int) := of_decide_eq_true (by first | (with_reducible assumption) | assumption)
      have q206 : x5_1 < (l0.length : Int) := of_decide_eq_true (by first | (with_reducible assumption) | assumption)
      obtain ⟨ad206, e206, hx206_0, hx206_1⟩ := at_T68 HR0.out x5_1 p206 q206
      obtain rfl : ad205 = ad206 := (by injection e206)
      replace p206 := eq_true p206
      replace q206 := eq_true q206
      go_wp2
      go_ret
      exact ⟨by first | rfl | (simp; done) | (simp [*]; done), by repeat (first | exact Drawn0.refl _ | apply Drawn0.step)⟩
     ·rw [if_neg c5] at H
      have c5b0 : (((rd_T68 l0 x5_1).f0).toList == a1.toList) = false := beq_eq_false_iff_ne.mpr c5
      have c5b1 : (((rd_T68 l0 x5_1).f0).toList != a1.toList) = true := bne_iff_ne.mpr c5
      have H' := Aside0.mk H
      clear H
      have p205 : 0 ≤ (x5_1 : Int) := of_decide_eq_true (by first | (with_reducible assumption) | assumption)
      have q205 : x5_1 < (l0.length : Int) := of_decide_eq_true (by first | (with_reducible assumption) | assumption)
      obtain ⟨ad205, e205, hx205_0, hx205_1⟩ := at_T68 HR0.out x5_1 p205 q205
      cases e205
      replace p205 := eq_true p205
      replace q205 := eq_true q205
      go_wp2
      go_roundg k1
      case measure => have := HK1.out; omega
      case rel => exact ⟨(wrap64 (x5_1 + 1)), (by first | rfl | (simp; done) | (simp [*]; done)), H', ⟨by have := HK1.out; omega⟩, by repeat (first | exact Drawn0.refl _ | apply Drawn0.step)⟩
    ·rw [if_neg c4] at H
     exact absurd H (by simp)
   ·rw [if_neg c3] at H
    have c3b0 : decide (x5_1 < (l0.length : Int)) = false := decide_eq_false c3
    clear c3
    obtain rfl := Option.some.inj H
    go_wp2
    go_ret
    exact ⟨by first | rfl | (simp; done) | (simp [*]; done), by repeat (first | exact Drawn0.refl _ | apply Drawn0.step)⟩
end Go.Proofs.Yteafilojjdfllaa.PAll
end
section
namespace Go.Proofs.Yteafilojjdfllaa
open Go Go.RowKit Go.Proofs.YteafilojjdfllaaW.PrintWords Go.Proofs.Yteafilojjdfllaa.PAll
theorem w64s (i : Nat) (h : i ≤ 4000000000000000000) : wrap64 ((i : Int) + 1) = ((i + 1 : Nat) : Int) := by unfold wrap64; omega
theorem w64p (i : Nat) (h : i ≤ 4000000000000000000) : wrap64 (((i + 1 : Nat) : Int) - 1) = (i : Int) := by unfold wrap64; omega
theorem bt_nat (s : ByteArray) (i : Nat) (h : i < s.size) : bt s (i : Int) = ((s.data.toList.getD i 0).toNat : Int) := by
 have h' : i < s.data.size := h
 unfold bt
 rw [dif_pos (by simpa using h)]
 simp only [List.getD_eq_getElem?_getD, Array.getElem?_toList, Array.getElem?_eq_getElem h', Option.getD_some, Int.toNat_natCast]
 rfl
theorem bdrop (s : ByteArray) (i : Nat) (h : i < s.size) : s.data.toList.drop i = s.data.toList.getD i 0 :: s.data.toList.drop (i + 1) := by
 have h' : i < s.data.toList.length := by simpa using h
 rw [List.drop_eq_getElem_cons h', List.getD_eq_getElem?_getD, List.getElem?_eq_getElem h', Option.getD_some]
theorem nameC_true {c : UInt8} (h : (97 ≤ (c.toNat : Int) ∧ (c.toNat : Int) ≤ 122) ∨ (48 ≤ (c.toNat : Int) ∧ (c.toNat : Int) ≤ 57) ∨ (c.toNat : Int) = 95) : nameC c = true := by unfold nameC; exact decide_eq_true h
theorem nameC_false {c : UInt8} (h : ¬ ((97 ≤ (c.toNat : Int) ∧ (c.toNat : Int) ≤ 122) ∨ (48 ≤ (c.toNat : Int) ∧ (c.toNat : Int) ≤ 57) ∨ (c.toNat : Int) = 95)) : nameC c = false := by unfold nameC; exact decide_eq_false h
theorem name_l0 (s : ByteArray) (hs : s.size ≤ 1000) : ∀ (d i k : Nat), i ≤ s.size → s.size ≤ i + d → d < k → label_Name.l0 k s (s.size : Int) (i : Int) = some ((s.data.toList.drop i).all nameC)
 | d, i, 0, _, _, h => by omega
 | d, i, k + 1, hi, hd, hk => by
  simp only [label_Name.l0, w64s i (by omega)]
  by_cases hlt : i < s.size
  ·have ih := name_l0 s hs (d - 1) (i + 1) k (by omega) (by omega) (by omega)
   rw [if_pos (by omega), if_pos (by omega), if_pos (by omega), bt_nat s i hlt, bdrop s i hlt, List.all_cons, ih]
   generalize s.data.toList.getD i 0 = c
   by_cases h : (97 ≤ (c.toNat : Int) ∧ (c.toNat : Int) ≤ 122) ∨ (48 ≤ (c.toNat : Int) ∧ (c.toNat : Int) ≤ 57) ∨ (c.toNat : Int) = 95
   ·rw [nameC_true h, Bool.true_and]
    split
    ·split
     ·rw [if_pos (by omega)]
     ·split
      ·rw [if_pos (by omega)]
      ·rfl
    ·split
     ·split
      ·rw [if_pos (by omega)]
      ·split
       ·rw [if_pos (by omega)]
       ·rfl
     ·rfl
   ·rw [nameC_false h, Bool.false_and]
    split
    ·split
     ·rw [if_neg (by omega)]
     ·split
      ·rw [if_neg (by omega)]
      ·omega
    ·split
     ·split
      ·rw [if_neg (by omega)]
      ·split
       ·rw [if_neg (by omega)]
       ·omega
     ·omega
  ·rw [if_neg (by omega), List.drop_of_length_le (by simp; omega)]; rfl
theorem label_Name.val (s : ByteArray) (k : Nat) (hk : 40 ≤ k) : label_Name.f k s = some (nameB s) := by
 obtain ⟨k, rfl⟩ : ∃ q, k = q + 1 := ⟨k - 1, by omega⟩
 unfold label_Name.f nameB
 by_cases h1 : (s.size : Int) < 1
 ·rw [if_pos h1]
  simp only [label_Name.j0, if_true]
  rw [show decide (1 ≤ s.size ∧ s.size ≤ 32 ∧ ¬ (48 ≤ ((s.data.toList.getD 0 0).toNat : Int) ∧ ((s.data.toList.getD 0 0).toNat : Int) ≤ 57)) = false from decide_eq_false (by omega), Bool.false_and]
 ·rw [if_neg h1]
  by_cases h2 : (s.size : Int) > 32
  ·rw [if_pos h2]
   simp only [label_Name.j0, if_true]
   rw [show decide (1 ≤ s.size ∧ s.size ≤ 32 ∧ ¬ (48 ≤ ((s.data.toList.getD 0 0).toNat : Int) ∧ ((s.data.toList.getD 0 0).toNat : Int) ≤ 57)) = false from decide_eq_false (by omega), Bool.false_and]
  ·rw [if_neg h2, if_pos (by omega)]
   have hb := bt_nat s 0 (by omega)
   rw [show ((0 : Nat) : Int) = 0 from rfl] at hb
   rw [hb]
   have hl := name_l0 s (by omega) s.size 0 k (by omega) (by omega) (by omega)
   rw [show ((0 : Nat) : Int) = 0 from rfl, List.drop_zero] at hl
   by_cases h3 : ((s.data.toList.getD 0 0).toNat : Int) ≥ 48
   ·rw [if_pos h3]
    by_cases h4 : ((s.data.toList.getD 0 0).toNat : Int) ≤ 57
    ·rw [show decide (1 ≤ s.size ∧ s.size ≤ 32 ∧ ¬ (48 ≤ ((s.data.toList.getD 0 0).toNat : Int) ∧ ((s.data.toList.getD 0 0).toNat : Int) ≤ 57)) = false from decide_eq_false (by omega), Bool.false_and]
     simp only [label_Name.j0, h4, decide_true, if_true]
    ·rw [show decide (1 ≤ s.size ∧ s.size ≤ 32 ∧ ¬ (48 ≤ ((s.data.toList.getD 0 0).toNat : Int) ∧ ((s.data.toList.getD 0 0).toNat : Int) ≤ 57)) = true from decide_eq_true (by omega), Bool.true_and]
     simp only [label_Name.j0, h4, decide_false]
     rw [if_neg (by decide), hl]
   ·rw [if_neg h3]
    simp only [label_Name.j0]
    rw [if_neg (by decide), hl, show decide (1 ≤ s.size ∧ s.size ≤ 32 ∧ ¬ (48 ≤ ((s.data.toList.getD 0 0).toNat : Int) ∧ ((s.data.toList.getD 0 0).toNat : Int) ≤ 57)) = true from decide_eq_true (by omega), Bool.true_and]
/-- the document's: a digit ahead of all falls at once -/
theorem rname_l0 (s : ByteArray) (hs : s.size ≤ 140737488351232) : ∀ (d i k : Nat), 1 ≤ i → i ≤ s.size → s.size ≤ i + d → d < k → varveref11_Name.l0 k s (i : Int) = some (decide (s.size ≤ 32) && (s.data.toList.drop i).all nameC)
 | d, i, 0, _, _, _, h => by omega
 | d, i, k + 1, h1, hi, hd, hk => by
  simp only [varveref11_Name.l0, w64s i (by omega)]
  by_cases hlt : i < s.size
  ·have ih := rname_l0 s hs (d - 1) (i + 1) k (by omega) (by omega) (by omega) (by omega)
   rw [if_pos (by omega), if_pos (by omega), bt_nat s i hlt, bdrop s i hlt, List.all_cons, ih]
   have hi0 : ¬ (i : Int) = 0 := by omega
   generalize s.data.toList.getD i 0 = c
   by_cases h : (97 ≤ (c.toNat : Int) ∧ (c.toNat : Int) ≤ 122) ∨ (48 ≤ (c.toNat : Int) ∧ (c.toNat : Int) ≤ 57) ∨ (c.toNat : Int) = 95
   ·rw [nameC_true h, Bool.true_and]
    split
    ·rfl
    ·split
     ·rw [if_neg (by omega), if_neg (by omega)]
     ·split
      ·rw [if_neg (by omega), if_neg (by omega)]
      ·rfl
   ·rw [nameC_false h, Bool.false_and, Bool.and_false, if_neg (by omega)]
    split
    ·split
     ·rfl
     ·rw [if_pos (by omega)]
    ·rw [if_pos (by omega)]
     split
     ·rfl
     ·rw [if_pos (by omega)]
  ·have : i = s.size := by omega
   rw [if_neg (by omega), if_pos (by omega), List.drop_of_length_le (by simp; omega)]
   simp only [List.all_nil, Bool.and_true, Option.some.injEq]
   rw [decide_eq_decide]; omega
theorem varveref11_Name.val (s : ByteArray) (hs : s.size ≤ 140737488351232) (k : Nat) (hk : s.size + 2 ≤ k) : varveref11_Name.f k s = some (nameB s) := by
 obtain ⟨k, rfl⟩ : ∃ q, k = q + 1 := ⟨k - 1, by omega⟩
 unfold varveref11_Name.f nameB
 simp only [varveref11_Name.l0]
 have hw : wrap64 ((0 : Int) + 1) = ((1 : Nat) : Int) := by unfold wrap64; omega
 by_cases h1 : 0 < s.size
 ·have hl := rname_l0 s hs (s.size - 1) 1 k (by omega) (by omega) (by omega) (by omega)
  have hb := bt_nat s 0 h1
  rw [show ((0 : Nat) : Int) = 0 from rfl] at hb
  have hd := bdrop s 0 h1
  rw [List.drop_zero, Nat.zero_add] at hd
  have hall : s.data.toList.all nameC = (nameC (s.data.toList.getD 0 0) && (s.data.toList.drop 1).all nameC) := by
   conv => lhs; rw [hd]
   rw [List.all_cons]
  rw [if_pos (by omega), if_pos (by omega), hb, hw, hl, hall]
  by_cases h : (97 ≤ ((s.data.toList.getD 0 0).toNat : Int) ∧ ((s.data.toList.getD 0 0).toNat : Int) ≤ 122) ∨ (48 ≤ ((s.data.toList.getD 0 0).toNat : Int) ∧ ((s.data.toList.getD 0 0).toNat : Int) ≤ 57) ∨ ((s.data.toList.getD 0 0).toNat : Int) = 95
  ·rw [nameC_true h, Bool.true_and]
   by_cases h5 : 48 ≤ ((s.data.toList.getD 0 0).toNat : Int) ∧ ((s.data.toList.getD 0 0).toNat : Int) ≤ 57
   ·rw [show decide (1 ≤ s.size ∧ s.size ≤ 32 ∧ ¬ (48 ≤ ((s.data.toList.getD 0 0).toNat : Int) ∧ ((s.data.toList.getD 0 0).toNat : Int) ≤ 57)) = false from decide_eq_false (fun h => h.2.2 h5), Bool.false_and, if_neg (by omega), if_pos (by omega), if_neg (by omega), if_neg (by omega)]; simp
   ·have e : decide (1 ≤ s.size ∧ s.size ≤ 32 ∧ ¬ (48 ≤ ((s.data.toList.getD 0 0).toNat : Int) ∧ ((s.data.toList.getD 0 0).toNat : Int) ≤ 57)) = decide (s.size ≤ 32) := by
     rw [decide_eq_decide]; constructor
     ·exact fun h => h.2.1
     ·exact fun h => ⟨by omega, h, h5⟩
    rw [e]
    split
    ·rfl
    ·split
     ·omega
     ·split
      ·omega
      ·rfl
  ·rw [nameC_false h, Bool.false_and, Bool.and_false, if_neg (by omega)]
   split
   ·split
    ·rfl
    ·rw [if_pos (by omega)]
   ·rw [if_pos (by omega)]
    split
    ·rfl
    ·rw [if_pos (by omega)]
 ·rw [if_neg (by omega), if_neg (by omega), show decide (1 ≤ s.size ∧ s.size ≤ 32 ∧ ¬ (48 ≤ ((s.data.toList.getD 0 0).toNat : Int) ∧ ((s.data.toList.getD 0 0).toNat : Int) ≤ 57)) = false from decide_eq_false (by omega), Bool.false_and]
theorem rdOf_nat {α : Type} (d : α) (l : List α) (i : Nat) : rdOf d l (i : Int) = l.getD i d := by simp [rdOf]
theorem vdrop (l : List ByteArray) (i : Nat) (h : i < l.length) : l.drop i = l.getD i ByteArray.empty :: l.drop (i + 1) := by
 rw [List.drop_eq_getElem_cons h, List.getD_eq_getElem?_getD, List.getElem?_eq_getElem h, Option.getD_some]
/-- those from i on: each small enough, each above the one ahead -/
def valsFrom (p : Option ByteArray) : List ByteArray → Bool
 | [] => true
 | v :: l => decide (v.size ≤ 64) && (match p with | none => true | some u => Op.bytesLess u.toList v.toList) && valsFrom (some v) l
theorem valsFrom_eq : ∀ (l : List ByteArray) (p : Option ByteArray), valsFrom p l = (l.all (fun v => decide (v.size ≤ 64)) && risesS (match p with | none => l | some u => u :: l))
 | [], none => by simp [valsFrom, risesS]
 | [], some u => by simp [valsFrom, risesS]
 | v :: l, none => by
  rw [valsFrom, valsFrom_eq l (some v)]
  simp [Bool.and_assoc]
 | v :: l, some u => by
  rw [valsFrom, valsFrom_eq l (some v)]
  simp only [List.all_cons, risesS]
  cases decide (v.size ≤ 64) <;> cases Op.bytesLess u.toList v.toList <;> simp
def before (l : List ByteArray) : Nat → Option ByteArray
 | 0 => none
 | i + 1 => some (l.getD i ByteArray.empty)
theorem vals_l0 (l : List ByteArray) (hl : l.length ≤ 1000) : ∀ (d i k : Nat), i ≤ l.length → l.length ≤ i + d → d < k → match_values.l0 k l l (l.length : Int) (i : Int) = some (valsFrom (before l i) (l.drop i))
 | d, i, 0, _, _, h => by omega
 | d, i, k + 1, hi, hd, hk => by
  simp only [match_values.l0, w64s i (by omega), rdOf_nat]
  by_cases hlt : i < l.length
  ·have ih := vals_l0 l hl (d - 1) (i + 1) k (by omega) (by omega) (by omega)
   rw [if_pos (by omega), if_pos (by omega), if_pos (by omega), vdrop l i hlt]
   simp only [valsFrom]
   by_cases h1 : (l.getD i ByteArray.empty).size ≤ 64
   ·rw [if_neg (by omega), decide_eq_true h1, Bool.true_and]
    cases i with
    | zero =>
     rw [if_neg (by omega), ih]
     simp [before]
    | succ i =>
     rw [if_pos (by omega), w64p i (by omega), if_pos (by omega), if_pos (by omega), rdOf_nat]
     simp only [before]
     cases h2 : Op.bytesLess (l.getD i ByteArray.empty).toList (l.getD (i + 1) ByteArray.empty).toList with
     | true => rw [if_pos rfl, ih, Bool.true_and]; rfl
     | false => rw [if_neg (by decide), Bool.false_and]
   ·rw [if_pos (by omega), decide_eq_false h1, Bool.false_and, Bool.false_and]
  ·rw [if_neg (by omega), List.drop_of_length_le (by omega)]; simp [valsFrom]
theorem rvals_l0 (l : List ByteArray) (hl : l.length ≤ 1000) : ∀ (d i k : Nat), i ≤ l.length → l.length ≤ i + d → d < k → varveref12_values.l0 k l (i : Int) = some (valsFrom (before l i) (l.drop i))
 | d, i, 0, _, _, h => by omega
 | d, i, k + 1, hi, hd, hk => by
  simp only [varveref12_values.l0, w64s i (by omega), rdOf_nat]
  by_cases hlt : i < l.length
  ·have ih := rvals_l0 l hl (d - 1) (i + 1) k (by omega) (by omega) (by omega)
   rw [if_pos (by omega), if_pos (by omega), vdrop l i hlt]
   simp only [valsFrom]
   by_cases h1 : (l.getD i ByteArray.empty).size ≤ 64
   ·rw [if_neg (by omega), decide_eq_true h1, Bool.true_and]
    cases i with
    | zero =>
     rw [if_neg (by omega), ih]
     simp [before]
    | succ i =>
     rw [if_pos (by omega), w64p i (by omega), if_pos (by omega), if_pos (by omega), rdOf_nat]
     simp only [before]
     cases h2 : Op.bytesLess (l.getD i ByteArray.empty).toList (l.getD (i + 1) ByteArray.empty).toList with
     | true => rw [if_pos rfl, ih, Bool.true_and]; rfl
     | false => rw [if_neg (by decide), Bool.false_and]
   ·rw [if_pos (by omega), decide_eq_false h1, Bool.false_and, Bool.false_and]
  ·rw [if_neg (by omega), List.drop_of_length_le (by omega)]; simp [valsFrom]
theorem match_values.val (l : List ByteArray) (k : Nat) (hk : 40 ≤ k) : match_values.f k l = some (valuesB l) := by
 obtain ⟨k, rfl⟩ : ∃ q, k = q + 1 := ⟨k - 1, by omega⟩
 unfold match_values.f valuesB
 have h0 := valsFrom_eq l none
 by_cases h1 : (l.length : Int) < 1
 ·rw [if_pos h1, show decide (1 ≤ l.length ∧ l.length ≤ 16) = false from decide_eq_false (by omega)]
  simp [match_values.j0]
 ·rw [if_neg h1]
  by_cases h2 : (l.length : Int) > 16
  ·rw [show decide (1 ≤ l.length ∧ l.length ≤ 16) = false from decide_eq_false (by omega), decide_eq_true h2]
   simp [match_values.j0]
  ·have hl := vals_l0 l (by omega) l.length 0 k (by omega) (by omega) (by omega)
   rw [show ((0 : Nat) : Int) = 0 from rfl, List.drop_zero] at hl
   rw [show decide (1 ≤ l.length ∧ l.length ≤ 16) = true from decide_eq_true (by omega), decide_eq_false h2, Bool.true_and]
   simp only [match_values.j0]
   rw [if_neg (by decide), hl, ← h0]; rfl
theorem varveref12_values.val (l : List ByteArray) (k : Nat) (hk : 40 ≤ k) : varveref12_values.f k l = some (valuesB l) := by
 obtain ⟨k, rfl⟩ : ∃ q, k = q + 1 := ⟨k - 1, by omega⟩
 unfold varveref12_values.f valuesB
 have h0 := valsFrom_eq l none
 by_cases h1 : (l.length : Int) < 1
 ·rw [if_pos h1, show decide (1 ≤ l.length ∧ l.length ≤ 16) = false from decide_eq_false (by omega)]
  simp [varveref12_values.j0]
 ·rw [if_neg h1]
  by_cases h2 : (l.length : Int) > 16
  ·rw [show decide (1 ≤ l.length ∧ l.length ≤ 16) = false from decide_eq_false (by omega), decide_eq_true h2]
   simp [varveref12_values.j0]
  ·have hl := rvals_l0 l (by omega) l.length 0 k (by omega) (by omega) (by omega)
   rw [show ((0 : Nat) : Int) = 0 from rfl, List.drop_zero] at hl
   rw [show decide (1 ≤ l.length ∧ l.length ≤ 16) = true from decide_eq_true (by omega), decide_eq_false h2, Bool.true_and]
   simp only [varveref12_values.j0]
   rw [if_neg (by decide), hl, ← h0]; rfl
theorem match_alone.val (m : S25) (k : Nat) (hk : 50 ≤ k) : match_alone.f k m.f0 m.f1 m.f2 m.f3 m.f4 = some (aloneB m) := by
 obtain ⟨a, n, v, vs, ks⟩ := m
 obtain ⟨k, rfl⟩ : ∃ q, k = q + 4 := ⟨k - 4, by omega⟩
 simp only [match_alone.f, label_Name.val n _ (show 40 ≤ k + 4 by omega), Option.bind_some]
 have hv := match_values.val vs (k + 1) (by omega)
 have j0 : ∀ x : Bool, match_alone.j0 (k + 4) x a n v vs ks = match_alone.j1 (k + 3) x (plainB ⟨a, n, v, vs, ks⟩) a n v vs ks := by
  intro x
  simp only [match_alone.j0, plainB]
  by_cases h1 : n.toList = []
  ·by_cases h2 : v.toList = []
   ·rw [if_pos h1, if_pos h2]
    congr 1
    rw [Bool.eq_iff_iff]; simp only [beq_iff_eq, decide_eq_true_eq, h1, h2, true_and]; omega
   ·rw [if_pos h1, if_neg h2, decide_eq_false (fun h => h2 h.2.1)]
  ·rw [if_neg h1, decide_eq_false (fun h => h1 h.1)]
 have hz : ∀ t : Nat, (((t : Int) == 0) : Bool) = decide (t = 0) := fun t => by rw [Bool.eq_iff_iff]; simp only [beq_iff_eq, decide_eq_true_eq]; omega
 have ho : ∀ t : Nat, (((t : Int) == 1) : Bool) = decide (t = 1) := fun t => by rw [Bool.eq_iff_iff]; simp only [beq_iff_eq, decide_eq_true_eq]; omega
 have hx : (if nameB n = true then (if (v.size : Int) ≤ 64 then match_alone.j0 (k + 4) ((ks.length : Int) == 0) a n v vs ks else match_alone.j0 (k + 4) false a n v vs ks) else match_alone.j0 (k + 4) false a n v vs ks) =
   match_alone.j1 (k + 3) (nameB n && decide (v.size ≤ 64 ∧ ks.length = 0)) (plainB ⟨a, n, v, vs, ks⟩) a n v vs ks := by
  rw [j0, j0, hz]
  cases nameB n with
  | false => simp
  | true =>
   simp only [if_true, Bool.true_and]
   by_cases h : v.size ≤ 64
   ·rw [if_pos (by omega)]; congr 1; rw [decide_eq_decide]; exact ⟨fun e => ⟨h, e⟩, fun e => e.2⟩
   ·rw [if_neg (by omega), decide_eq_false (fun e => h e.1)]
 rw [hx]
 generalize hX : (nameB n && decide (v.size ≤ 64 ∧ ks.length = 0)) = X
 generalize hY : plainB ⟨a, n, v, vs, ks⟩ = Y
 unfold aloneB
 simp only [hY]
 simp only [match_alone.j1, match_alone.j2, match_alone.j3, hv, hz, ho, Option.bind_some]
 by_cases e0 : a = 0
 ·rw [if_pos e0, if_pos e0]; cases Y <;> simp
 ·rw [if_neg e0, if_neg e0]
  by_cases e1 : a = 1
  ·subst e1; simp only [← hX]; cases nameB n <;> by_cases h2 : v.size ≤ 64 <;> by_cases h3 : ks.length = 0 <;> simp [h2, h3]
  ·by_cases e2 : a = 2
   ·subst e2; simp only [← hX]; cases nameB n <;> by_cases h2 : v.size ≤ 64 <;> by_cases h3 : ks.length = 0 <;> simp [h2, h3]
   ·by_cases e3 : a = 3
    ·subst e3; simp only [← hX]; cases nameB n <;> by_cases h2 : v.size ≤ 64 <;> by_cases h3 : ks.length = 0 <;> simp [h2, h3]
    ·have b3 : (a == 3) = false := by simpa using e3
     simp only [e1, e2, b3, if_false, or_self, e3]
     by_cases e4 : a = 4
     ·subst e4
      have hX' : v.toList = [] → X = (nameB n && decide (ks.length = 0)) := by
       intro h
       rw [← hX]; congr 1; rw [decide_eq_decide]
       have : v.size = 0 := by
        have := congrArg List.length h
        rw [ByteArray.toList_eq, Array.length_toList] at this
        exact this
       omega
      by_cases h2 : v.toList = []
      ·rw [hX' h2]; cases nameB n <;> by_cases h3 : ks.length = 0 <;> simp [h2, h3]
      ·cases X <;> simp [h2]
     ·simp only [e4, if_false]
      by_cases e5 : a = 5
      ·subst e5; simp
      ·by_cases e6 : a = 6
       ·subst e6; simp
       ·have b6 : (a == 6) = false := by simpa using e6
        simp only [e5, e6, b6, if_false, or_self]
        by_cases e7 : a = 7
        ·subst e7; cases Y <;> simp
        ·simp [e7]
end Go.Proofs.Yteafilojjdfllaa
end
section
namespace Go.Proofs.Yteafilojjdfllaa
open Go Go.RowKit Go.Proofs.YteafilojjdfllaaW.PrintWords Go.Proofs.YteafilojjdfllaaW.PrintLast Go.Proofs.YteafilojjdfllaaW.PrintMore Go.Proofs.Yteafilojjdfllaa.PAll
/-- a matcher's values and kids lie there -/
def MC (w : World) (m : S25) (A3 : Option Addr) (c3 : Nat) (A4 : Option Addr) (c4 : Nat) : Prop :=
 m.f3.length ≤ c3 ∧ Kd.C Kd.string w A3 m.f3.length m.f3 ∧ m.f4.length ≤ c4 ∧ Kd.C k25 w A4 m.f4.length m.f4
theorem MC.below {w W : World} {m : S25} {A3 : Option Addr} {c3 : Nat} {A4 : Option Addr} {c4 : Nat} (h : MC w m A3 c3 A4 c4) (hb : Below w.heap.size w W) : MC W m A3 c3 A4 c4 :=
 ⟨h.1, Kd.C_below h.2.1 hb, h.2.2.1, Kd.C_below h.2.2.2 hb⟩
/-- the room's block -/
def Room (W : World) (g : Nat) (n b : Int) : Prop := W.heap[g]? = some (.cells #[.int .i64 n, .int .i64 b] 130 (0, 0))
theorem Room.c0 {W : World} {g : Nat} {n b : Int} (h : Room W g n b) : W.cell? ⟨g, 0, none⟩ = some (.int .i64 n) := (blk_cell h 0).trans rfl
theorem Room.c1 {W : World} {g : Nat} {n b : Int} (h : Room W g n b) : W.cell? ⟨g, 1, none⟩ = some (.int .i64 b) := (blk_cell h 1).trans rfl
theorem Room.z0 {W : World} {g : Nat} {n b : Int} (h : Room W g n b) : W.frozen? ⟨g, 0, none⟩ = false := blk_frozen h 0
theorem Room.z1 {W : World} {g : Nat} {n b : Int} (h : Room W g n b) : W.frozen? ⟨g, 1, none⟩ = false := blk_frozen h 1
theorem Room.lt {W : World} {g : Nat} {n b : Int} (h : Room W g n b) : g < W.heap.size := (Array.getElem?_eq_some_iff.1 h).1
theorem Room.set0 {W : World} {g : Nat} {n b : Int} (h : Room W g n b) (x : Int) : Room (W.setCell ⟨g, 0, none⟩ (.int .i64 x)) g x b := by simpa [Room] using blk_set h 0 (.int .i64 x)
theorem Room.set1 {W : World} {g : Nat} {n b : Int} (h : Room W g n b) (x : Int) : Room (W.setCell ⟨g, 1, none⟩ (.int .i64 x)) g n x := by simpa [Room] using blk_set h 1 (.int .i64 x)
theorem Room.below {W X : World} {g : Nat} {n b : Int} (h : Room W g n b) (hb : Below W.heap.size W X) : Room X g n b := (hb.block g h.lt).trans h
theorem Room.alloc {W : World} {g : Nat} {n b : Int} (h : Room W g n b) (o : Obj) : Room (W.alloc o) g n b := h.below (below_alloc (Below.refl _ _) o)
theorem alone157 (w : World) (m : S25) (A3 : Option Addr) (c3 : Nat) (A4 : Option Addr) (c4 : Nat) (v : Bool) (hv : aloneB m = v) (h : MC w m A3 c3 A4 c4) :
  Calls Try.prog 157 #[.agg #[.int .i64 m.f0, .string m.f1, .string m.f2, .slice A3 m.f3.length c3, .slice A4 m.f4.length c4]] w fun e w' => e = .returned (.bool v) ∧ Below w.heap.size w w' :=
 match_alone.calls 50 m.f0 m.f1 m.f2 A3 c3 m.f3 A4 c4 m.f4 v w h.2.1 h.1 h.2.2.2 h.2.2.1 (hv ▸ match_alone.val m 50 (by omega))
/-- how a walk over a matcher with a room ends -/
def HoldsPost (w0 w : World) (g : Nat) (d : Int) (m : S25) (n b : Int) (e : Ending) (w' : World) : Prop :=
 e = .returned (.bool (chk d m n b)) ∧ Below w0.heap.size w0 w' ∧ KeepBut w w' g none ∧ ∃ n' b', Room w' g n' b' ∧ (chk d m n b = true → n' = n - nodesM m ∧ b' = b - bytesM m)
theorem HoldsPost.no {w0 w w' : World} {g : Nat} {d : Int} {m : S25} {n b n' b' : Int} (h : chk d m n b = false) (hB : Below w0.heap.size w0 w') (hK : KeepBut w w' g none) (hR : Room w' g n' b') : HoldsPost w0 w g d m n b (.returned (.bool false)) w' :=
 ⟨by rw [h], hB, hK, n', b', hR, fun e => by rw [h] at e; cases e⟩
theorem alone_bounds {m : S25} (h : aloneB m = true) : m.f1.size ≤ 32 ∧ m.f2.size ≤ 64 ∧ m.f3.length ≤ 16 ∧ ∀ v ∈ m.f3, v.size ≤ 64 := by
 have hp : plainB m = true → m.f1.size ≤ 32 ∧ m.f2.size ≤ 64 ∧ m.f3.length ≤ 16 ∧ ∀ v ∈ m.f3, v.size ≤ 64 := by
  intro h
  unfold plainB at h
  obtain ⟨h1, h2, h3⟩ := of_decide_eq_true h
  have z : ∀ s : ByteArray, s.toList = [] → s.size = 0 := fun s h => by
   have := congrArg List.length h
   rw [ByteArray.toList_eq, Array.length_toList] at this
   exact this
  have e3 := List.eq_nil_of_length_eq_zero h3
  rw [e3]
  exact ⟨by rw [z _ h1]; omega, by rw [z _ h2]; omega, by simp, fun v hv => by cases hv⟩
 have hn : nameB m.f1 = true → m.f1.size ≤ 32 := by
  intro h
  unfold nameB at h
  rw [Bool.and_eq_true] at h
  have h1 := of_decide_eq_true h.1
  exact h1.2.1
 unfold aloneB at h
 split at h
 ·rw [Bool.and_eq_true] at h; exact hp h.1
 ·split at h
  ·rw [Bool.and_eq_true] at h
   have h2 := of_decide_eq_true h.2
   have e3 := List.eq_nil_of_length_eq_zero h2.2.2
   rw [e3]
   exact ⟨hn h.1, h2.1, by simp, fun v hv => by cases hv⟩
  ·split at h
   ·rw [Bool.and_eq_true, Bool.and_eq_true] at h
    obtain ⟨⟨h1, h2⟩, h3⟩ := h
    have h2 := of_decide_eq_true h2
    unfold valuesB at h3
    rw [Bool.and_eq_true, Bool.and_eq_true] at h3
    obtain ⟨⟨h3, h4⟩, _⟩ := h3
    have h3 := of_decide_eq_true h3
    refine ⟨hn h1, ?_, h3.2, fun v hv => of_decide_eq_true (List.all_eq_true.1 h4 v hv)⟩
    have := congrArg List.length h2.2
    rw [ByteArray.toList_eq, Array.length_toList] at this
    have : m.f2.size = 0 := this
    omega
   ·split at h
    ·exact hp h
    ·split at h
     ·rw [Bool.and_eq_true] at h; exact hp h.1
     ·cases h
theorem sizes_le : ∀ (vs : List ByteArray), (∀ v ∈ vs, v.size ≤ 64) → sizes vs ≤ vs.length * 64
 | [], _ => by simp [sizes]
 | v :: vs, h => by
  have h1 := h v (by simp)
  have h2 := sizes_le vs (fun u hu => h u (List.mem_cons_of_mem _ hu))
  simp only [sizes, List.length_cons, Nat.succ_mul]; omega
/-- a kid, where it lies -/
theorem MC.kid {w : World} {m : S25} {A3 : Option Addr} {c3 : Nat} {A4 : Option Addr} {c4 : Nat} (h : MC w m A3 c3 A4 c4) (j : Nat) (hj : j < m.f4.length) :
  ∃ (ad : Addr) (B3 : Option Addr) (e3 : Nat) (B4 : Option Addr) (e4 : Nat), A4 = some ad ∧ MC w (m.f4.getD j z25) B3 e3 B4 e4 ∧
   w.cell? (ad.add (j * 5)) = some (.int .i64 (m.f4.getD j z25).f0) ∧ w.cell? ⟨(ad.add (j * 5)).block, (ad.add (j * 5)).off + 1, none⟩ = some (.string (m.f4.getD j z25).f1) ∧ w.cell? ⟨(ad.add (j * 5)).block, (ad.add (j * 5)).off + 2, none⟩ = some (.string (m.f4.getD j z25).f2) ∧
   w.cell? ⟨(ad.add (j * 5)).block, (ad.add (j * 5)).off + 3, none⟩ = some (.slice B3 (m.f4.getD j z25).f3.length e3) ∧ w.cell? ⟨(ad.add (j * 5)).block, (ad.add (j * 5)).off + 4, none⟩ = some (.slice B4 (m.f4.getD j z25).f4.length e4) := by
 obtain ⟨ad, B3, e3, B4, e4, hA, c0, c1, c2, c3', c4', h3, h4, h5, h6⟩ := at_T25 h.2.2.2 (j : Int) (by omega) (by omega)
 simp only [Int.toNat_natCast, show rd_T25 m.f4 (j : Int) = m.f4.getD j z25 by simp [rd_T25]] at c0 c1 c2 c3' c4' h3 h4 h5 h6
 exact ⟨ad, B3, e3, B4, e4, hA, ⟨h3, h4, h5, h6⟩, c0, c1, c2, c3', c4'⟩
theorem MC.value {w : World} {m : S25} {A3 : Option Addr} {c3 : Nat} {A4 : Option Addr} {c4 : Nat} (h : MC w m A3 c3 A4 c4) (j : Nat) (hj : j < m.f3.length) :
  ∃ ad : Addr, A3 = some ad ∧ w.cell? (ad.add j) = some (.string (m.f3.getD j ByteArray.empty)) := by
 obtain ⟨ad, hA, c⟩ := Kd.at_string h.2.1 (j : Int) (by omega) (by omega)
 simp only [Int.toNat_natCast, rdOf_nat] at c
 exact ⟨ad, hA, c⟩
set_option maxRecDepth 100000 in
set_option maxHeartbeats 8000000 in
theorem holds106 : ∀ (N : Nat) (m : S25), nodesM m ≤ N → ∀ (d n b : Int) (A3 : Option Addr) (c3 : Nat) (A4 : Option Addr) (c4 : Nat) (g : Nat) (w0 w : World), 0 ≤ d → d ≤ 100 → 0 ≤ n → n ≤ 64 → 0 ≤ b → b ≤ 4096 →
  MC w0 m A3 c3 A4 c4 → Below w0.heap.size w0 w → w0.heap.size ≤ g → Room w g n b →
  Calls Try.prog 106 #[.pointer (some ⟨g, 0, none⟩), .agg #[.int .i64 m.f0, .string m.f1, .string m.f2, .slice A3 m.f3.length c3, .slice A4 m.f4.length c4], .int .i64 d] w (HoldsPost w0 w g d m n b) := by
 intro N
 induction N with
 | zero => intro m h; rw [nodesM_mk] at h; omega
 | succ N ih =>
  intro m hN
  have IH := Lib.hid ih
  clear ih
  intro d n b A3 c3 A4 c4 g w0 w hd0 hd1 hn0 hn1 hb0 hb1 hM hB hg hR
  have hgl := hR.lt
  have q0 := hR.c0
  have z0 := hR.z0
  have r0 := (hR.alloc (.cells #[.int .i64 m.f0, .string m.f1, .string m.f2, .slice A3 m.f3.length c3, .slice A4 m.f4.length c4] 25)).c0
  have s0 := (hR.alloc (.cells #[.int .i64 m.f0, .string m.f1, .string m.f2, .slice A3 m.f3.length c3, .slice A4 m.f4.length c4] 25)).z0
  have hR2 := (hR.set0 (n - 1)).alloc (.cells #[.int .i64 m.f0, .string m.f1, .string m.f2, .slice A3 m.f3.length c3, .slice A4 m.f4.length c4] 25)
  have q1 := hR2.c0
  have hB2 : Below w0.heap.size w0 ((w.setCell ⟨g, 0, none⟩ (.int .i64 (n - 1))).alloc (.cells #[.int .i64 m.f0, .string m.f1, .string m.f2, .slice A3 m.f3.length c3, .slice A4 m.f4.length c4] 25)) := below_alloc (hB.setCell hg _) _
  have hK2 : KeepBut w ((w.setCell ⟨g, 0, none⟩ (.int .i64 (n - 1))).alloc (.cells #[.int .i64 m.f0, .string m.f1, .string m.f2, .slice A3 m.f3.length c3, .slice A4 m.f4.length c4] 25)) g none := ((KeepBut.refl w g none).set_ 0 _).trans (KeepBut.of_below (below_alloc (Below.refl _ _) _) g none) (.inl rfl)
  by_cases hd : 8 < d
  ·have hc : chk d m n b = false := chk_false_of (fun h => by omega)
   go_enter Try.func106, Try.ntmps106
   go_wp2
   go_ret
   exact HoldsPost.no hc hB2 hK2 hR2
  ·by_cases hn : n - 1 < 0
   ·have hc : chk d m n b = false := chk_false_of (fun h => by omega)
    go_enter Try.func106, Try.ntmps106
    go_wp2
    go_ret
    exact HoldsPost.no hc hB2 hK2 hR2
   ·cases ha : aloneB m with
    | false =>
     have hc : chk d m n b = false := chk_false_of (fun h => by rw [ha] at h; exact absurd h.2.2.1 (by decide))
     have Ha := Lib.hid ha
     clear ha
     go_enter Try.func106, Try.ntmps106
     go_wp2_with fail
     (with_reducible refine (alone157 _ m A3 c3 A4 c4 false Ha.out (hM.below hB2)).mono ?_)
     rintro e w1 ⟨rfl, hb3⟩
     go_wp2_with fail
     go_ret
     exact HoldsPost.no hc (below_step hB2 hb3) (hK2.trans (KeepBut.of_below hb3 g none) (.inl rfl)) (hR2.below hb3)
    | true =>
     obtain ⟨hz1, hz2, hz3, hz4⟩ := alone_bounds ha
     have Hz4 := Lib.hid hz4
     have Ha := Lib.hid ha
     clear ha hz4
     go_enter Try.func106, Try.ntmps106
     go_wp2_with fail
     (with_reducible refine (alone157 _ m A3 c3 A4 c4 true Ha.out (hM.below hB2)).mono ?_)
     rintro e w1 ⟨rfl, hb3⟩
     have hB3 := below_step hB2 hb3
     have hR3 := hR2.below hb3
     have hK3 := hK2.trans (KeepBut.of_below hb3 g none) (.inl rfl)
     have hne : w.heap.size ≠ g := by omega
     have hw : ∀ o : Nat, w1.cell? ⟨w.heap.size, o, none⟩ = (#[Value.int .i64 m.f0, .string m.f1, .string m.f2, .slice A3 m.f3.length c3, .slice A4 m.f4.length c4])[o]? := fun o => (hb3.cell (p := ⟨w.heap.size, o, none⟩) (by simp)).trans (by
      have := blk_cell (blk_new (w.setCell ⟨g, 0, none⟩ (.int .i64 (n - 1))) (.cells #[.int .i64 m.f0, .string m.f1, .string m.f2, .slice A3 m.f3.length c3, .slice A4 m.f4.length c4] 25)) o
      simpa using this)
     have x1 := hw 1
     have x2 := hw 2
     have x3 := hw 3
     have x4 := hw 4
     simp only [List.getElem?_toArray, List.getElem?_cons_succ, List.getElem?_cons_zero] at x1 x2 x3 x4
     have q2 := hR3.c1
     have z2 := hR3.z1
     clear hw
     clear q0 z0 r0 s0 q1
     go_wp2
     go_region
     have hR4 : Room (w1.setCell ⟨g, 1, none⟩ (.int .i64 (b - (m.f1.size + m.f2.size : Int)))).drew g (n - 1) (b - (m.f1.size + m.f2.size : Int)) := hR3.set1 _
     have hB4 : Below w0.heap.size w0 (w1.setCell ⟨g, 1, none⟩ (.int .i64 (b - (m.f1.size + m.f2.size : Int)))).drew := (hB3.setCell hg _).drew
     have hK4 : KeepBut w (w1.setCell ⟨g, 1, none⟩ (.int .i64 (b - (m.f1.size + m.f2.size : Int)))).drew g none := hK3.set_ 1 _
     have hsz0 := sizes_le m.f3 Hz4.out
     go_wp2
     have y4 : (w1.setCell ⟨g, 1, none⟩ (.int .i64 (b - (m.f1.size + m.f2.size : Int)))).drew.cell? ⟨w.heap.size, 4, none⟩ = some (.slice A4 m.f4.length c4) := by go_simp
     clear x1 x2 x3 x4 q2 z2 hR3 hR2 hB3 hB2 hK3 hK2
     obtain ⟨W4, e4⟩ : ∃ W4, (w1.setCell ⟨g, 1, none⟩ (.int .i64 (b - (m.f1.size + m.f2.size : Int)))).drew = W4 := ⟨_, rfl⟩
     rw [e4] at hR4 hB4 hK4 y4 ⊢
     clear e4 hb3
     go_loopw [49] (fun u49 wr => ∃ j : Nat, u49 = .int .i64 j ∧ j ≤ m.f3.length ∧ wr.cell? ⟨w.heap.size, 4, none⟩ = some (.slice A4 m.f4.length c4) ∧ Room wr g (n - 1) (b - (m.f1.size + m.f2.size : Int) - sizes (m.f3.take j)) ∧ Below w0.heap.size w0 wr ∧ KeepBut w wr g none)
      (fun u49 _ => m.f3.length - (intOf u49).toNat)
     case atStart => exact ⟨0, rfl, Nat.zero_le _, y4, by simpa [sizes] using hR4, hB4, hK4⟩
     case round =>
      clear y4 hR4 hB4 hK4
      obtain ⟨j, rfl, hj, y4, hR4, hB4, hK4⟩ := hrel
      have hsj : sizes (m.f3.take j) ≤ 16 * 64 := by
       have h1 := sizes_le (m.f3.take j) (fun v hv => Hz4.out v (List.mem_of_mem_take hv))
       have h2 : (m.f3.take j).length ≤ 16 := by rw [List.length_take]; omega
       have h3 : (m.f3.take j).length * 64 ≤ 16 * 64 := Nat.mul_le_mul_right _ h2
       omega
      by_cases hlt : j < m.f3.length
      ·have hsp := Lib.hid (sizes_split m.f3 j hlt)
       obtain ⟨ad, rfl, hcell⟩ := hM.value j hlt
       have hcell := pw_cell_below hB4 hcell
       have hv64 : (m.f3.getD j ByteArray.empty).size ≤ 64 := Hz4.out _ (by simp [List.getD_eq_getElem?_getD, hlt])
       obtain ⟨v, hv⟩ : ∃ v, m.f3.getD j ByteArray.empty = v := ⟨_, rfl⟩
       rw [hv] at hcell hsp hv64
       obtain ⟨s, hs⟩ : ∃ s, sizes (m.f3.take j) = s := ⟨_, rfl⟩
       rw [hs] at hR4 hsj hsp
       have q1 := hR4.c1
       have z1 := hR4.z1
       clear hv hs
       go_wp2
       go_roundw
       case rel =>
        refine ⟨j + 1, by go_num, by omega, ?_, ?_, hB4.setCell hg _, hK4.set_ 1 _⟩
        ·rw [World.cell?_setCell_far _ _ _ _ (fun e => hne e.symm)]
         exact y4
        ·have := hR4.set1 (b - (m.f1.size + m.f2.size : Int) - s - v.size)
         rw [hsp.out, show b - (m.f1.size + m.f2.size : Int) - ((s + v.size : Nat) : Int) = b - (m.f1.size + m.f2.size : Int) - s - v.size by omega]
         exact this
       case measure => simp [intOf]; omega
      ·obtain rfl : j = m.f3.length := by omega
       rw [List.take_length] at hR4 hsj
       have q1 := hR4.c1
       have z1 := hR4.z1
       obtain ⟨s, hs⟩ : ∃ s, sizes m.f3 = s := ⟨_, rfl⟩
       rw [hs] at hR4 hsj q1 hsz0
       have Hs := Lib.hid hs
       clear hs
       by_cases hneg : b - (m.f1.size + m.f2.size : Int) - s < 0
       ·have hc : chk d m n b = false := chk_false_of (fun h => by have := h.2.2.2.1; rw [Hs.out] at this; omega)
        go_wp2
        go_ret
        exact HoldsPost.no hc hB4 hK4 hR4
       ·have Hchk := Lib.hid (show chk d m n b = chkL (d + 1) m.f4 (n - 1) (b - (m.f1.size + m.f2.size : Int) - s) from by
         rw [Bool.eq_iff_iff, chk_iff, Hs.out]
         constructor
         ·rintro ⟨_, _, _, _, h⟩
          rw [show b - (m.f1.size + m.f2.size : Int) - s = b - ((m.f1.size + m.f2.size : Int) + s) by omega]; exact h
         ·intro h
          rw [show b - (m.f1.size + m.f2.size : Int) - s = b - ((m.f1.size + m.f2.size : Int) + s) by omega] at h
          exact ⟨by omega, by omega, Ha.out, by omega, h⟩)
        have Hnod := Lib.hid (nodesM_mk m)
        have Hbyt := Lib.hid (show bytesM m = m.f1.size + m.f2.size + s + bytesL m.f4 from by rw [bytesM_mk, Hs.out])
        obtain ⟨b1, hb1⟩ : ∃ b1, b - (m.f1.size + m.f2.size : Int) - s = b1 := ⟨_, rfl⟩
        rw [hb1] at hR4 q1 hneg Hchk
        have Hb1 := Lib.hid hb1
        have hbb : b1 ≤ 4096 := by omega
        clear hb1
        have hlen4 := hM.2.2.2.2.1
        go_wp2
        clear y4 q1 z1
        go_loopw [71] (fun u71 wx => ∃ (j : Nat) (n' b' : Int), u71 = .int .i64 j ∧ j ≤ m.f4.length ∧ Room wx g n' b' ∧ 0 ≤ n' ∧ 0 ≤ b' ∧ n' ≤ 64 ∧ b' ≤ 4096 ∧ n' = n - 1 - nodesL (m.f4.take j) ∧ b' = b1 - bytesL (m.f4.take j) ∧ chkL (d + 1) m.f4 (n - 1) b1 = chkL (d + 1) (m.f4.drop j) n' b' ∧ Below w0.heap.size w0 wx ∧ KeepBut w wx g none)
         (fun u71 _ => m.f4.length - (intOf u71).toNat)
        case atStart => exact ⟨0, n - 1, b1, rfl, Nat.zero_le _, hR4, by omega, by omega, by omega, by omega, by simp [nodesL], by simp [bytesL], by simp, hB4, hK4⟩
        case round =>
         clear hR4 hB4 hK4
         obtain ⟨j, n', b', rfl, hj, hR4, hn1', hb1', hn2', hb2', hne1, hbe1, hce, hB4, hK4⟩ := hrel
         have Hne1 := Lib.hid hne1
         have Hbe1 := Lib.hid hbe1
         have Hce := Lib.hid hce
         clear hne1 hbe1 hce
         by_cases hlt : j < m.f4.length
         ·obtain ⟨ad, B3, e3, B4, e4, rfl, hMk, k0, k1, k2, k3, k4⟩ := hM.kid j hlt
          have k0 := pw_cell_below hB4 k0
          have k1 := pw_cell_below hB4 k1
          have k2 := pw_cell_below hB4 k2
          have k3 := pw_cell_below hB4 k3
          have k4 := pw_cell_below hB4 k4
          have hmem : m.f4.getD j z25 ∈ m.f4 := by simp [List.getD_eq_getElem?_getD, hlt]
          have hsmall := nodes_lt m _ hmem
          have Hdrop := Lib.hid (chkL_drop (d + 1) m.f4 j hlt n' b')
          have Hn4 := Lib.hid (nodesL_split m.f4 j hlt)
          have Hb4 := Lib.hid (bytesL_split m.f4 j hlt)
          obtain ⟨kid, ek⟩ : ∃ kid, m.f4.getD j z25 = kid := ⟨_, rfl⟩
          rw [ek] at hMk k0 k1 k2 k3 k4 hsmall Hdrop Hn4 Hb4
          clear ek hmem
          go_wp2_with fail
          (with_reducible refine (IH.out kid (by omega) (d + 1) n' b' B3 e3 B4 e4 g w0 _ (by omega) (by omega) (by omega) (by omega) (by omega) (by omega) hMk (below_alloc hB4 _) hg (hR4.alloc _)).mono ?_)
          rintro e w5 ⟨rfl, hB5, hK5, n5, b5, hR5, hyes⟩
          cases hk : chk (d + 1) kid n' b' with
          | false =>
           have hc : chk d m n b = false := by
            rw [Hchk.out, Hce.out, ← Bool.not_eq_true, Hdrop.out]
            exact fun h => by rw [hk] at h; cases h.1
           go_wp2_with fail
           go_ret
           exact HoldsPost.no hc hB5 (hK4.trans ((KeepBut.of_below (below_alloc (Below.refl _ _) _) g none).trans hK5 (.inl rfl)) (.inl rfl)) hR5
          | true =>
           obtain ⟨e1, e2⟩ := hyes hk
           have E1 := Lib.hid e1
           have E2 := Lib.hid e2
           have Hk := Lib.hid hk
           clear e1 e2 hyes hk
           go_wp2_with fail
           go_roundw
           case rel =>
            have hd := chk_def.1 Hk.out
            refine ⟨j + 1, n5, b5, by go_num, by omega, hR5, ?_, ?_, ?_, ?_, ?_, ?_, ?_, hB5, hK4.trans ((KeepBut.of_below (below_alloc (Below.refl _ _) _) g none).trans hK5 (.inl rfl)) (.inl rfl)⟩
            ·rw [E1.out]; omega
            ·rw [E2.out]; omega
            ·rw [E1.out]; omega
            ·rw [E2.out]; omega
            ·rw [E1.out, Hne1.out, Hn4.out]; omega
            ·rw [E2.out, Hbe1.out, Hb4.out]; omega
            ·rw [Hce.out, Bool.eq_iff_iff, Hdrop.out, E1.out, E2.out]
             exact ⟨fun h => h.2, fun h => ⟨Hk.out, h⟩⟩
           case measure => simp [intOf]; omega
         ·obtain rfl : j = m.f4.length := by omega
          have hc : chk d m n b = true := by
           rw [Hchk.out, Hce.out, List.drop_length, chkL_nil]
           omega
          have hres : HoldsPost w0 w g d m n b (.returned (.bool true)) wr := ⟨by rw [hc], hB4, hK4, n', b', hR4, fun _ => by
           rw [Hne1.out, Hbe1.out, List.take_length, Hnod.out, Hbyt.out, ← Hb1.out]
           exact ⟨by omega, by omega⟩⟩
          clear Hchk hc
          go_wp2
          go_ret
          exact hres
set_option maxRecDepth 100000 in
set_option maxHeartbeats 4000000 in
/-- match.Check. -/
theorem check53 (w : World) (m : S25) (A3 : Option Addr) (c3 : Nat) (A4 : Option Addr) (c4 : Nat) (hM : MC w m A3 c3 A4 c4) :
  Calls Try.prog 53 #[.agg #[.int .i64 m.f0, .string m.f1, .string m.f2, .slice A3 m.f3.length c3, .slice A4 m.f4.length c4]] w fun e w' => e = .returned (.bool (chkB m)) ∧ Below w.heap.size w w' := by
 have hb : Below w.heap.size w ((w.alloc (.cells #[.int .i64 m.f0, .string m.f1, .string m.f2, .slice A3 m.f3.length c3, .slice A4 m.f4.length c4] 25)).alloc (.cells #[.int .i64 64, .int .i64 4096] 130)) := below_alloc (below_alloc (Below.refl _ _) _) _
 have hr : Room ((w.alloc (.cells #[.int .i64 m.f0, .string m.f1, .string m.f2, .slice A3 m.f3.length c3, .slice A4 m.f4.length c4] 25)).alloc (.cells #[.int .i64 64, .int .i64 4096] 130)) (w.heap.size + 1) 64 4096 := by
  have := blk_new (w.alloc (.cells #[.int .i64 m.f0, .string m.f1, .string m.f2, .slice A3 m.f3.length c3, .slice A4 m.f4.length c4] 25)) (.cells #[.int .i64 64, .int .i64 4096] 130)
  rwa [World.size_alloc] at this
 have hh := holds106 (nodesM m) m (Nat.le_refl _) 1 64 4096 A3 c3 A4 c4 (w.heap.size + 1) w _ (by decide) (by decide) (by decide) (by decide) (by decide) (by decide) hM hb (by omega) hr
 go_enter Try.func53, Try.ntmps53
 go_wp2_with fail
 (with_reducible refine hh.mono ?_)
 rintro e w5 ⟨rfl, hB5, -, -⟩
 go_wp2_with fail
 go_ret
 exact ⟨rfl, hB5⟩
end Go.Proofs.Yteafilojjdfllaa
end
section
namespace Go.Proofs.Yteafilojjdfllaa
open Go Go.ChangeShapes Go.WideShapes Go.ChangeAt Go.RowKit Go.Proofs.YteafilojjdfllaaW.PrintWords Go.Proofs.Yteafilojjdfllaa.PAll
theorem own : ownKnob Try.prog.godebug = none := by kernel_rfl
theorem laidOut : laidOutB Try.prog = true := by kernel_rfl
/-- below the heap's old size nothing has turned: so all arguments read as they did -/
theorem trodAll_below {H : Type} {enc : TypeId × Value → H} {W W' : World} (hb : Below W.heap.size W W') : ∀ {ts : List TypeId} {vs : List Value} {ds : List (DataW H)} {ps : List MemPlace},
  (∀ t ∈ ts, Try.prog.readableRec t = true ∧ t < Try.prog.types.size) →
  DataW.TrodAll enc Try.prog W 0 (fun _ => true) true ts vs ds ps → DataW.TrodAll enc Try.prog W' 0 (fun b => decide (b < W.heap.size)) true ts vs ds ps
 | [], vs, ds, ps, _, h => by
  obtain ⟨rfl, rfl, rfl⟩ := trodAll_nil h
  exact trodAll_mk0
 | t :: ts, vs, ds, ps, hr, h => by
  obtain ⟨v0, vs0, d0, ds0, p0, q0, rfl, rfl, rfl, h0, r0⟩ := trodAll_cons h
  have ht := hr t (List.mem_cons_self ..)
  refine trodAll_cons_mk (Below.trod laidOut ht.1 ht.2 h0 hb ?_) (trodAll_below hb (fun u hu => hr u (List.mem_cons_of_mem _ hu)) r0)
  obtain ⟨n, hn⟩ := h0
  exact DataW.trod_lt n t _ _ hn
/-- no block is greater -/
abbrev R47 : Nat := 140737488351232
theorem reach47 : reachBytes ≤ R47 := by decide
section
variable {H : Type} {enc : TypeId × Value → H} {W : World}
/-- what a type's cells are -/
def OpN (enc : TypeId × Value → H) (W : World) {α : Type} (d : Kd α) (t : TypeId) (S : α → Prop) (n : Nat) : Prop :=
 ∀ cs x, DataW.trod enc Try.prog W 0 (fun _ => true) true n t cs = some x → (∀ k ∈ x.1.weights Try.prog t, k ≤ R47) → ∃ y, d.K W y cs ∧ S y
theorem op_string {t : TypeId} (hu : Try.prog.underlying t = some .string) (n : Nat) : OpN enc W Kd.string t (fun s => s.size ≤ R47) n := by
 intro cs x h hw
 obtain ⟨s, rfl, rfl, _⟩ := DataW.trod_string hu h
 refine ⟨s, rfl, ?_⟩
 have := hw s.data.toList.length (by simp [DataW.weights])
 rwa [Array.length_toList] at this
end
section
variable {H : Type} {enc : TypeId × Value → H} {W : World}
end
section
variable {H : Type} {enc : TypeId × Value → H} {W : World} {base : Nat} {v : Value} {d : DataW H} {p : List MemPlace}
set_option maxRecDepth 100000 in
theorem hw_of {ts : List TypeId} {ds : List (DataW H)} {j : Nat} {t : TypeId} {d : DataW H} (hsz : (DataW.weightsEach Try.prog ts ds).all (· ≤ reachBytes) = true) (ht : ts[j]? = some t) (hd : ds[j]? = some d) : ∀ k ∈ d.weights Try.prog t, k ≤ R47 :=
 fun k hk => Nat.le_trans (of_decide_eq_true (List.all_eq_true.1 hsz _ (DataW.weights_mem_each ht hd k hk))) reach47
set_option maxRecDepth 100000 in
theorem open_str (hv : Value.okWide Try.prog W .any base 9 v) (h : DataW.Trod enc Try.prog W 0 (fun _ => true) true 9 v d p) (hw : ∀ k ∈ d.weights Try.prog 9, k ≤ R47) : ∃ s : ByteArray, v = .string s ∧ s.size ≤ R47 := by
 obtain ⟨s, rfl⟩ := okWide_string Try.underlying9 hv
 obtain ⟨fuel, hf⟩ := h
 obtain ⟨y, hK, hs⟩ := op_string (W := W) Try.underlying9 fuel [.string s] _ (by simpa [Value.cells] using hf) hw
 have e : [Value.string s] = [Value.string y] := hK
 simp only [List.cons.injEq, Value.string.injEq, and_true] at e
 exact ⟨s, rfl, e ▸ hs⟩
end
end Go.Proofs.Yteafilojjdfllaa
end
section
namespace Go.Proofs.Yteafilojjdfllaa
open Go
def ioCodes : List Nat := [104, 97, 114, 110, 101, 115, 115, 32, 102, 50, 56, 101, 48, 56, 101, 97, 101, 53, 53, 53, 50, 54, 100, 53, 102, 52, 51, 52, 54, 51, 51, 101, 54, 49, 52, 51, 99, 54, 54, 50, 98, 57, 51, 100, 100, 56, 102, 102, 50, 101, 54, 97, 52, 51, 51, 101, 101, 51, 51, 54, 54, 101, 97, 52, 54, 50, 101, 100, 55, 97, 54, 56, 32, 99, 117, 116, 32, 97, 116, 32, 118, 97, 114, 118, 101, 47, 118, 97, 114, 118, 101, 108, 97, 119, 49, 57, 46, 84, 111, 109, 98, 67, 104, 101, 99, 107, 115, 32, 118, 97, 114, 118, 101, 47, 118, 97, 114, 118, 101, 108, 97, 119, 49, 57, 46, 84, 111, 109, 98, 65, 112, 112, 108, 105, 101, 115, 32, 118, 97, 114, 118, 101, 47, 118, 97, 114, 118, 101, 108, 97, 119, 49, 57, 46, 84, 111, 109, 98, 79, 114, 100, 101, 114, 32, 118, 97, 114, 118, 101, 47, 118, 97, 114, 118, 101, 108, 97, 119, 49, 57, 46, 84, 111, 109, 98, 87, 104, 111, 108, 101, 32, 118, 97, 114, 118, 101, 47, 118, 97, 114, 118, 101, 108, 97, 119, 49, 57, 46, 84, 111, 109, 98, 80, 114, 117, 110, 101, 115, 32, 118, 97, 114, 118, 101, 47, 118, 97, 114, 118, 101, 108, 97, 119, 49, 57, 46, 84, 111, 109, 98, 68, 111, 110, 101, 32, 118, 97, 114, 118, 101, 47, 118, 97, 114, 118, 101, 108, 97, 119, 49, 50, 46, 77, 97, 116, 99, 104, 67, 104, 101, 99, 107, 115, 32, 118, 97, 114, 118, 101, 47, 118, 97, 114, 118, 101, 108, 97, 119, 49, 50, 46, 77, 97, 116, 99, 104, 69, 118, 97, 108, 115, 32, 118, 97, 114, 118, 101, 47, 118, 97, 114, 118, 101, 108, 97, 119, 49, 50, 46, 77, 97, 116, 99, 104, 76, 97, 119, 115, 32, 118, 97, 114, 118, 101, 47, 118, 97, 114, 118, 101, 108, 97, 119, 49, 50, 46, 77, 97, 116, 99, 104, 76, 97, 98, 101, 108, 115, 32, 118, 97, 114, 118, 101, 47, 118, 97, 114, 118, 101, 108, 97, 119, 49, 50, 46, 77, 97, 116, 99, 104, 79, 110, 99, 101, 32, 118, 97, 114, 118, 101, 47, 118, 97, 114, 118, 101, 108, 97, 119, 49, 50, 46, 77, 97, 116, 99, 104, 83, 97, 109, 101, 32, 118, 97, 114, 118, 101, 47, 118, 97, 114, 118, 101, 108, 97, 119, 49, 49, 46, 76, 97, 98, 101, 108, 67, 104, 101, 99, 107, 115, 32, 118, 97, 114, 118, 101, 47, 118, 97, 114, 118, 101, 108, 97, 119, 49, 49, 46, 76, 97, 98, 101, 108, 77, 97, 107, 101, 115, 32, 118, 97, 114, 118, 101, 47, 118, 97, 114, 118, 101, 108, 97, 119, 49, 49, 46, 76, 97, 98, 101, 108, 84, 117, 114, 110, 115, 32, 118, 97, 114, 118, 101, 47, 118, 97, 114, 118, 101, 108, 97, 119, 49, 49, 46, 76, 97, 98, 101, 108, 86, 97, 108, 117, 101, 115, 32, 118, 97, 114, 118, 101, 47, 118, 97, 114, 118, 101, 108, 97, 119, 49, 57, 46, 84, 111, 109, 98, 66, 121, 116, 101, 115, 32, 118, 97, 114, 118, 101, 47, 118, 97, 114, 118, 101, 108, 97, 119, 49, 49, 46, 76, 97, 98, 101, 108, 67, 109, 112, 115, 32, 118, 97, 114, 118, 101, 47, 118, 97, 114, 118, 101, 108, 97, 119, 49, 49, 46, 76, 97, 98, 101, 108, 79, 114, 100, 101, 114, 115, 32, 118, 97, 114, 118, 101, 47, 118, 97, 114, 118, 101, 108, 97, 119, 49, 49, 46, 76, 97, 98, 101, 108, 83, 116, 97, 114, 116, 115, 32, 118, 97, 114, 118, 101, 47, 118, 97, 114, 118, 101, 108, 97, 119, 49, 49, 46, 76, 97, 98, 101, 108, 66, 121, 116, 101, 115, 32, 118, 97, 114, 118, 101, 47, 118, 97, 114, 118, 101, 108, 97, 119, 49, 49, 46, 76, 97, 98, 101, 108, 84, 101, 120, 116, 115, 32, 118, 97, 114, 118, 101, 47, 118, 97, 114, 118, 101, 108, 97, 119, 49, 49, 46, 76, 97, 98, 101, 108, 80, 97, 114, 115, 101, 115, 32, 118, 97, 114, 118, 101, 47, 118, 97, 114, 118, 101, 108, 97, 119, 49, 49, 46, 76, 97, 98, 101, 108, 66, 114, 111, 107, 101, 110, 32, 118, 97, 114, 118, 101, 47, 118, 97, 114, 118, 101, 108, 97, 119, 49, 50, 46, 77, 97, 116, 99, 104, 66, 121, 116, 101, 115, 32, 118, 97, 114, 118, 101, 47, 118, 97, 114, 118, 101, 108, 97, 119, 49, 50, 46, 77, 97, 116, 99, 104, 84, 101, 120, 116, 115, 32, 118, 97, 114, 118, 101, 47, 118, 97, 114, 118, 101, 108, 97, 119, 49, 50, 46, 77, 97, 116, 99, 104, 80, 97, 114, 115, 101, 115, 32, 118, 97, 114, 118, 101, 47, 118, 97, 114, 118, 101, 108, 97, 119, 49, 50, 46, 77, 97, 116, 99, 104, 68, 101, 101, 112]
theorem io_str : Try.prog.initOrder = String.ofList (ioCodes.map Char.ofNat) := by kernel_rfl
theorem io_list : Try.prog.initOrder.toList = ioCodes.map Char.ofNat := by rw [io_str, String.toList_ofList]
theorem pf_lifts : Try.prog.liftsFinal = false := by
 unfold Program.liftsFinal Program.headLifts
 rw [io_list]
 kernel_rfl
def cutW : List Char := [99, 117, 116].map Char.ofNat
theorem bw_head : ((behindMainWord (wordsSigns (ioCodes.map Char.ofNat))).head? == some cutW) = true := by kernel_rfl
theorem head_cut : (behindMainWord (wordsSigns Try.prog.initOrder.toList)).head? = some cutW := by
 rw [io_list]
 exact beq_iff_eq.1 bw_head
theorem cut_strip (rest : List (List Char)) : stripLifts liftWords (cutW :: rest) = ([], cutW :: rest) := by kernel_rfl
theorem cut_gc : (cutW == "gc".toList) = false := by kernel_rfl
theorem cut_spec : (cutW == "spec".toList) = false := by kernel_rfl
theorem cut_cut : (cutW == "cut".toList) = true := by kernel_rfl
theorem cut_car : (cutW == "carried".toList) = false := by kernel_rfl
theorem cut_head (rest : List (List Char)) : ((cutW :: rest).head? == some "cut".toList) = true := by kernel_rfl
theorem make_of (P : Program) (h : (behindMainWord (wordsSigns P.initOrder.toList)).head? = some cutW) : P.make = some .cut := by
 unfold Program.make
 cases hl : behindMainWord (wordsSigns P.initOrder.toList) with
 | nil => rw [hl] at h; cases h
 | cons c rest =>
  rw [hl, List.head?_cons] at h
  cases h
  have h1 := cut_gc
  have h2 := cut_spec
  have h3 := cut_cut
  generalize cutW = c at h1 h2 h3
  simp only [h1, h2, h3, Bool.or_self, Bool.true_or, if_true]
  rfl
theorem enter_of (P : Program) (h : (behindMainWord (wordsSigns P.initOrder.toList)).head? = some cutW) (p1 : P.laysLater = false) (p2 : P.bearsReflect = false) (p3 : P.doorFits [] = true) : P.mayEnter = true := by
 unfold Program.mayEnter
 cases hl : behindMainWord (wordsSigns P.initOrder.toList) with
 | nil => rw [hl] at h; cases h
 | cons c rest =>
  rw [hl, List.head?_cons] at h
  cases h
  have h1 := cut_gc
  have h2 := cut_spec
  have h4 := cut_car
  have h5 := cut_strip rest
  have h6 := cut_head rest
  generalize cutW = c at h1 h2 h4 h5 h6
  simp only [h1, h2, h4, h5, h6, p1, p2, p3, List.contains_nil]
  rfl
theorem pf_later : Try.prog.laysLater = false := by kernel_rfl
theorem pf_refl : Try.prog.bearsReflect = false := by kernel_rfl
theorem pf_door : Try.prog.doorFits [] = true := by kernel_rfl
theorem pf_make : Try.prog.make = some .cut := make_of _ head_cut
theorem pf_enter : Try.prog.mayEnter = true := enter_of _ head_cut pf_later pf_refl pf_door
theorem pf_laid : laidOutB Try.prog = true := by kernel_rfl
theorem pf_maps : mapsRowed Try.prog = true := by kernel_rfl
theorem pf_stops : (Try.prog.stops == []) = true := by kernel_rfl
theorem pf_knobs : (Try.prog.stopKnobs == []) = true := by kernel_rfl
theorem pf_plain : Try.prog.plainKeys = true := by kernel_rfl
theorem pf_heard : Try.prog.stopsHeard = true := by kernel_rfl
end Go.Proofs.Yteafilojjdfllaa
end
section
namespace Go.Proofs.Yteafilojjdfllaa
section
open Go Go.Proofs.Yteafilojjdfllaa.PAll
end
section
open Go Go.RowKit Go.Proofs.YteafilojjdfllaaW.PrintWords Go.Proofs.YteafilojjdfllaaW.PrintLast Go.Proofs.YteafilojjdfllaaW.PrintMore Go.Proofs.Yteafilojjdfllaa.PAll
set_option linter.unusedVariables false
set_option linter.unusedSimpArgs false
def bys (l : List UInt8) : List Int := l.map fun b => (b.toNat : Int)
/-- bytes that may be appended to: a row of the call's own, or one with no room behind it -/
def BR (W : World) (base : Nat) (v : Value) (xs : List UInt8) : Prop :=
 (Kd.int .u8).R 5 W base (fun _ => True) v (bys xs) ∨ ∃ A, v = .slice A xs.length xs.length ∧ (Kd.int .u8).C W A xs.length (bys xs)
theorem BR.below {W W1 : World} {base : Nat} {v : Value} {xs : List UInt8} (h : BR W base v xs) (hb : Below W.heap.size W W1) : BR W1 base v xs := by
 rcases h with h | ⟨A, e, h⟩
 ·exact .inl (Kd.R_below h hb)
 ·exact .inr ⟨A, e, Kd.C_below h hb⟩
section
variable {ops : Array Oper} {rest : List Oper} {o : Oper} {a : Act} {Q : Exit → Act → World → Prop}
end
end
section
open Go Go.RowKit Go.Proofs.YteafilojjdfllaaW.PrintWords Go.Proofs.YteafilojjdfllaaW.PrintLast Go.Proofs.YteafilojjdfllaaW.PrintMore Go.Proofs.Yteafilojjdfllaa.PAll
set_option linter.unusedVariables false
set_option linter.unusedSimpArgs false
end
section
open Go Go.RowKit Go.Proofs.YteafilojjdfllaaW.PrintWords Go.Proofs.YteafilojjdfllaaW.PrintLast Go.Proofs.YteafilojjdfllaaW.PrintMore Go.Proofs.Yteafilojjdfllaa.PAll
set_option linter.unusedVariables false
set_option linter.unusedSimpArgs false
/-- the reader's block -/
def RB (W : World) (g : Nat) (A : Option Addr) (n c : Nat) (i : Int) (b : Bool) : Prop := W.heap[g]? = some (.cells #[.slice A n c, .int .i64 i, .bool b] 93 (0, 0))
section
variable {W X : World} {g : Nat} {A : Option Addr} {n c : Nat} {i : Int} {b : Bool}
theorem RB.c0 (h : RB W g A n c i b) : W.cell? ⟨g, 0, none⟩ = some (.slice A n c) := (blk_cell h 0).trans rfl
theorem RB.c1 (h : RB W g A n c i b) : W.cell? ⟨g, 1, none⟩ = some (.int .i64 i) := (blk_cell h 1).trans rfl
theorem RB.c2 (h : RB W g A n c i b) : W.cell? ⟨g, 2, none⟩ = some (.bool b) := (blk_cell h 2).trans rfl
theorem RB.z1 (h : RB W g A n c i b) : W.frozen? ⟨g, 1, none⟩ = false := blk_frozen h 1
theorem RB.z2 (h : RB W g A n c i b) : W.frozen? ⟨g, 2, none⟩ = false := blk_frozen h 2
theorem RB.lt (h : RB W g A n c i b) : g < W.heap.size := (Array.getElem?_eq_some_iff.1 h).1
theorem RB.set1 (h : RB W g A n c i b) (j : Int) : RB (W.setCell ⟨g, 1, none⟩ (.int .i64 j)) g A n c j b := by simpa [RB] using blk_set h 1 (.int .i64 j)
theorem RB.set2 (h : RB W g A n c i b) (d : Bool) : RB (W.setCell ⟨g, 2, none⟩ (.bool d)) g A n c i d := by simpa [RB] using blk_set h 2 (.bool d)
theorem RB.below (h : RB W g A n c i b) (hb : Below W.heap.size W X) : RB X g A n c i b := (hb.block g h.lt).trans h
theorem RB.drewN (h : RB W g A n c i b) (m : Nat) : RB (W.drewN m) g A n c i b := h
end
end
section
open Go Go.RowKit Go.Proofs.YteafilojjdfllaaW.PrintWords Go.Proofs.YteafilojjdfllaaW.PrintLast Go.Proofs.YteafilojjdfllaaW.PrintMore Go.Proofs.Yteafilojjdfllaa.PAll
set_option linter.unusedVariables false
set_option linter.unusedSimpArgs false
end
end Go.Proofs.Yteafilojjdfllaa
end
section
namespace Go.Proofs.Yteafilojjdfllaa
open Go Go.RowKit Go.Proofs.YteafilojjdfllaaW.PrintWords Go.Proofs.YteafilojjdfllaaW.PrintLast Go.Proofs.YteafilojjdfllaaW.PrintMore Go.Proofs.Yteafilojjdfllaa.PAll
set_option linter.unusedVariables false
set_option linter.unusedSimpArgs false
/-- what is thrown -/
def badP : List PanicEntry := [{ v := .iface 198 (.agg #[]), recovered := false }]
/-- the reader's block -/
def RD (W : World) (g : Nat) (A : Option Addr) (n c : Nat) (i k : Int) : Prop := W.heap[g]? = some (.cells #[.slice A n c, .int .i64 i, .int .i64 k] 164 (0, 0))
section
variable {W X : World} {g : Nat} {A : Option Addr} {n c : Nat} {i k : Int}
theorem RD.c0 (h : RD W g A n c i k) : W.cell? ⟨g, 0, none⟩ = some (.slice A n c) := (blk_cell h 0).trans rfl
theorem RD.c1 (h : RD W g A n c i k) : W.cell? ⟨g, 1, none⟩ = some (.int .i64 i) := (blk_cell h 1).trans rfl
theorem RD.c2 (h : RD W g A n c i k) : W.cell? ⟨g, 2, none⟩ = some (.int .i64 k) := (blk_cell h 2).trans rfl
theorem RD.z1 (h : RD W g A n c i k) : W.frozen? ⟨g, 1, none⟩ = false := blk_frozen h 1
theorem RD.z2 (h : RD W g A n c i k) : W.frozen? ⟨g, 2, none⟩ = false := blk_frozen h 2
theorem RD.lt (h : RD W g A n c i k) : g < W.heap.size := (Array.getElem?_eq_some_iff.1 h).1
theorem RD.set1 (h : RD W g A n c i k) (j : Int) : RD (W.setCell ⟨g, 1, none⟩ (.int .i64 j)) g A n c j k := by simpa [RD] using blk_set h 1 (.int .i64 j)
theorem RD.set2 (h : RD W g A n c i k) (j : Int) : RD (W.setCell ⟨g, 2, none⟩ (.int .i64 j)) g A n c i j := by simpa [RD] using blk_set h 2 (.int .i64 j)
theorem RD.below (h : RD W g A n c i k) (hb : Below W.heap.size W X) : RD X g A n c i k := (hb.block g h.lt).trans h
theorem RD.drewN (h : RD W g A n c i k) (m : Nat) : RD (W.drewN m) g A n c i k := h
end
/-- how a part of the reader ends: it threw, or it hands back v and stands behind it -/
def RDPost (w0 w : World) (g : Nat) (A : Option Addr) (n c : Nat) (k : Int) (Q : Option (Value × List UInt8)) (e : Ending) (w' : World) : Prop :=
 Below w0.heap.size w0 w' ∧ KeepBut w w' g none ∧
  ((Q = none ∧ e = .panicked badP) ∨ ∃ v r, Q = some (v, r) ∧ e = .returned v ∧ RD w' g A n c ((n : Int) - (r.length : Nat)) k)
end Go.Proofs.Yteafilojjdfllaa
end
section
namespace Go.Proofs.Yteafilojjdfllaa
open Go Go.RowKit Go.Proofs.YteafilojjdfllaaW.PrintWords Go.Proofs.YteafilojjdfllaaW.PrintLast Go.Proofs.YteafilojjdfllaaW.PrintMore Go.Proofs.Yteafilojjdfllaa.PAll
mutual
/-- its texts are no longer than memory bears -/
def boundM : S25 → Prop
 | ⟨_, n, v, vs, ks⟩ => n.size ≤ 140737488351232 ∧ v.size ≤ 140737488351232 ∧ (∀ u ∈ vs, u.size ≤ 140737488351232) ∧ boundL ks
def boundL : List S25 → Prop
 | [] => True
 | k :: ks => boundM k ∧ boundL ks
end
theorem boundM_mk (m : S25) : boundM m ↔ m.f1.size ≤ 140737488351232 ∧ m.f2.size ≤ 140737488351232 ∧ (∀ u ∈ m.f3, u.size ≤ 140737488351232) ∧ boundL m.f4 := by cases m; simp [boundM]
theorem boundL_at : ∀ {ks : List S25} {j : Nat}, boundL ks → j < ks.length → boundM (ks.getD j z25)
 | k :: ks, 0, h, _ => h.1
 | k :: ks, j + 1, h, hj => by
  have := boundL_at (j := j) h.2 (by simpa using hj)
  simpa using this
def bareB (m : S25) (one many kids : Bool) : Bool := decide ((one = true ∨ m.f2.toList = []) ∧ (one = true ∨ many = true ∨ m.f1.toList = []) ∧ (many = true ∨ m.f3.length = 0) ∧ (kids = true ∨ m.f4.length = 0))
theorem bare.val (m : S25) (x y z : Bool) : varveref12_bare.f m.f0 m.f1 m.f2 m.f3 m.f4 x y z = some (bareB m x y z) := by
 have hz : ∀ t : Nat, (((t : Int) == 0) : Bool) = decide (t = 0) := fun t => by rw [Bool.eq_iff_iff]; simp only [beq_iff_eq, decide_eq_true_eq]; omega
 have hc : ∀ t : Nat, ((t : Int) = 0) = (t = 0) := fun t => by apply propext; omega
 unfold varveref12_bare.f bareB
 simp only [hz, hc]
 cases x <;> cases y <;> cases z <;> by_cases h1 : m.f1.toList = [] <;> by_cases h2 : m.f2.toList = [] <;> by_cases h3 : m.f3.length = 0 <;> by_cases h4 : m.f4.length = 0 <;> simp [h1, h2, h3, h4]
theorem bare147 (w : World) (m : S25) (A3 : Option Addr) (c3 : Nat) (A4 : Option Addr) (c4 : Nat) (x y z v : Bool) (hv : bareB m x y z = v) (h : MC w m A3 c3 A4 c4) :
  Calls Try.prog 147 #[.agg #[.int .i64 m.f0, .string m.f1, .string m.f2, .slice A3 m.f3.length c3, .slice A4 m.f4.length c4], .bool x, .bool y, .bool z] w fun e w' => e = .returned (.bool v) ∧ Below w.heap.size w w' :=
 varveref12_bare.calls m.f0 m.f1 m.f2 A3 c3 m.f3 A4 c4 m.f4 x y z v w h.2.1 h.1 h.2.2.2 h.2.2.1 (hv ▸ bare.val m x y z)
theorem name64 (w : World) (s : ByteArray) (v : Bool) (hv : nameB s = v) (hs : s.size ≤ 140737488351232) : Calls Try.prog 64 #[.string s] w fun e w' => e = .returned (.bool v) ∧ Below w.heap.size w w' :=
 (varveref11_Name.calls (s.size + 2) s v w (hv ▸ varveref11_Name.val s hs _ (Nat.le_refl _))).mono fun _ _ h => ⟨h.1, h.2.below⟩
theorem values149 (w : World) (A : Option Addr) (c : Nat) (l : List ByteArray) (v : Bool) (hv : valuesB l = v) (hc : l.length ≤ c) (h : Kd.C Kd.string w A l.length l) : Calls Try.prog 149 #[.slice A l.length c] w fun e w' => e = .returned (.bool v) ∧ Below w.heap.size w w' :=
 (varveref12_values.calls 40 A c l v w h hc (hv ▸ varveref12_values.val l 40 (Nat.le_refl _))).mono fun _ _ h => ⟨h.1, h.2.below⟩
/-- more bytes, with what is left of it -/
def txt (b : Int) (bad : Bool) (t : ByteArray) : Int × Bool := if (t.size : Int) > 4096 - b then (b, true) else (b + t.size, bad)
theorem text148 (w0 w : World) (g : Nat) (n b : Int) (bad : Bool) (t : ByteArray) (h0 : 0 ≤ b) (h1 : b ≤ 4096) (hI : IsS122 w0 w g n b bad) (hB : Below w0.heap.size w0 w) :
  Calls Try.prog 148 #[.pointer (some ⟨g, 0, none⟩), .string t] w fun e w' => e = .returned (.tuple #[]) ∧ IsS122 w0 w' g n (txt b bad t).1 (txt b bad t).2 ∧ Below w0.heap.size w0 w' ∧ KeepBut w w' g none := by
 refine varveref12_size_text.calls g n b bad t n (txt b bad t).1 (txt b bad t).2 w0 w hI hB ?_
 unfold varveref12_size_text.f txt
 rw [show wrap64 (4096 - b) = 4096 - b by unfold wrap64; omega]
 split
 ·rfl
 ·rw [show wrap64 (b + (t.size : Int)) = b + t.size by unfold wrap64; omega]
theorem txt_le {b : Int} {bad : Bool} {t : ByteArray} (h0 : 0 ≤ b) (h1 : b ≤ 4096) : 0 ≤ (txt b bad t).1 ∧ (txt b bad t).1 ≤ 4096 := by
 unfold txt; split
 ·exact ⟨h0, h1⟩
 ·simp only; omega
/-- how a look ends -/
def LookPost (w0 w : World) (g : Nat) (d : Int) (m : S25) (n b : Int) (e : Ending) (w' : World) : Prop :=
 e = .returned (.tuple #[]) ∧ Below w0.heap.size w0 w' ∧ KeepBut w w' g none ∧ ∃ n' b', IsS122 w0 w' g n' b' (!chk d m (64 - n) (4096 - b)) ∧ (chk d m (64 - n) (4096 - b) = true → n' = n + nodesM m ∧ b' = b + bytesM m)
theorem LookPost.no {w0 w w' : World} {g : Nat} {d : Int} {m : S25} {n b n' b' : Int} (h : chk d m (64 - n) (4096 - b) = false) (hB : Below w0.heap.size w0 w') (hK : KeepBut w w' g none) (hI : IsS122 w0 w' g n' b' true) : LookPost w0 w g d m n b (.returned (.tuple #[])) w' :=
 ⟨rfl, hB, hK, n', b', by rw [h]; exact hI, fun e => by rw [h] at e; cases e⟩
theorem LookPost.yes {w0 w w' : World} {g : Nat} {d : Int} {m : S25} {n b n' b' : Int} (h : chk d m (64 - n) (4096 - b) = true) (hB : Below w0.heap.size w0 w') (hK : KeepBut w w' g none) (hI : IsS122 w0 w' g n' b' false) (hn : n' = n + nodesM m) (hb : b' = b + bytesM m) : LookPost w0 w g d m n b (.returned (.tuple #[])) w' :=
 ⟨rfl, hB, hK, n', b', by rw [h]; exact hI, fun _ => ⟨hn, hb⟩⟩
/-- the matcher's own box -/
def BoxM (X : World) (p : Nat) (op : Int) (t1 t2 : ByteArray) (s3 s4 : Value) : Prop := X.heap[p]? = some (.cells #[.int .i64 op, .string t1, .string t2, s3, s4] 25 (0, 0))
section
variable {X Y : World} {p : Nat} {op : Int} {t1 t2 : ByteArray} {s3 s4 : Value}
theorem BoxM.lt (h : BoxM X p op t1 t2 s3 s4) : p < X.heap.size := (Array.getElem?_eq_some_iff.1 h).1
theorem BoxM.below (h : BoxM X p op t1 t2 s3 s4) (hb : Below X.heap.size X Y) : BoxM Y p op t1 t2 s3 s4 := (hb.block p h.lt).trans h
theorem BoxM.keep (h : BoxM X p op t1 t2 s3 s4) {g : Nat} (hk : KeepBut X Y g none) (hne : p ≠ g) : BoxM Y p op t1 t2 s3 s4 := (hk.2 p h.lt hne (by simp)).trans h
theorem BoxM.set (h : BoxM X p op t1 t2 s3 s4) {g j : Nat} (hne : p ≠ g) (u : Value) : BoxM (X.setCell ⟨g, j, none⟩ u) p op t1 t2 s3 s4 := (Below.heap_setCell _ _ _ p (by simpa using hne)).trans h
theorem BoxM.c0 (h : BoxM X p op t1 t2 s3 s4) : X.cell? ⟨p, 0, none⟩ = some (.int .i64 op) := (blk_cell h 0).trans rfl
theorem BoxM.c1 (h : BoxM X p op t1 t2 s3 s4) : X.cell? ⟨p, 1, none⟩ = some (.string t1) := (blk_cell h 1).trans rfl
theorem BoxM.c2 (h : BoxM X p op t1 t2 s3 s4) : X.cell? ⟨p, 2, none⟩ = some (.string t2) := (blk_cell h 2).trans rfl
theorem BoxM.c3 (h : BoxM X p op t1 t2 s3 s4) : X.cell? ⟨p, 3, none⟩ = some s3 := (blk_cell h 3).trans rfl
theorem BoxM.c4 (h : BoxM X p op t1 t2 s3 s4) : X.cell? ⟨p, 4, none⟩ = some s4 := (blk_cell h 4).trans rfl
end
theorem size0 {s : ByteArray} (h : s.toList = []) : s.size = 0 := by
 have := congrArg List.length h
 rw [ByteArray.toList_eq, Array.length_toList] at this
 exact this
/-- without kids -/
theorem chk_leaf {d : Int} {op : Int} {t1 t2 : ByteArray} {vs : List ByteArray} {n b : Int} (hd : d ≤ 8) (hn : 1 ≤ n) : chk d ⟨op, t1, t2, vs, []⟩ n b = (aloneB ⟨op, t1, t2, vs, []⟩ && decide ((t1.size + t2.size + sizes vs : Int) ≤ b)) := by
 rw [Bool.eq_iff_iff, chk_iff, chkL_nil, Bool.and_eq_true, decide_eq_true_iff]
 constructor
 ·rintro ⟨_, _, h3, h4, _⟩; exact ⟨h3, h4⟩
 ·rintro ⟨h3, h4⟩; exact ⟨hd, hn, h3, h4, by omega, by omega, by simp only; omega⟩
theorem txt_bad {b : Int} {t : ByteArray} : (txt b true t).2 = true := by unfold txt; split <;> rfl
theorem txt2_bad {b : Int} {t u : ByteArray} {r : Int × Bool} (h : txt b true t = r) : (txt r.1 r.2 u).2 = true := by
 have : r.2 = true := by rw [← h]; exact txt_bad
 rw [this]; exact txt_bad
theorem txt_ok {b : Int} {t : ByteArray} (h : (t.size : Int) ≤ 4096 - b) : txt b false t = (b + t.size, false) := by unfold txt; rw [if_neg (by omega)]
theorem txt_no {b : Int} {t : ByteArray} (h : ¬ (t.size : Int) ≤ 4096 - b) : txt b false t = (b, true) := by unfold txt; rw [if_pos (by omega)]
theorem not_alone {d : Int} {m : S25} {n b : Int} (h : aloneB m = false) : chk d m n b = false := chk_false_of (fun h' => by rw [h] at h'; exact absurd h'.2.2.1 (by decide))
theorem alone_123 (op : Int) (h : op = 1 ∨ op = 2 ∨ op = 3) (t1 t2 : ByteArray) (vs : List ByteArray) (ks : List S25) : aloneB ⟨op, t1, t2, vs, ks⟩ = (bareB ⟨op, t1, t2, vs, ks⟩ true false false && nameB t1 && decide (t2.size ≤ 64)) := by
 have hb : bareB ⟨op, t1, t2, vs, ks⟩ true false false = decide (vs.length = 0 ∧ ks.length = 0) := by unfold bareB; rw [decide_eq_decide]; simp
 have h0 : ¬ op = 0 := by omega
 rw [hb]
 simp only [aloneB, if_neg h0, if_pos h]
 rw [Bool.eq_iff_iff]
 simp only [Bool.and_eq_true, decide_eq_true_iff]
 constructor
 ·rintro ⟨h1, h2, h3, h4⟩; exact ⟨⟨⟨h4, h3⟩, h1⟩, h2⟩
 ·rintro ⟨⟨⟨h4, h3⟩, h1⟩, h2⟩; exact ⟨h1, h2, h3, h4⟩
theorem alone_4 (t1 t2 : ByteArray) (vs : List ByteArray) (ks : List S25) : aloneB ⟨4, t1, t2, vs, ks⟩ = (bareB ⟨4, t1, t2, vs, ks⟩ false true false && nameB t1 && valuesB vs) := by
 have hb : bareB ⟨4, t1, t2, vs, ks⟩ false true false = decide (t2.toList = [] ∧ ks.length = 0) := by unfold bareB; rw [decide_eq_decide]; simp
 rw [hb]
 simp only [aloneB]
 rw [if_neg (by omega), if_neg (by omega), if_pos trivial, Bool.eq_iff_iff]
 simp only [Bool.and_eq_true, decide_eq_true_iff]
 constructor
 ·rintro ⟨⟨h1, h2, h3⟩, h4⟩; exact ⟨⟨⟨h3, h2⟩, h1⟩, h4⟩
 ·rintro ⟨⟨⟨h3, h2⟩, h1⟩, h4⟩; exact ⟨⟨h1, h2, h3⟩, h4⟩
theorem alone_56 (op : Int) (h : op = 5 ∨ op = 6) (t1 t2 : ByteArray) (vs : List ByteArray) (ks : List S25) : aloneB ⟨op, t1, t2, vs, ks⟩ = bareB ⟨op, t1, t2, vs, ks⟩ false false true := by
 have hb : bareB ⟨op, t1, t2, vs, ks⟩ false false true = plainB ⟨op, t1, t2, vs, ks⟩ := by
  unfold bareB plainB; rw [decide_eq_decide]; simp; constructor
  ·rintro ⟨h1, h2, h3⟩; exact ⟨h2, h1, h3⟩
  ·rintro ⟨h1, h2, h3⟩; exact ⟨h2, h1, h3⟩
 rw [hb]
 simp only [aloneB]
 rw [if_neg (by omega), if_neg (by omega), if_neg (by omega), if_pos h]
theorem alone_7 (t1 t2 : ByteArray) (vs : List ByteArray) (ks : List S25) : aloneB ⟨7, t1, t2, vs, ks⟩ = (bareB ⟨7, t1, t2, vs, ks⟩ false false true && decide (ks.length = 1)) := by
 have hb : bareB ⟨7, t1, t2, vs, ks⟩ false false true = plainB ⟨7, t1, t2, vs, ks⟩ := by
  unfold bareB plainB; rw [decide_eq_decide]; simp; constructor
  ·rintro ⟨h1, h2, h3⟩; exact ⟨h2, h1, h3⟩
  ·rintro ⟨h1, h2, h3⟩; exact ⟨h2, h1, h3⟩
 rw [hb]
 simp only [aloneB]
 rw [if_neg (by omega), if_neg (by omega), if_neg (by omega), if_neg (by omega), if_pos trivial]
theorem alone_other {op : Int} (h : op ≠ 0 ∧ op ≠ 1 ∧ op ≠ 2 ∧ op ≠ 3 ∧ op ≠ 4 ∧ op ≠ 5 ∧ op ≠ 6 ∧ op ≠ 7) (t1 t2 : ByteArray) (vs : List ByteArray) (ks : List S25) : aloneB ⟨op, t1, t2, vs, ks⟩ = false := by
 simp only [aloneB]
 rw [if_neg (by omega), if_neg (by omega), if_neg (by omega), if_neg (by omega), if_neg (by omega)]
theorem values149m (w0 w : World) (m : S25) (A3 : Option Addr) (c3 : Nat) (A4 : Option Addr) (c4 : Nat) (v : Bool) (hv : valuesB m.f3 = v) (hM : MC w0 m A3 c3 A4 c4) (hB : Below w0.heap.size w0 w) :
  Calls Try.prog 149 #[.slice A3 m.f3.length c3] w fun e w' => e = .returned (.bool v) ∧ Below w.heap.size w w' := values149 w A3 c3 m.f3 v hv hM.1 (Kd.C_below hM.2.1 hB)
theorem sizes_take_le : ∀ (vs : List ByteArray) (j : Nat), sizes (vs.take j) ≤ sizes vs
 | [], _ => by simp
 | v :: vs, 0 => by simp [sizes]
 | v :: vs, j + 1 => by have := sizes_take_le vs j; simp only [List.take_succ_cons, sizes]; omega
theorem plain_own {op : Int} {t1 t2 : ByteArray} {vs : List ByteArray} {ks : List S25} (h : bareB ⟨op, t1, t2, vs, ks⟩ false false true = true) : t1.size = 0 ∧ t2.size = 0 ∧ vs = [] := by
 have h' := of_decide_eq_true (show decide _ = true from h)
 have h2 : t2.toList = [] := by rcases h'.1 with h | h; cases h; exact h
 have h1 : t1.toList = [] := by rcases h'.2.1 with h | h | h; cases h; cases h; exact h
 have h3 : vs = [] := by rcases h'.2.2.1 with h | h; cases h; exact List.eq_nil_of_length_eq_zero h
 exact ⟨size0 h1, size0 h2, h3⟩
set_option maxRecDepth 100000 in
set_option maxHeartbeats 16000000 in
theorem look99 : ∀ (N : Nat) (m : S25), nodesM m ≤ N → boundM m → ∀ (d n b : Int) (A3 : Option Addr) (c3 : Nat) (A4 : Option Addr) (c4 : Nat) (g : Nat) (w0 w : World), 0 ≤ d → d ≤ 100 → 0 ≤ n → n ≤ 64 → 0 ≤ b → b ≤ 4096 →
  MC w0 m A3 c3 A4 c4 → Below w0.heap.size w0 w → IsS122 w0 w g n b false →
  Calls Try.prog 99 #[.pointer (some ⟨g, 0, none⟩), .agg #[.int .i64 m.f0, .string m.f1, .string m.f2, .slice A3 m.f3.length c3, .slice A4 m.f4.length c4], .int .i64 d] w (LookPost w0 w g d m n b) := by
 intro N
 induction N with
 | zero => intro m h; rw [nodesM_mk] at h; omega
 | succ N ih =>
  rintro ⟨op, t1, t2, vs, ks⟩ hN
  have IH := Lib.hid ih
  clear ih
  intro hbound d n b A3 c3 A4 c4 g w0 w hd0 hd1 hn0 hn1 hb0 hb1 hM hB hI
  have hg := hI.2
  have hgl : g < w.heap.size := (Array.getElem?_eq_some_iff.1 hI.1).1
  have hne : w.heap.size ≠ g := by omega
  have q0 := cellS122_0 hI.1
  have z0 := blk_frozen hI.1 0
  have hI0 := hI.alloc (.cells #[.int .i64 op, .string t1, .string t2, .slice A3 vs.length c3, .slice A4 ks.length c4] 25)
  have r0 := cellS122_0 hI0.1
  have s0 := blk_frozen hI0.1 0
  have hI2 := (hI.set_0 (n + 1)).alloc (.cells #[.int .i64 op, .string t1, .string t2, .slice A3 vs.length c3, .slice A4 ks.length c4] 25)
  have q1 := cellS122_0 hI2.1
  have q2 := cellS122_2 hI2.1
  have z2 := blk_frozen hI2.1 2
  have hB2 : Below w0.heap.size w0 ((w.setCell ⟨g, 0, none⟩ (.int .i64 (n + 1))).alloc (.cells #[.int .i64 op, .string t1, .string t2, .slice A3 vs.length c3, .slice A4 ks.length c4] 25)) := below_alloc (hB.setCell hg _) _
  have hK2 : KeepBut w ((w.setCell ⟨g, 0, none⟩ (.int .i64 (n + 1))).alloc (.cells #[.int .i64 op, .string t1, .string t2, .slice A3 vs.length c3, .slice A4 ks.length c4] 25)) g none := ((KeepBut.refl w g none).set_ 0 _).trans (KeepBut.of_below (below_alloc (Below.refl _ _) _) g none) (.inl rfl)
  have hbox : ((w.setCell ⟨g, 0, none⟩ (.int .i64 (n + 1))).alloc (.cells #[.int .i64 op, .string t1, .string t2, .slice A3 vs.length c3, .slice A4 ks.length c4] 25)).heap[w.heap.size]? = some (.cells #[.int .i64 op, .string t1, .string t2, .slice A3 vs.length c3, .slice A4 ks.length c4] 25 (0, 0)) := by
   have := blk_new (w.setCell ⟨g, 0, none⟩ (.int .i64 (n + 1))) (.cells #[.int .i64 op, .string t1, .string t2, .slice A3 vs.length c3, .slice A4 ks.length c4] 25)
   simpa using this
  have hbx : BoxM _ w.heap.size op t1 t2 (.slice A3 vs.length c3) (.slice A4 ks.length c4) := hbox
  have x0 := hbx.c0
  have x1 := hbx.c1
  have x2 := hbx.c2
  have x3 := hbx.c3
  have x4 := hbx.c4
  have Hbound := Lib.hid (show t1.size ≤ 140737488351232 ∧ t2.size ≤ 140737488351232 ∧ (∀ u ∈ vs, u.size ≤ 140737488351232) ∧ boundL ks from (boundM_mk _).1 hbound)
  clear hbox hbound hI0
  by_cases hn : 64 < n + 1
  ·have hc : chk d ⟨op, t1, t2, vs, ks⟩ (64 - n) (4096 - b) = false := chk_false_of (fun h => by omega)
   go_enter Try.func99, Try.ntmps99
   go_wp2
   first | go_end0 | ((try simp only [Exit.inBlock, Exit.then]); refine bodyPost_ret (results_none rfl _ _ _) rfl ?_)
   exact LookPost.no hc (below_alloc ((hB.setCell hg _).setCell hg _) (.cells #[.int .i64 op, .string t1, .string t2, .slice A3 vs.length c3, .slice A4 ks.length c4] 25)) ((((KeepBut.refl w g none).set_ 0 _).set_ 2 _).trans (KeepBut.of_below (below_alloc (Below.refl _ _) _) g none) (.inl rfl)) (((hI.set_0 (n + 1)).set_2 true).alloc _)
  ·by_cases hd : 8 < d
   ·have hc : chk d ⟨op, t1, t2, vs, ks⟩ (64 - n) (4096 - b) = false := chk_false_of (fun h => by omega)
    go_enter Try.func99, Try.ntmps99
    go_wp2
    first | go_end0 | ((try simp only [Exit.inBlock, Exit.then]); refine bodyPost_ret (results_none rfl _ _ _) rfl ?_)
    exact LookPost.no hc (below_alloc ((hB.setCell hg _).setCell hg _) (.cells #[.int .i64 op, .string t1, .string t2, .slice A3 vs.length c3, .slice A4 ks.length c4] 25)) ((((KeepBut.refl w g none).set_ 0 _).set_ 2 _).trans (KeepBut.of_below (below_alloc (Below.refl _ _) _) g none) (.inl rfl)) (((hI.set_0 (n + 1)).set_2 true).alloc _)
   ·by_cases e0 : op = 0
    ·subst e0
     cases hv : bareB ⟨0, t1, t2, vs, ks⟩ false false false with
     | false =>
      have hc : chk d ⟨0, t1, t2, vs, ks⟩ (64 - n) (4096 - b) = false := chk_false_of (fun h => by
       have h3 := h.2.2.1
       simp only [aloneB, plainB, if_true, Bool.and_eq_true, decide_eq_true_eq] at h3
       have : bareB ⟨0, t1, t2, vs, ks⟩ false false false = true := by unfold bareB; exact decide_eq_true ⟨.inr h3.1.2.1, .inr (.inr h3.1.1), .inr h3.1.2.2, .inr h3.2⟩
       rw [hv] at this; cases this)
      have Hv := Lib.hid hv
      clear hv
      go_enter Try.func99, Try.ntmps99
      go_wp2_with fail
      (with_reducible refine (bare147 _ ⟨0, t1, t2, vs, ks⟩ A3 c3 A4 c4 false false false false Hv.out (hM.below hB2)).mono ?_)
      rintro e w1 ⟨rfl, hb3⟩
      have hI3 := hI2.below hb3
      have z3 := blk_frozen hI3.1 2
      have z4 := cellS122_2 hI3.1
      go_wp2
      first | go_end0 | ((try simp only [Exit.inBlock, Exit.then]); refine bodyPost_ret (results_none rfl _ _ _) rfl ?_)
      exact LookPost.no hc ((below_step hB2 hb3).setCell hg _) ((hK2.trans (KeepBut.of_below hb3 g none) (.inl rfl)).set_ 2 _) (hI3.set_2 true)
     | true =>
      have hb0' := of_decide_eq_true (show decide _ = true from hv)
      have h2 : t2.toList = [] := by rcases hb0'.1 with h | h; cases h; exact h
      have h1 : t1.toList = [] := by rcases hb0'.2.1 with h | h | h; cases h; cases h; exact h
      have h3 : vs = [] := by rcases hb0'.2.2.1 with h | h; cases h; exact List.eq_nil_of_length_eq_zero h
      have h4 : ks = [] := by rcases hb0'.2.2.2 with h | h; cases h; exact List.eq_nil_of_length_eq_zero h
      have hc : chk d ⟨0, t1, t2, vs, ks⟩ (64 - n) (4096 - b) = true := by
       rw [h4, chk_leaf (by omega) (by omega), h3]
       simp only [aloneB, plainB, if_true, h1, h2, sizes, size0 h1, size0 h2]
       simp; omega
      have hnod : nodesM ⟨0, t1, t2, vs, ks⟩ = 1 := by rw [h4]; simp [nodesM, nodesL]
      have hbyt : bytesM ⟨0, t1, t2, vs, ks⟩ = 0 := by rw [h4, h3]; simp [bytesM, bytesL, sizes, size0 h1, size0 h2]
      have Hv := Lib.hid hv
      have Hnod := Lib.hid hnod
      have Hbyt := Lib.hid hbyt
      clear hv hb0' h1 h2 h3 h4 hnod hbyt
      go_enter Try.func99, Try.ntmps99
      go_wp2_with fail
      (with_reducible refine (bare147 _ ⟨0, t1, t2, vs, ks⟩ A3 c3 A4 c4 false false false true Hv.out (hM.below hB2)).mono ?_)
      rintro e w1 ⟨rfl, hb3⟩
      have hI3 := hI2.below hb3
      have z3 := blk_frozen hI3.1 2
      have z4 := cellS122_2 hI3.1
      go_wp2
      first | go_end0 | ((try simp only [Exit.inBlock, Exit.then]); refine bodyPost_ret (results_none rfl _ _ _) rfl ?_)
      exact LookPost.yes hc ((below_step hB2 hb3).setCell hg _) ((hK2.trans (KeepBut.of_below hb3 g none) (.inl rfl)).set_ 2 _) (hI3.set_2 false) (by rw [Hnod.out]; rfl) (by rw [Hbyt.out]; omega)
    ·have hX2 := hbx
     by_cases e1 : op = 1
     ·subst e1
      have Hal := Lib.hid (alone_123 1 (by omega) t1 t2 vs ks)
      cases hv : bareB ⟨1, t1, t2, vs, ks⟩ true false false with
      | false =>
       have hc : chk d ⟨1, t1, t2, vs, ks⟩ (64 - n) (4096 - b) = false := not_alone (by rw [Hal.out, hv]; rfl)
       have Hbare := Lib.hid hv
       clear hv
       go_enter Try.func99, Try.ntmps99
       go_wp2_with fail
       (with_reducible refine (bare147 _ ⟨1, t1, t2, vs, ks⟩ A3 c3 A4 c4 true false false false Hbare.out (hM.below hB2)).mono ?_)
       rintro e w3 ⟨rfl, hb3⟩
       have hB3 := below_step hB2 hb3
       have hI3 := hI2.below hb3
       have hK3 := hK2.trans (KeepBut.of_below hb3 g none) (.inl rfl)
       have hX3 := hX2.below hb3
       have u3 := hX3.c1
       have v3 := hX3.c2
       have p3 := hX3.c3
       have o3 := hX3.c0
       have k3 := hX3.c4
       have z3 := blk_frozen hI3.1 2
       have y3 := cellS122_2 hI3.1
       have hIS := hI3.set_2 true
       have hBS : Below w0.heap.size w0 (w3.setCell ⟨g, 2, none⟩ (.bool true)) := hB3.setCell hg _
       have hKS : KeepBut w (w3.setCell ⟨g, 2, none⟩ (.bool true)) g none := hK3.set_ 2 _
       have hXS := hX3.set (j := 2) hne (.bool true)
       go_wp2_with fail
       (with_reducible refine (text148 w0 _ g (n + 1) b true t1 hb0 hb1 hIS hBS).mono ?_)
       rintro e w8 ⟨rfl, hI8, hB8, hK8⟩
       have hX8 := hXS.keep hK8 hne
       have v8 := hX8.c2
       have hle := txt_le (bad := true) (t := t1) hb0 hb1
       obtain ⟨r1, er1⟩ : ∃ r, txt b true t1 = r := ⟨_, rfl⟩
       rw [er1] at hI8 hle
       have Er1 := Lib.hid er1
       clear er1
       go_wp2_with fail
       (with_reducible refine (text148 w0 _ g (n + 1) r1.1 r1.2 t2 hle.1 hle.2 hI8 hB8).mono ?_)
       rintro e w9 ⟨rfl, hI9, hB9, hK9⟩
       go_wp2
       first | go_end0 | ((try simp only [Exit.inBlock, Exit.then]); refine bodyPost_ret (results_none rfl _ _ _) rfl ?_)
       have hKf := (hKS.trans hK8 (.inl rfl)).trans hK9 (.inl rfl)
       exact LookPost.no hc hB9 hKf (txt2_bad (u := t2) Er1.out ▸ hI9)
      | true =>
       have Hbare := Lib.hid hv
       clear hv
       cases hv : nameB t1 with
       | false =>
        have hc : chk d ⟨1, t1, t2, vs, ks⟩ (64 - n) (4096 - b) = false := not_alone (by rw [Hal.out, Hbare.out, hv]; rfl)
        have Hname := Lib.hid hv
        clear hv
        go_enter Try.func99, Try.ntmps99
        go_wp2_with fail
        (with_reducible refine (bare147 _ ⟨1, t1, t2, vs, ks⟩ A3 c3 A4 c4 true false false true Hbare.out (hM.below hB2)).mono ?_)
        rintro e w3 ⟨rfl, hb3⟩
        have hB3 := below_step hB2 hb3
        have hI3 := hI2.below hb3
        have hK3 := hK2.trans (KeepBut.of_below hb3 g none) (.inl rfl)
        have hX3 := hX2.below hb3
        have u3 := hX3.c1
        have v3 := hX3.c2
        have p3 := hX3.c3
        have o3 := hX3.c0
        have k3 := hX3.c4
        have z3 := blk_frozen hI3.1 2
        have y3 := cellS122_2 hI3.1
        go_wp2_with fail
        (with_reducible refine (name64 _ t1 false Hname.out Hbound.out.1).mono ?_)
        rintro e w4 ⟨rfl, hb4⟩
        have hB4 := below_step hB3 hb4
        have hI4 := hI3.below hb4
        have hK4 := hK3.trans (KeepBut.of_below hb4 g none) (.inl rfl)
        have hX4 := hX3.below hb4
        have u4 := hX4.c1
        have v4 := hX4.c2
        have p4 := hX4.c3
        have o4 := hX4.c0
        have k4 := hX4.c4
        have z4 := blk_frozen hI4.1 2
        have y4 := cellS122_2 hI4.1
        have hIS := hI4.set_2 true
        have hBS : Below w0.heap.size w0 (w4.setCell ⟨g, 2, none⟩ (.bool true)) := hB4.setCell hg _
        have hKS : KeepBut w (w4.setCell ⟨g, 2, none⟩ (.bool true)) g none := hK4.set_ 2 _
        have hXS := hX4.set (j := 2) hne (.bool true)
        go_wp2_with fail
        (with_reducible refine (text148 w0 _ g (n + 1) b true t1 hb0 hb1 hIS hBS).mono ?_)
        rintro e w8 ⟨rfl, hI8, hB8, hK8⟩
        have hX8 := hXS.keep hK8 hne
        have v8 := hX8.c2
        have hle := txt_le (bad := true) (t := t1) hb0 hb1
        obtain ⟨r1, er1⟩ : ∃ r, txt b true t1 = r := ⟨_, rfl⟩
        rw [er1] at hI8 hle
        have Er1 := Lib.hid er1
        clear er1
        go_wp2_with fail
        (with_reducible refine (text148 w0 _ g (n + 1) r1.1 r1.2 t2 hle.1 hle.2 hI8 hB8).mono ?_)
        rintro e w9 ⟨rfl, hI9, hB9, hK9⟩
        go_wp2
        first | go_end0 | ((try simp only [Exit.inBlock, Exit.then]); refine bodyPost_ret (results_none rfl _ _ _) rfl ?_)
        have hKf := (hKS.trans hK8 (.inl rfl)).trans hK9 (.inl rfl)
        exact LookPost.no hc hB9 hKf (txt2_bad (u := t2) Er1.out ▸ hI9)
       | true =>
        have Hname := Lib.hid hv
        clear hv
        by_cases h64 : t2.size ≤ 64
        ·have hks : ks = [] := by
          have h' := of_decide_eq_true (show decide _ = true from Hbare.out)
          rcases h'.2.2.2 with h | h
          ·cases h
          ·exact List.eq_nil_of_length_eq_zero h
         have hvs : vs = [] := by
          have h' := of_decide_eq_true (show decide _ = true from Hbare.out)
          rcases h'.2.2.1 with h | h
          ·cases h
          ·exact List.eq_nil_of_length_eq_zero h
         have Hchk := Lib.hid (show chk d ⟨1, t1, t2, vs, ks⟩ (64 - n) (4096 - b) = decide ((t1.size + t2.size : Int) ≤ 4096 - b) from by
          have ha : aloneB ⟨1, t1, t2, vs, ks⟩ = true := by rw [Hal.out, Hbare.out, Hname.out, decide_eq_true h64]; rfl
          rw [hks] at ha ⊢
          rw [chk_leaf (by omega) (by omega), ha, Bool.true_and, decide_eq_decide, hvs]
          simp only [sizes]; omega)
         have Hnod := Lib.hid (show nodesM ⟨1, t1, t2, vs, ks⟩ = 1 from by rw [hks]; simp [nodesM, nodesL])
         have Hbyt := Lib.hid (show bytesM ⟨1, t1, t2, vs, ks⟩ = t1.size + t2.size from by rw [hks, hvs]; simp [bytesM, bytesL, sizes])
         clear hks hvs
         have h64b : decide ((64 : Int) < (t2.size : Int)) = false := decide_eq_false (by omega)
         have h64c : decide (64 < t2.size) = false := decide_eq_false (by omega)
         go_enter Try.func99, Try.ntmps99
         go_wp2_with fail
         (with_reducible refine (bare147 _ ⟨1, t1, t2, vs, ks⟩ A3 c3 A4 c4 true false false true Hbare.out (hM.below hB2)).mono ?_)
         rintro e w3 ⟨rfl, hb3⟩
         have hB3 := below_step hB2 hb3
         have hI3 := hI2.below hb3
         have hK3 := hK2.trans (KeepBut.of_below hb3 g none) (.inl rfl)
         have hX3 := hX2.below hb3
         have u3 := hX3.c1
         have v3 := hX3.c2
         have p3 := hX3.c3
         have o3 := hX3.c0
         have k3 := hX3.c4
         have z3 := blk_frozen hI3.1 2
         have y3 := cellS122_2 hI3.1
         go_wp2_with fail
         (with_reducible refine (name64 _ t1 true Hname.out Hbound.out.1).mono ?_)
         rintro e w4 ⟨rfl, hb4⟩
         have hB4 := below_step hB3 hb4
         have hI4 := hI3.below hb4
         have hK4 := hK3.trans (KeepBut.of_below hb4 g none) (.inl rfl)
         have hX4 := hX3.below hb4
         have u4 := hX4.c1
         have v4 := hX4.c2
         have p4 := hX4.c3
         have o4 := hX4.c0
         have k4 := hX4.c4
         have z4 := blk_frozen hI4.1 2
         have y4 := cellS122_2 hI4.1
         have hIS := hI4.set_2 false
         have hBS : Below w0.heap.size w0 (w4.setCell ⟨g, 2, none⟩ (.bool false)) := hB4.setCell hg _
         have hKS : KeepBut w (w4.setCell ⟨g, 2, none⟩ (.bool false)) g none := hK4.set_ 2 _
         have hXS := hX4.set (j := 2) hne (.bool false)
         go_wp2_with fail
         (with_reducible refine (text148 w0 _ g (n + 1) b false t1 hb0 hb1 hIS hBS).mono ?_)
         rintro e w8 ⟨rfl, hI8, hB8, hK8⟩
         have hX8 := hXS.keep hK8 hne
         have v8 := hX8.c2
         have hle := txt_le (bad := false) (t := t1) hb0 hb1
         obtain ⟨r1, er1⟩ : ∃ r, txt b false t1 = r := ⟨_, rfl⟩
         rw [er1] at hI8 hle
         have Er1 := Lib.hid er1
         clear er1
         go_wp2_with fail
         (with_reducible refine (text148 w0 _ g (n + 1) r1.1 r1.2 t2 hle.1 hle.2 hI8 hB8).mono ?_)
         rintro e w9 ⟨rfl, hI9, hB9, hK9⟩
         go_wp2
         first | go_end0 | ((try simp only [Exit.inBlock, Exit.then]); refine bodyPost_ret (results_none rfl _ _ _) rfl ?_)
         have hKf := (hKS.trans hK8 (.inl rfl)).trans hK9 (.inl rfl)
         by_cases hfit : (t1.size + t2.size : Int) ≤ 4096 - b
         ·have e1 := Er1.out.symm.trans (txt_ok (by omega))
          rw [e1, txt_ok (by simp only; omega)] at hI9
          exact LookPost.yes (by rw [Hchk.out]; exact decide_eq_true hfit) hB9 hKf hI9 (by rw [Hnod.out]; rfl) (by rw [Hbyt.out]; simp only; omega)
         ·refine LookPost.no (n' := n + 1) (b' := (txt r1.1 r1.2 t2).1) (by rw [Hchk.out]; exact decide_eq_false hfit) hB9 hKf ?_
          have : (txt r1.1 r1.2 t2).2 = true := by
           by_cases h1 : (t1.size : Int) ≤ 4096 - b
           ·rw [Er1.out.symm.trans (txt_ok h1), txt_no (by simp only; omega)]
           ·rw [Er1.out.symm.trans (txt_no h1)]; exact txt_bad
          rw [← this]; exact hI9
        ·have hc : chk d ⟨1, t1, t2, vs, ks⟩ (64 - n) (4096 - b) = false := not_alone (by rw [Hal.out, decide_eq_false h64, Bool.and_false])
         have h64' : (64 : Int) < (t2.size : Int) := by omega
         go_enter Try.func99, Try.ntmps99
         go_wp2_with fail
         (with_reducible refine (bare147 _ ⟨1, t1, t2, vs, ks⟩ A3 c3 A4 c4 true false false true Hbare.out (hM.below hB2)).mono ?_)
         rintro e w3 ⟨rfl, hb3⟩
         have hB3 := below_step hB2 hb3
         have hI3 := hI2.below hb3
         have hK3 := hK2.trans (KeepBut.of_below hb3 g none) (.inl rfl)
         have hX3 := hX2.below hb3
         have u3 := hX3.c1
         have v3 := hX3.c2
         have p3 := hX3.c3
         have o3 := hX3.c0
         have k3 := hX3.c4
         have z3 := blk_frozen hI3.1 2
         have y3 := cellS122_2 hI3.1
         go_wp2_with fail
         (with_reducible refine (name64 _ t1 true Hname.out Hbound.out.1).mono ?_)
         rintro e w4 ⟨rfl, hb4⟩
         have hB4 := below_step hB3 hb4
         have hI4 := hI3.below hb4
         have hK4 := hK3.trans (KeepBut.of_below hb4 g none) (.inl rfl)
         have hX4 := hX3.below hb4
         have u4 := hX4.c1
         have v4 := hX4.c2
         have p4 := hX4.c3
         have o4 := hX4.c0
         have k4 := hX4.c4
         have z4 := blk_frozen hI4.1 2
         have y4 := cellS122_2 hI4.1
         have hIS := hI4.set_2 true
         have hBS : Below w0.heap.size w0 (w4.setCell ⟨g, 2, none⟩ (.bool true)) := hB4.setCell hg _
         have hKS : KeepBut w (w4.setCell ⟨g, 2, none⟩ (.bool true)) g none := hK4.set_ 2 _
         have hXS := hX4.set (j := 2) hne (.bool true)
         go_wp2_with fail
         (with_reducible refine (text148 w0 _ g (n + 1) b true t1 hb0 hb1 hIS hBS).mono ?_)
         rintro e w8 ⟨rfl, hI8, hB8, hK8⟩
         have hX8 := hXS.keep hK8 hne
         have v8 := hX8.c2
         have hle := txt_le (bad := true) (t := t1) hb0 hb1
         obtain ⟨r1, er1⟩ : ∃ r, txt b true t1 = r := ⟨_, rfl⟩
         rw [er1] at hI8 hle
         have Er1 := Lib.hid er1
         clear er1
         go_wp2_with fail
         (with_reducible refine (text148 w0 _ g (n + 1) r1.1 r1.2 t2 hle.1 hle.2 hI8 hB8).mono ?_)
         rintro e w9 ⟨rfl, hI9, hB9, hK9⟩
         go_wp2
         first | go_end0 | ((try simp only [Exit.inBlock, Exit.then]); refine bodyPost_ret (results_none rfl _ _ _) rfl ?_)
         have hKf := (hKS.trans hK8 (.inl rfl)).trans hK9 (.inl rfl)
         exact LookPost.no hc hB9 hKf (txt2_bad (u := t2) Er1.out ▸ hI9)
     ·by_cases e2 : op = 2
      ·subst e2
       have Hal := Lib.hid (alone_123 2 (by omega) t1 t2 vs ks)
       cases hv : bareB ⟨2, t1, t2, vs, ks⟩ true false false with
       | false =>
        have hc : chk d ⟨2, t1, t2, vs, ks⟩ (64 - n) (4096 - b) = false := not_alone (by rw [Hal.out, hv]; rfl)
        have Hbare := Lib.hid hv
        clear hv
        go_enter Try.func99, Try.ntmps99
        go_wp2_with fail
        (with_reducible refine (bare147 _ ⟨2, t1, t2, vs, ks⟩ A3 c3 A4 c4 true false false false Hbare.out (hM.below hB2)).mono ?_)
        rintro e w3 ⟨rfl, hb3⟩
        have hB3 := below_step hB2 hb3
        have hI3 := hI2.below hb3
        have hK3 := hK2.trans (KeepBut.of_below hb3 g none) (.inl rfl)
        have hX3 := hX2.below hb3
        have u3 := hX3.c1
        have v3 := hX3.c2
        have p3 := hX3.c3
        have o3 := hX3.c0
        have k3 := hX3.c4
        have z3 := blk_frozen hI3.1 2
        have y3 := cellS122_2 hI3.1
        have hIS := hI3.set_2 true
        have hBS : Below w0.heap.size w0 (w3.setCell ⟨g, 2, none⟩ (.bool true)) := hB3.setCell hg _
        have hKS : KeepBut w (w3.setCell ⟨g, 2, none⟩ (.bool true)) g none := hK3.set_ 2 _
        have hXS := hX3.set (j := 2) hne (.bool true)
        go_wp2_with fail
        (with_reducible refine (text148 w0 _ g (n + 1) b true t1 hb0 hb1 hIS hBS).mono ?_)
        rintro e w8 ⟨rfl, hI8, hB8, hK8⟩
        have hX8 := hXS.keep hK8 hne
        have v8 := hX8.c2
        have hle := txt_le (bad := true) (t := t1) hb0 hb1
        obtain ⟨r1, er1⟩ : ∃ r, txt b true t1 = r := ⟨_, rfl⟩
        rw [er1] at hI8 hle
        have Er1 := Lib.hid er1
        clear er1
        go_wp2_with fail
        (with_reducible refine (text148 w0 _ g (n + 1) r1.1 r1.2 t2 hle.1 hle.2 hI8 hB8).mono ?_)
        rintro e w9 ⟨rfl, hI9, hB9, hK9⟩
        go_wp2
        first | go_end0 | ((try simp only [Exit.inBlock, Exit.then]); refine bodyPost_ret (results_none rfl _ _ _) rfl ?_)
        have hKf := (hKS.trans hK8 (.inl rfl)).trans hK9 (.inl rfl)
        exact LookPost.no hc hB9 hKf (txt2_bad (u := t2) Er1.out ▸ hI9)
       | true =>
        have Hbare := Lib.hid hv
        clear hv
        cases hv : nameB t1 with
        | false =>
         have hc : chk d ⟨2, t1, t2, vs, ks⟩ (64 - n) (4096 - b) = false := not_alone (by rw [Hal.out, Hbare.out, hv]; rfl)
         have Hname := Lib.hid hv
         clear hv
         go_enter Try.func99, Try.ntmps99
         go_wp2_with fail
         (with_reducible refine (bare147 _ ⟨2, t1, t2, vs, ks⟩ A3 c3 A4 c4 true false false true Hbare.out (hM.below hB2)).mono ?_)
         rintro e w3 ⟨rfl, hb3⟩
         have hB3 := below_step hB2 hb3
         have hI3 := hI2.below hb3
         have hK3 := hK2.trans (KeepBut.of_below hb3 g none) (.inl rfl)
         have hX3 := hX2.below hb3
         have u3 := hX3.c1
         have v3 := hX3.c2
         have p3 := hX3.c3
         have o3 := hX3.c0
         have k3 := hX3.c4
         have z3 := blk_frozen hI3.1 2
         have y3 := cellS122_2 hI3.1
         go_wp2_with fail
         (with_reducible refine (name64 _ t1 false Hname.out Hbound.out.1).mono ?_)
         rintro e w4 ⟨rfl, hb4⟩
         have hB4 := below_step hB3 hb4
         have hI4 := hI3.below hb4
         have hK4 := hK3.trans (KeepBut.of_below hb4 g none) (.inl rfl)
         have hX4 := hX3.below hb4
         have u4 := hX4.c1
         have v4 := hX4.c2
         have p4 := hX4.c3
         have o4 := hX4.c0
         have k4 := hX4.c4
         have z4 := blk_frozen hI4.1 2
         have y4 := cellS122_2 hI4.1
         have hIS := hI4.set_2 true
         have hBS : Below w0.heap.size w0 (w4.setCell ⟨g, 2, none⟩ (.bool true)) := hB4.setCell hg _
         have hKS : KeepBut w (w4.setCell ⟨g, 2, none⟩ (.bool true)) g none := hK4.set_ 2 _
         have hXS := hX4.set (j := 2) hne (.bool true)
         go_wp2_with fail
         (with_reducible refine (text148 w0 _ g (n + 1) b true t1 hb0 hb1 hIS hBS).mono ?_)
         rintro e w8 ⟨rfl, hI8, hB8, hK8⟩
         have hX8 := hXS.keep hK8 hne
         have v8 := hX8.c2
         have hle := txt_le (bad := true) (t := t1) hb0 hb1
         obtain ⟨r1, er1⟩ : ∃ r, txt b true t1 = r := ⟨_, rfl⟩
         rw [er1] at hI8 hle
         have Er1 := Lib.hid er1
         clear er1
         go_wp2_with fail
         (with_reducible refine (text148 w0 _ g (n + 1) r1.1 r1.2 t2 hle.1 hle.2 hI8 hB8).mono ?_)
         rintro e w9 ⟨rfl, hI9, hB9, hK9⟩
         go_wp2
         first | go_end0 | ((try simp only [Exit.inBlock, Exit.then]); refine bodyPost_ret (results_none rfl _ _ _) rfl ?_)
         have hKf := (hKS.trans hK8 (.inl rfl)).trans hK9 (.inl rfl)
         exact LookPost.no hc hB9 hKf (txt2_bad (u := t2) Er1.out ▸ hI9)
        | true =>
         have Hname := Lib.hid hv
         clear hv
         by_cases h64 : t2.size ≤ 64
         ·have hks : ks = [] := by
           have h' := of_decide_eq_true (show decide _ = true from Hbare.out)
           rcases h'.2.2.2 with h | h
           ·cases h
           ·exact List.eq_nil_of_length_eq_zero h
          have hvs : vs = [] := by
           have h' := of_decide_eq_true (show decide _ = true from Hbare.out)
           rcases h'.2.2.1 with h | h
           ·cases h
           ·exact List.eq_nil_of_length_eq_zero h
          have Hchk := Lib.hid (show chk d ⟨2, t1, t2, vs, ks⟩ (64 - n) (4096 - b) = decide ((t1.size + t2.size : Int) ≤ 4096 - b) from by
           have ha : aloneB ⟨2, t1, t2, vs, ks⟩ = true := by rw [Hal.out, Hbare.out, Hname.out, decide_eq_true h64]; rfl
           rw [hks] at ha ⊢
           rw [chk_leaf (by omega) (by omega), ha, Bool.true_and, decide_eq_decide, hvs]
           simp only [sizes]; omega)
          have Hnod := Lib.hid (show nodesM ⟨2, t1, t2, vs, ks⟩ = 1 from by rw [hks]; simp [nodesM, nodesL])
          have Hbyt := Lib.hid (show bytesM ⟨2, t1, t2, vs, ks⟩ = t1.size + t2.size from by rw [hks, hvs]; simp [bytesM, bytesL, sizes])
          clear hks hvs
          have h64b : decide ((64 : Int) < (t2.size : Int)) = false := decide_eq_false (by omega)
          have h64c : decide (64 < t2.size) = false := decide_eq_false (by omega)
          go_enter Try.func99, Try.ntmps99
          go_wp2_with fail
          (with_reducible refine (bare147 _ ⟨2, t1, t2, vs, ks⟩ A3 c3 A4 c4 true false false true Hbare.out (hM.below hB2)).mono ?_)
          rintro e w3 ⟨rfl, hb3⟩
          have hB3 := below_step hB2 hb3
          have hI3 := hI2.below hb3
          have hK3 := hK2.trans (KeepBut.of_below hb3 g none) (.inl rfl)
          have hX3 := hX2.below hb3
          have u3 := hX3.c1
          have v3 := hX3.c2
          have p3 := hX3.c3
          have o3 := hX3.c0
          have k3 := hX3.c4
          have z3 := blk_frozen hI3.1 2
          have y3 := cellS122_2 hI3.1
          go_wp2_with fail
          (with_reducible refine (name64 _ t1 true Hname.out Hbound.out.1).mono ?_)
          rintro e w4 ⟨rfl, hb4⟩
          have hB4 := below_step hB3 hb4
          have hI4 := hI3.below hb4
          have hK4 := hK3.trans (KeepBut.of_below hb4 g none) (.inl rfl)
          have hX4 := hX3.below hb4
          have u4 := hX4.c1
          have v4 := hX4.c2
          have p4 := hX4.c3
          have o4 := hX4.c0
          have k4 := hX4.c4
          have z4 := blk_frozen hI4.1 2
          have y4 := cellS122_2 hI4.1
          have hIS := hI4.set_2 false
          have hBS : Below w0.heap.size w0 (w4.setCell ⟨g, 2, none⟩ (.bool false)) := hB4.setCell hg _
          have hKS : KeepBut w (w4.setCell ⟨g, 2, none⟩ (.bool false)) g none := hK4.set_ 2 _
          have hXS := hX4.set (j := 2) hne (.bool false)
          go_wp2_with fail
          (with_reducible refine (text148 w0 _ g (n + 1) b false t1 hb0 hb1 hIS hBS).mono ?_)
          rintro e w8 ⟨rfl, hI8, hB8, hK8⟩
          have hX8 := hXS.keep hK8 hne
          have v8 := hX8.c2
          have hle := txt_le (bad := false) (t := t1) hb0 hb1
          obtain ⟨r1, er1⟩ : ∃ r, txt b false t1 = r := ⟨_, rfl⟩
          rw [er1] at hI8 hle
          have Er1 := Lib.hid er1
          clear er1
          go_wp2_with fail
          (with_reducible refine (text148 w0 _ g (n + 1) r1.1 r1.2 t2 hle.1 hle.2 hI8 hB8).mono ?_)
          rintro e w9 ⟨rfl, hI9, hB9, hK9⟩
          go_wp2
          first | go_end0 | ((try simp only [Exit.inBlock, Exit.then]); refine bodyPost_ret (results_none rfl _ _ _) rfl ?_)
          have hKf := (hKS.trans hK8 (.inl rfl)).trans hK9 (.inl rfl)
          by_cases hfit : (t1.size + t2.size : Int) ≤ 4096 - b
          ·have e1 := Er1.out.symm.trans (txt_ok (by omega))
           rw [e1, txt_ok (by simp only; omega)] at hI9
           exact LookPost.yes (by rw [Hchk.out]; exact decide_eq_true hfit) hB9 hKf hI9 (by rw [Hnod.out]; rfl) (by rw [Hbyt.out]; simp only; omega)
          ·refine LookPost.no (n' := n + 1) (b' := (txt r1.1 r1.2 t2).1) (by rw [Hchk.out]; exact decide_eq_false hfit) hB9 hKf ?_
           have : (txt r1.1 r1.2 t2).2 = true := by
            by_cases h1 : (t1.size : Int) ≤ 4096 - b
            ·rw [Er1.out.symm.trans (txt_ok h1), txt_no (by simp only; omega)]
            ·rw [Er1.out.symm.trans (txt_no h1)]; exact txt_bad
           rw [← this]; exact hI9
         ·have hc : chk d ⟨2, t1, t2, vs, ks⟩ (64 - n) (4096 - b) = false := not_alone (by rw [Hal.out, decide_eq_false h64, Bool.and_false])
          have h64' : (64 : Int) < (t2.size : Int) := by omega
          go_enter Try.func99, Try.ntmps99
          go_wp2_with fail
          (with_reducible refine (bare147 _ ⟨2, t1, t2, vs, ks⟩ A3 c3 A4 c4 true false false true Hbare.out (hM.below hB2)).mono ?_)
          rintro e w3 ⟨rfl, hb3⟩
          have hB3 := below_step hB2 hb3
          have hI3 := hI2.below hb3
          have hK3 := hK2.trans (KeepBut.of_below hb3 g none) (.inl rfl)
          have hX3 := hX2.below hb3
          have u3 := hX3.c1
          have v3 := hX3.c2
          have p3 := hX3.c3
          have o3 := hX3.c0
          have k3 := hX3.c4
          have z3 := blk_frozen hI3.1 2
          have y3 := cellS122_2 hI3.1
          go_wp2_with fail
          (with_reducible refine (name64 _ t1 true Hname.out Hbound.out.1).mono ?_)
          rintro e w4 ⟨rfl, hb4⟩
          have hB4 := below_step hB3 hb4
          have hI4 := hI3.below hb4
          have hK4 := hK3.trans (KeepBut.of_below hb4 g none) (.inl rfl)
          have hX4 := hX3.below hb4
          have u4 := hX4.c1
          have v4 := hX4.c2
          have p4 := hX4.c3
          have o4 := hX4.c0
          have k4 := hX4.c4
          have z4 := blk_frozen hI4.1 2
          have y4 := cellS122_2 hI4.1
          have hIS := hI4.set_2 true
          have hBS : Below w0.heap.size w0 (w4.setCell ⟨g, 2, none⟩ (.bool true)) := hB4.setCell hg _
          have hKS : KeepBut w (w4.setCell ⟨g, 2, none⟩ (.bool true)) g none := hK4.set_ 2 _
          have hXS := hX4.set (j := 2) hne (.bool true)
          go_wp2_with fail
          (with_reducible refine (text148 w0 _ g (n + 1) b true t1 hb0 hb1 hIS hBS).mono ?_)
          rintro e w8 ⟨rfl, hI8, hB8, hK8⟩
          have hX8 := hXS.keep hK8 hne
          have v8 := hX8.c2
          have hle := txt_le (bad := true) (t := t1) hb0 hb1
          obtain ⟨r1, er1⟩ : ∃ r, txt b true t1 = r := ⟨_, rfl⟩
          rw [er1] at hI8 hle
          have Er1 := Lib.hid er1
          clear er1
          go_wp2_with fail
          (with_reducible refine (text148 w0 _ g (n + 1) r1.1 r1.2 t2 hle.1 hle.2 hI8 hB8).mono ?_)
          rintro e w9 ⟨rfl, hI9, hB9, hK9⟩
          go_wp2
          first | go_end0 | ((try simp only [Exit.inBlock, Exit.then]); refine bodyPost_ret (results_none rfl _ _ _) rfl ?_)
          have hKf := (hKS.trans hK8 (.inl rfl)).trans hK9 (.inl rfl)
          exact LookPost.no hc hB9 hKf (txt2_bad (u := t2) Er1.out ▸ hI9)
      ·by_cases e3 : op = 3
       ·subst e3
        have Hal := Lib.hid (alone_123 3 (by omega) t1 t2 vs ks)
        cases hv : bareB ⟨3, t1, t2, vs, ks⟩ true false false with
        | false =>
         have hc : chk d ⟨3, t1, t2, vs, ks⟩ (64 - n) (4096 - b) = false := not_alone (by rw [Hal.out, hv]; rfl)
         have Hbare := Lib.hid hv
         clear hv
         go_enter Try.func99, Try.ntmps99
         go_wp2_with fail
         (with_reducible refine (bare147 _ ⟨3, t1, t2, vs, ks⟩ A3 c3 A4 c4 true false false false Hbare.out (hM.below hB2)).mono ?_)
         rintro e w3 ⟨rfl, hb3⟩
         have hB3 := below_step hB2 hb3
         have hI3 := hI2.below hb3
         have hK3 := hK2.trans (KeepBut.of_below hb3 g none) (.inl rfl)
         have hX3 := hX2.below hb3
         have u3 := hX3.c1
         have v3 := hX3.c2
         have p3 := hX3.c3
         have o3 := hX3.c0
         have k3 := hX3.c4
         have z3 := blk_frozen hI3.1 2
         have y3 := cellS122_2 hI3.1
         have hIS := hI3.set_2 true
         have hBS : Below w0.heap.size w0 (w3.setCell ⟨g, 2, none⟩ (.bool true)) := hB3.setCell hg _
         have hKS : KeepBut w (w3.setCell ⟨g, 2, none⟩ (.bool true)) g none := hK3.set_ 2 _
         have hXS := hX3.set (j := 2) hne (.bool true)
         go_wp2_with fail
         (with_reducible refine (text148 w0 _ g (n + 1) b true t1 hb0 hb1 hIS hBS).mono ?_)
         rintro e w8 ⟨rfl, hI8, hB8, hK8⟩
         have hX8 := hXS.keep hK8 hne
         have v8 := hX8.c2
         have hle := txt_le (bad := true) (t := t1) hb0 hb1
         obtain ⟨r1, er1⟩ : ∃ r, txt b true t1 = r := ⟨_, rfl⟩
         rw [er1] at hI8 hle
         have Er1 := Lib.hid er1
         clear er1
         go_wp2_with fail
         (with_reducible refine (text148 w0 _ g (n + 1) r1.1 r1.2 t2 hle.1 hle.2 hI8 hB8).mono ?_)
         rintro e w9 ⟨rfl, hI9, hB9, hK9⟩
         go_wp2
         first | go_end0 | ((try simp only [Exit.inBlock, Exit.then]); refine bodyPost_ret (results_none rfl _ _ _) rfl ?_)
         have hKf := (hKS.trans hK8 (.inl rfl)).trans hK9 (.inl rfl)
         exact LookPost.no hc hB9 hKf (txt2_bad (u := t2) Er1.out ▸ hI9)
        | true =>
         have Hbare := Lib.hid hv
         clear hv
         cases hv : nameB t1 with
         | false =>
          have hc : chk d ⟨3, t1, t2, vs, ks⟩ (64 - n) (4096 - b) = false := not_alone (by rw [Hal.out, Hbare.out, hv]; rfl)
          have Hname := Lib.hid hv
          clear hv
          go_enter Try.func99, Try.ntmps99
          go_wp2_with fail
          (with_reducible refine (bare147 _ ⟨3, t1, t2, vs, ks⟩ A3 c3 A4 c4 true false false true Hbare.out (hM.below hB2)).mono ?_)
          rintro e w3 ⟨rfl, hb3⟩
          have hB3 := below_step hB2 hb3
          have hI3 := hI2.below hb3
          have hK3 := hK2.trans (KeepBut.of_below hb3 g none) (.inl rfl)
          have hX3 := hX2.below hb3
          have u3 := hX3.c1
          have v3 := hX3.c2
          have p3 := hX3.c3
          have o3 := hX3.c0
          have k3 := hX3.c4
          have z3 := blk_frozen hI3.1 2
          have y3 := cellS122_2 hI3.1
          go_wp2_with fail
          (with_reducible refine (name64 _ t1 false Hname.out Hbound.out.1).mono ?_)
          rintro e w4 ⟨rfl, hb4⟩
          have hB4 := below_step hB3 hb4
          have hI4 := hI3.below hb4
          have hK4 := hK3.trans (KeepBut.of_below hb4 g none) (.inl rfl)
          have hX4 := hX3.below hb4
          have u4 := hX4.c1
          have v4 := hX4.c2
          have p4 := hX4.c3
          have o4 := hX4.c0
          have k4 := hX4.c4
          have z4 := blk_frozen hI4.1 2
          have y4 := cellS122_2 hI4.1
          have hIS := hI4.set_2 true
          have hBS : Below w0.heap.size w0 (w4.setCell ⟨g, 2, none⟩ (.bool true)) := hB4.setCell hg _
          have hKS : KeepBut w (w4.setCell ⟨g, 2, none⟩ (.bool true)) g none := hK4.set_ 2 _
          have hXS := hX4.set (j := 2) hne (.bool true)
          go_wp2_with fail
          (with_reducible refine (text148 w0 _ g (n + 1) b true t1 hb0 hb1 hIS hBS).mono ?_)
          rintro e w8 ⟨rfl, hI8, hB8, hK8⟩
          have hX8 := hXS.keep hK8 hne
          have v8 := hX8.c2
          have hle := txt_le (bad := true) (t := t1) hb0 hb1
          obtain ⟨r1, er1⟩ : ∃ r, txt b true t1 = r := ⟨_, rfl⟩
          rw [er1] at hI8 hle
          have Er1 := Lib.hid er1
          clear er1
          go_wp2_with fail
          (with_reducible refine (text148 w0 _ g (n + 1) r1.1 r1.2 t2 hle.1 hle.2 hI8 hB8).mono ?_)
          rintro e w9 ⟨rfl, hI9, hB9, hK9⟩
          go_wp2
          first | go_end0 | ((try simp only [Exit.inBlock, Exit.then]); refine bodyPost_ret (results_none rfl _ _ _) rfl ?_)
          have hKf := (hKS.trans hK8 (.inl rfl)).trans hK9 (.inl rfl)
          exact LookPost.no hc hB9 hKf (txt2_bad (u := t2) Er1.out ▸ hI9)
         | true =>
          have Hname := Lib.hid hv
          clear hv
          by_cases h64 : t2.size ≤ 64
          ·have hks : ks = [] := by
            have h' := of_decide_eq_true (show decide _ = true from Hbare.out)
            rcases h'.2.2.2 with h | h
            ·cases h
            ·exact List.eq_nil_of_length_eq_zero h
           have hvs : vs = [] := by
            have h' := of_decide_eq_true (show decide _ = true from Hbare.out)
            rcases h'.2.2.1 with h | h
            ·cases h
            ·exact List.eq_nil_of_length_eq_zero h
           have Hchk := Lib.hid (show chk d ⟨3, t1, t2, vs, ks⟩ (64 - n) (4096 - b) = decide ((t1.size + t2.size : Int) ≤ 4096 - b) from by
            have ha : aloneB ⟨3, t1, t2, vs, ks⟩ = true := by rw [Hal.out, Hbare.out, Hname.out, decide_eq_true h64]; rfl
            rw [hks] at ha ⊢
            rw [chk_leaf (by omega) (by omega), ha, Bool.true_and, decide_eq_decide, hvs]
            simp only [sizes]; omega)
           have Hnod := Lib.hid (show nodesM ⟨3, t1, t2, vs, ks⟩ = 1 from by rw [hks]; simp [nodesM, nodesL])
           have Hbyt := Lib.hid (show bytesM ⟨3, t1, t2, vs, ks⟩ = t1.size + t2.size from by rw [hks, hvs]; simp [bytesM, bytesL, sizes])
           clear hks hvs
           have h64b : decide ((64 : Int) < (t2.size : Int)) = false := decide_eq_false (by omega)
           have h64c : decide (64 < t2.size) = false := decide_eq_false (by omega)
           go_enter Try.func99, Try.ntmps99
           go_wp2_with fail
           (with_reducible refine (bare147 _ ⟨3, t1, t2, vs, ks⟩ A3 c3 A4 c4 true false false true Hbare.out (hM.below hB2)).mono ?_)
           rintro e w3 ⟨rfl, hb3⟩
           have hB3 := below_step hB2 hb3
           have hI3 := hI2.below hb3
           have hK3 := hK2.trans (KeepBut.of_below hb3 g none) (.inl rfl)
           have hX3 := hX2.below hb3
           have u3 := hX3.c1
           have v3 := hX3.c2
           have p3 := hX3.c3
           have o3 := hX3.c0
           have k3 := hX3.c4
           have z3 := blk_frozen hI3.1 2
           have y3 := cellS122_2 hI3.1
           go_wp2_with fail
           (with_reducible refine (name64 _ t1 true Hname.out Hbound.out.1).mono ?_)
           rintro e w4 ⟨rfl, hb4⟩
           have hB4 := below_step hB3 hb4
           have hI4 := hI3.below hb4
           have hK4 := hK3.trans (KeepBut.of_below hb4 g none) (.inl rfl)
           have hX4 := hX3.below hb4
           have u4 := hX4.c1
           have v4 := hX4.c2
           have p4 := hX4.c3
           have o4 := hX4.c0
           have k4 := hX4.c4
           have z4 := blk_frozen hI4.1 2
           have y4 := cellS122_2 hI4.1
           have hIS := hI4.set_2 false
           have hBS : Below w0.heap.size w0 (w4.setCell ⟨g, 2, none⟩ (.bool false)) := hB4.setCell hg _
           have hKS : KeepBut w (w4.setCell ⟨g, 2, none⟩ (.bool false)) g none := hK4.set_ 2 _
           have hXS := hX4.set (j := 2) hne (.bool false)
           go_wp2_with fail
           (with_reducible refine (text148 w0 _ g (n + 1) b false t1 hb0 hb1 hIS hBS).mono ?_)
           rintro e w8 ⟨rfl, hI8, hB8, hK8⟩
           have hX8 := hXS.keep hK8 hne
           have v8 := hX8.c2
           have hle := txt_le (bad := false) (t := t1) hb0 hb1
           obtain ⟨r1, er1⟩ : ∃ r, txt b false t1 = r := ⟨_, rfl⟩
           rw [er1] at hI8 hle
           have Er1 := Lib.hid er1
           clear er1
           go_wp2_with fail
           (with_reducible refine (text148 w0 _ g (n + 1) r1.1 r1.2 t2 hle.1 hle.2 hI8 hB8).mono ?_)
           rintro e w9 ⟨rfl, hI9, hB9, hK9⟩
           go_wp2
           first | go_end0 | ((try simp only [Exit.inBlock, Exit.then]); refine bodyPost_ret (results_none rfl _ _ _) rfl ?_)
           have hKf := (hKS.trans hK8 (.inl rfl)).trans hK9 (.inl rfl)
           by_cases hfit : (t1.size + t2.size : Int) ≤ 4096 - b
           ·have e1 := Er1.out.symm.trans (txt_ok (by omega))
            rw [e1, txt_ok (by simp only; omega)] at hI9
            exact LookPost.yes (by rw [Hchk.out]; exact decide_eq_true hfit) hB9 hKf hI9 (by rw [Hnod.out]; rfl) (by rw [Hbyt.out]; simp only; omega)
           ·refine LookPost.no (n' := n + 1) (b' := (txt r1.1 r1.2 t2).1) (by rw [Hchk.out]; exact decide_eq_false hfit) hB9 hKf ?_
            have : (txt r1.1 r1.2 t2).2 = true := by
             by_cases h1 : (t1.size : Int) ≤ 4096 - b
             ·rw [Er1.out.symm.trans (txt_ok h1), txt_no (by simp only; omega)]
             ·rw [Er1.out.symm.trans (txt_no h1)]; exact txt_bad
            rw [← this]; exact hI9
          ·have hc : chk d ⟨3, t1, t2, vs, ks⟩ (64 - n) (4096 - b) = false := not_alone (by rw [Hal.out, decide_eq_false h64, Bool.and_false])
           have h64' : (64 : Int) < (t2.size : Int) := by omega
           go_enter Try.func99, Try.ntmps99
           go_wp2_with fail
           (with_reducible refine (bare147 _ ⟨3, t1, t2, vs, ks⟩ A3 c3 A4 c4 true false false true Hbare.out (hM.below hB2)).mono ?_)
           rintro e w3 ⟨rfl, hb3⟩
           have hB3 := below_step hB2 hb3
           have hI3 := hI2.below hb3
           have hK3 := hK2.trans (KeepBut.of_below hb3 g none) (.inl rfl)
           have hX3 := hX2.below hb3
           have u3 := hX3.c1
           have v3 := hX3.c2
           have p3 := hX3.c3
           have o3 := hX3.c0
           have k3 := hX3.c4
           have z3 := blk_frozen hI3.1 2
           have y3 := cellS122_2 hI3.1
           go_wp2_with fail
           (with_reducible refine (name64 _ t1 true Hname.out Hbound.out.1).mono ?_)
           rintro e w4 ⟨rfl, hb4⟩
           have hB4 := below_step hB3 hb4
           have hI4 := hI3.below hb4
           have hK4 := hK3.trans (KeepBut.of_below hb4 g none) (.inl rfl)
           have hX4 := hX3.below hb4
           have u4 := hX4.c1
           have v4 := hX4.c2
           have p4 := hX4.c3
           have o4 := hX4.c0
           have k4 := hX4.c4
           have z4 := blk_frozen hI4.1 2
           have y4 := cellS122_2 hI4.1
           have hIS := hI4.set_2 true
           have hBS : Below w0.heap.size w0 (w4.setCell ⟨g, 2, none⟩ (.bool true)) := hB4.setCell hg _
           have hKS : KeepBut w (w4.setCell ⟨g, 2, none⟩ (.bool true)) g none := hK4.set_ 2 _
           have hXS := hX4.set (j := 2) hne (.bool true)
           go_wp2_with fail
           (with_reducible refine (text148 w0 _ g (n + 1) b true t1 hb0 hb1 hIS hBS).mono ?_)
           rintro e w8 ⟨rfl, hI8, hB8, hK8⟩
           have hX8 := hXS.keep hK8 hne
           have v8 := hX8.c2
           have hle := txt_le (bad := true) (t := t1) hb0 hb1
           obtain ⟨r1, er1⟩ : ∃ r, txt b true t1 = r := ⟨_, rfl⟩
           rw [er1] at hI8 hle
           have Er1 := Lib.hid er1
           clear er1
           go_wp2_with fail
           (with_reducible refine (text148 w0 _ g (n + 1) r1.1 r1.2 t2 hle.1 hle.2 hI8 hB8).mono ?_)
           rintro e w9 ⟨rfl, hI9, hB9, hK9⟩
           go_wp2
           first | go_end0 | ((try simp only [Exit.inBlock, Exit.then]); refine bodyPost_ret (results_none rfl _ _ _) rfl ?_)
           have hKf := (hKS.trans hK8 (.inl rfl)).trans hK9 (.inl rfl)
           exact LookPost.no hc hB9 hKf (txt2_bad (u := t2) Er1.out ▸ hI9)
       ·by_cases e4 : op = 4
        ·subst e4
         have Hal := Lib.hid (alone_4 t1 t2 vs ks)
         cases hv : bareB ⟨4, t1, t2, vs, ks⟩ false true false with
         | false =>
          have hc : chk d ⟨4, t1, t2, vs, ks⟩ (64 - n) (4096 - b) = false := not_alone (by rw [Hal.out, hv]; rfl)
          have Hbare := Lib.hid hv
          clear hv
          go_enter Try.func99, Try.ntmps99
          go_wp2_with fail
          (with_reducible refine (bare147 _ ⟨4, t1, t2, vs, ks⟩ A3 c3 A4 c4 false true false false Hbare.out (hM.below hB2)).mono ?_)
          rintro e w3 ⟨rfl, hb3⟩
          have hB3 := below_step hB2 hb3
          have hI3 := hI2.below hb3
          have hK3 := hK2.trans (KeepBut.of_below hb3 g none) (.inl rfl)
          have hX3 := hX2.below hb3
          have u3 := hX3.c1
          have v3 := hX3.c2
          have p3 := hX3.c3
          have o3 := hX3.c0
          have k3 := hX3.c4
          have z3 := blk_frozen hI3.1 2
          have y3 := cellS122_2 hI3.1
          have hIS := hI3.set_2 true
          have hBS : Below w0.heap.size w0 (w3.setCell ⟨g, 2, none⟩ (.bool true)) := hB3.setCell hg _
          have hKS : KeepBut w (w3.setCell ⟨g, 2, none⟩ (.bool true)) g none := hK3.set_ 2 _
          have hXS := hX3.set (j := 2) hne (.bool true)
          go_wp2_with fail
          (with_reducible refine (text148 w0 _ g (n + 1) b true t1 hb0 hb1 hIS hBS).mono ?_)
          rintro e w8 ⟨rfl, hI8, hB8, hK8⟩
          have hX8 := hXS.keep hK8 hne
          have hle := txt_le (bad := true) (t := t1) hb0 hb1
          obtain ⟨r1, er1⟩ : ∃ r, txt b true t1 = r := ⟨_, rfl⟩
          rw [er1] at hI8 hle
          have Er1 := Lib.hid er1
          clear er1
          have p8 := hX8.c3
          go_wp2
          go_loopw [6] (fun u6 wr => ∃ (j : Nat) (bj : Int) (kj : Bool), u6 = .int .i64 j ∧ j ≤ vs.length ∧ IsS122 w0 wr g (n + 1) bj kj ∧ BoxM wr w.heap.size 4 t1 t2 (.slice A3 vs.length c3) (.slice A4 ks.length c4) ∧ Below w0.heap.size w0 wr ∧ KeepBut w wr g none ∧ kj = true ∧ 0 ≤ bj ∧ bj ≤ 4096 ∧ Hid (kj = true → chk d ⟨4, t1, t2, vs, ks⟩ (64 - n) (4096 - b) = false) ∧ Hid (kj = false → bj = b + t1.size + sizes (vs.take j)))
           (fun u6 _ => vs.length - (intOf u6).toNat)
          case atStart =>
           refine ⟨0, r1.1, r1.2, rfl, Nat.zero_le _, hI8, hX8, hB8, hKS.trans hK8 (.inl rfl), by rw [← Er1.out]; exact txt_bad, hle.1, hle.2, Lib.hid (fun _ => hc), Lib.hid (fun hk => ?_)⟩
           rw [← Er1.out, txt_bad] at hk; cases hk
          case round =>
           clear p8 hI8 hX8 hB8 hK8 hIS hBS hKS hXS
           obtain ⟨j, bj, kj, rfl, hj, hIr, hXr, hBr, hKr, hkj, hbj0, hbj1, hkt, hkf⟩ := hrel
           have pr := hXr.c3
           have yr := cellS122_2 hIr.1
           have hlen := hM.2.1.2.1
           cases kj with
           | true =>
            have hc' := hkt.out rfl
            have Hc := Lib.hid hc'
            clear hc' hkt hkf
            by_cases hlt : j < vs.length
            ·go_wp2
             first | go_end0 | ((try simp only [Exit.inBlock, Exit.then]); refine bodyPost_ret (results_none rfl _ _ _) rfl ?_)
             exact LookPost.no Hc.out hBr hKr hIr
            ·go_wp2
             first | go_end0 | ((try simp only [Exit.inBlock, Exit.then]); refine bodyPost_ret (results_none rfl _ _ _) rfl ?_)
             exact LookPost.no Hc.out hBr hKr hIr
           | false =>
            cases hkj
         | true =>
          have Hbare := Lib.hid hv
          clear hv
          cases hv : nameB t1 with
          | false =>
           have hc : chk d ⟨4, t1, t2, vs, ks⟩ (64 - n) (4096 - b) = false := not_alone (by rw [Hal.out, Hbare.out, hv]; rfl)
           have Hname := Lib.hid hv
           clear hv
           go_enter Try.func99, Try.ntmps99
           go_wp2_with fail
           (with_reducible refine (bare147 _ ⟨4, t1, t2, vs, ks⟩ A3 c3 A4 c4 false true false true Hbare.out (hM.below hB2)).mono ?_)
           rintro e w3 ⟨rfl, hb3⟩
           have hB3 := below_step hB2 hb3
           have hI3 := hI2.below hb3
           have hK3 := hK2.trans (KeepBut.of_below hb3 g none) (.inl rfl)
           have hX3 := hX2.below hb3
           have u3 := hX3.c1
           have v3 := hX3.c2
           have p3 := hX3.c3
           have o3 := hX3.c0
           have k3 := hX3.c4
           have z3 := blk_frozen hI3.1 2
           have y3 := cellS122_2 hI3.1
           go_wp2_with fail
           (with_reducible refine (name64 _ t1 false Hname.out Hbound.out.1).mono ?_)
           rintro e w4 ⟨rfl, hb4⟩
           have hB4 := below_step hB3 hb4
           have hI4 := hI3.below hb4
           have hK4 := hK3.trans (KeepBut.of_below hb4 g none) (.inl rfl)
           have hX4 := hX3.below hb4
           have u4 := hX4.c1
           have v4 := hX4.c2
           have p4 := hX4.c3
           have o4 := hX4.c0
           have k4 := hX4.c4
           have z4 := blk_frozen hI4.1 2
           have y4 := cellS122_2 hI4.1
           have hIS := hI4.set_2 true
           have hBS : Below w0.heap.size w0 (w4.setCell ⟨g, 2, none⟩ (.bool true)) := hB4.setCell hg _
           have hKS : KeepBut w (w4.setCell ⟨g, 2, none⟩ (.bool true)) g none := hK4.set_ 2 _
           have hXS := hX4.set (j := 2) hne (.bool true)
           go_wp2_with fail
           (with_reducible refine (text148 w0 _ g (n + 1) b true t1 hb0 hb1 hIS hBS).mono ?_)
           rintro e w8 ⟨rfl, hI8, hB8, hK8⟩
           have hX8 := hXS.keep hK8 hne
           have hle := txt_le (bad := true) (t := t1) hb0 hb1
           obtain ⟨r1, er1⟩ : ∃ r, txt b true t1 = r := ⟨_, rfl⟩
           rw [er1] at hI8 hle
           have Er1 := Lib.hid er1
           clear er1
           have p8 := hX8.c3
           go_wp2
           go_loopw [6] (fun u6 wr => ∃ (j : Nat) (bj : Int) (kj : Bool), u6 = .int .i64 j ∧ j ≤ vs.length ∧ IsS122 w0 wr g (n + 1) bj kj ∧ BoxM wr w.heap.size 4 t1 t2 (.slice A3 vs.length c3) (.slice A4 ks.length c4) ∧ Below w0.heap.size w0 wr ∧ KeepBut w wr g none ∧ kj = true ∧ 0 ≤ bj ∧ bj ≤ 4096 ∧ Hid (kj = true → chk d ⟨4, t1, t2, vs, ks⟩ (64 - n) (4096 - b) = false) ∧ Hid (kj = false → bj = b + t1.size + sizes (vs.take j)))
            (fun u6 _ => vs.length - (intOf u6).toNat)
           case atStart =>
            refine ⟨0, r1.1, r1.2, rfl, Nat.zero_le _, hI8, hX8, hB8, hKS.trans hK8 (.inl rfl), by rw [← Er1.out]; exact txt_bad, hle.1, hle.2, Lib.hid (fun _ => hc), Lib.hid (fun hk => ?_)⟩
            rw [← Er1.out, txt_bad] at hk; cases hk
           case round =>
            clear p8 hI8 hX8 hB8 hK8 hIS hBS hKS hXS
            obtain ⟨j, bj, kj, rfl, hj, hIr, hXr, hBr, hKr, hkj, hbj0, hbj1, hkt, hkf⟩ := hrel
            have pr := hXr.c3
            have yr := cellS122_2 hIr.1
            have hlen := hM.2.1.2.1
            cases kj with
            | true =>
             have hc' := hkt.out rfl
             have Hc := Lib.hid hc'
             clear hc' hkt hkf
             by_cases hlt : j < vs.length
             ·go_wp2
              first | go_end0 | ((try simp only [Exit.inBlock, Exit.then]); refine bodyPost_ret (results_none rfl _ _ _) rfl ?_)
              exact LookPost.no Hc.out hBr hKr hIr
             ·go_wp2
              first | go_end0 | ((try simp only [Exit.inBlock, Exit.then]); refine bodyPost_ret (results_none rfl _ _ _) rfl ?_)
              exact LookPost.no Hc.out hBr hKr hIr
            | false =>
             cases hkj
          | true =>
           have Hname := Lib.hid hv
           clear hv
           cases hv : valuesB vs with
           | false =>
            have hc : chk d ⟨4, t1, t2, vs, ks⟩ (64 - n) (4096 - b) = false := not_alone (by rw [Hal.out, Hbare.out, Hname.out, hv]; rfl)
            have Hvals := Lib.hid hv
            clear hv
            go_enter Try.func99, Try.ntmps99
            go_wp2_with fail
            (with_reducible refine (bare147 _ ⟨4, t1, t2, vs, ks⟩ A3 c3 A4 c4 false true false true Hbare.out (hM.below hB2)).mono ?_)
            rintro e w3 ⟨rfl, hb3⟩
            have hB3 := below_step hB2 hb3
            have hI3 := hI2.below hb3
            have hK3 := hK2.trans (KeepBut.of_below hb3 g none) (.inl rfl)
            have hX3 := hX2.below hb3
            have u3 := hX3.c1
            have v3 := hX3.c2
            have p3 := hX3.c3
            have o3 := hX3.c0
            have k3 := hX3.c4
            have z3 := blk_frozen hI3.1 2
            have y3 := cellS122_2 hI3.1
            go_wp2_with fail
            (with_reducible refine (name64 _ t1 true Hname.out Hbound.out.1).mono ?_)
            rintro e w4 ⟨rfl, hb4⟩
            have hB4 := below_step hB3 hb4
            have hI4 := hI3.below hb4
            have hK4 := hK3.trans (KeepBut.of_below hb4 g none) (.inl rfl)
            have hX4 := hX3.below hb4
            have u4 := hX4.c1
            have v4 := hX4.c2
            have p4 := hX4.c3
            have o4 := hX4.c0
            have k4 := hX4.c4
            have z4 := blk_frozen hI4.1 2
            have y4 := cellS122_2 hI4.1
            go_wp2_with fail
            (with_reducible refine (values149m w0 _ ⟨4, t1, t2, vs, ks⟩ A3 c3 A4 c4 false Hvals.out hM hB4).mono ?_)
            rintro e w5 ⟨rfl, hb5⟩
            have hB5 := below_step hB4 hb5
            have hI5 := hI4.below hb5
            have hK5 := hK4.trans (KeepBut.of_below hb5 g none) (.inl rfl)
            have hX5 := hX4.below hb5
            have u5 := hX5.c1
            have v5 := hX5.c2
            have p5 := hX5.c3
            have o5 := hX5.c0
            have k5 := hX5.c4
            have z5 := blk_frozen hI5.1 2
            have y5 := cellS122_2 hI5.1
            have hIS := hI5.set_2 true
            have hBS : Below w0.heap.size w0 (w5.setCell ⟨g, 2, none⟩ (.bool true)) := hB5.setCell hg _
            have hKS : KeepBut w (w5.setCell ⟨g, 2, none⟩ (.bool true)) g none := hK5.set_ 2 _
            have hXS := hX5.set (j := 2) hne (.bool true)
            go_wp2_with fail
            (with_reducible refine (text148 w0 _ g (n + 1) b true t1 hb0 hb1 hIS hBS).mono ?_)
            rintro e w8 ⟨rfl, hI8, hB8, hK8⟩
            have hX8 := hXS.keep hK8 hne
            have hle := txt_le (bad := true) (t := t1) hb0 hb1
            obtain ⟨r1, er1⟩ : ∃ r, txt b true t1 = r := ⟨_, rfl⟩
            rw [er1] at hI8 hle
            have Er1 := Lib.hid er1
            clear er1
            have p8 := hX8.c3
            go_wp2
            go_loopw [6] (fun u6 wr => ∃ (j : Nat) (bj : Int) (kj : Bool), u6 = .int .i64 j ∧ j ≤ vs.length ∧ IsS122 w0 wr g (n + 1) bj kj ∧ BoxM wr w.heap.size 4 t1 t2 (.slice A3 vs.length c3) (.slice A4 ks.length c4) ∧ Below w0.heap.size w0 wr ∧ KeepBut w wr g none ∧ kj = true ∧ 0 ≤ bj ∧ bj ≤ 4096 ∧ Hid (kj = true → chk d ⟨4, t1, t2, vs, ks⟩ (64 - n) (4096 - b) = false) ∧ Hid (kj = false → bj = b + t1.size + sizes (vs.take j)))
             (fun u6 _ => vs.length - (intOf u6).toNat)
            case atStart =>
             refine ⟨0, r1.1, r1.2, rfl, Nat.zero_le _, hI8, hX8, hB8, hKS.trans hK8 (.inl rfl), by rw [← Er1.out]; exact txt_bad, hle.1, hle.2, Lib.hid (fun _ => hc), Lib.hid (fun hk => ?_)⟩
             rw [← Er1.out, txt_bad] at hk; cases hk
            case round =>
             clear p8 hI8 hX8 hB8 hK8 hIS hBS hKS hXS
             obtain ⟨j, bj, kj, rfl, hj, hIr, hXr, hBr, hKr, hkj, hbj0, hbj1, hkt, hkf⟩ := hrel
             have pr := hXr.c3
             have yr := cellS122_2 hIr.1
             have hlen := hM.2.1.2.1
             cases kj with
             | true =>
              have hc' := hkt.out rfl
              have Hc := Lib.hid hc'
              clear hc' hkt hkf
              by_cases hlt : j < vs.length
              ·go_wp2
               first | go_end0 | ((try simp only [Exit.inBlock, Exit.then]); refine bodyPost_ret (results_none rfl _ _ _) rfl ?_)
               exact LookPost.no Hc.out hBr hKr hIr
              ·go_wp2
               first | go_end0 | ((try simp only [Exit.inBlock, Exit.then]); refine bodyPost_ret (results_none rfl _ _ _) rfl ?_)
               exact LookPost.no Hc.out hBr hKr hIr
             | false =>
              cases hkj
           | true =>
            have hks : ks = [] := by
             have h' := of_decide_eq_true (show decide _ = true from Hbare.out)
             rcases h'.2.2.2 with h | h
             ·cases h
             ·exact List.eq_nil_of_length_eq_zero h
            have ht2 : t2.size = 0 := by
             have h' := of_decide_eq_true (show decide _ = true from Hbare.out)
             rcases h'.1 with h | h
             ·cases h
             ·exact size0 h
            have Hchk := Lib.hid (show chk d ⟨4, t1, t2, vs, ks⟩ (64 - n) (4096 - b) = decide ((t1.size + sizes vs : Int) ≤ 4096 - b) from by
             have ha : aloneB ⟨4, t1, t2, vs, ks⟩ = true := by rw [Hal.out, Hbare.out, Hname.out, hv]; rfl
             rw [hks] at ha ⊢
             rw [chk_leaf (by omega) (by omega), ha, Bool.true_and, decide_eq_decide]
             omega)
            have Hnod := Lib.hid (show nodesM ⟨4, t1, t2, vs, ks⟩ = 1 from by rw [hks]; simp [nodesM, nodesL])
            have Hbyt := Lib.hid (show bytesM ⟨4, t1, t2, vs, ks⟩ = t1.size + sizes vs from by rw [hks]; simp [bytesM, bytesL, ht2])
            have Hvals := Lib.hid hv
            clear hv hks ht2
            go_enter Try.func99, Try.ntmps99
            go_wp2_with fail
            (with_reducible refine (bare147 _ ⟨4, t1, t2, vs, ks⟩ A3 c3 A4 c4 false true false true Hbare.out (hM.below hB2)).mono ?_)
            rintro e w3 ⟨rfl, hb3⟩
            have hB3 := below_step hB2 hb3
            have hI3 := hI2.below hb3
            have hK3 := hK2.trans (KeepBut.of_below hb3 g none) (.inl rfl)
            have hX3 := hX2.below hb3
            have u3 := hX3.c1
            have v3 := hX3.c2
            have p3 := hX3.c3
            have o3 := hX3.c0
            have k3 := hX3.c4
            have z3 := blk_frozen hI3.1 2
            have y3 := cellS122_2 hI3.1
            go_wp2_with fail
            (with_reducible refine (name64 _ t1 true Hname.out Hbound.out.1).mono ?_)
            rintro e w4 ⟨rfl, hb4⟩
            have hB4 := below_step hB3 hb4
            have hI4 := hI3.below hb4
            have hK4 := hK3.trans (KeepBut.of_below hb4 g none) (.inl rfl)
            have hX4 := hX3.below hb4
            have u4 := hX4.c1
            have v4 := hX4.c2
            have p4 := hX4.c3
            have o4 := hX4.c0
            have k4 := hX4.c4
            have z4 := blk_frozen hI4.1 2
            have y4 := cellS122_2 hI4.1
            go_wp2_with fail
            (with_reducible refine (values149m w0 _ ⟨4, t1, t2, vs, ks⟩ A3 c3 A4 c4 true Hvals.out hM hB4).mono ?_)
            rintro e w5 ⟨rfl, hb5⟩
            have hB5 := below_step hB4 hb5
            have hI5 := hI4.below hb5
            have hK5 := hK4.trans (KeepBut.of_below hb5 g none) (.inl rfl)
            have hX5 := hX4.below hb5
            have u5 := hX5.c1
            have v5 := hX5.c2
            have p5 := hX5.c3
            have o5 := hX5.c0
            have k5 := hX5.c4
            have z5 := blk_frozen hI5.1 2
            have y5 := cellS122_2 hI5.1
            have hIS := hI5.set_2 false
            have hBS : Below w0.heap.size w0 (w5.setCell ⟨g, 2, none⟩ (.bool false)) := hB5.setCell hg _
            have hKS : KeepBut w (w5.setCell ⟨g, 2, none⟩ (.bool false)) g none := hK5.set_ 2 _
            have hXS := hX5.set (j := 2) hne (.bool false)
            go_wp2_with fail
            (with_reducible refine (text148 w0 _ g (n + 1) b false t1 hb0 hb1 hIS hBS).mono ?_)
            rintro e w8 ⟨rfl, hI8, hB8, hK8⟩
            have hX8 := hXS.keep hK8 hne
            have hle := txt_le (bad := false) (t := t1) hb0 hb1
            obtain ⟨r1, er1⟩ : ∃ r, txt b false t1 = r := ⟨_, rfl⟩
            rw [er1] at hI8 hle
            have Er1 := Lib.hid er1
            clear er1
            have p8 := hX8.c3
            go_wp2
            go_loopw [6] (fun u6 wr => ∃ (j : Nat) (bj : Int) (kj : Bool), u6 = .int .i64 j ∧ j ≤ vs.length ∧ IsS122 w0 wr g (n + 1) bj kj ∧ BoxM wr w.heap.size 4 t1 t2 (.slice A3 vs.length c3) (.slice A4 ks.length c4) ∧ Below w0.heap.size w0 wr ∧ KeepBut w wr g none ∧ 0 ≤ bj ∧ bj ≤ 4096 ∧ Hid (kj = true → chk d ⟨4, t1, t2, vs, ks⟩ (64 - n) (4096 - b) = false) ∧ Hid (kj = false → bj = b + t1.size + sizes (vs.take j)))
             (fun u6 _ => vs.length - (intOf u6).toNat)
            case atStart =>
             refine ⟨0, r1.1, r1.2, rfl, Nat.zero_le _, hI8, hX8, hB8, hKS.trans hK8 (.inl rfl), hle.1, hle.2, Lib.hid ?_, Lib.hid ?_⟩
             ·intro hk
              by_cases h1 : (t1.size : Int) ≤ 4096 - b
              ·rw [← Er1.out, txt_ok h1] at hk; cases hk
              ·rw [Hchk.out]; exact decide_eq_false (by omega)
             ·intro hk
              by_cases h1 : (t1.size : Int) ≤ 4096 - b
              ·rw [← Er1.out, txt_ok h1]; simp [sizes]
              ·rw [← Er1.out, txt_no h1] at hk; cases hk
            case round =>
             clear p8 hI8 hX8 hB8 hK8 hIS hBS hKS hXS
             obtain ⟨j, bj, kj, rfl, hj, hIr, hXr, hBr, hKr, hbj0, hbj1, hkt, hkf⟩ := hrel
             have pr := hXr.c3
             have yr := cellS122_2 hIr.1
             have hlen := hM.2.1.2.1
             cases kj with
             | true =>
              have hc' := hkt.out rfl
              have Hc := Lib.hid hc'
              clear hc' hkt hkf
              by_cases hlt : j < vs.length
              ·go_wp2
               first | go_end0 | ((try simp only [Exit.inBlock, Exit.then]); refine bodyPost_ret (results_none rfl _ _ _) rfl ?_)
               exact LookPost.no Hc.out hBr hKr hIr
              ·go_wp2
               first | go_end0 | ((try simp only [Exit.inBlock, Exit.then]); refine bodyPost_ret (results_none rfl _ _ _) rfl ?_)
               exact LookPost.no Hc.out hBr hKr hIr
             | false =>
              have hbe := hkf.out rfl
              have Hbe := Lib.hid hbe
              clear hbe hkt hkf
              by_cases hlt : j < vs.length
              ·obtain ⟨ad, rfl, hcell⟩ := hM.value j hlt
               have hcell := pw_cell_below hBr hcell
               have Hsp := Lib.hid (sizes_split vs j hlt)
               have Hmono := Lib.hid (sizes_take_le vs (j + 1))
               simp only at hcell
               obtain ⟨v, ev⟩ : ∃ v, vs.getD j ByteArray.empty = v := ⟨_, rfl⟩
               rw [ev] at hcell Hsp
               clear ev
               go_wp2_with fail
               (with_reducible refine (text148 w0 _ g (n + 1) bj false v hbj0 hbj1 hIr hBr).mono ?_)
               rintro e w9 ⟨rfl, hI9, hB9, hK9⟩
               have hX9 := hXr.keep hK9 hne
               have hle9 := txt_le (bad := false) (t := v) hbj0 hbj1
               go_wp2_with fail
               go_roundw
               case rel =>
                refine ⟨j + 1, _, _, by go_num, by omega, hI9, hX9, hB9, hKr.trans hK9 (.inl rfl), hle9.1, hle9.2, Lib.hid ?_, Lib.hid ?_⟩
                ·intro hk
                 by_cases h1 : (v.size : Int) ≤ 4096 - bj
                 ·rw [txt_ok h1] at hk; cases hk
                 ·rw [Hchk.out]
                  have h2 := Hsp.out
                  have h3 := Hmono.out
                  have h4 := Hbe.out
                  exact decide_eq_false (by omega)
                ·intro hk
                 by_cases h1 : (v.size : Int) ≤ 4096 - bj
                 ·rw [txt_ok h1, Hsp.out, Hbe.out]; simp only; omega
                 ·rw [txt_no h1] at hk; cases hk
               case measure => simp [intOf]; omega
              ·obtain rfl : j = vs.length := by omega
               have hfin : chk d ⟨4, t1, t2, vs, ks⟩ (64 - n) (4096 - b) = true := by
                have h4 := Hbe.out
                rw [List.take_length] at h4
                rw [Hchk.out]; exact decide_eq_true (by omega)
               have Hfin := Lib.hid hfin
               clear hfin
               go_wp2
               first | go_end0 | ((try simp only [Exit.inBlock, Exit.then]); refine bodyPost_ret (results_none rfl _ _ _) rfl ?_)
               exact LookPost.yes Hfin.out hBr hKr hIr (by rw [Hnod.out]; rfl) (by rw [Hbe.out, Hbyt.out, List.take_length]; omega)
        ·by_cases e5 : op = 5
         ·subst e5
          have Hal := Lib.hid (alone_56 5 (by omega) t1 t2 vs ks)
          have Hnod := Lib.hid (show nodesM ⟨5, t1, t2, vs, ks⟩ = 1 + nodesL ks from nodesM_mk _)
          cases hv : bareB ⟨5, t1, t2, vs, ks⟩ false false true with
          | false =>
           have hc : chk d ⟨5, t1, t2, vs, ks⟩ (64 - n) (4096 - b) = false := not_alone (by rw [Hal.out, hv])
           have Hbare := Lib.hid hv
           clear hv
           go_enter Try.func99, Try.ntmps99
           go_wp2_with fail
           (with_reducible refine (bare147 _ ⟨5, t1, t2, vs, ks⟩ A3 c3 A4 c4 false false true false Hbare.out (hM.below hB2)).mono ?_)
           rintro e w3 ⟨rfl, hb3⟩
           have hB3 := below_step hB2 hb3
           have hI3 := hI2.below hb3
           have hK3 := hK2.trans (KeepBut.of_below hb3 g none) (.inl rfl)
           have hX3 := hX2.below hb3
           have u3 := hX3.c1
           have v3 := hX3.c2
           have p3 := hX3.c3
           have o3 := hX3.c0
           have k3 := hX3.c4
           have z3 := blk_frozen hI3.1 2
           have y3 := cellS122_2 hI3.1
           have hIS := hI3.set_2 true
           have hBS : Below w0.heap.size w0 (w3.setCell ⟨g, 2, none⟩ (.bool true)) := hB3.setCell hg _
           have hKS : KeepBut w (w3.setCell ⟨g, 2, none⟩ (.bool true)) g none := hK3.set_ 2 _
           have hXS := hX3.set (j := 2) hne (.bool true)
           go_wp2
           go_loopw [7] (fun u7 wr => ∃ (j : Nat) (nj bj : Int) (kj : Bool), u7 = .int .i64 j ∧ j ≤ ks.length ∧ IsS122 w0 wr g nj bj kj ∧ BoxM wr w.heap.size 5 t1 t2 (.slice A3 vs.length c3) (.slice A4 ks.length c4) ∧ Below w0.heap.size w0 wr ∧ KeepBut w wr g none ∧ kj = true ∧ Hid (kj = true → chk d ⟨5, t1, t2, vs, ks⟩ (64 - n) (4096 - b) = false) ∧ Hid (kj = false → 0 ≤ nj ∧ nj ≤ 64 ∧ 0 ≤ bj ∧ bj ≤ 4096 ∧ nj = n + 1 + nodesL (ks.take j) ∧ bj = b + bytesL (ks.take j) ∧ chk d ⟨5, t1, t2, vs, ks⟩ (64 - n) (4096 - b) = chkL (d + 1) (ks.drop j) (64 - nj) (4096 - bj)))
            (fun u7 _ => ks.length - (intOf u7).toNat)
           case atStart => exact ⟨0, n + 1, b, true, rfl, Nat.zero_le _, hIS, hXS, hBS, hKS, rfl, Lib.hid (fun _ => hc), Lib.hid (fun h => by cases h)⟩
           case round =>
            clear hIS hBS hKS hXS
            obtain ⟨j, nj, bj, kj, rfl, hj, hIr, hXr, hBr, hKr, hkj, hkt, hkf⟩ := hrel
            have pr := hXr.c4
            have yr := cellS122_2 hIr.1
            have hlen := hM.2.2.2.2.1
            cases kj with
            | true =>
             have Hc := Lib.hid (hkt.out rfl)
             clear hkt hkf
             by_cases hlt : j < ks.length
             ·go_wp2
              first | go_end0 | ((try simp only [Exit.inBlock, Exit.then]); refine bodyPost_ret (results_none rfl _ _ _) rfl ?_)
              exact LookPost.no Hc.out hBr hKr hIr
             ·go_wp2
              first | go_end0 | ((try simp only [Exit.inBlock, Exit.then]); refine bodyPost_ret (results_none rfl _ _ _) rfl ?_)
              exact LookPost.no Hc.out hBr hKr hIr
            | false =>
             cases hkj
          | true =>
           obtain ⟨s1, s2, s3⟩ := plain_own hv
           have Hbyt := Lib.hid (show bytesM ⟨5, t1, t2, vs, ks⟩ = bytesL ks from by rw [bytesM_mk]; simp [s1, s2, s3, sizes])
           have Hstart := Lib.hid (show chk d ⟨5, t1, t2, vs, ks⟩ (64 - n) (4096 - b) = chkL (d + 1) ks (64 - (n + 1)) (4096 - b) from by
            rw [Bool.eq_iff_iff, chk_iff]
            simp only [s1, s2, s3, sizes, Int.natCast_zero, Int.add_zero, Int.sub_zero, show (64 - n - 1 : Int) = 64 - (n + 1) by omega]
            constructor
            ·exact fun h => h.2.2.2.2
            ·exact fun h => ⟨by omega, by omega, by rw [s3] at Hal; rw [Hal.out]; rw [← s3, hv], by omega, h⟩)
           have Hbare := Lib.hid hv
           clear hv s1 s2 s3
           go_enter Try.func99, Try.ntmps99
           go_wp2_with fail
           (with_reducible refine (bare147 _ ⟨5, t1, t2, vs, ks⟩ A3 c3 A4 c4 false false true true Hbare.out (hM.below hB2)).mono ?_)
           rintro e w3 ⟨rfl, hb3⟩
           have hB3 := below_step hB2 hb3
           have hI3 := hI2.below hb3
           have hK3 := hK2.trans (KeepBut.of_below hb3 g none) (.inl rfl)
           have hX3 := hX2.below hb3
           have u3 := hX3.c1
           have v3 := hX3.c2
           have p3 := hX3.c3
           have o3 := hX3.c0
           have k3 := hX3.c4
           have z3 := blk_frozen hI3.1 2
           have y3 := cellS122_2 hI3.1
           have hIS := hI3.set_2 false
           have hBS : Below w0.heap.size w0 (w3.setCell ⟨g, 2, none⟩ (.bool false)) := hB3.setCell hg _
           have hKS : KeepBut w (w3.setCell ⟨g, 2, none⟩ (.bool false)) g none := hK3.set_ 2 _
           have hXS := hX3.set (j := 2) hne (.bool false)
           go_wp2
           go_loopw [7] (fun u7 wr => ∃ (j : Nat) (nj bj : Int) (kj : Bool), u7 = .int .i64 j ∧ j ≤ ks.length ∧ IsS122 w0 wr g nj bj kj ∧ BoxM wr w.heap.size 5 t1 t2 (.slice A3 vs.length c3) (.slice A4 ks.length c4) ∧ Below w0.heap.size w0 wr ∧ KeepBut w wr g none ∧ Hid (kj = true → chk d ⟨5, t1, t2, vs, ks⟩ (64 - n) (4096 - b) = false) ∧ Hid (kj = false → 0 ≤ nj ∧ nj ≤ 64 ∧ 0 ≤ bj ∧ bj ≤ 4096 ∧ nj = n + 1 + nodesL (ks.take j) ∧ bj = b + bytesL (ks.take j) ∧ chk d ⟨5, t1, t2, vs, ks⟩ (64 - n) (4096 - b) = chkL (d + 1) (ks.drop j) (64 - nj) (4096 - bj)))
            (fun u7 _ => ks.length - (intOf u7).toNat)
           case atStart => exact ⟨0, n + 1, b, false, rfl, Nat.zero_le _, hIS, hXS, hBS, hKS, Lib.hid (fun h => by cases h), Lib.hid (fun _ => ⟨by omega, by omega, hb0, hb1, by simp [nodesL], by simp [bytesL], by rw [List.drop_zero]; exact Hstart.out⟩)⟩
           case round =>
            clear hIS hBS hKS hXS
            obtain ⟨j, nj, bj, kj, rfl, hj, hIr, hXr, hBr, hKr, hkt, hkf⟩ := hrel
            have pr := hXr.c4
            have yr := cellS122_2 hIr.1
            have hlen := hM.2.2.2.2.1
            cases kj with
            | true =>
             have Hc := Lib.hid (hkt.out rfl)
             clear hkt hkf
             by_cases hlt : j < ks.length
             ·go_wp2
              first | go_end0 | ((try simp only [Exit.inBlock, Exit.then]); refine bodyPost_ret (results_none rfl _ _ _) rfl ?_)
              exact LookPost.no Hc.out hBr hKr hIr
             ·go_wp2
              first | go_end0 | ((try simp only [Exit.inBlock, Exit.then]); refine bodyPost_ret (results_none rfl _ _ _) rfl ?_)
              exact LookPost.no Hc.out hBr hKr hIr
            | false =>
             obtain ⟨hn0', hn1', hb0', hb1', hne', hbe', hce⟩ := hkf.out rfl
             have Hne := Lib.hid hne'
             have Hbe := Lib.hid hbe'
             have Hce := Lib.hid hce
             clear hkt hkf hne' hbe' hce
             by_cases hlt : j < ks.length
             ·obtain ⟨ad, B3, e3, B4, e4, rfl, hMk, k0, k1, k2, k3, k4⟩ := hM.kid j hlt
              simp only at k0 k1 k2 k3 k4 hMk
              have k0 := pw_cell_below hBr k0
              have k1 := pw_cell_below hBr k1
              have k2 := pw_cell_below hBr k2
              have k3 := pw_cell_below hBr k3
              have k4 := pw_cell_below hBr k4
              have hmem : ks.getD j z25 ∈ ks := by simp [List.getD_eq_getElem?_getD, hlt]
              have hsmall := nodes_lt ⟨5, t1, t2, vs, ks⟩ _ hmem
              have Hbk := Lib.hid (boundL_at Hbound.out.2.2.2 hlt)
              have Hdrop := Lib.hid (chkL_drop (d + 1) ks j hlt (64 - nj) (4096 - bj))
              have Hn4 := Lib.hid (nodesL_split ks j hlt)
              have Hb4 := Lib.hid (bytesL_split ks j hlt)
              obtain ⟨kid, ek⟩ : ∃ kid, ks.getD j z25 = kid := ⟨_, rfl⟩
              rw [ek] at hMk k0 k1 k2 k3 k4 hsmall Hdrop Hn4 Hb4 Hbk
              clear ek hmem
              go_wp2_with fail
              (with_reducible refine (IH.out kid (by omega) Hbk.out (d + 1) nj bj B3 e3 B4 e4 g w0 _ (by omega) (by omega) (by omega) (by omega) (by omega) (by omega) hMk hBr hIr).mono ?_)
              rintro e w5 ⟨rfl, hB5, hK5, n5, b5, hI5, hyes⟩
              have hX5 := hXr.keep hK5 hne
              obtain ⟨kc, ekc⟩ : ∃ kc, chk (d + 1) kid (64 - nj) (4096 - bj) = kc := ⟨_, rfl⟩
              rw [ekc] at hI5 hyes
              have Ekc := Lib.hid ekc
              have Hyes := Lib.hid hyes
              clear ekc hyes k0 k1 k2 k3 k4
              go_wp2_with fail
              go_roundw
              case rel =>
               refine ⟨j + 1, n5, b5, !kc, by go_num, by omega, hI5, hX5, hB5, hKr.trans hK5 (.inl rfl), Lib.hid ?_, Lib.hid ?_⟩
               ·intro hk
                rw [Hce.out, ← Bool.not_eq_true, Hdrop.out, Ekc.out]
                rintro ⟨h, _⟩
                rw [h] at hk; cases hk
               ·intro hk
                have hkc : kc = true := by cases kc; cases hk; rfl
                obtain ⟨h1, h2⟩ := Hyes.out hkc
                have hd := chk_def.1 (Ekc.out.trans hkc)
                refine ⟨by omega, by omega, by omega, by omega, by rw [h1, Hne.out, Hn4.out]; omega, by rw [h2, Hbe.out, Hb4.out]; omega, ?_⟩
                rw [Hce.out, Bool.eq_iff_iff, Hdrop.out, h1, h2, show 64 - nj - (nodesM kid : Int) = 64 - (nj + nodesM kid) by omega, show 4096 - bj - (bytesM kid : Int) = 4096 - (bj + bytesM kid) by omega]
                exact ⟨fun h => h.2, fun h => ⟨Ekc.out.trans hkc, h⟩⟩
              case measure => simp [intOf]; omega
             ·obtain rfl : j = ks.length := by omega
              have Hfin := Lib.hid (show chk d ⟨5, t1, t2, vs, ks⟩ (64 - n) (4096 - b) = true from by
               rw [Hce.out, List.drop_length, chkL_nil]; omega)
              have hres : LookPost w0 w g d ⟨5, t1, t2, vs, ks⟩ n b (.returned (.tuple #[])) wr := LookPost.yes Hfin.out hBr hKr hIr (by rw [Hne.out, Hnod.out, List.take_length]; omega) (by rw [Hbe.out, Hbyt.out, List.take_length])
              clear Hfin
              go_wp2
              first | go_end0 | ((try simp only [Exit.inBlock, Exit.then]); refine bodyPost_ret (results_none rfl _ _ _) rfl ?_)
              exact hres
         ·by_cases e6 : op = 6
          ·subst e6
           have Hal := Lib.hid (alone_56 6 (by omega) t1 t2 vs ks)
           have Hnod := Lib.hid (show nodesM ⟨6, t1, t2, vs, ks⟩ = 1 + nodesL ks from nodesM_mk _)
           cases hv : bareB ⟨6, t1, t2, vs, ks⟩ false false true with
           | false =>
            have hc : chk d ⟨6, t1, t2, vs, ks⟩ (64 - n) (4096 - b) = false := not_alone (by rw [Hal.out, hv])
            have Hbare := Lib.hid hv
            clear hv
            go_enter Try.func99, Try.ntmps99
            go_wp2_with fail
            (with_reducible refine (bare147 _ ⟨6, t1, t2, vs, ks⟩ A3 c3 A4 c4 false false true false Hbare.out (hM.below hB2)).mono ?_)
            rintro e w3 ⟨rfl, hb3⟩
            have hB3 := below_step hB2 hb3
            have hI3 := hI2.below hb3
            have hK3 := hK2.trans (KeepBut.of_below hb3 g none) (.inl rfl)
            have hX3 := hX2.below hb3
            have u3 := hX3.c1
            have v3 := hX3.c2
            have p3 := hX3.c3
            have o3 := hX3.c0
            have k3 := hX3.c4
            have z3 := blk_frozen hI3.1 2
            have y3 := cellS122_2 hI3.1
            have hIS := hI3.set_2 true
            have hBS : Below w0.heap.size w0 (w3.setCell ⟨g, 2, none⟩ (.bool true)) := hB3.setCell hg _
            have hKS : KeepBut w (w3.setCell ⟨g, 2, none⟩ (.bool true)) g none := hK3.set_ 2 _
            have hXS := hX3.set (j := 2) hne (.bool true)
            go_wp2
            go_loopw [7] (fun u7 wr => ∃ (j : Nat) (nj bj : Int) (kj : Bool), u7 = .int .i64 j ∧ j ≤ ks.length ∧ IsS122 w0 wr g nj bj kj ∧ BoxM wr w.heap.size 6 t1 t2 (.slice A3 vs.length c3) (.slice A4 ks.length c4) ∧ Below w0.heap.size w0 wr ∧ KeepBut w wr g none ∧ kj = true ∧ Hid (kj = true → chk d ⟨6, t1, t2, vs, ks⟩ (64 - n) (4096 - b) = false) ∧ Hid (kj = false → 0 ≤ nj ∧ nj ≤ 64 ∧ 0 ≤ bj ∧ bj ≤ 4096 ∧ nj = n + 1 + nodesL (ks.take j) ∧ bj = b + bytesL (ks.take j) ∧ chk d ⟨6, t1, t2, vs, ks⟩ (64 - n) (4096 - b) = chkL (d + 1) (ks.drop j) (64 - nj) (4096 - bj)))
             (fun u7 _ => ks.length - (intOf u7).toNat)
            case atStart => exact ⟨0, n + 1, b, true, rfl, Nat.zero_le _, hIS, hXS, hBS, hKS, rfl, Lib.hid (fun _ => hc), Lib.hid (fun h => by cases h)⟩
            case round =>
             clear hIS hBS hKS hXS
             obtain ⟨j, nj, bj, kj, rfl, hj, hIr, hXr, hBr, hKr, hkj, hkt, hkf⟩ := hrel
             have pr := hXr.c4
             have yr := cellS122_2 hIr.1
             have hlen := hM.2.2.2.2.1
             cases kj with
             | true =>
              have Hc := Lib.hid (hkt.out rfl)
              clear hkt hkf
              by_cases hlt : j < ks.length
              ·go_wp2
               first | go_end0 | ((try simp only [Exit.inBlock, Exit.then]); refine bodyPost_ret (results_none rfl _ _ _) rfl ?_)
               exact LookPost.no Hc.out hBr hKr hIr
              ·go_wp2
               first | go_end0 | ((try simp only [Exit.inBlock, Exit.then]); refine bodyPost_ret (results_none rfl _ _ _) rfl ?_)
               exact LookPost.no Hc.out hBr hKr hIr
             | false =>
              cases hkj
           | true =>
            obtain ⟨s1, s2, s3⟩ := plain_own hv
            have Hbyt := Lib.hid (show bytesM ⟨6, t1, t2, vs, ks⟩ = bytesL ks from by rw [bytesM_mk]; simp [s1, s2, s3, sizes])
            have Hstart := Lib.hid (show chk d ⟨6, t1, t2, vs, ks⟩ (64 - n) (4096 - b) = chkL (d + 1) ks (64 - (n + 1)) (4096 - b) from by
             rw [Bool.eq_iff_iff, chk_iff]
             simp only [s1, s2, s3, sizes, Int.natCast_zero, Int.add_zero, Int.sub_zero, show (64 - n - 1 : Int) = 64 - (n + 1) by omega]
             constructor
             ·exact fun h => h.2.2.2.2
             ·exact fun h => ⟨by omega, by omega, by rw [s3] at Hal; rw [Hal.out]; rw [← s3, hv], by omega, h⟩)
            have Hbare := Lib.hid hv
            clear hv s1 s2 s3
            go_enter Try.func99, Try.ntmps99
            go_wp2_with fail
            (with_reducible refine (bare147 _ ⟨6, t1, t2, vs, ks⟩ A3 c3 A4 c4 false false true true Hbare.out (hM.below hB2)).mono ?_)
            rintro e w3 ⟨rfl, hb3⟩
            have hB3 := below_step hB2 hb3
            have hI3 := hI2.below hb3
            have hK3 := hK2.trans (KeepBut.of_below hb3 g none) (.inl rfl)
            have hX3 := hX2.below hb3
            have u3 := hX3.c1
            have v3 := hX3.c2
            have p3 := hX3.c3
            have o3 := hX3.c0
            have k3 := hX3.c4
            have z3 := blk_frozen hI3.1 2
            have y3 := cellS122_2 hI3.1
            have hIS := hI3.set_2 false
            have hBS : Below w0.heap.size w0 (w3.setCell ⟨g, 2, none⟩ (.bool false)) := hB3.setCell hg _
            have hKS : KeepBut w (w3.setCell ⟨g, 2, none⟩ (.bool false)) g none := hK3.set_ 2 _
            have hXS := hX3.set (j := 2) hne (.bool false)
            go_wp2
            go_loopw [7] (fun u7 wr => ∃ (j : Nat) (nj bj : Int) (kj : Bool), u7 = .int .i64 j ∧ j ≤ ks.length ∧ IsS122 w0 wr g nj bj kj ∧ BoxM wr w.heap.size 6 t1 t2 (.slice A3 vs.length c3) (.slice A4 ks.length c4) ∧ Below w0.heap.size w0 wr ∧ KeepBut w wr g none ∧ Hid (kj = true → chk d ⟨6, t1, t2, vs, ks⟩ (64 - n) (4096 - b) = false) ∧ Hid (kj = false → 0 ≤ nj ∧ nj ≤ 64 ∧ 0 ≤ bj ∧ bj ≤ 4096 ∧ nj = n + 1 + nodesL (ks.take j) ∧ bj = b + bytesL (ks.take j) ∧ chk d ⟨6, t1, t2, vs, ks⟩ (64 - n) (4096 - b) = chkL (d + 1) (ks.drop j) (64 - nj) (4096 - bj)))
             (fun u7 _ => ks.length - (intOf u7).toNat)
            case atStart => exact ⟨0, n + 1, b, false, rfl, Nat.zero_le _, hIS, hXS, hBS, hKS, Lib.hid (fun h => by cases h), Lib.hid (fun _ => ⟨by omega, by omega, hb0, hb1, by simp [nodesL], by simp [bytesL], by rw [List.drop_zero]; exact Hstart.out⟩)⟩
            case round =>
             clear hIS hBS hKS hXS
             obtain ⟨j, nj, bj, kj, rfl, hj, hIr, hXr, hBr, hKr, hkt, hkf⟩ := hrel
             have pr := hXr.c4
             have yr := cellS122_2 hIr.1
             have hlen := hM.2.2.2.2.1
             cases kj with
             | true =>
              have Hc := Lib.hid (hkt.out rfl)
              clear hkt hkf
              by_cases hlt : j < ks.length
              ·go_wp2
               first | go_end0 | ((try simp only [Exit.inBlock, Exit.then]); refine bodyPost_ret (results_none rfl _ _ _) rfl ?_)
               exact LookPost.no Hc.out hBr hKr hIr
              ·go_wp2
               first | go_end0 | ((try simp only [Exit.inBlock, Exit.then]); refine bodyPost_ret (results_none rfl _ _ _) rfl ?_)
               exact LookPost.no Hc.out hBr hKr hIr
             | false =>
              obtain ⟨hn0', hn1', hb0', hb1', hne', hbe', hce⟩ := hkf.out rfl
              have Hne := Lib.hid hne'
              have Hbe := Lib.hid hbe'
              have Hce := Lib.hid hce
              clear hkt hkf hne' hbe' hce
              by_cases hlt : j < ks.length
              ·obtain ⟨ad, B3, e3, B4, e4, rfl, hMk, k0, k1, k2, k3, k4⟩ := hM.kid j hlt
               simp only at k0 k1 k2 k3 k4 hMk
               have k0 := pw_cell_below hBr k0
               have k1 := pw_cell_below hBr k1
               have k2 := pw_cell_below hBr k2
               have k3 := pw_cell_below hBr k3
               have k4 := pw_cell_below hBr k4
               have hmem : ks.getD j z25 ∈ ks := by simp [List.getD_eq_getElem?_getD, hlt]
               have hsmall := nodes_lt ⟨6, t1, t2, vs, ks⟩ _ hmem
               have Hbk := Lib.hid (boundL_at Hbound.out.2.2.2 hlt)
               have Hdrop := Lib.hid (chkL_drop (d + 1) ks j hlt (64 - nj) (4096 - bj))
               have Hn4 := Lib.hid (nodesL_split ks j hlt)
               have Hb4 := Lib.hid (bytesL_split ks j hlt)
               obtain ⟨kid, ek⟩ : ∃ kid, ks.getD j z25 = kid := ⟨_, rfl⟩
               rw [ek] at hMk k0 k1 k2 k3 k4 hsmall Hdrop Hn4 Hb4 Hbk
               clear ek hmem
               go_wp2_with fail
               (with_reducible refine (IH.out kid (by omega) Hbk.out (d + 1) nj bj B3 e3 B4 e4 g w0 _ (by omega) (by omega) (by omega) (by omega) (by omega) (by omega) hMk hBr hIr).mono ?_)
               rintro e w5 ⟨rfl, hB5, hK5, n5, b5, hI5, hyes⟩
               have hX5 := hXr.keep hK5 hne
               obtain ⟨kc, ekc⟩ : ∃ kc, chk (d + 1) kid (64 - nj) (4096 - bj) = kc := ⟨_, rfl⟩
               rw [ekc] at hI5 hyes
               have Ekc := Lib.hid ekc
               have Hyes := Lib.hid hyes
               clear ekc hyes k0 k1 k2 k3 k4
               go_wp2_with fail
               go_roundw
               case rel =>
                refine ⟨j + 1, n5, b5, !kc, by go_num, by omega, hI5, hX5, hB5, hKr.trans hK5 (.inl rfl), Lib.hid ?_, Lib.hid ?_⟩
                ·intro hk
                 rw [Hce.out, ← Bool.not_eq_true, Hdrop.out, Ekc.out]
                 rintro ⟨h, _⟩
                 rw [h] at hk; cases hk
                ·intro hk
                 have hkc : kc = true := by cases kc; cases hk; rfl
                 obtain ⟨h1, h2⟩ := Hyes.out hkc
                 have hd := chk_def.1 (Ekc.out.trans hkc)
                 refine ⟨by omega, by omega, by omega, by omega, by rw [h1, Hne.out, Hn4.out]; omega, by rw [h2, Hbe.out, Hb4.out]; omega, ?_⟩
                 rw [Hce.out, Bool.eq_iff_iff, Hdrop.out, h1, h2, show 64 - nj - (nodesM kid : Int) = 64 - (nj + nodesM kid) by omega, show 4096 - bj - (bytesM kid : Int) = 4096 - (bj + bytesM kid) by omega]
                 exact ⟨fun h => h.2, fun h => ⟨Ekc.out.trans hkc, h⟩⟩
               case measure => simp [intOf]; omega
              ·obtain rfl : j = ks.length := by omega
               have Hfin := Lib.hid (show chk d ⟨6, t1, t2, vs, ks⟩ (64 - n) (4096 - b) = true from by
                rw [Hce.out, List.drop_length, chkL_nil]; omega)
               have hres : LookPost w0 w g d ⟨6, t1, t2, vs, ks⟩ n b (.returned (.tuple #[])) wr := LookPost.yes Hfin.out hBr hKr hIr (by rw [Hne.out, Hnod.out, List.take_length]; omega) (by rw [Hbe.out, Hbyt.out, List.take_length])
               clear Hfin
               go_wp2
               first | go_end0 | ((try simp only [Exit.inBlock, Exit.then]); refine bodyPost_ret (results_none rfl _ _ _) rfl ?_)
               exact hres
          ·by_cases e7 : op = 7
           ·subst e7
            have Hal := Lib.hid (alone_7 t1 t2 vs ks)
            have Hnod := Lib.hid (show nodesM ⟨7, t1, t2, vs, ks⟩ = 1 + nodesL ks from nodesM_mk _)
            cases hv : bareB ⟨7, t1, t2, vs, ks⟩ false false true with
            | false =>
             have hc : chk d ⟨7, t1, t2, vs, ks⟩ (64 - n) (4096 - b) = false := not_alone (by rw [Hal.out, hv]; rfl)
             have Hbare := Lib.hid hv
             clear hv
             go_enter Try.func99, Try.ntmps99
             go_wp2_with fail
             (with_reducible refine (bare147 _ ⟨7, t1, t2, vs, ks⟩ A3 c3 A4 c4 false false true false Hbare.out (hM.below hB2)).mono ?_)
             rintro e w3 ⟨rfl, hb3⟩
             have hB3 := below_step hB2 hb3
             have hI3 := hI2.below hb3
             have hK3 := hK2.trans (KeepBut.of_below hb3 g none) (.inl rfl)
             have hX3 := hX2.below hb3
             have u3 := hX3.c1
             have v3 := hX3.c2
             have p3 := hX3.c3
             have o3 := hX3.c0
             have k3 := hX3.c4
             have z3 := blk_frozen hI3.1 2
             have y3 := cellS122_2 hI3.1
             have hIS := hI3.set_2 true
             have hBS : Below w0.heap.size w0 (w3.setCell ⟨g, 2, none⟩ (.bool true)) := hB3.setCell hg _
             have hKS : KeepBut w (w3.setCell ⟨g, 2, none⟩ (.bool true)) g none := hK3.set_ 2 _
             have hXS := hX3.set (j := 2) hne (.bool true)
             go_wp2
             go_loopw [7] (fun u7 wr => ∃ (j : Nat) (nj bj : Int) (kj : Bool), u7 = .int .i64 j ∧ j ≤ ks.length ∧ IsS122 w0 wr g nj bj kj ∧ BoxM wr w.heap.size 7 t1 t2 (.slice A3 vs.length c3) (.slice A4 ks.length c4) ∧ Below w0.heap.size w0 wr ∧ KeepBut w wr g none ∧ kj = true ∧ Hid (kj = true → chk d ⟨7, t1, t2, vs, ks⟩ (64 - n) (4096 - b) = false) ∧ Hid (kj = false → 0 ≤ nj ∧ nj ≤ 64 ∧ 0 ≤ bj ∧ bj ≤ 4096 ∧ nj = n + 1 + nodesL (ks.take j) ∧ bj = b + bytesL (ks.take j) ∧ chk d ⟨7, t1, t2, vs, ks⟩ (64 - n) (4096 - b) = chkL (d + 1) (ks.drop j) (64 - nj) (4096 - bj)))
              (fun u7 _ => ks.length - (intOf u7).toNat)
             case atStart => exact ⟨0, n + 1, b, true, rfl, Nat.zero_le _, hIS, hXS, hBS, hKS, rfl, Lib.hid (fun _ => hc), Lib.hid (fun h => by cases h)⟩
             case round =>
              clear hIS hBS hKS hXS
              obtain ⟨j, nj, bj, kj, rfl, hj, hIr, hXr, hBr, hKr, hkj, hkt, hkf⟩ := hrel
              have pr := hXr.c4
              have yr := cellS122_2 hIr.1
              have hlen := hM.2.2.2.2.1
              cases kj with
              | true =>
               have Hc := Lib.hid (hkt.out rfl)
               clear hkt hkf
               by_cases hlt : j < ks.length
               ·go_wp2
                first | go_end0 | ((try simp only [Exit.inBlock, Exit.then]); refine bodyPost_ret (results_none rfl _ _ _) rfl ?_)
                exact LookPost.no Hc.out hBr hKr hIr
               ·go_wp2
                first | go_end0 | ((try simp only [Exit.inBlock, Exit.then]); refine bodyPost_ret (results_none rfl _ _ _) rfl ?_)
                exact LookPost.no Hc.out hBr hKr hIr
              | false =>
               cases hkj
            | true =>
             obtain ⟨s1, s2, s3⟩ := plain_own hv
             have Hbyt := Lib.hid (show bytesM ⟨7, t1, t2, vs, ks⟩ = bytesL ks from by rw [bytesM_mk]; simp [s1, s2, s3, sizes])
             by_cases h1 : ks.length = 1
             ·have h1b : decide ((ks.length : Int) = 1) = true := decide_eq_true (by omega)
              have h1c : ((ks.length : Int) != 1) = false := by rw [bne_eq_false_iff_eq]; omega
              have h1d : ((ks.length : Int) == 1) = true := by rw [beq_iff_eq]; omega
              have H1 := Lib.hid h1
              have Hstart := Lib.hid (show chk d ⟨7, t1, t2, vs, ks⟩ (64 - n) (4096 - b) = chkL (d + 1) ks (64 - (n + 1)) (4096 - b) from by
               rw [Bool.eq_iff_iff, chk_iff]
               simp only [s1, s2, s3, sizes, Int.natCast_zero, Int.add_zero, Int.sub_zero, show (64 - n - 1 : Int) = 64 - (n + 1) by omega]
               constructor
               ·exact fun h => h.2.2.2.2
               ·exact fun h => ⟨by omega, by omega, by rw [s3] at Hal; rw [Hal.out]; rw [← s3, hv, decide_eq_true h1]; rfl, by omega, h⟩)
              have Hbare := Lib.hid hv
              clear hv s1 s2 s3 h1
              go_enter Try.func99, Try.ntmps99
              go_wp2_with fail
              (with_reducible refine (bare147 _ ⟨7, t1, t2, vs, ks⟩ A3 c3 A4 c4 false false true true Hbare.out (hM.below hB2)).mono ?_)
              rintro e w3 ⟨rfl, hb3⟩
              have hB3 := below_step hB2 hb3
              have hI3 := hI2.below hb3
              have hK3 := hK2.trans (KeepBut.of_below hb3 g none) (.inl rfl)
              have hX3 := hX2.below hb3
              have u3 := hX3.c1
              have v3 := hX3.c2
              have p3 := hX3.c3
              have o3 := hX3.c0
              have k3 := hX3.c4
              have z3 := blk_frozen hI3.1 2
              have y3 := cellS122_2 hI3.1
              have hIS := hI3.set_2 false
              have hBS : Below w0.heap.size w0 (w3.setCell ⟨g, 2, none⟩ (.bool false)) := hB3.setCell hg _
              have hKS : KeepBut w (w3.setCell ⟨g, 2, none⟩ (.bool false)) g none := hK3.set_ 2 _
              have hXS := hX3.set (j := 2) hne (.bool false)
              go_wp2
              go_loopw [7] (fun u7 wr => ∃ (j : Nat) (nj bj : Int) (kj : Bool), u7 = .int .i64 j ∧ j ≤ ks.length ∧ IsS122 w0 wr g nj bj kj ∧ BoxM wr w.heap.size 7 t1 t2 (.slice A3 vs.length c3) (.slice A4 ks.length c4) ∧ Below w0.heap.size w0 wr ∧ KeepBut w wr g none ∧ Hid (kj = true → chk d ⟨7, t1, t2, vs, ks⟩ (64 - n) (4096 - b) = false) ∧ Hid (kj = false → 0 ≤ nj ∧ nj ≤ 64 ∧ 0 ≤ bj ∧ bj ≤ 4096 ∧ nj = n + 1 + nodesL (ks.take j) ∧ bj = b + bytesL (ks.take j) ∧ chk d ⟨7, t1, t2, vs, ks⟩ (64 - n) (4096 - b) = chkL (d + 1) (ks.drop j) (64 - nj) (4096 - bj)))
               (fun u7 _ => ks.length - (intOf u7).toNat)
              case atStart => exact ⟨0, n + 1, b, false, rfl, Nat.zero_le _, hIS, hXS, hBS, hKS, Lib.hid (fun h => by cases h), Lib.hid (fun _ => ⟨by omega, by omega, hb0, hb1, by simp [nodesL], by simp [bytesL], by rw [List.drop_zero]; exact Hstart.out⟩)⟩
              case round =>
               clear hIS hBS hKS hXS
               obtain ⟨j, nj, bj, kj, rfl, hj, hIr, hXr, hBr, hKr, hkt, hkf⟩ := hrel
               have pr := hXr.c4
               have yr := cellS122_2 hIr.1
               have hlen := hM.2.2.2.2.1
               cases kj with
               | true =>
                have Hc := Lib.hid (hkt.out rfl)
                clear hkt hkf
                by_cases hlt : j < ks.length
                ·go_wp2
                 first | go_end0 | ((try simp only [Exit.inBlock, Exit.then]); refine bodyPost_ret (results_none rfl _ _ _) rfl ?_)
                 exact LookPost.no Hc.out hBr hKr hIr
                ·go_wp2
                 first | go_end0 | ((try simp only [Exit.inBlock, Exit.then]); refine bodyPost_ret (results_none rfl _ _ _) rfl ?_)
                 exact LookPost.no Hc.out hBr hKr hIr
               | false =>
                obtain ⟨hn0', hn1', hb0', hb1', hne', hbe', hce⟩ := hkf.out rfl
                have Hne := Lib.hid hne'
                have Hbe := Lib.hid hbe'
                have Hce := Lib.hid hce
                clear hkt hkf hne' hbe' hce
                by_cases hlt : j < ks.length
                ·obtain ⟨ad, B3, e3, B4, e4, rfl, hMk, k0, k1, k2, k3, k4⟩ := hM.kid j hlt
                 simp only at k0 k1 k2 k3 k4 hMk
                 have k0 := pw_cell_below hBr k0
                 have k1 := pw_cell_below hBr k1
                 have k2 := pw_cell_below hBr k2
                 have k3 := pw_cell_below hBr k3
                 have k4 := pw_cell_below hBr k4
                 have hmem : ks.getD j z25 ∈ ks := by simp [List.getD_eq_getElem?_getD, hlt]
                 have hsmall := nodes_lt ⟨7, t1, t2, vs, ks⟩ _ hmem
                 have Hbk := Lib.hid (boundL_at Hbound.out.2.2.2 hlt)
                 have Hdrop := Lib.hid (chkL_drop (d + 1) ks j hlt (64 - nj) (4096 - bj))
                 have Hn4 := Lib.hid (nodesL_split ks j hlt)
                 have Hb4 := Lib.hid (bytesL_split ks j hlt)
                 obtain ⟨kid, ek⟩ : ∃ kid, ks.getD j z25 = kid := ⟨_, rfl⟩
                 rw [ek] at hMk k0 k1 k2 k3 k4 hsmall Hdrop Hn4 Hb4 Hbk
                 clear ek hmem
                 go_wp2_with fail
                 (with_reducible refine (IH.out kid (by omega) Hbk.out (d + 1) nj bj B3 e3 B4 e4 g w0 _ (by omega) (by omega) (by omega) (by omega) (by omega) (by omega) hMk hBr hIr).mono ?_)
                 rintro e w5 ⟨rfl, hB5, hK5, n5, b5, hI5, hyes⟩
                 have hX5 := hXr.keep hK5 hne
                 obtain ⟨kc, ekc⟩ : ∃ kc, chk (d + 1) kid (64 - nj) (4096 - bj) = kc := ⟨_, rfl⟩
                 rw [ekc] at hI5 hyes
                 have Ekc := Lib.hid ekc
                 have Hyes := Lib.hid hyes
                 clear ekc hyes k0 k1 k2 k3 k4
                 go_wp2_with fail
                 go_roundw
                 case rel =>
                  refine ⟨j + 1, n5, b5, !kc, by go_num, by omega, hI5, hX5, hB5, hKr.trans hK5 (.inl rfl), Lib.hid ?_, Lib.hid ?_⟩
                  ·intro hk
                   rw [Hce.out, ← Bool.not_eq_true, Hdrop.out, Ekc.out]
                   rintro ⟨h, _⟩
                   rw [h] at hk; cases hk
                  ·intro hk
                   have hkc : kc = true := by cases kc; cases hk; rfl
                   obtain ⟨h1, h2⟩ := Hyes.out hkc
                   have hd := chk_def.1 (Ekc.out.trans hkc)
                   refine ⟨by omega, by omega, by omega, by omega, by rw [h1, Hne.out, Hn4.out]; omega, by rw [h2, Hbe.out, Hb4.out]; omega, ?_⟩
                   rw [Hce.out, Bool.eq_iff_iff, Hdrop.out, h1, h2, show 64 - nj - (nodesM kid : Int) = 64 - (nj + nodesM kid) by omega, show 4096 - bj - (bytesM kid : Int) = 4096 - (bj + bytesM kid) by omega]
                   exact ⟨fun h => h.2, fun h => ⟨Ekc.out.trans hkc, h⟩⟩
                 case measure => simp [intOf]; omega
                ·obtain rfl : j = ks.length := by omega
                 have Hfin := Lib.hid (show chk d ⟨7, t1, t2, vs, ks⟩ (64 - n) (4096 - b) = true from by
                  rw [Hce.out, List.drop_length, chkL_nil]; omega)
                 have hres : LookPost w0 w g d ⟨7, t1, t2, vs, ks⟩ n b (.returned (.tuple #[])) wr := LookPost.yes Hfin.out hBr hKr hIr (by rw [Hne.out, Hnod.out, List.take_length]; omega) (by rw [Hbe.out, Hbyt.out, List.take_length])
                 clear Hfin
                 go_wp2
                 first | go_end0 | ((try simp only [Exit.inBlock, Exit.then]); refine bodyPost_ret (results_none rfl _ _ _) rfl ?_)
                 exact hres
             ·have hc : chk d ⟨7, t1, t2, vs, ks⟩ (64 - n) (4096 - b) = false := not_alone (by rw [Hal.out, decide_eq_false h1, Bool.and_false])
              have h1b : decide ((ks.length : Int) = 1) = false := decide_eq_false (by omega)
              have h1c : ((ks.length : Int) != 1) = true := by rw [bne_iff_ne]; omega
              have h1d : ((ks.length : Int) == 1) = false := by rw [beq_eq_false_iff_ne]; omega
              have Hbare := Lib.hid hv
              clear hv s1 s2 s3 Hbyt
              go_enter Try.func99, Try.ntmps99
              go_wp2_with fail
              (with_reducible refine (bare147 _ ⟨7, t1, t2, vs, ks⟩ A3 c3 A4 c4 false false true true Hbare.out (hM.below hB2)).mono ?_)
              rintro e w3 ⟨rfl, hb3⟩
              have hB3 := below_step hB2 hb3
              have hI3 := hI2.below hb3
              have hK3 := hK2.trans (KeepBut.of_below hb3 g none) (.inl rfl)
              have hX3 := hX2.below hb3
              have u3 := hX3.c1
              have v3 := hX3.c2
              have p3 := hX3.c3
              have o3 := hX3.c0
              have k3 := hX3.c4
              have z3 := blk_frozen hI3.1 2
              have y3 := cellS122_2 hI3.1
              have hIS := hI3.set_2 true
              have hBS : Below w0.heap.size w0 (w3.setCell ⟨g, 2, none⟩ (.bool true)) := hB3.setCell hg _
              have hKS : KeepBut w (w3.setCell ⟨g, 2, none⟩ (.bool true)) g none := hK3.set_ 2 _
              have hXS := hX3.set (j := 2) hne (.bool true)
              go_wp2
              go_loopw [7] (fun u7 wr => ∃ (j : Nat) (nj bj : Int) (kj : Bool), u7 = .int .i64 j ∧ j ≤ ks.length ∧ IsS122 w0 wr g nj bj kj ∧ BoxM wr w.heap.size 7 t1 t2 (.slice A3 vs.length c3) (.slice A4 ks.length c4) ∧ Below w0.heap.size w0 wr ∧ KeepBut w wr g none ∧ kj = true ∧ Hid (kj = true → chk d ⟨7, t1, t2, vs, ks⟩ (64 - n) (4096 - b) = false) ∧ Hid (kj = false → 0 ≤ nj ∧ nj ≤ 64 ∧ 0 ≤ bj ∧ bj ≤ 4096 ∧ nj = n + 1 + nodesL (ks.take j) ∧ bj = b + bytesL (ks.take j) ∧ chk d ⟨7, t1, t2, vs, ks⟩ (64 - n) (4096 - b) = chkL (d + 1) (ks.drop j) (64 - nj) (4096 - bj)))
               (fun u7 _ => ks.length - (intOf u7).toNat)
              case atStart => exact ⟨0, n + 1, b, true, rfl, Nat.zero_le _, hIS, hXS, hBS, hKS, rfl, Lib.hid (fun _ => hc), Lib.hid (fun h => by cases h)⟩
              case round =>
               clear hIS hBS hKS hXS
               obtain ⟨j, nj, bj, kj, rfl, hj, hIr, hXr, hBr, hKr, hkj, hkt, hkf⟩ := hrel
               have pr := hXr.c4
               have yr := cellS122_2 hIr.1
               have hlen := hM.2.2.2.2.1
               cases kj with
               | true =>
                have Hc := Lib.hid (hkt.out rfl)
                clear hkt hkf
                by_cases hlt : j < ks.length
                ·go_wp2
                 first | go_end0 | ((try simp only [Exit.inBlock, Exit.then]); refine bodyPost_ret (results_none rfl _ _ _) rfl ?_)
                 exact LookPost.no Hc.out hBr hKr hIr
                ·go_wp2
                 first | go_end0 | ((try simp only [Exit.inBlock, Exit.then]); refine bodyPost_ret (results_none rfl _ _ _) rfl ?_)
                 exact LookPost.no Hc.out hBr hKr hIr
               | false =>
                cases hkj
           ·have hc : chk d ⟨op, t1, t2, vs, ks⟩ (64 - n) (4096 - b) = false := not_alone (alone_other ⟨e0, e1, e2, e3, e4, e5, e6, e7⟩ t1 t2 vs ks)
            go_enter Try.func99, Try.ntmps99
            go_wp2
            first | go_end0 | ((try simp only [Exit.inBlock, Exit.then]); refine bodyPost_ret (results_none rfl _ _ _) rfl ?_)
            exact LookPost.no hc (below_alloc ((hB.setCell hg _).setCell hg _) (.cells #[.int .i64 op, .string t1, .string t2, .slice A3 vs.length c3, .slice A4 ks.length c4] 25)) ((((KeepBut.refl w g none).set_ 0 _).set_ 2 _).trans (KeepBut.of_below (below_alloc (Below.refl _ _) _) g none) (.inl rfl)) (((hI.set_0 (n + 1)).set_2 true).alloc _)
end Go.Proofs.Yteafilojjdfllaa
end
section
namespace Go.Proofs.Yteafilojjdfllaa
open Go Go.RowKit Go.Proofs.YteafilojjdfllaaW.PrintWords Go.Proofs.YteafilojjdfllaaW.PrintLast Go.Proofs.YteafilojjdfllaaW.PrintMore Go.Proofs.Yteafilojjdfllaa.PAll
mutual
/-- not too many values -/
def wideM : S25 → Prop
 | ⟨_, _, _, vs, ks⟩ => vs.length ≤ 40 ∧ wideL ks
def wideL : List S25 → Prop
 | [] => True
 | k :: ks => wideM k ∧ wideL ks
end
theorem wideM_mk (m : S25) : wideM m ↔ m.f3.length ≤ 40 ∧ wideL m.f4 := by cases m; simp [wideM]
def Cnt (W : World) (g : Nat) (n : Int) : Prop := W.heap[g]? = some (.cells #[.int .i64 n] 3 (0, 0))
theorem Cnt.c {W : World} {g : Nat} {n : Int} (h : Cnt W g n) : W.cell? ⟨g, 0, none⟩ = some (.int .i64 n) := (blk_cell h 0).trans rfl
theorem Cnt.z {W : World} {g : Nat} {n : Int} (h : Cnt W g n) : W.frozen? ⟨g, 0, none⟩ = false := blk_frozen h 0
theorem Cnt.lt {W : World} {g : Nat} {n : Int} (h : Cnt W g n) : g < W.heap.size := (Array.getElem?_eq_some_iff.1 h).1
theorem Cnt.set {W : World} {g : Nat} {n : Int} (h : Cnt W g n) (x : Int) : Cnt (W.setCell ⟨g, 0, none⟩ (.int .i64 x)) g x := by simpa [Cnt] using blk_set h 0 (.int .i64 x)
theorem Cnt.below {W X : World} {g : Nat} {n : Int} (h : Cnt W g n) (hb : Below W.heap.size W X) : Cnt X g n := (hb.block g h.lt).trans h
theorem Cnt.alloc {W : World} {g : Nat} {n : Int} (h : Cnt W g n) (o : Obj) : Cnt (W.alloc o) g n := h.below (below_alloc (Below.refl _ _) o)
end Go.Proofs.Yteafilojjdfllaa
end
section
namespace Go.Proofs.Yteafilojjdfllaa
open Go Go.RowKit Go.Proofs.YteafilojjdfllaaW.PrintWords Go.Proofs.YteafilojjdfllaaW.PrintLast Go.Proofs.YteafilojjdfllaaW.PrintMore Go.Proofs.Yteafilojjdfllaa.PAll
theorem infoM : (Try.prog.info? 25).map (fun i => (i.zero, i.size, i.bytes)) = some (some (.agg #[.int .i64 0, .string ⟨#[]⟩, .string ⟨#[]⟩, .slice none 0 0, .slice none 0 0]), 5, 88) := by kernel_rfl
theorem infoS : (Try.prog.info? 9).map (fun i => (i.zero, i.size, i.bytes)) = some (some (.string ByteArray.empty), 1, 16) := by kernel_rfl
theorem own_move {W X : World} {base : Nat} {e : TypeId} {size n : Nat} {v : Value} {xs : List Value} (h : W.ownsRow base e size v n xs) (hm : ∀ k, v.ownBlock = some k → X.heap[k]? = W.heap[k]?) : X.ownsRow base e size v n xs := by
 refine ⟨h.1, ?_⟩
 rcases h.2 with hn | ⟨g, cap, cur, e', hb, hg, rest⟩
 ·exact .inl hn
 ·exact .inr ⟨g, cap, cur, e', hb, (hm g (by rw [e']; rfl)).trans hg, rest⟩
/-- it reads so in every world that has these blocks -/
def MF (W : World) (S : Nat → Prop) (m : S25) (A3 : Option Addr) (c3 : Nat) (A4 : Option Addr) (c4 : Nat) : Prop :=
 ∀ X : World, (∀ b, S b → X.heap[b]? = W.heap[b]?) → MC X m A3 c3 A4 c4
theorem MF.now {W : World} {S : Nat → Prop} {m : S25} {A3 : Option Addr} {c3 : Nat} {A4 : Option Addr} {c4 : Nat} (h : MF W S m A3 c3 A4 c4) : MC W m A3 c3 A4 c4 := h W (fun _ _ => rfl)
theorem MF.move {W Y : World} {S T : Nat → Prop} {m : S25} {A3 : Option Addr} {c3 : Nat} {A4 : Option Addr} {c4 : Nat} (h : MF W S m A3 c3 A4 c4) (hS : ∀ b, S b → T b ∧ Y.heap[b]? = W.heap[b]?) : MF Y T m A3 c3 A4 c4 :=
 fun X hX => h X (fun b hb => (hX b (hS b hb).1).trans (hS b hb).2)
/-- a kid's cells in the row -/
def KR (W : World) (S : Nat → Prop) (m : S25) (cs : List Value) : Prop :=
 ∃ A3 c3 A4 c4, cs = [.int .i64 m.f0, .string m.f1, .string m.f2, .slice A3 m.f3.length c3, .slice A4 m.f4.length c4] ∧ MF W S m A3 c3 A4 c4
theorem KR.move {W Y : World} {S T : Nat → Prop} {m : S25} {cs : List Value} (h : KR W S m cs) (hS : ∀ b, S b → T b ∧ Y.heap[b]? = W.heap[b]?) : KR Y T m cs := by
 obtain ⟨A3, c3, A4, c4, e, hm⟩ := h
 exact ⟨A3, c3, A4, c4, e, hm.move hS⟩
/-- the blocks from lo on, but for the row's own -/
def Part (lo : Nat) (W : World) (v : Value) (b : Nat) : Prop := lo ≤ b ∧ b < W.heap.size ∧ v.ownBlock ≠ some b
theorem len_nodes : ∀ (ks : List S25), ks.length ≤ nodesL ks
 | [] => by simp [nodesL]
 | k :: ks => by have := len_nodes ks; have h2 := nodesM_mk k; simp only [List.length_cons, nodesL]; omega
theorem wideL_at : ∀ {ks : List S25} {j : Nat}, wideL ks → j < ks.length → wideM (ks.getD j z25)
 | k :: ks, 0, h, _ => h.1
 | k :: ks, j + 1, h, hj => by have := wideL_at (j := j) h.2 (by simpa using hj); simpa using this
/-- out of the two rows, the whole -/
theorem MF.of_rows {W : World} {lo lo' : Nat} {m : S25} {v3 v4 : Value} {cells : List Value} (h3 : W.ownsRow lo 9 1 v3 m.f3.length (encs Value.string m.f3)) (h4 : W.ownsRow lo 25 5 v4 m.f4.length cells) (hR : Reps (KR W (Part lo W v4)) 5 m.f4 cells) (hlo : lo' ≤ lo) :
  ∃ A3 c3 A4 c4, v3 = .slice A3 m.f3.length c3 ∧ v4 = .slice A4 m.f4.length c4 ∧ MF W (fun b => lo' ≤ b ∧ b < W.heap.size) m A3 c3 A4 c4 := by
 obtain ⟨A3, c3, e3, hc3, -⟩ := own_reads_of_le (enc := Value.string) (d := ByteArray.empty) h3
 obtain ⟨A4, c4, e4, -⟩ := own_reads_row h4 (hR.imp_ (fun p c (h : KR W (Part lo W v4) p c) => h)) rfl
 have hc4 : m.f4.length ≤ c4 := by
  rcases h4.2 with ⟨hv, h0⟩ | ⟨g, cap, cur, hv, _, _, hcap, _⟩
  ·rw [e4] at hv; omega
  ·rw [e4] at hv; cases hv; exact hcap
 refine ⟨A3, c3, A4, c4, e3, e4, fun X hX => ?_⟩
 have g3 : X.ownsRow lo 9 1 v3 m.f3.length (encs Value.string m.f3) := own_move h3 (fun k hk => hX k ⟨by have := (h3.lt _ hk).1; omega, (h3.lt _ hk).2⟩)
 have g4 : X.ownsRow lo 25 5 v4 m.f4.length cells := own_move h4 (fun k hk => hX k ⟨by have := (h4.lt _ hk).1; omega, (h4.lt _ hk).2⟩)
 obtain ⟨B3, d3, f3, -, hr3⟩ := own_reads_of_le (enc := Value.string) (d := ByteArray.empty) g3
 have hK : Reps (k25.K X) 5 m.f4 cells := hR.imp_ (fun p c ⟨B3, d3, B4, d4, ec, hm⟩ => by
  obtain ⟨q1, q2, q3, q4⟩ := hm X (fun b hb => hX b ⟨by have := hb.1; omega, hb.2.1⟩)
  rw [ec]
  exact k25_mk X p q1 q2 q3 q4)
 obtain ⟨B4, d4, f4, hr4⟩ := own_reads_row g4 hK rfl
 rw [e3] at f3; cases f3
 rw [e4] at f4; cases f4
 exact ⟨hc3, Kd.C_of_reads hr3, hc4, hr4⟩
end Go.Proofs.Yteafilojjdfllaa
end
section
namespace Go.Proofs.Yteafilojjdfllaa
open Go Go.RowKit Go.Proofs.YteafilojjdfllaaW.PrintWords Go.Proofs.YteafilojjdfllaaW.PrintLast Go.Proofs.YteafilojjdfllaaW.PrintMore Go.Proofs.Yteafilojjdfllaa.PAll
end Go.Proofs.Yteafilojjdfllaa
end
section
namespace Go.Proofs.Yteafilojjdfllaa
open Go Go.RowKit Go.Proofs.YteafilojjdfllaaW.PrintWords Go.Proofs.YteafilojjdfllaaW.PrintLast Go.Proofs.YteafilojjdfllaaW.PrintMore Go.Proofs.Yteafilojjdfllaa.PAll
set_option maxRecDepth 100000 in
set_option maxHeartbeats 4000000 in
/-- varveref12.Check. -/
theorem check36 (w : World) (m : S25) (A3 : Option Addr) (c3 : Nat) (A4 : Option Addr) (c4 : Nat) (hb : boundM m) (hM : MC w m A3 c3 A4 c4) :
  Calls Try.prog 36 #[.agg #[.int .i64 m.f0, .string m.f1, .string m.f2, .slice A3 m.f3.length c3, .slice A4 m.f4.length c4]] w fun e w' => e = .returned (.bool (chkB m)) ∧ Below w.heap.size w w' := by
 have hB : Below w.heap.size w ((w.alloc (.cells #[.int .i64 m.f0, .string m.f1, .string m.f2, .slice A3 m.f3.length c3, .slice A4 m.f4.length c4] 25)).alloc (.cells #[.int .i64 0, .int .i64 0, .bool false] 122)) := below_alloc (below_alloc (Below.refl _ _) _) _
 have hI : IsS122 w ((w.alloc (.cells #[.int .i64 m.f0, .string m.f1, .string m.f2, .slice A3 m.f3.length c3, .slice A4 m.f4.length c4] 25)).alloc (.cells #[.int .i64 0, .int .i64 0, .bool false] 122)) (w.heap.size + 1) 0 0 false := by
  have := IsS122.new w (w.alloc (.cells #[.int .i64 m.f0, .string m.f1, .string m.f2, .slice A3 m.f3.length c3, .slice A4 m.f4.length c4] 25)) 0 0 false (below_alloc (Below.refl _ _) _)
  rwa [World.size_alloc] at this
 have hh := look99 (nodesM m) m (Nat.le_refl _) hb 1 0 0 A3 c3 A4 c4 (w.heap.size + 1) w _ (by decide) (by decide) (by decide) (by decide) (by decide) (by decide) hM hB hI
 go_enter Try.func36, Try.ntmps36
 go_wp2_with fail
 (with_reducible refine hh.mono ?_)
 rintro e w5 ⟨rfl, hB5, -, n', b', hI5, -⟩
 have hy := cellS122_2 hI5.1
 have hq : (!(!chk 1 m (64 - 0) (4096 - 0))) = chkB m := by rw [Bool.not_not]; rfl
 have Hq := Lib.hid hq
 clear hq
 obtain ⟨v, ev⟩ : ∃ v, (!chk 1 m (64 - 0) (4096 - 0)) = v := ⟨_, rfl⟩
 rw [ev] at hy Hq
 clear ev hI5
 go_wp2_with fail
 go_ret
 exact ⟨by rw [← Hq.out]; rfl, hB5⟩
end Go.Proofs.Yteafilojjdfllaa
end
section
namespace Go.Proofs.Yteafilojjdfllaa.PAll
open Go.RowKit Go.Proofs.YteafilojjdfllaaW.PrintWords Go.Proofs.YteafilojjdfllaaW.PrintLast Go.Proofs.YteafilojjdfllaaW.PrintMore
attribute [local go_sem] max2_int min2_int max_two min_two max_three min_three max_four min_four   -- for this text's walks alone
set_option linter.unusedVariables false
set_option linter.unusedSimpArgs false

-- NOT PRINTED: function 106 (match_room_holds)

-- NOT PRINTED: function 53 (match_Check)
def label_Value.l0 : Nat → ByteArray → List (S68) → Int → Int → Option (ByteArray)
 | 0, _, _, _, _ => none
 | k + 1, x1, x7, x8, x9 => if x9 < x8 then (if 0 ≤ x9 then (if x9 < (x7.length : Int) then (if ((rd_T68 x7 x9).f0).toList = x1.toList then (some ((rd_T68 x7 x9).f1)) else (label_Value.l0 k x1 x7 x8 (wrap64 (x9 + 1)))) else (none)) else (none)) else (some (⟨#[]⟩ : ByteArray))
def label_Value.f (k : Nat) (l0 : List (S68)) (a1 : ByteArray) : Option (ByteArray) := label_Value.l0 k a1 l0 (l0.length : Int) 0
theorem label_Value.mono_l : ∀ k, (∀ y0 y1 y2 y3, LeO (label_Value.l0 k y0 y1 y2 y3) (label_Value.l0 (k + 1) y0 y1 y2 y3))
 | 0 => fun _ _ _ _ r h => by simp [label_Value.l0] at h
 | k + 1 => by
  have ih0 := label_Value.mono_l k
  ·intro y0 y1 y2 y3
   unfold label_Value.l0
   repeat' first
   | (with_reducible exact ih0 _ _ _ _)
   | (with_reducible exact LeO.refl _)
   | (with_reducible exact LeO.none _)
   | (with_reducible refine LeO.ite ?_ ?_)
   | (with_reducible refine LeO.bind ?_ (fun _ => ?_))
   | exact ih0 _ _ _ _
   | exact LeO.none _
   | refine LeO.ite ?_ ?_
   | refine LeO.bind ?_ (fun _ => ?_)
theorem label_Value.mono : ∀ a0 a1 k, LeO (label_Value.f k a0 a1) (label_Value.f (k + 1) a0 a1) := by
 intro a0 a1 k
 have ih0 := label_Value.mono_l k
 unfold label_Value.f
 repeat' first
   | (with_reducible exact ih0 _ _ _ _)
   | (with_reducible exact LeO.refl _)
   | (with_reducible exact LeO.none _)
   | (with_reducible refine LeO.ite ?_ ?_)
   | (with_reducible refine LeO.bind ?_ (fun _ => ?_))
   | exact ih0 _ _ _ _
   | exact LeO.none _
   | refine LeO.ite ?_ ?_
   | refine LeO.bind ?_ (fun _ => ?_)
set_option maxHeartbeats 8000000 in
set_option maxRecDepth 100000 in
theorem label_Value.calls (k : Nat) (A0 : Option Addr) (c0 : Nat) (l0 : List (S68)) (a1 : ByteArray) (r : ByteArray) (w : World) (hr0 : Kd.C k68 w A0 l0.length l0) (hc0 : l0.length ≤ c0) (h : label_Value.f k l0 a1 = some r) :
  Calls Try.prog 65 #[.slice A0 l0.length c0, .string a1] w fun e w' => e = .returned (.string r) ∧ Below w.heap.size w w' := by
 have hu68 := Try.underlying68
 have HR0 := Aside0.mk hr0
 have HC0 := Aside0.mk hc0
 clear hr0 hc0
 have HB := Aside0.mk (Below.refl w.heap.size w)
 have H : (label_Value.l0 k a1 l0 (l0.length : Int) 0) = some r := h
 clear h
 have H' := Aside0.mk H
 clear H
 go_enter Try.func65, Try.ntmps65
 go_wp2
 go_loopg [9] k (fun kq v9 w' => ∃ (x9_1 : Int), v9 = .int .i64 x9_1 ∧ Aside0 (label_Value.l0 kq a1 l0 (l0.length : Int) x9_1 = some r) ∧ Aside0 (kq ≤ k) ∧ Aside0 (Below w.heap.size w w'))
 case atStart => exact ⟨(0), (by first | rfl | (simp; done) | (simp [*]; done)), H', ⟨Nat.le_refl _⟩, ⟨by repeat (first | (with_reducible first | exact HB.out | apply below_alloc | apply pw_below_drewN | apply below_drew1) | exact HB.out)⟩⟩
 case round =>
  clear H'
  try clear p2
  obtain ⟨x9_1, rfl, HA, HK1, HB⟩ := hrel
  cases gk with
  | zero => exact absurd HA.out (by simp [label_Value.l0])
  | succ k1 =>
   have H := HA.out
   clear HA
   simp only [label_Value.l0] at H
   by_cases c3 : x9_1 < (l0.length : Int)
   ·rw [if_pos c3] at H
    have c3b0 : decide (x9_1 < (l0.length : Int)) = true := decide_eq_true c3
    clear c3
    by_cases c4 : 0 ≤ x9_1
    ·rw [if_pos c4] at H
     have c4b0 : decide (0 ≤ x9_1) = true := decide_eq_true c4
     clear c4
     by_cases c5 : x9_1 < (l0.length : Int)
     ·rw [if_pos c5] at H
      have c5b0 : decide (x9_1 < (l0.length : Int)) = true := decide_eq_true c5
      clear c5
      by_cases c6 : ((rd_T68 l0 x9_1).f0).toList = a1.toList
      ·rw [if_pos c6] at H
       have c6b0 : (((rd_T68 l0 x9_1).f0).toList == a1.toList) = true := beq_iff_eq.mpr c6
       have c6b1 : (((rd_T68 l0 x9_1).f0).toList != a1.toList) = false := bne_eq_false_iff_eq.mpr c6
       clear c6
       obtain rfl := Option.some.inj H
       have p119 : 0 ≤ (x9_1 : Int) := of_decide_eq_true (by first | (with_reducible assumption) | assumption)
       have q119 : x9_1 < (l0.length : Int) := of_decide_eq_true (by first | (with_reducible assumption) | assumption)
       obtain ⟨ad119, e119, hx119_0, hx119_1⟩ := at_T68 HR0.out x9_1 p119 q119
       cases e119
       replace hx119_0 := (HB.out.cell (World.block_lt_of_cell? w _ hx119_0)).trans hx119_0
       replace hx119_1 := (HB.out.cell (World.block_lt_of_cell? w _ hx119_1)).trans hx119_1
       replace p119 := eq_true p119
       replace q119 := eq_true q119
       go_wp2_with (first | ((with_reducible refine gate_dst (N := 6) rfl ?_); refine box_event ?hg (N := 6) ?hd (cs := #[.string (⟨#[]⟩ : ByteArray), .string (⟨#[]⟩ : ByteArray)]) (t := 68) ?hr ?_; (case hd => rfl); (case hg => rfl); (case hr => first | (go_simp; done) | (go_simp; rfl)); intro gb120 hg w7 hbox hb; have n0_ := Aside0.mk (below_step (by repeat (first | (with_reducible first | exact HB.out | apply below_alloc | apply pw_below_drewN | apply below_drew1) | exact HB.out)) hb); have n1_ := Aside0.mk (hbox); have n2_ := Aside0.mk ((by rw [hg]; exact (below_size (by repeat (first | (with_reducible first | exact HB.out | apply below_alloc | apply pw_below_drewN | apply below_drew1) | exact HB.out))) : w.heap.size ≤ gb120)); have n3_ := Aside0.mk ((by rw [hg]; exact (below_size (by repeat (first | (with_reducible first | exact HB.out | apply below_alloc | apply pw_below_drewN | apply below_drew1) | exact HB.out))) : w.heap.size ≤ gb120)); clear HB; have HB := n0_; have BK120 := n1_; have GW120 := n2_; have GE120 := n3_; clear n0_ n1_ n2_ n3_; clear hb hbox hg; have hcz8_0 : w7.cell? ⟨gb120, 0, none⟩ = some (.string (⟨#[]⟩ : ByteArray)) := (blk_cell BK120.out 0).trans rfl; have hcz8_1 : w7.cell? ⟨gb120, 1, none⟩ = some (.string (⟨#[]⟩ : ByteArray)) := (blk_cell BK120.out 1).trans rfl; have hfz8_0 := blk_frozen BK120.out 0; have hfz8_1 := blk_frozen BK120.out 1))
       go_ret
       exact ⟨by first | rfl | (simp [errW_none, errW_some] <;> rfl) | (simp [*, errW_none, errW_some] <;> rfl), by repeat (first | (with_reducible first | exact HB.out | apply below_alloc | apply pw_below_drewN | apply below_drew1 | refine below_set ?_ GE120.out) | exact HB.out)⟩
      ·rw [if_neg c6] at H
       have c6b0 : (((rd_T68 l0 x9_1).f0).toList == a1.toList) = false := beq_eq_false_iff_ne.mpr c6
       have c6b1 : (((rd_T68 l0 x9_1).f0).toList != a1.toList) = true := bne_iff_ne.mpr c6
       have H' := Aside0.mk H
       clear H
       have p119 : 0 ≤ (x9_1 : Int) := of_decide_eq_true (by first | (with_reducible assumption) | assumption)
       have q119 : x9_1 < (l0.length : Int) := of_decide_eq_true (by first | (with_reducible assumption) | assumption)
       obtain ⟨ad119, e119, hx119_0, hx119_1⟩ := at_T68 HR0.out x9_1 p119 q119
       cases e119
       replace hx119_0 := (HB.out.cell (World.block_lt_of_cell? w _ hx119_0)).trans hx119_0
       replace hx119_1 := (HB.out.cell (World.block_lt_of_cell? w _ hx119_1)).trans hx119_1
       replace p119 := eq_true p119
       replace q119 := eq_true q119
       go_wp2_with (first | ((with_reducible refine gate_dst (N := 6) rfl ?_); refine box_event ?hg (N := 6) ?hd (cs := #[.string (⟨#[]⟩ : ByteArray), .string (⟨#[]⟩ : ByteArray)]) (t := 68) ?hr ?_; (case hd => rfl); (case hg => rfl); (case hr => first | (go_simp; done) | (go_simp; rfl)); intro gb120 hg w9 hbox hb; have n0_ := Aside0.mk (below_step (by repeat (first | (with_reducible first | exact HB.out | apply below_alloc | apply pw_below_drewN | apply below_drew1) | exact HB.out)) hb); have n1_ := Aside0.mk (hbox); have n2_ := Aside0.mk ((by rw [hg]; exact (below_size (by repeat (first | (with_reducible first | exact HB.out | apply below_alloc | apply pw_below_drewN | apply below_drew1) | exact HB.out))) : w.heap.size ≤ gb120)); have n3_ := Aside0.mk ((by rw [hg]; exact (below_size (by repeat (first | (with_reducible first | exact HB.out | apply below_alloc | apply pw_below_drewN | apply below_drew1) | exact HB.out))) : w.heap.size ≤ gb120)); clear HB; have HB := n0_; have BK120 := n1_; have GW120 := n2_; have GE120 := n3_; clear n0_ n1_ n2_ n3_; clear hb hbox hg; have hcz10_0 : w9.cell? ⟨gb120, 0, none⟩ = some (.string (⟨#[]⟩ : ByteArray)) := (blk_cell BK120.out 0).trans rfl; have hcz10_1 : w9.cell? ⟨gb120, 1, none⟩ = some (.string (⟨#[]⟩ : ByteArray)) := (blk_cell BK120.out 1).trans rfl; have hfz10_0 := blk_frozen BK120.out 0; have hfz10_1 := blk_frozen BK120.out 1))
       go_roundg k1
       case measure => have := HK1.out; omega
       case rel => exact ⟨(wrap64 (x9_1 + 1)), (by first | rfl | (simp; done) | (simp [*]; done)), H', ⟨by have := HK1.out; omega⟩, ⟨by repeat (first | (with_reducible first | exact HB.out | apply below_alloc | apply pw_below_drewN | apply below_drew1 | refine below_set ?_ GE120.out) | exact HB.out)⟩⟩
     ·rw [if_neg c5] at H
      exact absurd H (by simp)
    ·rw [if_neg c4] at H
     exact absurd H (by simp)
   ·rw [if_neg c3] at H
    have c3b0 : decide (x9_1 < (l0.length : Int)) = false := decide_eq_false c3
    clear c3
    obtain rfl := Option.some.inj H
    go_wp2
    go_ret
    exact ⟨by first | rfl | (simp [errW_none, errW_some] <;> rfl) | (simp [*, errW_none, errW_some] <;> rfl), by repeat (first | (with_reducible first | exact HB.out | apply below_alloc | apply pw_below_drewN | apply below_drew1) | exact HB.out)⟩
def stringslite_HasPrefix.f (a0 : ByteArray) (a1 : ByteArray) : Option (Bool) := if (a0.size : Int) ≥ (a1.size : Int) then (if 0 ≤ (a1.size : Int) then (if (a1.size : Int) ≤ (a0.size : Int) then (some ((a0.extract 0 ((a1.size : Int) : Int).toNat).toList == a1.toList)) else (none)) else (none)) else (some false)
set_option maxHeartbeats 8000000 in
set_option maxRecDepth 100000 in
theorem stringslite_HasPrefix.calls (a0 : ByteArray) (a1 : ByteArray) (r : Bool) (w : World) (h : stringslite_HasPrefix.f a0 a1 = some r) :
  Calls Try.prog 179 #[.string a0, .string a1] w fun e w' => e = .returned (.bool r) ∧ Drawn0 w w' := by
 have H : (if (a0.size : Int) ≥ (a1.size : Int) then (if 0 ≤ (a1.size : Int) then (if (a1.size : Int) ≤ (a0.size : Int) then (some ((a0.extract 0 ((a1.size : Int) : Int).toNat).toList == a1.toList)) else (none)) else (none)) else (some false)) = some r := h
 clear h
 by_cases c3 : (a0.size : Int) ≥ (a1.size : Int)
 ·rw [if_pos c3] at H
  have c3b0 : decide ((a1.size : Int) ≤ (a0.size : Int)) = true := decide_eq_true c3
  have c3b1 : decide (a1.size ≤ a0.size) = true := decide_eq_true (Int.ofNat_le.mp c3)
  clear c3
  by_cases c4 : 0 ≤ (a1.size : Int)
  ·rw [if_pos c4] at H
   have c4b0 := eq_true c4
   have c4b1 : decide (0 ≤ (a1.size : Int)) = true := decide_eq_true c4
   clear c4
   by_cases c5 : (a1.size : Int) ≤ (a0.size : Int)
   ·rw [if_pos c5] at H
    have c5b0 := eq_true c5
    have c5b1 : decide ((a1.size : Int) ≤ (a0.size : Int)) = true := decide_eq_true c5
    clear c5
    obtain rfl := Option.some.inj H
    go_enter Try.func179, Try.ntmps179
    go_wp2
    go_ret
    exact ⟨by first | rfl | (simp; done) | (simp [*]; done), by repeat (first | exact Drawn0.refl _ | apply Drawn0.step)⟩
   ·rw [if_neg c5] at H
    exact absurd H (by simp)
  ·rw [if_neg c4] at H
   exact absurd H (by simp)
 ·rw [if_neg c3] at H
  have c3b0 : decide ((a1.size : Int) ≤ (a0.size : Int)) = false := decide_eq_false c3
  have c3b1 : decide (a1.size ≤ a0.size) = false := decide_eq_false (fun h => c3 (Int.ofNat_le.mpr h))
  clear c3
  obtain rfl := Option.some.inj H
  go_enter Try.func179, Try.ntmps179
  go_wp2
  go_ret
  exact ⟨by first | rfl | (simp; done) | (simp [*]; done), by repeat (first | exact Drawn0.refl _ | apply Drawn0.step)⟩
def strings_HasPrefix.f (a0 : ByteArray) (a1 : ByteArray) : Option (Bool) := (stringslite_HasPrefix.f a0 a1).bind fun t121 => (some t121)
set_option maxHeartbeats 8000000 in
set_option maxRecDepth 100000 in
theorem strings_HasPrefix.calls (a0 : ByteArray) (a1 : ByteArray) (r : Bool) (w : World) (h : strings_HasPrefix.f a0 a1 = some r) :
  Calls Try.prog 158 #[.string a0, .string a1] w fun e w' => e = .returned (.bool r) ∧ Drawn0 w w' := by
 have H : ((stringslite_HasPrefix.f a0 a1).bind fun t121 => (some t121)) = some r := h
 clear h
 replace H := Option.bind_eq_some_iff.mp H
 obtain ⟨t121, A30, H⟩ := H
 replace H : (some t121) = some r := H
 have A3 := Aside0.mk A30
 clear A30
 obtain rfl := Option.some.inj H
 go_enter Try.func158, Try.ntmps158
 go_wp2_with (first | ((with_reducible refine gate_callee (f := 179) rfl ?_); refine goesL_ (some 7) rfl rfl Try.func179 (by kernel_rfl) rfl #[.string a0, .string a1] rfl (by (try simp only [List.map_toArray, List.map_cons, List.map_nil]); first | done | rfl | (simp only [List.length_drop, List.length_take]; rfl)) ?_; (with_reducible refine (stringslite_HasPrefix.calls a0 a1 t121 _ A3.out).mono ?_); rintro e w' ⟨rfl, ⟨nd, rfl⟩⟩; refine ⟨_, rfl, ?_⟩))
 go_ret
 exact ⟨by first | rfl | (simp; done) | (simp [*]; done), by repeat (first | exact Drawn0.refl _ | apply Drawn0.step)⟩
end Go.Proofs.Yteafilojjdfllaa.PAll
end
