/- A part of the proof of TombBytes. No condition. -/
import Derived.Laws.Strings
import Derived.Lib.Hide
import Derived.RegionTactic
import Derived.ChangeAlike
import Derived.Test.YteafilojjdfllaaRows
import Derived.WalkKit
import Derived.ProofKit
import Derived.OpenShut
import Derived.ChangeOld
import Derived.Below
import Derived.Carry
import Derived.SizedLaws
import Derived.JoinedOf
import Derived.KernelRfl
import Derived.ArgAppend
import Derived.Laws.Bits64b
import Derived.Lib.LazyBuf
import Derived.Deep.QuietTactic
import Derived.BigQuiet
import Derived.Defers
import Derived.Recover
import Derived.Test.YteafilojjdfllaaZTombBytesA
set_option linter.unusedVariables false
set_option linter.unusedSimpArgs false
set_option maxRecDepth 100000
set_option maxHeartbeats 200000000
section
namespace Go.Proofs.Yteafilojjdfllaa.PAll
open Go.RowKit Go.Proofs.YteafilojjdfllaaW.PrintWords Go.Proofs.YteafilojjdfllaaW.PrintLast Go.Proofs.YteafilojjdfllaaW.PrintMore
section
attribute [local go_sem] zCx zCv zDm zDl zCj zCi zCw zCu   -- for this text's walks alone
set_option linter.unusedVariables false
set_option linter.unusedSimpArgs false
def varveref11_Name.l0 : Nat → ByteArray → Int → Option (Bool)
 | 0, _, _ => none
 | k + 1, x0, x3 => if x3 < (x0.size : Int) then (if 0 ≤ x3 then (if (bt x0 x3) = 95 then (varveref11_Name.l0 k x0 (wrap64 (x3 + 1))) else (if (bt x0 x3) < 97 then (if (bt x0 x3) < 48 then (some false) else (if (bt x0 x3) > 57 then (some false) else (if x3 = 0 then (some false) else (varveref11_Name.l0 k x0 (wrap64 (x3 + 1)))))) else (if (bt x0 x3) > 122 then (if (bt x0 x3) < 48 then (some false) else (if (bt x0 x3) > 57 then (some false) else (if x3 = 0 then (some false) else (varveref11_Name.l0 k x0 (wrap64 (x3 + 1)))))) else (varveref11_Name.l0 k x0 (wrap64 (x3 + 1)))))) else (none)) else (if (x0.size : Int) ≥ 1 then (some (decide ((x0.size : Int) ≤ 32))) else (some false))
def varveref11_Name.f (k : Nat) (a0 : ByteArray) : Option (Bool) := varveref11_Name.l0 k a0 0
theorem varveref11_Name.mono_l : ∀ k, (∀ y0 y1, LeO (varveref11_Name.l0 k y0 y1) (varveref11_Name.l0 (k + 1) y0 y1))
 | 0 => fun _ _ r h => by simp [varveref11_Name.l0] at h
 | k + 1 => by
  have ih0 := varveref11_Name.mono_l k
  ·intro y0 y1
   unfold varveref11_Name.l0
   repeat' first
   | (with_reducible exact ih0 _ _)
   | (with_reducible exact LeO.refl _)
   | (with_reducible exact LeO.none _)
   | (with_reducible refine LeO.ite ?_ ?_)
   | (with_reducible refine LeO.bind ?_ (fun _ => ?_))
   | exact ih0 _ _
   | exact LeO.none _
   | refine LeO.ite ?_ ?_
   | refine LeO.bind ?_ (fun _ => ?_)
theorem varveref11_Name.mono : ∀ a0 k, LeO (varveref11_Name.f k a0) (varveref11_Name.f (k + 1) a0) := by
 intro a0 k
 have ih0 := varveref11_Name.mono_l k
 unfold varveref11_Name.f
 repeat' first
   | (with_reducible exact ih0 _ _)
   | (with_reducible exact LeO.refl _)
   | (with_reducible exact LeO.none _)
   | (with_reducible refine LeO.ite ?_ ?_)
   | (with_reducible refine LeO.bind ?_ (fun _ => ?_))
   | exact ih0 _ _
   | exact LeO.none _
   | refine LeO.ite ?_ ?_
   | refine LeO.bind ?_ (fun _ => ?_)
theorem varveref11_Name.calls (k : Nat) (a0 : ByteArray) (r : Bool) (w : World) (h : varveref11_Name.f k a0 = some r) :
  Calls Try.prog 64 #[.string a0] w fun e w' => e = .returned (.bool r) ∧ Drawn0 w w' := by
 have H : (varveref11_Name.l0 k a0 0) = some r := h
 clear h
 have H' := Aside0.mk H
 clear H
 go_enter Try.func64, Try.ntmps64
 go_wp2
 go_loopg [3] k (fun kq v3 w' => ∃ (x3_1 : Int), v3 = .int .i64 x3_1 ∧ Aside0 (varveref11_Name.l0 kq a0 x3_1 = some r) ∧ Aside0 (kq ≤ k) ∧ Drawn0 w w')
 case atStart => exact ⟨(0), (by first | rfl | (simp; done) | (simp [*]; done)), H', ⟨Nat.le_refl _⟩, by repeat (first | exact Drawn0.refl _ | apply Drawn0.step)⟩
 case round =>
  clear H'
  obtain ⟨x3_1, rfl, HA, HK1, ⟨m1, rfl⟩⟩ := hrel
  cases gk with
  | zero => exact absurd HA.out (by simp [varveref11_Name.l0])
  | succ k1 =>
  have H := HA.out
  clear HA
  simp only [varveref11_Name.l0] at H
  by_cases c2 : x3_1 < (a0.size : Int)
  ·rw [if_pos c2] at H
   have c2b0 : decide (x3_1 < (a0.size : Int)) = true := zT c2
   clear c2
   by_cases c3 : 0 ≤ x3_1
   ·rw [if_pos c3] at H
    have c3b0 : decide (0 ≤ x3_1) = true := zT c3
    clear c3
    by_cases c5 : (bt a0 x3_1) = 95
    ·rw [if_pos c5] at H
     have c5b0 : ((bt a0 x3_1) == 95) = true := beq_iff_eq.mpr c5
     have c5b1 : ((bt a0 x3_1) != 95) = false := bne_eq_false_iff_eq.mpr c5
     clear c5
     have H' := Aside0.mk H
     clear H
     have p4 : 0 ≤ (x3_1 : Int) := zO (by first | (with_reducible assumption) | assumption)
     have q4 : x3_1 < (a0.size : Int) := zO (by first | (with_reducible assumption) | assumption)
     have hx4 := zEk a0 x3_1
     replace p4 := eq_true p4
     replace q4 := eq_true q4
     go_wp2
     go_roundg k1
     case measure => have := HK1.out; omega
     case rel => exact ⟨(wrap64 (x3_1 + 1)), (by first | rfl | (simp; done) | (simp [*]; done)), H', ⟨by have := HK1.out; omega⟩, by repeat (first | exact Drawn0.refl _ | apply Drawn0.step)⟩
    rw [if_neg c5] at H
    have c5b0 : ((bt a0 x3_1) == 95) = false := beq_eq_false_iff_ne.mpr c5
    have c5b1 : ((bt a0 x3_1) != 95) = true := bne_iff_ne.mpr c5
    by_cases c6 : (bt a0 x3_1) < 97
    ·rw [if_pos c6] at H
     have c6b0 : decide ((bt a0 x3_1) < 97) = true := zT c6
     clear c6
     by_cases c7 : (bt a0 x3_1) < 48
     ·rw [if_pos c7] at H
      have c7b0 : decide ((bt a0 x3_1) < 48) = true := zT c7
      clear c7
      obtain rfl := Option.some.inj H
      have p4 : 0 ≤ (x3_1 : Int) := zO (by first | (with_reducible assumption) | assumption)
      have q4 : x3_1 < (a0.size : Int) := zO (by first | (with_reducible assumption) | assumption)
      have hx4 := zEk a0 x3_1
      replace p4 := eq_true p4
      replace q4 := eq_true q4
      go_wp2
      go_ret
      exact ⟨by first | rfl | (simp; done) | (simp [*]; done), by repeat (first | exact Drawn0.refl _ | apply Drawn0.step)⟩
     rw [if_neg c7] at H
     have c7b0 : decide ((bt a0 x3_1) < 48) = false := zF c7
     clear c7
     by_cases c8 : (bt a0 x3_1) > 57
     ·rw [if_pos c8] at H
      have c8b0 : decide (57 < (bt a0 x3_1)) = true := zT c8
      clear c8
      obtain rfl := Option.some.inj H
      have p4 : 0 ≤ (x3_1 : Int) := zO (by first | (with_reducible assumption) | assumption)
      have q4 : x3_1 < (a0.size : Int) := zO (by first | (with_reducible assumption) | assumption)
      have hx4 := zEk a0 x3_1
      replace p4 := eq_true p4
      replace q4 := eq_true q4
      go_wp2
      go_ret
      exact ⟨by first | rfl | (simp; done) | (simp [*]; done), by repeat (first | exact Drawn0.refl _ | apply Drawn0.step)⟩
     rw [if_neg c8] at H
     have c8b0 : decide (57 < (bt a0 x3_1)) = false := zF c8
     clear c8
     by_cases c9 : x3_1 = 0
     ·rw [if_pos c9] at H
      have c9b0 : (x3_1 == 0) = true := beq_iff_eq.mpr c9
      have c9b1 : (x3_1 != 0) = false := bne_eq_false_iff_eq.mpr c9
      clear c9
      obtain rfl := Option.some.inj H
      have p4 : 0 ≤ (x3_1 : Int) := zO (by first | (with_reducible assumption) | assumption)
      have q4 : x3_1 < (a0.size : Int) := zO (by first | (with_reducible assumption) | assumption)
      have hx4 := zEk a0 x3_1
      replace p4 := eq_true p4
      replace q4 := eq_true q4
      go_wp2
      go_ret
      exact ⟨by first | rfl | (simp; done) | (simp [*]; done), by repeat (first | exact Drawn0.refl _ | apply Drawn0.step)⟩
     rw [if_neg c9] at H
     have c9b0 : (x3_1 == 0) = false := beq_eq_false_iff_ne.mpr c9
     have c9b1 : (x3_1 != 0) = true := bne_iff_ne.mpr c9
     have H' := Aside0.mk H
     clear H
     have p4 : 0 ≤ (x3_1 : Int) := zO (by first | (with_reducible assumption) | assumption)
     have q4 : x3_1 < (a0.size : Int) := zO (by first | (with_reducible assumption) | assumption)
     have hx4 := zEk a0 x3_1
     replace p4 := eq_true p4
     replace q4 := eq_true q4
     go_wp2
     go_roundg k1
     case measure => have := HK1.out; omega
     case rel => exact ⟨(wrap64 (x3_1 + 1)), (by first | rfl | (simp; done) | (simp [*]; done)), H', ⟨by have := HK1.out; omega⟩, by repeat (first | exact Drawn0.refl _ | apply Drawn0.step)⟩
    rw [if_neg c6] at H
    have c6b0 : decide ((bt a0 x3_1) < 97) = false := zF c6
    clear c6
    by_cases c10 : (bt a0 x3_1) > 122
    ·rw [if_pos c10] at H
     have c10b0 : decide (122 < (bt a0 x3_1)) = true := zT c10
     clear c10
     by_cases c11 : (bt a0 x3_1) < 48
     ·rw [if_pos c11] at H
      have c11b0 : decide ((bt a0 x3_1) < 48) = true := zT c11
      clear c11
      obtain rfl := Option.some.inj H
      have p4 : 0 ≤ (x3_1 : Int) := zO (by first | (with_reducible assumption) | assumption)
      have q4 : x3_1 < (a0.size : Int) := zO (by first | (with_reducible assumption) | assumption)
      have hx4 := zEk a0 x3_1
      replace p4 := eq_true p4
      replace q4 := eq_true q4
      go_wp2
      go_ret
      exact ⟨by first | rfl | (simp; done) | (simp [*]; done), by repeat (first | exact Drawn0.refl _ | apply Drawn0.step)⟩
     rw [if_neg c11] at H
     have c11b0 : decide ((bt a0 x3_1) < 48) = false := zF c11
     clear c11
     by_cases c12 : (bt a0 x3_1) > 57
     ·rw [if_pos c12] at H
      have c12b0 : decide (57 < (bt a0 x3_1)) = true := zT c12
      clear c12
      obtain rfl := Option.some.inj H
      have p4 : 0 ≤ (x3_1 : Int) := zO (by first | (with_reducible assumption) | assumption)
      have q4 : x3_1 < (a0.size : Int) := zO (by first | (with_reducible assumption) | assumption)
      have hx4 := zEk a0 x3_1
      replace p4 := eq_true p4
      replace q4 := eq_true q4
      go_wp2
      go_ret
      exact ⟨by first | rfl | (simp; done) | (simp [*]; done), by repeat (first | exact Drawn0.refl _ | apply Drawn0.step)⟩
     rw [if_neg c12] at H
     have c12b0 : decide (57 < (bt a0 x3_1)) = false := zF c12
     clear c12
     by_cases c13 : x3_1 = 0
     ·rw [if_pos c13] at H
      have c13b0 : (x3_1 == 0) = true := beq_iff_eq.mpr c13
      have c13b1 : (x3_1 != 0) = false := bne_eq_false_iff_eq.mpr c13
      clear c13
      obtain rfl := Option.some.inj H
      have p4 : 0 ≤ (x3_1 : Int) := zO (by first | (with_reducible assumption) | assumption)
      have q4 : x3_1 < (a0.size : Int) := zO (by first | (with_reducible assumption) | assumption)
      have hx4 := zEk a0 x3_1
      replace p4 := eq_true p4
      replace q4 := eq_true q4
      go_wp2
      go_ret
      exact ⟨by first | rfl | (simp; done) | (simp [*]; done), by repeat (first | exact Drawn0.refl _ | apply Drawn0.step)⟩
     rw [if_neg c13] at H
     have c13b0 : (x3_1 == 0) = false := beq_eq_false_iff_ne.mpr c13
     have c13b1 : (x3_1 != 0) = true := bne_iff_ne.mpr c13
     have H' := Aside0.mk H
     clear H
     have p4 : 0 ≤ (x3_1 : Int) := zO (by first | (with_reducible assumption) | assumption)
     have q4 : x3_1 < (a0.size : Int) := zO (by first | (with_reducible assumption) | assumption)
     have hx4 := zEk a0 x3_1
     replace p4 := eq_true p4
     replace q4 := eq_true q4
     go_wp2
     go_roundg k1
     case measure => have := HK1.out; omega
     case rel => exact ⟨(wrap64 (x3_1 + 1)), (by first | rfl | (simp; done) | (simp [*]; done)), H', ⟨by have := HK1.out; omega⟩, by repeat (first | exact Drawn0.refl _ | apply Drawn0.step)⟩
    rw [if_neg c10] at H
    have c10b0 : decide (122 < (bt a0 x3_1)) = false := zF c10
    clear c10
    have H' := Aside0.mk H
    clear H
    have p4 : 0 ≤ (x3_1 : Int) := zO (by first | (with_reducible assumption) | assumption)
    have q4 : x3_1 < (a0.size : Int) := zO (by first | (with_reducible assumption) | assumption)
    have hx4 := zEk a0 x3_1
    replace p4 := eq_true p4
    replace q4 := eq_true q4
    go_wp2
    go_roundg k1
    case measure => have := HK1.out; omega
    case rel => exact ⟨(wrap64 (x3_1 + 1)), (by first | rfl | (simp; done) | (simp [*]; done)), H', ⟨by have := HK1.out; omega⟩, by repeat (first | exact Drawn0.refl _ | apply Drawn0.step)⟩
   rw [if_neg c3] at H
   exact absurd H (by simp)
  rw [if_neg c2] at H
  have c2b0 : decide (x3_1 < (a0.size : Int)) = false := zF c2
  clear c2
  by_cases c14 : (a0.size : Int) ≥ 1
  ·rw [if_pos c14] at H
   have c14b0 : decide (1 ≤ (a0.size : Int)) = true := zT c14
   have c14b1 : decide (1 ≤ a0.size) = true := zT (by omega)
   clear c14
   obtain rfl := Option.some.inj H
   go_wp2
   go_ret
   exact ⟨by first | rfl | (simp; done) | (simp [*]; done), by repeat (first | exact Drawn0.refl _ | apply Drawn0.step)⟩
  rw [if_neg c14] at H
  have c14b0 : decide (1 ≤ (a0.size : Int)) = false := zF c14
  have c14b1 : decide (1 ≤ a0.size) = false := zF (by omega)
  clear c14
  obtain rfl := Option.some.inj H
  go_wp2
  go_ret
  exact ⟨by first | rfl | (simp; done) | (simp [*]; done), by repeat (first | exact Drawn0.refl _ | apply Drawn0.step)⟩
def varveref12_bare.f (a0_0 : Int) (a0_1 : ByteArray) (a0_2 : ByteArray) (l0_3 : List ByteArray) (l0_4 : List (S25)) (a1 : Bool) (a2 : Bool) (a3 : Bool) : Option (Bool) := if a1 = true then (if a2 = true then (if a3 = true then (some true) else (some ((l0_4.length : Int) == 0))) else (if (l0_3.length : Int) = 0 then (if a3 = true then (some true) else (some ((l0_4.length : Int) == 0))) else (some false))) else (if a0_2.toList = ([] : List UInt8) then (if a2 = true then (if a3 = true then (some true) else (some ((l0_4.length : Int) == 0))) else (if a0_1.toList = ([] : List UInt8) then (if (l0_3.length : Int) = 0 then (if a3 = true then (some true) else (some ((l0_4.length : Int) == 0))) else (some false)) else (some false))) else (some false))
theorem varveref12_bare.calls (a0_0 : Int) (a0_1 : ByteArray) (a0_2 : ByteArray) (A0_3 : Option Addr) (c0_3 : Nat) (l0_3 : List ByteArray) (A0_4 : Option Addr) (c0_4 : Nat) (l0_4 : List (S25)) (a1 : Bool) (a2 : Bool) (a3 : Bool) (r : Bool) (w : World) (hr0_3 : Kd.C Kd.string w A0_3 l0_3.length l0_3) (hc0_3 : l0_3.length ≤ c0_3) (hr0_4 : Kd.C k25 w A0_4 l0_4.length l0_4) (hc0_4 : l0_4.length ≤ c0_4) (h : varveref12_bare.f a0_0 a0_1 a0_2 l0_3 l0_4 a1 a2 a3 = some r) :
  Calls Try.prog 147 #[.agg #[.int .i64 a0_0, .string a0_1, .string a0_2, .slice A0_3 l0_3.length c0_3, .slice A0_4 l0_4.length c0_4], .bool a1, .bool a2, .bool a3] w fun e w' => e = .returned (.bool r) ∧ Below w.heap.size w w' := by
 have hu25 := Try.underlying25
 have HR0_3 := Aside0.mk hr0_3
 have HC0_3 := Aside0.mk hc0_3
 clear hr0_3 hc0_3
 have HR0_4 := Aside0.mk hr0_4
 have HC0_4 := Aside0.mk hc0_4
 clear hr0_4 hc0_4
 have HB := Aside0.mk (Below.refl w.heap.size w)
 have H : (if a1 = true then (if a2 = true then (if a3 = true then (some true) else (some ((l0_4.length : Int) == 0))) else (if (l0_3.length : Int) = 0 then (if a3 = true then (some true) else (some ((l0_4.length : Int) == 0))) else (some false))) else (if a0_2.toList = ([] : List UInt8) then (if a2 = true then (if a3 = true then (some true) else (some ((l0_4.length : Int) == 0))) else (if a0_1.toList = ([] : List UInt8) then (if (l0_3.length : Int) = 0 then (if a3 = true then (some true) else (some ((l0_4.length : Int) == 0))) else (some false)) else (some false))) else (some false))) = some r := h
 clear h
 by_cases c5 : a1 = true
 ·subst c5
  have H1 : (if a2 = true then (if a3 = true then (some true) else (some ((l0_4.length : Int) == 0))) else (if (l0_3.length : Int) = 0 then (if a3 = true then (some true) else (some ((l0_4.length : Int) == 0))) else (some false))) = some r := by rw [if_pos rfl] at H; exact H
  clear H
  have H := H1
  clear H1
  by_cases c6 : a2 = true
  ·subst c6
   have H1 : (if a3 = true then (some true) else (some ((l0_4.length : Int) == 0))) = some r := by rw [if_pos rfl] at H; exact H
   clear H
   have H := H1
   clear H1
   by_cases c7 : a3 = true
   ·subst c7
    have H1 : (some true) = some r := by rw [if_pos rfl] at H; exact H
    clear H
    have H := H1
    clear H1
    obtain rfl := Option.some.inj H
    go_enter Try.func147, Try.ntmps147
    go_wp2_with (first | ((with_reducible refine zBe (N := 4) rfl ?_); (try (refine zCa (by rfl) ?_; dsimp only)); refine zBb ?hg (N := 4) ?hd (cs := #[.int .i64 a0_0, .string a0_1, .string a0_2, .slice A0_3 l0_3.length c0_3, .slice A0_4 l0_4.length c0_4]) (t := 25) ?hr ?_; (case hd => rfl); (case hg => rfl); (case hr => first | (go_simp; done) | (go_simp; rfl)); intro gb157 hg w8 hbox hb; have n0_ := Aside0.mk (zAe (by repeat (first | (with_reducible first | exact HB.out | apply zAc | apply zAd | apply zAg) | exact HB.out)) hb); have n1_ := Aside0.mk (hbox); have n2_ := Aside0.mk ((by rw [hg]; exact (zAi (by repeat (first | (with_reducible first | exact HB.out | apply zAc | apply zAd | apply zAg) | exact HB.out))) : w.heap.size ≤ gb157)); have n3_ := Aside0.mk ((by rw [hg]; exact (zAi (by repeat (first | (with_reducible first | exact HB.out | apply zAc | apply zAd | apply zAg) | exact HB.out))) : w.heap.size ≤ gb157)); clear HB; have HB := n0_; have BK157 := n1_; have GW157 := n2_; have GE157 := n3_; clear n0_ n1_ n2_ n3_; clear hb hbox hg))
    go_ret
    exact ⟨by first | rfl | (simp [zAl, zAk] <;> rfl) | (simp [*, zAl, zAk] <;> rfl), by repeat (first | (with_reducible first | exact HB.out | apply zAc | apply zAd | apply zAg | refine zAh ?_ GE157.out) | exact HB.out)⟩
   replace c7 := Bool.eq_false_iff.mpr c7
   subst c7
   have H1 : (some ((l0_4.length : Int) == 0)) = some r := by rw [if_neg (show ¬ (false = true) by decide)] at H; exact H
   clear H
   have H := H1
   clear H1
   obtain rfl := Option.some.inj H
   go_enter Try.func147, Try.ntmps147
   go_wp2_with (first | ((with_reducible refine zBe (N := 4) rfl ?_); (try (refine zCa (by rfl) ?_; dsimp only)); refine zBb ?hg (N := 4) ?hd (cs := #[.int .i64 a0_0, .string a0_1, .string a0_2, .slice A0_3 l0_3.length c0_3, .slice A0_4 l0_4.length c0_4]) (t := 25) ?hr ?_; (case hd => rfl); (case hg => rfl); (case hr => first | (go_simp; done) | (go_simp; rfl)); intro gb157 hg w9 hbox hb; have n0_ := Aside0.mk (zAe (by repeat (first | (with_reducible first | exact HB.out | apply zAc | apply zAd | apply zAg) | exact HB.out)) hb); have n1_ := Aside0.mk (hbox); have n2_ := Aside0.mk ((by rw [hg]; exact (zAi (by repeat (first | (with_reducible first | exact HB.out | apply zAc | apply zAd | apply zAg) | exact HB.out))) : w.heap.size ≤ gb157)); have n3_ := Aside0.mk ((by rw [hg]; exact (zAi (by repeat (first | (with_reducible first | exact HB.out | apply zAc | apply zAd | apply zAg) | exact HB.out))) : w.heap.size ≤ gb157)); clear HB; have HB := n0_; have BK157 := n1_; have GW157 := n2_; have GE157 := n3_; clear n0_ n1_ n2_ n3_; clear hb hbox hg; have hcz10_0 : w9.cell? ⟨gb157, 0, none⟩ = some (.int .i64 a0_0) := (zAb BK157.out 0).trans rfl; have hcz10_1 : w9.cell? ⟨gb157, 1, none⟩ = some (.string a0_1) := (zAb BK157.out 1).trans rfl; have hcz10_2 : w9.cell? ⟨gb157, 2, none⟩ = some (.string a0_2) := (zAb BK157.out 2).trans rfl; have hcz10_3 : w9.cell? ⟨gb157, 3, none⟩ = some (.slice A0_3 l0_3.length c0_3) := (zAb BK157.out 3).trans rfl; have hcz10_4 : w9.cell? ⟨gb157, 4, none⟩ = some (.slice A0_4 l0_4.length c0_4) := (zAb BK157.out 4).trans rfl; have hfz10_0 := zAa BK157.out 0; have hfz10_1 := zAa BK157.out 1; have hfz10_2 := zAa BK157.out 2; have hfz10_3 := zAa BK157.out 3; have hfz10_4 := zAa BK157.out 4))
   go_ret
   exact ⟨by first | rfl | (simp [zAl, zAk] <;> rfl) | (simp [*, zAl, zAk] <;> rfl), by repeat (first | (with_reducible first | exact HB.out | apply zAc | apply zAd | apply zAg | refine zAh ?_ GE157.out) | exact HB.out)⟩
  replace c6 := Bool.eq_false_iff.mpr c6
  subst c6
  have H1 : (if (l0_3.length : Int) = 0 then (if a3 = true then (some true) else (some ((l0_4.length : Int) == 0))) else (some false)) = some r := by rw [if_neg (show ¬ (false = true) by decide)] at H; exact H
  clear H
  have H := H1
  clear H1
  by_cases c11 : (l0_3.length : Int) = 0
  ·rw [if_pos c11] at H
   have c11b0 : ((l0_3.length : Int) == 0) = true := beq_iff_eq.mpr c11
   have c11b1 : ((l0_3.length : Int) != 0) = false := bne_eq_false_iff_eq.mpr c11
   clear c11
   by_cases c12 : a3 = true
   ·subst c12
    have H1 : (some true) = some r := by rw [if_pos rfl] at H; exact H
    clear H
    have H := H1
    clear H1
    obtain rfl := Option.some.inj H
    go_enter Try.func147, Try.ntmps147
    go_wp2_with (first | ((with_reducible refine zBe (N := 4) rfl ?_); (try (refine zCa (by rfl) ?_; dsimp only)); refine zBb ?hg (N := 4) ?hd (cs := #[.int .i64 a0_0, .string a0_1, .string a0_2, .slice A0_3 l0_3.length c0_3, .slice A0_4 l0_4.length c0_4]) (t := 25) ?hr ?_; (case hd => rfl); (case hg => rfl); (case hr => first | (go_simp; done) | (go_simp; rfl)); intro gb157 hg w13 hbox hb; have n0_ := Aside0.mk (zAe (by repeat (first | (with_reducible first | exact HB.out | apply zAc | apply zAd | apply zAg) | exact HB.out)) hb); have n1_ := Aside0.mk (hbox); have n2_ := Aside0.mk ((by rw [hg]; exact (zAi (by repeat (first | (with_reducible first | exact HB.out | apply zAc | apply zAd | apply zAg) | exact HB.out))) : w.heap.size ≤ gb157)); have n3_ := Aside0.mk ((by rw [hg]; exact (zAi (by repeat (first | (with_reducible first | exact HB.out | apply zAc | apply zAd | apply zAg) | exact HB.out))) : w.heap.size ≤ gb157)); clear HB; have HB := n0_; have BK157 := n1_; have GW157 := n2_; have GE157 := n3_; clear n0_ n1_ n2_ n3_; clear hb hbox hg; have hcz14_0 : w13.cell? ⟨gb157, 0, none⟩ = some (.int .i64 a0_0) := (zAb BK157.out 0).trans rfl; have hcz14_1 : w13.cell? ⟨gb157, 1, none⟩ = some (.string a0_1) := (zAb BK157.out 1).trans rfl; have hcz14_2 : w13.cell? ⟨gb157, 2, none⟩ = some (.string a0_2) := (zAb BK157.out 2).trans rfl; have hcz14_3 : w13.cell? ⟨gb157, 3, none⟩ = some (.slice A0_3 l0_3.length c0_3) := (zAb BK157.out 3).trans rfl; have hcz14_4 : w13.cell? ⟨gb157, 4, none⟩ = some (.slice A0_4 l0_4.length c0_4) := (zAb BK157.out 4).trans rfl; have hfz14_0 := zAa BK157.out 0; have hfz14_1 := zAa BK157.out 1; have hfz14_2 := zAa BK157.out 2; have hfz14_3 := zAa BK157.out 3; have hfz14_4 := zAa BK157.out 4))
    go_ret
    exact ⟨by first | rfl | (simp [zAl, zAk] <;> rfl) | (simp [*, zAl, zAk] <;> rfl), by repeat (first | (with_reducible first | exact HB.out | apply zAc | apply zAd | apply zAg | refine zAh ?_ GE157.out) | exact HB.out)⟩
   replace c12 := Bool.eq_false_iff.mpr c12
   subst c12
   have H1 : (some ((l0_4.length : Int) == 0)) = some r := by rw [if_neg (show ¬ (false = true) by decide)] at H; exact H
   clear H
   have H := H1
   clear H1
   obtain rfl := Option.some.inj H
   go_enter Try.func147, Try.ntmps147
   go_wp2_with (first | ((with_reducible refine zBe (N := 4) rfl ?_); (try (refine zCa (by rfl) ?_; dsimp only)); refine zBb ?hg (N := 4) ?hd (cs := #[.int .i64 a0_0, .string a0_1, .string a0_2, .slice A0_3 l0_3.length c0_3, .slice A0_4 l0_4.length c0_4]) (t := 25) ?hr ?_; (case hd => rfl); (case hg => rfl); (case hr => first | (go_simp; done) | (go_simp; rfl)); intro gb157 hg w15 hbox hb; have n0_ := Aside0.mk (zAe (by repeat (first | (with_reducible first | exact HB.out | apply zAc | apply zAd | apply zAg) | exact HB.out)) hb); have n1_ := Aside0.mk (hbox); have n2_ := Aside0.mk ((by rw [hg]; exact (zAi (by repeat (first | (with_reducible first | exact HB.out | apply zAc | apply zAd | apply zAg) | exact HB.out))) : w.heap.size ≤ gb157)); have n3_ := Aside0.mk ((by rw [hg]; exact (zAi (by repeat (first | (with_reducible first | exact HB.out | apply zAc | apply zAd | apply zAg) | exact HB.out))) : w.heap.size ≤ gb157)); clear HB; have HB := n0_; have BK157 := n1_; have GW157 := n2_; have GE157 := n3_; clear n0_ n1_ n2_ n3_; clear hb hbox hg; have hcz16_0 : w15.cell? ⟨gb157, 0, none⟩ = some (.int .i64 a0_0) := (zAb BK157.out 0).trans rfl; have hcz16_1 : w15.cell? ⟨gb157, 1, none⟩ = some (.string a0_1) := (zAb BK157.out 1).trans rfl; have hcz16_2 : w15.cell? ⟨gb157, 2, none⟩ = some (.string a0_2) := (zAb BK157.out 2).trans rfl; have hcz16_3 : w15.cell? ⟨gb157, 3, none⟩ = some (.slice A0_3 l0_3.length c0_3) := (zAb BK157.out 3).trans rfl; have hcz16_4 : w15.cell? ⟨gb157, 4, none⟩ = some (.slice A0_4 l0_4.length c0_4) := (zAb BK157.out 4).trans rfl; have hfz16_0 := zAa BK157.out 0; have hfz16_1 := zAa BK157.out 1; have hfz16_2 := zAa BK157.out 2; have hfz16_3 := zAa BK157.out 3; have hfz16_4 := zAa BK157.out 4))
   go_ret
   exact ⟨by first | rfl | (simp [zAl, zAk] <;> rfl) | (simp [*, zAl, zAk] <;> rfl), by repeat (first | (with_reducible first | exact HB.out | apply zAc | apply zAd | apply zAg | refine zAh ?_ GE157.out) | exact HB.out)⟩
  rw [if_neg c11] at H
  have c11b0 : ((l0_3.length : Int) == 0) = false := beq_eq_false_iff_ne.mpr c11
  have c11b1 : ((l0_3.length : Int) != 0) = true := bne_iff_ne.mpr c11
  have c11b2 : ¬ (l0_3 = []) := fun h_ => c11 (by rw [h_]; rfl)
  obtain rfl := Option.some.inj H
  go_enter Try.func147, Try.ntmps147
  go_wp2_with (first | ((with_reducible refine zBe (N := 4) rfl ?_); (try (refine zCa (by rfl) ?_; dsimp only)); refine zBb ?hg (N := 4) ?hd (cs := #[.int .i64 a0_0, .string a0_1, .string a0_2, .slice A0_3 l0_3.length c0_3, .slice A0_4 l0_4.length c0_4]) (t := 25) ?hr ?_; (case hd => rfl); (case hg => rfl); (case hr => first | (go_simp; done) | (go_simp; rfl)); intro gb157 hg w17 hbox hb; have n0_ := Aside0.mk (zAe (by repeat (first | (with_reducible first | exact HB.out | apply zAc | apply zAd | apply zAg) | exact HB.out)) hb); have n1_ := Aside0.mk (hbox); have n2_ := Aside0.mk ((by rw [hg]; exact (zAi (by repeat (first | (with_reducible first | exact HB.out | apply zAc | apply zAd | apply zAg) | exact HB.out))) : w.heap.size ≤ gb157)); have n3_ := Aside0.mk ((by rw [hg]; exact (zAi (by repeat (first | (with_reducible first | exact HB.out | apply zAc | apply zAd | apply zAg) | exact HB.out))) : w.heap.size ≤ gb157)); clear HB; have HB := n0_; have BK157 := n1_; have GW157 := n2_; have GE157 := n3_; clear n0_ n1_ n2_ n3_; clear hb hbox hg; have hcz18_0 : w17.cell? ⟨gb157, 0, none⟩ = some (.int .i64 a0_0) := (zAb BK157.out 0).trans rfl; have hcz18_1 : w17.cell? ⟨gb157, 1, none⟩ = some (.string a0_1) := (zAb BK157.out 1).trans rfl; have hcz18_2 : w17.cell? ⟨gb157, 2, none⟩ = some (.string a0_2) := (zAb BK157.out 2).trans rfl; have hcz18_3 : w17.cell? ⟨gb157, 3, none⟩ = some (.slice A0_3 l0_3.length c0_3) := (zAb BK157.out 3).trans rfl; have hcz18_4 : w17.cell? ⟨gb157, 4, none⟩ = some (.slice A0_4 l0_4.length c0_4) := (zAb BK157.out 4).trans rfl; have hfz18_0 := zAa BK157.out 0; have hfz18_1 := zAa BK157.out 1; have hfz18_2 := zAa BK157.out 2; have hfz18_3 := zAa BK157.out 3; have hfz18_4 := zAa BK157.out 4))
  go_ret
  exact ⟨by first | rfl | (simp [zAl, zAk] <;> rfl) | (simp [*, zAl, zAk] <;> rfl), by repeat (first | (with_reducible first | exact HB.out | apply zAc | apply zAd | apply zAg | refine zAh ?_ GE157.out) | exact HB.out)⟩
 replace c5 := Bool.eq_false_iff.mpr c5
 subst c5
 have H1 : (if a0_2.toList = ([] : List UInt8) then (if a2 = true then (if a3 = true then (some true) else (some ((l0_4.length : Int) == 0))) else (if a0_1.toList = ([] : List UInt8) then (if (l0_3.length : Int) = 0 then (if a3 = true then (some true) else (some ((l0_4.length : Int) == 0))) else (some false)) else (some false))) else (some false)) = some r := by rw [if_neg (show ¬ (false = true) by decide)] at H; exact H
 clear H
 have H := H1
 clear H1
 by_cases c19 : a0_2.toList = ([] : List UInt8)
 ·rw [if_pos c19] at H
  have c19b0 : (a0_2.toList == ([] : List UInt8)) = true := beq_iff_eq.mpr c19
  have c19b1 : (a0_2.toList != ([] : List UInt8)) = false := bne_eq_false_iff_eq.mpr c19
  clear c19
  by_cases c20 : a2 = true
  ·subst c20
   have H1 : (if a3 = true then (some true) else (some ((l0_4.length : Int) == 0))) = some r := by rw [if_pos rfl] at H; exact H
   clear H
   have H := H1
   clear H1
   by_cases c21 : a3 = true
   ·subst c21
    have H1 : (some true) = some r := by rw [if_pos rfl] at H; exact H
    clear H
    have H := H1
    clear H1
    obtain rfl := Option.some.inj H
    go_enter Try.func147, Try.ntmps147
    go_wp2_with (first | ((with_reducible refine zBe (N := 4) rfl ?_); (try (refine zCa (by rfl) ?_; dsimp only)); refine zBb ?hg (N := 4) ?hd (cs := #[.int .i64 a0_0, .string a0_1, .string a0_2, .slice A0_3 l0_3.length c0_3, .slice A0_4 l0_4.length c0_4]) (t := 25) ?hr ?_; (case hd => rfl); (case hg => rfl); (case hr => first | (go_simp; done) | (go_simp; rfl)); intro gb157 hg w22 hbox hb; have n0_ := Aside0.mk (zAe (by repeat (first | (with_reducible first | exact HB.out | apply zAc | apply zAd | apply zAg) | exact HB.out)) hb); have n1_ := Aside0.mk (hbox); have n2_ := Aside0.mk ((by rw [hg]; exact (zAi (by repeat (first | (with_reducible first | exact HB.out | apply zAc | apply zAd | apply zAg) | exact HB.out))) : w.heap.size ≤ gb157)); have n3_ := Aside0.mk ((by rw [hg]; exact (zAi (by repeat (first | (with_reducible first | exact HB.out | apply zAc | apply zAd | apply zAg) | exact HB.out))) : w.heap.size ≤ gb157)); clear HB; have HB := n0_; have BK157 := n1_; have GW157 := n2_; have GE157 := n3_; clear n0_ n1_ n2_ n3_; clear hb hbox hg; have hcz23_0 : w22.cell? ⟨gb157, 0, none⟩ = some (.int .i64 a0_0) := (zAb BK157.out 0).trans rfl; have hcz23_1 : w22.cell? ⟨gb157, 1, none⟩ = some (.string a0_1) := (zAb BK157.out 1).trans rfl; have hcz23_2 : w22.cell? ⟨gb157, 2, none⟩ = some (.string a0_2) := (zAb BK157.out 2).trans rfl; have hcz23_3 : w22.cell? ⟨gb157, 3, none⟩ = some (.slice A0_3 l0_3.length c0_3) := (zAb BK157.out 3).trans rfl; have hcz23_4 : w22.cell? ⟨gb157, 4, none⟩ = some (.slice A0_4 l0_4.length c0_4) := (zAb BK157.out 4).trans rfl; have hfz23_0 := zAa BK157.out 0; have hfz23_1 := zAa BK157.out 1; have hfz23_2 := zAa BK157.out 2; have hfz23_3 := zAa BK157.out 3; have hfz23_4 := zAa BK157.out 4))
    go_ret
    exact ⟨by first | rfl | (simp [zAl, zAk] <;> rfl) | (simp [*, zAl, zAk] <;> rfl), by repeat (first | (with_reducible first | exact HB.out | apply zAc | apply zAd | apply zAg | refine zAh ?_ GE157.out) | exact HB.out)⟩
   replace c21 := Bool.eq_false_iff.mpr c21
   subst c21
   have H1 : (some ((l0_4.length : Int) == 0)) = some r := by rw [if_neg (show ¬ (false = true) by decide)] at H; exact H
   clear H
   have H := H1
   clear H1
   obtain rfl := Option.some.inj H
   go_enter Try.func147, Try.ntmps147
   go_wp2_with (first | ((with_reducible refine zBe (N := 4) rfl ?_); (try (refine zCa (by rfl) ?_; dsimp only)); refine zBb ?hg (N := 4) ?hd (cs := #[.int .i64 a0_0, .string a0_1, .string a0_2, .slice A0_3 l0_3.length c0_3, .slice A0_4 l0_4.length c0_4]) (t := 25) ?hr ?_; (case hd => rfl); (case hg => rfl); (case hr => first | (go_simp; done) | (go_simp; rfl)); intro gb157 hg w24 hbox hb; have n0_ := Aside0.mk (zAe (by repeat (first | (with_reducible first | exact HB.out | apply zAc | apply zAd | apply zAg) | exact HB.out)) hb); have n1_ := Aside0.mk (hbox); have n2_ := Aside0.mk ((by rw [hg]; exact (zAi (by repeat (first | (with_reducible first | exact HB.out | apply zAc | apply zAd | apply zAg) | exact HB.out))) : w.heap.size ≤ gb157)); have n3_ := Aside0.mk ((by rw [hg]; exact (zAi (by repeat (first | (with_reducible first | exact HB.out | apply zAc | apply zAd | apply zAg) | exact HB.out))) : w.heap.size ≤ gb157)); clear HB; have HB := n0_; have BK157 := n1_; have GW157 := n2_; have GE157 := n3_; clear n0_ n1_ n2_ n3_; clear hb hbox hg; have hcz25_0 : w24.cell? ⟨gb157, 0, none⟩ = some (.int .i64 a0_0) := (zAb BK157.out 0).trans rfl; have hcz25_1 : w24.cell? ⟨gb157, 1, none⟩ = some (.string a0_1) := (zAb BK157.out 1).trans rfl; have hcz25_2 : w24.cell? ⟨gb157, 2, none⟩ = some (.string a0_2) := (zAb BK157.out 2).trans rfl; have hcz25_3 : w24.cell? ⟨gb157, 3, none⟩ = some (.slice A0_3 l0_3.length c0_3) := (zAb BK157.out 3).trans rfl; have hcz25_4 : w24.cell? ⟨gb157, 4, none⟩ = some (.slice A0_4 l0_4.length c0_4) := (zAb BK157.out 4).trans rfl; have hfz25_0 := zAa BK157.out 0; have hfz25_1 := zAa BK157.out 1; have hfz25_2 := zAa BK157.out 2; have hfz25_3 := zAa BK157.out 3; have hfz25_4 := zAa BK157.out 4))
   go_ret
   exact ⟨by first | rfl | (simp [zAl, zAk] <;> rfl) | (simp [*, zAl, zAk] <;> rfl), by repeat (first | (with_reducible first | exact HB.out | apply zAc | apply zAd | apply zAg | refine zAh ?_ GE157.out) | exact HB.out)⟩
  replace c20 := Bool.eq_false_iff.mpr c20
  subst c20
  have H1 : (if a0_1.toList = ([] : List UInt8) then (if (l0_3.length : Int) = 0 then (if a3 = true then (some true) else (some ((l0_4.length : Int) == 0))) else (some false)) else (some false)) = some r := by rw [if_neg (show ¬ (false = true) by decide)] at H; exact H
  clear H
  have H := H1
  clear H1
  by_cases c26 : a0_1.toList = ([] : List UInt8)
  ·rw [if_pos c26] at H
   have c26b0 : (a0_1.toList == ([] : List UInt8)) = true := beq_iff_eq.mpr c26
   have c26b1 : (a0_1.toList != ([] : List UInt8)) = false := bne_eq_false_iff_eq.mpr c26
   clear c26
   by_cases c27 : (l0_3.length : Int) = 0
   ·rw [if_pos c27] at H
    have c27b0 : ((l0_3.length : Int) == 0) = true := beq_iff_eq.mpr c27
    have c27b1 : ((l0_3.length : Int) != 0) = false := bne_eq_false_iff_eq.mpr c27
    clear c27
    by_cases c28 : a3 = true
    ·subst c28
     have H1 : (some true) = some r := by rw [if_pos rfl] at H; exact H
     clear H
     have H := H1
     clear H1
     obtain rfl := Option.some.inj H
     go_enter Try.func147, Try.ntmps147
     go_wp2_with (first | ((with_reducible refine zBe (N := 4) rfl ?_); (try (refine zCa (by rfl) ?_; dsimp only)); refine zBb ?hg (N := 4) ?hd (cs := #[.int .i64 a0_0, .string a0_1, .string a0_2, .slice A0_3 l0_3.length c0_3, .slice A0_4 l0_4.length c0_4]) (t := 25) ?hr ?_; (case hd => rfl); (case hg => rfl); (case hr => first | (go_simp; done) | (go_simp; rfl)); intro gb157 hg w29 hbox hb; have n0_ := Aside0.mk (zAe (by repeat (first | (with_reducible first | exact HB.out | apply zAc | apply zAd | apply zAg) | exact HB.out)) hb); have n1_ := Aside0.mk (hbox); have n2_ := Aside0.mk ((by rw [hg]; exact (zAi (by repeat (first | (with_reducible first | exact HB.out | apply zAc | apply zAd | apply zAg) | exact HB.out))) : w.heap.size ≤ gb157)); have n3_ := Aside0.mk ((by rw [hg]; exact (zAi (by repeat (first | (with_reducible first | exact HB.out | apply zAc | apply zAd | apply zAg) | exact HB.out))) : w.heap.size ≤ gb157)); clear HB; have HB := n0_; have BK157 := n1_; have GW157 := n2_; have GE157 := n3_; clear n0_ n1_ n2_ n3_; clear hb hbox hg; have hcz30_0 : w29.cell? ⟨gb157, 0, none⟩ = some (.int .i64 a0_0) := (zAb BK157.out 0).trans rfl; have hcz30_1 : w29.cell? ⟨gb157, 1, none⟩ = some (.string a0_1) := (zAb BK157.out 1).trans rfl; have hcz30_2 : w29.cell? ⟨gb157, 2, none⟩ = some (.string a0_2) := (zAb BK157.out 2).trans rfl; have hcz30_3 : w29.cell? ⟨gb157, 3, none⟩ = some (.slice A0_3 l0_3.length c0_3) := (zAb BK157.out 3).trans rfl; have hcz30_4 : w29.cell? ⟨gb157, 4, none⟩ = some (.slice A0_4 l0_4.length c0_4) := (zAb BK157.out 4).trans rfl; have hfz30_0 := zAa BK157.out 0; have hfz30_1 := zAa BK157.out 1; have hfz30_2 := zAa BK157.out 2; have hfz30_3 := zAa BK157.out 3; have hfz30_4 := zAa BK157.out 4))
     go_ret
     exact ⟨by first | rfl | (simp [zAl, zAk] <;> rfl) | (simp [*, zAl, zAk] <;> rfl), by repeat (first | (with_reducible first | exact HB.out | apply zAc | apply zAd | apply zAg | refine zAh ?_ GE157.out) | exact HB.out)⟩
    replace c28 := Bool.eq_false_iff.mpr c28
    subst c28
    have H1 : (some ((l0_4.length : Int) == 0)) = some r := by rw [if_neg (show ¬ (false = true) by decide)] at H; exact H
    clear H
    have H := H1
    clear H1
    obtain rfl := Option.some.inj H
    go_enter Try.func147, Try.ntmps147
    go_wp2_with (first | ((with_reducible refine zBe (N := 4) rfl ?_); (try (refine zCa (by rfl) ?_; dsimp only)); refine zBb ?hg (N := 4) ?hd (cs := #[.int .i64 a0_0, .string a0_1, .string a0_2, .slice A0_3 l0_3.length c0_3, .slice A0_4 l0_4.length c0_4]) (t := 25) ?hr ?_; (case hd => rfl); (case hg => rfl); (case hr => first | (go_simp; done) | (go_simp; rfl)); intro gb157 hg w31 hbox hb; have n0_ := Aside0.mk (zAe (by repeat (first | (with_reducible first | exact HB.out | apply zAc | apply zAd | apply zAg) | exact HB.out)) hb); have n1_ := Aside0.mk (hbox); have n2_ := Aside0.mk ((by rw [hg]; exact (zAi (by repeat (first | (with_reducible first | exact HB.out | apply zAc | apply zAd | apply zAg) | exact HB.out))) : w.heap.size ≤ gb157)); have n3_ := Aside0.mk ((by rw [hg]; exact (zAi (by repeat (first | (with_reducible first | exact HB.out | apply zAc | apply zAd | apply zAg) | exact HB.out))) : w.heap.size ≤ gb157)); clear HB; have HB := n0_; have BK157 := n1_; have GW157 := n2_; have GE157 := n3_; clear n0_ n1_ n2_ n3_; clear hb hbox hg; have hcz32_0 : w31.cell? ⟨gb157, 0, none⟩ = some (.int .i64 a0_0) := (zAb BK157.out 0).trans rfl; have hcz32_1 : w31.cell? ⟨gb157, 1, none⟩ = some (.string a0_1) := (zAb BK157.out 1).trans rfl; have hcz32_2 : w31.cell? ⟨gb157, 2, none⟩ = some (.string a0_2) := (zAb BK157.out 2).trans rfl; have hcz32_3 : w31.cell? ⟨gb157, 3, none⟩ = some (.slice A0_3 l0_3.length c0_3) := (zAb BK157.out 3).trans rfl; have hcz32_4 : w31.cell? ⟨gb157, 4, none⟩ = some (.slice A0_4 l0_4.length c0_4) := (zAb BK157.out 4).trans rfl; have hfz32_0 := zAa BK157.out 0; have hfz32_1 := zAa BK157.out 1; have hfz32_2 := zAa BK157.out 2; have hfz32_3 := zAa BK157.out 3; have hfz32_4 := zAa BK157.out 4))
    go_ret
    exact ⟨by first | rfl | (simp [zAl, zAk] <;> rfl) | (simp [*, zAl, zAk] <;> rfl), by repeat (first | (with_reducible first | exact HB.out | apply zAc | apply zAd | apply zAg | refine zAh ?_ GE157.out) | exact HB.out)⟩
   rw [if_neg c27] at H
   have c27b0 : ((l0_3.length : Int) == 0) = false := beq_eq_false_iff_ne.mpr c27
   have c27b1 : ((l0_3.length : Int) != 0) = true := bne_iff_ne.mpr c27
   have c27b2 : ¬ (l0_3 = []) := fun h_ => c27 (by rw [h_]; rfl)
   obtain rfl := Option.some.inj H
   go_enter Try.func147, Try.ntmps147
   go_wp2_with (first | ((with_reducible refine zBe (N := 4) rfl ?_); (try (refine zCa (by rfl) ?_; dsimp only)); refine zBb ?hg (N := 4) ?hd (cs := #[.int .i64 a0_0, .string a0_1, .string a0_2, .slice A0_3 l0_3.length c0_3, .slice A0_4 l0_4.length c0_4]) (t := 25) ?hr ?_; (case hd => rfl); (case hg => rfl); (case hr => first | (go_simp; done) | (go_simp; rfl)); intro gb157 hg w33 hbox hb; have n0_ := Aside0.mk (zAe (by repeat (first | (with_reducible first | exact HB.out | apply zAc | apply zAd | apply zAg) | exact HB.out)) hb); have n1_ := Aside0.mk (hbox); have n2_ := Aside0.mk ((by rw [hg]; exact (zAi (by repeat (first | (with_reducible first | exact HB.out | apply zAc | apply zAd | apply zAg) | exact HB.out))) : w.heap.size ≤ gb157)); have n3_ := Aside0.mk ((by rw [hg]; exact (zAi (by repeat (first | (with_reducible first | exact HB.out | apply zAc | apply zAd | apply zAg) | exact HB.out))) : w.heap.size ≤ gb157)); clear HB; have HB := n0_; have BK157 := n1_; have GW157 := n2_; have GE157 := n3_; clear n0_ n1_ n2_ n3_; clear hb hbox hg; have hcz34_0 : w33.cell? ⟨gb157, 0, none⟩ = some (.int .i64 a0_0) := (zAb BK157.out 0).trans rfl; have hcz34_1 : w33.cell? ⟨gb157, 1, none⟩ = some (.string a0_1) := (zAb BK157.out 1).trans rfl; have hcz34_2 : w33.cell? ⟨gb157, 2, none⟩ = some (.string a0_2) := (zAb BK157.out 2).trans rfl; have hcz34_3 : w33.cell? ⟨gb157, 3, none⟩ = some (.slice A0_3 l0_3.length c0_3) := (zAb BK157.out 3).trans rfl; have hcz34_4 : w33.cell? ⟨gb157, 4, none⟩ = some (.slice A0_4 l0_4.length c0_4) := (zAb BK157.out 4).trans rfl; have hfz34_0 := zAa BK157.out 0; have hfz34_1 := zAa BK157.out 1; have hfz34_2 := zAa BK157.out 2; have hfz34_3 := zAa BK157.out 3; have hfz34_4 := zAa BK157.out 4))
   go_ret
   exact ⟨by first | rfl | (simp [zAl, zAk] <;> rfl) | (simp [*, zAl, zAk] <;> rfl), by repeat (first | (with_reducible first | exact HB.out | apply zAc | apply zAd | apply zAg | refine zAh ?_ GE157.out) | exact HB.out)⟩
  rw [if_neg c26] at H
  have c26b0 : (a0_1.toList == ([] : List UInt8)) = false := beq_eq_false_iff_ne.mpr c26
  have c26b1 : (a0_1.toList != ([] : List UInt8)) = true := bne_iff_ne.mpr c26
  obtain rfl := Option.some.inj H
  go_enter Try.func147, Try.ntmps147
  go_wp2_with (first | ((with_reducible refine zBe (N := 4) rfl ?_); (try (refine zCa (by rfl) ?_; dsimp only)); refine zBb ?hg (N := 4) ?hd (cs := #[.int .i64 a0_0, .string a0_1, .string a0_2, .slice A0_3 l0_3.length c0_3, .slice A0_4 l0_4.length c0_4]) (t := 25) ?hr ?_; (case hd => rfl); (case hg => rfl); (case hr => first | (go_simp; done) | (go_simp; rfl)); intro gb157 hg w35 hbox hb; have n0_ := Aside0.mk (zAe (by repeat (first | (with_reducible first | exact HB.out | apply zAc | apply zAd | apply zAg) | exact HB.out)) hb); have n1_ := Aside0.mk (hbox); have n2_ := Aside0.mk ((by rw [hg]; exact (zAi (by repeat (first | (with_reducible first | exact HB.out | apply zAc | apply zAd | apply zAg) | exact HB.out))) : w.heap.size ≤ gb157)); have n3_ := Aside0.mk ((by rw [hg]; exact (zAi (by repeat (first | (with_reducible first | exact HB.out | apply zAc | apply zAd | apply zAg) | exact HB.out))) : w.heap.size ≤ gb157)); clear HB; have HB := n0_; have BK157 := n1_; have GW157 := n2_; have GE157 := n3_; clear n0_ n1_ n2_ n3_; clear hb hbox hg; have hcz36_0 : w35.cell? ⟨gb157, 0, none⟩ = some (.int .i64 a0_0) := (zAb BK157.out 0).trans rfl; have hcz36_1 : w35.cell? ⟨gb157, 1, none⟩ = some (.string a0_1) := (zAb BK157.out 1).trans rfl; have hcz36_2 : w35.cell? ⟨gb157, 2, none⟩ = some (.string a0_2) := (zAb BK157.out 2).trans rfl; have hcz36_3 : w35.cell? ⟨gb157, 3, none⟩ = some (.slice A0_3 l0_3.length c0_3) := (zAb BK157.out 3).trans rfl; have hcz36_4 : w35.cell? ⟨gb157, 4, none⟩ = some (.slice A0_4 l0_4.length c0_4) := (zAb BK157.out 4).trans rfl; have hfz36_0 := zAa BK157.out 0; have hfz36_1 := zAa BK157.out 1; have hfz36_2 := zAa BK157.out 2; have hfz36_3 := zAa BK157.out 3; have hfz36_4 := zAa BK157.out 4))
  go_ret
  exact ⟨by first | rfl | (simp [zAl, zAk] <;> rfl) | (simp [*, zAl, zAk] <;> rfl), by repeat (first | (with_reducible first | exact HB.out | apply zAc | apply zAd | apply zAg | refine zAh ?_ GE157.out) | exact HB.out)⟩
 rw [if_neg c19] at H
 have c19b0 : (a0_2.toList == ([] : List UInt8)) = false := beq_eq_false_iff_ne.mpr c19
 have c19b1 : (a0_2.toList != ([] : List UInt8)) = true := bne_iff_ne.mpr c19
 obtain rfl := Option.some.inj H
 go_enter Try.func147, Try.ntmps147
 go_wp2_with (first | ((with_reducible refine zBe (N := 4) rfl ?_); (try (refine zCa (by rfl) ?_; dsimp only)); refine zBb ?hg (N := 4) ?hd (cs := #[.int .i64 a0_0, .string a0_1, .string a0_2, .slice A0_3 l0_3.length c0_3, .slice A0_4 l0_4.length c0_4]) (t := 25) ?hr ?_; (case hd => rfl); (case hg => rfl); (case hr => first | (go_simp; done) | (go_simp; rfl)); intro gb157 hg w37 hbox hb; have n0_ := Aside0.mk (zAe (by repeat (first | (with_reducible first | exact HB.out | apply zAc | apply zAd | apply zAg) | exact HB.out)) hb); have n1_ := Aside0.mk (hbox); have n2_ := Aside0.mk ((by rw [hg]; exact (zAi (by repeat (first | (with_reducible first | exact HB.out | apply zAc | apply zAd | apply zAg) | exact HB.out))) : w.heap.size ≤ gb157)); have n3_ := Aside0.mk ((by rw [hg]; exact (zAi (by repeat (first | (with_reducible first | exact HB.out | apply zAc | apply zAd | apply zAg) | exact HB.out))) : w.heap.size ≤ gb157)); clear HB; have HB := n0_; have BK157 := n1_; have GW157 := n2_; have GE157 := n3_; clear n0_ n1_ n2_ n3_; clear hb hbox hg; have hcz38_0 : w37.cell? ⟨gb157, 0, none⟩ = some (.int .i64 a0_0) := (zAb BK157.out 0).trans rfl; have hcz38_1 : w37.cell? ⟨gb157, 1, none⟩ = some (.string a0_1) := (zAb BK157.out 1).trans rfl; have hcz38_2 : w37.cell? ⟨gb157, 2, none⟩ = some (.string a0_2) := (zAb BK157.out 2).trans rfl; have hcz38_3 : w37.cell? ⟨gb157, 3, none⟩ = some (.slice A0_3 l0_3.length c0_3) := (zAb BK157.out 3).trans rfl; have hcz38_4 : w37.cell? ⟨gb157, 4, none⟩ = some (.slice A0_4 l0_4.length c0_4) := (zAb BK157.out 4).trans rfl; have hfz38_0 := zAa BK157.out 0; have hfz38_1 := zAa BK157.out 1; have hfz38_2 := zAa BK157.out 2; have hfz38_3 := zAa BK157.out 3; have hfz38_4 := zAa BK157.out 4))
 go_ret
 exact ⟨by first | rfl | (simp [zAl, zAk] <;> rfl) | (simp [*, zAl, zAk] <;> rfl), by repeat (first | (with_reducible first | exact HB.out | apply zAc | apply zAd | apply zAg | refine zAh ?_ GE157.out) | exact HB.out)⟩
def IsS122 (w0 W : World) (g : Nat) (f0 : Int) (f1 : Int) (f2 : Bool) : Prop := W.heap[g]? = some (.cells #[.int .i64 f0, .int .i64 f1, .bool f2] 122 (0, 0)) ∧ w0.heap.size ≤ g
theorem IsS122.grown {w0 W : World} {g : Nat} {f0 : Int} {f1 : Int} {f2 : Bool} {W1 : World} {row : Option Nat} (h : IsS122 w0 W g f0 f1 f2) (hw : W.grownBy W1 row) (hne : some g ≠ row) : IsS122 w0 W1 g f0 f1 f2 := by
 obtain ⟨hb, hg⟩ := h
 exact ⟨blk_grown hb hw hne, hg⟩
theorem IsS122.kept {w0 W : World} {g : Nat} {f0 : Int} {f1 : Int} {f2 : Bool} {W1 : World} {S : Nat → Prop} (h : IsS122 w0 W g f0 f1 f2) (hk : Kept W W1 S) (hne : ¬ S g) : IsS122 w0 W1 g f0 f1 f2 := by
 obtain ⟨hb, hg⟩ := h
 exact ⟨blk_kept hb hk hne, hg⟩
theorem IsS122.below {w0 W : World} {g : Nat} {f0 : Int} {f1 : Int} {f2 : Bool} {W1 : World} (h : IsS122 w0 W g f0 f1 f2) (hw : Below W.heap.size W W1) : IsS122 w0 W1 g f0 f1 f2 := h.grown (zGk hw none) (by simp)
theorem IsS122.alloc {w0 W : World} {g : Nat} {f0 : Int} {f1 : Int} {f2 : Bool} (h : IsS122 w0 W g f0 f1 f2) (o : Obj) : IsS122 w0 (W.alloc o) g f0 f1 f2 := h.below (zAc (Below.refl _ _) o)
theorem IsS122.drewN {w0 W : World} {g : Nat} {f0 : Int} {f1 : Int} {f2 : Bool} (h : IsS122 w0 W g f0 f1 f2) (m : Nat) : IsS122 w0 (W.drewN m) g f0 f1 f2 := h
theorem IsS122.drew {w0 W : World} {g : Nat} {f0 : Int} {f1 : Int} {f2 : Bool} (h : IsS122 w0 W g f0 f1 f2) : IsS122 w0 W.drew g f0 f1 f2 := h
theorem IsS122.at_ {w0 W : World} {g : Nat} {f0 : Int} {f1 : Int} {f2 : Bool} {w' : World} {m : Nat} (hq : W.drewN m = w') (h : IsS122 w0 W g f0 f1 f2) : IsS122 w0 w' g f0 f1 f2 := by subst hq; exact IsS122.drewN h m
theorem IsS122.ge {w0 W : World} {g : Nat} {f0 : Int} {f1 : Int} {f2 : Bool} (h : IsS122 w0 W g f0 f1 f2) : w0.heap.size ≤ g := by
 obtain ⟨hb, hg⟩ := h
 exact hg
theorem IsS122.far {w0 W : World} {g : Nat} {f0 : Int} {f1 : Int} {f2 : Bool} {p : Addr} (h : IsS122 w0 W g f0 f1 f2) (hne : g ≠ p.block) (u : Value) : IsS122 w0 (W.setCell p u) g f0 f1 f2 := by
 obtain ⟨hb, hg⟩ := h
 exact ⟨zBk hb hne u, hg⟩
theorem zFg {W : World} {g : Nat} {f0 : Int} {f1 : Int} {f2 : Bool} (h : W.heap[g]? = some (.cells #[.int .i64 f0, .int .i64 f1, .bool f2] 122 (0, 0))) : W.cell? ⟨g, 0, none⟩ = some (.int .i64 f0) := (zAb h 0).trans rfl
theorem IsS122.set_0 {w0 W : World} {g : Nat} {f0 : Int} {f1 : Int} {f2 : Bool} (h : IsS122 w0 W g f0 f1 f2) (x : Int) : IsS122 w0 (W.setCell ⟨g, 0, none⟩ (.int .i64 x)) g x f1 f2 := by
 obtain ⟨hb, hg⟩ := h
 exact ⟨by simpa using zAn hb 0 (.int .i64 x), hg⟩
theorem cellS122_1 {W : World} {g : Nat} {f0 : Int} {f1 : Int} {f2 : Bool} (h : W.heap[g]? = some (.cells #[.int .i64 f0, .int .i64 f1, .bool f2] 122 (0, 0))) : W.cell? ⟨g, 1, none⟩ = some (.int .i64 f1) := (zAb h 1).trans rfl
theorem IsS122.set_1 {w0 W : World} {g : Nat} {f0 : Int} {f1 : Int} {f2 : Bool} (h : IsS122 w0 W g f0 f1 f2) (x : Int) : IsS122 w0 (W.setCell ⟨g, 1, none⟩ (.int .i64 x)) g f0 x f2 := by
 obtain ⟨hb, hg⟩ := h
 exact ⟨by simpa using zAn hb 1 (.int .i64 x), hg⟩
theorem zAq {W : World} {g : Nat} {f0 : Int} {f1 : Int} {f2 : Bool} (h : W.heap[g]? = some (.cells #[.int .i64 f0, .int .i64 f1, .bool f2] 122 (0, 0))) : W.cell? ⟨g, 2, none⟩ = some (.bool f2) := (zAb h 2).trans rfl
theorem IsS122.set_2 {w0 W : World} {g : Nat} {f0 : Int} {f1 : Int} {f2 : Bool} (h : IsS122 w0 W g f0 f1 f2) (x : Bool) : IsS122 w0 (W.setCell ⟨g, 2, none⟩ (.bool x)) g f0 f1 x := by
 obtain ⟨hb, hg⟩ := h
 exact ⟨by simpa using zAn hb 2 (.bool x), hg⟩
theorem IsS122.new (w0 W : World) (f0 : Int) (f1 : Int) (f2 : Bool) (hB : Below w0.heap.size w0 W) : IsS122 w0 (W.alloc (.cells #[.int .i64 f0, .int .i64 f1, .bool f2] 122)) W.heap.size f0 f1 f2 := ⟨by simpa using heap_alloc_new W _, hB.size⟩
def varveref12_size_text.f (s0_0 : Int) (s0_1 : Int) (s0_2 : Bool) (a1 : ByteArray) : Option (Int × Int × Bool) := if (a1.size : Int) > (wrap64 (4096 - s0_1)) then (some (s0_0, s0_1, true)) else (some (s0_0, wrap64 (s0_1 + (a1.size : Int)), s0_2))
theorem varveref12_size_text.calls (g : Nat) (s0_0 : Int) (s0_1 : Int) (s0_2 : Bool) (a1 : ByteArray) (r1 : Int) (r2 : Int) (r3 : Bool) (w0 w : World) (hI : IsS122 w0 w g s0_0 s0_1 s0_2) (hB : Below w0.heap.size w0 w) (h : varveref12_size_text.f s0_0 s0_1 s0_2 a1 = some (r1, r2, r3)) :
  Calls Try.prog 148 #[.pointer (some ⟨g, 0, none⟩), .string a1] w fun e w' => e = .returned (.tuple #[]) ∧ IsS122 w0 w' g r1 r2 r3 ∧ Below w0.heap.size w0 w' ∧ KeepBut w w' g none := by
 have HI0 := Aside0.mk hI
 have HK := Aside0.mk (KeepBut.refl w g none)
 have HL := Aside0.mk hB.size
 clear hI
 have HW0 := Aside0.mk hB.size
 have HB := Aside0.mk hB
 clear hB
 have H : (if (a1.size : Int) > (wrap64 (4096 - s0_1)) then (some (s0_0, s0_1, true)) else (some (s0_0, wrap64 (s0_1 + (a1.size : Int)), s0_2))) = some (r1, r2, r3) := h
 clear h
 by_cases c3 : (a1.size : Int) > (wrap64 (4096 - s0_1))
 ·rw [if_pos c3] at H
  have c3b0 : decide ((wrap64 (4096 - s0_1)) < (a1.size : Int)) = true := zT c3
  clear c3
  simp only [Option.some.injEq, Prod.mk.injEq] at H
  obtain ⟨rfl, rfl, rfl⟩ := H
  obtain ⟨HGz4, hgz4⟩ := HI0.out
  have hcz4_0 := zFg HGz4
  have hcz4_1 := cellS122_1 HGz4
  have hcz4_2 := zAq HGz4
  have hfz4_0 := zAa HGz4 0
  have hfz4_1 := zAa HGz4 1
  have hfz4_2 := zAa HGz4 2
  clear HGz4 hgz4
  go_enter Try.func148, Try.ntmps148
  go_wp2
  first | go_end0 | ((try simp only [Exit.inBlock, Exit.then]); refine bodyPost_ret (results_none rfl _ _ _) rfl ?_)
  exact ⟨by first | rfl | (simp [zAl, zAk] <;> rfl) | (simp [*, zAl, zAk] <;> rfl), by repeat (first | (with_reducible first | exact HI0.out | apply IsS122.alloc | apply IsS122.drewN | apply IsS122.drew | apply IsS122.set_0 | apply IsS122.set_1 | apply IsS122.set_2) | exact HI0.out), by repeat (first | (with_reducible first | exact HB.out | apply zAc | apply zAd | apply zAg | refine zAh ?_ (IsS122.ge HI0.out)) | exact HB.out), by repeat (first | (with_reducible first | exact HK.out | apply KeepBut.set_ | apply zBl | apply keep_drew | apply keep_alloc) | exact HK.out)⟩
 rw [if_neg c3] at H
 have c3b0 : decide ((wrap64 (4096 - s0_1)) < (a1.size : Int)) = false := zF c3
 clear c3
 simp only [Option.some.injEq, Prod.mk.injEq] at H
 obtain ⟨rfl, rfl, rfl⟩ := H
 obtain ⟨HGz5, hgz5⟩ := HI0.out
 have hcz5_0 := zFg HGz5
 have hcz5_1 := cellS122_1 HGz5
 have hcz5_2 := zAq HGz5
 have hfz5_0 := zAa HGz5 0
 have hfz5_1 := zAa HGz5 1
 have hfz5_2 := zAa HGz5 2
 clear HGz5 hgz5
 go_enter Try.func148, Try.ntmps148
 go_wp2
 first | go_end0 | ((try simp only [Exit.inBlock, Exit.then]); refine bodyPost_ret (results_none rfl _ _ _) rfl ?_)
 exact ⟨by first | rfl | (simp [zAl, zAk] <;> rfl) | (simp [*, zAl, zAk] <;> rfl), by repeat (first | (with_reducible first | exact HI0.out | apply IsS122.alloc | apply IsS122.drewN | apply IsS122.drew | apply IsS122.set_0 | apply IsS122.set_1 | apply IsS122.set_2) | exact HI0.out), by repeat (first | (with_reducible first | exact HB.out | apply zAc | apply zAd | apply zAg | refine zAh ?_ (IsS122.ge HI0.out)) | exact HB.out), by repeat (first | (with_reducible first | exact HK.out | apply KeepBut.set_ | apply zBl | apply keep_drew | apply keep_alloc) | exact HK.out)⟩
end
section
attribute [local go_sem] zCx zCv zDm zDl zCj zCi zCw zCu   -- for this text's walks alone
set_option linter.unusedVariables false
set_option linter.unusedSimpArgs false
mutual
def varveref12_values.j0 : Nat → List ByteArray → Bool → Option (Bool)
 | 0, _, _ => none
 | k + 1, x0, x11 => if x11 = true then (some false) else (varveref12_values.l0 k x0 0)
def varveref12_values.l0 : Nat → List ByteArray → Int → Option (Bool)
 | 0, _, _ => none
 | k + 1, x0, x3 => if x3 < (x0.length : Int) then (if 0 ≤ x3 then (if ((rdOf ByteArray.empty x0 x3).size : Int) > 64 then (some false) else (if x3 > 0 then (if 0 ≤ (wrap64 (x3 - 1)) then (if (wrap64 (x3 - 1)) < (x0.length : Int) then (if ((Op.bytesLess ((rdOf ByteArray.empty x0 (wrap64 (x3 - 1))).toList) ((rdOf ByteArray.empty x0 x3).toList)) = true) then (varveref12_values.l0 k x0 (wrap64 (x3 + 1))) else (some false)) else (none)) else (none)) else (varveref12_values.l0 k x0 (wrap64 (x3 + 1))))) else (none)) else (some true)
end
def varveref12_values.f (k : Nat) (l0 : List ByteArray) : Option (Bool) := if (l0.length : Int) < 1 then (varveref12_values.j0 k l0 true) else (varveref12_values.j0 k l0 (decide ((l0.length : Int) > 16)))
theorem varveref12_values.mono_l : ∀ k, (∀ y0 y1, LeO (varveref12_values.j0 k y0 y1) (varveref12_values.j0 (k + 1) y0 y1)) ∧ (∀ y0 y1, LeO (varveref12_values.l0 k y0 y1) (varveref12_values.l0 (k + 1) y0 y1))
 | 0 => ⟨fun _ _ r h => by simp [varveref12_values.j0] at h, fun _ _ r h => by simp [varveref12_values.l0] at h⟩
 | k + 1 => by
  obtain ⟨ih0, ih1⟩ := varveref12_values.mono_l k
  refine ⟨?_, ?_⟩
  ·intro y0 y1
   unfold varveref12_values.j0
   repeat' first
   | (with_reducible exact ih0 _ _)
   | (with_reducible exact ih1 _ _)
   | (with_reducible exact LeO.refl _)
   | (with_reducible exact LeO.none _)
   | (with_reducible refine LeO.ite ?_ ?_)
   | (with_reducible refine LeO.bind ?_ (fun _ => ?_))
   | exact ih0 _ _
   | exact ih1 _ _
   | exact LeO.none _
   | refine LeO.ite ?_ ?_
   | refine LeO.bind ?_ (fun _ => ?_)
  ·intro y0 y1
   unfold varveref12_values.l0
   repeat' first
   | (with_reducible exact ih0 _ _)
   | (with_reducible exact ih1 _ _)
   | (with_reducible exact LeO.refl _)
   | (with_reducible exact LeO.none _)
   | (with_reducible refine LeO.ite ?_ ?_)
   | (with_reducible refine LeO.bind ?_ (fun _ => ?_))
   | exact ih0 _ _
   | exact ih1 _ _
   | exact LeO.none _
   | refine LeO.ite ?_ ?_
   | refine LeO.bind ?_ (fun _ => ?_)
theorem varveref12_values.mono : ∀ a0 k, LeO (varveref12_values.f k a0) (varveref12_values.f (k + 1) a0) := by
 intro a0 k
 obtain ⟨ih0, ih1⟩ := varveref12_values.mono_l k
 unfold varveref12_values.f
 repeat' first
   | (with_reducible exact ih0 _ _)
   | (with_reducible exact ih1 _ _)
   | (with_reducible exact LeO.refl _)
   | (with_reducible exact LeO.none _)
   | (with_reducible refine LeO.ite ?_ ?_)
   | (with_reducible refine LeO.bind ?_ (fun _ => ?_))
   | exact ih0 _ _
   | exact ih1 _ _
   | exact LeO.none _
   | refine LeO.ite ?_ ?_
   | refine LeO.bind ?_ (fun _ => ?_)
theorem varveref12_values.calls (k : Nat) (A0 : Option Addr) (c0 : Nat) (l0 : List ByteArray) (r : Bool) (w : World) (hr0 : Kd.C Kd.string w A0 l0.length l0) (hc0 : l0.length ≤ c0) (h : varveref12_values.f k l0 = some r) :
  Calls Try.prog 149 #[.slice A0 l0.length c0] w fun e w' => e = .returned (.bool r) ∧ Drawn0 w w' := by
 have HR0 := Aside0.mk hr0
 have HC0 := Aside0.mk hc0
 clear hr0 hc0
 have H : (if (l0.length : Int) < 1 then (varveref12_values.j0 k l0 true) else (varveref12_values.j0 k l0 (decide ((l0.length : Int) > 16)))) = some r := h
 clear h
 have HC2 := Aside0.mk H
 clear H
 go_enter Try.func149, Try.ntmps149
 go_upto_region 1 with (fail)
 repeat (go_quiet (fail); go_upto_region 1 with (fail))
 go_cut [11] (fun v11 wc => ∃ (kq : Nat) (x11_1 : Bool), v11 = .bool x11_1 ∧ Aside0 (varveref12_values.j0 kq l0 x11_1 = some r) ∧ Aside0 (kq ≤ k) ∧ Drawn0 w wc)
 case first =>
  have H := HC2.out
  clear HC2
  by_cases c3 : (l0.length : Int) < 1
  ·rw [if_pos c3] at H
   have c3b0 : decide ((l0.length : Int) < 1) = true := zT c3
   have c3b1 : decide (l0.length < 1) = true := zT (by omega)
   clear c3
   (first | rw [c3b0] | (simp only [zAx, zAy]; rw [c3b0]) | skip)
   have H' := Aside0.mk H
   clear H
   go_wp2
   repeat (go_quiet (fail); try go_wp2)
   go_meet
   case rel => exact ⟨_, (true), (by first | rfl | (simp; done) | (simp [*]; done)), H', ⟨by first | omega | exact Nat.le_refl _⟩, by repeat (first | exact Drawn0.refl _ | apply Drawn0.step)⟩
  rw [if_neg c3] at H
  have c3b0 : decide ((l0.length : Int) < 1) = false := zF c3
  have c3b1 : decide (l0.length < 1) = false := zF (by omega)
  clear c3
  (first | rw [c3b0] | (simp only [zAx, zAy]; rw [c3b0]) | skip)
  have H' := Aside0.mk H
  clear H
  go_wp2
  repeat (go_quiet (fail); try go_wp2)
  go_meet
  case rel => exact ⟨_, (decide ((l0.length : Int) > 16)), (by first | rfl | (simp; done) | (simp [*]; done)), H', ⟨by first | omega | exact Nat.le_refl _⟩, by repeat (first | exact Drawn0.refl _ | apply Drawn0.step)⟩
 case rest =>
  clear HC2
  try clear c1
  try clear p2
  try clear c3
  try clear c3b0
  try clear c3b1
  obtain ⟨kq, x11_1, rfl, HA, HJ1, ⟨mc1, rfl⟩⟩ := hcut
  cases kq with
  | zero => exact absurd HA.out (by simp [varveref12_values.j0])
  | succ kj1 =>
  have H := HA.out
  clear HA
  simp only [varveref12_values.j0] at H
  by_cases c4 : x11_1 = true
  ·subst c4
   have H1 : (some false) = some r := by rw [if_pos rfl] at H; exact H
   clear H
   have H := H1
   clear H1
   obtain rfl := Option.some.inj H
   go_wp2
   repeat (go_quiet (fail); try go_wp2)
   go_ret
   exact ⟨by first | rfl | (simp; done) | (simp [*]; done), by repeat (first | exact Drawn0.refl _ | apply Drawn0.step)⟩
  replace c4 := Bool.eq_false_iff.mpr c4
  subst c4
  have H1 : (varveref12_values.l0 kj1 l0 0) = some r := by rw [if_neg (show ¬ (false = true) by decide)] at H; exact H
  clear H
  have H := H1
  clear H1
  have H' := Aside0.mk H
  clear H
  go_wp2
  repeat (go_quiet (fail); try go_wp2)
  go_loopg [3] kj1 (fun kq v3 w' => ∃ (x3_2 : Int), v3 = .int .i64 x3_2 ∧ Aside0 (varveref12_values.l0 kq l0 x3_2 = some r) ∧ Aside0 (kq ≤ kj1) ∧ Drawn0 w w')
  case atStart => exact ⟨(0), (by first | rfl | (simp; done) | (simp [*]; done)), H', ⟨Nat.le_refl _⟩, by repeat (first | exact Drawn0.refl _ | apply Drawn0.step)⟩
  case round =>
   clear H'
   try clear c1
   try clear p2
   try clear c3
   try clear c3b0
   try clear c3b1
   try clear c4
   try clear p2
   obtain ⟨x3_2, rfl, HA, HK2, ⟨m2, rfl⟩⟩ := hrel
   cases gk with
   | zero => exact absurd HA.out (by simp [varveref12_values.l0])
   | succ k2 =>
   have H := HA.out
   clear HA
   simp only [varveref12_values.l0] at H
   by_cases c5 : x3_2 < (l0.length : Int)
   ·rw [if_pos c5] at H
    have c5b0 : decide (x3_2 < (l0.length : Int)) = true := zT c5
    clear c5
    by_cases c6 : 0 ≤ x3_2
    ·rw [if_pos c6] at H
     have c6b0 : decide (0 ≤ x3_2) = true := zT c6
     clear c6
     by_cases c7 : ((rdOf ByteArray.empty l0 x3_2).size : Int) > 64
     ·rw [if_pos c7] at H
      have c7b0 : decide (64 < ((rdOf ByteArray.empty l0 x3_2).size : Int)) = true := zT c7
      have c7b1 : decide (64 < (rdOf ByteArray.empty l0 x3_2).size) = true := zT (by omega)
      clear c7
      obtain rfl := Option.some.inj H
      have p158 : 0 ≤ (x3_2 : Int) := zO (by first | (with_reducible assumption) | assumption)
      have q158 : x3_2 < (l0.length : Int) := zO (by first | (with_reducible assumption) | assumption)
      obtain ⟨ad158, e158, hx158_0⟩ := Kd.at_string HR0.out x3_2 p158 q158
      cases e158
      replace p158 := eq_true p158
      replace q158 := eq_true q158
      go_wp2
      repeat (go_quiet (fail); try go_wp2)
      go_ret
      exact ⟨by first | rfl | (simp; done) | (simp [*]; done), by repeat (first | exact Drawn0.refl _ | apply Drawn0.step)⟩
     rw [if_neg c7] at H
     have c7b0 : decide (64 < ((rdOf ByteArray.empty l0 x3_2).size : Int)) = false := zF c7
     have c7b1 : decide (64 < (rdOf ByteArray.empty l0 x3_2).size) = false := zF (by omega)
     clear c7
     by_cases c8 : x3_2 > 0
     ·rw [if_pos c8] at H
      have c8b0 : decide (0 < x3_2) = true := zT c8
      clear c8
      obtain ⟨ji9, hji9⟩ : ∃ j_ : Int, (wrap64 (x3_2 - 1)) = j_ := ⟨_, rfl⟩
      replace H : (if 0 ≤ (ji9) then (if (ji9) < (l0.length : Int) then (if ((Op.bytesLess ((rdOf ByteArray.empty l0 (ji9)).toList) ((rdOf ByteArray.empty l0 x3_2).toList)) = true) then (varveref12_values.l0 k2 l0 (wrap64 (x3_2 + 1))) else (some false)) else (none)) else (none)) = some r := by first | (rw [hji9] at H; exact H) | (simp only [hji9] at H ⊢; exact H)
      have hji9w : (IntKind.i64.wrap (x3_2 - 1)) = ji9 := (zAx _).trans hji9
      by_cases c10 : 0 ≤ (ji9)
      ·rw [if_pos c10] at H
       have c10b0 : decide (0 ≤ (ji9)) = true := zT c10
       clear c10
       by_cases c11 : (ji9) < (l0.length : Int)
       ·rw [if_pos c11] at H
        have c11b0 : decide ((ji9) < (l0.length : Int)) = true := zT c11
        clear c11
        by_cases c12 : ((Op.bytesLess ((rdOf ByteArray.empty l0 (ji9)).toList) ((rdOf ByteArray.empty l0 x3_2).toList)) = true)
        ·rw [if_pos c12] at H
         have c12b0 : (Op.bytesLess ((rdOf ByteArray.empty l0 (ji9)).toList) ((rdOf ByteArray.empty l0 x3_2).toList)) = true := c12
         have c12bq := bl_t c12b0
         clear c12
         have H' := Aside0.mk H
         clear H
         have p158 : 0 ≤ (x3_2 : Int) := zO (by first | (with_reducible assumption) | assumption)
         have q158 : x3_2 < (l0.length : Int) := zO (by first | (with_reducible assumption) | assumption)
         obtain ⟨ad158, e158, hx158_0⟩ := Kd.at_string HR0.out x3_2 p158 q158
         cases e158
         replace p158 := eq_true p158
         replace q158 := eq_true q158
         have p159 : 0 ≤ (x3_2 : Int) := zO (by first | (with_reducible assumption) | assumption)
         have q159 : x3_2 < (l0.length : Int) := zO (by first | (with_reducible assumption) | assumption)
         obtain ⟨ad159, e159, hx159_0⟩ := Kd.at_string HR0.out x3_2 p159 q159
         obtain rfl : ad158 = ad159 := (by injection e159)
         replace p159 := eq_true p159
         replace q159 := eq_true q159
         have p160 : 0 ≤ ((ji9) : Int) := zO (by first | (with_reducible assumption) | assumption)
         have q160 : (ji9) < (l0.length : Int) := zO (by first | (with_reducible assumption) | assumption)
         obtain ⟨ad160, e160, hx160_0⟩ := Kd.at_string HR0.out (ji9) p160 q160
         obtain rfl : ad158 = ad160 := (by injection e160)
         replace p160 := eq_true p160
         replace q160 := eq_true q160
         go_wp2
         repeat (go_quiet (fail); try go_wp2)
         go_roundg k2
         case measure => have := HJ1.out; have := HK2.out; omega
         case rel => exact ⟨(wrap64 (x3_2 + 1)), (by first | rfl | (simp; done) | (simp [*]; done)), H', ⟨by have := HJ1.out; have := HK2.out; omega⟩, by repeat (first | exact Drawn0.refl _ | apply Drawn0.step)⟩
        rw [if_neg c12] at H
        have c12b0 : (Op.bytesLess ((rdOf ByteArray.empty l0 (ji9)).toList) ((rdOf ByteArray.empty l0 x3_2).toList)) = false := by simpa using c12
        have c12bq := bl_f c12b0
        clear c12
        obtain rfl := Option.some.inj H
        have p158 : 0 ≤ (x3_2 : Int) := zO (by first | (with_reducible assumption) | assumption)
        have q158 : x3_2 < (l0.length : Int) := zO (by first | (with_reducible assumption) | assumption)
        obtain ⟨ad158, e158, hx158_0⟩ := Kd.at_string HR0.out x3_2 p158 q158
        cases e158
        replace p158 := eq_true p158
        replace q158 := eq_true q158
        have p159 : 0 ≤ (x3_2 : Int) := zO (by first | (with_reducible assumption) | assumption)
        have q159 : x3_2 < (l0.length : Int) := zO (by first | (with_reducible assumption) | assumption)
        obtain ⟨ad159, e159, hx159_0⟩ := Kd.at_string HR0.out x3_2 p159 q159
        obtain rfl : ad158 = ad159 := (by injection e159)
        replace p159 := eq_true p159
        replace q159 := eq_true q159
        have p160 : 0 ≤ ((ji9) : Int) := zO (by first | (with_reducible assumption) | assumption)
        have q160 : (ji9) < (l0.length : Int) := zO (by first | (with_reducible assumption) | assumption)
        obtain ⟨ad160, e160, hx160_0⟩ := Kd.at_string HR0.out (ji9) p160 q160
        obtain rfl : ad158 = ad160 := (by injection e160)
        replace p160 := eq_true p160
        replace q160 := eq_true q160
        go_wp2
        repeat (go_quiet (fail); try go_wp2)
        go_ret
        exact ⟨by first | rfl | (simp; done) | (simp only [← hji9] <;> (first | rfl | simp)) | (simp [*]; done), by repeat (first | exact Drawn0.refl _ | apply Drawn0.step)⟩
       rw [if_neg c11] at H
       exact absurd H (by simp)
      rw [if_neg c10] at H
      exact absurd H (by simp)
     rw [if_neg c8] at H
     have c8b0 : decide (0 < x3_2) = false := zF c8
     clear c8
     have H' := Aside0.mk H
     clear H
     have p158 : 0 ≤ (x3_2 : Int) := zO (by first | (with_reducible assumption) | assumption)
     have q158 : x3_2 < (l0.length : Int) := zO (by first | (with_reducible assumption) | assumption)
     obtain ⟨ad158, e158, hx158_0⟩ := Kd.at_string HR0.out x3_2 p158 q158
     cases e158
     replace p158 := eq_true p158
     replace q158 := eq_true q158
     go_wp2
     repeat (go_quiet (fail); try go_wp2)
     go_roundg k2
     case measure => have := HJ1.out; have := HK2.out; omega
     case rel => exact ⟨(wrap64 (x3_2 + 1)), (by first | rfl | (simp; done) | (simp [*]; done)), H', ⟨by have := HJ1.out; have := HK2.out; omega⟩, by repeat (first | exact Drawn0.refl _ | apply Drawn0.step)⟩
    rw [if_neg c6] at H
    exact absurd H (by simp)
   rw [if_neg c5] at H
   have c5b0 : decide (x3_2 < (l0.length : Int)) = false := zF c5
   clear c5
   obtain rfl := Option.some.inj H
   go_wp2
   repeat (go_quiet (fail); try go_wp2)
   go_ret
   exact ⟨by first | rfl | (simp; done) | (simp [*]; done), by repeat (first | exact Drawn0.refl _ | apply Drawn0.step)⟩
-- NOT PRINTED: function 99 (varveref12_size_look)
-- NOT PRINTED: function 36 (varveref12_Check)
def varveref19_Aligned.f (a0 : Int) : Option (Bool) := if a0 ≥ 0 then (if a0 ≤ 1099511634240 then (some ((Int.tmod a0 8640) == 0)) else (some false)) else (some false)
theorem varveref19_Aligned.calls (a0 : Int) (r : Bool) (w : World) (h : varveref19_Aligned.f a0 = some r) :
  Calls Try.prog 98 #[.int .i64 a0] w fun e w' => e = .returned (.bool r) ∧ Drawn0 w w' := by
 have H : (if a0 ≥ 0 then (if a0 ≤ 1099511634240 then (some ((Int.tmod a0 8640) == 0)) else (some false)) else (some false)) = some r := h
 clear h
 by_cases c2 : a0 ≥ 0
 ·rw [if_pos c2] at H
  have c2b0 : decide (0 ≤ a0) = true := zT c2
  clear c2
  by_cases c3 : a0 ≤ 1099511634240
  ·rw [if_pos c3] at H
   have c3b0 : decide (a0 ≤ 1099511634240) = true := zT c3
   clear c3
   obtain rfl := Option.some.inj H
   go_enter Try.func98, Try.ntmps98
   go_wp2
   go_ret
   exact ⟨by first | rfl | (simp; done) | (simp [*]; done), by repeat (first | exact Drawn0.refl _ | apply Drawn0.step)⟩
  rw [if_neg c3] at H
  have c3b0 : decide (a0 ≤ 1099511634240) = false := zF c3
  clear c3
  obtain rfl := Option.some.inj H
  go_enter Try.func98, Try.ntmps98
  go_wp2
  go_ret
  exact ⟨by first | rfl | (simp; done) | (simp [*]; done), by repeat (first | exact Drawn0.refl _ | apply Drawn0.step)⟩
 rw [if_neg c2] at H
 have c2b0 : decide (0 ≤ a0) = false := zF c2
 clear c2
 obtain rfl := Option.some.inj H
 go_enter Try.func98, Try.ntmps98
 go_wp2
 go_ret
 exact ⟨by first | rfl | (simp; done) | (simp [*]; done), by repeat (first | exact Drawn0.refl _ | apply Drawn0.step)⟩
-- NOT PRINTED: function 35 (varveref19_Check)
-- NOT PRINTED: function 56 (varvelaw00_Labels)
-- NOT PRINTED: function 150 (varvelaw00_Buckets)
-- NOT PRINTED: function 151 (varvelaw00_Nums)
-- NOT PRINTED: function 100 (varvelaw00_Sketch)
-- NOT PRINTED: function 38 (varvelaw00_Row)
def varveref11_Value.l0 : Nat → List (S68) → ByteArray → Int → Option (ByteArray)
 | 0, _, _, _ => none
 | k + 1, x0, x1, x5 => if x5 < (x0.length : Int) then (if 0 ≤ x5 then (if ((zFb x0 x5).f0).toList = x1.toList then (some ((zFb x0 x5).f1)) else (varveref11_Value.l0 k x0 x1 (wrap64 (x5 + 1)))) else (none)) else (some (⟨#[]⟩ : ByteArray))
def varveref11_Value.f (k : Nat) (l0 : List (S68)) (a1 : ByteArray) : Option (ByteArray) := varveref11_Value.l0 k l0 a1 0
theorem varveref11_Value.mono_l : ∀ k, (∀ y0 y1 y2, LeO (varveref11_Value.l0 k y0 y1 y2) (varveref11_Value.l0 (k + 1) y0 y1 y2))
 | 0 => fun _ _ _ r h => by simp [varveref11_Value.l0] at h
 | k + 1 => by
  have ih0 := varveref11_Value.mono_l k
  ·intro y0 y1 y2
   unfold varveref11_Value.l0
   repeat' first
   | (with_reducible exact ih0 _ _ _)
   | (with_reducible exact LeO.refl _)
   | (with_reducible exact LeO.none _)
   | (with_reducible refine LeO.ite ?_ ?_)
   | (with_reducible refine LeO.bind ?_ (fun _ => ?_))
   | exact ih0 _ _ _
   | exact LeO.none _
   | refine LeO.ite ?_ ?_
   | refine LeO.bind ?_ (fun _ => ?_)
theorem varveref11_Value.mono : ∀ a0 a1 k, LeO (varveref11_Value.f k a0 a1) (varveref11_Value.f (k + 1) a0 a1) := by
 intro a0 a1 k
 have ih0 := varveref11_Value.mono_l k
 unfold varveref11_Value.f
 repeat' first
   | (with_reducible exact ih0 _ _ _)
   | (with_reducible exact LeO.refl _)
   | (with_reducible exact LeO.none _)
   | (with_reducible refine LeO.ite ?_ ?_)
   | (with_reducible refine LeO.bind ?_ (fun _ => ?_))
   | exact ih0 _ _ _
   | exact LeO.none _
   | refine LeO.ite ?_ ?_
   | refine LeO.bind ?_ (fun _ => ?_)
end
end Go.Proofs.Yteafilojjdfllaa.PAll
end
section
namespace Go.Proofs.Yteafilojjdfllaa
open Go Go.RowKit Go.Proofs.YteafilojjdfllaaW.PrintWords Go.Proofs.Yteafilojjdfllaa.PAll
theorem w64s (i : Nat) (h : i ≤ 4000000000000000000) : wrap64 ((i : Int) + 1) = ((i + 1 : Nat) : Int) := by unfold wrap64; omega
theorem w64p (i : Nat) (h : i ≤ 4000000000000000000) : wrap64 (((i + 1 : Nat) : Int) - 1) = (i : Int) := by unfold wrap64; omega
theorem bt_nat (s : ByteArray) (i : Nat) (h : i < s.size) : bt s (i : Int) = ((s.data.toList.getD i 0).toNat : Int) := by
 have h' : i < s.data.size := h
 unfold bt
 rw [dif_pos (by simpa using h)]
 simp only [List.getD_eq_getElem?_getD, Array.getElem?_toList, Array.getElem?_eq_getElem h', Option.getD_some, Int.toNat_natCast]
 rfl
theorem bdrop (s : ByteArray) (i : Nat) (h : i < s.size) : s.data.toList.drop i = s.data.toList.getD i 0 :: s.data.toList.drop (i + 1) := by
 have h' : i < s.data.toList.length := by simpa using h
 rw [List.drop_eq_getElem_cons h', List.getD_eq_getElem?_getD, List.getElem?_eq_getElem h', Option.getD_some]
theorem zHs {c : UInt8} (h : (97 ≤ (c.toNat : Int) ∧ (c.toNat : Int) ≤ 122) ∨ (48 ≤ (c.toNat : Int) ∧ (c.toNat : Int) ≤ 57) ∨ (c.toNat : Int) = 95) : nameC c = true := by unfold nameC; exact zT h
theorem zGo {c : UInt8} (h : ¬ ((97 ≤ (c.toNat : Int) ∧ (c.toNat : Int) ≤ 122) ∨ (48 ≤ (c.toNat : Int) ∧ (c.toNat : Int) ≤ 57) ∨ (c.toNat : Int) = 95)) : nameC c = false := by unfold nameC; exact zF h
theorem name_l0 (s : ByteArray) (hs : s.size ≤ 1000) : ∀ (d i k : Nat), i ≤ s.size → s.size ≤ i + d → d < k → label_Name.l0 k s (s.size : Int) (i : Int) = some ((s.data.toList.drop i).all nameC)
 | d, i, 0, _, _, h => by omega
 | d, i, k + 1, hi, hd, hk => by
  simp only [label_Name.l0, w64s i (by omega)]
  by_cases hlt : i < s.size
  ·have ih := name_l0 s hs (d - 1) (i + 1) k (by omega) (by omega) (by omega)
   rw [if_pos (by omega), if_pos (by omega), if_pos (by omega), bt_nat s i hlt, bdrop s i hlt, List.all_cons, ih]
   generalize s.data.toList.getD i 0 = c
   by_cases h : (97 ≤ (c.toNat : Int) ∧ (c.toNat : Int) ≤ 122) ∨ (48 ≤ (c.toNat : Int) ∧ (c.toNat : Int) ≤ 57) ∨ (c.toNat : Int) = 95
   ·rw [zHs h, Bool.true_and]
    split
    ·split
     ·rw [if_pos (by omega)]
     ·split
      ·rw [if_pos (by omega)]
      ·rfl
    ·split
     ·split
      ·rw [if_pos (by omega)]
      ·split
       ·rw [if_pos (by omega)]
       ·rfl
     ·rfl
   ·rw [zGo h, Bool.false_and]
    split
    ·split
     ·rw [if_neg (by omega)]
     ·split
      ·rw [if_neg (by omega)]
      ·omega
    ·split
     ·split
      ·rw [if_neg (by omega)]
      ·split
       ·rw [if_neg (by omega)]
       ·omega
     ·omega
  ·rw [if_neg (by omega), List.drop_of_length_le (by simp; omega)]; rfl
theorem label_Name.val (s : ByteArray) (k : Nat) (hk : 40 ≤ k) : label_Name.f k s = some (zDk s) := by
 obtain ⟨k, rfl⟩ : ∃ q, k = q + 1 := ⟨k - 1, by omega⟩
 unfold label_Name.f zDk
 by_cases h1 : (s.size : Int) < 1
 ·rw [if_pos h1]
  simp only [label_Name.j0, if_true]
  rw [show decide (1 ≤ s.size ∧ s.size ≤ 32 ∧ ¬ (48 ≤ ((s.data.toList.getD 0 0).toNat : Int) ∧ ((s.data.toList.getD 0 0).toNat : Int) ≤ 57)) = false from zF (by omega), Bool.false_and]
 rw [if_neg h1]
 by_cases h2 : (s.size : Int) > 32
 ·rw [if_pos h2]
  simp only [label_Name.j0, if_true]
  rw [show decide (1 ≤ s.size ∧ s.size ≤ 32 ∧ ¬ (48 ≤ ((s.data.toList.getD 0 0).toNat : Int) ∧ ((s.data.toList.getD 0 0).toNat : Int) ≤ 57)) = false from zF (by omega), Bool.false_and]
 rw [if_neg h2, if_pos (by omega)]
 have hb := bt_nat s 0 (by omega)
 rw [show ((0 : Nat) : Int) = 0 from rfl] at hb
 rw [hb]
 have hl := name_l0 s (by omega) s.size 0 k (by omega) (by omega) (by omega)
 rw [show ((0 : Nat) : Int) = 0 from rfl, List.drop_zero] at hl
 by_cases h3 : ((s.data.toList.getD 0 0).toNat : Int) ≥ 48
 ·rw [if_pos h3]
  by_cases h4 : ((s.data.toList.getD 0 0).toNat : Int) ≤ 57
  ·rw [show decide (1 ≤ s.size ∧ s.size ≤ 32 ∧ ¬ (48 ≤ ((s.data.toList.getD 0 0).toNat : Int) ∧ ((s.data.toList.getD 0 0).toNat : Int) ≤ 57)) = false from zF (by omega), Bool.false_and]
   simp only [label_Name.j0, h4, decide_true, if_true]
  rw [show decide (1 ≤ s.size ∧ s.size ≤ 32 ∧ ¬ (48 ≤ ((s.data.toList.getD 0 0).toNat : Int) ∧ ((s.data.toList.getD 0 0).toNat : Int) ≤ 57)) = true from zT (by omega), Bool.true_and]
  simp only [label_Name.j0, h4, decide_false]
  rw [if_neg (by decide), hl]
 rw [if_neg h3]
 simp only [label_Name.j0]
 rw [if_neg (by decide), hl, show decide (1 ≤ s.size ∧ s.size ≤ 32 ∧ ¬ (48 ≤ ((s.data.toList.getD 0 0).toNat : Int) ∧ ((s.data.toList.getD 0 0).toNat : Int) ≤ 57)) = true from zT (by omega), Bool.true_and]
theorem rname_l0 (s : ByteArray) (hs : s.size ≤ 140737488351232) : ∀ (d i k : Nat), 1 ≤ i → i ≤ s.size → s.size ≤ i + d → d < k → varveref11_Name.l0 k s (i : Int) = some (decide (s.size ≤ 32) && (s.data.toList.drop i).all nameC)
 | d, i, 0, _, _, _, h => by omega
 | d, i, k + 1, h1, hi, hd, hk => by
  simp only [varveref11_Name.l0, w64s i (by omega)]
  by_cases hlt : i < s.size
  ·have ih := rname_l0 s hs (d - 1) (i + 1) k (by omega) (by omega) (by omega) (by omega)
   rw [if_pos (by omega), if_pos (by omega), bt_nat s i hlt, bdrop s i hlt, List.all_cons, ih]
   have hi0 : ¬ (i : Int) = 0 := by omega
   generalize s.data.toList.getD i 0 = c
   by_cases h : (97 ≤ (c.toNat : Int) ∧ (c.toNat : Int) ≤ 122) ∨ (48 ≤ (c.toNat : Int) ∧ (c.toNat : Int) ≤ 57) ∨ (c.toNat : Int) = 95
   ·rw [zHs h, Bool.true_and]
    split
    ·rfl
    ·split
     ·rw [if_neg (by omega), if_neg (by omega)]
     ·split
      ·rw [if_neg (by omega), if_neg (by omega)]
      ·rfl
   ·rw [zGo h, Bool.false_and, Bool.and_false, if_neg (by omega)]
    split
    ·split
     ·rfl
     ·rw [if_pos (by omega)]
    ·rw [if_pos (by omega)]
     split
     ·rfl
     ·rw [if_pos (by omega)]
  ·have : i = s.size := by omega
   rw [if_neg (by omega), if_pos (by omega), List.drop_of_length_le (by simp; omega)]
   simp only [List.all_nil, Bool.and_true, Option.some.injEq]
   rw [decide_eq_decide]; omega
theorem varveref11_Name.val (s : ByteArray) (hs : s.size ≤ 140737488351232) (k : Nat) (hk : s.size + 2 ≤ k) : varveref11_Name.f k s = some (zDk s) := by
 obtain ⟨k, rfl⟩ : ∃ q, k = q + 1 := ⟨k - 1, by omega⟩
 unfold varveref11_Name.f zDk
 simp only [varveref11_Name.l0]
 have hw : wrap64 ((0 : Int) + 1) = ((1 : Nat) : Int) := by unfold wrap64; omega
 by_cases h1 : 0 < s.size
 ·have hl := rname_l0 s hs (s.size - 1) 1 k (by omega) (by omega) (by omega) (by omega)
  have hb := bt_nat s 0 h1
  rw [show ((0 : Nat) : Int) = 0 from rfl] at hb
  have hd := bdrop s 0 h1
  rw [List.drop_zero, Nat.zero_add] at hd
  have hall : s.data.toList.all nameC = (nameC (s.data.toList.getD 0 0) && (s.data.toList.drop 1).all nameC) := by
   conv => lhs; rw [hd]
   rw [List.all_cons]
  rw [if_pos (by omega), if_pos (by omega), hb, hw, hl, hall]
  by_cases h : (97 ≤ ((s.data.toList.getD 0 0).toNat : Int) ∧ ((s.data.toList.getD 0 0).toNat : Int) ≤ 122) ∨ (48 ≤ ((s.data.toList.getD 0 0).toNat : Int) ∧ ((s.data.toList.getD 0 0).toNat : Int) ≤ 57) ∨ ((s.data.toList.getD 0 0).toNat : Int) = 95
  ·rw [zHs h, Bool.true_and]
   by_cases h5 : 48 ≤ ((s.data.toList.getD 0 0).toNat : Int) ∧ ((s.data.toList.getD 0 0).toNat : Int) ≤ 57
   ·rw [show decide (1 ≤ s.size ∧ s.size ≤ 32 ∧ ¬ (48 ≤ ((s.data.toList.getD 0 0).toNat : Int) ∧ ((s.data.toList.getD 0 0).toNat : Int) ≤ 57)) = false from zF (fun h => h.2.2 h5), Bool.false_and, if_neg (by omega), if_pos (by omega), if_neg (by omega), if_neg (by omega)]; simp
   have e : decide (1 ≤ s.size ∧ s.size ≤ 32 ∧ ¬ (48 ≤ ((s.data.toList.getD 0 0).toNat : Int) ∧ ((s.data.toList.getD 0 0).toNat : Int) ≤ 57)) = decide (s.size ≤ 32) := by
    rw [decide_eq_decide]; constructor
    ·exact fun h => h.2.1
    exact fun h => ⟨by omega, h, h5⟩
   rw [e]
   split
   ·rfl
   split
   ·omega
   split
   ·omega
   rfl
  rw [zGo h, Bool.false_and, Bool.and_false, if_neg (by omega)]
  split
  ·split
   ·rfl
   rw [if_pos (by omega)]
  rw [if_pos (by omega)]
  split
  ·rfl
  rw [if_pos (by omega)]
 rw [if_neg (by omega), if_neg (by omega), show decide (1 ≤ s.size ∧ s.size ≤ 32 ∧ ¬ (48 ≤ ((s.data.toList.getD 0 0).toNat : Int) ∧ ((s.data.toList.getD 0 0).toNat : Int) ≤ 57)) = false from zF (by omega), Bool.false_and]
theorem zGd {α : Type} (d : α) (l : List α) (i : Nat) : rdOf d l (i : Int) = l.getD i d := by simp [rdOf]
theorem vdrop (l : List ByteArray) (i : Nat) (h : i < l.length) : l.drop i = l.getD i ByteArray.empty :: l.drop (i + 1) := by
 rw [List.drop_eq_getElem_cons h, List.getD_eq_getElem?_getD, List.getElem?_eq_getElem h, Option.getD_some]
def zDa (p : Option ByteArray) : List ByteArray → Bool
 | [] => true
 | v :: l => decide (v.size ≤ 64) && (match p with | none => true | some u => Op.bytesLess u.toList v.toList) && zDa (some v) l
theorem zFj : ∀ (l : List ByteArray) (p : Option ByteArray), zDa p l = (l.all (fun v => decide (v.size ≤ 64)) && risesS (match p with | none => l | some u => u :: l))
 | [], none => by simp [zDa, risesS]
 | [], some u => by simp [zDa, risesS]
 | v :: l, none => by
  rw [zDa, zFj l (some v)]
  simp [Bool.and_assoc]
 | v :: l, some u => by
  rw [zDa, zFj l (some v)]
  simp only [List.all_cons, risesS]
  cases decide (v.size ≤ 64) <;> cases Op.bytesLess u.toList v.toList <;> simp
def zHj (l : List ByteArray) : Nat → Option ByteArray
 | 0 => none
 | i + 1 => some (l.getD i ByteArray.empty)
theorem vals_l0 (l : List ByteArray) (hl : l.length ≤ 1000) : ∀ (d i k : Nat), i ≤ l.length → l.length ≤ i + d → d < k → match_values.l0 k l l (l.length : Int) (i : Int) = some (zDa (zHj l i) (l.drop i))
 | d, i, 0, _, _, h => by omega
 | d, i, k + 1, hi, hd, hk => by
  simp only [match_values.l0, w64s i (by omega), zGd]
  by_cases hlt : i < l.length
  ·have ih := vals_l0 l hl (d - 1) (i + 1) k (by omega) (by omega) (by omega)
   rw [if_pos (by omega), if_pos (by omega), if_pos (by omega), vdrop l i hlt]
   simp only [zDa]
   by_cases h1 : (l.getD i ByteArray.empty).size ≤ 64
   ·rw [if_neg (by omega), zT h1, Bool.true_and]
    cases i with
    | zero =>
     rw [if_neg (by omega), ih]
     simp [zHj]
    | succ i =>
     rw [if_pos (by omega), w64p i (by omega), if_pos (by omega), if_pos (by omega), zGd]
     simp only [zHj]
     cases h2 : Op.bytesLess (l.getD i ByteArray.empty).toList (l.getD (i + 1) ByteArray.empty).toList with
     | true => rw [if_pos rfl, ih, Bool.true_and]; rfl
     | false => rw [if_neg (by decide), Bool.false_and]
   ·rw [if_pos (by omega), zF h1, Bool.false_and, Bool.false_and]
  ·rw [if_neg (by omega), List.drop_of_length_le (by omega)]; simp [zDa]
theorem rvals_l0 (l : List ByteArray) (hl : l.length ≤ 1000) : ∀ (d i k : Nat), i ≤ l.length → l.length ≤ i + d → d < k → varveref12_values.l0 k l (i : Int) = some (zDa (zHj l i) (l.drop i))
 | d, i, 0, _, _, h => by omega
 | d, i, k + 1, hi, hd, hk => by
  simp only [varveref12_values.l0, w64s i (by omega), zGd]
  by_cases hlt : i < l.length
  ·have ih := rvals_l0 l hl (d - 1) (i + 1) k (by omega) (by omega) (by omega)
   rw [if_pos (by omega), if_pos (by omega), vdrop l i hlt]
   simp only [zDa]
   by_cases h1 : (l.getD i ByteArray.empty).size ≤ 64
   ·rw [if_neg (by omega), zT h1, Bool.true_and]
    cases i with
    | zero =>
     rw [if_neg (by omega), ih]
     simp [zHj]
    | succ i =>
     rw [if_pos (by omega), w64p i (by omega), if_pos (by omega), if_pos (by omega), zGd]
     simp only [zHj]
     cases h2 : Op.bytesLess (l.getD i ByteArray.empty).toList (l.getD (i + 1) ByteArray.empty).toList with
     | true => rw [if_pos rfl, ih, Bool.true_and]; rfl
     | false => rw [if_neg (by decide), Bool.false_and]
   ·rw [if_pos (by omega), zF h1, Bool.false_and, Bool.false_and]
  ·rw [if_neg (by omega), List.drop_of_length_le (by omega)]; simp [zDa]
theorem match_values.val (l : List ByteArray) (k : Nat) (hk : 40 ≤ k) : match_values.f k l = some (zEc l) := by
 obtain ⟨k, rfl⟩ : ∃ q, k = q + 1 := ⟨k - 1, by omega⟩
 unfold match_values.f zEc
 have h0 := zFj l none
 by_cases h1 : (l.length : Int) < 1
 ·rw [if_pos h1, show decide (1 ≤ l.length ∧ l.length ≤ 16) = false from zF (by omega)]
  simp [match_values.j0]
 rw [if_neg h1]
 by_cases h2 : (l.length : Int) > 16
 ·rw [show decide (1 ≤ l.length ∧ l.length ≤ 16) = false from zF (by omega), zT h2]
  simp [match_values.j0]
 have hl := vals_l0 l (by omega) l.length 0 k (by omega) (by omega) (by omega)
 rw [show ((0 : Nat) : Int) = 0 from rfl, List.drop_zero] at hl
 rw [show decide (1 ≤ l.length ∧ l.length ≤ 16) = true from zT (by omega), zF h2, Bool.true_and]
 simp only [match_values.j0]
 rw [if_neg (by decide), hl, ← h0]; rfl
theorem varveref12_values.val (l : List ByteArray) (k : Nat) (hk : 40 ≤ k) : varveref12_values.f k l = some (zEc l) := by
 obtain ⟨k, rfl⟩ : ∃ q, k = q + 1 := ⟨k - 1, by omega⟩
 unfold varveref12_values.f zEc
 have h0 := zFj l none
 by_cases h1 : (l.length : Int) < 1
 ·rw [if_pos h1, show decide (1 ≤ l.length ∧ l.length ≤ 16) = false from zF (by omega)]
  simp [varveref12_values.j0]
 rw [if_neg h1]
 by_cases h2 : (l.length : Int) > 16
 ·rw [show decide (1 ≤ l.length ∧ l.length ≤ 16) = false from zF (by omega), zT h2]
  simp [varveref12_values.j0]
 have hl := rvals_l0 l (by omega) l.length 0 k (by omega) (by omega) (by omega)
 rw [show ((0 : Nat) : Int) = 0 from rfl, List.drop_zero] at hl
 rw [show decide (1 ≤ l.length ∧ l.length ≤ 16) = true from zT (by omega), zF h2, Bool.true_and]
 simp only [varveref12_values.j0]
 rw [if_neg (by decide), hl, ← h0]; rfl
theorem match_alone.val (m : S25) (k : Nat) (hk : 50 ≤ k) : match_alone.f k m.f0 m.f1 m.f2 m.f3 m.f4 = some (zBs m) := by
 obtain ⟨a, n, v, vs, ks⟩ := m
 obtain ⟨k, rfl⟩ : ∃ q, k = q + 4 := ⟨k - 4, by omega⟩
 simp only [match_alone.f, label_Name.val n _ (show 40 ≤ k + 4 by omega), Option.bind_some]
 have hv := match_values.val vs (k + 1) (by omega)
 have j0 : ∀ x : Bool, match_alone.j0 (k + 4) x a n v vs ks = match_alone.j1 (k + 3) x (zEe ⟨a, n, v, vs, ks⟩) a n v vs ks := by
  intro x
  simp only [match_alone.j0, zEe]
  by_cases h1 : n.toList = []
  ·by_cases h2 : v.toList = []
   ·rw [if_pos h1, if_pos h2]
    congr 1
    rw [Bool.eq_iff_iff]; simp only [beq_iff_eq, decide_eq_true_eq, h1, h2, true_and]; omega
   rw [if_pos h1, if_neg h2, zF (fun h => h2 h.2.1)]
  rw [if_neg h1, zF (fun h => h1 h.1)]
 have hz : ∀ t : Nat, (((t : Int) == 0) : Bool) = decide (t = 0) := fun t => by rw [Bool.eq_iff_iff]; simp only [beq_iff_eq, decide_eq_true_eq]; omega
 have ho : ∀ t : Nat, (((t : Int) == 1) : Bool) = decide (t = 1) := fun t => by rw [Bool.eq_iff_iff]; simp only [beq_iff_eq, decide_eq_true_eq]; omega
 have hx : (if zDk n = true then (if (v.size : Int) ≤ 64 then match_alone.j0 (k + 4) ((ks.length : Int) == 0) a n v vs ks else match_alone.j0 (k + 4) false a n v vs ks) else match_alone.j0 (k + 4) false a n v vs ks) =
   match_alone.j1 (k + 3) (zDk n && decide (v.size ≤ 64 ∧ ks.length = 0)) (zEe ⟨a, n, v, vs, ks⟩) a n v vs ks := by
  rw [j0, j0, hz]
  cases zDk n with
  | false => simp
  | true =>
   simp only [if_true, Bool.true_and]
   by_cases h : v.size ≤ 64
   ·rw [if_pos (by omega)]; congr 1; rw [decide_eq_decide]; exact ⟨fun e => ⟨h, e⟩, fun e => e.2⟩
   ·rw [if_neg (by omega), zF (fun e => h e.1)]
 rw [hx]
 generalize hX : (zDk n && decide (v.size ≤ 64 ∧ ks.length = 0)) = X
 generalize hY : zEe ⟨a, n, v, vs, ks⟩ = Y
 unfold zBs
 simp only [hY]
 simp only [match_alone.j1, match_alone.j2, match_alone.j3, hv, hz, ho, Option.bind_some]
 by_cases e0 : a = 0
 ·rw [if_pos e0, if_pos e0]; cases Y <;> simp
 rw [if_neg e0, if_neg e0]
 by_cases e1 : a = 1
 ·subst e1; simp only [← hX]; cases zDk n <;> by_cases h2 : v.size ≤ 64 <;> by_cases h3 : ks.length = 0 <;> simp [h2, h3]
 by_cases e2 : a = 2
 ·subst e2; simp only [← hX]; cases zDk n <;> by_cases h2 : v.size ≤ 64 <;> by_cases h3 : ks.length = 0 <;> simp [h2, h3]
 by_cases e3 : a = 3
 ·subst e3; simp only [← hX]; cases zDk n <;> by_cases h2 : v.size ≤ 64 <;> by_cases h3 : ks.length = 0 <;> simp [h2, h3]
 have b3 : (a == 3) = false := by simpa using e3
 simp only [e1, e2, b3, if_false, or_self, e3]
 by_cases e4 : a = 4
 ·subst e4
  have hX' : v.toList = [] → X = (zDk n && decide (ks.length = 0)) := by
   intro h
   rw [← hX]; congr 1; rw [decide_eq_decide]
   have : v.size = 0 := by
    have := congrArg List.length h
    rw [ByteArray.toList_eq, Array.length_toList] at this
    exact this
   omega
  by_cases h2 : v.toList = []
  ·rw [hX' h2]; cases zDk n <;> by_cases h3 : ks.length = 0 <;> simp [h2, h3]
  cases X <;> simp [h2]
 simp only [e4, if_false]
 by_cases e5 : a = 5
 ·subst e5; simp
 by_cases e6 : a = 6
 ·subst e6; simp
 have b6 : (a == 6) = false := by simpa using e6
 simp only [e5, e6, b6, if_false, or_self]
 by_cases e7 : a = 7
 ·subst e7; cases Y <;> simp
 simp [e7]
end Go.Proofs.Yteafilojjdfllaa
end
section
namespace Go.Proofs.Yteafilojjdfllaa
open Go Go.RowKit Go.Proofs.YteafilojjdfllaaW.PrintWords Go.Proofs.YteafilojjdfllaaW.PrintLast Go.Proofs.YteafilojjdfllaaW.PrintMore Go.Proofs.Yteafilojjdfllaa.PAll
def MC (w : World) (m : S25) (A3 : Option Addr) (c3 : Nat) (A4 : Option Addr) (c4 : Nat) : Prop :=
 m.f3.length ≤ c3 ∧ Kd.C Kd.string w A3 m.f3.length m.f3 ∧ m.f4.length ≤ c4 ∧ Kd.C k25 w A4 m.f4.length m.f4
theorem MC.below {w W : World} {m : S25} {A3 : Option Addr} {c3 : Nat} {A4 : Option Addr} {c4 : Nat} (h : MC w m A3 c3 A4 c4) (hb : Below w.heap.size w W) : MC W m A3 c3 A4 c4 :=
 ⟨h.1, Kd.C_below h.2.1 hb, h.2.2.1, Kd.C_below h.2.2.2 hb⟩
def Room (W : World) (g : Nat) (n b : Int) : Prop := W.heap[g]? = some (.cells #[.int .i64 n, .int .i64 b] 130 (0, 0))
theorem Room.c0 {W : World} {g : Nat} {n b : Int} (h : Room W g n b) : W.cell? ⟨g, 0, none⟩ = some (.int .i64 n) := (zAb h 0).trans rfl
theorem Room.c1 {W : World} {g : Nat} {n b : Int} (h : Room W g n b) : W.cell? ⟨g, 1, none⟩ = some (.int .i64 b) := (zAb h 1).trans rfl
theorem Room.z0 {W : World} {g : Nat} {n b : Int} (h : Room W g n b) : W.frozen? ⟨g, 0, none⟩ = false := zAa h 0
theorem Room.z1 {W : World} {g : Nat} {n b : Int} (h : Room W g n b) : W.frozen? ⟨g, 1, none⟩ = false := zAa h 1
theorem Room.lt {W : World} {g : Nat} {n b : Int} (h : Room W g n b) : g < W.heap.size := (Array.getElem?_eq_some_iff.1 h).1
theorem Room.set0 {W : World} {g : Nat} {n b : Int} (h : Room W g n b) (x : Int) : Room (W.setCell ⟨g, 0, none⟩ (.int .i64 x)) g x b := by simpa [Room] using zAn h 0 (.int .i64 x)
theorem Room.set1 {W : World} {g : Nat} {n b : Int} (h : Room W g n b) (x : Int) : Room (W.setCell ⟨g, 1, none⟩ (.int .i64 x)) g n x := by simpa [Room] using zAn h 1 (.int .i64 x)
theorem Room.below {W X : World} {g : Nat} {n b : Int} (h : Room W g n b) (hb : Below W.heap.size W X) : Room X g n b := (hb.block g h.lt).trans h
theorem Room.alloc {W : World} {g : Nat} {n b : Int} (h : Room W g n b) (o : Obj) : Room (W.alloc o) g n b := h.below (zAc (Below.refl _ _) o)
theorem alone157 (w : World) (m : S25) (A3 : Option Addr) (c3 : Nat) (A4 : Option Addr) (c4 : Nat) (v : Bool) (hv : zBs m = v) (h : MC w m A3 c3 A4 c4) :
  Calls Try.prog 157 #[.agg #[.int .i64 m.f0, .string m.f1, .string m.f2, .slice A3 m.f3.length c3, .slice A4 m.f4.length c4]] w fun e w' => e = .returned (.bool v) ∧ Below w.heap.size w w' :=
 match_alone.calls 50 m.f0 m.f1 m.f2 A3 c3 m.f3 A4 c4 m.f4 v w h.2.1 h.1 h.2.2.2 h.2.2.1 (hv ▸ match_alone.val m 50 (by omega))
def HoldsPost (w0 w : World) (g : Nat) (d : Int) (m : S25) (n b : Int) (e : Ending) (w' : World) : Prop :=
 e = .returned (.bool (chk d m n b)) ∧ Below w0.heap.size w0 w' ∧ KeepBut w w' g none ∧ ∃ n' b', Room w' g n' b' ∧ (chk d m n b = true → n' = n - zAv m ∧ b' = b - zBy m)
theorem HoldsPost.no {w0 w w' : World} {g : Nat} {d : Int} {m : S25} {n b n' b' : Int} (h : chk d m n b = false) (hB : Below w0.heap.size w0 w') (hK : KeepBut w w' g none) (hR : Room w' g n' b') : HoldsPost w0 w g d m n b (.returned (.bool false)) w' :=
 ⟨by rw [h], hB, hK, n', b', hR, fun e => by rw [h] at e; cases e⟩
theorem alone_bounds {m : S25} (h : zBs m = true) : m.f1.size ≤ 32 ∧ m.f2.size ≤ 64 ∧ m.f3.length ≤ 16 ∧ ∀ v ∈ m.f3, v.size ≤ 64 := by
 have hp : zEe m = true → m.f1.size ≤ 32 ∧ m.f2.size ≤ 64 ∧ m.f3.length ≤ 16 ∧ ∀ v ∈ m.f3, v.size ≤ 64 := by
  intro h
  unfold zEe at h
  obtain ⟨h1, h2, h3⟩ := zO h
  have z : ∀ s : ByteArray, s.toList = [] → s.size = 0 := fun s h => by
   have := congrArg List.length h
   rw [ByteArray.toList_eq, Array.length_toList] at this
   exact this
  have e3 := List.eq_nil_of_length_eq_zero h3
  rw [e3]
  exact ⟨by rw [z _ h1]; omega, by rw [z _ h2]; omega, by simp, fun v hv => by cases hv⟩
 have hn : zDk m.f1 = true → m.f1.size ≤ 32 := by
  intro h
  unfold zDk at h
  rw [Bool.and_eq_true] at h
  have h1 := zO h.1
  exact h1.2.1
 unfold zBs at h
 split at h
 ·rw [Bool.and_eq_true] at h; exact hp h.1
 split at h
 ·rw [Bool.and_eq_true] at h
  have h2 := zO h.2
  have e3 := List.eq_nil_of_length_eq_zero h2.2.2
  rw [e3]
  exact ⟨hn h.1, h2.1, by simp, fun v hv => by cases hv⟩
 split at h
 ·rw [Bool.and_eq_true, Bool.and_eq_true] at h
  obtain ⟨⟨h1, h2⟩, h3⟩ := h
  have h2 := zO h2
  unfold zEc at h3
  rw [Bool.and_eq_true, Bool.and_eq_true] at h3
  obtain ⟨⟨h3, h4⟩, _⟩ := h3
  have h3 := zO h3
  refine ⟨hn h1, ?_, h3.2, fun v hv => zO (List.all_eq_true.1 h4 v hv)⟩
  have := congrArg List.length h2.2
  rw [ByteArray.toList_eq, Array.length_toList] at this
  have : m.f2.size = 0 := this
  omega
 split at h
 ·exact hp h
 split at h
 ·rw [Bool.and_eq_true] at h; exact hp h.1
 cases h
theorem sizes_le : ∀ (vs : List ByteArray), (∀ v ∈ vs, v.size ≤ 64) → sizes vs ≤ vs.length * 64
 | [], _ => by simp [sizes]
 | v :: vs, h => by
  have h1 := h v (by simp)
  have h2 := sizes_le vs (fun u hu => h u (List.mem_cons_of_mem _ hu))
  simp only [sizes, List.length_cons, Nat.succ_mul]; omega
theorem MC.kid {w : World} {m : S25} {A3 : Option Addr} {c3 : Nat} {A4 : Option Addr} {c4 : Nat} (h : MC w m A3 c3 A4 c4) (j : Nat) (hj : j < m.f4.length) :
  ∃ (ad : Addr) (B3 : Option Addr) (e3 : Nat) (B4 : Option Addr) (e4 : Nat), A4 = some ad ∧ MC w (m.f4.getD j z25) B3 e3 B4 e4 ∧
   w.cell? (ad.add (j * 5)) = some (.int .i64 (m.f4.getD j z25).f0) ∧ w.cell? ⟨(ad.add (j * 5)).block, (ad.add (j * 5)).off + 1, none⟩ = some (.string (m.f4.getD j z25).f1) ∧ w.cell? ⟨(ad.add (j * 5)).block, (ad.add (j * 5)).off + 2, none⟩ = some (.string (m.f4.getD j z25).f2) ∧
   w.cell? ⟨(ad.add (j * 5)).block, (ad.add (j * 5)).off + 3, none⟩ = some (.slice B3 (m.f4.getD j z25).f3.length e3) ∧ w.cell? ⟨(ad.add (j * 5)).block, (ad.add (j * 5)).off + 4, none⟩ = some (.slice B4 (m.f4.getD j z25).f4.length e4) := by
 obtain ⟨ad, B3, e3, B4, e4, hA, c0, c1, c2, c3', c4', h3, h4, h5, h6⟩ := at_T25 h.2.2.2 (j : Int) (by omega) (by omega)
 simp only [Int.toNat_natCast, show zAu m.f4 (j : Int) = m.f4.getD j z25 by simp [zAu]] at c0 c1 c2 c3' c4' h3 h4 h5 h6
 exact ⟨ad, B3, e3, B4, e4, hA, ⟨h3, h4, h5, h6⟩, c0, c1, c2, c3', c4'⟩
theorem MC.value {w : World} {m : S25} {A3 : Option Addr} {c3 : Nat} {A4 : Option Addr} {c4 : Nat} (h : MC w m A3 c3 A4 c4) (j : Nat) (hj : j < m.f3.length) :
  ∃ ad : Addr, A3 = some ad ∧ w.cell? (ad.add j) = some (.string (m.f3.getD j ByteArray.empty)) := by
 obtain ⟨ad, hA, c⟩ := Kd.at_string h.2.1 (j : Int) (by omega) (by omega)
 simp only [Int.toNat_natCast, zGd] at c
 exact ⟨ad, hA, c⟩
theorem holds106 : ∀ (N : Nat) (m : S25), zAv m ≤ N → ∀ (d n b : Int) (A3 : Option Addr) (c3 : Nat) (A4 : Option Addr) (c4 : Nat) (g : Nat) (w0 w : World), 0 ≤ d → d ≤ 100 → 0 ≤ n → n ≤ 64 → 0 ≤ b → b ≤ 4096 →
  MC w0 m A3 c3 A4 c4 → Below w0.heap.size w0 w → w0.heap.size ≤ g → Room w g n b →
  Calls Try.prog 106 #[.pointer (some ⟨g, 0, none⟩), .agg #[.int .i64 m.f0, .string m.f1, .string m.f2, .slice A3 m.f3.length c3, .slice A4 m.f4.length c4], .int .i64 d] w (HoldsPost w0 w g d m n b) := by
 intro N
 induction N with
 | zero => intro m h; rw [zAz] at h; omega
 | succ N ih =>
 intro m hN
 have IH := zH ih
 clear ih
 intro d n b A3 c3 A4 c4 g w0 w hd0 hd1 hn0 hn1 hb0 hb1 hM hB hg hR
 have hgl := hR.lt
 have q0 := hR.c0
 have z0 := hR.z0
 have r0 := (hR.alloc (.cells #[.int .i64 m.f0, .string m.f1, .string m.f2, .slice A3 m.f3.length c3, .slice A4 m.f4.length c4] 25)).c0
 have s0 := (hR.alloc (.cells #[.int .i64 m.f0, .string m.f1, .string m.f2, .slice A3 m.f3.length c3, .slice A4 m.f4.length c4] 25)).z0
 have hR2 := (hR.set0 (n - 1)).alloc (.cells #[.int .i64 m.f0, .string m.f1, .string m.f2, .slice A3 m.f3.length c3, .slice A4 m.f4.length c4] 25)
 have q1 := hR2.c0
 have hB2 : Below w0.heap.size w0 ((w.setCell ⟨g, 0, none⟩ (.int .i64 (n - 1))).alloc (.cells #[.int .i64 m.f0, .string m.f1, .string m.f2, .slice A3 m.f3.length c3, .slice A4 m.f4.length c4] 25)) := zAc (hB.setCell hg _) _
 have hK2 : KeepBut w ((w.setCell ⟨g, 0, none⟩ (.int .i64 (n - 1))).alloc (.cells #[.int .i64 m.f0, .string m.f1, .string m.f2, .slice A3 m.f3.length c3, .slice A4 m.f4.length c4] 25)) g none := ((KeepBut.refl w g none).set_ 0 _).trans (KeepBut.of_below (zAc (Below.refl _ _) _) g none) (.inl rfl)
 by_cases hd : 8 < d
 ·have hc : chk d m n b = false := zCn (fun h => by omega)
  go_enter Try.func106, Try.ntmps106
  go_wp2
  go_ret
  exact HoldsPost.no hc hB2 hK2 hR2
 by_cases hn : n - 1 < 0
 ·have hc : chk d m n b = false := zCn (fun h => by omega)
  go_enter Try.func106, Try.ntmps106
  go_wp2
  go_ret
  exact HoldsPost.no hc hB2 hK2 hR2
 cases ha : zBs m with
 | false =>
  have hc : chk d m n b = false := zCn (fun h => by rw [ha] at h; exact absurd h.2.2.1 (by decide))
  have Ha := zH ha
  clear ha
  go_enter Try.func106, Try.ntmps106
  go_wp2_with fail
  (with_reducible refine (alone157 _ m A3 c3 A4 c4 false Ha.out (hM.below hB2)).mono ?_)
  rintro e w1 ⟨rfl, hb3⟩
  go_wp2_with fail
  go_ret
  exact HoldsPost.no hc (zAe hB2 hb3) (hK2.trans (KeepBut.of_below hb3 g none) (.inl rfl)) (hR2.below hb3)
 | true =>
 obtain ⟨hz1, hz2, hz3, hz4⟩ := alone_bounds ha
 have Hz4 := zH hz4
 have Ha := zH ha
 clear ha hz4
 go_enter Try.func106, Try.ntmps106
 go_wp2_with fail
 (with_reducible refine (alone157 _ m A3 c3 A4 c4 true Ha.out (hM.below hB2)).mono ?_)
 rintro e w1 ⟨rfl, hb3⟩
 have hB3 := zAe hB2 hb3
 have hR3 := hR2.below hb3
 have hK3 := hK2.trans (KeepBut.of_below hb3 g none) (.inl rfl)
 have hne : w.heap.size ≠ g := by omega
 have hw : ∀ o : Nat, w1.cell? ⟨w.heap.size, o, none⟩ = (#[Value.int .i64 m.f0, .string m.f1, .string m.f2, .slice A3 m.f3.length c3, .slice A4 m.f4.length c4])[o]? := fun o => (hb3.cell (p := ⟨w.heap.size, o, none⟩) (by simp)).trans (by
  have := zAb (zAs (w.setCell ⟨g, 0, none⟩ (.int .i64 (n - 1))) (.cells #[.int .i64 m.f0, .string m.f1, .string m.f2, .slice A3 m.f3.length c3, .slice A4 m.f4.length c4] 25)) o
  simpa using this)
 have x1 := hw 1
 have x2 := hw 2
 have x3 := hw 3
 have x4 := hw 4
 simp only [zC, zB, zA] at x1 x2 x3 x4
 have q2 := hR3.c1
 have z2 := hR3.z1
 clear hw
 clear q0 z0 r0 s0 q1
 go_wp2
 go_region
 have hR4 : Room (w1.setCell ⟨g, 1, none⟩ (.int .i64 (b - (m.f1.size + m.f2.size : Int)))).drew g (n - 1) (b - (m.f1.size + m.f2.size : Int)) := hR3.set1 _
 have hB4 : Below w0.heap.size w0 (w1.setCell ⟨g, 1, none⟩ (.int .i64 (b - (m.f1.size + m.f2.size : Int)))).drew := (hB3.setCell hg _).drew
 have hK4 : KeepBut w (w1.setCell ⟨g, 1, none⟩ (.int .i64 (b - (m.f1.size + m.f2.size : Int)))).drew g none := hK3.set_ 1 _
 have hsz0 := sizes_le m.f3 Hz4.out
 go_wp2
 have y4 : (w1.setCell ⟨g, 1, none⟩ (.int .i64 (b - (m.f1.size + m.f2.size : Int)))).drew.cell? ⟨w.heap.size, 4, none⟩ = some (.slice A4 m.f4.length c4) := by go_simp
 clear x1 x2 x3 x4 q2 z2 hR3 hR2 hB3 hB2 hK3 hK2
 obtain ⟨W4, e4⟩ : ∃ W4, (w1.setCell ⟨g, 1, none⟩ (.int .i64 (b - (m.f1.size + m.f2.size : Int)))).drew = W4 := ⟨_, rfl⟩
 rw [e4] at hR4 hB4 hK4 y4 ⊢
 clear e4 hb3
 go_loopw [49] (fun u49 wr => ∃ j : Nat, u49 = .int .i64 j ∧ j ≤ m.f3.length ∧ wr.cell? ⟨w.heap.size, 4, none⟩ = some (.slice A4 m.f4.length c4) ∧ Room wr g (n - 1) (b - (m.f1.size + m.f2.size : Int) - sizes (m.f3.take j)) ∧ Below w0.heap.size w0 wr ∧ KeepBut w wr g none)
  (fun u49 _ => m.f3.length - (intOf u49).toNat)
 case atStart => exact ⟨0, rfl, Nat.zero_le _, y4, by simpa [sizes] using hR4, hB4, hK4⟩
 case round =>
  clear y4 hR4 hB4 hK4
  obtain ⟨j, rfl, hj, y4, hR4, hB4, hK4⟩ := hrel
  have hsj : sizes (m.f3.take j) ≤ 16 * 64 := by
   have h1 := sizes_le (m.f3.take j) (fun v hv => Hz4.out v (List.mem_of_mem_take hv))
   have h2 : (m.f3.take j).length ≤ 16 := by rw [List.length_take]; omega
   have h3 : (m.f3.take j).length * 64 ≤ 16 * 64 := Nat.mul_le_mul_right _ h2
   omega
  by_cases hlt : j < m.f3.length
  ·have hsp := zH (zIr m.f3 j hlt)
   obtain ⟨ad, rfl, hcell⟩ := hM.value j hlt
   have hcell := zAf hB4 hcell
   have hv64 : (m.f3.getD j ByteArray.empty).size ≤ 64 := Hz4.out _ (by simp [List.getD_eq_getElem?_getD, hlt])
   obtain ⟨v, hv⟩ : ∃ v, m.f3.getD j ByteArray.empty = v := ⟨_, rfl⟩
   rw [hv] at hcell hsp hv64
   obtain ⟨s, hs⟩ : ∃ s, sizes (m.f3.take j) = s := ⟨_, rfl⟩
   rw [hs] at hR4 hsj hsp
   have q1 := hR4.c1
   have z1 := hR4.z1
   clear hv hs
   go_wp2
   go_roundw
   case rel =>
    refine ⟨j + 1, by go_num, by omega, ?_, ?_, hB4.setCell hg _, hK4.set_ 1 _⟩
    ·rw [World.cell?_setCell_far _ _ _ _ (fun e => hne e.symm)]
     exact y4
    have := hR4.set1 (b - (m.f1.size + m.f2.size : Int) - s - v.size)
    rw [hsp.out, show b - (m.f1.size + m.f2.size : Int) - ((s + v.size : Nat) : Int) = b - (m.f1.size + m.f2.size : Int) - s - v.size by omega]
    exact this
   case measure => simp [intOf]; omega
  obtain rfl : j = m.f3.length := by omega
  rw [List.take_length] at hR4 hsj
  have q1 := hR4.c1
  have z1 := hR4.z1
  obtain ⟨s, hs⟩ : ∃ s, sizes m.f3 = s := ⟨_, rfl⟩
  rw [hs] at hR4 hsj q1 hsz0
  have Hs := zH hs
  clear hs
  by_cases hneg : b - (m.f1.size + m.f2.size : Int) - s < 0
  ·have hc : chk d m n b = false := zCn (fun h => by have := h.2.2.2.1; rw [Hs.out] at this; omega)
   go_wp2
   go_ret
   exact HoldsPost.no hc hB4 hK4 hR4
  have Hchk := zH (show chk d m n b = chkL (d + 1) m.f4 (n - 1) (b - (m.f1.size + m.f2.size : Int) - s) from by
   rw [Bool.eq_iff_iff, zIa, Hs.out]
   constructor
   ·rintro ⟨_, _, _, _, h⟩
    rw [show b - (m.f1.size + m.f2.size : Int) - s = b - ((m.f1.size + m.f2.size : Int) + s) by omega]; exact h
   ·intro h
    rw [show b - (m.f1.size + m.f2.size : Int) - s = b - ((m.f1.size + m.f2.size : Int) + s) by omega] at h
    exact ⟨by omega, by omega, Ha.out, by omega, h⟩)
  have Hnod := zH (zAz m)
  have Hbyt := zH (show zBy m = m.f1.size + m.f2.size + s + zBr m.f4 from by rw [zFh, Hs.out])
  obtain ⟨b1, hb1⟩ : ∃ b1, b - (m.f1.size + m.f2.size : Int) - s = b1 := ⟨_, rfl⟩
  rw [hb1] at hR4 q1 hneg Hchk
  have Hb1 := zH hb1
  have hbb : b1 ≤ 4096 := by omega
  clear hb1
  have hlen4 := hM.2.2.2.2.1
  go_wp2
  clear y4 q1 z1
  go_loopw [71] (fun u71 wx => ∃ (j : Nat) (n' b' : Int), u71 = .int .i64 j ∧ j ≤ m.f4.length ∧ Room wx g n' b' ∧ 0 ≤ n' ∧ 0 ≤ b' ∧ n' ≤ 64 ∧ b' ≤ 4096 ∧ n' = n - 1 - zBd (m.f4.take j) ∧ b' = b1 - zBr (m.f4.take j) ∧ chkL (d + 1) m.f4 (n - 1) b1 = chkL (d + 1) (m.f4.drop j) n' b' ∧ Below w0.heap.size w0 wx ∧ KeepBut w wx g none)
   (fun u71 _ => m.f4.length - (intOf u71).toNat)
  case atStart => exact ⟨0, n - 1, b1, rfl, Nat.zero_le _, hR4, by omega, by omega, by omega, by omega, by simp [zBd], by simp [zBr], by simp, hB4, hK4⟩
  case round =>
   clear hR4 hB4 hK4
   obtain ⟨j, n', b', rfl, hj, hR4, hn1', hb1', hn2', hb2', hne1, hbe1, hce, hB4, hK4⟩ := hrel
   have Hne1 := zH hne1
   have Hbe1 := zH hbe1
   have Hce := zH hce
   clear hne1 hbe1 hce
   by_cases hlt : j < m.f4.length
   ·obtain ⟨ad, B3, e3, B4, e4, rfl, hMk, k0, k1, k2, k3, k4⟩ := hM.kid j hlt
    have k0 := zAf hB4 k0
    have k1 := zAf hB4 k1
    have k2 := zAf hB4 k2
    have k3 := zAf hB4 k3
    have k4 := zAf hB4 k4
    have hmem : m.f4.getD j z25 ∈ m.f4 := by simp [List.getD_eq_getElem?_getD, hlt]
    have hsmall := zCf m _ hmem
    have Hdrop := zH (zHg (d + 1) m.f4 j hlt n' b')
    have Hn4 := zH (zDw m.f4 j hlt)
    have Hb4 := zH (zEw m.f4 j hlt)
    obtain ⟨kid, ek⟩ : ∃ kid, m.f4.getD j z25 = kid := ⟨_, rfl⟩
    rw [ek] at hMk k0 k1 k2 k3 k4 hsmall Hdrop Hn4 Hb4
    clear ek hmem
    go_wp2_with fail
    (with_reducible refine (IH.out kid (by omega) (d + 1) n' b' B3 e3 B4 e4 g w0 _ (by omega) (by omega) (by omega) (by omega) (by omega) (by omega) hMk (zAc hB4 _) hg (hR4.alloc _)).mono ?_)
    rintro e w5 ⟨rfl, hB5, hK5, n5, b5, hR5, hyes⟩
    cases hk : chk (d + 1) kid n' b' with
    | false =>
     have hc : chk d m n b = false := by
      rw [Hchk.out, Hce.out, ← Bool.not_eq_true, Hdrop.out]
      exact fun h => by rw [hk] at h; cases h.1
     go_wp2_with fail
     go_ret
     exact HoldsPost.no hc hB5 (hK4.trans ((KeepBut.of_below (zAc (Below.refl _ _) _) g none).trans hK5 (.inl rfl)) (.inl rfl)) hR5
    | true =>
    obtain ⟨e1, e2⟩ := hyes hk
    have E1 := zH e1
    have E2 := zH e2
    have Hk := zH hk
    clear e1 e2 hyes hk
    go_wp2_with fail
    go_roundw
    case rel =>
     have hd := chk_def.1 Hk.out
     refine ⟨j + 1, n5, b5, by go_num, by omega, hR5, ?_, ?_, ?_, ?_, ?_, ?_, ?_, hB5, hK4.trans ((KeepBut.of_below (zAc (Below.refl _ _) _) g none).trans hK5 (.inl rfl)) (.inl rfl)⟩
     ·rw [E1.out]; omega
     ·rw [E2.out]; omega
     ·rw [E1.out]; omega
     ·rw [E2.out]; omega
     ·rw [E1.out, Hne1.out, Hn4.out]; omega
     ·rw [E2.out, Hbe1.out, Hb4.out]; omega
     rw [Hce.out, Bool.eq_iff_iff, Hdrop.out, E1.out, E2.out]
     exact ⟨fun h => h.2, fun h => ⟨Hk.out, h⟩⟩
    case measure => simp [intOf]; omega
   obtain rfl : j = m.f4.length := by omega
   have hc : chk d m n b = true := by
    rw [Hchk.out, Hce.out, List.drop_length, zHf]
    omega
   have hres : HoldsPost w0 w g d m n b (.returned (.bool true)) wr := ⟨by rw [hc], hB4, hK4, n', b', hR4, fun _ => by
    rw [Hne1.out, Hbe1.out, List.take_length, Hnod.out, Hbyt.out, ← Hb1.out]
    exact ⟨by omega, by omega⟩⟩
   clear Hchk hc
   go_wp2
   go_ret
   exact hres
theorem check53 (w : World) (m : S25) (A3 : Option Addr) (c3 : Nat) (A4 : Option Addr) (c4 : Nat) (hM : MC w m A3 c3 A4 c4) :
  Calls Try.prog 53 #[.agg #[.int .i64 m.f0, .string m.f1, .string m.f2, .slice A3 m.f3.length c3, .slice A4 m.f4.length c4]] w fun e w' => e = .returned (.bool (chkB m)) ∧ Below w.heap.size w w' := by
 have hb : Below w.heap.size w ((w.alloc (.cells #[.int .i64 m.f0, .string m.f1, .string m.f2, .slice A3 m.f3.length c3, .slice A4 m.f4.length c4] 25)).alloc (.cells #[.int .i64 64, .int .i64 4096] 130)) := zAc (zAc (Below.refl _ _) _) _
 have hr : Room ((w.alloc (.cells #[.int .i64 m.f0, .string m.f1, .string m.f2, .slice A3 m.f3.length c3, .slice A4 m.f4.length c4] 25)).alloc (.cells #[.int .i64 64, .int .i64 4096] 130)) (w.heap.size + 1) 64 4096 := by
  have := zAs (w.alloc (.cells #[.int .i64 m.f0, .string m.f1, .string m.f2, .slice A3 m.f3.length c3, .slice A4 m.f4.length c4] 25)) (.cells #[.int .i64 64, .int .i64 4096] 130)
  rwa [World.size_alloc] at this
 have hh := holds106 (zAv m) m (Nat.le_refl _) 1 64 4096 A3 c3 A4 c4 (w.heap.size + 1) w _ (by decide) (by decide) (by decide) (by decide) (by decide) (by decide) hM hb (by omega) hr
 go_enter Try.func53, Try.ntmps53
 go_wp2_with fail
 (with_reducible refine hh.mono ?_)
 rintro e w5 ⟨rfl, hB5, -, -⟩
 go_wp2_with fail
 go_ret
 exact ⟨rfl, hB5⟩
end Go.Proofs.Yteafilojjdfllaa
end
section
namespace Go.Proofs.Yteafilojjdfllaa
open Go Go.ChangeShapes Go.WideShapes Go.ChangeAt Go.RowKit Go.Proofs.YteafilojjdfllaaW.PrintWords Go.Proofs.Yteafilojjdfllaa.PAll
section
theorem own : ownKnob Try.prog.godebug = none := by kernel_rfl
theorem laidOut : laidOutB Try.prog = true := by kernel_rfl
theorem zGv {H : Type} {enc : TypeId × Value → H} {W W' : World} (hb : Below W.heap.size W W') : ∀ {ts : List TypeId} {vs : List Value} {ds : List (DataW H)} {ps : List MemPlace},
  (∀ t ∈ ts, Try.prog.readableRec t = true ∧ t < Try.prog.types.size) →
  DataW.TrodAll enc Try.prog W 0 (fun _ => true) true ts vs ds ps → DataW.TrodAll enc Try.prog W' 0 (fun b => decide (b < W.heap.size)) true ts vs ds ps
 | [], vs, ds, ps, _, h => by
  obtain ⟨rfl, rfl, rfl⟩ := trodAll_nil h
  exact trodAll_mk0
 | t :: ts, vs, ds, ps, hr, h => by
  obtain ⟨v0, vs0, d0, ds0, p0, q0, rfl, rfl, rfl, h0, r0⟩ := trodAll_cons h
  have ht := hr t (List.mem_cons_self ..)
  refine trodAll_cons_mk (Below.trod laidOut ht.1 ht.2 h0 hb ?_) (zGv hb (fun u hu => hr u (List.mem_cons_of_mem _ hu)) r0)
  obtain ⟨n, hn⟩ := h0
  exact DataW.trod_lt n t _ _ hn
theorem maxLen_eq : maxLen = 9223372036854775807 := by decide
abbrev R47 : Nat := 140737488351232
theorem reach47 : reachBytes ≤ R47 := by decide
section
variable {H : Type} {enc : TypeId × Value → H} {W : World}
def OpN (enc : TypeId × Value → H) (W : World) {α : Type} (d : Kd α) (t : TypeId) (S : α → Prop) (n : Nat) : Prop :=
 ∀ cs x, DataW.trod enc Try.prog W 0 (fun _ => true) true n t cs = some x → (∀ k ∈ x.1.weights Try.prog t, k ≤ R47) → ∃ y, d.K W y cs ∧ S y
theorem op_int {k : IntKind} {t : TypeId} (hu : Try.prog.underlying t = some (.int k)) (n : Nat) : OpN enc W (Kd.int k) t (fun a => (Lit.int k a).wf = true) n := by
 intro cs x h _
 obtain ⟨a, rfl, -, hw⟩ := DataW.trod_int hu h
 exact ⟨a, rfl, hw⟩
theorem zIx {t : TypeId} (hu : Try.prog.underlying t = some .string) (n : Nat) : OpN enc W Kd.string t (fun s => s.size ≤ R47) n := by
 intro cs x h hw
 obtain ⟨s, rfl, rfl, _⟩ := DataW.trod_string hu h
 refine ⟨s, rfl, ?_⟩
 have := hw s.data.toList.length (by simp [DataW.weights])
 rwa [Array.length_toList] at this
theorem zGi {P : Program} {e : TypeId} : ∀ {ds : List (DataW H)} {d : DataW H}, d ∈ ds → ∀ n ∈ d.weights P e, n ∈ DataW.weightsAll P e ds
 | d0 :: ds, d, hd, n, hn => by
  simp only [DataW.weightsAll, List.mem_append]
  rcases List.mem_cons.1 hd with rfl | h
  ·exact Or.inl hn
  ·exact Or.inr (zGi h n hn)
theorem op_slice {α : Type} {d : Kd α} {S : α → Prop} {t e B : Nat} (hu : Try.prog.underlying t = some (.slice e)) (hsz : Try.prog.cellsOf e = d.sz) (hB : Try.prog.bytesOf e = B) (n : Nat) (ih : ∀ m, m < n → OpN enc W d e S m) :
  OpN enc W (Kd.slice e d) t (fun l => l.length * B ≤ R47 ∧ l.length ≤ 9223372036854775807 ∧ ∀ y ∈ l, S y) n := by
 intro cs x h hw
 rcases DataW.trod_slice hu h with ⟨rfl, _⟩ | ⟨a, len, cap, elems, rest, m, rfl, rfl, rfl, _, hlc, hcm, hel, hcell, _, _⟩
 ·exact ⟨[], ⟨none, 0, rfl, Nat.le_refl _, Kd.C_nil _ _⟩, by simp⟩
 have hmx := maxLen_eq
 have hpos := hw ((elems.length + rest.length) * B) (by simp [DataW.weights, hu, hB])
 have hlen : len * B ≤ R47 := Nat.le_trans (Nat.mul_le_mul_right _ (by omega)) hpos
 by_cases h0 : len = 0
 ·subst h0
  exact ⟨[], ⟨some a, cap, rfl, Nat.zero_le _, ⟨rfl, by simp, fun h => absurd h (Nat.lt_irrefl 0)⟩⟩, by simp⟩
 have hex : ∀ i, i < len → ∃ y cs', d.K W y cs' ∧ S y ∧ ∀ j u, cs'[j]? = some u → W.cell? (a.add (i * d.sz + j)) = some u := by
  intro i hi
  have hc := hcell i hi
  rw [hsz, List.getElem?_eq_getElem (by omega : i < elems.length)] at hc
  obtain ⟨cs', h1, h2⟩ := Option.bind_eq_some_iff.1 hc
  obtain ⟨y, hK, hS⟩ := ih m (Nat.lt_succ_self m) cs' _ h2 (fun k hk => hw k (by
   simp only [DataW.weights, hu, List.mem_cons, List.mem_append]
   exact Or.inr (Or.inl (zGi (List.mem_map_of_mem (List.getElem_mem ..)) k hk))))
  refine ⟨y, cs', hK, hS, fun j u hj => ?_⟩
  obtain ⟨q1, q2, q3⟩ := World.cells?_some h1
  have hjl := (List.getElem?_eq_some_iff.1 hj).1
  have := q3 j (by omega)
  rw [hj, Addr.add_add] at this
  exact this
 obtain ⟨y0, _⟩ := hex 0 (by omega)
 have hex2 : ∃ f : Nat → α, ∀ i, i < len → ∃ cs', d.K W (f i) cs' ∧ S (f i) ∧ ∀ j u, cs'[j]? = some u → W.cell? (a.add (i * d.sz + j)) = some u := by
  refine ⟨fun i => if hi : i < len then Classical.choose (hex i hi) else y0, fun i hi => ?_⟩
  simp only [hi, dif_pos]
  exact Classical.choose_spec (hex i hi)
 obtain ⟨f, hf⟩ := hex2
 have hl : ((List.range len).map f).length = len := by simp
 refine ⟨(List.range len).map f, ⟨some a, cap, by rw [hl], by omega, ⟨rfl, by omega, fun _ => ⟨a, rfl, fun j p hj => ?_⟩⟩⟩, by rw [hl]; exact hlen, by omega, ?_⟩
 ·have hjl : j < len := by have := (List.getElem?_eq_some_iff.1 hj).1; omega
  obtain ⟨cs', hK, -, hc⟩ := hf j hjl
  have hp : f j = p := by simpa [hjl] using hj
  rw [hp] at hK
  exact ⟨cs', d.K_len hK, hK, hc⟩
 intro y hy
 obtain ⟨i, hi, rfl⟩ := List.mem_map.1 hy
 obtain ⟨_, _, hS, _⟩ := hf i (List.mem_range.1 hi)
 exact hS
theorem op_fields {t : TypeId} {fs : Array Field} (hu : Try.prog.underlying t = some (.struct fs)) {n : Nat} {cs : List Value} {x : DataW H × List MemPlace} (h : DataW.trod enc Try.prog W 0 (fun _ => true) true n t cs = some x) (hw : ∀ k ∈ x.1.weights Try.prog t, k ≤ R47) :
  ∃ m, n = m + 1 ∧ cs.length = Try.prog.cellsOf t ∧ ∀ (i ft off : Nat), (fs[i]?).map (fun f => (f.type, f.offset)) = some (ft, off) → ∃ y, DataW.trod enc Try.prog W 0 (fun _ => true) true m ft ((cs.drop off).take (Try.prog.cellsOf ft)) = some y ∧ ∀ k ∈ y.1.weights Try.prog ft, k ≤ R47 := by
 obtain ⟨xs, m, rfl, rfl, hl, hxl, hx⟩ := DataW.trod_struct hu h
 refine ⟨m, rfl, hl, fun i ft off hf0 => ?_⟩
 obtain ⟨f, hf, he⟩ := Option.map_eq_some_iff.1 hf0
 obtain ⟨rfl, rfl⟩ := Prod.mk.inj he
 have hi : i < xs.length := by rw [hxl]; exact (Array.getElem?_eq_some_iff.1 hf).1
 refine ⟨xs[i], by rw [hx i f hf, List.getElem?_eq_getElem hi], fun k hk => hw k ?_⟩
 simp only [DataW.weights, hu]
 refine DataW.weights_mem_each (j := i) (t := f.type) (d := xs[i].1) ?_ ?_ k hk
 ·have := (Array.getElem?_eq_some_iff.1 hf)
  simp [hf]
 simp [hi]
end
theorem cellN3 : Try.prog.cellsOf 3 = 1 := by kernel_rfl
theorem cells9 : Try.prog.cellsOf 9 = Kd.sz Kd.string := by kernel_rfl
theorem cellN9 : Try.prog.cellsOf 9 = 1 := by kernel_rfl
theorem cellN22 : Try.prog.cellsOf 22 = 1 := by kernel_rfl
theorem cellN23 : Try.prog.cellsOf 23 = 1 := by kernel_rfl
theorem cells25 : Try.prog.cellsOf 25 = Kd.sz k25 := by kernel_rfl
theorem cellN25 : Try.prog.cellsOf 25 = 5 := by kernel_rfl
theorem cells27 : Try.prog.cellsOf 27 = Kd.sz k27 := by kernel_rfl
theorem cellN27 : Try.prog.cellsOf 27 = 8 := by kernel_rfl
theorem len5 {α : Type} {cs : List α} (h : cs.length = 5) : ∃ c0 c1 c2 c3 c4, cs = [c0, c1, c2, c3, c4] := by
 match cs, h with
 | [c0, c1, c2, c3, c4], _ => exact ⟨c0, c1, c2, c3, c4, rfl⟩
theorem len8 {α : Type} {cs : List α} (h : cs.length = 8) : ∃ c0 c1 c2 c3 c4 c5 c6 c7, cs = [c0, c1, c2, c3, c4, c5, c6, c7] := by
 match cs, h with
 | [c0, c1, c2, c3, c4, c5, c6, c7], _ => exact ⟨c0, c1, c2, c3, c4, c5, c6, c7, rfl⟩
section
variable {H : Type} {enc : TypeId × Value → H} {W : World}
theorem op25 (n : Nat) : OpN enc W k25 25 (fun _ => True) n := by
 induction n using Nat.strongRecOn with
 | _ n ih =>
 intro cs x h hw
 obtain ⟨m, rfl, hl, hx⟩ := op_fields Try.underlying25 h hw
 rw [cellN25] at hl
 obtain ⟨c0, c1, c2, c3, c4, rfl⟩ := len5 hl
 obtain ⟨y0, e0, w0⟩ := hx 0 3 0 rfl
 rw [cellN3] at e0
 obtain ⟨z0, k0, s0⟩ := (op_int Try.underlying3 m) [c0] _ e0 w0
 obtain ⟨y1, e1, w1⟩ := hx 1 9 1 rfl
 rw [cellN9] at e1
 obtain ⟨z1, k1, s1⟩ := (zIx Try.underlying9 m) [c1] _ e1 w1
 obtain ⟨y2, e2, w2⟩ := hx 2 9 2 rfl
 rw [cellN9] at e2
 obtain ⟨z2, k2, s2⟩ := (zIx Try.underlying9 m) [c2] _ e2 w2
 obtain ⟨y3, e3, w3⟩ := hx 3 22 3 rfl
 rw [cellN22] at e3
 obtain ⟨z3, k3, s3⟩ := (op_slice (B := 16) Try.underlying22 cells9 (by kernel_rfl) m (fun q _ => zIx Try.underlying9 q)) [c3] _ e3 w3
 obtain ⟨y4, e4, w4⟩ := hx 4 23 4 rfl
 rw [cellN23] at e4
 obtain ⟨z4, k4, s4⟩ := (op_slice (B := 88) Try.underlying23 cells25 (by kernel_rfl) m (fun q hq => ih q (Nat.lt_succ_of_lt hq))) [c4] _ e4 w4
 obtain ⟨A3, d3, q3, l3, g3⟩ := k3
 obtain ⟨A4, d4, q4, l4, g4⟩ := k4
 cases k0; cases k1; cases k2; cases q3; cases q4
 exact ⟨⟨z0, z1, z2, z3, z4⟩, k25_mk W ⟨z0, z1, z2, z3, z4⟩ l3 g3 l4 g4, trivial⟩
theorem op27 (n : Nat) : OpN enc W k27 27 (fun y => (Lit.int .i64 y.f0).wf = true ∧ (Lit.int .i64 y.f2).wf = true ∧ (Lit.int .i64 y.f3).wf = true) n := by
  intro cs x h hw
  obtain ⟨m, rfl, hl, hx⟩ := op_fields Try.underlying27 h hw
  rw [cellN27] at hl
  obtain ⟨c0, c1, c2, c3, c4, c5, c6, c7, rfl⟩ := len8 hl
  obtain ⟨y0, e0, w0⟩ := hx 0 3 0 rfl
  rw [cellN3] at e0
  obtain ⟨z0, k0, s0⟩ := (op_int Try.underlying3 m) [c0] _ e0 w0
  obtain ⟨y1, e1, w1⟩ := hx 1 25 1 rfl
  rw [cellN25] at e1
  obtain ⟨z1, k1, s1⟩ := (op25 m) [c1, c2, c3, c4, c5] _ e1 w1
  obtain ⟨y2, e2, w2⟩ := hx 2 3 6 rfl
  rw [cellN3] at e2
  obtain ⟨z2, k2, s2⟩ := (op_int Try.underlying3 m) [c6] _ e2 w2
  obtain ⟨y3, e3, w3⟩ := hx 3 3 7 rfl
  rw [cellN3] at e3
  obtain ⟨z3, k3, s3⟩ := (op_int Try.underlying3 m) [c7] _ e3 w3
  exact ⟨⟨z0, z1, z2, z3⟩, ⟨[c0], [c1, c2, c3, c4, c5, c6, c7], rfl, k0, ⟨[c1, c2, c3, c4, c5], [c6, c7], rfl, k1, ⟨[c6], [c7], rfl, k2, k3⟩⟩⟩, ⟨s0, s2, s3⟩⟩
end
section
variable {H : Type} {enc : TypeId × Value → H} {W : World} {base : Nat} {v : Value} {d : DataW H} {p : List MemPlace}
theorem hw_of {ts : List TypeId} {ds : List (DataW H)} {j : Nat} {t : TypeId} {d : DataW H} (hsz : (DataW.weightsEach Try.prog ts ds).all (· ≤ reachBytes) = true) (ht : ts[j]? = some t) (hd : ds[j]? = some d) : ∀ k ∈ d.weights Try.prog t, k ≤ R47 :=
 fun k hk => Nat.le_trans (zO (List.all_eq_true.1 hsz _ (DataW.weights_mem_each ht hd k hk))) reach47
theorem open_sl {α : Type} {dk : Kd α} {S : α → Prop} {t e B : Nat} (hu : Try.prog.underlying t = some (.slice e)) (hsz : Try.prog.cellsOf e = dk.sz) (hB : Try.prog.bytesOf e = B) (op : ∀ n, OpN enc W dk e S n)
  (hv : Value.okWide Try.prog W .any base t v) (h : DataW.Trod enc Try.prog W 0 (fun _ => true) true t v d p) (hw : ∀ k ∈ d.weights Try.prog t, k ≤ R47) :
  ∃ (A : Option Addr) (c : Nat) (l : List α), v = .slice A l.length c ∧ l.length ≤ c ∧ Kd.C dk W A l.length l ∧ l.length * B ≤ R47 ∧ l.length ≤ 9223372036854775807 ∧ ∀ y ∈ l, S y := by
 obtain ⟨a, len, cap, rfl⟩ := okWide_slice hu hv
 obtain ⟨fuel, hf⟩ := h
 obtain ⟨y, hK, s1, s2, s3⟩ := op_slice hu hsz hB fuel (fun m _ => op m) [.slice a len cap] _ (by simpa [Value.cells] using hf) hw
 obtain ⟨A, c, e, hl, hC⟩ := hK
 exact ⟨A, c, y, (List.cons.inj e).1, hl, hC, s1, s2, s3⟩
end
end
end Go.Proofs.Yteafilojjdfllaa
end
section
namespace Go.Proofs.Yteafilojjdfllaa
open Go
def ioCodes : List Nat := [104, 97, 114, 110, 101, 115, 115, 32, 102, 50, 56, 101, 48, 56, 101, 97, 101, 53, 53, 53, 50, 54, 100, 53, 102, 52, 51, 52, 54, 51, 51, 101, 54, 49, 52, 51, 99, 54, 54, 50, 98, 57, 51, 100, 100, 56, 102, 102, 50, 101, 54, 97, 52, 51, 51, 101, 101, 51, 51, 54, 54, 101, 97, 52, 54, 50, 101, 100, 55, 97, 54, 56, 32, 99, 117, 116, 32, 97, 116, 32, 118, 97, 114, 118, 101, 47, 118, 97, 114, 118, 101, 108, 97, 119, 49, 57, 46, 84, 111, 109, 98, 67, 104, 101, 99, 107, 115, 32, 118, 97, 114, 118, 101, 47, 118, 97, 114, 118, 101, 108, 97, 119, 49, 57, 46, 84, 111, 109, 98, 65, 112, 112, 108, 105, 101, 115, 32, 118, 97, 114, 118, 101, 47, 118, 97, 114, 118, 101, 108, 97, 119, 49, 57, 46, 84, 111, 109, 98, 79, 114, 100, 101, 114, 32, 118, 97, 114, 118, 101, 47, 118, 97, 114, 118, 101, 108, 97, 119, 49, 57, 46, 84, 111, 109, 98, 87, 104, 111, 108, 101, 32, 118, 97, 114, 118, 101, 47, 118, 97, 114, 118, 101, 108, 97, 119, 49, 57, 46, 84, 111, 109, 98, 80, 114, 117, 110, 101, 115, 32, 118, 97, 114, 118, 101, 47, 118, 97, 114, 118, 101, 108, 97, 119, 49, 57, 46, 84, 111, 109, 98, 68, 111, 110, 101, 32, 118, 97, 114, 118, 101, 47, 118, 97, 114, 118, 101, 108, 97, 119, 49, 50, 46, 77, 97, 116, 99, 104, 67, 104, 101, 99, 107, 115, 32, 118, 97, 114, 118, 101, 47, 118, 97, 114, 118, 101, 108, 97, 119, 49, 50, 46, 77, 97, 116, 99, 104, 69, 118, 97, 108, 115, 32, 118, 97, 114, 118, 101, 47, 118, 97, 114, 118, 101, 108, 97, 119, 49, 50, 46, 77, 97, 116, 99, 104, 76, 97, 119, 115, 32, 118, 97, 114, 118, 101, 47, 118, 97, 114, 118, 101, 108, 97, 119, 49, 50, 46, 77, 97, 116, 99, 104, 76, 97, 98, 101, 108, 115, 32, 118, 97, 114, 118, 101, 47, 118, 97, 114, 118, 101, 108, 97, 119, 49, 50, 46, 77, 97, 116, 99, 104, 79, 110, 99, 101, 32, 118, 97, 114, 118, 101, 47, 118, 97, 114, 118, 101, 108, 97, 119, 49, 50, 46, 77, 97, 116, 99, 104, 83, 97, 109, 101, 32, 118, 97, 114, 118, 101, 47, 118, 97, 114, 118, 101, 108, 97, 119, 49, 49, 46, 76, 97, 98, 101, 108, 67, 104, 101, 99, 107, 115, 32, 118, 97, 114, 118, 101, 47, 118, 97, 114, 118, 101, 108, 97, 119, 49, 49, 46, 76, 97, 98, 101, 108, 77, 97, 107, 101, 115, 32, 118, 97, 114, 118, 101, 47, 118, 97, 114, 118, 101, 108, 97, 119, 49, 49, 46, 76, 97, 98, 101, 108, 84, 117, 114, 110, 115, 32, 118, 97, 114, 118, 101, 47, 118, 97, 114, 118, 101, 108, 97, 119, 49, 49, 46, 76, 97, 98, 101, 108, 86, 97, 108, 117, 101, 115, 32, 118, 97, 114, 118, 101, 47, 118, 97, 114, 118, 101, 108, 97, 119, 49, 57, 46, 84, 111, 109, 98, 66, 121, 116, 101, 115, 32, 118, 97, 114, 118, 101, 47, 118, 97, 114, 118, 101, 108, 97, 119, 49, 49, 46, 76, 97, 98, 101, 108, 67, 109, 112, 115, 32, 118, 97, 114, 118, 101, 47, 118, 97, 114, 118, 101, 108, 97, 119, 49, 49, 46, 76, 97, 98, 101, 108, 79, 114, 100, 101, 114, 115, 32, 118, 97, 114, 118, 101, 47, 118, 97, 114, 118, 101, 108, 97, 119, 49, 49, 46, 76, 97, 98, 101, 108, 83, 116, 97, 114, 116, 115, 32, 118, 97, 114, 118, 101, 47, 118, 97, 114, 118, 101, 108, 97, 119, 49, 49, 46, 76, 97, 98, 101, 108, 66, 121, 116, 101, 115, 32, 118, 97, 114, 118, 101, 47, 118, 97, 114, 118, 101, 108, 97, 119, 49, 49, 46, 76, 97, 98, 101, 108, 84, 101, 120, 116, 115, 32, 118, 97, 114, 118, 101, 47, 118, 97, 114, 118, 101, 108, 97, 119, 49, 49, 46, 76, 97, 98, 101, 108, 80, 97, 114, 115, 101, 115, 32, 118, 97, 114, 118, 101, 47, 118, 97, 114, 118, 101, 108, 97, 119, 49, 49, 46, 76, 97, 98, 101, 108, 66, 114, 111, 107, 101, 110, 32, 118, 97, 114, 118, 101, 47, 118, 97, 114, 118, 101, 108, 97, 119, 49, 50, 46, 77, 97, 116, 99, 104, 66, 121, 116, 101, 115, 32, 118, 97, 114, 118, 101, 47, 118, 97, 114, 118, 101, 108, 97, 119, 49, 50, 46, 77, 97, 116, 99, 104, 84, 101, 120, 116, 115, 32, 118, 97, 114, 118, 101, 47, 118, 97, 114, 118, 101, 108, 97, 119, 49, 50, 46, 77, 97, 116, 99, 104, 80, 97, 114, 115, 101, 115, 32, 118, 97, 114, 118, 101, 47, 118, 97, 114, 118, 101, 108, 97, 119, 49, 50, 46, 77, 97, 116, 99, 104, 68, 101, 101, 112]
theorem io_str : Try.prog.initOrder = String.ofList (ioCodes.map Char.ofNat) := by kernel_rfl
theorem io_list : Try.prog.initOrder.toList = ioCodes.map Char.ofNat := by rw [io_str, String.toList_ofList]
theorem pf_lifts : Try.prog.liftsFinal = false := by
 unfold Program.liftsFinal Program.headLifts
 rw [io_list]
 kernel_rfl
def cutW : List Char := [99, 117, 116].map Char.ofNat
theorem bw_head : ((behindMainWord (wordsSigns (ioCodes.map Char.ofNat))).head? == some cutW) = true := by kernel_rfl
theorem head_cut : (behindMainWord (wordsSigns Try.prog.initOrder.toList)).head? = some cutW := by
 rw [io_list]
 exact beq_iff_eq.1 bw_head
theorem cut_strip (rest : List (List Char)) : stripLifts liftWords (cutW :: rest) = ([], cutW :: rest) := by kernel_rfl
theorem cut_gc : (cutW == "gc".toList) = false := by kernel_rfl
theorem cut_spec : (cutW == "spec".toList) = false := by kernel_rfl
theorem cut_cut : (cutW == "cut".toList) = true := by kernel_rfl
theorem cut_car : (cutW == "carried".toList) = false := by kernel_rfl
theorem cut_head (rest : List (List Char)) : ((cutW :: rest).head? == some "cut".toList) = true := by kernel_rfl
theorem make_of (P : Program) (h : (behindMainWord (wordsSigns P.initOrder.toList)).head? = some cutW) : P.make = some .cut := by
 unfold Program.make
 cases hl : behindMainWord (wordsSigns P.initOrder.toList) with
 | nil => rw [hl] at h; cases h
 | cons c rest =>
 rw [hl, List.head?_cons] at h
 cases h
 have h1 := cut_gc
 have h2 := cut_spec
 have h3 := cut_cut
 generalize cutW = c at h1 h2 h3
 simp only [h1, h2, h3, Bool.or_self, Bool.true_or, if_true]
 rfl
theorem enter_of (P : Program) (h : (behindMainWord (wordsSigns P.initOrder.toList)).head? = some cutW) (p1 : P.laysLater = false) (p2 : P.bearsReflect = false) (p3 : P.doorFits [] = true) : P.mayEnter = true := by
 unfold Program.mayEnter
 cases hl : behindMainWord (wordsSigns P.initOrder.toList) with
 | nil => rw [hl] at h; cases h
 | cons c rest =>
 rw [hl, List.head?_cons] at h
 cases h
 have h1 := cut_gc
 have h2 := cut_spec
 have h4 := cut_car
 have h5 := cut_strip rest
 have h6 := cut_head rest
 generalize cutW = c at h1 h2 h4 h5 h6
 simp only [h1, h2, h4, h5, h6, p1, p2, p3, List.contains_nil]
 rfl
theorem pf_later : Try.prog.laysLater = false := by kernel_rfl
theorem pf_refl : Try.prog.bearsReflect = false := by kernel_rfl
theorem pf_door : Try.prog.doorFits [] = true := by kernel_rfl
theorem pf_make : Try.prog.make = some .cut := make_of _ head_cut
theorem pf_enter : Try.prog.mayEnter = true := enter_of _ head_cut pf_later pf_refl pf_door
theorem pf_laid : laidOutB Try.prog = true := by kernel_rfl
theorem pf_maps : mapsRowed Try.prog = true := by kernel_rfl
theorem pf_stops : (Try.prog.stops == []) = true := by kernel_rfl
theorem pf_knobs : (Try.prog.stopKnobs == []) = true := by kernel_rfl
theorem pf_plain : Try.prog.plainKeys = true := by kernel_rfl
theorem pf_heard : Try.prog.stopsHeard = true := by kernel_rfl
end Go.Proofs.Yteafilojjdfllaa
end
section
namespace Go.Proofs.Yteafilojjdfllaa
section
section
open Go Go.Proofs.Yteafilojjdfllaa.PAll
def encV (v : Nat) : List UInt8 := if v < 128 then [v.toUInt8] else (v % 128 + 128).toUInt8 :: encV (v / 128)
termination_by v
decreasing_by omega
theorem zFc {v : Nat} (h : v < 128) : encV v = [v.toUInt8] := by rw [encV, if_pos h]
theorem zDf {v : Nat} (h : ¬ v < 128) : encV v = (v % 128 + 128).toUInt8 :: encV (v / 128) := by rw [encV, if_neg h]
def decV : Nat → Nat → List UInt8 → Option (Nat × List UInt8)
 | _, _, [] => none
 | i, acc, x :: r =>
  if 10 ≤ i then none
  else if i = 9 ∧ 1 < x.toNat then none
  else if x.toNat < 128 then (if 0 < i ∧ x.toNat = 0 then none else some (acc + x.toNat * 2 ^ (7 * i), r))
  else decV (i + 1) (acc + (x.toNat - 128) * 2 ^ (7 * i)) r
theorem decV_enc (t : List UInt8) : ∀ (k i acc v : Nat), i + k = 9 → v < 2 ^ (64 - 7 * i) → (0 < i → 0 < v) → decV i acc (encV v ++ t) = some (acc + v * 2 ^ (7 * i), t)
 | k, i, acc, v, hk, hv, h0 => by
  by_cases h : v < 128
  ·rw [zFc h, List.singleton_append, decV, if_neg (by omega)]
   have e : (v.toUInt8).toNat = v := by simp; omega
   rw [e, if_neg ?_, if_pos h, if_neg (by omega)]
   rintro ⟨rfl, h9⟩
   have : (2 : Nat) ^ (64 - 7 * 9) = 2 := rfl
   omega
  ·rw [zDf h, List.cons_append, decV, if_neg (by omega)]
   have e : ((v % 128 + 128).toUInt8).toNat = v % 128 + 128 := by simp; omega
   have hi : i < 9 := by
    rcases Nat.lt_or_ge i 9 with h9 | h9
    ·exact h9
    ·have : i = 9 := by omega
     subst this
     have : (2 : Nat) ^ (64 - 7 * 9) = 2 := rfl
     omega
   obtain ⟨k, rfl⟩ : ∃ q, k = q + 1 := ⟨k - 1, by omega⟩
   rw [e, if_neg (by omega), if_neg (by omega), Nat.add_sub_cancel]
   have hp : (2 : Nat) ^ (64 - 7 * i) = 128 * 2 ^ (64 - 7 * (i + 1)) := by
    rw [show 64 - 7 * i = (64 - 7 * (i + 1)) + 7 by omega, Nat.pow_add]; omega
   rw [decV_enc t k (i + 1) _ (v / 128) (by omega) (by rw [hp] at hv; omega) (by omega)]
   have h2 : (2 : Nat) ^ (7 * (i + 1)) = 128 * 2 ^ (7 * i) := by
    rw [show 7 * (i + 1) = 7 * i + 7 by omega, Nat.pow_add]; omega
   rw [h2]
   congr 2
   have h3 : v / 128 * (128 * 2 ^ (7 * i)) = (v / 128 * 128) * 2 ^ (7 * i) := by rw [Nat.mul_assoc]
   rw [h3, Nat.add_assoc, ← Nat.add_mul]
   congr 2
   omega
theorem zDs (v : Nat) (h : v < 2 ^ 64) (t : List UInt8) : decV 0 0 (encV v ++ t) = some (v, t) := by
 rw [decV_enc t 9 0 0 v (by omega) h (by omega)]; simp
theorem zGg : ∀ (l : List UInt8) (i acc : Nat) (v : Nat) (r : List UInt8), acc < 2 ^ (7 * i) → decV i acc l = some (v, r) → v < 2 ^ 64 ∧ r.length < l.length
 | [], _, _, _, _, _, h => by rw [decV] at h; cases h
 | x :: l, i, acc, v, r, ha, h => by
  have hx := x.toNat_lt
  rw [decV] at h
  split at h
  ·cases h
  ·next hi =>
   have hp : (2 : Nat) ^ (7 * (i + 1)) = 128 * 2 ^ (7 * i) := by
    rw [show 7 * (i + 1) = 7 * i + 7 by omega, Nat.pow_add]; omega
   split at h
   ·cases h
   ·next h9 =>
    split at h
    ·next h128 =>
     split at h
     ·cases h
     ·simp only [Option.some.injEq, Prod.mk.injEq] at h
      obtain ⟨rfl, rfl⟩ := h
      refine ⟨?_, by simp⟩
      by_cases e9 : i = 9
      ·subst e9
       have h1 : x.toNat ≤ 1 := by omega
       have h2 : x.toNat * 2 ^ (7 * 9) ≤ 1 * 2 ^ (7 * 9) := Nat.mul_le_mul_right _ h1
       have : (2 : Nat) ^ 64 = 2 ^ (7 * 9) + 2 ^ (7 * 9) := by decide
       omega
      ·have h3 : (2 : Nat) ^ (7 * (i + 1)) ≤ 2 ^ 64 := Nat.pow_le_pow_right (by decide) (by omega)
       have h4 : acc + x.toNat * 2 ^ (7 * i) < 2 ^ (7 * i) + x.toNat * 2 ^ (7 * i) := by omega
       have h5 : 2 ^ (7 * i) + x.toNat * 2 ^ (7 * i) = (x.toNat + 1) * 2 ^ (7 * i) := by rw [Nat.add_mul]; omega
       have h6 : (x.toNat + 1) * 2 ^ (7 * i) ≤ 128 * 2 ^ (7 * i) := Nat.mul_le_mul_right _ (by omega)
       omega
    ·next h128 =>
     have hacc : acc + (x.toNat - 128) * 2 ^ (7 * i) < 2 ^ (7 * (i + 1)) := by
      have h4 : acc + (x.toNat - 128) * 2 ^ (7 * i) < 2 ^ (7 * i) + (x.toNat - 128) * 2 ^ (7 * i) := by omega
      have h5 : 2 ^ (7 * i) + (x.toNat - 128) * 2 ^ (7 * i) = (x.toNat - 128 + 1) * 2 ^ (7 * i) := by rw [Nat.add_mul]; omega
      have h6 : (x.toNat - 128 + 1) * 2 ^ (7 * i) ≤ 128 * 2 ^ (7 * i) := Nat.mul_le_mul_right _ (by omega)
      omega
     obtain ⟨h1, h2⟩ := zGg l (i + 1) _ v r hacc h
     exact ⟨h1, by simp only [List.length_cons]; omega⟩
def encT (s : List UInt8) : List UInt8 := encV s.length ++ s
def decT (most : Nat) (l : List UInt8) : Option (List UInt8 × List UInt8) :=
 match decV 0 0 l with
 | none => none
 | some (n, r) => if n ≤ most ∧ n ≤ r.length then some (r.take n, r.drop n) else none
theorem zIl (most : Nat) (s t : List UInt8) (h : s.length ≤ most) (h2 : s.length < 2 ^ 64) : decT most (encT s ++ t) = some (s, t) := by
 unfold decT encT
 rw [List.append_assoc, zDs _ h2]
 simp only
 rw [if_pos ⟨h, by simp⟩]
 simp
theorem zEh {most : Nat} {l s r : List UInt8} (h : decT most l = some (s, r)) : 1 + s.length + r.length ≤ l.length ∧ s.length ≤ most := by
 unfold decT at h
 split at h
 ·cases h
 next n q hq =>
 split at h
 ·next hn =>
  simp only [Option.some.injEq, Prod.mk.injEq] at h
  obtain ⟨rfl, rfl⟩ := h
  have := (zGg l 0 0 n q (by decide) hq).2
  simp only [List.length_take, List.length_drop]
  omega
 cases h
def zig (v : Int) : Nat := if v < 0 then (-(v + 1) * 2 + 1).toNat else (v * 2).toNat
def zag (n : Nat) : Int := if n % 2 = 1 then -((n / 2 : Nat) : Int) - 1 else ((n / 2 : Nat) : Int)
theorem zag_zig (v : Int) : zag (zig v) = v := by
 unfold zag zig
 by_cases h : v < 0
 ·rw [if_pos h, if_pos (by omega)]; omega
 rw [if_neg h, if_neg (by omega)]; omega
end
section
open Go Go.RowKit Go.Proofs.YteafilojjdfllaaW.PrintWords Go.Proofs.YteafilojjdfllaaW.PrintLast Go.Proofs.YteafilojjdfllaaW.PrintMore Go.Proofs.Yteafilojjdfllaa.PAll
set_option linter.unusedVariables false
set_option linter.unusedSimpArgs false
def bys (l : List UInt8) : List Int := l.map fun b => (b.toNat : Int)
theorem zDq (a b : List UInt8) : bys (a ++ b) = bys a ++ bys b := by simp [bys]
theorem zBm (a : List UInt8) : (bys a).length = a.length := by simp [bys]
theorem bys_bytes (s : ByteArray) : bytesOf s = bys s.data.toList := by simp [bytesOf, bys]
theorem zDe : (Try.prog.info? 5).map (fun i => (i.zero, i.size, i.bytes)) = some (some (.int .u8 0), 1, 1) := by kernel_rfl
def BR (W : World) (base : Nat) (v : Value) (xs : List UInt8) : Prop :=
 (Kd.int .u8).R 5 W base (fun _ => True) v (bys xs) ∨ ∃ A, v = .slice A xs.length xs.length ∧ (Kd.int .u8).C W A xs.length (bys xs)
theorem BR.below {W W1 : World} {base : Nat} {v : Value} {xs : List UInt8} (h : BR W base v xs) (hb : Below W.heap.size W W1) : BR W1 base v xs := by
 rcases h with h | ⟨A, e, h⟩
 ·exact .inl (Kd.R_below h hb)
 exact .inr ⟨A, e, Kd.C_below h hb⟩
theorem own_R {W : World} {base n : Nat} {v : Value} {xs : List Int} (h : W.ownsRow base 5 1 v n (nums .u8 xs)) (hn : xs.length = n) : (Kd.int .u8).R 5 W base (fun _ => True) v xs := by
 subst hn
 exact Kd.R_of_own (enc := Value.int .u8) (h1 := fun _ => rfl) h (fun _ _ => trivial)
section
variable {ops : Array Oper} {rest : List Oper} {o : Oper} {a : Act} {Q : Exit → Act → World → Prop}
theorem zHk {w0 W : World} (base : Nat) (hgd : o.guard = none) (s x : Operand)
  (ho : o.op = .call { callee := .builtin .append, args := #[s, x], argTypes := #[85, 85] })
  (v : Value) (xs : List UInt8) (p : UInt8) (z : Int) (hz : z = (p.toNat : Int)) (hs : a.eval s = v) (hx : a.eval x = .slice (some ⟨W.heap.size, 0, none⟩) 1 1)
  (HV : BR W base v xs) (HB : Below base w0 W) (hbase : base ≤ W.heap.size) (hl : xs.length + 1 ≤ 140737488355327)
  (h : ∀ v1 w1, (Kd.int .u8).R 5 w1 base (fun _ => True) v1 (bys (xs ++ [p])) → Below base w0 w1 → wpList Try.prog ops Q rest (a.put o.dst v1) w1) :
  wpList Try.prog ops Q (o :: rest) a (W.alloc (.cells #[.int .u8 z] 5)) := by
 subst hz
 rcases HV with HO | ⟨A, rfl, hC⟩
 ·refine Kd.R_append (Kd.int .u8) (w0 := w0) base hgd s x 85 5 (.int .u8 0) 1 ho Try.underlying85 zDe rfl (by decide) (by decide) v (bys xs) (p.toNat : Int) [.int .u8 (p.toNat : Int)] (fun _ => True) (fun _ => False) hs hx rfl (fun _ hk => hk.elim) (fun _ _ => trivial) HO HB hbase (by rw [zBm]; omega) ?_
  intro v1 w1 h1 h2 _ _
  exact h v1 w1 (by rw [zDq]; exact h1) h2
 obtain ⟨i0, hi, hzz⟩ := Option.map_eq_some_iff.1 zDe
 simp only [Prod.mk.injEq] at hzz
 obtain ⟨hz0, hz1, hz2⟩ := hzz
 have hb2 := zAc (Below.refl W.heap.size W) (.cells #[.int .u8 (p.toNat : Int)] 5)
 have hR := Kd.reads_of_C (enc := Value.int .u8) (d := (0 : Int)) (h1 := fun _ => rfl) (Kd.C_below hC hb2)
 refine wpList_append_grows (P := Try.prog) (W.alloc (.cells #[.int .u8 (p.toNat : Int)] 5)) hgd s x 85 ho 5 i0 (.int .u8 0) 1 1 Try.underlying85 hi hz0 hz1 hz2 rfl (by decide) A xs.length xs.length (nums .u8 (bys xs)) hs (fun e => ?_) (by simp [nums, bys]) (fun b e j u hj => ?_) ⟨W.heap.size, 0, none⟩ 1 1 [.int .u8 (p.toNat : Int)] hx rfl (fun j u hj => ?_) (by simp [Value.oneCell']) (by omega) (by simp only [maxLen]; omega) (by omega) ?_
 ·rcases Nat.eq_zero_or_pos xs.length with h0 | h0
  ·exact ⟨h0, h0⟩
  obtain ⟨ad, e2, _⟩ := hR.2.2 h0
  rw [e] at e2; cases e2
 ·have hj' : j < (bys xs).length := by
   rcases Nat.lt_or_ge j (bys xs).length with h | h
   ·exact h
   rw [nums, List.getElem?_eq_none (by simpa using h)] at hj; cases hj
  obtain ⟨ad, e2, hc⟩ := hR.2.2 (by rw [zBm] at hj'; omega)
  rw [e] at e2; cases e2
  rw [hc j (by rw [zBm] at hj'; exact hj')]
  rw [nums, List.getElem?_map, List.getElem?_eq_getElem hj'] at hj
  cases hj
  rw [List.getD_eq_getElem?_getD, List.getElem?_eq_getElem hj']
  rfl
 ·cases j with
  | zero =>
   cases hj
   simp [Addr.add]
  | succ j => simp at hj
 intro v' w' hown hg
 have hown2 : w'.ownsRow base 5 1 v' (xs.length + 1) (nums .u8 (bys (xs ++ [p]))) := by
  have e : nums .u8 (bys xs) ++ [.int .u8 (p.toNat : Int)] = nums .u8 (bys (xs ++ [p])) := by simp [nums, bys]
  rw [← e]
  exact own_weaken hown (by have := hb2.size; omega)
 refine h v' w' (own_R hown2 (by rw [zBm]; simp)) ?_
 exact (HB.trans (hb2.mono hbase)).grown hg (by have := hb2.size; omega) (fun k hk => by cases hk)
end
theorem encV_len : ∀ (k v : Nat), 0 < k → v < 2 ^ (7 * k) → (encV v).length ≤ k
 | 0, v, h, _ => absurd h (Nat.lt_irrefl 0)
 | k + 1, v, _, h => by
  by_cases hv : v < 128
  ·rw [zFc hv]; simp
  ·rw [zDf hv, List.length_cons]
   cases k with
   | zero => simp at h; omega
   | succ k =>
    have hp : (2 : Nat) ^ (7 * (k + 1 + 1)) = 128 * 2 ^ (7 * (k + 1)) := by rw [show 7 * (k + 1 + 1) = 7 * (k + 1) + 7 by omega, Nat.pow_add]; omega
    have := encV_len (k + 1) (v / 128) (by omega) (by rw [hp] at h; omega)
    omega
theorem zBc {v : Nat} (h : v < 18446744073709551616) : (encV v).length ≤ 10 := encV_len 10 v (by decide) (Nat.lt_of_lt_of_le h (by decide))
theorem or128 : ∀ n : Fin 256, Go.bits .or .u8 (n.val : Int) 128 = (((n.val % 128 + 128).toUInt8.toNat : Nat) : Int) := by decide +kernel
theorem put_more (v : Nat) : Go.bits .or .u8 ((v : Int) % 256) 128 = (((v % 128 + 128).toUInt8.toNat : Nat) : Int) := by
 have h := or128 ⟨v % 256, Nat.mod_lt _ (by decide)⟩
 simp only at h
 rw [show v % 256 % 128 = v % 128 by omega] at h
 rw [← h]
 simp
theorem put_last {v : Nat} (h : v < 128) : (v : Int) = ((v.toUInt8.toNat : Nat) : Int) := by simp; omega
theorem own163 (w : World) (A : Option Addr) (n c : Nat) (hc : n ≤ c) (hn : n ≤ 4611686018427387904) : Calls Try.prog 163 #[.slice A n c] w fun e w' => e = .returned (.slice A n n) ∧ w' = w := by
 go_enter Try.func163, Try.ntmps163
 go_wp2
 go_ret
 exact ⟨rfl, rfl⟩
theorem put162 (w : World) (A : Option Addr) (bs : List UInt8) (v : Nat) (hv : v < 18446744073709551616) (hl : bs.length ≤ 140737488355000) (hC : (Kd.int .u8).C w A bs.length (bys bs)) :
  Calls Try.prog 162 #[.slice A bs.length bs.length, .int .u64 v] w fun e w' => ∃ o, e = .returned o ∧ (Kd.int .u8).R 5 w' w.heap.size (fun _ => True) o (bys (bs ++ encV v)) ∧ Below w.heap.size w w' := by
 have HC := zH hC
 have h10 := zBc hv
 clear hC
 go_enter Try.func162, Try.ntmps162
 go_wp2
 go_loopw [0, 1] (fun u0 u1 wr => ∃ (xs : List UInt8) (v' : Nat), u1 = .int .u64 v' ∧ v' < 18446744073709551616 ∧ xs.length ≤ bs.length + 10 ∧ Hid (bs ++ encV v = xs ++ encV v') ∧ Hid (BR wr w.heap.size u0 xs) ∧ Hid (Below w.heap.size w wr)) (fun _ u1 _ => (intOf u1).toNat)
 case atStart => exact ⟨bs, v, rfl, hv, by omega, zH rfl, zH (.inr ⟨A, rfl, HC.out⟩), zH (Below.refl _ _)⟩
 case round =>
  obtain ⟨xs, v', rfl, hv', hxl, HE, HR, HB⟩ := hrel
  by_cases h128 : v' < 128
  ·have t1 : ¬ (128 : Int) ≤ (v' : Int) := by omega
   have hp := put_last h128
   obtain ⟨p, ep⟩ : ∃ p, v'.toUInt8 = p := ⟨_, rfl⟩
   rw [ep] at hp
   have HE2 := zH (show bs ++ encV v = xs ++ [p] from by rw [HE.out, zFc h128, ep])
   have HP := zH hp
   clear ep hp
   go_wp2_with (at_builtin; refine zHk (w0 := w) w.heap.size rfl (.tmp 15) (.tmp 18) rfl u0 xs p (v' : Int) HP.out rfl (by first | rfl | simp) HR.out HB.out (zAi HB.out) (by omega) ?_; intro v1 w1 hown1 hbel1; have HR1 := zH hown1; clear hown1)
   go_ret
   exact ⟨_, rfl, by rw [HE2.out]; exact HR1.out, hbel1⟩
  have t1 : (128 : Int) ≤ (v' : Int) := by omega
  have hp := put_more v'
  obtain ⟨p, ep⟩ : ∃ p, (v' % 128 + 128).toUInt8 = p := ⟨_, rfl⟩
  rw [ep] at hp
  obtain ⟨v2, ev2⟩ : ∃ v2, v' / 128 = v2 := ⟨_, rfl⟩
  have hv2 : (v' : Int) / 128 = (v2 : Int) := by omega
  have hv2' : v2 < v' := by omega
  have hlen : (xs ++ [p]).length + (encV v2).length = bs.length + (encV v).length := by
   have := congrArg List.length HE.out
   rw [zDf h128, ep, ev2] at this
   simp only [List.length_append, List.length_cons] at this ⊢
   simp
   omega
  have HE2 := zH (show bs ++ encV v = (xs ++ [p]) ++ encV v2 from by rw [HE.out, zDf h128, ep, ev2]; simp)
  have hlen2 : (xs ++ [p]).length ≤ bs.length + 10 := by omega
  clear ep ev2 h128 hlen
  go_wp2_with (at_builtin; refine zHk (w0 := w) w.heap.size rfl (.tmp 7) (.tmp 11) rfl u0 xs p _ rfl rfl (by first | rfl | simp) HR.out HB.out (zAi HB.out) (by omega) ?_; intro v1 w1 hown1 hbel1; have HR1 := zH hown1; clear hown1)
  go_roundw
  case rel => exact ⟨xs ++ [p], v2, rfl, by omega, hlen2, HE2, zH (.inl HR1.out), zH hbel1⟩
  case measure => simp [intOf]; omega
def PutPost (w : World) (xs : List UInt8) (e : Ending) (w' : World) : Prop :=
 ∃ A n c, e = .returned (.slice A n c) ∧ Hid (xs.length = n) ∧ n ≤ c ∧ Hid ((Kd.int .u8).R 5 w' w.heap.size (fun _ => True) (.slice A n c) (bys xs)) ∧ Below w.heap.size w w'
theorem PutPost.of {w w' : World} {xs : List UInt8} {o : Value} (h : (Kd.int .u8).R 5 w' w.heap.size (fun _ => True) o (bys xs)) (hb : Below w.heap.size w w') : PutPost w xs (.returned o) w' := by
 obtain ⟨A, c, rfl, hc, -⟩ := Kd.R_reads h
 rw [zBm] at h hc ⊢
 exact ⟨A, _, c, rfl, zH rfl, hc, zH h, hb⟩
theorem R_C {W : World} {base : Nat} {A : Option Addr} {n c : Nat} {xs : List UInt8} (h : (Kd.int .u8).R 5 W base (fun _ => True) (.slice A n c) (bys xs)) : (Kd.int .u8).C W A xs.length (bys xs) := by
 have := (Kd.R_reads' h).2.2
 rwa [zBm] at this
theorem zGe {w w2 : World} {xs : List UInt8} {v : Value} (h : PutPost w xs (.returned v) w2) : ∃ A n c, v = .slice A n c := by
 obtain ⟨A, n, c, e, _⟩ := h
 injection e with e
 exact ⟨A, n, c, e⟩
theorem text_post {w w2 : World} {bs X : List UInt8} {s : ByteArray} {v : Value} (hX : X = bs ++ encV s.size) (h : w2.ownsRow w.heap.size 5 1 v (bys X ++ bytesOf s).length (nums .u8 (bys X ++ bytesOf s))) (hb : Below w.heap.size w w2) : PutPost w (bs ++ encT s.data.toList) (.returned v) w2 := by
 subst hX
 have e : bys (bs ++ encV s.size) ++ bytesOf s = bys (bs ++ encT s.data.toList) := by
  unfold encT
  rw [show s.data.toList.length = s.size by simp, ← List.append_assoc, zDq _ s.data.toList, bys_bytes]
 rw [e] at h
 exact PutPost.of (own_R h rfl) hb
theorem bytes73 (w : World) (A : Option Addr) (n c : Nat) (bs : List UInt8) (hn : bs.length = n) (hl : n ≤ 140737488355328) (hC : (Kd.int .u8).C w A bs.length (bys bs)) :
  Calls Try.prog 73 #[.slice A n c] w (PutPost w bs) := by
 have hR := Kd.reads_of_C (enc := Value.int .u8) (d := (0 : Int)) (h1 := fun _ => rfl) hC
 rw [hn] at hR
 have HR := zH hR
 have hbl : (bys bs).length ≤ 140737488355328 := by rw [zBm]; omega
 clear hC hR hn
 go_enter Try.func73, Try.ntmps73
 go_wp2_with (at_builtin; refine zDc (w0 := w) (W := w) (Value.int .u8) (0 : Int) w.heap.size rfl (.const (.slice none 0 0)) (.tmp 3) 85 5 (.int .u8 0) 1 rfl Try.underlying85 zDe rfl (by decide) (fun _ => rfl) (.slice none 0 0) [] (bys bs) A n c rfl rfl (own_nil _ _ _ _) HR.out (Below.refl _ _) (Nat.le_refl _) (by simp; omega) ?_; intro v2 w2 hown2 hb2 hg2 hat2; rw [List.nil_append] at hown2; have HP := zH (PutPost.of (own_R hown2 rfl) hb2); clear hown2 hb2 hg2 hat2; obtain ⟨B2, m2, d2, e2⟩ := zGe HP.out; subst e2)
 go_ret
 exact HP.out
theorem zDg (w : World) (v : Nat) (hv : v < 18446744073709551616) : Calls Try.prog 118 #[.int .u64 v] w (PutPost w (encV v)) := by
 have h10 := zBc hv
 go_enter Try.func118, Try.ntmps118
 go_wp2
 go_loopw [0, 3] (fun u0 u3 wr => ∃ (xs : List UInt8) (v' : Nat), u0 = .int .u64 v' ∧ v' < 18446744073709551616 ∧ xs.length ≤ 10 ∧ Hid (encV v = xs ++ encV v') ∧ Hid (BR wr w.heap.size u3 xs) ∧ Hid (Below w.heap.size w wr)) (fun u0 _ _ => (intOf u0).toNat)
 case atStart => exact ⟨[], v, rfl, hv, by simp, zH rfl, zH (.inl (Kd.R_nil _ _ _ _ _)), zH (Below.refl _ _)⟩
 case round =>
  obtain ⟨xs, v', rfl, hv', hxl, HE, HR, HB⟩ := hrel
  by_cases h128 : v' < 128
  ·have t1 : ¬ (128 : Int) ≤ (v' : Int) := by omega
   have hp := put_last h128
   obtain ⟨p, ep⟩ : ∃ p, v'.toUInt8 = p := ⟨_, rfl⟩
   rw [ep] at hp
   have HE2 := zH (show encV v = xs ++ [p] from by rw [HE.out, zFc h128, ep])
   have HP := zH hp
   clear ep hp
   go_wp2_with (at_builtin; refine zHk (w0 := w) w.heap.size rfl (.tmp 15) (.tmp 18) rfl u3 xs p (v' : Int) HP.out rfl (by first | rfl | simp) HR.out HB.out (zAi HB.out) (by omega) ?_; intro v1 w1 hown1 hbel1; rw [← HE2.out] at hown1; have HQ := zH (PutPost.of hown1 hbel1); clear hown1 hbel1; obtain ⟨B2, m2, d2, e2⟩ := zGe HQ.out; subst e2)
   go_ret
   exact HQ.out
  have t1 : (128 : Int) ≤ (v' : Int) := by omega
  obtain ⟨p, ep⟩ : ∃ p, (v' % 128 + 128).toUInt8 = p := ⟨_, rfl⟩
  have hp : (v' : Int) % 128 + 128 = (p.toNat : Int) := by rw [← ep]; simp; omega
  obtain ⟨v2, ev2⟩ : ∃ v2, v' / 128 = v2 := ⟨_, rfl⟩
  have hv2 : (v' : Int) / 128 = (v2 : Int) := by omega
  have hv2' : v2 < v' := by omega
  have hlen : (xs ++ [p]).length + (encV v2).length = (encV v).length := by
   have := congrArg List.length HE.out
   rw [zDf h128, ep, ev2] at this
   simp only [List.length_append, List.length_cons] at this ⊢
   simp
   omega
  have HE2 := zH (show encV v = (xs ++ [p]) ++ encV v2 from by rw [HE.out, zDf h128, ep, ev2]; simp)
  have hlen2 : (xs ++ [p]).length ≤ 10 := by omega
  clear ep ev2 h128 hlen
  go_wp2_with (at_builtin; refine zHk (w0 := w) w.heap.size rfl (.tmp 6) (.tmp 11) rfl u3 xs p _ rfl rfl (by first | rfl | simp) HR.out HB.out (zAi HB.out) (by omega) ?_; intro v1 w1 hown1 hbel1; have HR1 := zH hown1; clear hown1)
  go_roundw
  case rel => exact ⟨xs ++ [p], v2, rfl, by omega, hlen2, HE2, zH (.inl HR1.out), zH hbel1⟩
  case measure => simp [intOf]; omega
theorem zEq (w : World) (s : ByteArray) (hs : s.size ≤ 1000000000000) : Calls Try.prog 129 #[.string s] w (PutPost w (encT s.data.toList)) := by
 have h1 := zDg w s.size (by omega)
 have h10 := zBc (v := s.size) (by omega)
 obtain ⟨X, hX⟩ : ∃ X, encV s.size = X := ⟨_, rfl⟩
 rw [hX] at h1 h10
 have HX := zH (show X = [] ++ encV s.size from hX.symm)
 have H1 := zH h1
 clear hX h1
 go_enter Try.func129, Try.ntmps129
 go_wp2_with fail
 (with_reducible refine H1.out.mono ?_)
 rintro e w1 ⟨B, m, d, rfl, HN, hd, HR, hB⟩
 have HO := zH (Kd.own_of_R HR.out)
 have HB := zH hB
 clear HR hB
 go_wp2_with (at_builtin; refine zIg (w0 := w) w.heap.size rfl (.tmp 6) (.tmp 7) 85 9 5 rfl Try.underlying85 Try.underlying9 zDe (.slice B m d) (bys X) s rfl rfl HO.out HB.out (zAi HB.out) (by rw [zBm]; omega) ?_; intro v2 w2 hown2 hb2 hg2; have HP := zH (text_post HX.out hown2 hb2); clear hown2 hb2 hg2; obtain ⟨B2, m2, d2, e2⟩ := zGe HP.out; subst e2)
 go_ret
 exact HP.out
end
section
open Go Go.RowKit Go.Proofs.YteafilojjdfllaaW.PrintWords Go.Proofs.YteafilojjdfllaaW.PrintLast Go.Proofs.YteafilojjdfllaaW.PrintMore Go.Proofs.Yteafilojjdfllaa.PAll
set_option linter.unusedVariables false
set_option linter.unusedSimpArgs false
def getW (bs : List UInt8) (i : Int) : Option (Nat × List UInt8) := if i < 0 then none else decV 0 0 (bs.drop i.toNat)
def getRet (n : Nat) : Option (Nat × List UInt8) → Value
 | none => .tuple #[.int .u64 0, .int .i64 0, .bool false]
 | some (v, r) => .tuple #[.int .u64 v, .int .i64 ((n : Int) - (r.length : Nat)), .bool true]
theorem and127 : ∀ n : Fin 256, Go.bits .and .u8 (n.val : Int) 127 = ((n.val % 128 : Nat) : Int) := by decide +kernel
theorem and127' (x : UInt8) : Go.bits .and .u8 (x.toNat : Int) 127 = ((x.toNat % 128 : Nat) : Int) := and127 ⟨x.toNat, x.toNat_lt⟩
theorem bys_at {W : World} {A : Option Addr} {n : Nat} {bs : List UInt8} (h : (Kd.int .u8).C W A n (bys bs)) (j : Nat) (hj : j < bs.length) : ∃ ad, A = some ad ∧ W.cell? (ad.add j) = some (.int .u8 ((bs.getD j 0).toNat : Int)) := by
 have hR := Kd.reads_of_C (enc := Value.int .u8) (d := (0 : Int)) (h1 := fun _ => rfl) h
 have hl : (bys bs).length = n := hR.1
 rw [zBm] at hl
 obtain ⟨ad, e, hc⟩ := hR.2.2 (by omega)
 refine ⟨ad, e, ?_⟩
 rw [hc j (by omega)]
 simp [bys, List.getD_eq_getElem?_getD, hj]
theorem drop_at (bs : List UInt8) (j : Nat) (hj : j < bs.length) : bs.drop j = bs.getD j 0 :: bs.drop (j + 1) := by
 rw [List.drop_eq_getElem_cons hj, List.getD_eq_getElem?_getD, List.getElem?_eq_getElem hj, Option.getD_some]
theorem zIj (i acc : Nat) : decV i acc [] = none := by rw [decV]
theorem zCb (i acc : Nat) (x : UInt8) (r : List UInt8) : decV i acc (x :: r) = if 10 ≤ i then none
  else if i = 9 ∧ 1 < x.toNat then none
  else if x.toNat < 128 then (if 0 < i ∧ x.toNat = 0 then none else some (acc + x.toNat * 2 ^ (7 * i), r))
  else decV (i + 1) (acc + (x.toNat - 128) * 2 ^ (7 * i)) r := by rw [decV]
theorem or_shift {a y k : Nat} (ha : a < 2 ^ k) (hb : y * 2 ^ k + 2 ^ k ≤ 18446744073709551616) : Go.bits .or .u64 (a : Int) ((y * 2 ^ k : Nat) : Int) = ((a + y * 2 ^ k : Nat) : Int) := by
 rw [bits_or_u64_nat _ _ (by omega) (by have := Nat.two_pow_pos k; omega), Nat.or_comm, Nat.mul_comm y, ← Nat.two_pow_add_eq_or_of_lt ha, Nat.add_comm]
theorem zGq {n j v : Nat} {bs : List UInt8} (hn : bs.length = n) (hj : j < n) : Ending.returned (.tuple #[.int .u64 (v : Int), .int .i64 ((j : Int) + 1), .bool true]) = Ending.returned (getRet n (some (v, bs.drop (j + 1)))) := by
 show _ = Ending.returned (.tuple #[.int .u64 (v : Int), .int .i64 ((n : Int) - ((bs.drop (j + 1)).length : Nat)), .bool true])
 have : (n : Int) - ((bs.drop (j + 1)).length : Nat) = (j : Int) + 1 := by rw [List.length_drop]; omega
 rw [this]
theorem get116 (w : World) (A : Option Addr) (n c : Nat) (bs : List UInt8) (at_ : Int) (hn : bs.length = n) (hl : n ≤ 1000000000000000) (hC : (Kd.int .u8).C w A bs.length (bys bs)) :
  Calls Try.prog 116 #[.slice A n c, .int .i64 at_] w fun e w' => e = .returned (getRet n (getW bs at_)) ∧ w' = w := by
 obtain ⟨G, hG⟩ : ∃ G, getW bs at_ = G := ⟨_, rfl⟩
 rw [hG]
 have HC := zH hC
 have HN := zH hn
 by_cases hneg : at_ < 0
 ·have HG := zH (show G = none from by rw [← hG]; unfold getW; rw [if_pos hneg])
  clear hC hn hG
  go_enter Try.func116, Try.ntmps116
  go_wp2
  go_ret3
  exact ⟨by rw [HG.out]; rfl, rfl⟩
 obtain ⟨j0, rfl⟩ : ∃ j : Nat, at_ = (j : Int) := ⟨at_.toNat, by omega⟩
 have HG := zH (show G = decV 0 0 (bs.drop j0) from by rw [← hG]; unfold getW; rw [if_neg hneg, Int.toNat_natCast])
 clear hC hn hG hneg
 go_enter Try.func116, Try.ntmps116
 go_wp2
 go_loopw [1, 7, 8, 9] (fun u1 u7 u8 _ wr => ∃ (j acc i : Nat), u1 = .int .i64 j ∧ u7 = .int .u64 acc ∧ u8 = .int .i64 i ∧ i ≤ 10 ∧ acc < 2 ^ (7 * i) ∧ Hid (G = decV i acc (bs.drop j)) ∧ wr = w) (fun _ _ u8 _ _ => 10 - (intOf u8).toNat)
 case atStart => exact ⟨j0, 0, 0, rfl, rfl, rfl, by omega, by simp, HG, rfl⟩
 case round =>
  clear HG
  obtain ⟨j, acc, i, rfl, rfl, rfl, hi, hacc, HG, rfl⟩ := hrel
  by_cases hi10 : i < 10
  ·have t1 : decide ((i : Int) < 10) = true := zT (by omega)
   by_cases hj : j < n
   ·have t2 : decide ((j : Int) < (n : Int)) = true := zT (by omega)
    have t2n : (j : Int) < (n : Int) := by omega
    obtain ⟨ad, rfl, c0⟩ := bys_at HC.out j (by rw [HN.out]; exact hj)
    obtain ⟨x, ex⟩ : ∃ x, bs.getD j 0 = x := ⟨_, rfl⟩
    rw [ex] at c0
    have HD := zH (show bs.drop j = x :: bs.drop (j + 1) from by rw [drop_at bs j (by rw [HN.out]; exact hj), ex])
    clear ex
    obtain ⟨y, ey⟩ : ∃ y, x.toNat % 128 = y := ⟨_, rfl⟩
    have hand := and127' x
    rw [ey] at hand
    have hxlt := x.toNat_lt
    have hy1 : y < 128 := by omega
    by_cases h9 : i = 9
    ·subst h9
     by_cases hx1 : 1 < x.toNat
     ·have t4 : decide (1 < (x.toNat : Int)) = true := zT (by omega)
      have t4p : (1 : Int) < (x.toNat : Int) := by omega
      have HE := zH (show G = none from by rw [HG.out, HD.out, zCb, if_neg (by omega), if_pos ⟨rfl, hx1⟩])
      go_wp2
      go_ret3
      exact ⟨by rw [HE.out]; rfl, rfl⟩
     have t4 : decide (1 < (x.toNat : Int)) = false := zF (by omega)
     have t4p : ¬ (1 : Int) < (x.toNat : Int) := by omega
     have t5 : (x.toNat : Int) < 128 := by omega
     by_cases hx0 : x.toNat = 0
     ·have t6 : ((x.toNat : Int) == 0) = true := by rw [beq_iff_eq]; omega
      have HE := zH (show G = none from by rw [HG.out, HD.out, zCb, if_neg (by omega), if_neg (by omega), if_pos (by omega), if_pos ⟨by omega, hx0⟩])
      clear hx0
      go_wp2
      go_ret3
      exact ⟨by rw [HE.out]; rfl, rfl⟩
     have t6 : ((x.toNat : Int) == 0) = false := by rw [beq_eq_false_iff_ne]; omega
     obtain ⟨acc2, ea2⟩ : ∃ a, acc + x.toNat * 2 ^ (7 * 9) = a := ⟨_, rfl⟩
     have HE := zH (show G = some (acc2, bs.drop (j + 1)) from by rw [HG.out, HD.out, zCb, if_neg (by omega), if_neg (by omega), if_pos (by omega), if_neg (by omega), ea2])
     have ho : Go.bits .or .u64 (acc : Int) ((y : Int) * 9223372036854775808) = (acc2 : Int) := by
      have h1 := or_shift (k := 7 * 9) hacc (show y * 2 ^ (7 * 9) + 2 ^ (7 * 9) ≤ 18446744073709551616 by omega)
      rw [show y = x.toNat by omega] at h1 ⊢
      rw [ea2] at h1
      rw [← h1]
      rfl
     clear hx0 ea2
     go_wp2
     go_ret3
     exact ⟨by rw [HE.out]; exact zGq HN.out hj, rfl⟩
    have t3 : ((i : Int) == 9) = false := by rw [beq_eq_false_iff_ne]; omega
    have hsh : y * 2 ^ (7 * i) + 2 ^ (7 * i) ≤ 9223372036854775808 := by
     have h1 : (y + 1) * 2 ^ (7 * i) ≤ 128 * 2 ^ (7 * i) := Nat.mul_le_mul_right _ (by omega)
     have h2 : (2 : Nat) ^ (7 * (i + 1)) = 128 * 2 ^ (7 * i) := by rw [show 7 * (i + 1) = 7 * i + 7 by omega, Nat.pow_add]; omega
     have h3 : (2 : Nat) ^ (7 * (i + 1)) ≤ 2 ^ 63 := Nat.pow_le_pow_right (by decide) (by omega)
     rw [Nat.add_mul] at h1
     omega
    obtain ⟨sh, esh⟩ : ∃ s, y * 2 ^ (7 * i) = s := ⟨_, rfl⟩
    obtain ⟨acc2, ea2⟩ : ∃ a, acc + sh = a := ⟨_, rfl⟩
    have hws : IntKind.u64.wrap ((y : Int) * 2 ^ (7 * i)) = (sh : Int) := by
     rw [← esh, show (y : Int) * 2 ^ (7 * i) = ((y * 2 ^ (7 * i) : Nat) : Int) by simp, IntKind.wrap_u64]
     omega
    have ho : Go.bits .or .u64 (acc : Int) (sh : Int) = (acc2 : Int) := by
     rw [← ea2, ← esh]
     exact or_shift (k := 7 * i) hacc (by omega)
    have HSH := zH esh
    have HA2 := zH ea2
    have hacc2 : acc2 < 2 ^ (7 * (i + 1)) := by
     have h1 : (y + 1) * 2 ^ (7 * i) ≤ 128 * 2 ^ (7 * i) := Nat.mul_le_mul_right _ (by omega)
     have h2 : (2 : Nat) ^ (7 * (i + 1)) = 128 * 2 ^ (7 * i) := by rw [show 7 * (i + 1) = 7 * i + 7 by omega, Nat.pow_add]; omega
     rw [Nat.add_mul] at h1
     omega
    have Hacc2 := zH hacc2
    clear esh ea2 hsh hacc2
    by_cases hx8 : x.toNat < 128
    ·have t5 : (x.toNat : Int) < 128 := by omega
     by_cases hz : 0 < i ∧ x.toNat = 0
     ·have t6 : (0 : Int) < (i : Int) := by omega
      have t6d : decide ((0 : Int) < (i : Int)) = true := zT t6
      have t7 : ((x.toNat : Int) == 0) = true := by rw [beq_iff_eq]; omega
      have HE := zH (show G = none from by rw [HG.out, HD.out, zCb, if_neg (by omega), if_neg (by omega), if_pos hx8, if_pos hz])
      clear hz h9
      go_wp2
      go_ret3
      exact ⟨by rw [HE.out]; rfl, rfl⟩
     have HE := zH (show G = some (acc2, bs.drop (j + 1)) from by
      rw [HG.out, HD.out, zCb, if_neg (by omega), if_neg (by omega), if_pos hx8, if_neg hz, ← HA2.out, ← HSH.out, show x.toNat = y by omega])
     by_cases hi0 : 0 < i
     ·have t6 : (0 : Int) < (i : Int) := by omega
      have t6d : decide ((0 : Int) < (i : Int)) = true := zT t6
      have t7 : ((x.toNat : Int) == 0) = false := by rw [beq_eq_false_iff_ne]; omega
      clear hz h9
      go_wp2
      go_ret3
      exact ⟨by rw [HE.out]; exact zGq HN.out hj, rfl⟩
     have t6 : ¬ (0 : Int) < (i : Int) := by omega
     have t6d : decide ((0 : Int) < (i : Int)) = false := zF t6
     clear hz h9
     go_wp2
     go_ret3
     exact ⟨by rw [HE.out]; exact zGq HN.out hj, rfl⟩
    have t5 : ¬ (x.toNat : Int) < 128 := by omega
    have HE := zH (show G = decV (i + 1) acc2 (bs.drop (j + 1)) from by
     rw [HG.out, HD.out, zCb, if_neg (by omega), if_neg (by omega), if_neg hx8, ← HA2.out, ← HSH.out, show x.toNat - 128 = y by omega])
    have hi2 : i + 1 ≤ 10 := by omega
    clear h9
    go_wp2
    go_roundw
    case rel => exact ⟨j + 1, acc2, i + 1, by go_num, rfl, by go_num, hi2, Hacc2.out, HE, by first | rfl | trivial⟩
    case measure => simp [intOf]; omega
   have t2 : decide ((j : Int) < (n : Int)) = false := zF (by omega)
   have HE := zH (show G = none from by rw [HG.out, List.drop_of_length_le (by have := HN.out; omega), zIj])
   go_wp2
   go_ret3
   exact ⟨by rw [HE.out]; rfl, rfl⟩
  have t1 : decide ((i : Int) < 10) = false := zF (by omega)
  have HE := zH (show G = none from by
   rw [HG.out]
   cases bs.drop j with
   | nil => exact zIj _ _
   | cons x r => rw [zCb, if_pos (by omega)])
  go_wp2
  go_ret3
  exact ⟨by rw [HE.out]; rfl, rfl⟩
def textRet (n : Nat) : Option (List UInt8 × List UInt8) → Value
 | none => .tuple #[.string ⟨#[]⟩, .int .i64 0, .bool false]
 | some (t, r) => .tuple #[.string ⟨t.toArray⟩, .int .i64 ((n : Int) - (r.length : Nat)), .bool true]
def textW (most : Nat) (bs : List UInt8) (i : Int) : Option (List UInt8 × List UInt8) := if i < 0 then none else decT most (bs.drop i.toNat)
theorem get116n (w : World) (A : Option Addr) (n c : Nat) (bs : List UInt8) (at_ : Int) (hg : getW bs at_ = none) (hn : bs.length = n) (hl : n ≤ 1000000000000000) (hC : (Kd.int .u8).C w A bs.length (bys bs)) :
  Calls Try.prog 116 #[.slice A n c, .int .i64 at_] w fun e w' => e = .returned (.tuple #[.int .u64 0, .int .i64 0, .bool false]) ∧ w' = w := by
 have h := get116 w A n c bs at_ hn hl hC
 rw [hg] at h
 exact h
theorem get116y (w : World) (A : Option Addr) (n c : Nat) (bs : List UInt8) (at_ : Int) (v k : Nat) (r : List UInt8) (hg : getW bs at_ = some (v, r)) (hk : (n : Int) - (r.length : Nat) = (k : Int)) (hn : bs.length = n) (hl : n ≤ 1000000000000000) (hC : (Kd.int .u8).C w A bs.length (bys bs)) :
  Calls Try.prog 116 #[.slice A n c, .int .i64 at_] w fun e w' => e = .returned (.tuple #[.int .u64 v, .int .i64 k, .bool true]) ∧ w' = w := by
 have h := get116 w A n c bs at_ hn hl hC
 rw [hg] at h
 rw [← hk]
 exact h
theorem zCo : ∀ (l : List UInt8) (i acc : Nat) {v : Nat} {r : List UInt8}, decV i acc l = some (v, r) → r <:+ l
 | [], _, _, _, _, h => by rw [decV] at h; cases h
 | x :: l, i, acc, v, r, h => by
  rw [zCb] at h
  split at h
  ·cases h
  ·split at h
   ·cases h
   ·split at h
    ·split at h
     ·cases h
     ·simp only [Option.some.injEq, Prod.mk.injEq] at h
      obtain ⟨-, rfl⟩ := h
      exact List.suffix_cons _ _
    ·exact (zCo l _ _ h).trans (List.suffix_cons _ _)
theorem zCk {bs : List UInt8} {i : Int} {v : Nat} {r : List UInt8} (h : getW bs i = some (v, r)) : 0 ≤ i ∧ r.length < bs.length ∧ i < ((bs.length - r.length : Nat) : Int) ∧ bs.drop (bs.length - r.length) = r ∧ v < 18446744073709551616 := by
 unfold getW at h
 split at h
 ·cases h
 next hi =>
 have h1 := zCo _ _ _ h
 have h2 := zGg _ 0 0 v r (by decide) h
 have h3 : (bs.drop i.toNat).length = bs.length - i.toNat := List.length_drop
 have h4 := h1.trans (List.drop_suffix _ _)
 exact ⟨by omega, by omega, by omega, (List.suffix_iff_eq_drop.1 h4).symm, h2.1⟩
theorem zFx (t : List UInt8) : strOfNums (bys t) = ⟨t.toArray⟩ := Lib.Lz.strOfNums_map t
theorem bys_mid (bs : List UInt8) (k m : Nat) : ((bys bs).take (k + m)).drop k = bys ((bs.drop k).take m) := by
 unfold bys
 rw [← List.map_take, ← List.map_drop, List.take_drop, Nat.add_comm]
theorem getText128 (w : World) (A : Option Addr) (n c : Nat) (bs : List UInt8) (at_ : Int) (most : Nat) (hn : bs.length = n) (hc : n ≤ c) (hl : n ≤ 1000000000000000) (hm : most ≤ 1000000) (hC : (Kd.int .u8).C w A bs.length (bys bs)) :
  Calls Try.prog 128 #[.slice A n c, .int .i64 at_, .int .i64 most] w fun e w' => e = .returned (textRet n (textW most bs at_)) ∧ Below w.heap.size w w' := by
 obtain ⟨G, hG⟩ : ∃ G, textW most bs at_ = G := ⟨_, rfl⟩
 rw [hG]
 have HC := zH hC
 have HN := zH hn
 have hT : G = (match getW bs at_ with
   | none => none
   | some (m, r) => if m ≤ most ∧ m ≤ r.length then some (r.take m, r.drop m) else none) := by
  rw [← hG]
  unfold textW getW
  split
  ·rfl
  ·rfl
 cases hv : getW bs at_ with
 | none =>
  rw [hv] at hT
  have HT := zH (show G = none from hT)
  have h1 := zH (get116n w A n c bs at_ hv hn hl hC)
  clear hC hn hG hT hv
  go_enter Try.func128, Try.ntmps128
  go_wp2_with fail
  (with_reducible refine h1.out.mono ?_)
  rintro e w1 ⟨rfl, rfl⟩
  go_wp2
  go_ret3
  exact ⟨by rw [HT.out]; rfl, Below.refl _ _⟩
 | some q =>
 obtain ⟨m, r⟩ := q
 rw [hv] at hT
 obtain ⟨hp0, hp1, hp2, hp3, hp4⟩ := zCk hv
 obtain ⟨k, ek⟩ : ∃ k, bs.length - r.length = k := ⟨_, rfl⟩
 rw [ek] at hp2 hp3
 have h1 := zH (get116y w A n c bs at_ m k r hv (by omega) hn hl hC)
 have hkn : k ≤ n := by omega
 have hrl : r.length = n - k := by omega
 have HP := zH hp3
 have hT' : G = if m ≤ most ∧ m ≤ r.length then some (r.take m, r.drop m) else none := hT
 rw [hrl] at hT'
 by_cases hmost : m ≤ most
 ·have t1 : ¬ (most : Int) < (m : Int) := by omega
  by_cases hml : m ≤ n - k
  ·have t2 : ¬ (n : Int) - (k : Int) < (m : Int) := by omega
   rw [if_pos ⟨hmost, hml⟩] at hT'
   have HT := zH hT'
   obtain ⟨i5, hi5, hs5⟩ : ∃ i, Try.prog.info? 5 = some i ∧ i.size = 1 := by
    have h := zDe
    cases hi : Try.prog.info? 5 with
    | none => rw [hi] at h; cases h
    | some i => rw [hi] at h; simp only [Option.map_some, Option.some.injEq, Prod.mk.injEq] at h; exact ⟨i, rfl, h.2.1⟩
   have hlen : (bys bs).length = n := by rw [zBm]; exact hn
   obtain ⟨A', hsl, hrd, -⟩ := zId (P := Try.prog) (Value.int .u8) (0 : Int) 85 5 .i64 .i64 Try.underlying85 hi5 hs5 A c (bys bs) (k : Int) ((k : Int) + (m : Int)) (by omega) (by omega) (by rw [hlen]; omega) (by rw [hlen]; exact hc)
   rw [show ((k : Int) + (m : Int)).toNat = k + m by omega, Int.toNat_natCast, bys_mid, hlen] at hsl hrd
   have hlm : (bys ((bs.drop k).take m)).length = m := by rw [zBm, List.length_take, List.length_drop]; omega
   rw [hlm] at hsl hrd
   have hCm : (Kd.int .u8).C w A' m (bys ((bs.drop k).take m)) := Kd.C_of_reads (d := (0 : Int)) (hrd w (by have := Kd.reads_of_C (enc := Value.int .u8) (d := (0 : Int)) (h1 := fun _ => rfl) hC; rwa [hn] at this))
   have hcv := Kd.C_string (P := Try.prog) (c := c - k) Try.underlying85 Try.underlying5 Try.underlying9 hCm
   rw [zFx] at hcv
   obtain ⟨tx, etx⟩ : ∃ t : ByteArray, (⟨((bs.drop k).take m).toArray⟩ : ByteArray) = t := ⟨_, rfl⟩
   rw [etx] at hcv
   have HR := zH (show Ending.returned (.tuple #[.string tx, .int .i64 ((k : Int) + (m : Int)), .bool true]) = Ending.returned (textRet n G) from by
    rw [hT', ← etx, ← hp3]
    show _ = Ending.returned (.tuple #[.string ⟨((bs.drop k).take m).toArray⟩, .int .i64 ((n : Int) - (((bs.drop k).drop m).length : Nat)), .bool true])
    rw [show (n : Int) - (((bs.drop k).drop m).length : Nat) = (k : Int) + (m : Int) by rw [List.length_drop, List.length_drop]; omega])
   clear hC hn hG hT hT' hv hp0 hp1 hp2 hp3 ek hrl hrd hCm etx hlen hlm hi5 hs5
   go_enter Try.func128, Try.ntmps128
   go_wp2_with fail
   (with_reducible refine h1.out.mono ?_)
   rintro e w1 ⟨rfl, rfl⟩
   go_wp2
   go_ret3
   exact ⟨HR.out, Below.refl _ _⟩
  have t2 : (n : Int) - (k : Int) < (m : Int) := by omega
  rw [if_neg (fun h => hml h.2)] at hT'
  have HT := zH hT'
  clear hC hn hG hT hT' hv hp0 hp1 hp2 hp3 ek hrl
  go_enter Try.func128, Try.ntmps128
  go_wp2_with fail
  (with_reducible refine h1.out.mono ?_)
  rintro e w1 ⟨rfl, rfl⟩
  go_wp2
  go_ret3
  exact ⟨by rw [HT.out]; rfl, Below.refl _ _⟩
 have t1 : (most : Int) < (m : Int) := by omega
 rw [if_neg (fun h => hmost h.1)] at hT'
 have HT := zH hT'
 clear hC hn hG hT hT' hv hp0 hp1 hp2 hp3 ek hrl
 go_enter Try.func128, Try.ntmps128
 go_wp2_with fail
 (with_reducible refine h1.out.mono ?_)
 rintro e w1 ⟨rfl, rfl⟩
 go_wp2
 go_ret3
 exact ⟨by rw [HT.out]; rfl, Below.refl _ _⟩
end
section
open Go Go.RowKit Go.Proofs.YteafilojjdfllaaW.PrintWords Go.Proofs.YteafilojjdfllaaW.PrintLast Go.Proofs.YteafilojjdfllaaW.PrintMore Go.Proofs.Yteafilojjdfllaa.PAll
set_option linter.unusedVariables false
set_option linter.unusedSimpArgs false
def RB (W : World) (g : Nat) (A : Option Addr) (n c : Nat) (i : Int) (b : Bool) : Prop := W.heap[g]? = some (.cells #[.slice A n c, .int .i64 i, .bool b] 93 (0, 0))
section
variable {W X : World} {g : Nat} {A : Option Addr} {n c : Nat} {i : Int} {b : Bool}
theorem RB.c0 (h : RB W g A n c i b) : W.cell? ⟨g, 0, none⟩ = some (.slice A n c) := (zAb h 0).trans rfl
theorem RB.c1 (h : RB W g A n c i b) : W.cell? ⟨g, 1, none⟩ = some (.int .i64 i) := (zAb h 1).trans rfl
theorem RB.c2 (h : RB W g A n c i b) : W.cell? ⟨g, 2, none⟩ = some (.bool b) := (zAb h 2).trans rfl
theorem RB.z1 (h : RB W g A n c i b) : W.frozen? ⟨g, 1, none⟩ = false := zAa h 1
theorem RB.z2 (h : RB W g A n c i b) : W.frozen? ⟨g, 2, none⟩ = false := zAa h 2
theorem RB.lt (h : RB W g A n c i b) : g < W.heap.size := (Array.getElem?_eq_some_iff.1 h).1
theorem RB.set1 (h : RB W g A n c i b) (j : Int) : RB (W.setCell ⟨g, 1, none⟩ (.int .i64 j)) g A n c j b := by simpa [RB] using zAn h 1 (.int .i64 j)
theorem RB.set2 (h : RB W g A n c i b) (d : Bool) : RB (W.setCell ⟨g, 2, none⟩ (.bool d)) g A n c i d := by simpa [RB] using zAn h 2 (.bool d)
theorem RB.below (h : RB W g A n c i b) (hb : Below W.heap.size W X) : RB X g A n c i b := (hb.block g h.lt).trans h
theorem RB.drewN (h : RB W g A n c i b) (m : Nat) : RB (W.drewN m) g A n c i b := h
end
def NumPost (w0 w : World) (g : Nat) (A : Option Addr) (n c : Nat) (Q : Option (Nat × List UInt8)) (e : Ending) (w' : World) : Prop :=
 Below w0.heap.size w0 w' ∧ KeepBut w w' g none ∧
  ((Q = none ∧ e = .returned (.int .u64 0) ∧ ∃ i, RB w' g A n c i true) ∨ ∃ v r, Q = some (v, r) ∧ e = .returned (.int .u64 (v : Nat)) ∧ RB w' g A n c ((n : Int) - (r.length : Nat)) false)
def numW (b : Bool) (bs : List UInt8) (i : Int) : Option (Nat × List UInt8) := if b = true then none else getW bs i
theorem num_post {w0 w W : World} {g : Nat} {A : Option Addr} {n c j v : Nat} {bs : List UInt8} {Q : Option (Nat × List UInt8)} (hn : bs.length = n) (hj : j ≤ n) (hQ : Q = some (v, bs.drop j)) (hB : Below w0.heap.size w0 W) (hK : KeepBut w W g none) (hS : RB W g A n c (j : Int) false) :
  NumPost w0 w g A n c Q (.returned (.int .u64 (v : Int))) W := by
 refine ⟨hB, hK, Or.inr ⟨v, _, hQ, rfl, ?_⟩⟩
 rw [show (n : Int) - ((bs.drop j).length : Nat) = (j : Int) by rw [List.length_drop]; omega]
 exact hS
theorem num164 (w0 w : World) (g : Nat) (A : Option Addr) (n c : Nat) (bs : List UInt8) (at_ : Int) (b : Bool) (hn : bs.length = n) (hl : n ≤ 1000000000000000) (hg : w0.heap.size ≤ g) (hB : Below w0.heap.size w0 w) (hS : RB w g A n c at_ b) (hC0 : (Kd.int .u8).C w0 A bs.length (bys bs)) :
  Calls Try.prog 164 #[.pointer (some ⟨g, 0, none⟩)] w (NumPost w0 w g A n c (numW b bs at_)) := by
 obtain ⟨Q, hQ⟩ : ∃ Q, numW b bs at_ = Q := ⟨_, rfl⟩
 rw [hQ]
 have HS0 := zH hS
 have HB0 := zH hB
 have HN0 := zH hn
 have HCO := zH hC0
 have HQ0 := zH (show Q = (if b = true then none else if at_ < 0 then none else decV 0 0 (bs.drop at_.toNat)) from by rw [← hQ]; rfl)
 clear hS hB hn hC0 hQ
 go_enter Try.func164, Try.ntmps164
 go_wp2
 go_loopw [3, 4, 5] (fun u3 u4 _ wr => ∃ (acc i : Nat) (at' : Int) (bd : Bool), u3 = .int .u64 acc ∧ u4 = .int .i64 i ∧ i ≤ 10 ∧ Hid (acc < 2 ^ (7 * i)) ∧ Hid (Q = (if bd = true then none else if at' < 0 then none else decV i acc (bs.drop at'.toNat))) ∧ Hid (RB wr g A n c at' bd) ∧ Hid (Below w0.heap.size w0 wr) ∧ Hid (KeepBut w wr g none))
  (fun _ u4 _ _ => 10 - (intOf u4).toNat)
 case atStart => exact ⟨0, 0, at_, b, rfl, rfl, by omega, zH (by simp), HQ0, HS0, HB0, zH (KeepBut.refl w g none)⟩
 case round =>
  clear HS0 HB0 HQ0
  obtain ⟨acc, i, at', bd, rfl, rfl, hi, HA, HQ, HS, HB, HK⟩ := hrel
  have g0 := HS.out.c0
  have g1 := HS.out.c1
  have g2 := HS.out.c2
  have z1 := HS.out.z1
  have z2 := HS.out.z2
  by_cases hi10 : i < 10
  ·have t1 : (i : Int) < 10 := by omega
   cases bd with
   | true =>
    have HN := zH (show Q = none from HQ.out)
    go_wp2
    go_quiet (fail)
    clear g0 g1 g2 z1 z2
    have HC := zH (Kd.C_below HCO.out HB.out)
    have HS := zH (HS.out.drewN nq)
    have HB := zH (zAd HB.out nq)
    have HK := zH (zBl HK.out nq)
    have HC := zH (Kd.C_below HC.out (zAd (Below.refl _ _) nq))
    generalize wr.drewN nq = W1 at HS HB HK HC ⊢
    clear nq
    have g0 := HS.out.c0
    have g1 := HS.out.c1
    have g2 := HS.out.c2
    have z1 := HS.out.z1
    have z2 := HS.out.z2
    have HS2 := zH (HS.out.set2 true)
    have HB2 := zH (HB.out.setCell (p := ⟨g, 2, none⟩) hg (.bool true))
    have HK2 := zH (HK.out.set_ 2 (.bool true))
    go_wp2
    go_ret
    exact ⟨HB2.out, HK2.out, Or.inl ⟨HN.out, rfl, _, HS2.out⟩⟩
   | false =>
   by_cases hneg : at' < 0
   ·have dn : decide (at' < 0) = true := zT hneg
    have HN := zH (show Q = none from by rw [HQ.out, if_neg (by decide), if_pos hneg])
    go_wp2
    go_quiet (fail)
    clear g0 g1 g2 z1 z2
    have HC := zH (Kd.C_below HCO.out HB.out)
    have HS := zH (HS.out.drewN nq)
    have HB := zH (zAd HB.out nq)
    have HK := zH (zBl HK.out nq)
    have HC := zH (Kd.C_below HC.out (zAd (Below.refl _ _) nq))
    generalize wr.drewN nq = W1 at HS HB HK HC ⊢
    clear nq
    have g0 := HS.out.c0
    have g1 := HS.out.c1
    have g2 := HS.out.c2
    have z1 := HS.out.z1
    have z2 := HS.out.z2
    have HS2 := zH (HS.out.set2 true)
    have HB2 := zH (HB.out.setCell (p := ⟨g, 2, none⟩) hg (.bool true))
    have HK2 := zH (HK.out.set_ 2 (.bool true))
    go_wp2
    go_ret
    exact ⟨HB2.out, HK2.out, Or.inl ⟨HN.out, rfl, _, HS2.out⟩⟩
   obtain ⟨j, rfl⟩ : ∃ j : Nat, at' = (j : Int) := ⟨at'.toNat, by omega⟩
   have dn : decide ((j : Int) < 0) = false := zF hneg
   have HG := zH (show Q = decV i acc (bs.drop j) from by rw [HQ.out, if_neg (by decide), if_neg hneg, Int.toNat_natCast])
   clear HQ hneg
   have HC := zH (Kd.C_below HCO.out HB.out)
   by_cases hj : j < n
   ·have dj : decide (n ≤ j) = false := zF (by omega)
    have djI : decide ((n : Int) ≤ (j : Int)) = false := zF (by omega)
    have hjI : (j : Int) < (n : Int) := by omega
    obtain ⟨ad, rfl, c0⟩ := bys_at HC.out j (by rw [HN0.out]; exact hj)
    obtain ⟨x, ex⟩ : ∃ x, bs.getD j 0 = x := ⟨_, rfl⟩
    rw [ex] at c0
    have HD := zH (show bs.drop j = x :: bs.drop (j + 1) from by rw [drop_at bs j (by rw [HN0.out]; exact hj), ex])
    have EX := zH ex
    clear ex
    go_wp2
    go_quiet (fail)
    clear g0 g1 g2 z1 z2
    clear c0
    have HS := zH (HS.out.drewN nq)
    have HB := zH (zAd HB.out nq)
    have HK := zH (zBl HK.out nq)
    have HC := zH (Kd.C_below HC.out (zAd (Below.refl _ _) nq))
    generalize wr.drewN nq = W1 at HS HB HK HC ⊢
    clear nq
    have g0 := HS.out.c0
    have g1 := HS.out.c1
    have g2 := HS.out.c2
    have z1 := HS.out.z1
    have z2 := HS.out.z2
    obtain ⟨ad', e', c0⟩ := bys_at HC.out j (by rw [HN0.out]; exact hj)
    cases e'
    rw [EX.out] at c0
    go_wp2
    go_quiet (fail)
    clear g0 g1 g2 z1 z2
    clear c0
    have HS := zH (HS.out.drewN nq)
    have HB := zH (zAd HB.out nq)
    have HK := zH (zBl HK.out nq)
    have HC := zH (Kd.C_below HC.out (zAd (Below.refl _ _) nq))
    generalize W1.drewN nq = W2 at HS HB HK HC ⊢
    clear nq
    have g0 := HS.out.c0
    have g1 := HS.out.c1
    have g2 := HS.out.c2
    have z1 := HS.out.z1
    have z2 := HS.out.z2
    obtain ⟨j1, ej1, ej1I⟩ : ∃ j1 : Nat, j1 = j + 1 ∧ (j : Int) + 1 = (j1 : Int) := ⟨j + 1, rfl, rfl⟩
    have HJ1 := zH ej1
    have hj1 : j1 ≤ n := by omega
    clear ej1
    have HS := zH (HS.out.set1 (j1 : Int))
    have HB := zH (HB.out.setCell (p := ⟨g, 1, none⟩) hg (.int .i64 (j1 : Int)))
    have HK := zH (HK.out.set_ 1 (.int .i64 (j1 : Int)))
    obtain ⟨y, ey⟩ : ∃ y, x.toNat % 128 = y := ⟨_, rfl⟩
    have hyI : (x.toNat : Int) % 128 = (y : Int) := by omega
    have hxlt := x.toNat_lt
    have hy1 : y < 128 := by omega
    by_cases h9 : i = 9
    ·subst h9
     by_cases hx1 : 1 < x.toNat
     ·have t4 : decide ((1 : Int) < (x.toNat : Int)) = true := zT (by omega)
      have t4n : decide (1 < x.toNat) = true := zT hx1
      have t4p : (1 : Int) < (x.toNat : Int) := by omega
      have HN := zH (show Q = none from by rw [HG.out, HD.out, zCb, if_neg (by omega), if_pos ⟨rfl, hx1⟩])
      have z2 := HS.out.z2
      have g2 := HS.out.c2
      have HS2 := zH (HS.out.set2 true)
      have HB2 := zH (HB.out.setCell (p := ⟨g, 2, none⟩) hg (.bool true))
      have HK2 := zH (HK.out.set_ 2 (.bool true))
      go_wp2
      go_ret
      exact ⟨HB2.out, HK2.out, Or.inl ⟨HN.out, rfl, _, HS2.out⟩⟩
     have t4 : decide ((1 : Int) < (x.toNat : Int)) = false := zF (by omega)
     have t4n : decide (1 < x.toNat) = false := zF hx1
     have t4p : ¬ (1 : Int) < (x.toNat : Int) := by omega
     have t5 : (x.toNat : Int) < 128 := by omega
     by_cases hx0 : x.toNat = 0
     ·have t6 : ((x.toNat : Int) == 0) = true := by rw [beq_iff_eq]; omega
      have HN := zH (show Q = none from by rw [HG.out, HD.out, zCb, if_neg (by omega), if_neg (by omega), if_pos (by omega), if_pos ⟨by omega, hx0⟩])
      have z2 := HS.out.z2
      have g2 := HS.out.c2
      clear hx0
      have HS2 := zH (HS.out.set2 true)
      have HB2 := zH (HB.out.setCell (p := ⟨g, 2, none⟩) hg (.bool true))
      have HK2 := zH (HK.out.set_ 2 (.bool true))
      go_wp2
      go_ret
      exact ⟨HB2.out, HK2.out, Or.inl ⟨HN.out, rfl, _, HS2.out⟩⟩
     have t6 : ((x.toNat : Int) == 0) = false := by rw [beq_eq_false_iff_ne]; omega
     obtain ⟨acc2, ea2⟩ : ∃ a, acc + x.toNat * 2 ^ (7 * 9) = a := ⟨_, rfl⟩
     have HE := zH (show Q = some (acc2, bs.drop j1) from by rw [HJ1.out, HG.out, HD.out, zCb, if_neg (by omega), if_neg (by omega), if_pos (by omega), if_neg (by omega), ea2])
     have hacc := HA.out
     have ho : IntKind.u64.wrap ((acc : Int) + (y : Int) * 9223372036854775808) = (acc2 : Int) := by
      rw [← ea2, IntKind.wrap_u64]
      omega
     have ho2 : ((acc : Int) + (y : Int) * 9223372036854775808) % 18446744073709551616 = (acc2 : Int) := by
      rw [← ea2]
      omega
     clear hx0 ea2 hacc ey
     go_wp2
     go_ret
     exact num_post HN0.out hj1 HE.out HB.out HK.out HS.out
    have t3 : ((i : Int) == 9) = false := by rw [beq_eq_false_iff_ne]; omega
    have hacc := HA.out
    have hsh : y * 2 ^ (7 * i) + 2 ^ (7 * i) ≤ 9223372036854775808 := by
     have h1 : (y + 1) * 2 ^ (7 * i) ≤ 128 * 2 ^ (7 * i) := Nat.mul_le_mul_right _ (by omega)
     have h2 : (2 : Nat) ^ (7 * (i + 1)) = 128 * 2 ^ (7 * i) := by rw [show 7 * (i + 1) = 7 * i + 7 by omega, Nat.pow_add]; omega
     have h3 : (2 : Nat) ^ (7 * (i + 1)) ≤ 2 ^ 63 := Nat.pow_le_pow_right (by decide) (by omega)
     rw [Nat.add_mul] at h1
     omega
    obtain ⟨sh, esh⟩ : ∃ s, y * 2 ^ (7 * i) = s := ⟨_, rfl⟩
    obtain ⟨acc2, ea2⟩ : ∃ a, acc + sh = a := ⟨_, rfl⟩
    have hws : IntKind.u64.wrap ((y : Int) * 2 ^ (7 * i)) = (sh : Int) := by
     rw [← esh, show (y : Int) * 2 ^ (7 * i) = ((y * 2 ^ (7 * i) : Nat) : Int) by simp, IntKind.wrap_u64]
     omega
    have ho : (acc : Int) + (sh : Int) = (acc2 : Int) := by omega
    have hal : acc2 < 9223372036854775808 := by omega
    have HSH := zH esh
    have HA2 := zH ea2
    have hacc2 : acc2 < 2 ^ (7 * (i + 1)) := by
     have h1 : (y + 1) * 2 ^ (7 * i) ≤ 128 * 2 ^ (7 * i) := Nat.mul_le_mul_right _ (by omega)
     have h2 : (2 : Nat) ^ (7 * (i + 1)) = 128 * 2 ^ (7 * i) := by rw [show 7 * (i + 1) = 7 * i + 7 by omega, Nat.pow_add]; omega
     rw [Nat.add_mul] at h1
     omega
    have Hacc2 := zH hacc2
    have HY := zH ey
    clear esh ea2 hsh hacc2 hacc ey
    by_cases hx8 : x.toNat < 128
    ·have t5 : (x.toNat : Int) < 128 := by omega
     by_cases hz : 0 < i ∧ x.toNat = 0
     ·have t6 : (0 : Int) < (i : Int) := by omega
      have t6d : decide ((0 : Int) < (i : Int)) = true := zT t6
      have t7 : ((x.toNat : Int) == 0) = true := by rw [beq_iff_eq]; omega
      have HN := zH (show Q = none from by rw [HG.out, HD.out, zCb, if_neg (by omega), if_neg (by omega), if_pos hx8, if_pos hz])
      have z2 := HS.out.z2
      have g2 := HS.out.c2
      clear hz h9
      have HS2 := zH (HS.out.set2 true)
      have HB2 := zH (HB.out.setCell (p := ⟨g, 2, none⟩) hg (.bool true))
      have HK2 := zH (HK.out.set_ 2 (.bool true))
      go_wp2
      go_ret
      exact ⟨HB2.out, HK2.out, Or.inl ⟨HN.out, rfl, _, HS2.out⟩⟩
     have HE := zH (show Q = some (acc2, bs.drop j1) from by
      rw [HJ1.out, HG.out, HD.out, zCb, if_neg (by omega), if_neg (by omega), if_pos hx8, if_neg hz, ← HA2.out, ← HSH.out, ← HY.out, Nat.mod_eq_of_lt hx8])
     by_cases hx0 : x.toNat = 0
     ·have t6 : ¬ (0 : Int) < (i : Int) := by omega
      have t6d : decide ((0 : Int) < (i : Int)) = false := zF t6
      have t7 : ((x.toNat : Int) == 0) = true := by rw [beq_iff_eq]; omega
      clear hz h9 hx0
      go_wp2
      go_ret
      exact num_post HN0.out hj1 HE.out HB.out HK.out HS.out
     have t7 : ((x.toNat : Int) == 0) = false := by rw [beq_eq_false_iff_ne]; omega
     clear hz h9 hx0
     go_wp2
     go_ret
     exact num_post HN0.out hj1 HE.out HB.out HK.out HS.out
    have t5 : ¬ (x.toNat : Int) < 128 := by omega
    have HE := zH (show Q = decV (i + 1) acc2 (bs.drop j1) from by
     rw [HJ1.out, HG.out, HD.out, zCb, if_neg (by omega), if_neg (by omega), if_neg hx8, ← HA2.out, ← HSH.out, ← HY.out, show x.toNat % 128 = x.toNat - 128 by omega])
    have hi2 : i + 1 ≤ 10 := by omega
    clear h9
    go_wp2
    go_roundw
    case rel => exact ⟨acc2, i + 1, (j1 : Int), false, rfl, by go_num, hi2, Hacc2, zH (by rw [if_neg (by decide), if_neg (by omega), Int.toNat_natCast]; exact HE.out), HS, HB, HK⟩
    case measure => simp [intOf]; omega
   have dj : decide (n ≤ j) = true := zT (by omega)
   have djI : decide ((n : Int) ≤ (j : Int)) = true := zT (by omega)
   have HN := zH (show Q = none from by rw [HG.out, List.drop_of_length_le (by have := HN0.out; omega), zIj])
   go_wp2
   go_quiet (fail)
   clear g0 g1 g2 z1 z2
   have HS := zH (HS.out.drewN nq)
   have HB := zH (zAd HB.out nq)
   have HK := zH (zBl HK.out nq)
   have HC := zH (Kd.C_below HC.out (zAd (Below.refl _ _) nq))
   generalize wr.drewN nq = W1 at HS HB HK HC ⊢
   clear nq
   have g0 := HS.out.c0
   have g1 := HS.out.c1
   have g2 := HS.out.c2
   have z1 := HS.out.z1
   have z2 := HS.out.z2
   have HS2 := zH (HS.out.set2 true)
   have HB2 := zH (HB.out.setCell (p := ⟨g, 2, none⟩) hg (.bool true))
   have HK2 := zH (HK.out.set_ 2 (.bool true))
   go_wp2
   go_ret
   exact ⟨HB2.out, HK2.out, Or.inl ⟨HN.out, rfl, _, HS2.out⟩⟩
  have t1 : ¬ (i : Int) < 10 := by omega
  have HN := zH (show Q = none from by
   rw [HQ.out]
   split
   ·rfl
   ·split
    ·rfl
    ·cases bs.drop at'.toNat with
     | nil => exact zIj _ _
     | cons x r => rw [zCb, if_pos (by omega)])
  have HS2 := zH (HS.out.set2 true)
  have HB2 := zH (HB.out.setCell (p := ⟨g, 2, none⟩) hg (.bool true))
  have HK2 := zH (HK.out.set_ 2 (.bool true))
  go_wp2
  go_ret
  exact ⟨HB2.out, HK2.out, Or.inl ⟨HN.out, rfl, _, HS2.out⟩⟩
end
section
open Go Go.RowKit Go.Proofs.YteafilojjdfllaaW.PrintWords Go.Proofs.YteafilojjdfllaaW.PrintLast Go.Proofs.YteafilojjdfllaaW.PrintMore Go.Proofs.Yteafilojjdfllaa.PAll
set_option linter.unusedVariables false
set_option linter.unusedSimpArgs false
theorem zHq (w0 w : World) (g : Nat) (A : Option Addr) (n c : Nat) (bs : List UInt8) (at_ : Int) (b : Bool) (hq : numW b bs at_ = none) (hn : bs.length = n) (hl : n ≤ 1000000000000000) (hg : w0.heap.size ≤ g) (hB : Below w0.heap.size w0 w) (hS : RB w g A n c at_ b) (hC0 : (Kd.int .u8).C w0 A bs.length (bys bs)) :
  Calls Try.prog 164 #[.pointer (some ⟨g, 0, none⟩)] w fun e w' => e = .returned (.int .u64 0) ∧ Below w0.heap.size w0 w' ∧ KeepBut w w' g none ∧ ∃ i, RB w' g A n c i true := by
 refine (num164 w0 w g A n c bs at_ b hn hl hg hB hS hC0).mono ?_
 rw [hq]
 rintro e w' ⟨h1, h2, ⟨-, h3, h4⟩ | ⟨v, r, h3, _⟩⟩
 ·exact ⟨h3, h1, h2, h4⟩
 cases h3
theorem zEd (w0 w : World) (g : Nat) (A : Option Addr) (n c : Nat) (bs : List UInt8) (at_ : Int) (b : Bool) (v k : Nat) (r : List UInt8) (hq : numW b bs at_ = some (v, r)) (hk : (n : Int) - (r.length : Nat) = (k : Int)) (hn : bs.length = n) (hl : n ≤ 1000000000000000) (hg : w0.heap.size ≤ g) (hB : Below w0.heap.size w0 w) (hS : RB w g A n c at_ b) (hC0 : (Kd.int .u8).C w0 A bs.length (bys bs)) :
  Calls Try.prog 164 #[.pointer (some ⟨g, 0, none⟩)] w fun e w' => e = .returned (.int .u64 v) ∧ Below w0.heap.size w0 w' ∧ KeepBut w w' g none ∧ RB w' g A n c (k : Int) false := by
 refine (num164 w0 w g A n c bs at_ b hn hl hg hB hS hC0).mono ?_
 rw [hq]
 rintro e w' ⟨h1, h2, ⟨h3, _⟩ | ⟨v', r', h3, h4, h5⟩⟩
 ·cases h3
 cases h3
 rw [hk] at h5
 exact ⟨h4, h1, h2, h5⟩
theorem zHp {b : Bool} {bs : List UInt8} {i : Int} {v : Nat} {r : List UInt8} (h : numW b bs i = some (v, r)) : b = false ∧ getW bs i = some (v, r) := by
 unfold numW at h
 split at h
 ·cases h
 next hb => exact ⟨by simpa using hb, h⟩
def zFf (b : Bool) (most : Nat) (bs : List UInt8) (i : Int) : Option (Nat × List UInt8) :=
 match numW b bs i with
 | none => none
 | some (m, r) => if m ≤ most ∧ m ≤ r.length then some (m, r) else none
def CountPost (w0 w : World) (g : Nat) (A : Option Addr) (n c : Nat) (Q : Option (Nat × List UInt8)) (e : Ending) (w' : World) : Prop :=
 Below w0.heap.size w0 w' ∧ KeepBut w w' g none ∧
  ((Q = none ∧ e = .returned (.int .i64 0) ∧ ∃ i, RB w' g A n c i true) ∨ ∃ v r, Q = some (v, r) ∧ e = .returned (.int .i64 (v : Nat)) ∧ RB w' g A n c ((n : Int) - (r.length : Nat)) false)
theorem count120 (w0 w : World) (g : Nat) (A : Option Addr) (n c : Nat) (bs : List UInt8) (at_ : Int) (b : Bool) (most : Nat) (hm : most ≤ 1000000) (hn : bs.length = n) (hl : n ≤ 1000000000000000) (hg : w0.heap.size ≤ g) (hB : Below w0.heap.size w0 w) (hS : RB w g A n c at_ b) (hC0 : (Kd.int .u8).C w0 A bs.length (bys bs)) :
  Calls Try.prog 120 #[.pointer (some ⟨g, 0, none⟩), .int .i64 most] w (CountPost w0 w g A n c (zFf b most bs at_)) := by
 obtain ⟨Q, hQ⟩ : ∃ Q, zFf b most bs at_ = Q := ⟨_, rfl⟩
 rw [hQ]
 unfold zFf at hQ
 cases hq : numW b bs at_ with
 | none =>
  rw [hq] at hQ
  have HN := zH (show Q = none from hQ.symm)
  have h1 := zH (zHq w0 w g A n c bs at_ b hq hn hl hg hB hS hC0)
  clear hB hS hC0 hq hQ hn
  go_enter Try.func120, Try.ntmps120
  go_wp2_with fail
  (with_reducible refine h1.out.mono ?_)
  rintro e w1 ⟨rfl, hB1, hK1, i1, hS1⟩
  have HS := zH hS1
  have HB := zH hB1
  have HK := zH hK1
  clear hS1 hB1 hK1
  have g2 := HS.out.c2
  go_wp2
  go_quiet (fail)
  have HS := zH (HS.out.drewN nq)
  have HB := zH (zAd HB.out nq)
  have HK := zH (zBl HK.out nq)
  clear g2
  generalize w1.drewN nq = W1 at HS HB HK ⊢
  have g2 := HS.out.c2
  have z2 := HS.out.z2
  have HS2 := zH (HS.out.set2 true)
  have HB2 := zH (HB.out.setCell (p := ⟨g, 2, none⟩) hg (.bool true))
  have HK2 := zH (HK.out.set_ 2 (.bool true))
  go_wp2
  go_ret
  exact ⟨HB2.out, HK2.out, Or.inl ⟨HN.out, rfl, _, HS2.out⟩⟩
 | some q =>
 obtain ⟨m, r⟩ := q
 rw [hq] at hQ
 obtain ⟨rfl, hgq⟩ := zHp hq
 obtain ⟨hp0, hp1, hp2, hp3, hp4⟩ := zCk hgq
 obtain ⟨k, ek⟩ : ∃ k, bs.length - r.length = k := ⟨_, rfl⟩
 have hkI : (n : Int) - (r.length : Nat) = (k : Int) := by omega
 have h1 := zH (zEd w0 w g A n c bs at_ false m k r hq hkI hn hl hg hB hS hC0)
 have hkn : k ≤ n := by omega
 have hrl : r.length = n - k := by omega
 have hQ' : Q = if m ≤ most ∧ m ≤ r.length then some (m, r) else none := hQ.symm
 have HKI := zH hkI
 rw [hrl] at hQ'
 have hm0 : decide ((most : Int) < 0) = false := zF (by omega)
 by_cases hok : m ≤ most ∧ m ≤ n - k
 ·rw [if_pos hok] at hQ'
  have HQ := zH hQ'
  have t1 : decide ((most : Int) < (m : Int)) = false := zF (by omega)
  have t2 : decide ((n : Int) - (k : Int) < (m : Int)) = false := zF (by omega)
  have t1n : decide (most < m) = false := zF (by omega)
  have HW := zH (show wrap64 (m : Int) = (m : Int) from by unfold wrap64; omega)
  clear hB hS hC0 hq hQ hQ' hn hgq hp0 hp1 hp2 hp3 ek hkI hrl hok
  go_enter Try.func120, Try.ntmps120
  go_wp2_with fail
  (with_reducible refine h1.out.mono ?_)
  rintro e w1 ⟨rfl, hB1, hK1, hS1⟩
  have HS := zH hS1
  have HB := zH hB1
  have HK := zH hK1
  clear hS1 hB1 hK1
  have g0 := HS.out.c0
  have g1 := HS.out.c1
  have g2 := HS.out.c2
  go_wp2
  go_quiet (fail)
  have HS2 := zH (HS.out.drewN nq)
  have HB2 := zH (zAd HB.out nq)
  have HK2 := zH (zBl HK.out nq)
  go_wp2
  go_ret
  exact ⟨HB2.out, HK2.out, Or.inr ⟨m, r, HQ.out, by first | rfl | (show Ending.returned (.int .i64 (wrap64 (m : Int))) = _; rw [HW.out]), by rw [HKI.out]; exact HS2.out⟩⟩
 rw [if_neg hok] at hQ'
 have HN := zH hQ'
 have hcase : Hid (decide ((most : Int) < (m : Int)) = true ∧ decide (most < m) = true) ∨ Hid (decide ((most : Int) < (m : Int)) = false ∧ decide (most < m) = false ∧ decide ((n : Int) - (k : Int) < (m : Int)) = true) := by
  by_cases h : m ≤ most
  ·exact Or.inr (zH ⟨zF (by omega), zF (by omega), zT (by omega)⟩)
  exact Or.inl (zH ⟨zT (by omega), zT (by omega)⟩)
 clear hB hS hC0 hq hQ hQ' hn hgq hp0 hp1 hp2 hp3 ek hkI hrl hok
 go_enter Try.func120, Try.ntmps120
 go_wp2_with fail
 (with_reducible refine h1.out.mono ?_)
 rintro e w1 ⟨rfl, hB1, hK1, hS1⟩
 have HS := zH hS1
 have HB := zH hB1
 have HK := zH hK1
 clear hS1 hB1 hK1
 have g0 := HS.out.c0
 have g1 := HS.out.c1
 have g2 := HS.out.c2
 rcases hcase with t1 | t12
 ·obtain ⟨t1', t1n⟩ := t1.out
  go_wp2
  go_quiet (fail)
  have HS := zH (HS.out.drewN nq)
  have HB := zH (zAd HB.out nq)
  have HK := zH (zBl HK.out nq)
  clear g0 g1 g2
  generalize w1.drewN nq = W1 at HS HB HK ⊢
  have g2 := HS.out.c2
  have z2 := HS.out.z2
  have HS2 := zH (HS.out.set2 true)
  have HB2 := zH (HB.out.setCell (p := ⟨g, 2, none⟩) hg (.bool true))
  have HK2 := zH (HK.out.set_ 2 (.bool true))
  go_wp2
  go_ret
  exact ⟨HB2.out, HK2.out, Or.inl ⟨HN.out, rfl, _, HS2.out⟩⟩
 obtain ⟨t1', t1n, t2'⟩ := t12.out
 go_wp2
 go_quiet (fail)
 have HS := zH (HS.out.drewN nq)
 have HB := zH (zAd HB.out nq)
 have HK := zH (zBl HK.out nq)
 clear g0 g1 g2
 generalize w1.drewN nq = W1 at HS HB HK ⊢
 have g2 := HS.out.c2
 have z2 := HS.out.z2
 have HS2 := zH (HS.out.set2 true)
 have HB2 := zH (HB.out.setCell (p := ⟨g, 2, none⟩) hg (.bool true))
 have HK2 := zH (HK.out.set_ 2 (.bool true))
 go_wp2
 go_ret
 exact ⟨HB2.out, HK2.out, Or.inl ⟨HN.out, rfl, _, HS2.out⟩⟩
def zGy (b : Bool) (most : Nat) (bs : List UInt8) (i : Int) : Option (List UInt8 × List UInt8) :=
 match numW b bs i with
 | none => none
 | some (m, r) => if m ≤ most ∧ m ≤ r.length then some (r.take m, r.drop m) else none
def RTextPost (w0 w : World) (g : Nat) (A : Option Addr) (n c : Nat) (Q : Option (List UInt8 × List UInt8)) (e : Ending) (w' : World) : Prop :=
 Below w0.heap.size w0 w' ∧ KeepBut w w' g none ∧
  ((Q = none ∧ e = .returned (.string ⟨#[]⟩) ∧ ∃ i, RB w' g A n c i true) ∨ ∃ t r, Q = some (t, r) ∧ e = .returned (.string ⟨t.toArray⟩) ∧ RB w' g A n c ((n : Int) - (r.length : Nat)) false)
theorem rtext130 (w0 w : World) (g : Nat) (A : Option Addr) (n c : Nat) (bs : List UInt8) (at_ : Int) (b : Bool) (most : Nat) (hm : most ≤ 1000000) (hn : bs.length = n) (hc : n ≤ c) (hl : n ≤ 1000000000000000) (hg : w0.heap.size ≤ g) (hB : Below w0.heap.size w0 w) (hS : RB w g A n c at_ b) (hC0 : (Kd.int .u8).C w0 A bs.length (bys bs)) :
  Calls Try.prog 130 #[.pointer (some ⟨g, 0, none⟩), .int .i64 most] w (RTextPost w0 w g A n c (zGy b most bs at_)) := by
 obtain ⟨Q, hQ⟩ : ∃ Q, zGy b most bs at_ = Q := ⟨_, rfl⟩
 rw [hQ]
 unfold zGy at hQ
 cases hq : numW b bs at_ with
 | none =>
  rw [hq] at hQ
  have HN := zH (show Q = none from hQ.symm)
  have h1 := zH (zHq w0 w g A n c bs at_ b hq hn hl hg hB hS hC0)
  clear hB hS hC0 hq hQ hn
  go_enter Try.func130, Try.ntmps130
  go_wp2_with fail
  (with_reducible refine h1.out.mono ?_)
  rintro e w1 ⟨rfl, hB1, hK1, i1, hS1⟩
  have HS := zH hS1
  have HB := zH hB1
  have HK := zH hK1
  clear hS1 hB1 hK1
  have g2 := HS.out.c2
  go_wp2
  go_quiet (fail)
  have HS := zH (HS.out.drewN nq)
  have HB := zH (zAd HB.out nq)
  have HK := zH (zBl HK.out nq)
  clear g2
  generalize w1.drewN nq = W1 at HS HB HK ⊢
  have g2 := HS.out.c2
  have z2 := HS.out.z2
  have HS2 := zH (HS.out.set2 true)
  have HB2 := zH (HB.out.setCell (p := ⟨g, 2, none⟩) hg (.bool true))
  have HK2 := zH (HK.out.set_ 2 (.bool true))
  go_wp2
  go_ret
  exact ⟨HB2.out, HK2.out, Or.inl ⟨HN.out, rfl, _, HS2.out⟩⟩
 | some q =>
 obtain ⟨m, r⟩ := q
 rw [hq] at hQ
 obtain ⟨rfl, hgq⟩ := zHp hq
 obtain ⟨hp0, hp1, hp2, hp3, hp4⟩ := zCk hgq
 obtain ⟨k, ek⟩ : ∃ k, bs.length - r.length = k := ⟨_, rfl⟩
 have hkI : (n : Int) - (r.length : Nat) = (k : Int) := by omega
 have h1 := zH (zEd w0 w g A n c bs at_ false m k r hq hkI hn hl hg hB hS hC0)
 have hkn : k ≤ n := by omega
 have hrl : r.length = n - k := by omega
 have hQ' : Q = if m ≤ most ∧ m ≤ r.length then some (r.take m, r.drop m) else none := hQ.symm
 have HKI := zH hkI
 rw [hrl] at hQ'
 have hm0 : decide ((most : Int) < 0) = false := zF (by omega)
 by_cases hok : m ≤ most ∧ m ≤ n - k
 ·rw [if_pos hok] at hQ'
  have HW := zH (show wrap64 (m : Int) = (m : Int) from by unfold wrap64; omega)
  have t1 : decide ((most : Int) < (m : Int)) = false := zF (by omega)
  have t2 : decide ((n : Int) - (k : Int) < (m : Int)) = false := zF (by omega)
  have t1n : decide (most < m) = false := zF (by omega)
  obtain ⟨i5, hi5, hs5⟩ : ∃ i, Try.prog.info? 5 = some i ∧ i.size = 1 := by
   have h := zDe
   cases hi : Try.prog.info? 5 with
   | none => rw [hi] at h; cases h
   | some i => rw [hi] at h; simp only [Option.map_some, Option.some.injEq, Prod.mk.injEq] at h; exact ⟨i, rfl, h.2.1⟩
  have hlen : (bys bs).length = n := by rw [zBm]; exact hn
  have hmn := hok.2
  obtain ⟨A', hsl, hrd, -⟩ := zId (P := Try.prog) (Value.int .u8) (0 : Int) 85 5 .i64 .i64 Try.underlying85 hi5 hs5 A c (bys bs) (k : Int) ((k : Int) + (m : Int)) (by omega) (by omega) (by rw [hlen]; omega) (by rw [hlen]; exact hc)
  rw [show ((k : Int) + (m : Int)).toNat = k + m by omega, Int.toNat_natCast, bys_mid, hlen] at hsl hrd
  have hlm : (bys ((bs.drop k).take m)).length = m := by rw [zBm, List.length_take, List.length_drop]; omega
  rw [hlm] at hsl hrd
  have hCm : (Kd.int .u8).C w0 A' m (bys ((bs.drop k).take m)) := Kd.C_of_reads (d := (0 : Int)) (hrd w0 (by have := Kd.reads_of_C (enc := Value.int .u8) (d := (0 : Int)) (h1 := fun _ => rfl) hC0; rwa [hn] at this))
  obtain ⟨tx, etx⟩ : ∃ t : ByteArray, (⟨((bs.drop k).take m).toArray⟩ : ByteArray) = t := ⟨_, rfl⟩
  have HCV := zH (fun (W : World) (h : Below w0.heap.size w0 W) => (by
   have h2 := Kd.C_string (P := Try.prog) (c := c - k) Try.underlying85 Try.underlying5 Try.underlying9 (Kd.C_below hCm h)
   rw [zFx, etx] at h2
   exact h2 : Sem.run Try.prog (convert 85 9 (.slice A' m (c - k))) W = .ok (.string tx) W))
  have HQ := zH (show Q = some ((bs.drop k).take m, (bs.drop k).drop m) from by rw [hQ', ← hp3, ek])
  have HTX := zH etx
  obtain ⟨k2, ek2, ek2I⟩ : ∃ k2 : Nat, k2 = k + m ∧ (k : Int) + (m : Int) = (k2 : Int) := ⟨k + m, rfl, by omega⟩
  have HK2 := zH (show (n : Int) - (((bs.drop k).drop m).length : Nat) = (k2 : Int) from by rw [List.length_drop, List.length_drop]; omega)
  have hk2 : k2 ≤ n := by omega
  rw [ek2I] at hsl
  have hw2 : IntKind.i64.wrap ((k : Int) + (m : Int)) = (k2 : Int) := by rw [ek2I, zAx]; unfold wrap64; omega
  have hwm : IntKind.i64.wrap (m : Int) = (m : Int) := by rw [zAx]; unfold wrap64; omega
  clear hB hS hC0 hq hQ hQ' hn hgq hp0 hp1 hp2 hp3 ek hkI hrl hok hrd hCm etx hlen hlm hi5 hs5 ek2
  go_enter Try.func130, Try.ntmps130
  go_wp2_with fail
  (with_reducible refine h1.out.mono ?_)
  rintro e w1 ⟨rfl, hB1, hK1, hS1⟩
  have HS := zH hS1
  have HB := zH hB1
  have HK := zH hK1
  clear hS1 hB1 hK1
  have g0 := HS.out.c0
  have g1 := HS.out.c1
  have g2 := HS.out.c2
  go_wp2
  go_quiet (fail)
  have HS2 := zH (HS.out.drewN nq)
  have HB2 := zH (zAd HB.out nq)
  have HKK := zH (zBl HK.out nq)
  clear g0 g1 g2
  generalize w1.drewN nq = W1 at HS2 HB2 HKK ⊢
  clear nq HS HB HK
  have g0 := HS2.out.c0
  have g1 := HS2.out.c1
  have hcv := fun q => HCV.out (W1.drewN q) (zAd HB2.out q)
  go_wp2
  go_quiet (fail)
  have HS := zH (HS2.out.drewN nq)
  have HB := zH (zAd HB2.out nq)
  have HK := zH (zBl HKK.out nq)
  clear g0 g1 hcv
  generalize W1.drewN nq = W2 at HS HB HK ⊢
  have g1 := HS.out.c1
  have z1 := HS.out.z1
  have HS3 := zH (HS.out.set1 (k2 : Int))
  have HB3 := zH (HB.out.setCell (p := ⟨g, 1, none⟩) hg (.int .i64 (k2 : Int)))
  have HK3 := zH (HK.out.set_ 1 (.int .i64 (k2 : Int)))
  go_wp2
  go_ret
  exact ⟨HB3.out, HK3.out, Or.inr ⟨_, _, HQ.out, by rw [HTX.out]; rfl, by rw [HK2.out]; exact HS3.out⟩⟩
 rw [if_neg hok] at hQ'
 have HN := zH hQ'
 have hcase : Hid (decide ((most : Int) < (m : Int)) = true ∧ decide (most < m) = true) ∨ Hid (decide ((most : Int) < (m : Int)) = false ∧ decide (most < m) = false ∧ decide ((n : Int) - (k : Int) < (m : Int)) = true) := by
  by_cases h : m ≤ most
  ·exact Or.inr (zH ⟨zF (by omega), zF (by omega), zT (by omega)⟩)
  exact Or.inl (zH ⟨zT (by omega), zT (by omega)⟩)
 clear hB hS hC0 hq hQ hQ' hn hgq hp0 hp1 hp2 hp3 ek hkI hrl hok
 go_enter Try.func130, Try.ntmps130
 go_wp2_with fail
 (with_reducible refine h1.out.mono ?_)
 rintro e w1 ⟨rfl, hB1, hK1, hS1⟩
 have HS := zH hS1
 have HB := zH hB1
 have HK := zH hK1
 clear hS1 hB1 hK1
 have g0 := HS.out.c0
 have g1 := HS.out.c1
 have g2 := HS.out.c2
 rcases hcase with t1 | t12
 ·obtain ⟨t1', t1n⟩ := t1.out
  go_wp2
  go_quiet (fail)
  have HS := zH (HS.out.drewN nq)
  have HB := zH (zAd HB.out nq)
  have HK := zH (zBl HK.out nq)
  clear g0 g1 g2
  generalize w1.drewN nq = W1 at HS HB HK ⊢
  have g2 := HS.out.c2
  have z2 := HS.out.z2
  have HS2 := zH (HS.out.set2 true)
  have HB2 := zH (HB.out.setCell (p := ⟨g, 2, none⟩) hg (.bool true))
  have HK2 := zH (HK.out.set_ 2 (.bool true))
  go_wp2
  go_ret
  exact ⟨HB2.out, HK2.out, Or.inl ⟨HN.out, rfl, _, HS2.out⟩⟩
 obtain ⟨t1', t1n, t2'⟩ := t12.out
 go_wp2
 go_quiet (fail)
 have HS := zH (HS.out.drewN nq)
 have HB := zH (zAd HB.out nq)
 have HK := zH (zBl HK.out nq)
 clear g0 g1 g2
 generalize w1.drewN nq = W1 at HS HB HK ⊢
 have g2 := HS.out.c2
 have z2 := HS.out.z2
 have HS2 := zH (HS.out.set2 true)
 have HB2 := zH (HB.out.setCell (p := ⟨g, 2, none⟩) hg (.bool true))
 have HK2 := zH (HK.out.set_ 2 (.bool true))
 go_wp2
 go_ret
 exact ⟨HB2.out, HK2.out, Or.inl ⟨HN.out, rfl, _, HS2.out⟩⟩
def IntPost (w0 w : World) (g : Nat) (A : Option Addr) (n c : Nat) (Q : Option (Nat × List UInt8)) (e : Ending) (w' : World) : Prop :=
 Below w0.heap.size w0 w' ∧ KeepBut w w' g none ∧
  ((Q = none ∧ e = .returned (.int .i64 0) ∧ ∃ i, RB w' g A n c i true) ∨ ∃ v r, Q = some (v, r) ∧ e = .returned (.int .i64 (zag v)) ∧ RB w' g A n c ((n : Int) - (r.length : Nat)) false)
theorem rint121 (w0 w : World) (g : Nat) (A : Option Addr) (n c : Nat) (bs : List UInt8) (at_ : Int) (b : Bool) (hn : bs.length = n) (hl : n ≤ 1000000000000000) (hg : w0.heap.size ≤ g) (hB : Below w0.heap.size w0 w) (hS : RB w g A n c at_ b) (hC0 : (Kd.int .u8).C w0 A bs.length (bys bs)) :
  Calls Try.prog 121 #[.pointer (some ⟨g, 0, none⟩)] w (IntPost w0 w g A n c (numW b bs at_)) := by
 obtain ⟨Q, hQ⟩ : ∃ Q, numW b bs at_ = Q := ⟨_, rfl⟩
 rw [hQ]
 cases Q with
 | none =>
  have h1 := zH (zHq w0 w g A n c bs at_ b hQ hn hl hg hB hS hC0)
  clear hB hS hC0 hQ hn
  go_enter Try.func121, Try.ntmps121
  go_wp2_with fail
  (with_reducible refine h1.out.mono ?_)
  rintro e w1 ⟨rfl, hB1, hK1, i1, hS1⟩
  go_wp2
  go_ret
  exact ⟨hB1, hK1, Or.inl ⟨rfl, rfl, _, hS1⟩⟩
 | some q =>
 obtain ⟨v, r⟩ := q
 obtain ⟨rfl, hgq⟩ := zHp hQ
 obtain ⟨hp0, hp1, hp2, hp3, hp4⟩ := zCk hgq
 obtain ⟨k, hkI⟩ : ∃ k : Nat, (n : Int) - (r.length : Nat) = (k : Int) := ⟨n - r.length, by omega⟩
 have h1 := zH (zEd w0 w g A n c bs at_ false v k r hQ hkI hn hl hg hB hS hC0)
 have HKI := zH hkI
 obtain ⟨z, hz⟩ : ∃ z, zag v = z := ⟨_, rfl⟩
 by_cases hv2 : v % 2 = 1
 ·obtain ⟨h, hh⟩ : ∃ h, v / 2 = h := ⟨_, rfl⟩
  have t1 : ((v : Int) % 2 == 1) = true := by rw [beq_iff_eq]; omega
  have t2 : (v : Int) / 2 = (h : Int) := by omega
  have hh2 : h < 9223372036854775808 := by omega
  have HZ := zH (show zag v = -(h : Int) - 1 from by unfold zag; rw [if_pos hv2, hh])
  clear hB hS hC0 hQ hn hgq hp0 hp1 hp2 hp3 hkI hz hv2 hh
  go_enter Try.func121, Try.ntmps121
  go_wp2_with fail
  (with_reducible refine h1.out.mono ?_)
  rintro e w1 ⟨rfl, hB1, hK1, hS1⟩
  go_wp2
  go_ret
  exact ⟨hB1, hK1, Or.inr ⟨v, r, rfl, by rw [HZ.out]; first | rfl | (simp; done), by rw [HKI.out]; exact hS1⟩⟩
 obtain ⟨h, hh⟩ : ∃ h, v / 2 = h := ⟨_, rfl⟩
 have t1 : ((v : Int) % 2 == 1) = false := by rw [beq_eq_false_iff_ne]; omega
 have t2 : (v : Int) / 2 = (h : Int) := by omega
 have hh2 : h < 9223372036854775808 := by omega
 have HZ := zH (show zag v = (h : Int) from by unfold zag; rw [if_neg hv2, hh])
 clear hB hS hC0 hQ hn hgq hp0 hp1 hp2 hp3 hkI hz hv2 hh
 go_enter Try.func121, Try.ntmps121
 go_wp2_with fail
 (with_reducible refine h1.out.mono ?_)
 rintro e w1 ⟨rfl, hB1, hK1, hS1⟩
 go_wp2
 go_ret
 exact ⟨hB1, hK1, Or.inr ⟨v, r, rfl, by rw [HZ.out]; first | rfl | (simp; done), by rw [HKI.out]; exact hS1⟩⟩
end
end
end Go.Proofs.Yteafilojjdfllaa
end
section
namespace Go.Proofs.Yteafilojjdfllaa
open Go Go.RowKit Go.Proofs.YteafilojjdfllaaW.PrintWords Go.Proofs.YteafilojjdfllaaW.PrintLast Go.Proofs.YteafilojjdfllaaW.PrintMore Go.Proofs.Yteafilojjdfllaa.PAll
section
def badP : List PanicEntry := [{ v := .iface 198 (.agg #[]), recovered := false }]
def RD (W : World) (g : Nat) (A : Option Addr) (n c : Nat) (i k : Int) : Prop := W.heap[g]? = some (.cells #[.slice A n c, .int .i64 i, .int .i64 k] 164 (0, 0))
section
variable {W X : World} {g : Nat} {A : Option Addr} {n c : Nat} {i k : Int}
theorem RD.c0 (h : RD W g A n c i k) : W.cell? ⟨g, 0, none⟩ = some (.slice A n c) := (zAb h 0).trans rfl
theorem RD.c1 (h : RD W g A n c i k) : W.cell? ⟨g, 1, none⟩ = some (.int .i64 i) := (zAb h 1).trans rfl
theorem RD.c2 (h : RD W g A n c i k) : W.cell? ⟨g, 2, none⟩ = some (.int .i64 k) := (zAb h 2).trans rfl
theorem RD.z1 (h : RD W g A n c i k) : W.frozen? ⟨g, 1, none⟩ = false := zAa h 1
theorem RD.z2 (h : RD W g A n c i k) : W.frozen? ⟨g, 2, none⟩ = false := zAa h 2
theorem RD.lt (h : RD W g A n c i k) : g < W.heap.size := (Array.getElem?_eq_some_iff.1 h).1
theorem RD.set1 (h : RD W g A n c i k) (j : Int) : RD (W.setCell ⟨g, 1, none⟩ (.int .i64 j)) g A n c j k := by simpa [RD] using zAn h 1 (.int .i64 j)
theorem RD.set2 (h : RD W g A n c i k) (j : Int) : RD (W.setCell ⟨g, 2, none⟩ (.int .i64 j)) g A n c i j := by simpa [RD] using zAn h 2 (.int .i64 j)
theorem RD.below (h : RD W g A n c i k) (hb : Below W.heap.size W X) : RD X g A n c i k := (hb.block g h.lt).trans h
theorem RD.drewN (h : RD W g A n c i k) (m : Nat) : RD (W.drewN m) g A n c i k := h
end
def RDPost (w0 w : World) (g : Nat) (A : Option Addr) (n c : Nat) (k : Int) (Q : Option (Value × List UInt8)) (e : Ending) (w' : World) : Prop :=
 Below w0.heap.size w0 w' ∧ KeepBut w w' g none ∧
  ((Q = none ∧ e = .panicked badP) ∨ ∃ v r, Q = some (v, r) ∧ e = .returned v ∧ RD w' g A n c ((n : Int) - (r.length : Nat)) k)
def zDb (most : Nat) (bs : List UInt8) (i : Int) : Option (Value × List UInt8) := match getW bs i with
 | none => none
 | some (v, r) => if v ≤ most then some (.int .i64 (v : Nat), r) else none
def rdTxt (most : Nat) (bs : List UInt8) (i : Int) : Option (Value × List UInt8) := (textW most bs i).map fun q => (.string ⟨q.1.toArray⟩, q.2)
theorem zCp (w0 w : World) (g : Nat) (A : Option Addr) (n c : Nat) (bs : List UInt8) (at_ k : Int) (most : Nat) (mz : Int) (hmz : mz = (most : Int)) (hm : most ≤ 1000000) (hn : bs.length = n) (hl : n ≤ 1000000000000000) (hg : w0.heap.size ≤ g) (hB : Below w0.heap.size w0 w) (hS : RD w g A n c at_ k) (hC0 : (Kd.int .u8).C w0 A bs.length (bys bs)) :
  Calls Try.prog 172 #[.pointer (some ⟨g, 0, none⟩), .int .u64 mz] w (RDPost w0 w g A n c k (zDb most bs at_)) := by
 subst hmz
 obtain ⟨Q, hQ⟩ : ∃ Q, zDb most bs at_ = Q := ⟨_, rfl⟩
 rw [hQ]
 have HC := zH (fun m => Kd.C_below hC0 (zAd hB m))
 have HS := zH hS
 have HB := zH hB
 have g0 := hS.c0
 have g1 := hS.c1
 have z1 := hS.z1
 unfold zDb at hQ
 cases hq : getW bs at_ with
 | none =>
  rw [hq] at hQ
  have H1 := zH (fun m => get116n (w.drewN m) A n c bs at_ hq hn hl (HC.out m))
  have HQ := zH hQ.symm
  clear hQ hq hn hB hS hC0
  go_enter Try.func172, Try.ntmps172
  go_wp2
  go_quiet (first | (go_at_call 116; exact Calls.quiet_of_same (H1.out _)))
  go_wp2
  refine ⟨rfl, zAd HB.out nq, zBl (KeepBut.refl w g none) nq, Or.inl ⟨HQ.out, rfl⟩⟩
 | some q =>
 obtain ⟨v, r⟩ := q
 rw [hq] at hQ
 simp only at hQ
 obtain ⟨hp0, hp1, hp2, hp3, hp4⟩ := zCk hq
 obtain ⟨j, hj⟩ : ∃ j : Nat, (n : Int) - (r.length : Nat) = (j : Int) := ⟨n - r.length, by omega⟩
 have H1 := zH (fun m => get116y (w.drewN m) A n c bs at_ v j r hq hj hn hl (HC.out m))
 have HJ := zH hj
 have HQ := zH hQ.symm
 clear hQ hq hn hB hS hC0 hp0 hp1 hp2 hp3 hj
 by_cases hv : v ≤ most
 ·have t1 : ¬ (most : Int) < (v : Int) := by omega
  have t2 : decide ((most : Int) < (v : Int)) = false := zF t1
  have hw1 : IntKind.i64.wrap (v : Int) = (v : Int) := by rw [IntKind.wrap_i64]; omega
  go_enter Try.func172, Try.ntmps172
  go_wp2
  go_quiet (first | (go_at_call 116; exact Calls.quiet_of_same (H1.out _)))
  go_wp2
  go_ret
  refine ⟨(zAd HB.out nq).setCell hg _, (zBl (KeepBut.refl w g none) nq).set_ _ _, Or.inr ⟨_, r, (HQ.out.trans (if_pos hv)), by first | rfl | (go_simp; rfl), ?_⟩⟩
  rw [HJ.out]
  exact (HS.out.drewN nq).set1 j
 have t1 : (most : Int) < (v : Int) := by omega
 have t2 : decide ((most : Int) < (v : Int)) = true := zT t1
 go_enter Try.func172, Try.ntmps172
 go_wp2
 go_quiet (first | (go_at_call 116; exact Calls.quiet_of_same (H1.out _)))
 go_wp2
 refine ⟨rfl, zAd HB.out nq, zBl (KeepBut.refl w g none) nq, Or.inl ⟨HQ.out.trans (if_neg hv), rfl⟩⟩
theorem zFv (w0 w : World) (g : Nat) (A : Option Addr) (n c : Nat) (bs : List UInt8) (at_ k : Int) (most : Nat) (mz : Int) (hmz : mz = (most : Int)) (hm : most ≤ 1000000) (hn : bs.length = n) (hc : n ≤ c) (hl : n ≤ 1000000000000000) (hg : w0.heap.size ≤ g) (hB : Below w0.heap.size w0 w) (hS : RD w g A n c at_ k) (hC0 : (Kd.int .u8).C w0 A bs.length (bys bs)) :
  Calls Try.prog 173 #[.pointer (some ⟨g, 0, none⟩), .int .i64 mz] w (RDPost w0 w g A n c k (rdTxt most bs at_)) := by
 subst hmz
 obtain ⟨Q, hQ⟩ : ∃ Q, rdTxt most bs at_ = Q := ⟨_, rfl⟩
 rw [hQ]
 have h0 := fun W (hb : Below w0.heap.size w0 W) => getText128 W A n c bs at_ most hn hc hl hm (Kd.C_below hC0 hb)
 have HS := zH hS
 have HB := zH hB
 have f0 := fun W (hb : Below w.heap.size w W) => zAf hb hS.c0
 have f1 := fun W (hb : Below w.heap.size w W) => zAf hb hS.c1
 unfold rdTxt at hQ
 cases hq : textW most bs at_ with
 | none =>
  rw [hq] at hQ h0
  have H0 : Hid (∀ W, Below w0.heap.size w0 W → Calls Try.prog 128 #[.slice A n c, .int .i64 at_, .int .i64 most] W fun e w' => e = .returned (.tuple #[.string ⟨#[]⟩, .int .i64 0, .bool false]) ∧ Below W.heap.size W w') := zH h0
  have HQ := zH hQ.symm
  clear hQ hq hn hB hS hC0 h0
  go_enter Try.func173, Try.ntmps173
  go_wp2_with fail
  go_region_held3 (fun W => Below w.heap.size w W)
   (first | exact zAr (Below.refl _ _) | exact HK.out)
   (first | (go_at_call 128; (with_reducible refine (H0.out _ (zAe HB.out (by assumption))).mono ?_); rintro e w5 ⟨rfl, hb5⟩; have HK := zH (show Below w.heap.size w w5 from zAe (by assumption) hb5); clear hb5))
  go_wp2
  refine ⟨rfl, zAe HB.out HK.out, KeepBut.of_below HK.out g none, Or.inl ⟨HQ.out, rfl⟩⟩
 | some q =>
 obtain ⟨t, r⟩ := q
 rw [hq] at hQ h0
 obtain ⟨j, hj⟩ : ∃ j : Int, (n : Int) - (r.length : Nat) = j := ⟨_, rfl⟩
 obtain ⟨x, hx⟩ : ∃ x : ByteArray, (⟨t.toArray⟩ : ByteArray) = x := ⟨_, rfl⟩
 have H0 : Hid (∀ W, Below w0.heap.size w0 W → Calls Try.prog 128 #[.slice A n c, .int .i64 at_, .int .i64 most] W fun e w' => e = .returned (.tuple #[.string x, .int .i64 j, .bool true]) ∧ Below W.heap.size W w') := zH (by rw [← hj, ← hx]; exact h0)
 have HJ := zH hj
 have HQ := zH (show Q = some (.string x, r) from by rw [← hx]; exact hQ.symm)
 clear hQ hq hn hB hS hC0 h0 hj hx
 go_enter Try.func173, Try.ntmps173
 go_wp2_with fail
 go_region_held3 (fun W => Below w.heap.size w W)
  (first | exact zAr (Below.refl _ _) | exact HK.out)
  (first | (go_at_call 128; (with_reducible refine (H0.out _ (zAe HB.out (by assumption))).mono ?_); rintro e w5 ⟨rfl, hb5⟩; have HK := zH (show Below w.heap.size w w5 from zAe (by assumption) hb5); clear hb5))
 have HS5 := zH (HS.out.below HK.out)
 have HB5 := zH (zAe HB.out HK.out)
 have z1 := HS5.out.z1
 have g1 := HS5.out.c1
 clear f0 f1
 go_wp2
 go_ret
 refine ⟨HB5.out.setCell hg _, (KeepBut.of_below HK.out g none).set_ _ _, Or.inr ⟨_, r, HQ.out, rfl, ?_⟩⟩
 rw [HJ.out]
 exact HS5.out.set1 j
end
end Go.Proofs.Yteafilojjdfllaa
end
