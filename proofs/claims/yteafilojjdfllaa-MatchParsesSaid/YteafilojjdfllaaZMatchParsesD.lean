/- A part of the proof of MatchParses. No condition. -/
import Derived.Lib.Strings
import Derived.Lib.Slices
import Derived.Lib.Walk
import Derived.Lib.Bytealg
import Derived.Deep.CutBlock
import Derived.Lib.Hide
import Derived.Test.YteafilojjdfllaaZMatchParsesC
section
namespace Go.Proofs.Yteafilojjdfllaa
section
open Go Go.RowKit Go.Proofs.YteafilojjdfllaaW.PrintWords Go.Proofs.YteafilojjdfllaaW.PrintLast Go.Proofs.YteafilojjdfllaaW.PrintMore Go.Proofs.Yteafilojjdfllaa.PAll
set_option linter.unusedVariables false
set_option linter.unusedSimpArgs false
/-- the reader's block -/
def SB (W : World) (g : Nat) (s : ByteArray) (i : Nat) (b : Bool) : Prop := W.heap[g]? = some (.cells #[.string s, .int .i64 (i : Int), .bool b] 159 (0, 0))
section
variable {W X : World} {g : Nat} {s : ByteArray} {i : Nat} {b : Bool}
theorem SB.c0 (h : SB W g s i b) : W.cell? ⟨g, 0, none⟩ = some (.string s) := (blk_cell h 0).trans rfl
theorem SB.c1 (h : SB W g s i b) : W.cell? ⟨g, 1, none⟩ = some (.int .i64 (i : Int)) := (blk_cell h 1).trans rfl
theorem SB.c2 (h : SB W g s i b) : W.cell? ⟨g, 2, none⟩ = some (.bool b) := (blk_cell h 2).trans rfl
theorem SB.z1 (h : SB W g s i b) : W.frozen? ⟨g, 1, none⟩ = false := blk_frozen h 1
theorem SB.z2 (h : SB W g s i b) : W.frozen? ⟨g, 2, none⟩ = false := blk_frozen h 2
theorem SB.lt (h : SB W g s i b) : g < W.heap.size := (Array.getElem?_eq_some_iff.1 h).1
theorem SB.set1 (h : SB W g s i b) (j : Nat) : SB (W.setCell ⟨g, 1, none⟩ (.int .i64 (j : Int))) g s j b := by simpa [SB] using blk_set h 1 (.int .i64 (j : Int))
theorem SB.set2 (h : SB W g s i b) (c : Bool) : SB (W.setCell ⟨g, 2, none⟩ (.bool c)) g s i c := by simpa [SB] using blk_set h 2 (.bool c)
theorem SB.below (h : SB W g s i b) (hb : Below W.heap.size W X) : SB X g s i b := (hb.block g h.lt).trans h
theorem SB.alloc (h : SB W g s i b) (o : Obj) : SB (W.alloc o) g s i b := h.below (below_alloc (Below.refl _ _) o)
theorem SB.drewN (h : SB W g s i b) (n : Nat) : SB (W.drewN n) g s i b := h
theorem SB.drew (h : SB W g s i b) : SB W.drew g s i b := h
end
/-- how a step of the reader ends -/
def SPost (w0 w : World) (g : Nat) (s : ByteArray) (i : Nat) (b : Bool) (v : Value) (e : Ending) (w' : World) : Prop :=
 e = .returned v ∧ Below w0.heap.size w0 w' ∧ KeepBut w w' g none ∧ SB w' g s i b
theorem dig_at : ∀ n : Fin 16, (⟨#[48, 49, 50, 51, 52, 53, 54, 55, 56, 57, 97, 98, 99, 100, 101, 102]⟩ : ByteArray).data.toList.getD n.val 0 = hexD n.val := by decide +kernel
theorem hexV_inv_fin : ∀ n : Fin 256, 0 ≤ hexV n.val.toUInt8 → hexD (hexV n.val.toUInt8).toNat = n.val.toUInt8 := by decide +kernel
theorem hexV_inv (c : UInt8) (h : 0 ≤ hexV c) : hexD (hexV c).toNat = c := by
 have h1 := hexV_inv_fin ⟨c.toNat, c.toNat_lt⟩
 simp only [show c.toNat.toUInt8 = c from by simp] at h1
 exact h1 h
def hexRet (c : UInt8) : Value := if hexV c < 0 then .tuple #[.int .u8 0, .bool false] else .tuple #[.int .u8 (hexV c), .bool true]
set_option maxRecDepth 100000 in
set_option maxHeartbeats 4000000 in
/-- hex. -/
theorem hex170 (w : World) (c : UInt8) : Calls Try.prog 170 #[.int .u8 (c.toNat : Int)] w fun e w' => e = .returned (hexRet c) ∧ ∃ m, w' = w.drewN m := by
 go_enter Try.func170, Try.ntmps170
 go_wp2
 go_loopw [4] (fun u4 wr => ∃ (j : Nat), u4 = .int .i64 j ∧ j ≤ 16 ∧ Hid (∀ i, i < j → hexD i ≠ c) ∧ wr = w)
  (fun u4 _ => 16 - (intOf u4).toNat)
 case atStart => exact ⟨0, rfl, Nat.zero_le _, Lib.hid (fun i hi => absurd hi (Nat.not_lt_zero i)), rfl⟩
 case round =>
  obtain ⟨j, rfl, hj, HN, rfl⟩ := hrel
  by_cases hlt : j < 16
  ·have hx : ∀ h : j < (⟨#[48, 49, 50, 51, 52, 53, 54, 55, 56, 57, 97, 98, 99, 100, 101, 102]⟩ : ByteArray).size, (((⟨#[48, 49, 50, 51, 52, 53, 54, 55, 56, 57, 97, 98, 99, 100, 101, 102]⟩ : ByteArray)[j]'h).toNat : Int) = ((hexD j).toNat : Int) := bN_at _ j _ (dig_at ⟨j, hlt⟩)
   by_cases e : hexD j = c
   ·have hv : hexV c = (j : Int) := by rw [← e]; exact hexV_hexD ⟨j, hlt⟩
    have HR := Lib.hid (show hexRet c = .tuple #[.int .u8 (j : Int), .bool true] from by unfold hexRet; rw [hv, if_neg (by omega)])
    have b1 : (((hexD j).toNat : Int) == (c.toNat : Int)) = true := by rw [e]; exact beq_self_eq_true _
    have b2 : (j : Int) % 256 = (j : Int) := by omega
    clear e hv
    go_wp2
    go_ret2
    exact ⟨by rw [HR.out]; first | rfl | simp [*], 0, rfl⟩
   ·have b1 : (((hexD j).toNat : Int) == (c.toNat : Int)) = false := beq_eq_false_iff_ne.2 (fun h => e (UInt8.toNat_inj.1 (by omega)))
    have HE := Lib.hid e
    clear e
    go_wp2
    go_roundw
    case rel => exact ⟨j + 1, by go_num, by omega, Lib.hid (fun i hi => by rcases Nat.lt_succ_iff_lt_or_eq.1 hi with h | rfl; exact HN.out i h; exact HE.out), by first | rfl | trivial⟩
    case measure => simp [intOf]; omega
  ·obtain rfl : j = 16 := by omega
   have HR := Lib.hid (show hexRet c = .tuple #[.int .u8 0, .bool false] from by
    unfold hexRet
    by_cases h : hexV c < 0
    ·rw [if_pos h]
    ·exact absurd (hexV_inv c (by omega)) (HN.out _ (by have := (hexV_range c).2; omega)))
   go_wp2
   go_ret2
   exact ⟨by rw [HR.out]; rfl, 0, rfl⟩
/-- the reader moves on -/
theorem SPost.moved {w0 w : World} {g : Nat} {s : ByteArray} {i j : Nat} {b : Bool} {v : Value} {m : Nat} (hB : Below w0.heap.size w0 w) (hg : w0.heap.size ≤ g) (hS : SB w g s i b) : SPost w0 w g s j b v (.returned v) ((w.drewN m).setCell ⟨g, 1, none⟩ (.int .i64 (j : Int))) :=
 ⟨rfl, (pw_below_drewN hB m).setCell hg _, (keep_drewN (KeepBut.refl w g none) m).set_ 1 _, (hS.drewN m).set1 j⟩
def isAt (s : ByteArray) (i : Nat) (b : Bool) (c : UInt8) : Bool := !b && decide (i < s.size) && (bN s i == c)
set_option maxRecDepth 100000 in
set_option maxHeartbeats 8000000 in
/-- Is. -/
theorem is169 (w0 w : World) (g : Nat) (s : ByteArray) (i : Nat) (b : Bool) (c : UInt8) (hi : i ≤ s.size) (hs : s.size ≤ 1000000000) (hg : w0.heap.size ≤ g) (hB : Below w0.heap.size w0 w) (hS : SB w g s i b) :
  Calls Try.prog 169 #[.pointer (some ⟨g, 0, none⟩), .int .u8 (c.toNat : Int)] w (SPost w0 w g s (if isAt s i b c = true then i + 1 else i) b (.bool (isAt s i b c))) := by
 have c0 := hS.c0
 have c1 := hS.c1
 have c2 := hS.c2
 have HS := Lib.hid hS
 have HB := Lib.hid hB
 clear hS hB
 cases b with
 | true =>
  rw [show isAt s i true c = false from rfl, if_neg (by decide)]
  go_enter Try.func169, Try.ntmps169
  go_wp2
  go_quiet (fail)
  go_wp2
  go_ret
  exact ⟨rfl, pw_below_drewN HB.out _, keep_drewN (KeepBut.refl w g none) _, HS.out.drewN _⟩
 | false =>
  by_cases hlt : i < s.size
  ·obtain ⟨x, hx⟩ : ∃ x, bN s i = x := ⟨_, rfl⟩
   have hx0 := bN_at s i x hx
   have d1 : decide (s.size ≤ i) = false := decide_eq_false (by omega)
   have d2 : decide ((s.size : Int) ≤ (i : Int)) = false := decide_eq_false (by omega)
   by_cases e : x = c
   ·have hv : isAt s i false c = true := by unfold isAt; rw [hx, e, decide_eq_true hlt]; simp
    rw [hv, if_pos rfl]
    have b1 : ((x.toNat : Int) == (c.toNat : Int)) = true := by rw [e]; exact beq_self_eq_true _
    have b2 : ((x.toNat : Int) != (c.toNat : Int)) = false := by simp [bne, b1]
    clear hx e hv
    go_enter Try.func169, Try.ntmps169
    go_wp2
    go_quiet (fail)
    have f1 := (HS.out.drewN nq).c1
    have f2 := (HS.out.drewN nq).z1
    go_wp2
    go_ret
    exact SPost.moved (j := i + 1) HB.out hg HS.out
   ·have hv : isAt s i false c = false := by unfold isAt; rw [hx, show (x == c) = false from beq_eq_false_iff_ne.2 e]; simp
    rw [hv, if_neg (by decide)]
    have b1 : ((x.toNat : Int) == (c.toNat : Int)) = false := beq_eq_false_iff_ne.2 (fun h => e (UInt8.toNat_inj.1 (by omega)))
    have b2 : ((x.toNat : Int) != (c.toNat : Int)) = true := by simp [bne, b1]
    clear hx e hv
    go_enter Try.func169, Try.ntmps169
    go_wp2
    go_quiet (fail)
    go_wp2
    go_ret
    exact ⟨rfl, pw_below_drewN HB.out _, keep_drewN (KeepBut.refl w g none) _, HS.out.drewN _⟩
  ·have hv : isAt s i false c = false := by unfold isAt; rw [decide_eq_false hlt]; simp
   rw [hv, if_neg (by decide)]
   have d1 : decide (s.size ≤ i) = true := decide_eq_true (by omega)
   have d2 : decide ((s.size : Int) ≤ (i : Int)) = true := decide_eq_true (by omega)
   clear hv
   go_enter Try.func169, Try.ntmps169
   go_wp2
   go_quiet (fail)
   go_wp2
   go_ret
   exact ⟨rfl, pw_below_drewN HB.out _, keep_drewN (KeepBut.refl w g none) _, HS.out.drewN _⟩
set_option maxRecDepth 100000 in
set_option maxHeartbeats 8000000 in
/-- Must. -/
theorem must135 (w0 w : World) (g : Nat) (s : ByteArray) (i : Nat) (b : Bool) (c : UInt8) (hi : i ≤ s.size) (hs : s.size ≤ 1000000000) (hg : w0.heap.size ≤ g) (hB : Below w0.heap.size w0 w) (hS : SB w g s i b) :
  Calls Try.prog 135 #[.pointer (some ⟨g, 0, none⟩), .int .u8 (c.toNat : Int)] w (SPost w0 w g s (if isAt s i b c = true then i + 1 else i) (!isAt s i b c) (.tuple #[])) := by
 have h := Lib.hid (is169 w0 w g s i b c hi hs hg hB hS)
 have hbi : isAt s i b c = true → b = false := fun h => by unfold isAt at h; cases b <;> simp_all
 clear hS
 cases hv : isAt s i b c with
 | true =>
  have hb := hbi hv
  subst hb
  rw [hv] at h
  go_enter Try.func135, Try.ntmps135
  go_wp2_with fail
  (with_reducible refine h.out.mono ?_)
  rintro e w1 ⟨rfl, hB1, hK1, hS1⟩
  go_wp2
  go_end0
  exact ⟨rfl, hB1, hK1, hS1⟩
 | false =>
  rw [hv] at h
  go_enter Try.func135, Try.ntmps135
  go_wp2_with fail
  (with_reducible refine h.out.mono ?_)
  rintro e w1 ⟨rfl, hB1, hK1, hS1⟩
  have f2 := hS1.c2
  have z2 := hS1.z2
  go_wp2
  go_end0
  exact ⟨rfl, hB1.setCell hg _, hK1.set_ 2 _, hS1.set2 true⟩
end
section
open Go Go.RowKit Go.Proofs.YteafilojjdfllaaW.PrintWords Go.Proofs.YteafilojjdfllaaW.PrintLast Go.Proofs.YteafilojjdfllaaW.PrintMore Go.Proofs.Yteafilojjdfllaa.PAll
set_option linter.unusedVariables false
set_option linter.unusedSimpArgs false
theorem span_next {s : ByteArray} {i j : Nat} {c : UInt8} (hij : i ≤ j) (hj : j < s.size) (hx : bN s j = c) (hc : nameC c = true) (h : (s.data.toList.drop i).takeWhile nameC = (s.data.toList.drop i).take (j - i) ++ (s.data.toList.drop j).takeWhile nameC) :
  (s.data.toList.drop i).takeWhile nameC = (s.data.toList.drop i).take (j + 1 - i) ++ (s.data.toList.drop (j + 1)).takeWhile nameC := by
 have hl : j - i < (s.data.toList.drop i).length := by rw [List.length_drop]; simp; omega
 have hg : (s.data.toList.drop i)[j - i]'hl = c := by
  rw [List.getElem_drop]
  rw [← hx, bN, List.getD_eq_getElem?_getD]
  simp only [show i + (j - i) = j by omega]
  rw [List.getElem?_eq_getElem (by simpa using hj)]
  rfl
 rw [h, show j + 1 - i = (j - i) + 1 by omega, List.take_succ_eq_append_getElem hl, hg, bN_drop s j hj, hx, List.takeWhile_cons, if_pos hc]
 simp
theorem measS {W W' : World} {g n j : Nat} (h : j < n) (c1 : W.cell? ⟨g, 1, none⟩ = some (.int .i64 (j : Int))) (c2 : W'.cell? ⟨g, 1, none⟩ = some (.int .i64 ((j + 1 : Nat) : Int))) : n - (intOf ((W'.cell? ⟨g, 1, none⟩).getD undef)).toNat < n - (intOf ((W.cell? ⟨g, 1, none⟩).getD undef)).toNat := by
 rw [c1, c2]
 show n - ((j + 1 : Nat) : Int).toNat < n - (j : Int).toNat
 omega
/-- a name read: its end -/
def nameEnd (s : ByteArray) (i : Nat) : Nat := i + ((s.data.toList.drop i).takeWhile nameC).length
theorem name_post {w0 w W : World} {g : Nat} {s : ByteArray} {i j : Nat} {b : Bool} (hij : i ≤ j) (hj : j ≤ s.size) (he : (s.data.toList.drop j).takeWhile nameC = []) (h : (s.data.toList.drop i).takeWhile nameC = (s.data.toList.drop i).take (j - i) ++ (s.data.toList.drop j).takeWhile nameC)
  (hB : Below w0.heap.size w0 W) (hK : KeepBut w W g none) (hS : SB W g s j b) :
  SPost w0 w g s (nameEnd s i) b (.string ⟨((s.data.toList.drop i).takeWhile nameC).toArray⟩) (.returned (.string (s.extract i j))) W := by
 rw [he, List.append_nil] at h
 have hl : ((s.data.toList.drop i).takeWhile nameC).length = j - i := by rw [h, List.length_take, List.length_drop]; simp; omega
 have hn : nameEnd s i = j := by unfold nameEnd; omega
 rw [hn]
 refine ⟨?_, hB, hK, hS⟩
 have := ext_take s i (j - i)
 rw [show i + (j - i) = j by omega] at this
 rw [this, h]
def pre (n k : Nat) : List Bool := List.replicate k true ++ List.replicate (n - k) false
section
variable {P : Program} {ops : Array Oper} {Q : Exit → Act → World → Prop} {S : World → Prop} {ds : List Nat} {T : Bool × List (List Nat × List Nat)}
theorem takeN {n k : Nat} {N : Option Tmp} {oi : Oper} {v : Value} {fuel : Nat} {a : Act} {w : World} (hT : rtab .any ops = T) (hi : ops[k]? = some oi) (hN : oi.dst = N) (hc : takeT T ds (pre n k) (pre n (k + 1)) k = true)
  (hQ : ∀ c a w, Q (.panic c) (a.put oi.dst v) w → Q (.panic c) a w) (hy : YieldsIf P ops S oi v a) (hS : S w) {a' : Act} (ha : a.put N v = a')
  (h : wpAnyLast P .any ops Q S ds fuel (pre n (k + 1)).toArray a' w) : wpAnyLast P .any ops Q S ds (fuel + 1) (pre n k).toArray a w :=
 take_ (pre n (k + 1)).toArray hi hN (take_of hT hc) hQ hy hS ha h
theorem pureN {n k : Nat} {N : Option Tmp} {oi : Oper} {v : Value} {fuel : Nat} {a : Act} {w : World} (hT : rtab .any ops = T) (hi : ops[k]? = some oi) (hN : oi.dst = N) (hc : anyT T (pre n k) (pre n (k + 1)) k = true)
  (hQ : ∀ c a w, Q (.panic c) (a.put oi.dst v) w → Q (.panic c) a w) (hy : Yields P ops oi v a) {a' : Act} (ha : a.put N v = a')
  (h : wpAnyLast P .any ops Q S ds fuel (pre n (k + 1)).toArray a' w) : wpAnyLast P .any ops Q S ds (fuel + 1) (pre n k).toArray a w :=
 pure_ (pre n (k + 1)).toArray hi hN (any_of hT hc) hQ hy ha h
end
noncomputable def tabN2 : Bool × List (List Nat × List Nat) := rtab .any (opsOf Try.f134 2)
theorem tabN2_eq : rtab .any (opsOf Try.f134 2) = tabN2 := rfl
set_option maxRecDepth 100000 in
set_option maxHeartbeats 60000000 in
/-- Name. -/
theorem name134 (w0 w : World) (g : Nat) (s : ByteArray) (i : Nat) (b : Bool) (hi : i ≤ s.size) (hs : s.size ≤ 1000000000) (hg : w0.heap.size ≤ g) (hB : Below w0.heap.size w0 w) (hS : SB w g s i b) :
    Calls Try.prog 134 #[.pointer (some ⟨g, 0, none⟩)] w (SPost w0 w g s (nameEnd s i) b (.string ⟨((s.data.toList.drop i).takeWhile nameC).toArray⟩)) := by
  have HS0 := Lib.hid hS
  have HB0 := Lib.hid hB
  have c1 := hS.c1
  clear hS hB
  go_enter Try.func134, Try.ntmps134
  go_wp2
  clear c1
  go_loopw [] (fun wr => ∃ (j : Nat), i ≤ j ∧ j ≤ s.size ∧ Hid ((s.data.toList.drop i).takeWhile nameC = (s.data.toList.drop i).take (j - i) ++ (s.data.toList.drop j).takeWhile nameC) ∧ Hid (SB wr g s j b) ∧ Hid (Below w0.heap.size w0 wr) ∧ Hid (KeepBut w wr g none))
    (fun wr => s.size - (intOf ((wr.cell? ⟨g, 1, none⟩).getD undef)).toNat)
  case atStart => exact ⟨i, Nat.le_refl _, hi, Lib.hid (by rw [Nat.sub_self]; rfl), HS0, HB0, Lib.hid (KeepBut.refl w g none)⟩
  case round =>
    obtain ⟨j, hij, hj, HT, HS, HB, HK⟩ := hrel
    have g0 := HS.out.c0
    have g1 := HS.out.c1
    by_cases hlt : j < s.size
    · have dl : decide (j < s.size) = true := decide_eq_true hlt
      have dlI : decide ((j : Int) < (s.size : Int)) = true := decide_eq_true (by omega)
      obtain ⟨c, hc⟩ : ∃ c, bN s j = c := ⟨_, rfl⟩
      have hx0 := bN_at s j c hc
      have HX := Lib.hid hc
      clear hc
      by_cases e95 : (c.toNat : Int) = 95
      · have b95 : ((c.toNat : Int) == 95) = true := beq_iff_eq.2 e95
        have HN2 := Lib.hid (show nameC c = true from by unfold nameC; exact decide_eq_true (by omega))
        go_wp2
        have f0 := fun W (hb : Below wr.heap.size wr W) => pw_cell_below hb g0
        have f1 := fun W (hb : Below wr.heap.size wr W) => pw_cell_below hb g1
        have hS0 : Below wr.heap.size wr wr.drew := below_drew (Below.refl _ _)
        refine start_ (n := 70) (S := fun w' => Below wr.heap.size wr w') (ds := []) (pre 70 0).toArray (by kernel_rfl) rfl rfl hS0 (fun hHeld => ?_)
        clear hS0
        generalize wr.drew = W at hHeld ⊢
        refine with_tab (T := tabN2) tabN2_eq (fun HT_ => ?_)
        iterate 70
          first
            | (refine pureN HT_.out (N := some _) (v := undef) (a' := ?_) rfl rfl (by kernel_rfl) (fun _ _ _ h => h) (Or.inr ⟨by rfl, by rfl⟩) ?_ ?_
               rotate_left
               · simp only [Act.put, List.setIfInBounds_toArray, List.set_cons_zero, List.set_cons_succ, i64_w, i32_w]
                 rfl)
            | (refine takeN HT_.out (N := some _) (v := ?_) (a' := ?_) rfl rfl (by kernel_rfl) (fun _ _ _ h => h) (Or.inl ⟨by rfl, ?_⟩) hHeld ?_ ?_
               rotate_left
               · intro w' hS'
                 have q0 := f0 w' hS'
                 have q1 := f1 w' hS'
                 go_simp
                 with_reducible rfl
               rotate_left
               · simp only [Act.put, List.setIfInBounds_toArray, List.set_cons_zero, List.set_cons_succ, i64_w, i32_w]
                 rfl)
        refine done_ (done_of HT_.out (by kernel_rfl)) ?_
        have HS1 := Lib.hid (HS.out.below hHeld)
        have HB1 := Lib.hid (below_step HB.out hHeld)
        have HK1 := Lib.hid (HK.out.trans (KeepBut.of_below hHeld g none) (.inl rfl))
        clear f0 f1
        have f1 := HS1.out.c1
        have f2 := HS1.out.z1
        have HS2 := Lib.hid (HS1.out.set1 (j + 1))
        have HB2 := Lib.hid (HB1.out.setCell (p := ⟨g, 1, none⟩) hg (.int .i64 ((j + 1 : Nat) : Int)))
        have HK2 := Lib.hid (HK1.out.set_ 1 (.int .i64 ((j + 1 : Nat) : Int)))
        go_wp2
        go_roundw
        case rel => exact ⟨j + 1, by omega, by omega, Lib.hid (span_next (by omega) hlt HX.out HN2.out HT.out), HS2, HB2, HK2⟩
        case measure => exact measS hlt HS.out.c1 HS2.out.c1
      · have b95 : ((c.toNat : Int) == 95) = false := beq_eq_false_iff_ne.2 e95
        by_cases e97 : (97 : Int) ≤ (c.toNat : Int)
        · have d97 : decide ((97 : Int) ≤ (c.toNat : Int)) = true := decide_eq_true e97
          have d97N : decide (97 ≤ c.toNat) = true := decide_eq_true (by omega)
          by_cases e122 : (c.toNat : Int) ≤ 122
          · have d122 : decide ((c.toNat : Int) ≤ 122) = true := decide_eq_true e122
            have d122N : decide (c.toNat ≤ 122) = true := decide_eq_true (by omega)
            have HN2 := Lib.hid (show nameC c = true from by unfold nameC; exact decide_eq_true (by omega))
            go_wp2
            have f0 := fun W (hb : Below wr.heap.size wr W) => pw_cell_below hb g0
            have f1 := fun W (hb : Below wr.heap.size wr W) => pw_cell_below hb g1
            have hS0 : Below wr.heap.size wr wr.drew := below_drew (Below.refl _ _)
            refine start_ (n := 70) (S := fun w' => Below wr.heap.size wr w') (ds := []) (pre 70 0).toArray (by kernel_rfl) rfl rfl hS0 (fun hHeld => ?_)
            clear hS0
            generalize wr.drew = W at hHeld ⊢
            refine with_tab (T := tabN2) tabN2_eq (fun HT_ => ?_)
            iterate 70
              first
                | (refine pureN HT_.out (N := some _) (v := undef) (a' := ?_) rfl rfl (by kernel_rfl) (fun _ _ _ h => h) (Or.inr ⟨by rfl, by rfl⟩) ?_ ?_
                   rotate_left
                   · simp only [Act.put, List.setIfInBounds_toArray, List.set_cons_zero, List.set_cons_succ, i64_w, i32_w]
                     rfl)
                | (refine takeN HT_.out (N := some _) (v := ?_) (a' := ?_) rfl rfl (by kernel_rfl) (fun _ _ _ h => h) (Or.inl ⟨by rfl, ?_⟩) hHeld ?_ ?_
                   rotate_left
                   · intro w' hS'
                     have q0 := f0 w' hS'
                     have q1 := f1 w' hS'
                     go_simp
                     with_reducible rfl
                   rotate_left
                   · simp only [Act.put, List.setIfInBounds_toArray, List.set_cons_zero, List.set_cons_succ, i64_w, i32_w]
                     rfl)
            refine done_ (done_of HT_.out (by kernel_rfl)) ?_
            have HS1 := Lib.hid (HS.out.below hHeld)
            have HB1 := Lib.hid (below_step HB.out hHeld)
            have HK1 := Lib.hid (HK.out.trans (KeepBut.of_below hHeld g none) (.inl rfl))
            clear f0 f1
            have f1 := HS1.out.c1
            have f2 := HS1.out.z1
            have HS2 := Lib.hid (HS1.out.set1 (j + 1))
            have HB2 := Lib.hid (HB1.out.setCell (p := ⟨g, 1, none⟩) hg (.int .i64 ((j + 1 : Nat) : Int)))
            have HK2 := Lib.hid (HK1.out.set_ 1 (.int .i64 ((j + 1 : Nat) : Int)))
            go_wp2
            go_roundw
            case rel => exact ⟨j + 1, by omega, by omega, Lib.hid (span_next (by omega) hlt HX.out HN2.out HT.out), HS2, HB2, HK2⟩
            case measure => exact measS hlt HS.out.c1 HS2.out.c1
          · have d122 : decide ((c.toNat : Int) ≤ 122) = false := decide_eq_false e122
            have d122N : decide (c.toNat ≤ 122) = false := decide_eq_false (by omega)
            have d48 : decide ((48 : Int) ≤ (c.toNat : Int)) = true := decide_eq_true (by omega)
            have d48N : decide (48 ≤ c.toNat) = true := decide_eq_true (by omega)
            have d57 : decide ((c.toNat : Int) ≤ 57) = false := decide_eq_false (by omega)
            have d57N : decide (c.toNat ≤ 57) = false := decide_eq_false (by omega)
            have HE := Lib.hid (show (s.data.toList.drop j).takeWhile nameC = [] from by rw [bN_drop s j hlt, HX.out, List.takeWhile_cons, if_neg (by unfold nameC; rw [decide_eq_false (by omega)]; decide)])
            go_wp2
            have f0 := fun W (hb : Below wr.heap.size wr W) => pw_cell_below hb g0
            have f1 := fun W (hb : Below wr.heap.size wr W) => pw_cell_below hb g1
            have hS0 : Below wr.heap.size wr wr.drew := below_drew (Below.refl _ _)
            refine start_ (n := 70) (S := fun w' => Below wr.heap.size wr w') (ds := []) (pre 70 0).toArray (by kernel_rfl) rfl rfl hS0 (fun hHeld => ?_)
            clear hS0
            generalize wr.drew = W at hHeld ⊢
            refine with_tab (T := tabN2) tabN2_eq (fun HT_ => ?_)
            iterate 70
              first
                | (refine pureN HT_.out (N := some _) (v := undef) (a' := ?_) rfl rfl (by kernel_rfl) (fun _ _ _ h => h) (Or.inr ⟨by rfl, by rfl⟩) ?_ ?_
                   rotate_left
                   · simp only [Act.put, List.setIfInBounds_toArray, List.set_cons_zero, List.set_cons_succ, i64_w, i32_w]
                     rfl)
                | (refine takeN HT_.out (N := some _) (v := ?_) (a' := ?_) rfl rfl (by kernel_rfl) (fun _ _ _ h => h) (Or.inl ⟨by rfl, ?_⟩) hHeld ?_ ?_
                   rotate_left
                   · intro w' hS'
                     have q0 := f0 w' hS'
                     have q1 := f1 w' hS'
                     go_simp
                     with_reducible rfl
                   rotate_left
                   · simp only [Act.put, List.setIfInBounds_toArray, List.set_cons_zero, List.set_cons_succ, i64_w, i32_w]
                     rfl)
            refine done_ (done_of HT_.out (by kernel_rfl)) ?_
            have HS1 := Lib.hid (HS.out.below hHeld)
            have HB1 := Lib.hid (below_step HB.out hHeld)
            have HK1 := Lib.hid (HK.out.trans (KeepBut.of_below hHeld g none) (.inl rfl))
            clear f0 f1
            have f0 := HS1.out.c0
            have f1 := HS1.out.c1
            have HS2 := HS1
            have HB2 := HB1
            have HK2 := HK1
            clear g0 g1 HS HB HK HS1 HB1 HK1 hHeld
            go_wp2
            go_quiet (fail)
            go_wp2
            go_ret
            exact name_post hij hj HE.out HT.out (pw_below_drewN HB2.out _) (keep_drewN HK2.out _) (HS2.out.drewN _)
        · have d97 : decide ((97 : Int) ≤ (c.toNat : Int)) = false := decide_eq_false e97
          have d97N : decide (97 ≤ c.toNat) = false := decide_eq_false (by omega)
          by_cases e48 : (48 : Int) ≤ (c.toNat : Int)
          · have d48 : decide ((48 : Int) ≤ (c.toNat : Int)) = true := decide_eq_true e48
            have d48N : decide (48 ≤ c.toNat) = true := decide_eq_true (by omega)
            by_cases e57 : (c.toNat : Int) ≤ 57
            · have d57 : decide ((c.toNat : Int) ≤ 57) = true := decide_eq_true e57
              have d57N : decide (c.toNat ≤ 57) = true := decide_eq_true (by omega)
              have HN2 := Lib.hid (show nameC c = true from by unfold nameC; exact decide_eq_true (by omega))
              go_wp2
              have f0 := fun W (hb : Below wr.heap.size wr W) => pw_cell_below hb g0
              have f1 := fun W (hb : Below wr.heap.size wr W) => pw_cell_below hb g1
              have hS0 : Below wr.heap.size wr wr.drew := below_drew (Below.refl _ _)
              refine start_ (n := 70) (S := fun w' => Below wr.heap.size wr w') (ds := []) (pre 70 0).toArray (by kernel_rfl) rfl rfl hS0 (fun hHeld => ?_)
              clear hS0
              generalize wr.drew = W at hHeld ⊢
              refine with_tab (T := tabN2) tabN2_eq (fun HT_ => ?_)
              iterate 70
                first
                  | (refine pureN HT_.out (N := some _) (v := undef) (a' := ?_) rfl rfl (by kernel_rfl) (fun _ _ _ h => h) (Or.inr ⟨by rfl, by rfl⟩) ?_ ?_
                     rotate_left
                     · simp only [Act.put, List.setIfInBounds_toArray, List.set_cons_zero, List.set_cons_succ, i64_w, i32_w]
                       rfl)
                  | (refine takeN HT_.out (N := some _) (v := ?_) (a' := ?_) rfl rfl (by kernel_rfl) (fun _ _ _ h => h) (Or.inl ⟨by rfl, ?_⟩) hHeld ?_ ?_
                     rotate_left
                     · intro w' hS'
                       have q0 := f0 w' hS'
                       have q1 := f1 w' hS'
                       go_simp
                       with_reducible rfl
                     rotate_left
                     · simp only [Act.put, List.setIfInBounds_toArray, List.set_cons_zero, List.set_cons_succ, i64_w, i32_w]
                       rfl)
              refine done_ (done_of HT_.out (by kernel_rfl)) ?_
              have HS1 := Lib.hid (HS.out.below hHeld)
              have HB1 := Lib.hid (below_step HB.out hHeld)
              have HK1 := Lib.hid (HK.out.trans (KeepBut.of_below hHeld g none) (.inl rfl))
              clear f0 f1
              have f1 := HS1.out.c1
              have f2 := HS1.out.z1
              have HS2 := Lib.hid (HS1.out.set1 (j + 1))
              have HB2 := Lib.hid (HB1.out.setCell (p := ⟨g, 1, none⟩) hg (.int .i64 ((j + 1 : Nat) : Int)))
              have HK2 := Lib.hid (HK1.out.set_ 1 (.int .i64 ((j + 1 : Nat) : Int)))
              go_wp2
              go_roundw
              case rel => exact ⟨j + 1, by omega, by omega, Lib.hid (span_next (by omega) hlt HX.out HN2.out HT.out), HS2, HB2, HK2⟩
              case measure => exact measS hlt HS.out.c1 HS2.out.c1
            · have d57 : decide ((c.toNat : Int) ≤ 57) = false := decide_eq_false e57
              have d57N : decide (c.toNat ≤ 57) = false := decide_eq_false (by omega)
              have HE := Lib.hid (show (s.data.toList.drop j).takeWhile nameC = [] from by rw [bN_drop s j hlt, HX.out, List.takeWhile_cons, if_neg (by unfold nameC; rw [decide_eq_false (by omega)]; decide)])
              go_wp2
              have f0 := fun W (hb : Below wr.heap.size wr W) => pw_cell_below hb g0
              have f1 := fun W (hb : Below wr.heap.size wr W) => pw_cell_below hb g1
              have hS0 : Below wr.heap.size wr wr.drew := below_drew (Below.refl _ _)
              refine start_ (n := 70) (S := fun w' => Below wr.heap.size wr w') (ds := []) (pre 70 0).toArray (by kernel_rfl) rfl rfl hS0 (fun hHeld => ?_)
              clear hS0
              generalize wr.drew = W at hHeld ⊢
              refine with_tab (T := tabN2) tabN2_eq (fun HT_ => ?_)
              iterate 70
                first
                  | (refine pureN HT_.out (N := some _) (v := undef) (a' := ?_) rfl rfl (by kernel_rfl) (fun _ _ _ h => h) (Or.inr ⟨by rfl, by rfl⟩) ?_ ?_
                     rotate_left
                     · simp only [Act.put, List.setIfInBounds_toArray, List.set_cons_zero, List.set_cons_succ, i64_w, i32_w]
                       rfl)
                  | (refine takeN HT_.out (N := some _) (v := ?_) (a' := ?_) rfl rfl (by kernel_rfl) (fun _ _ _ h => h) (Or.inl ⟨by rfl, ?_⟩) hHeld ?_ ?_
                     rotate_left
                     · intro w' hS'
                       have q0 := f0 w' hS'
                       have q1 := f1 w' hS'
                       go_simp
                       with_reducible rfl
                     rotate_left
                     · simp only [Act.put, List.setIfInBounds_toArray, List.set_cons_zero, List.set_cons_succ, i64_w, i32_w]
                       rfl)
              refine done_ (done_of HT_.out (by kernel_rfl)) ?_
              have HS1 := Lib.hid (HS.out.below hHeld)
              have HB1 := Lib.hid (below_step HB.out hHeld)
              have HK1 := Lib.hid (HK.out.trans (KeepBut.of_below hHeld g none) (.inl rfl))
              clear f0 f1
              have f0 := HS1.out.c0
              have f1 := HS1.out.c1
              have HS2 := HS1
              have HB2 := HB1
              have HK2 := HK1
              clear g0 g1 HS HB HK HS1 HB1 HK1 hHeld
              go_wp2
              go_quiet (fail)
              go_wp2
              go_ret
              exact name_post hij hj HE.out HT.out (pw_below_drewN HB2.out _) (keep_drewN HK2.out _) (HS2.out.drewN _)
          · have d48 : decide ((48 : Int) ≤ (c.toNat : Int)) = false := decide_eq_false e48
            have d48N : decide (48 ≤ c.toNat) = false := decide_eq_false (by omega)
            have HE := Lib.hid (show (s.data.toList.drop j).takeWhile nameC = [] from by rw [bN_drop s j hlt, HX.out, List.takeWhile_cons, if_neg (by unfold nameC; rw [decide_eq_false (by omega)]; decide)])
            go_wp2
            have f0 := fun W (hb : Below wr.heap.size wr W) => pw_cell_below hb g0
            have f1 := fun W (hb : Below wr.heap.size wr W) => pw_cell_below hb g1
            have hS0 : Below wr.heap.size wr wr.drew := below_drew (Below.refl _ _)
            refine start_ (n := 70) (S := fun w' => Below wr.heap.size wr w') (ds := []) (pre 70 0).toArray (by kernel_rfl) rfl rfl hS0 (fun hHeld => ?_)
            clear hS0
            generalize wr.drew = W at hHeld ⊢
            refine with_tab (T := tabN2) tabN2_eq (fun HT_ => ?_)
            iterate 70
              first
                | (refine pureN HT_.out (N := some _) (v := undef) (a' := ?_) rfl rfl (by kernel_rfl) (fun _ _ _ h => h) (Or.inr ⟨by rfl, by rfl⟩) ?_ ?_
                   rotate_left
                   · simp only [Act.put, List.setIfInBounds_toArray, List.set_cons_zero, List.set_cons_succ, i64_w, i32_w]
                     rfl)
                | (refine takeN HT_.out (N := some _) (v := ?_) (a' := ?_) rfl rfl (by kernel_rfl) (fun _ _ _ h => h) (Or.inl ⟨by rfl, ?_⟩) hHeld ?_ ?_
                   rotate_left
                   · intro w' hS'
                     have q0 := f0 w' hS'
                     have q1 := f1 w' hS'
                     go_simp
                     with_reducible rfl
                   rotate_left
                   · simp only [Act.put, List.setIfInBounds_toArray, List.set_cons_zero, List.set_cons_succ, i64_w, i32_w]
                     rfl)
            refine done_ (done_of HT_.out (by kernel_rfl)) ?_
            have HS1 := Lib.hid (HS.out.below hHeld)
            have HB1 := Lib.hid (below_step HB.out hHeld)
            have HK1 := Lib.hid (HK.out.trans (KeepBut.of_below hHeld g none) (.inl rfl))
            clear f0 f1
            have f0 := HS1.out.c0
            have f1 := HS1.out.c1
            have HS2 := HS1
            have HB2 := HB1
            have HK2 := HK1
            clear g0 g1 HS HB HK HS1 HB1 HK1 hHeld
            go_wp2
            go_quiet (fail)
            go_wp2
            go_ret
            exact name_post hij hj HE.out HT.out (pw_below_drewN HB2.out _) (keep_drewN HK2.out _) (HS2.out.drewN _)
    · have dl : decide (j < s.size) = false := decide_eq_false hlt
      have dlI : decide ((j : Int) < (s.size : Int)) = false := decide_eq_false (by omega)
      have HE := Lib.hid (show (s.data.toList.drop j).takeWhile nameC = [] from by rw [List.drop_of_length_le (by simp; omega)]; rfl)
      go_wp2
      have f0 := fun W (hb : Below wr.heap.size wr W) => pw_cell_below hb g0
      have f1 := fun W (hb : Below wr.heap.size wr W) => pw_cell_below hb g1
      have hS0 : Below wr.heap.size wr wr.drew := below_drew (Below.refl _ _)
      refine start_ (n := 70) (S := fun w' => Below wr.heap.size wr w') (ds := []) (pre 70 0).toArray (by kernel_rfl) rfl rfl hS0 (fun hHeld => ?_)
      clear hS0
      generalize wr.drew = W at hHeld ⊢
      refine with_tab (T := tabN2) tabN2_eq (fun HT_ => ?_)
      iterate 70
        first
          | (refine pureN HT_.out (N := some _) (v := undef) (a' := ?_) rfl rfl (by kernel_rfl) (fun _ _ _ h => h) (Or.inr ⟨by rfl, by rfl⟩) ?_ ?_
             rotate_left
             · simp only [Act.put, List.setIfInBounds_toArray, List.set_cons_zero, List.set_cons_succ, i64_w, i32_w]
               rfl)
          | (refine takeN HT_.out (N := some _) (v := ?_) (a' := ?_) rfl rfl (by kernel_rfl) (fun _ _ _ h => h) (Or.inl ⟨by rfl, ?_⟩) hHeld ?_ ?_
             rotate_left
             · intro w' hS'
               have q0 := f0 w' hS'
               have q1 := f1 w' hS'
               go_simp
               with_reducible rfl
             rotate_left
             · simp only [Act.put, List.setIfInBounds_toArray, List.set_cons_zero, List.set_cons_succ, i64_w, i32_w]
               rfl)
      refine done_ (done_of HT_.out (by kernel_rfl)) ?_
      have HS1 := Lib.hid (HS.out.below hHeld)
      have HB1 := Lib.hid (below_step HB.out hHeld)
      have HK1 := Lib.hid (HK.out.trans (KeepBut.of_below hHeld g none) (.inl rfl))
      clear f0 f1
      have f0 := HS1.out.c0
      have f1 := HS1.out.c1
      have HS2 := HS1
      have HB2 := HB1
      have HK2 := HK1
      clear g0 g1 HS HB HK HS1 HB1 HK1 hHeld
      go_wp2
      go_quiet (fail)
      go_wp2
      go_ret
      exact name_post hij hj HE.out HT.out (pw_below_drewN HB2.out _) (keep_drewN HK2.out _) (HS2.out.drewN _)
end
end Go.Proofs.Yteafilojjdfllaa
end
section
namespace Go.Proofs.Yteafilojjdfllaa
open Go Go.RowKit Go.Proofs.YteafilojjdfllaaW.PrintWords Go.Proofs.YteafilojjdfllaaW.PrintLast Go.Proofs.YteafilojjdfllaaW.PrintMore Go.Proofs.Yteafilojjdfllaa.PAll
set_option linter.unusedVariables false
set_option linter.unusedSimpArgs false
/-- the parser's block -/
def PB (W : World) (g : Nat) (s : ByteArray) (i : Nat) (l : Int) : Prop := W.heap[g]? = some (.cells #[.string s, .int .i64 (i : Int), .int .i64 l] 172 (0, 0))
section
variable {W X : World} {g : Nat} {s : ByteArray} {i : Nat} {l : Int}
theorem PB.c0 (h : PB W g s i l) : W.cell? ⟨g, 0, none⟩ = some (.string s) := (blk_cell h 0).trans rfl
theorem PB.c1 (h : PB W g s i l) : W.cell? ⟨g, 1, none⟩ = some (.int .i64 (i : Int)) := (blk_cell h 1).trans rfl
theorem PB.c2 (h : PB W g s i l) : W.cell? ⟨g, 2, none⟩ = some (.int .i64 l) := (blk_cell h 2).trans rfl
theorem PB.z1 (h : PB W g s i l) : W.frozen? ⟨g, 1, none⟩ = false := blk_frozen h 1
theorem PB.z2 (h : PB W g s i l) : W.frozen? ⟨g, 2, none⟩ = false := blk_frozen h 2
theorem PB.lt (h : PB W g s i l) : g < W.heap.size := (Array.getElem?_eq_some_iff.1 h).1
theorem PB.set1 (h : PB W g s i l) (j : Nat) : PB (W.setCell ⟨g, 1, none⟩ (.int .i64 (j : Int))) g s j l := by simpa [PB] using blk_set h 1 (.int .i64 (j : Int))
theorem PB.set2 (h : PB W g s i l) (c : Int) : PB (W.setCell ⟨g, 2, none⟩ (.int .i64 c)) g s i c := by simpa [PB] using blk_set h 2 (.int .i64 c)
theorem PB.below (h : PB W g s i l) (hb : Below W.heap.size W X) : PB X g s i l := (hb.block g h.lt).trans h
end
/-- how a step of the parser ends -/
def PPost (w0 w : World) (g : Nat) (s : ByteArray) (i : Nat) (l : Int) (v : Value) (e : Ending) (w' : World) : Prop :=
 e = .returned v ∧ Below w0.heap.size w0 w' ∧ KeepBut w w' g none ∧ PB w' g s i l
theorem pref158 (w : World) (t v : ByteArray) (b : Bool) (hb : prefB t v = b) : Calls Try.prog 158 #[.string t, .string v] w fun e w' => e = .returned (.bool b) ∧ Below w.heap.size w w' := by
 refine (strings_HasPrefix.calls t v b w (by rw [prefix_val, hb])).mono ?_
 rintro e w' ⟨rfl, h⟩
 refine ⟨rfl, ?_⟩
 obtain ⟨m, rfl⟩ := h
 exact pw_below_drewN (Below.refl _ _) _
noncomputable def tabR174_1 : Bool × List (List Nat × List Nat) := rtab .any (opsOf Try.f174 1)
theorem tabR174_1_eq : rtab .any (opsOf Try.f174 1) = tabR174_1 := rfl
set_option maxRecDepth 100000 in
set_option maxHeartbeats 16000000 in
/-- takes. -/
theorem takes174 (w0 w : World) (g : Nat) (s : ByteArray) (i : Nat) (l : Int) (x : ByteArray) (b : Bool) (hi : i ≤ s.size) (hs : s.size ≤ 1000000000) (hx : x.size ≤ 2) (hb : prefB (s.extract i s.size) x = b) (hg : w0.heap.size ≤ g) (hB : Below w0.heap.size w0 w) (hP : PB w g s i l) :
  Calls Try.prog 174 #[.pointer (some ⟨g, 0, none⟩), .string x] w (PPost w0 w g s (if b = true then i + x.size else i) l (.bool b)) := by
 have HP := Lib.hid hP
 have HB := Lib.hid hB
 have HX := Lib.hid hb
 obtain ⟨J, eJ⟩ : ∃ J, (if b = true then i + x.size else i) = J := ⟨_, rfl⟩
 rw [eJ]
 have HJ := Lib.hid eJ
 clear eJ
 have f0 := fun W (hb : Below w.heap.size w W) => pw_cell_below hb HP.out.c0
 have f1 := fun W (hb : Below w.heap.size w W) => pw_cell_below hb HP.out.c1
 have hiI : (i : Int) ≤ (s.size : Int) := by omega
 clear hP hB hb
 go_enter Try.func174, Try.ntmps174
 go_wp2_with fail
 refine start_ (n := 12) (S := fun W => Below w.heap.size w W) (ds := []) (msk 12 [0, 1, 2, 4, 5, 6, 9, 3, 7, 8, 10, 11] 0).toArray (by kernel_rfl) rfl rfl (below_drew (Below.refl _ _)) (fun hHeld => ?_)
 refine with_tab (T := tabR174_1) tabR174_1_eq (fun HT_ => ?_)
 iterate 10 (first | (refine pureO HT_.out (N := some _) (v := ?_) (a' := ?_) rfl rfl (by kernel_rfl) (fun _ _ _ h => h) (Or.inl ⟨by rfl, ?_⟩) ?_ ?_; rotate_left; intro w'; go_simp; (with_reducible rfl); rotate_left; simp only [Act.put, List.setIfInBounds_toArray, List.set_cons_zero, List.set_cons_succ, i64_w, i32_w]; rfl) | (refine takeO HT_.out (N := some _) (v := ?_) (a' := ?_) rfl rfl (by kernel_rfl) (fun _ _ _ h => h) (Or.inl ⟨by rfl, ?_⟩) hHeld ?_ ?_; rotate_left; intro w' hh; have q0 := f0 w' hh; have q1 := f1 w' hh; go_simp; (with_reducible rfl); rotate_left; simp only [Act.put, List.setIfInBounds_toArray, List.set_cons_zero, List.set_cons_succ, i64_w, i32_w]; rfl))
 refine oneO (i := 10) (N := some 15) HT_.out rfl rfl (by kernel_rfl) (by decide) (fun K_ hK_ => ?_)
 refine goes_ Try.func158 (by kernel_rfl) rfl #[.string (s.extract i s.size), .string x] (by rfl) rfl rfl (by (try simp only [List.map_toArray, List.map_cons, List.map_nil]); first | done | rfl) ?_
 (with_reducible refine (pref158 _ _ x b HX.out).mono ?_)
 rintro e w9 ⟨rfl, hb9⟩
 refine ⟨_, rfl, ?_⟩
 refine hK_.out _ _ (below_step hHeld hb9) (fun hHeld => ?_)
 clear hK_ K_
 try simp only [Act.put, List.setIfInBounds_toArray, List.set_cons_zero, List.set_cons_succ]
 (refine pureO HT_.out (N := some _) (v := ?_) (a' := ?_) rfl rfl (by kernel_rfl) (fun _ _ _ h => h) (Or.inl ⟨by rfl, ?_⟩) ?_ ?_; rotate_left; intro w'; go_simp; (with_reducible rfl); rotate_left; simp only [Act.put, List.setIfInBounds_toArray, List.set_cons_zero, List.set_cons_succ, i64_w, i32_w]; rfl)
 refine done_ (done_of HT_.out (by kernel_rfl)) ?_
 have HP1 := Lib.hid (HP.out.below hHeld)
 have HB1 := Lib.hid (below_step HB.out hHeld)
 have HK1 := Lib.hid (KeepBut.of_below hHeld g none)
 clear f0 f1
 cases b with
 | false =>
  have eJ : J = i := HJ.out.symm
  subst eJ
  go_wp2
  go_ret
  exact ⟨rfl, HB1.out, HK1.out, HP1.out⟩
 | true =>
  have eJ : J = i + x.size := HJ.out.symm
  subst eJ
  have f1 := HP1.out.c1
  have f2 := HP1.out.z1
  have HP2 := Lib.hid (HP1.out.set1 (i + x.size))
  have HB2 := Lib.hid (HB1.out.setCell (p := ⟨g, 1, none⟩) hg (.int .i64 ((i + x.size : Nat) : Int)))
  have HK2 := Lib.hid (HK1.out.set_ 1 (.int .i64 ((i + x.size : Nat) : Int)))
  go_wp2
  go_ret
  exact ⟨rfl, HB2.out, HK2.out, HP2.out⟩
set_option maxRecDepth 100000 in
set_option maxHeartbeats 16000000 in
/-- must. -/
theorem must187 (w0 w : World) (g : Nat) (s : ByteArray) (i : Nat) (l : Int) (x : ByteArray) (b : Bool) (hi : i ≤ s.size) (hs : s.size ≤ 1000000000) (hx : x.size ≤ 2) (hb : prefB (s.extract i s.size) x = b) (hg : w0.heap.size ≤ g) (hB : Below w0.heap.size w0 w) (hP : PB w g s i l) :
  Calls Try.prog 187 #[.pointer (some ⟨g, 0, none⟩), .string x] w fun e w' => Below w0.heap.size w0 w' ∧ KeepBut w w' g none ∧ ((b = false ∧ e = .panicked badP) ∨ (b = true ∧ e = .returned (.tuple #[]) ∧ PB w' g s (i + x.size) l)) := by
 have H1 := Lib.hid (takes174 w0 w g s i l x b hi hs hx hb hg hB hP)
 clear hb hB hP
 go_enter Try.func187, Try.ntmps187
 go_wp2_with fail
 (with_reducible refine H1.out.mono ?_)
 rintro e w1 ⟨rfl, hb1, hk1, hp1⟩
 have HR := Lib.hid (And.intro hb1 (And.intro hk1 hp1))
 clear hb1 hk1 hp1 H1
 cases b with
 | false =>
  go_wp2
  exact ⟨rfl, HR.out.1, HR.out.2.1, rfl⟩
 | true =>
  go_wp2
  refine ⟨rfl, .tuple #[], results_none rfl _ _ _, HR.out.1, HR.out.2.1, rfl, ?_⟩
  have h := HR.out.2.2
  rwa [if_pos trivial] at h
end Go.Proofs.Yteafilojjdfllaa
end
section
namespace Go.Proofs.Yteafilojjdfllaa
open Go Go.RowKit Go.Proofs.YteafilojjdfllaaW.PrintWords Go.Proofs.YteafilojjdfllaaW.PrintLast Go.Proofs.YteafilojjdfllaaW.PrintMore Go.Proofs.Yteafilojjdfllaa.PAll
set_option linter.unusedVariables false
set_option linter.unusedSimpArgs false
noncomputable def tabR189_1 : Bool × List (List Nat × List Nat) := rtab .any (opsOf Try.f189 1)
theorem tabR189_1_eq : rtab .any (opsOf Try.f189 1) = tabR189_1 := rfl
set_option maxRecDepth 100000 in
set_option maxHeartbeats 16000000 in
/-- value. -/
theorem value189n (w0 w : World) (g : Nat) (s : ByteArray) (i : Nat) (l : Int) (hq : valW stepP (s.data.toList.drop i) = none) (hi : i ≤ s.size) (hs : s.size ≤ 1000000000) (hg : w0.heap.size ≤ g) (hB : Below w0.heap.size w0 w) (hP : PB w g s i l) :
  Calls Try.prog 189 #[.pointer (some ⟨g, 0, none⟩)] w fun e w' => Below w0.heap.size w0 w' ∧ KeepBut w w' g none ∧ e = .panicked badP := by
 have HP := Lib.hid hP
 have HB := Lib.hid hB
 have HU : Hid (∀ W, Calls Try.prog 132 #[.string s, .int .i64 (i : Int)] W fun e w' => e = .returned (.tuple #[.string ⟨#[]⟩, .int .i64 0, .bool false]) ∧ Below W.heap.size W w') := Lib.hid (fun W => by
  have h := unq132 W s i hi hs
  rw [hq] at h
  skip
  exact h)
 have f0 := fun W (hb : Below w.heap.size w W) => pw_cell_below hb HP.out.c0
 have f1 := fun W (hb : Below w.heap.size w W) => pw_cell_below hb HP.out.c1
 clear hP hB
 go_enter Try.func189, Try.ntmps189
 go_wp2_with fail
 refine start_ (n := 16) (S := fun W => Below w.heap.size w W) (ds := []) (msk 16 [0, 1, 2, 4, 5, 6, 3, 7, 8, 9, 10, 11, 12, 13, 14, 15] 0).toArray (by kernel_rfl) rfl rfl (below_drew (Below.refl _ _)) (fun hHeld => ?_)
 refine with_tab (T := tabR189_1) tabR189_1_eq (fun HT_ => ?_)
 iterate 8 (first | (refine pureO HT_.out (N := some _) (v := ?_) (a' := ?_) rfl rfl (by kernel_rfl) (fun _ _ _ h => h) (Or.inl ⟨by rfl, ?_⟩) ?_ ?_; rotate_left; intro w'; go_simp; (with_reducible rfl); rotate_left; simp only [Act.put, List.setIfInBounds_toArray, List.set_cons_zero, List.set_cons_succ, i64_w, i32_w]; rfl) | (refine takeO HT_.out (N := some _) (v := ?_) (a' := ?_) rfl rfl (by kernel_rfl) (fun _ _ _ h => h) (Or.inl ⟨by rfl, ?_⟩) hHeld ?_ ?_; rotate_left; intro w' hh; have q0 := f0 w' hh; have q1 := f1 w' hh; go_simp; (with_reducible rfl); rotate_left; simp only [Act.put, List.setIfInBounds_toArray, List.set_cons_zero, List.set_cons_succ, i64_w, i32_w]; rfl))
 refine oneO (i := 8) (N := some 15) HT_.out rfl rfl (by kernel_rfl) (by decide) (fun K_ hK_ => ?_)
 refine goes_ Try.func132 (by kernel_rfl) rfl #[.string s, .int .i64 (i : Int)] (by rfl) rfl rfl (by (try simp only [List.map_toArray, List.map_cons, List.map_nil]); first | done | rfl) ?_
 (with_reducible refine (HU.out _).mono ?_)
 rintro e w9 ⟨rfl, hb9⟩
 refine ⟨_, rfl, ?_⟩
 refine hK_.out _ _ (below_step hHeld hb9) (fun hHeld => ?_)
 clear hK_ K_
 try simp only [Act.put, List.setIfInBounds_toArray, List.set_cons_zero, List.set_cons_succ]
 iterate 7 (refine pureO HT_.out (N := some _) (v := ?_) (a' := ?_) rfl rfl (by kernel_rfl) (fun _ _ _ h => h) (Or.inl ⟨by rfl, ?_⟩) ?_ ?_; rotate_left; intro w'; go_simp; (with_reducible rfl); rotate_left; simp only [Act.put, List.setIfInBounds_toArray, List.set_cons_zero, List.set_cons_succ, i64_w, i32_w]; rfl)
 refine done_ (done_of HT_.out (by kernel_rfl)) ?_
 have HP1 := Lib.hid (HP.out.below hHeld)
 have HB1 := Lib.hid (below_step HB.out hHeld)
 have HK1 := Lib.hid (KeepBut.of_below hHeld g none)
 clear f0 f1
 go_wp2
 exact ⟨rfl, HB1.out, HK1.out, rfl⟩
set_option maxRecDepth 100000 in
set_option maxHeartbeats 16000000 in
/-- value. -/
theorem value189y (w0 w : World) (g : Nat) (s : ByteArray) (i : Nat) (l : Int) (v r : List UInt8) (j : Nat) (hq : valW stepP (s.data.toList.drop i) = some (v, r)) (hj : (s.size : Int) - (r.length : Nat) = (j : Int)) (hi : i ≤ s.size) (hs : s.size ≤ 1000000000) (hg : w0.heap.size ≤ g) (hB : Below w0.heap.size w0 w) (hP : PB w g s i l) :
  Calls Try.prog 189 #[.pointer (some ⟨g, 0, none⟩)] w fun e w' => Below w0.heap.size w0 w' ∧ KeepBut w w' g none ∧ e = .returned (.string ⟨v.toArray⟩) ∧ PB w' g s j l := by
 have HP := Lib.hid hP
 have HB := Lib.hid hB
 have HU : Hid (∀ W, Calls Try.prog 132 #[.string s, .int .i64 (i : Int)] W fun e w' => e = .returned (.tuple #[.string ⟨v.toArray⟩, .int .i64 (j : Int), .bool true]) ∧ Below W.heap.size W w') := Lib.hid (fun W => by
  have h := unq132 W s i hi hs
  rw [hq] at h
  rw [← hj]
  exact h)
 have f0 := fun W (hb : Below w.heap.size w W) => pw_cell_below hb HP.out.c0
 have f1 := fun W (hb : Below w.heap.size w W) => pw_cell_below hb HP.out.c1
 clear hP hB
 go_enter Try.func189, Try.ntmps189
 go_wp2_with fail
 refine start_ (n := 16) (S := fun W => Below w.heap.size w W) (ds := []) (msk 16 [0, 1, 2, 4, 5, 6, 3, 7, 8, 9, 10, 11, 12, 13, 14, 15] 0).toArray (by kernel_rfl) rfl rfl (below_drew (Below.refl _ _)) (fun hHeld => ?_)
 refine with_tab (T := tabR189_1) tabR189_1_eq (fun HT_ => ?_)
 iterate 8 (first | (refine pureO HT_.out (N := some _) (v := ?_) (a' := ?_) rfl rfl (by kernel_rfl) (fun _ _ _ h => h) (Or.inl ⟨by rfl, ?_⟩) ?_ ?_; rotate_left; intro w'; go_simp; (with_reducible rfl); rotate_left; simp only [Act.put, List.setIfInBounds_toArray, List.set_cons_zero, List.set_cons_succ, i64_w, i32_w]; rfl) | (refine takeO HT_.out (N := some _) (v := ?_) (a' := ?_) rfl rfl (by kernel_rfl) (fun _ _ _ h => h) (Or.inl ⟨by rfl, ?_⟩) hHeld ?_ ?_; rotate_left; intro w' hh; have q0 := f0 w' hh; have q1 := f1 w' hh; go_simp; (with_reducible rfl); rotate_left; simp only [Act.put, List.setIfInBounds_toArray, List.set_cons_zero, List.set_cons_succ, i64_w, i32_w]; rfl))
 refine oneO (i := 8) (N := some 15) HT_.out rfl rfl (by kernel_rfl) (by decide) (fun K_ hK_ => ?_)
 refine goes_ Try.func132 (by kernel_rfl) rfl #[.string s, .int .i64 (i : Int)] (by rfl) rfl rfl (by (try simp only [List.map_toArray, List.map_cons, List.map_nil]); first | done | rfl) ?_
 (with_reducible refine (HU.out _).mono ?_)
 rintro e w9 ⟨rfl, hb9⟩
 refine ⟨_, rfl, ?_⟩
 refine hK_.out _ _ (below_step hHeld hb9) (fun hHeld => ?_)
 clear hK_ K_
 try simp only [Act.put, List.setIfInBounds_toArray, List.set_cons_zero, List.set_cons_succ]
 iterate 7 (refine pureO HT_.out (N := some _) (v := ?_) (a' := ?_) rfl rfl (by kernel_rfl) (fun _ _ _ h => h) (Or.inl ⟨by rfl, ?_⟩) ?_ ?_; rotate_left; intro w'; go_simp; (with_reducible rfl); rotate_left; simp only [Act.put, List.setIfInBounds_toArray, List.set_cons_zero, List.set_cons_succ, i64_w, i32_w]; rfl)
 refine done_ (done_of HT_.out (by kernel_rfl)) ?_
 have HP1 := Lib.hid (HP.out.below hHeld)
 have HB1 := Lib.hid (below_step HB.out hHeld)
 have HK1 := Lib.hid (KeepBut.of_below hHeld g none)
 clear f0 f1
 have f2 := HP1.out.z1
 have f1 := HP1.out.c1
 have HP2 := Lib.hid (HP1.out.set1 j)
 have HB2 := Lib.hid (HB1.out.setCell (p := ⟨g, 1, none⟩) hg (.int .i64 ((j : Nat) : Int)))
 have HK2 := Lib.hid (HK1.out.set_ 1 (.int .i64 ((j : Nat) : Int)))
 go_wp2
 go_ret
 exact ⟨HB2.out, HK2.out, rfl, HP2.out⟩
end Go.Proofs.Yteafilojjdfllaa
end
section
namespace Go.Proofs.Yteafilojjdfllaa
open Go Go.RowKit Go.Proofs.YteafilojjdfllaaW.PrintWords Go.Proofs.YteafilojjdfllaaW.PrintLast Go.Proofs.YteafilojjdfllaaW.PrintMore Go.Proofs.Yteafilojjdfllaa.PAll
set_option linter.unusedVariables false
set_option linter.unusedSimpArgs false
/-- the world of the closure: the parser, the box of its pointer, the matcher under way and its row of values -/
structure VC (w0 wn w : World) (g B G base : Nat) (s nm : ByteArray) (i : Nat) (l : Int) (vs : List ByteArray) (n : Nat) (Au : Option Addr) (cu : Nat) : Prop where
 below : Below w0.heap.size w0 w
 keep : KeepBut wn w g none
 size : base ≤ w.heap.size
 box : w.heap[B]? = some (.cells #[.pointer (some ⟨g, 0, none⟩)] 170 (0, 0))
 blk : w.heap[G]? = some (.cells #[.int .i64 4, .string nm, .string ⟨#[]⟩, .slice Au n cu, .slice none 0 0] 25 (0, 0))
 par : PB w g s i l
 own : w.ownsRow base 9 1 (.slice Au n cu) n (encs Value.string vs)
 len : vs.length = n
/-- where these lie -/
structure VL (w0 wn : World) (g B G base : Nat) : Prop where
 g0 : w0.heap.size ≤ g
 gn : g < wn.heap.size
 nB : B ≠ g
 nG : wn.heap.size ≤ G
 Bb : B < base
 Gb : G < base
 ne : B ≠ G
noncomputable def tabR188_2 : Bool × List (List Nat × List Nat) := rtab .any (opsOf Try.f188 2)
theorem tabR188_2_eq : rtab .any (opsOf Try.f188 2) = tabR188_2 := rfl
set_option maxRecDepth 100000 in
set_option maxHeartbeats 16000000 in
/-- too many. -/
theorem value188a (w0 wn w : World) (g B G base : Nat) (s nm : ByteArray) (i : Nat) (l : Int) (vs : List ByteArray) (n : Nat) (Au : Option Addr) (cu : Nat) (HL : VL w0 wn g B G base) (hV : VC w0 wn w g B G base s nm i l vs n Au cu) (hn : 16 < n) :
  Calls Try.prog 188 #[.pointer (some ⟨G, 0, none⟩), .pointer (some ⟨B, 0, none⟩)] w fun e w' => e = .panicked badP ∧ Below w0.heap.size w0 w' ∧ KeepBut wn w' g none := by
 obtain ⟨L1, L2, L3, L4, L5, L6, L7⟩ := HL
 have HV := Lib.hid hV
 have k3 : w.cell? ⟨G, 3, none⟩ = some (.slice Au n cu) := (blk_cell hV.blk 3).trans rfl
 have kB : w.cell? ⟨B, 0, none⟩ = some (.pointer (some ⟨g, 0, none⟩)) := (blk_cell hV.box 0).trans rfl
 have t1 : (16 : Int) < (n : Int) := by omega
 clear hV
 go_enter Try.func188, Try.ntmps188
 go_wp2
 exact ⟨rfl, rfl, HV.out.below, HV.out.keep⟩
set_option maxRecDepth 100000 in
set_option maxHeartbeats 16000000 in
/-- no value. -/
theorem value188n (w0 wn w : World) (g B G base : Nat) (s nm : ByteArray) (i : Nat) (l : Int) (vs : List ByteArray) (n : Nat) (Au : Option Addr) (cu : Nat) (HL : VL w0 wn g B G base) (hV : VC w0 wn w g B G base s nm i l vs n Au cu) (hn : ¬ 16 < n) (hi : i ≤ s.size) (hs : s.size ≤ 1000000000) (hq : valW stepP (s.data.toList.drop i) = none) :
  Calls Try.prog 188 #[.pointer (some ⟨G, 0, none⟩), .pointer (some ⟨B, 0, none⟩)] w fun e w' => e = .panicked badP ∧ Below w0.heap.size w0 w' ∧ KeepBut wn w' g none := by
 obtain ⟨L1, L2, L3, L4, L5, L6, L7⟩ := HL
 have HV := Lib.hid hV
 have k3 : w.cell? ⟨G, 3, none⟩ = some (.slice Au n cu) := (blk_cell hV.blk 3).trans rfl
 have kB : w.cell? ⟨B, 0, none⟩ = some (.pointer (some ⟨g, 0, none⟩)) := (blk_cell hV.box 0).trans rfl
 have t1 : ¬ (16 : Int) < (n : Int) := by omega
 have H7 := Lib.hid (value189n w0 w.drew g s i l hq hi hs L1 (below_drew hV.below) hV.par)
 have k3d : w.drew.cell? ⟨G, 3, none⟩ = some (.slice Au n cu) := k3
 have kBd : w.drew.cell? ⟨B, 0, none⟩ = some (.pointer (some ⟨g, 0, none⟩)) := kB
 clear hV hq
 go_enter Try.func188, Try.ntmps188
 go_wp2_with fail
 refine start_ (n := 8) (S := fun w' => w'.cell? ⟨G, 3, none⟩ = some (.slice Au n cu) ∧ w'.cell? ⟨B, 0, none⟩ = some (.pointer (some ⟨g, 0, none⟩))) (ds := [7]) (msk 8 [0, 1, 2, 3] 0).toArray (by kernel_rfl) rfl rfl ⟨k3d, kBd⟩ (fun hHeld => ?_)
 refine with_tab (T := tabR188_2) tabR188_2_eq (fun HT_ => ?_)
 iterate 3 (first | (refine pureO HT_.out (N := some _) (v := ?_) (a' := ?_) rfl rfl (by kernel_rfl) (fun _ _ _ h => h) (Or.inl ⟨by rfl, ?_⟩) ?_ ?_; rotate_left; intro w'; go_simp; (with_reducible rfl); rotate_left; simp only [Act.put, List.setIfInBounds_toArray, List.set_cons_zero, List.set_cons_succ, i64_w, i32_w]; rfl) | (refine takeO HT_.out (N := some _) (v := ?_) (a' := ?_) rfl rfl (by kernel_rfl) (fun _ _ _ h => h) (Or.inl ⟨by rfl, ?_⟩) hHeld ?_ ?_; rotate_left; intro w' hh; have q0 := hh.1; have q1 := hh.2; go_simp; (with_reducible rfl); rotate_left; simp only [Act.put, List.setIfInBounds_toArray, List.set_cons_zero, List.set_cons_succ, i64_w, i32_w]; rfl))
 refine oneO (i := 3) (N := some 11) HT_.out rfl rfl (by kernel_rfl) (by decide) (fun K_ hK_ => ?_)
 refine goesP_ Try.func189 (by kernel_rfl) rfl #[.pointer (some ⟨g, 0, none⟩)] (by rfl) rfl rfl (by (try simp only [List.map_toArray, List.map_cons, List.map_nil]); first | done | rfl) ?_
 refine (H7.out).mono ?_
 rintro e w9 ⟨hB9, hK9, rfl⟩
 refine Or.inr ⟨_, rfl, ?_⟩
 exact ⟨rfl, rfl, hB9, (HV.out.keep.trans (KeepBut.of_below (below_drew (Below.refl w.heap.size w)) g none) (Or.inl rfl)).trans hK9 (Or.inl rfl)⟩
set_option maxRecDepth 100000 in
set_option maxHeartbeats 16000000 in
/-- one more. -/
theorem value188y (w0 wn w : World) (g B G base : Nat) (s nm : ByteArray) (i : Nat) (l : Int) (vs : List ByteArray) (n : Nat) (Au : Option Addr) (cu : Nat) (HL : VL w0 wn g B G base) (hV : VC w0 wn w g B G base s nm i l vs n Au cu) (hn : ¬ 16 < n) (hi : i ≤ s.size) (hs : s.size ≤ 1000000000) (v r : List UInt8) (j : Nat) (x : ByteArray) (hx : (⟨v.toArray⟩ : ByteArray) = x) (hq : valW stepP (s.data.toList.drop i) = some (v, r)) (hj : (s.size : Int) - (r.length : Nat) = (j : Int)) :
  Calls Try.prog 188 #[.pointer (some ⟨G, 0, none⟩), .pointer (some ⟨B, 0, none⟩)] w fun e w' => ∃ A2 c2, e = .returned (.tuple #[]) ∧ VC w0 wn w' g B G base s nm j l (vs ++ [x]) (n + 1) A2 c2 := by
 obtain ⟨L1, L2, L3, L4, L5, L6, L7⟩ := HL
 have HV := Lib.hid hV
 have k3 : w.cell? ⟨G, 3, none⟩ = some (.slice Au n cu) := (blk_cell hV.blk 3).trans rfl
 have kB : w.cell? ⟨B, 0, none⟩ = some (.pointer (some ⟨g, 0, none⟩)) := (blk_cell hV.box 0).trans rfl
 have t1 : ¬ (16 : Int) < (n : Int) := by omega
 have h7 := value189y w0 w.drew g s i l v r j hq hj hi hs L1 (below_drew hV.below) hV.par
 rw [hx] at h7
 have H7 := Lib.hid h7
 have k3d : w.drew.cell? ⟨G, 3, none⟩ = some (.slice Au n cu) := k3
 have kBd : w.drew.cell? ⟨B, 0, none⟩ = some (.pointer (some ⟨g, 0, none⟩)) := kB
 clear hV hq h7 hx hj
 go_enter Try.func188, Try.ntmps188
 go_wp2_with fail
 refine start_ (n := 8) (S := fun w' => w'.cell? ⟨G, 3, none⟩ = some (.slice Au n cu) ∧ w'.cell? ⟨B, 0, none⟩ = some (.pointer (some ⟨g, 0, none⟩))) (ds := [7]) (msk 8 [0, 1, 2, 3, 4, 5, 6, 7] 0).toArray (by kernel_rfl) rfl rfl ⟨k3d, kBd⟩ (fun hHeld => ?_)
 refine with_tab (T := tabR188_2) tabR188_2_eq (fun HT_ => ?_)
 iterate 3 (first | (refine pureO HT_.out (N := some _) (v := ?_) (a' := ?_) rfl rfl (by kernel_rfl) (fun _ _ _ h => h) (Or.inl ⟨by rfl, ?_⟩) ?_ ?_; rotate_left; intro w'; go_simp; (with_reducible rfl); rotate_left; simp only [Act.put, List.setIfInBounds_toArray, List.set_cons_zero, List.set_cons_succ, i64_w, i32_w]; rfl) | (refine takeO HT_.out (N := some _) (v := ?_) (a' := ?_) rfl rfl (by kernel_rfl) (fun _ _ _ h => h) (Or.inl ⟨by rfl, ?_⟩) hHeld ?_ ?_; rotate_left; intro w' hh; have q0 := hh.1; have q1 := hh.2; go_simp; (with_reducible rfl); rotate_left; simp only [Act.put, List.setIfInBounds_toArray, List.set_cons_zero, List.set_cons_succ, i64_w, i32_w]; rfl))
 refine oneO (i := 3) (N := some 11) HT_.out rfl rfl (by kernel_rfl) (by decide) (fun K_ hK_ => ?_)
 refine goesP_ Try.func189 (by kernel_rfl) rfl #[.pointer (some ⟨g, 0, none⟩)] (by rfl) rfl rfl (by (try simp only [List.map_toArray, List.map_cons, List.map_nil]); first | done | rfl) ?_
 refine (H7.out).mono ?_
 rintro e w5 ⟨hB5, hK5, rfl, hP5⟩
 have hV := HV.out
 have f5 := (hK5.2 G (by show G < w.heap.size; have := hV.size; omega) (by omega) (by simp)).trans hV.blk
 have f4 := (hK5.2 B (by show B < w.heap.size; have := hV.size; omega) (by omega) (by simp)).trans hV.box
 have hs5 : w.heap.size ≤ w5.heap.size := hK5.1
 have hO5 : w5.ownsRow base 9 1 (.slice Au n cu) n (encs Value.string vs) := own_move hV.own (fun k hk => hK5.2 k (hV.own.lt _ hk).2 (by have := (hV.own.lt _ hk).1; omega) (by simp))
 have HK5 := Lib.hid ((hV.keep.trans (KeepBut.of_below (below_drew (Below.refl w.heap.size w)) g none) (Or.inl rfl)).trans hK5 (Or.inl rfl))
 have HS5 := Lib.hid (Nat.le_trans hV.size hs5)
 have HP5 := Lib.hid hP5
 have HB5 := Lib.hid hB5
 have F5 := Lib.hid f5
 have F4 := Lib.hid f4
 have HO5 := Lib.hid hO5
 have HLT := Lib.hid (fun k (hk : (Value.slice Au n cu).ownBlock = some k) => hO5.lt _ hk)
 have h5 : w5.cell? ⟨G, 3, none⟩ = some (.slice Au n cu) := (blk_cell f5 3).trans rfl
 have h4 : w5.cell? ⟨B, 0, none⟩ = some (.pointer (some ⟨g, 0, none⟩)) := (blk_cell f4 0).trans rfl
 refine Or.inl ⟨_, rfl, ?_⟩
 refine hK_.out _ _ ⟨h5, h4⟩ (fun hHeld => ?_)
 clear hK_ K_ h5 h4 hK5 f5 f4 hO5 hP5 hB5 hV hs5
 try simp only [Act.put, List.setIfInBounds_toArray, List.set_cons_zero, List.set_cons_succ]
 refine oneO (i := 4) (N := some 12) HT_.out rfl rfl (by kernel_rfl) (by decide) (fun K_ hK_ => ?_)
 go_simp
 refine hK_.out _ _ ⟨(blk_cell ((Below.heap_alloc _ _ _ (blk_lt F5.out)).trans F5.out) 3).trans rfl, (blk_cell ((Below.heap_alloc _ _ _ (blk_lt F4.out)).trans F4.out) 0).trans rfl⟩ (fun hHeld => ?_)
 clear hK_ K_
 try simp only [Act.put, List.setIfInBounds_toArray, List.set_cons_zero, List.set_cons_succ]
 refine oneO (i := 5) (N := some 13) HT_.out rfl rfl (by kernel_rfl) (by decide) (fun K_ hK_ => ?_)
 have hs5 := HS5.out
 refine step_append_cells (w0 := w5) (W := w5) base (by rfl) (.tmp 9) (.tmp 12) 22 9 (.string ByteArray.empty) 1 16 rfl Try.underlying22 infoS rfl (by decide) (by decide) (.slice Au n cu) n (encs Value.string vs) [.string x] rfl rfl rfl (by intro u hu; simp only [List.mem_cons, List.not_mem_nil, or_false] at hu; subst hu; rfl) HO5.out (Below.refl _ _) (by omega) (by omega) ?_
 intro v2 w6 hown6 hb6 hg6 hat6
 obtain ⟨A2, c2, rfl⟩ := own_slice hown6
 have hl2 := HLT.out
 have hneG : some G ≠ (Value.slice Au n cu).ownBlock := fun e => by have := (hl2 _ e.symm).1; omega
 have hneB : some B ≠ (Value.slice Au n cu).ownBlock := fun e => by have := (hl2 _ e.symm).1; omega
 have hneg : some g ≠ (Value.slice Au n cu).ownBlock := fun e => by have := (hl2 _ e.symm).1; omega
 have q5 := (hg6.block G (blk_lt F5.out) hneG).trans F5.out
 have q4 := (hg6.block B (blk_lt F4.out) hneB).trans F4.out
 have qg : PB w6 g s j l := (hg6.block g HP5.out.lt hneg).trans HP5.out
 have hB6 : Below w0.heap.size w0 w6 := HB5.out.grown hg6 (by omega) (fun k hk => by have := (hl2 k hk).1; omega)
 have hK6 : KeepBut wn w6 g none := ⟨by have := HK5.out.1; have := hg6.size; omega, fun i hi h1 h2 => (hg6.block i (by have := HK5.out.1; omega) (fun e => by have := (hl2 _ e.symm).1; omega)).trans (HK5.out.2 i hi h1 h2)⟩
 have Q5 := Lib.hid q5
 have Q4 := Lib.hid q4
 have QG := Lib.hid qg
 have HB6 := Lib.hid hB6
 have HK6 := Lib.hid hK6
 have HO6 := Lib.hid hown6
 have HS6 := Lib.hid (show base ≤ w6.heap.size by have := hg6.size; omega)
 have HL6 := Lib.hid (fun k (hk : (Value.slice A2 (n + 1) c2).ownBlock = some k) => hown6.lt _ hk)
 have h6 : w6.cell? ⟨G, 3, none⟩ = some (.slice Au n cu) := (blk_cell q5 3).trans rfl
 have h6B : w6.cell? ⟨B, 0, none⟩ = some (.pointer (some ⟨g, 0, none⟩)) := (blk_cell q4 0).trans rfl
 have zz := blk_frozen q5 3
 refine hK_.out _ _ ⟨h6, h6B⟩ (fun hHeld => ?_)
 clear hK_ K_ hg6 hb6 hat6 hown6 hB6 hK6 qg q4 hneg hneB hneG hl2 q5 h6B
 try simp only [Act.put, List.setIfInBounds_toArray, List.set_cons_zero, List.set_cons_succ]
 (refine pureO HT_.out (N := some _) (v := ?_) (a' := ?_) rfl rfl (by kernel_rfl) (fun _ _ _ h => h) (Or.inl ⟨by rfl, ?_⟩) ?_ ?_; rotate_left; intro w'; go_simp; (with_reducible rfl); rotate_left; simp only [Act.put, List.setIfInBounds_toArray, List.set_cons_zero, List.set_cons_succ, i64_w, i32_w]; rfl)
 refine lastO (i := 7) (N := none) HT_.out rfl rfl (by kernel_rfl) (by decide) (fun K_ hK_ => ?_)
 have hcell : w6.cell? ⟨G, 3, none⟩ = some (.slice Au n cu) := h6
 go_simp
 refine hK_.out _ _ ?_
 clear hK_ K_
 try simp only [Act.put, List.setIfInBounds_toArray, List.set_cons_zero, List.set_cons_succ]
 refine done_ (done_of HT_.out (by kernel_rfl)) ?_
 have hV := HV.out
 go_wp2
 refine ⟨rfl, .tuple #[], results_none rfl _ _ _, A2, c2, rfl, HB6.out.setCell (show w0.heap.size ≤ G by omega) _, ⟨by have := HK6.out.1; simpa using this, fun i hi h1 h2 => (Below.heap_setCell _ _ _ _ (show i ≠ G by omega)).trans (HK6.out.2 i hi h1 h2)⟩, by simpa using HS6.out, (Below.heap_setCell _ _ _ _ L7).trans Q4.out, (blk_set Q5.out 3 _).trans (by rfl), (Below.heap_setCell _ _ _ _ (show g ≠ G by omega)).trans QG.out, ?_, by rw [List.length_append, hV.len]; rfl⟩
 have e : encs Value.string (vs ++ [x]) = encs Value.string vs ++ [.string x] := by simp [encs]
 rw [e]
 exact own_move HO6.out (fun k hk => Below.heap_setCell _ _ _ _ (show k ≠ G by have := (HL6.out k hk).1; omega))
end Go.Proofs.Yteafilojjdfllaa
end
section
namespace Go.Proofs.Yteafilojjdfllaa
open Go Go.RowKit Go.Proofs.YteafilojjdfllaaW.PrintWords Go.Proofs.YteafilojjdfllaaW.PrintLast Go.Proofs.YteafilojjdfllaaW.PrintMore Go.Proofs.Yteafilojjdfllaa.PAll
set_option linter.unusedVariables false
set_option linter.unusedSimpArgs false
/-- is that byte next? -/
def nextB (c : UInt8) (r : List UInt8) : Bool := r.head? == some c
theorem pref_one (s : ByteArray) (i : Nat) (c : UInt8) (hi : i ≤ s.size) : prefB (s.extract i s.size) ⟨#[c]⟩ = nextB c (s.data.toList.drop i) := by
 have hz : (⟨#[c]⟩ : ByteArray).size = 1 := rfl
 have hs : (s.extract i s.size).size = s.size - i := by rw [ByteArray.size_extract]; omega
 unfold prefB nextB
 rw [hz, hs, ByteArray.toList_eq, ByteArray.toList_eq]
 have hd := ext_take (s.extract i s.size) 0 1
 rw [Nat.zero_add, List.drop_zero, ext_drop] at hd
 rw [hd]
 by_cases h : 1 ≤ s.size - i
 ·rw [decide_eq_true h, Bool.true_and, bN_drop s i (by omega)]
  by_cases e : bN s i = c <;> simp [e]
 ·rw [decide_eq_false h, List.drop_of_length_le (by simp; omega)]
  rfl
/-- behind a value -/
def restW (k : Nat) (r : List UInt8) : Option (List ByteArray × List UInt8) := if nextB 41 r = true then some ([], r.drop 1) else if nextB 44 r = true then valsW stepP k (r.drop 1) else none
theorem valsW_rest (k : Nat) (r : List UInt8) : valsW stepP (k + 1) r = match valW stepP r with
  | none => none
  | some (v, t) => (restW k t).map (fun q => (⟨v.toArray⟩ :: q.1, q.2)) := by
 rw [valsW]
 cases valW stepP r with
 | none => rfl
 | some p =>
  obtain ⟨v, t⟩ := p
  cases t with
  | nil => rfl
  | cons c t =>
   unfold restW nextB
   by_cases h1 : c = 41
   ·subst h1; rfl
   ·by_cases h2 : c = 44
    ·subst h2; simp
    ·simp [h1, h2]
def listV (r : List UInt8) : Option (List ByteArray × List UInt8) := if nextB 40 r = true then (if nextB 41 (r.drop 1) = true then some ([], r.drop 2) else valsW stepP 17 (r.drop 1)) else none
theorem next_lt {s : ByteArray} {i : Nat} {c : UInt8} (h : nextB c (s.data.toList.drop i) = true) : i + 1 ≤ s.size := by
 unfold nextB at h
 by_cases hi : i < s.size
 ·exact hi
 ·rw [List.drop_of_length_le (by simp; omega)] at h
  cases h
section
variable {w0 wn w w' : World} {g B G base : Nat} {s nm : ByteArray} {i j : Nat} {l : Int} {vs : List ByteArray} {n : Nat} {Au : Option Addr} {cu : Nat}
theorem VC.moved (h : VC w0 wn w g B G base s nm i l vs n Au cu) (HL : VL w0 wn g B G base) (hB : Below w0.heap.size w0 w') (hK : KeepBut w w' g none) (hP : PB w' g s j l) : VC w0 wn w' g B G base s nm j l vs n Au cu := by
 obtain ⟨L1, L2, L3, L4, L5, L6, L7⟩ := HL
 have hs := h.size
 exact ⟨hB, h.keep.trans hK (Or.inl rfl), Nat.le_trans hs hK.1, (hK.2 B (by omega) (by omega) (by simp)).trans h.box, (hK.2 G (by omega) (by omega) (by simp)).trans h.blk, hP,
  own_move h.own (fun k hk => hK.2 k (h.own.lt _ hk).2 (by have := (h.own.lt _ hk).1; omega) (by simp)), h.len⟩
theorem VC.drew (h : VC w0 wn w g B G base s nm i l vs n Au cu) : VC w0 wn w.drew g B G base s nm i l vs n Au cu :=
 ⟨below_drew h.below, h.keep.trans (KeepBut.of_below (below_drew (Below.refl w.heap.size w)) g none) (Or.inl rfl), h.size, h.box, h.blk, h.par, h.own, h.len⟩
end
/-- how a list of values ends -/
def LPost (w0 wn : World) (g B G base : Nat) (s nm : ByteArray) (l : Int) (Q : Option (List ByteArray × List UInt8)) (e : Ending) (w' : World) : Prop :=
 (Q = none ∧ e = .panicked badP ∧ Below w0.heap.size w0 w' ∧ KeepBut wn w' g none) ∨ ∃ vs r j A c, Q = some (vs, r) ∧ s.data.toList.drop j = r ∧ j ≤ s.size ∧ e = .returned (.tuple #[]) ∧ VC w0 wn w' g B G base s nm j l vs vs.length A c
set_option maxRecDepth 100000 in
set_option maxHeartbeats 32000000 in
/-- list, of values. -/
theorem list176v (w0 wn w : World) (g B G base : Nat) (s nm : ByteArray) (i : Nat) (l : Int) (Au : Option Addr) (cu : Nat) (HL : VL w0 wn g B G base) (hV : VC w0 wn w g B G base s nm i l [] 0 Au cu) (hi : i ≤ s.size) (hs : s.size ≤ 1000000000) (Q : Option (List ByteArray × List UInt8)) (hQ : listV (s.data.toList.drop i) = Q) :
  Calls Try.prog 176 #[.pointer (some ⟨g, 0, none⟩), .func (.func 188) #[] #[.pointer (some ⟨G, 0, none⟩), .pointer (some ⟨B, 0, none⟩)]] w (LPost w0 wn g B G base s nm l Q) := by
 have HV := Lib.hid hV
 have L1 := HL.g0
 have HLL := Lib.hid HL
 obtain ⟨b1, e1⟩ : ∃ b, nextB 40 (s.data.toList.drop i) = b := ⟨_, rfl⟩
 have H1 := Lib.hid (must187 w0 w g s i l ⟨#[40]⟩ b1 hi hs (by decide) ((pref_one s i 40 hi).trans e1) L1 hV.below hV.par)
 have HQ := Lib.hid hQ
 have E1 := Lib.hid e1
 clear hV hQ e1 HL
 go_enter Try.func176, Try.ntmps176
 go_wp2_with fail
 cases b1 with
 | false =>
  (with_reducible refine H1.out.mono ?_)
  rintro e w1 ⟨hb1, hk1, ⟨-, rfl⟩ | ⟨h, -⟩⟩
  ·exact ⟨rfl, Or.inl ⟨by rw [← HQ.out]; unfold listV; rw [E1.out]; rfl, rfl, hb1, HV.out.keep.trans hk1 (Or.inl rfl)⟩⟩
  ·cases h
 | true =>
  (with_reducible refine H1.out.mono ?_)
  rintro e w1 ⟨hb1, hk1, ⟨h, -⟩ | ⟨-, rfl, hp1⟩⟩
  ·cases h
  have HV1 := Lib.hid (HV.out.moved HLL.out hb1 hk1 hp1)
  have hi1 : i + 1 ≤ s.size := next_lt E1.out
  have HQ1 := Lib.hid (show (if nextB 41 (s.data.toList.drop (i + 1)) = true then some ([], s.data.toList.drop (i + 2)) else valsW stepP 17 (s.data.toList.drop (i + 1))) = Q by rw [← HQ.out]; unfold listV; rw [E1.out, if_pos rfl, List.drop_drop, List.drop_drop])
  obtain ⟨b2, e2⟩ : ∃ b, nextB 41 (s.data.toList.drop (i + 1)) = b := ⟨_, rfl⟩
  have H2 := Lib.hid (takes174 w0 w1 g s (i + 1) l ⟨#[41]⟩ b2 hi1 hs (by decide) ((pref_one s (i + 1) 41 hi1).trans e2) L1 HV1.out.below HV1.out.par)
  have E2 := Lib.hid e2
  clear hb1 hk1 hp1 H1 e2 HQ HV
  go_wp2_with fail
  (with_reducible refine H2.out.mono ?_)
  rintro e w2 ⟨rfl, hb2, hk2, hp2⟩
  cases b2 with
  | true =>
   have HV2 := Lib.hid (HV1.out.moved HLL.out hb2 hk2 hp2)
   clear hb2 hk2 hp2 H2
   go_wp2
   have hx : LPost w0 wn g B G base s nm l Q (.returned (.tuple #[])) w2 := Or.inr ⟨[], _, i + 2, _, _, by rw [← HQ1.out, if_pos E2.out], rfl, next_lt E2.out, rfl, HV2.out⟩
   first | exact bodyPost_ret (results_none rfl _ _ _) rfl hx | (simp only [Exit.inBlock, Exit.then]; exact bodyPost_ret (results_none rfl _ _ _) rfl hx) | exact ⟨rfl, .tuple #[], results_none rfl _ _ _, hx⟩
  | false =>
   have HV2 := Lib.hid (HV1.out.moved HLL.out hb2 hk2 hp2)
   have HQ2 := Lib.hid (show valsW stepP 17 (s.data.toList.drop (i + 1)) = Q by rw [← HQ1.out, if_neg (by rw [E2.out]; decide)])
   clear hb2 hk2 hp2 H2 HQ1 HV1
   cases hq : valW stepP (s.data.toList.drop (i + 1)) with
   | none =>
    have H3 := Lib.hid (value188n w0 wn w2 g B G base s nm (i + 1) l [] 0 Au cu HLL.out HV2.out (by decide) hi1 hs hq)
    have HQ3 := Lib.hid (show Q = none by rw [← HQ2.out, valsW_rest, hq])
    clear hq
    go_wp2_with fail
    (with_reducible refine H3.out.mono ?_)
    rintro e w3 ⟨rfl, hb3, hk3⟩
    exact ⟨rfl, Or.inl ⟨HQ3.out, rfl, hb3, hk3⟩⟩
   | some q =>
    obtain ⟨v, r⟩ := q
    obtain ⟨hr1, hr2⟩ := val_place hq
    obtain ⟨j, hj⟩ : ∃ j : Nat, s.size - r.length = j := ⟨_, rfl⟩
    obtain ⟨x, ex⟩ : ∃ x : ByteArray, (⟨v.toArray⟩ : ByteArray) = x := ⟨_, rfl⟩
    have H3 := Lib.hid (value188y w0 wn w2 g B G base s nm (i + 1) l [] 0 Au cu HLL.out HV2.out (by decide) hi1 hs v r j x ex hq (by omega))
    rw [hj] at hr2
    have HQ3 := Lib.hid (show Q = (restW 16 r).map (fun q => ([x] ++ q.1, q.2)) by rw [← HQ2.out, valsW_rest, hq, ← ex]; rfl)
    have HR := Lib.hid (And.intro hr2 (show j ≤ s.size by omega))
    clear hq ex hr1 hr2 hj
    go_wp2_with fail
    (with_reducible refine H3.out.mono ?_)
    rintro e w3 ⟨A3, c3, rfl, hv3⟩
    have HV3 := Lib.hid hv3
    clear hv3 H3
    go_wp2
    go_loopw [] (fun wr => ∃ (n p : Nat) (vs : List ByteArray) (rr : List UInt8) (A : Option Addr) (c : Nat), 1 ≤ n ∧ n ≤ 17 ∧ p ≤ s.size ∧ Hid (s.data.toList.drop p = rr) ∧ Hid (Q = (restW (17 - n) rr).map (fun q => (vs ++ q.1, q.2))) ∧ Hid (VC w0 wn wr g B G base s nm p l vs n A c))
     (fun wr => s.size - (intOf ((wr.cell? ⟨g, 1, none⟩).getD undef)).toNat)
    case atStart => exact ⟨1, j, [x], r, A3, c3, by decide, by decide, HR.out.2, Lib.hid HR.out.1, HQ3, HV3⟩
    case round =>
     obtain ⟨n, p, vs, rr, A, c, hn1, hn17, hp, HRR, HQr, HVr⟩ := hrel
     clear HV3 HQ3 HR HV2 HQ2
     obtain ⟨b3, e3⟩ : ∃ b, nextB 41 (s.data.toList.drop p) = b := ⟨_, rfl⟩
     have H4 := Lib.hid (takes174 w0 wr g s p l ⟨#[41]⟩ b3 hp hs (by decide) ((pref_one s p 41 hp).trans e3) L1 HVr.out.below HVr.out.par)
     have E3 := Lib.hid e3
     clear e3
     go_wp2_with fail
     (with_reducible refine H4.out.mono ?_)
     rintro e w4 ⟨rfl, hb4, hk4, hp4⟩
     have HV4 := Lib.hid (HVr.out.moved HLL.out hb4 hk4 hp4)
     clear hb4 hk4 hp4 H4
     cases b3 with
     | true =>
      have HQ4 := Lib.hid (show Q = some (vs, rr.drop 1) by rw [HQr.out]; unfold restW; rw [← HRR.out, if_pos E3.out]; simp)
      have hlen : vs.length = n := HV4.out.len
      subst hlen
      have hx : LPost w0 wn g B G base s nm l Q (.returned (.tuple #[])) w4 := Or.inr ⟨vs, _, p + 1, _, _, HQ4.out, by rw [← HRR.out, List.drop_drop], next_lt E3.out, rfl, HV4.out⟩
      go_wp2
      first | exact bodyPost_ret (results_none rfl _ _ _) rfl hx | (simp only [Exit.inBlock, Exit.then]; exact bodyPost_ret (results_none rfl _ _ _) rfl hx) | exact ⟨rfl, .tuple #[], results_none rfl _ _ _, hx⟩
     | false =>
      obtain ⟨b4, e4⟩ : ∃ b, nextB 44 (s.data.toList.drop p) = b := ⟨_, rfl⟩
      have H5 := Lib.hid (must187 w0 w4 g s p l ⟨#[44]⟩ b4 hp hs (by decide) ((pref_one s p 44 hp).trans e4) L1 HV4.out.below HV4.out.par)
      have E4 := Lib.hid e4
      clear e4
      go_wp2_with fail
      cases b4 with
      | false =>
       (with_reducible refine H5.out.mono ?_)
       rintro e w5 ⟨hb5, hk5, ⟨-, rfl⟩ | ⟨h, -⟩⟩
       ·exact ⟨rfl, Or.inl ⟨by rw [HQr.out]; unfold restW; rw [← HRR.out, if_neg (by rw [E3.out]; decide), if_neg (by rw [E4.out]; decide)]; rfl, rfl, hb5, HV4.out.keep.trans hk5 (Or.inl rfl)⟩⟩
       ·cases h
      | true =>
       (with_reducible refine H5.out.mono ?_)
       rintro e w5 ⟨hb5, hk5, ⟨h, -⟩ | ⟨-, rfl, hp5⟩⟩
       ·cases h
       have HV5 := Lib.hid (HV4.out.moved HLL.out hb5 hk5 hp5)
       have hp1 : p + 1 ≤ s.size := next_lt E4.out
       have HQ5 := Lib.hid (show Q = (valsW stepP (17 - n) (s.data.toList.drop (p + 1))).map (fun q => (vs ++ q.1, q.2)) by rw [HQr.out]; unfold restW; rw [← HRR.out, if_neg (by rw [E3.out]; decide), if_pos E4.out, List.drop_drop])
       clear hb5 hk5 hp5 H5 HV4
       by_cases h17 : 16 < n
       ·have H6 := Lib.hid (value188a w0 wn w5 g B G base s nm (p + 1) l vs n A c HLL.out HV5.out h17)
        have HQ6 := Lib.hid (show Q = none by rw [HQ5.out, show 17 - n = 0 by omega, valsW]; rfl)
        go_wp2_with fail
        (with_reducible refine H6.out.mono ?_)
        rintro e w6 ⟨rfl, hb6, hk6⟩
        exact ⟨rfl, Or.inl ⟨HQ6.out, rfl, hb6, hk6⟩⟩
       ·cases hq : valW stepP (s.data.toList.drop (p + 1)) with
        | none =>
         have H6 := Lib.hid (value188n w0 wn w5 g B G base s nm (p + 1) l vs n A c HLL.out HV5.out h17 hp1 hs hq)
         have HQ6 := Lib.hid (show Q = none by rw [HQ5.out, show 17 - n = (16 - n) + 1 by omega, valsW_rest, hq]; rfl)
         clear hq
         go_wp2_with fail
         (with_reducible refine H6.out.mono ?_)
         rintro e w6 ⟨rfl, hb6, hk6⟩
         exact ⟨rfl, Or.inl ⟨HQ6.out, rfl, hb6, hk6⟩⟩
        | some q =>
         obtain ⟨v2, r2⟩ := q
         obtain ⟨hr1, hr2⟩ := val_place hq
         obtain ⟨j2, hj2⟩ : ∃ j2 : Nat, s.size - r2.length = j2 := ⟨_, rfl⟩
         obtain ⟨x2, ex2⟩ : ∃ x : ByteArray, (⟨v2.toArray⟩ : ByteArray) = x := ⟨_, rfl⟩
         have H6 := Lib.hid (value188y w0 wn w5 g B G base s nm (p + 1) l vs n A c HLL.out HV5.out h17 hp1 hs v2 r2 j2 x2 ex2 hq (by omega))
         rw [hj2] at hr2
         have HQ6 := Lib.hid (show Q = (restW (17 - (n + 1)) r2).map (fun q => ((vs ++ [x2]) ++ q.1, q.2)) by
          rw [HQ5.out, show 17 - n = (17 - (n + 1)) + 1 by omega, valsW_rest, hq, ← ex2]
          simp only [Option.map_map]
          congr 1
          funext q
          simp)
         have hlt2 : p < j2 := by
          have h1 := (val_suffix hq).length_le
          rw [List.length_drop] at h1
          have h2 : s.data.toList.length = s.size := by simp
          omega
         have HR2 := Lib.hid (And.intro hr2 (show j2 ≤ s.size by omega))
         clear hq ex2 hr1 hr2 hj2
         go_wp2_with fail
         (with_reducible refine H6.out.mono ?_)
         rintro e w6 ⟨A6, c6, rfl, hv6⟩
         have HV6 := Lib.hid hv6
         clear hv6 H6
         go_wp2
         go_roundw
         case rel => exact ⟨n + 1, j2, vs ++ [x2], r2, A6, c6, by omega, by omega, HR2.out.2, Lib.hid HR2.out.1, HQ6, HV6⟩
         case measure =>
          have h1 := HVr.out.par.c1
          have h2 := HV6.out.par.c1
          have h3 := HR2.out.2
          rw [h1, h2]
          simp [intOf]
          omega
end Go.Proofs.Yteafilojjdfllaa
end
section
namespace Go.Proofs
set_option maxHeartbeats 2000000 in
set_option maxRecDepth 100000 in
theorem Try.stringslite_Index_one (s : ByteArray) (c : UInt8) (w : World) :
  Calls Try.prog 195 #[.string s, .string ⟨#[c]⟩] w fun e w' => e = .returned (.int .i64 (Lib.indexByte s.data.toList c)) ∧ w' = w := by
 go_enter Try.func195, Try.ntmps195
 go_wp2_with (go_at_call 168; refine (Try.stringslite_IndexByte _ _ _).mono ?_; rintro e w' ⟨rfl, rfl⟩)
 ·have h : ([c] == s.toList) = true := by assumption
  go_ret
  refine ⟨?_, rfl⟩
  have e : s.data.toList = [c] := by rw [← Lib.toList_data]; exact (beq_iff_eq.1 h).symm
  rw [e]
  simp [Lib.indexByte]
 ·go_ret
  exact ⟨rfl, rfl⟩
set_option maxHeartbeats 1000000 in
theorem Try.strings_Index_one (s : ByteArray) (c : UInt8) (w : World) :
  Calls Try.prog 193 #[.string s, .string ⟨#[c]⟩] w fun e w' => e = .returned (.int .i64 (Lib.indexByte s.data.toList c)) ∧ w' = w := by
 go_enter Try.func193, Try.ntmps193
 go_wp2_with (go_at_call 195; refine (Try.stringslite_Index_one _ _ _).mono ?_; rintro e w' ⟨rfl, rfl⟩)
 go_ret
 exact ⟨rfl, rfl⟩
set_option maxHeartbeats 1000000 in
theorem Try.strings_Contains_one (s : ByteArray) (c : UInt8) (w : World) :
  Calls Try.prog 186 #[.string s, .string ⟨#[c]⟩] w fun e w' => e = .returned (.bool (decide (0 ≤ Lib.indexByte s.data.toList c))) ∧ w' = w := by
 go_enter Try.func186, Try.ntmps186
 go_wp2_with (go_at_call 193; refine (Try.strings_Index_one _ _ _).mono ?_; rintro e w' ⟨rfl, rfl⟩)
 go_ret
 exact ⟨rfl, rfl⟩
namespace Yteafilojjdfllaa
/-- the four signs -/
def signB (c : UInt8) : Bool := decide (c = 61 ∨ c = 33 ∨ c = 94 ∨ c = 64)
theorem sign_index : ∀ n : Fin 256, decide (0 ≤ Lib.indexByte [61, 33, 94, 64] n.val.toUInt8) = signB n.val.toUInt8 := by decide +kernel
theorem cont186 (w : World) (c : UInt8) (b : Bool) (hb : signB c = b) : Calls Try.prog 186 #[.string ⟨#[61, 33, 94, 64]⟩, .string ⟨#[c]⟩] w fun e w' => e = .returned (.bool b) ∧ w' = w := by
 refine (Try.strings_Contains_one ⟨#[61, 33, 94, 64]⟩ c w).mono ?_
 rintro e w' ⟨rfl, rfl⟩
 refine ⟨?_, rfl⟩
 have h := sign_index ⟨c.toNat, c.toNat_lt⟩
 simp only [show c.toNat.toUInt8 = c from by simp] at h
 rw [← hb, ← h]
end Yteafilojjdfllaa
end Go.Proofs
end
section
namespace Go.Proofs.Yteafilojjdfllaa
open Go Go.RowKit Go.Proofs.YteafilojjdfllaaW.PrintWords Go.Proofs.YteafilojjdfllaaW.PrintLast Go.Proofs.YteafilojjdfllaaW.PrintMore Go.Proofs.Yteafilojjdfllaa.PAll
set_option linter.unusedVariables false
set_option linter.unusedSimpArgs false
theorem cutM_end (k : Nat) : cutM k [] = 0 := by cases k <;> rfl
theorem cutM_sign {k : Nat} {c : UInt8} {r : List UInt8} (h : signB c = true) : cutM k (c :: r) = 0 := by
 cases k with
 | zero => rfl
 | succ k => rw [cutM, if_pos (of_decide_eq_true h)]
theorem cutM_more {k : Nat} {c : UInt8} {r : List UInt8} (h : signB c = false) : cutM (k + 1) (c :: r) = cutM k r + 1 := by
 rw [cutM, if_neg (of_decide_eq_false h)]
theorem one_at (s : ByteArray) (j : Nat) (c : UInt8) (h : j < s.size) (hc : bN s j = c) : s.extract j (j + 1) = ⟨#[c]⟩ := by
 rw [ext_take, bN_drop s j h, hc]
 rfl
/-- are these two bytes next? -/
def next2 (c d : UInt8) (r : List UInt8) : Bool := r.take 2 == [c, d]
theorem pref_two (s : ByteArray) (i : Nat) (c d : UInt8) (hi : i ≤ s.size) : prefB (s.extract i s.size) ⟨#[c, d]⟩ = next2 c d (s.data.toList.drop i) := by
 have hz : (⟨#[c, d]⟩ : ByteArray).size = 2 := rfl
 have hs : (s.extract i s.size).size = s.size - i := by rw [ByteArray.size_extract]; omega
 unfold prefB next2
 rw [hz, hs, ByteArray.toList_eq, ByteArray.toList_eq]
 have hd := ext_take (s.extract i s.size) 0 2
 rw [Nat.zero_add, List.drop_zero, ext_drop] at hd
 rw [hd]
 by_cases h : 2 ≤ s.size - i
 ·rw [decide_eq_true h, Bool.true_and]
 ·rw [decide_eq_false h, Bool.false_and]
  symm
  have hl : ((s.data.toList.drop i).take 2).length ≠ 2 := by simp; omega
  exact beq_eq_false_iff_ne.2 (fun e => hl (by rw [e]; rfl))
theorem next2_lt {s : ByteArray} {i : Nat} {c d : UInt8} (h : next2 c d (s.data.toList.drop i) = true) : i + 2 ≤ s.size := by
 unfold next2 at h
 have h1 := congrArg List.length (eq_of_beq h)
 simp at h1
 omega
/-- behind a name -/
def tailW (n : ByteArray) (r : List UInt8) : Option (S25 × List UInt8) :=
 if nextB 61 r = true then (valW stepP (r.drop 1)).map (fun p => (⟨1, n, ⟨p.1.toArray⟩, [], []⟩, p.2))
 else if next2 33 61 r = true then (valW stepP (r.drop 2)).map (fun p => (⟨2, n, ⟨p.1.toArray⟩, [], []⟩, p.2))
 else if next2 94 61 r = true then (valW stepP (r.drop 2)).map (fun p => (⟨3, n, ⟨p.1.toArray⟩, [], []⟩, p.2))
 else if nextB 64 r = true then (listV (r.drop 1)).map (fun p => (⟨4, n, ⟨#[]⟩, p.1, []⟩, p.2))
 else none
theorem nextB_cons (x c : UInt8) (q : List UInt8) : (nextB x (c :: q) = true) = (c = x) := by unfold nextB; simp
theorem next2_cons (x y c : UInt8) (q : List UInt8) : (next2 x y (c :: q) = true) = (c = x ∧ q.head? = some y) := by unfold next2; cases q <;> simp
theorem namedW_tail (r : List UInt8) : namedW (cutM 33) stepP true r = tailW ⟨(r.take (cutM 33 r)).toArray⟩ (r.drop (cutM 33 r)) := by
 unfold namedW
 generalize (⟨(r.take (cutM 33 r)).toArray⟩ : ByteArray) = n
 generalize r.drop (cutM 33 r) = q
 unfold tailW
 match q with
 | [] => rfl
 | c :: q =>
  simp only [nextB_cons, next2_cons, List.drop_succ_cons, List.drop_zero]
  by_cases h1 : c = 61
  ·rw [if_pos h1, if_pos h1]
  rw [if_neg h1, if_neg h1]
  by_cases h2 : c = 33
  ·subst h2
   rw [if_pos rfl]
   match q with
   | [] => simp
   | e :: q =>
    by_cases he : e = 61
    ·subst he; simp
    ·simp [he]
  rw [if_neg h2, if_neg (show ¬ (c = 33 ∧ q.head? = some 61) from fun h => h2 h.1)]
  by_cases h3 : c = 94
  ·subst h3
   rw [if_pos rfl]
   match q with
   | [] => simp
   | e :: q =>
    by_cases he : e = 61
    ·subst he; simp
    ·simp [he]
  rw [if_neg h3, if_neg (show ¬ (c = 94 ∧ q.head? = some 61) from fun h => h3 h.1)]
  by_cases h4 : c = 64
  ·rw [if_pos h4, if_pos h4]
   unfold listV
   match q with
   | [] => rfl
   | e :: q =>
    simp only [nextB_cons, List.drop_succ_cons, List.drop_zero]
    by_cases he : e = 40
    ·subst he
     rw [if_pos rfl, if_pos rfl]
     by_cases hq : q.head? = some 41
     ·rw [if_pos ⟨trivial, hq⟩, if_pos (by unfold nextB; rw [hq]; rfl)]
      rfl
     ·rw [if_neg (fun h => hq h.2), if_neg (by unfold nextB; simpa using hq)]
    ·rw [if_neg he, if_neg he]
     rfl
  ·rw [if_neg h4, if_neg h4]
end Go.Proofs.Yteafilojjdfllaa
end
section
namespace Go.Proofs.Yteafilojjdfllaa
open Go Go.RowKit Go.Proofs.YteafilojjdfllaaW.PrintWords Go.Proofs.YteafilojjdfllaaW.PrintLast Go.Proofs.YteafilojjdfllaaW.PrintMore Go.Proofs.Yteafilojjdfllaa.PAll
set_option linter.unusedVariables false
set_option linter.unusedSimpArgs false
/-- behind a kid -/
def restK (cut : List UInt8 → Nat) (step : List UInt8 → Step) (emp : Bool) (d k left : Nat) (r : List UInt8) : Option (List S25 × Nat × List UInt8) := if nextB 41 r = true then some ([], left, r.drop 1) else if nextB 44 r = true then readML cut step emp d k left (r.drop 1) else none
theorem readML_rest (cut : List UInt8 → Nat) (step : List UInt8 → Step) (emp : Bool) (d k left : Nat) (r : List UInt8) : readML cut step emp d (k + 1) left r = match readM cut step emp d left r with
  | none => none
  | some (m, l1, t) => (restK cut step emp d k l1 t).map (fun q => (m :: q.1, q.2)) := by
 rw [readML]
 show (match readM cut step emp d left r with
  | none => none
  | some (_, _, []) => none
  | some (m, left1, c :: t) => _) = _
 cases readM cut step emp d left r with
 | none => rfl
 | some p =>
  obtain ⟨m, l1, t⟩ := p
  cases t with
  | nil => rfl
  | cons c t =>
   unfold restK nextB
   by_cases h1 : c = 41
   ·subst h1; rfl
   ·by_cases h2 : c = 44
    ·subst h2; simp
    ·simp [h1, h2]
def listK (cut : List UInt8 → Nat) (step : List UInt8 → Step) (emp : Bool) (d left : Nat) (r : List UInt8) : Option (List S25 × Nat × List UInt8) := if nextB 40 r = true then (if nextB 41 (r.drop 1) = true then some ([], left, r.drop 2) else readML cut step emp d 65 left (r.drop 1)) else none
theorem readM_step (cut : List UInt8 → Nat) (step : List UInt8 → Step) (emp : Bool) (d left : Nat) (r : List UInt8) (h0 : namedW cut step emp [] = none) : readM cut step emp (d + 1) (left + 1) r =
  if nextB 42 r = true then some (⟨0, ⟨#[]⟩, ⟨#[]⟩, [], []⟩, left, r.drop 1)
  else if nextB 38 r = true then (listK cut step emp d left (r.drop 1)).map (fun p => (⟨5, ⟨#[]⟩, ⟨#[]⟩, [], p.1⟩, p.2))
  else if nextB 124 r = true then (listK cut step emp d left (r.drop 1)).map (fun p => (⟨6, ⟨#[]⟩, ⟨#[]⟩, [], p.1⟩, p.2))
  else if nextB 33 r = true then (listK cut step emp d left (r.drop 1)).map (fun p => (⟨7, ⟨#[]⟩, ⟨#[]⟩, [], p.1⟩, p.2))
  else (namedW cut step emp r).map (fun p => (p.1, left, p.2)) := by
 match r with
 | [] =>
  rw [readM.eq_def, h0]
  rfl
 | c :: r =>
  have hlist : ∀ (op : Int), (match r with
   | [] => none
   | e :: q => if e = 40 then (if q.head? = some 41 then some ((⟨op, ⟨#[]⟩, ⟨#[]⟩, [], []⟩ : S25), left, q.drop 1)
     else (readML cut step emp d 65 left q).map (fun p => ((⟨op, ⟨#[]⟩, ⟨#[]⟩, [], p.1⟩ : S25), p.2))) else none) = (listK cut step emp d left r).map (fun p => (⟨op, ⟨#[]⟩, ⟨#[]⟩, [], p.1⟩, p.2)) := by
   intro op
   unfold listK
   match r with
   | [] => rfl
   | e :: q =>
    simp only [nextB_cons, List.drop_succ_cons, List.drop_zero]
    by_cases he : e = 40
    ·subst he
     rw [if_pos rfl, if_pos rfl]
     by_cases hq : q.head? = some 41
     ·rw [if_pos hq, if_pos (by unfold nextB; rw [hq]; rfl)]
      rfl
     ·rw [if_neg hq, if_neg (by unfold nextB; simpa using hq)]
    ·rw [if_neg he, if_neg he]
     rfl
  have hn : ∀ x : UInt8, (nextB x (c :: r) = true) = (c = x) := fun x => by unfold nextB; simp
  show readM cut step emp (d + 1) (left + 1) (c :: r) = _
  rw [readM_cons]
  simp only [hn, List.drop_succ_cons, List.drop_zero]
  by_cases h4 : c = 42
  ·rw [if_pos h4, if_pos h4]
  rw [if_neg h4, if_neg h4]
  by_cases h1 : c = 38
  ·subst h1
   rw [if_pos (Or.inl rfl), if_pos rfl]
   exact hlist 5
  by_cases h2 : c = 124
  ·subst h2
   rw [if_pos (Or.inr (Or.inl rfl)), if_neg h1, if_pos rfl]
   exact hlist 6
  by_cases h3 : c = 33
  ·subst h3
   rw [if_pos (Or.inr (Or.inr rfl)), if_neg h1, if_neg h2, if_pos rfl]
   exact hlist 7
  rw [if_neg (show ¬ (c = 38 ∨ c = 124 ∨ c = 33) by rintro (h | h | h) <;> contradiction), if_neg h1, if_neg h2, if_neg h3]
end Go.Proofs.Yteafilojjdfllaa
end
section
namespace Go.Proofs.Yteafilojjdfllaa
open Go Go.RowKit Go.Proofs.YteafilojjdfllaaW.PrintWords Go.Proofs.YteafilojjdfllaaW.PrintLast Go.Proofs.YteafilojjdfllaaW.PrintMore Go.Proofs.Yteafilojjdfllaa.PAll
set_option linter.unusedVariables false
set_option linter.unusedSimpArgs false
theorem cutM_le : ∀ (k : Nat) (r : List UInt8), cutM k r ≤ r.length
 | 0, r => by rw [cutM]; exact Nat.zero_le _
 | k + 1, [] => by rw [cutM_end]; exact Nat.zero_le _
 | k + 1, c :: r => by
  rw [cutM]
  have := cutM_le k r
  split <;> simp <;> omega
theorem ct_next {ct p i : Nat} {c : UInt8} {r : List UInt8} (hip : i ≤ p) (h32 : p - i ≤ 32) (h : ct = (p - i) + cutM (33 - (p - i)) (c :: r)) (hs : signB c = false) : ct = (p + 1 - i) + cutM (33 - (p + 1 - i)) r ∧ i ≤ p + 1 ∧ p + 1 ≤ i + 33 := by
 obtain ⟨k, hk⟩ : ∃ k, 33 - (p - i) = k + 1 := ⟨32 - (p - i), by omega⟩
 rw [hk, cutM_more hs] at h
 rw [show 33 - (p + 1 - i) = k by omega]
 omega
theorem ct_sign {ct p i e : Nat} {c : UInt8} {r : List UInt8} (hip : i ≤ p) (h : ct = (p - i) + cutM (33 - (p - i)) (c :: r)) (hs : signB c = true) (he : i + ct = e) : p = e := by
 rw [cutM_sign hs] at h
 omega
/-- the parser's block, as an object -/
abbrev pObj (s : ByteArray) (j : Nat) (l : Int) : Obj := .cells #[.string s, .int .i64 (j : Int), .int .i64 l] 172 (0, 0)
/-- the result is laid into its block: what is said of the end -/
theorem nam_tail {w0 w W : World} {g K : Nat} {o : Obj} {m : S25} {A3 A4 : Option Addr} {c3 c4 : Nat} (hK : w.heap.size ≤ K) (hb : W.heap[K]? = some (.cells Z5 25 (0, 0))) (hg : w0.heap.size ≤ g) (hgl : g < w.heap.size) (hw0 : w0.heap.size ≤ w.heap.size) (hB : Below w0.heap.size w0 W) (hKB : KeepBut w W g none) (hO : W.heap[g]? = some o) (hM : MF W (fun b => K < b ∧ b < W.heap.size) m A3 c3 A4 c4) :
  (((((W.setCell ⟨K, 0, none⟩ (.int .i64 m.f0)).setCell ⟨K, 1, none⟩ (.string m.f1)).setCell ⟨K, 2, none⟩ (.string m.f2)).setCell ⟨K, 3, none⟩ (.slice A3 m.f3.length c3)).setCell ⟨K, 4, none⟩ (.slice A4 m.f4.length c4)).heap[K]? = some (.cells #[.int .i64 m.f0, .string m.f1, .string m.f2, .slice A3 m.f3.length c3, .slice A4 m.f4.length c4] 25 (0, 0)) ∧
  RedPost w0 w g (some (m, o)) (.returned (mV m A3 c3 A4 c4)) (((((W.setCell ⟨K, 0, none⟩ (.int .i64 m.f0)).setCell ⟨K, 1, none⟩ (.string m.f1)).setCell ⟨K, 2, none⟩ (.string m.f2)).setCell ⟨K, 3, none⟩ (.slice A3 m.f3.length c3)).setCell ⟨K, 4, none⟩ (.slice A4 m.f4.length c4)) := by
 have far : ∀ i, i ≠ K → (((((W.setCell ⟨K, 0, none⟩ (.int .i64 m.f0)).setCell ⟨K, 1, none⟩ (.string m.f1)).setCell ⟨K, 2, none⟩ (.string m.f2)).setCell ⟨K, 3, none⟩ (.slice A3 m.f3.length c3)).setCell ⟨K, 4, none⟩ (.slice A4 m.f4.length c4)).heap[i]? = W.heap[i]? := fun i hne =>
  (Below.heap_setCell _ _ _ _ hne).trans ((Below.heap_setCell _ _ _ _ hne).trans ((Below.heap_setCell _ _ _ _ hne).trans ((Below.heap_setCell _ _ _ _ hne).trans (Below.heap_setCell _ _ _ _ hne))))
 have hwK : w0.heap.size ≤ K := by omega
 have hs : ∀ x0 x1 x2 x3 x4, (((((W.setCell ⟨K, 0, none⟩ x0).setCell ⟨K, 1, none⟩ x1).setCell ⟨K, 2, none⟩ x2).setCell ⟨K, 3, none⟩ x3).setCell ⟨K, 4, none⟩ x4).heap.size = W.heap.size := fun _ _ _ _ _ => by simp
 refine ⟨(blk_set (blk_set (blk_set (blk_set (blk_set hb 0 _) 1 _) 2 _) 3 _) 4 _).trans (by rfl), ?_, ?_, Or.inr ⟨m, o, A3, c3, A4, c4, rfl, rfl, ?_, ?_⟩⟩
 ·exact ((((hB.setCell hwK _).setCell hwK _).setCell hwK _).setCell hwK _).setCell hwK _
 ·refine ⟨by rw [hs]; exact hKB.1, fun i hi h1 h2 => ?_⟩
  exact (far i (by omega)).trans (hKB.2 i hi h1 h2)
 ·refine hM.move (fun b hb => ⟨⟨by omega, by rw [hs]; exact hb.2⟩, far b (by omega)⟩)
 ·exact (far g (by omega)).trans hO
/-- the world while a matcher that begins with a name is read -/
structure NS (w0 wn W : World) (g B K G : Nat) (s nm : ByteArray) (j : Nat) (l op : Int) : Prop where
 below : Below w0.heap.size w0 W
 keep : KeepBut wn W g none
 size : G < W.heap.size
 box : W.heap[B]? = some (.cells #[.pointer (some ⟨g, 0, none⟩)] 170 (0, 0))
 res : W.heap[K]? = some (.cells Z5 25 (0, 0))
 blk : W.heap[G]? = some (.cells #[.int .i64 op, .string nm, .string ⟨#[]⟩, .slice none 0 0, .slice none 0 0] 25 (0, 0))
 par : PB W g s j l
/-- where these lie -/
structure NL (w0 w wn : World) (g B K G : Nat) : Prop where
 g0 : w0.heap.size ≤ g
 gl : g < w.heap.size
 w0l : w0.heap.size ≤ w.heap.size
 eB : w.heap.size = B
 eK : B + 1 = K
 eG : wn.heap.size = G
 lK : K + 1 ≤ G
section
variable {w0 w wn W W' : World} {g B K G : Nat} {s nm : ByteArray} {i j : Nat} {l op : Int}
theorem NS.moved (h : NS w0 wn W g B K G s nm i l op) (L : NL w0 w wn g B K G) (hB : Below w0.heap.size w0 W') (hK : KeepBut W W' g none) (hP : PB W' g s j l) : NS w0 wn W' g B K G s nm j l op := by
 obtain ⟨L1, L2, L0, L3, L4, L5, L6⟩ := L
 have hs := h.size
 have hs2 := hK.1
 exact ⟨hB, h.keep.trans hK (Or.inl rfl), by omega, (hK.2 B (by omega) (by omega) (by simp)).trans h.box, (hK.2 K (by omega) (by omega) (by simp)).trans h.res, (hK.2 G (by omega) (by omega) (by simp)).trans h.blk, hP⟩
theorem NS.setop (h : NS w0 wn W g B K G s nm i l op) (L : NL w0 w wn g B K G) (o : Int) : NS w0 wn (W.setCell ⟨G, 0, none⟩ (.int .i64 o)) g B K G s nm i l o := by
 obtain ⟨L1, L2, L0, L3, L4, L5, L6⟩ := L
 have hk := h.keep
 exact ⟨h.below.setCell (show w0.heap.size ≤ G by omega) _, ⟨by simpa using hk.1, fun i hi h1 h2 => (Below.heap_setCell _ _ _ _ (show i ≠ G by omega)).trans (hk.2 i hi h1 h2)⟩, by simpa using h.size,
  (Below.heap_setCell _ _ _ _ (show B ≠ G by omega)).trans h.box, (Below.heap_setCell _ _ _ _ (show K ≠ G by omega)).trans h.res, (blk_set h.blk 0 _).trans (by rfl), (Below.heap_setCell _ _ _ _ (show g ≠ G by omega)).trans h.par⟩
theorem NS.cB (h : NS w0 wn W g B K G s nm i l op) : W.cell? ⟨B, 0, none⟩ = some (.pointer (some ⟨g, 0, none⟩)) := (blk_cell h.box 0).trans rfl
theorem NS.zG (h : NS w0 wn W g B K G s nm i l op) (k : Nat) : W.frozen? ⟨G, k, none⟩ = false := blk_frozen h.blk k
theorem NS.zK (h : NS w0 wn W g B K G s nm i l op) (k : Nat) : W.frozen? ⟨K, k, none⟩ = false := blk_frozen h.res k
theorem NS.c0 (h : NS w0 wn W g B K G s nm i l op) : W.cell? ⟨G, 0, none⟩ = some (.int .i64 op) := (blk_cell h.blk 0).trans rfl
theorem NS.c1 (h : NS w0 wn W g B K G s nm i l op) : W.cell? ⟨G, 1, none⟩ = some (.string nm) := (blk_cell h.blk 1).trans rfl
theorem NS.c2 (h : NS w0 wn W g B K G s nm i l op) : W.cell? ⟨G, 2, none⟩ = some (.string ⟨#[]⟩) := (blk_cell h.blk 2).trans rfl
theorem NS.c3 (h : NS w0 wn W g B K G s nm i l op) : W.cell? ⟨G, 3, none⟩ = some (.slice none 0 0) := (blk_cell h.blk 3).trans rfl
theorem NS.c4 (h : NS w0 wn W g B K G s nm i l op) : W.cell? ⟨G, 4, none⟩ = some (.slice none 0 0) := (blk_cell h.blk 4).trans rfl
theorem NS.k0 (h : NS w0 wn W g B K G s nm i l op) : W.cell? ⟨K, 0, none⟩ = some (.int .i64 0) := (blk_cell h.res 0).trans rfl
theorem NS.k1 (h : NS w0 wn W g B K G s nm i l op) : W.cell? ⟨K, 1, none⟩ = some (.string ⟨#[]⟩) := (blk_cell h.res 1).trans rfl
theorem NS.k2 (h : NS w0 wn W g B K G s nm i l op) : W.cell? ⟨K, 2, none⟩ = some (.string ⟨#[]⟩) := (blk_cell h.res 2).trans rfl
theorem NS.k3 (h : NS w0 wn W g B K G s nm i l op) : W.cell? ⟨K, 3, none⟩ = some (.slice none 0 0) := (blk_cell h.res 3).trans rfl
theorem NS.k4 (h : NS w0 wn W g B K G s nm i l op) : W.cell? ⟨K, 4, none⟩ = some (.slice none 0 0) := (blk_cell h.res 4).trans rfl
end
noncomputable def tabR175_2 : Bool × List (List Nat × List Nat) := rtab .any (opsOf Try.f175 2)
theorem tabR175_2_eq : rtab .any (opsOf Try.f175 2) = tabR175_2 := rfl
set_option maxRecDepth 100000 in
set_option maxHeartbeats 64000000 in
/-- named. -/
theorem named175 (w0 w : World) (g : Nat) (s : ByteArray) (i : Nat) (l : Int) (hi : i ≤ s.size) (hs : s.size ≤ 1000000000) (hg : w0.heap.size ≤ g) (hB : Below w0.heap.size w0 w) (hP : PB w g s i l) :
  Calls Try.prog 175 #[.pointer (some ⟨g, 0, none⟩)] w (RedPost w0 w g ((namedW (cutM 33) stepP true (s.data.toList.drop i)).map fun q => (q.1, pObj s (s.size - q.2.length) l))) := by
 obtain ⟨ct, hct⟩ : ∃ ct, cutM 33 (s.data.toList.drop i) = ct := ⟨_, rfl⟩
 obtain ⟨e, he⟩ : ∃ e, i + ct = e := ⟨_, rfl⟩
 obtain ⟨nm, hnm⟩ : ∃ nm : ByteArray, s.extract i e = nm := ⟨_, rfl⟩
 obtain ⟨Q, hQ⟩ : ∃ Q, tailW nm (s.data.toList.drop e) = Q := ⟨_, rfl⟩
 have hQ0 : namedW (cutM 33) stepP true (s.data.toList.drop i) = Q := by
  rw [namedW_tail, hct, List.drop_drop, he, ← ext_take, he, hnm, hQ]
 rw [hQ0]
 have HQ := Lib.hid hQ
 have HCT := Lib.hid hct
 have HE := Lib.hid he
 have HNM := Lib.hid hnm
 have HB := Lib.hid hB
 have HPP := Lib.hid hP
 have HWS := Lib.hid hB.size
 have p1 := hP.c1
 have hgl := hP.lt
 have HGL := Lib.hid hgl
 clear hQ hQ0 hB hP hct he hnm
 go_enter Try.func175, Try.ntmps175
 go_upto_block 0 with fail
 obtain ⟨V, eV⟩ : ∃ V, V = (w.alloc (.cells #[.pointer (some ⟨g, 0, none⟩)] 170)).alloc (.cells Z5 25) := ⟨_, rfl⟩
 rw [← eV]
 obtain ⟨B, eB⟩ : ∃ B, w.heap.size = B := ⟨_, rfl⟩
 obtain ⟨K, eK⟩ : ∃ K, B + 1 = K := ⟨_, rfl⟩
 rw [eB, eK]
 have HBV : Hid (Below w.heap.size w V) := Lib.hid (by rw [eV]; exact below_alloc (below_alloc (Below.refl _ _) _) _)
 have HVB : Hid (V.heap[B]? = some (.cells #[.pointer (some ⟨g, 0, none⟩)] 170 (0, 0))) := Lib.hid (by
  rw [eV, ← eB]
  exact (Below.heap_alloc _ _ _ (blk_lt (blk_new w _))).trans (blk_new w _))
 have HVK : Hid (V.heap[K]? = some (.cells Z5 25 (0, 0))) := Lib.hid (by
  rw [eV, ← eK, ← eB]
  have h := blk_new (w.alloc (.cells #[.pointer (some ⟨g, 0, none⟩)] 170)) (.cells Z5 25)
  rwa [World.size_alloc] at h)
 have HVS : Hid (K + 1 ≤ V.heap.size) := Lib.hid (by rw [eV, World.size_alloc, World.size_alloc]; omega)
 have EB := Lib.hid eB
 have EK := Lib.hid eK
 have HGB := Lib.hid (show B ≠ g by omega)
 have HGK := Lib.hid (show K ≠ g by omega)
 clear eV
 go_cut [] from 9 to 52 (fun wx => Hid (PB wx g s e l) ∧ Hid (wx.heap[B]? = some (.cells #[.pointer (some ⟨g, 0, none⟩)] 170 (0, 0))) ∧ Hid (wx.heap[K]? = some (.cells Z5 25 (0, 0))) ∧ Hid (Below w0.heap.size w0 wx) ∧ Hid (KeepBut w wx g none) ∧ Hid (K + 1 ≤ wx.heap.size))
 case first =>
  go_wp2_with fail
  go_loopw [] (fun wr => ∃ (p : Nat), i ≤ p ∧ p ≤ s.size ∧ p ≤ i + 33 ∧ Hid (ct = (p - i) + cutM (33 - (p - i)) (s.data.toList.drop p)) ∧ Hid (wr.heap[B]? = some (.cells #[.pointer (some ⟨g, 0, none⟩)] 170 (0, 0))) ∧ Hid (wr.heap[K]? = some (.cells Z5 25 (0, 0))) ∧ Hid (PB wr g s p l) ∧ Hid (Below w0.heap.size w0 wr) ∧ Hid (KeepBut w wr g none) ∧ Hid (K + 1 ≤ wr.heap.size))
   (fun wr => s.size - (intOf ((wr.cell? ⟨g, 1, none⟩).getD undef)).toNat)
  case atStart => exact ⟨i, Nat.le_refl _, hi, by omega, Lib.hid (by rw [Nat.sub_self, Nat.zero_add]; exact HCT.out.symm), HVB, HVK, Lib.hid (HPP.out.below HBV.out), Lib.hid (below_step HB.out HBV.out), Lib.hid (KeepBut.of_below HBV.out g none), HVS⟩
  case round =>
   obtain ⟨p, hip, hp, hp33, HC, HBX, HKX, HPX, HBW, HKW, HSZ⟩ := hrel
   have fin : Hid (∀ W, Below wr.heap.size wr W → p = e → (Hid (PB W g s e l) ∧ Hid (W.heap[B]? = some (.cells #[.pointer (some ⟨g, 0, none⟩)] 170 (0, 0))) ∧ Hid (W.heap[K]? = some (.cells Z5 25 (0, 0))) ∧ Hid (Below w0.heap.size w0 W) ∧ Hid (KeepBut w W g none) ∧ Hid (K + 1 ≤ W.heap.size))) := Lib.hid (fun W hb hpe => by
    rw [← hpe]
    exact ⟨Lib.hid (HPX.out.below hb), Lib.hid ((hb.block B (blk_lt HBX.out)).trans HBX.out), Lib.hid ((hb.block K (blk_lt HKX.out)).trans HKX.out), Lib.hid (below_step HBW.out hb), Lib.hid (HKW.out.trans (KeepBut.of_below hb g none) (Or.inl rfl)), Lib.hid (Nat.le_trans HSZ.out hb.size)⟩)
   have g0 := HPX.out.c0
   have g1 := HPX.out.c1
   have gB : wr.cell? ⟨B, 0, none⟩ = some (.pointer (some ⟨g, 0, none⟩)) := (blk_cell HBX.out 0).trans rfl
   have hw1 : wrap64 ((p : Int) - (i : Int)) = (p : Int) - (i : Int) := by unfold wrap64; omega
   by_cases hlt : p < s.size
   ·have dl : decide (p < s.size) = true := decide_eq_true hlt
    have dlI : decide ((p : Int) < (s.size : Int)) = true := decide_eq_true (by omega)
    by_cases h32 : p - i ≤ 32
    ·have d32 : decide ((p : Int) - (i : Int) ≤ 32) = true := decide_eq_true (by omega)
     obtain ⟨c, hc⟩ : ∃ c, bN s p = c := ⟨_, rfl⟩
     obtain ⟨b, hb⟩ : ∃ b, signB c = b := ⟨_, rfl⟩
     have hsl : s.extract p (p + 1) = ⟨#[c]⟩ := one_at s p c hlt hc
     have HX := Lib.hid hc
     have HSB := Lib.hid hb
     have hp1 : wrap64 ((p : Int) + 1) = ((p + 1 : Nat) : Int) := by unfold wrap64; omega
     have hp0 : (0 : Int) ≤ (p : Int) + 1 := Int.natCast_nonneg (p + 1)
     have hpp : (p : Int) ≤ (p : Int) + 1 := Int.ofNat_le.2 (Nat.le_succ p)
     have hpI : (p : Int) + 1 ≤ (s.size : Int) := Int.ofNat_le.2 (show p + 1 ≤ s.size from hlt)
     clear hc hb
     cases b with
     | true =>
      go_wp2_with fail
      have f0 := fun W (hb : Below wr.heap.size wr W) => pw_cell_below hb g0
      have f1 := fun W (hb : Below wr.heap.size wr W) => pw_cell_below hb g1
      have fB := fun W (hb : Below wr.heap.size wr W) => pw_cell_below hb gB
      refine start_ (n := 37) (S := fun W => Below wr.heap.size wr W) (ds := []) (msk 37 [0, 1, 2, 3, 4, 5, 6, 7, 8, 9, 10, 15, 11, 12, 13, 14, 16, 17, 18, 19, 20, 21, 22, 23, 24, 25, 26, 27, 28, 29, 30, 31, 32, 33, 34, 35, 36] 0).toArray (by kernel_rfl) rfl rfl (below_drew (Below.refl _ _)) (fun hHeld => ?_)
      refine with_tab (T := tabR175_2) tabR175_2_eq (fun HT_ => ?_)
      iterate 34 (first | (refine pureO HT_.out (N := some _) (v := ?_) (a' := ?_) rfl rfl (by kernel_rfl) (fun _ _ _ h => h) (Or.inl ⟨by rfl, ?_⟩) ?_ ?_; rotate_left; intro w'; go_simp; (with_reducible rfl); rotate_left; simp only [Act.put, List.setIfInBounds_toArray, List.set_cons_zero, List.set_cons_succ, i64_w, i32_w]; rfl) | (refine takeO HT_.out (N := some _) (v := ?_) (a' := ?_) rfl rfl (by kernel_rfl) (fun _ _ _ h => h) (Or.inl ⟨by rfl, ?_⟩) hHeld ?_ ?_; rotate_left; intro w' hh; have q0 := f0 w' hh; have q1 := f1 w' hh; have qB := fB w' hh; go_simp; (with_reducible rfl); rotate_left; simp only [Act.put, List.setIfInBounds_toArray, List.set_cons_zero, List.set_cons_succ, i64_w, i32_w]; rfl))
      refine oneO (i := 34) (N := some 43) HT_.out rfl rfl (by kernel_rfl) (by decide) (fun K_ hK_ => ?_)
      refine goes_ Try.func186 (by kernel_rfl) rfl #[.string ⟨#[61, 33, 94, 64]⟩, .string ⟨#[c]⟩] (by rfl) rfl rfl (by (try simp only [List.map_toArray, List.map_cons, List.map_nil]); first | done | rfl) ?_
      (with_reducible refine (cont186 _ c true HSB.out).mono ?_)
      rintro e w9 ⟨rfl, rfl⟩
      refine ⟨_, rfl, ?_⟩
      refine hK_.out _ _ (hHeld) (fun hHeld => ?_)
      clear hK_ K_
      try simp only [Act.put, List.setIfInBounds_toArray, List.set_cons_zero, List.set_cons_succ]
      iterate 2 (refine pureO HT_.out (N := some _) (v := ?_) (a' := ?_) rfl rfl (by kernel_rfl) (fun _ _ _ h => h) (Or.inl ⟨by rfl, ?_⟩) ?_ ?_; rotate_left; intro w'; go_simp; (with_reducible rfl); rotate_left; simp only [Act.put, List.setIfInBounds_toArray, List.set_cons_zero, List.set_cons_succ, i64_w, i32_w]; rfl)
      refine done_ (done_of HT_.out (by kernel_rfl)) ?_
      clear f0 f1 fB
      go_wp2
      go_meet
      case rel => exact fin.out _ (by first | exact hHeld | exact below_drew (Below.refl _ _) | exact pw_below_drewN (Below.refl _ _) _) (ct_sign hip (by have h := HC.out; rwa [bN_drop s p hlt, HX.out] at h) HSB.out HE.out)
     | false =>
      go_wp2_with fail
      have f0 := fun W (hb : Below wr.heap.size wr W) => pw_cell_below hb g0
      have f1 := fun W (hb : Below wr.heap.size wr W) => pw_cell_below hb g1
      have fB := fun W (hb : Below wr.heap.size wr W) => pw_cell_below hb gB
      refine start_ (n := 37) (S := fun W => Below wr.heap.size wr W) (ds := []) (msk 37 [0, 1, 2, 3, 4, 5, 6, 7, 8, 9, 10, 15, 11, 12, 13, 14, 16, 17, 18, 19, 20, 21, 22, 23, 24, 25, 26, 27, 28, 29, 30, 31, 32, 33, 34, 35, 36] 0).toArray (by kernel_rfl) rfl rfl (below_drew (Below.refl _ _)) (fun hHeld => ?_)
      refine with_tab (T := tabR175_2) tabR175_2_eq (fun HT_ => ?_)
      iterate 34 (first | (refine pureO HT_.out (N := some _) (v := ?_) (a' := ?_) rfl rfl (by kernel_rfl) (fun _ _ _ h => h) (Or.inl ⟨by rfl, ?_⟩) ?_ ?_; rotate_left; intro w'; go_simp; (with_reducible rfl); rotate_left; simp only [Act.put, List.setIfInBounds_toArray, List.set_cons_zero, List.set_cons_succ, i64_w, i32_w]; rfl) | (refine takeO HT_.out (N := some _) (v := ?_) (a' := ?_) rfl rfl (by kernel_rfl) (fun _ _ _ h => h) (Or.inl ⟨by rfl, ?_⟩) hHeld ?_ ?_; rotate_left; intro w' hh; have q0 := f0 w' hh; have q1 := f1 w' hh; have qB := fB w' hh; go_simp; (with_reducible rfl); rotate_left; simp only [Act.put, List.setIfInBounds_toArray, List.set_cons_zero, List.set_cons_succ, i64_w, i32_w]; rfl))
      refine oneO (i := 34) (N := some 43) HT_.out rfl rfl (by kernel_rfl) (by decide) (fun K_ hK_ => ?_)
      refine goes_ Try.func186 (by kernel_rfl) rfl #[.string ⟨#[61, 33, 94, 64]⟩, .string ⟨#[c]⟩] (by rfl) rfl rfl (by (try simp only [List.map_toArray, List.map_cons, List.map_nil]); first | done | rfl) ?_
      (with_reducible refine (cont186 _ c false HSB.out).mono ?_)
      rintro e w9 ⟨rfl, rfl⟩
      refine ⟨_, rfl, ?_⟩
      refine hK_.out _ _ (hHeld) (fun hHeld => ?_)
      clear hK_ K_
      try simp only [Act.put, List.setIfInBounds_toArray, List.set_cons_zero, List.set_cons_succ]
      iterate 2 (refine pureO HT_.out (N := some _) (v := ?_) (a' := ?_) rfl rfl (by kernel_rfl) (fun _ _ _ h => h) (Or.inl ⟨by rfl, ?_⟩) ?_ ?_; rotate_left; intro w'; go_simp; (with_reducible rfl); rotate_left; simp only [Act.put, List.setIfInBounds_toArray, List.set_cons_zero, List.set_cons_succ, i64_w, i32_w]; rfl)
      refine done_ (done_of HT_.out (by kernel_rfl)) ?_
      clear f0 f1 fB
      have HNX := Lib.hid (ct_next (ct := ct) (r := s.data.toList.drop (p + 1)) hip h32 (HC.out.trans (by rw [bN_drop s p hlt, HX.out])) HSB.out)
      have HPX1 := Lib.hid (HPX.out.below hHeld)
      have HBX1 := Lib.hid ((hHeld.block B (blk_lt HBX.out)).trans HBX.out)
      have HKX1 := Lib.hid ((hHeld.block K (blk_lt HKX.out)).trans HKX.out)
      have HBW1 := Lib.hid (below_step HBW.out hHeld)
      have HKW1 := Lib.hid (HKW.out.trans (KeepBut.of_below hHeld g none) (Or.inl rfl))
      have HSZ1 := Lib.hid (Nat.le_trans HSZ.out hHeld.size)
      have e1 := HPX1.out.c1
      have z1 := HPX1.out.z1
      have eB1 := (blk_cell HBX1.out 0)
      simp only [List.getElem?_toArray, List.getElem?_cons_zero] at eB1
      have hgB : B ≠ g := HGB.out
      have hgK : K ≠ g := HGK.out
      clear g0 g1 gB hp0 hpp hpI hsl hw1 hHeld
      go_wp2
      go_roundw
      case rel => exact ⟨p + 1, HNX.out.2.1, hlt, HNX.out.2.2, Lib.hid HNX.out.1, Lib.hid ((Below.heap_setCell _ _ _ _ hgB).trans HBX1.out), Lib.hid ((Below.heap_setCell _ _ _ _ hgK).trans HKX1.out), Lib.hid (HPX1.out.set1 (p + 1)), Lib.hid (HBW1.out.setCell hg _), Lib.hid (HKW1.out.set_ 1 _), Lib.hid (by have := HSZ1.out; simpa using this)⟩
      case measure => exact measS hlt HPX.out.c1 (HPX1.out.set1 (p + 1)).c1
    ·have d32 : decide ((p : Int) - (i : Int) ≤ 32) = false := decide_eq_false (by omega)
     go_wp2_with fail
     go_quiet (fail)
     go_wp2
     go_meet
     case rel => exact fin.out _ (by first | exact hHeld | exact below_drew (Below.refl _ _) | exact pw_below_drewN (Below.refl _ _) _) (by have h := HC.out; rw [show 33 - (p - i) = 0 by omega, cutM] at h; have := HE.out; omega)
   ·have dl : decide (p < s.size) = false := decide_eq_false hlt
    have dlI : decide ((p : Int) < (s.size : Int)) = false := decide_eq_false (by omega)
    go_wp2_with fail
    go_quiet (fail)
    go_wp2
    go_meet
    case rel => exact fin.out _ (by first | exact hHeld | exact below_drew (Below.refl _ _) | exact pw_below_drewN (Below.refl _ _) _) (by have h := HC.out; rw [List.drop_of_length_le (by simp; omega), cutM_end] at h; have := HE.out; omega)
 case rest =>
  obtain ⟨HPx, HBx, HKx, HB0, HK0, HSZ⟩ := hcut
  clear HVB HVK HBV HVS
  obtain ⟨G, eG⟩ : ∃ G, wc.heap.size = G := ⟨_, rfl⟩
  have HL := Lib.hid (show NL w0 w wc g B K G from ⟨hg, HGL.out, HWS.out, EB.out, EK.out, eG, by have := HSZ.out; omega⟩)
  obtain ⟨Z, eZ⟩ : ∃ Z, Z = wc.alloc (.cells Z5 25) := ⟨_, rfl⟩
  have hZB : Below wc.heap.size wc Z := by rw [eZ]; exact below_alloc (Below.refl _ _) _
  have g0 := HPx.out.c0
  have g1 := HPx.out.c1
  have gB : wc.cell? ⟨B, 0, none⟩ = some (.pointer (some ⟨g, 0, none⟩)) := (blk_cell HBx.out 0).trans rfl
  have y0 := (HPx.out.below hZB).c0
  have y1 := (HPx.out.below hZB).c1
  have yB : Z.cell? ⟨B, 0, none⟩ = some (.pointer (some ⟨g, 0, none⟩)) := (blk_cell ((hZB.block B (blk_lt HBx.out)).trans HBx.out) 0).trans rfl
  rw [eZ] at y0 y1 yB
  have hieI : (i : Int) ≤ (e : Int) := by have := HE.out; omega
  have hesI : (e : Int) ≤ (s.size : Int) := by have := cutM_le 33 (s.data.toList.drop i); rw [HCT.out] at this; have h2 := HE.out; simp at this; omega
  have hex := HNM.out
  go_wp2_with fail
  go_region
  obtain ⟨W4, eW4⟩ : ∃ W4, W4 = (wc.alloc (.cells #[.int .i64 0, .string nm, .string ⟨#[]⟩, .slice none 0 0, .slice none 0 0] 25)).drew := ⟨_, rfl⟩
  rw [← eW4]
  have hB4 : Below wc.heap.size wc W4 := by rw [eW4]; exact below_drew (below_alloc (Below.refl _ _) _)
  have HN4 : Hid (NS w0 wc W4 g B K G s nm e l 0) := Lib.hid ⟨below_step HB0.out hB4, KeepBut.of_below hB4 g none, by rw [eW4, World.size_drew, World.size_alloc]; omega, (hB4.block B (blk_lt HBx.out)).trans HBx.out, (hB4.block K (blk_lt HKx.out)).trans HKx.out, by rw [eW4, ← eG]; exact blk_new wc _, HPx.out.below hB4⟩
  have hes : e ≤ s.size := by omega
  have HQR : Hid (RedPost w0 w g none (.panicked badP) = RedPost w0 w g none (.panicked badP)) := Lib.hid rfl
  have HKc := HKx
  clear g0 g1 gB y0 y1 yB hieI hesI hex eZ hZB Z eW4 hB4 HPx HBx HKx HB0 p1 hgl eB eK HSZ
  have cB := HN4.out.cB
  have HNE := Lib.hid (show K ≠ G by have := HL.out.lK; omega)
  obtain ⟨b1, e1⟩ : ∃ b, nextB 61 (s.data.toList.drop e) = b := ⟨_, rfl⟩
  have H1 := Lib.hid (takes174 w0 W4 g s e l ⟨#[61]⟩ b1 hes hs (by decide) ((pref_one s e 61 hes).trans e1) hg HN4.out.below HN4.out.par)
  have E1 := Lib.hid e1
  clear e1
  go_wp2_with fail
  (with_reducible refine H1.out.mono ?_)
  rintro ee w5 ⟨rfl, hb5, hk5, hp5⟩
  cases b1 with
  | true =>
   have HN5 : Hid (NS w0 wc w5 g B K G s nm (e + 1) l 0) := Lib.hid (HN4.out.moved HL.out hb5 hk5 hp5)
   have HE5 : Hid (e + 1 ≤ s.size) := Lib.hid (next_lt E1.out)
   clear hb5 hk5 hp5 H1 cB
   have HNs := Lib.hid (HN5.out.setop HL.out 1)
   have c50 := HN5.out.c0
   have z50 := HN5.out.zG 0
   have cB6 := HNs.out.cB
   cases hq : valW stepP (s.data.toList.drop (e + 1)) with
   | none =>
    have H6 := Lib.hid (value189n w0 (w5.setCell ⟨G, 0, none⟩ (.int .i64 1)) g s (e + 1) l hq HE5.out hs hg HNs.out.below HNs.out.par)
    have HQ6 := Lib.hid (show Q = none by rw [← HQ.out]; unfold tailW; rw [if_pos E1.out, List.drop_drop]; rw [hq]; rfl)
    clear hq
    go_wp2_with fail
    (with_reducible refine H6.out.mono ?_)
    rintro ee w61 ⟨hb61, hk61, rfl⟩
    exact ⟨rfl, hb61, HK0.out.trans (HNs.out.keep.trans hk61 (Or.inl rfl)) (Or.inl rfl), Or.inl ⟨by rw [HQ6.out]; rfl, rfl⟩⟩
   | some q =>
    obtain ⟨v, r⟩ := q
    obtain ⟨hr1, hr2⟩ := val_place hq
    obtain ⟨j2, hj2⟩ : ∃ j2 : Nat, s.size - r.length = j2 := ⟨_, rfl⟩
    obtain ⟨x2, ex2⟩ : ∃ x : ByteArray, (⟨v.toArray⟩ : ByteArray) = x := ⟨_, rfl⟩
    have h6 := value189y w0 (w5.setCell ⟨G, 0, none⟩ (.int .i64 1)) g s (e + 1) l v r j2 hq (by omega) HE5.out hs hg HNs.out.below HNs.out.par
    rw [ex2] at h6
    have H6 := Lib.hid h6
    have HQ6 := Lib.hid (show Q = some (⟨1, nm, x2, [], []⟩, r) by rw [← HQ.out]; unfold tailW; rw [if_pos E1.out, List.drop_drop]; rw [hq, ← ex2]; rfl)
    have HJ2 := Lib.hid hj2
    clear hq hr1 hr2 hj2 ex2 h6
    go_wp2_with fail
    (with_reducible refine H6.out.mono ?_)
    rintro ee w71 ⟨hb71, hk71, rfl, hp71⟩
    have HNt := Lib.hid (HNs.out.moved HL.out hb71 hk71 hp71)
    have cB7 := HNt.out.cB
    have hKG : K ≠ G := HNE.out
    have hGK : G ≠ K := HNE.out.symm
    clear hb71 hk71 hp71 H6 c50 z50 cB6
    have y0 := HNt.out.c0
    have y1 := HNt.out.c1
    have y2 := HNt.out.c2
    have y3 := HNt.out.c3
    have y4 := HNt.out.c4
    have xk0 := HNt.out.k0
    have xk1 := HNt.out.k1
    have xk2 := HNt.out.k2
    have xk3 := HNt.out.k3
    have xk4 := HNt.out.k4
    have xz0 := HNt.out.zK 0
    have xz1 := HNt.out.zK 1
    have xz2 := HNt.out.zK 2
    have xz3 := HNt.out.zK 3
    have xz4 := HNt.out.zK 4
    have yz2 := HNt.out.zG 2
    go_wp2
    have h71 := HNt.out
    obtain ⟨L1, L2, L0, L3, L4, L5, L6⟩ := HL.out
    have hk71 := HK0.out.trans h71.keep (Or.inl rfl)
    have hT := nam_tail (m := ⟨1, nm, x2, [], []⟩) (A3 := none) (c3 := 0) (A4 := none) (c4 := 0) (W := w71.setCell ⟨G, 2, none⟩ (.string x2)) (w := w) (w0 := w0) (g := g) (K := K) (o := pObj s j2 l) (by omega) ((Below.heap_setCell _ _ _ _ hKG).trans h71.res) hg L2 L0 (h71.below.setCell (show w0.heap.size ≤ G by omega) _) ⟨by simpa using hk71.1, fun i hi h1 h2 => (Below.heap_setCell _ _ _ _ (show i ≠ G by omega)).trans (hk71.2 i hi h1 h2)⟩ ((Below.heap_setCell _ _ _ _ (show g ≠ G by omega)).trans h71.par) (fun X _ => ⟨Nat.le_refl _, Kd.C_nil _ _, Nat.le_refl _, Kd.C_nil _ _⟩)
    rw [HQ6.out]
    simp only [Option.map_some, HJ2.out]
    exact bodyPost_ret (results_single rfl (.cell K 25 _ (0, 0) _ rfl hT.1 Try.underlying25 rfl (by kernel_rfl) .nil)) rfl hT.2
  | false =>
   have HN5 : Hid (NS w0 wc w5 g B K G s nm e l 0) := Lib.hid (HN4.out.moved HL.out hb5 hk5 hp5)
   clear hb5 hk5 hp5 H1 cB HN4
   have cB := HN5.out.cB
   obtain ⟨b2, e2⟩ : ∃ b, next2 33 61 (s.data.toList.drop e) = b := ⟨_, rfl⟩
   have H2 := Lib.hid (takes174 w0 w5 g s e l ⟨#[33, 61]⟩ b2 hes hs (by decide) ((pref_two s e 33 61 hes).trans e2) hg HN5.out.below HN5.out.par)
   have E2 := Lib.hid e2
   clear e2
   go_wp2_with fail
   (with_reducible refine H2.out.mono ?_)
   rintro ee w6 ⟨rfl, hb6, hk6, hp6⟩
   cases b2 with
   | true =>
    have HN6 : Hid (NS w0 wc w6 g B K G s nm (e + 2) l 0) := Lib.hid (HN5.out.moved HL.out hb6 hk6 hp6)
    have HE5 : Hid (e + 2 ≤ s.size) := Lib.hid (next2_lt E2.out)
    clear hb6 hk6 hp6 H2 cB HN5
    have HNs := Lib.hid (HN6.out.setop HL.out 2)
    have c50 := HN6.out.c0
    have z50 := HN6.out.zG 0
    have cB6 := HNs.out.cB
    cases hq : valW stepP (s.data.toList.drop (e + 2)) with
    | none =>
     have H6 := Lib.hid (value189n w0 (w6.setCell ⟨G, 0, none⟩ (.int .i64 2)) g s (e + 2) l hq HE5.out hs hg HNs.out.below HNs.out.par)
     have HQ6 := Lib.hid (show Q = none by rw [← HQ.out]; unfold tailW; rw [if_neg (by rw [E1.out]; decide), if_pos E2.out, List.drop_drop]; rw [hq]; rfl)
     clear hq
     go_wp2_with fail
     (with_reducible refine H6.out.mono ?_)
     rintro ee w61 ⟨hb61, hk61, rfl⟩
     exact ⟨rfl, hb61, HK0.out.trans (HNs.out.keep.trans hk61 (Or.inl rfl)) (Or.inl rfl), Or.inl ⟨by rw [HQ6.out]; rfl, rfl⟩⟩
    | some q =>
     obtain ⟨v, r⟩ := q
     obtain ⟨hr1, hr2⟩ := val_place hq
     obtain ⟨j2, hj2⟩ : ∃ j2 : Nat, s.size - r.length = j2 := ⟨_, rfl⟩
     obtain ⟨x2, ex2⟩ : ∃ x : ByteArray, (⟨v.toArray⟩ : ByteArray) = x := ⟨_, rfl⟩
     have h6 := value189y w0 (w6.setCell ⟨G, 0, none⟩ (.int .i64 2)) g s (e + 2) l v r j2 hq (by omega) HE5.out hs hg HNs.out.below HNs.out.par
     rw [ex2] at h6
     have H6 := Lib.hid h6
     have HQ6 := Lib.hid (show Q = some (⟨2, nm, x2, [], []⟩, r) by rw [← HQ.out]; unfold tailW; rw [if_neg (by rw [E1.out]; decide), if_pos E2.out, List.drop_drop]; rw [hq, ← ex2]; rfl)
     have HJ2 := Lib.hid hj2
     clear hq hr1 hr2 hj2 ex2 h6
     go_wp2_with fail
     (with_reducible refine H6.out.mono ?_)
     rintro ee w71 ⟨hb71, hk71, rfl, hp71⟩
     have HNt := Lib.hid (HNs.out.moved HL.out hb71 hk71 hp71)
     have cB7 := HNt.out.cB
     have hKG : K ≠ G := HNE.out
     have hGK : G ≠ K := HNE.out.symm
     clear hb71 hk71 hp71 H6 c50 z50 cB6
     have y0 := HNt.out.c0
     have y1 := HNt.out.c1
     have y2 := HNt.out.c2
     have y3 := HNt.out.c3
     have y4 := HNt.out.c4
     have xk0 := HNt.out.k0
     have xk1 := HNt.out.k1
     have xk2 := HNt.out.k2
     have xk3 := HNt.out.k3
     have xk4 := HNt.out.k4
     have xz0 := HNt.out.zK 0
     have xz1 := HNt.out.zK 1
     have xz2 := HNt.out.zK 2
     have xz3 := HNt.out.zK 3
     have xz4 := HNt.out.zK 4
     have yz2 := HNt.out.zG 2
     go_wp2
     have h71 := HNt.out
     obtain ⟨L1, L2, L0, L3, L4, L5, L6⟩ := HL.out
     have hk71 := HK0.out.trans h71.keep (Or.inl rfl)
     have hT := nam_tail (m := ⟨2, nm, x2, [], []⟩) (A3 := none) (c3 := 0) (A4 := none) (c4 := 0) (W := w71.setCell ⟨G, 2, none⟩ (.string x2)) (w := w) (w0 := w0) (g := g) (K := K) (o := pObj s j2 l) (by omega) ((Below.heap_setCell _ _ _ _ hKG).trans h71.res) hg L2 L0 (h71.below.setCell (show w0.heap.size ≤ G by omega) _) ⟨by simpa using hk71.1, fun i hi h1 h2 => (Below.heap_setCell _ _ _ _ (show i ≠ G by omega)).trans (hk71.2 i hi h1 h2)⟩ ((Below.heap_setCell _ _ _ _ (show g ≠ G by omega)).trans h71.par) (fun X _ => ⟨Nat.le_refl _, Kd.C_nil _ _, Nat.le_refl _, Kd.C_nil _ _⟩)
     rw [HQ6.out]
     simp only [Option.map_some, HJ2.out]
     exact bodyPost_ret (results_single rfl (.cell K 25 _ (0, 0) _ rfl hT.1 Try.underlying25 rfl (by kernel_rfl) .nil)) rfl hT.2
   | false =>
    have HN6 : Hid (NS w0 wc w6 g B K G s nm e l 0) := Lib.hid (HN5.out.moved HL.out hb6 hk6 hp6)
    clear hb6 hk6 hp6 H2 cB HN5
    have cB := HN6.out.cB
    obtain ⟨b3, e3⟩ : ∃ b, next2 94 61 (s.data.toList.drop e) = b := ⟨_, rfl⟩
    have H3 := Lib.hid (takes174 w0 w6 g s e l ⟨#[94, 61]⟩ b3 hes hs (by decide) ((pref_two s e 94 61 hes).trans e3) hg HN6.out.below HN6.out.par)
    have E3 := Lib.hid e3
    clear e3
    go_wp2_with fail
    (with_reducible refine H3.out.mono ?_)
    rintro ee w7 ⟨rfl, hb7, hk7, hp7⟩
    cases b3 with
    | true =>
     have HN7 : Hid (NS w0 wc w7 g B K G s nm (e + 2) l 0) := Lib.hid (HN6.out.moved HL.out hb7 hk7 hp7)
     have HE5 : Hid (e + 2 ≤ s.size) := Lib.hid (next2_lt E3.out)
     clear hb7 hk7 hp7 H3 cB HN6
     have HNs := Lib.hid (HN7.out.setop HL.out 3)
     have c50 := HN7.out.c0
     have z50 := HN7.out.zG 0
     have cB6 := HNs.out.cB
     cases hq : valW stepP (s.data.toList.drop (e + 2)) with
     | none =>
      have H6 := Lib.hid (value189n w0 (w7.setCell ⟨G, 0, none⟩ (.int .i64 3)) g s (e + 2) l hq HE5.out hs hg HNs.out.below HNs.out.par)
      have HQ6 := Lib.hid (show Q = none by rw [← HQ.out]; unfold tailW; rw [if_neg (by rw [E1.out]; decide), if_neg (by rw [E2.out]; decide), if_pos E3.out, List.drop_drop]; rw [hq]; rfl)
      clear hq
      go_wp2_with fail
      (with_reducible refine H6.out.mono ?_)
      rintro ee w61 ⟨hb61, hk61, rfl⟩
      exact ⟨rfl, hb61, HK0.out.trans (HNs.out.keep.trans hk61 (Or.inl rfl)) (Or.inl rfl), Or.inl ⟨by rw [HQ6.out]; rfl, rfl⟩⟩
     | some q =>
      obtain ⟨v, r⟩ := q
      obtain ⟨hr1, hr2⟩ := val_place hq
      obtain ⟨j2, hj2⟩ : ∃ j2 : Nat, s.size - r.length = j2 := ⟨_, rfl⟩
      obtain ⟨x2, ex2⟩ : ∃ x : ByteArray, (⟨v.toArray⟩ : ByteArray) = x := ⟨_, rfl⟩
      have h6 := value189y w0 (w7.setCell ⟨G, 0, none⟩ (.int .i64 3)) g s (e + 2) l v r j2 hq (by omega) HE5.out hs hg HNs.out.below HNs.out.par
      rw [ex2] at h6
      have H6 := Lib.hid h6
      have HQ6 := Lib.hid (show Q = some (⟨3, nm, x2, [], []⟩, r) by rw [← HQ.out]; unfold tailW; rw [if_neg (by rw [E1.out]; decide), if_neg (by rw [E2.out]; decide), if_pos E3.out, List.drop_drop]; rw [hq, ← ex2]; rfl)
      have HJ2 := Lib.hid hj2
      clear hq hr1 hr2 hj2 ex2 h6
      go_wp2_with fail
      (with_reducible refine H6.out.mono ?_)
      rintro ee w71 ⟨hb71, hk71, rfl, hp71⟩
      have HNt := Lib.hid (HNs.out.moved HL.out hb71 hk71 hp71)
      have cB7 := HNt.out.cB
      have hKG : K ≠ G := HNE.out
      have hGK : G ≠ K := HNE.out.symm
      clear hb71 hk71 hp71 H6 c50 z50 cB6
      have y0 := HNt.out.c0
      have y1 := HNt.out.c1
      have y2 := HNt.out.c2
      have y3 := HNt.out.c3
      have y4 := HNt.out.c4
      have xk0 := HNt.out.k0
      have xk1 := HNt.out.k1
      have xk2 := HNt.out.k2
      have xk3 := HNt.out.k3
      have xk4 := HNt.out.k4
      have xz0 := HNt.out.zK 0
      have xz1 := HNt.out.zK 1
      have xz2 := HNt.out.zK 2
      have xz3 := HNt.out.zK 3
      have xz4 := HNt.out.zK 4
      have yz2 := HNt.out.zG 2
      go_wp2
      have h71 := HNt.out
      obtain ⟨L1, L2, L0, L3, L4, L5, L6⟩ := HL.out
      have hk71 := HK0.out.trans h71.keep (Or.inl rfl)
      have hT := nam_tail (m := ⟨3, nm, x2, [], []⟩) (A3 := none) (c3 := 0) (A4 := none) (c4 := 0) (W := w71.setCell ⟨G, 2, none⟩ (.string x2)) (w := w) (w0 := w0) (g := g) (K := K) (o := pObj s j2 l) (by omega) ((Below.heap_setCell _ _ _ _ hKG).trans h71.res) hg L2 L0 (h71.below.setCell (show w0.heap.size ≤ G by omega) _) ⟨by simpa using hk71.1, fun i hi h1 h2 => (Below.heap_setCell _ _ _ _ (show i ≠ G by omega)).trans (hk71.2 i hi h1 h2)⟩ ((Below.heap_setCell _ _ _ _ (show g ≠ G by omega)).trans h71.par) (fun X _ => ⟨Nat.le_refl _, Kd.C_nil _ _, Nat.le_refl _, Kd.C_nil _ _⟩)
      rw [HQ6.out]
      simp only [Option.map_some, HJ2.out]
      exact bodyPost_ret (results_single rfl (.cell K 25 _ (0, 0) _ rfl hT.1 Try.underlying25 rfl (by kernel_rfl) .nil)) rfl hT.2
    | false =>
     have HN7 : Hid (NS w0 wc w7 g B K G s nm e l 0) := Lib.hid (HN6.out.moved HL.out hb7 hk7 hp7)
     clear hb7 hk7 hp7 H3 cB HN6
     have cB := HN7.out.cB
     obtain ⟨b4, e4⟩ : ∃ b, nextB 64 (s.data.toList.drop e) = b := ⟨_, rfl⟩
     have H4 := Lib.hid (must187 w0 w7 g s e l ⟨#[64]⟩ b4 hes hs (by decide) ((pref_one s e 64 hes).trans e4) hg HN7.out.below HN7.out.par)
     have E4 := Lib.hid e4
     clear e4
     go_wp2_with fail
     cases b4 with
     | false =>
      (with_reducible refine H4.out.mono ?_)
      rintro ee w8 ⟨hb8, hk8, ⟨-, rfl⟩ | ⟨h, -⟩⟩
      ·have HQ6 := Lib.hid (show Q = none by rw [← HQ.out]; unfold tailW; rw [if_neg (by rw [E1.out]; decide), if_neg (by rw [E2.out]; decide), if_neg (by rw [E3.out]; decide), if_neg (by rw [E4.out]; decide)])
       exact ⟨rfl, hb8, HK0.out.trans (HN7.out.keep.trans hk8 (Or.inl rfl)) (Or.inl rfl), Or.inl ⟨by rw [HQ6.out]; rfl, rfl⟩⟩
      ·cases h
     | true =>
      (with_reducible refine H4.out.mono ?_)
      rintro ee w8 ⟨hb8, hk8, ⟨h, -⟩ | ⟨-, rfl, hp8⟩⟩
      ·cases h
      have HN8 : Hid (NS w0 wc w8 g B K G s nm (e + 1) l 0) := Lib.hid (HN7.out.moved HL.out hb8 hk8 hp8)
      have HE5 : Hid (e + 1 ≤ s.size) := Lib.hid (next_lt E4.out)
      clear hb8 hk8 hp8 H4 cB HN7
      have HN9 := Lib.hid (HN8.out.setop HL.out 4)
      have c50 := HN8.out.c0
      have z50 := HN8.out.zG 0
      have cB9 := HN9.out.cB
      obtain ⟨w9, ew9⟩ : ∃ w9, w9 = w8.setCell ⟨G, 0, none⟩ (.int .i64 4) := ⟨_, rfl⟩
      have hmf : ∀ (fn : Fn) (first cap : Array Value) (w : World), (Instr.makeFunc fn first cap).run Try.prog w = .ok (.func fn first cap) w := fun _ _ _ _ => rfl
      obtain ⟨base, hbase⟩ : ∃ base, w9.heap.size = base := ⟨_, rfl⟩
      rw [← ew9] at HN9
      obtain ⟨L1, L2, L0, L3, L4, L5, L6⟩ := HL.out
      have h9 := HN9.out
      have H5 := Lib.hid (list176v w0 wc w9 g B G base s nm (e + 1) l none 0 ⟨hg, by omega, by omega, by omega, by have := h9.size; omega, by have := h9.size; omega, by omega⟩ ⟨h9.below, h9.keep, by omega, h9.box, h9.blk, h9.par, World.ownsRow_nil _ _ _ _, rfl⟩ HE5.out hs _ rfl)
      have HB := Lib.hid (show K < base by have := h9.size; omega)
      clear h9 hbase L1 L2 L0 L3 L4 L5 L6
      go_wp2_with fail
      rw [← ew9]
      refine H5.out.mono ?_
      intro ee w10 hp10
      rcases hp10 with ⟨hq, rfl, hb10, hk10⟩ | ⟨vs, r, j2, A, c, hq, hr, hj, rfl, hv10⟩
      ·have HQ6 := Lib.hid (show Q = none by rw [← HQ.out]; unfold tailW; rw [if_neg (by rw [E1.out]; decide), if_neg (by rw [E2.out]; decide), if_neg (by rw [E3.out]; decide), if_pos E4.out, List.drop_drop, hq]; rfl)
       exact ⟨rfl, hb10, HK0.out.trans hk10 (Or.inl rfl), Or.inl ⟨by rw [HQ6.out]; rfl, rfl⟩⟩
      ·have HQ6 := Lib.hid (show Q = some (⟨4, nm, ⟨#[]⟩, vs, []⟩, r) by rw [← HQ.out]; unfold tailW; rw [if_neg (by rw [E1.out]; decide), if_neg (by rw [E2.out]; decide), if_neg (by rw [E3.out]; decide), if_pos E4.out, List.drop_drop, hq]; rfl)
       have HJ2 := Lib.hid (show s.size - r.length = j2 by rw [← hr]; simp; omega)
       have HV := Lib.hid hv10
       have y0 := (blk_cell hv10.blk 0).trans rfl
       have y1 := (blk_cell hv10.blk 1).trans rfl
       have y2 := (blk_cell hv10.blk 2).trans rfl
       have y3 := (blk_cell hv10.blk 3).trans rfl
       have y4 := (blk_cell hv10.blk 4).trans rfl
       have hK10 := (hv10.keep.2 K (by have := HL.out.lK; have := HL.out.eG; omega) HGK.out (by simp)).trans HKc.out
       have HK10 := Lib.hid hK10
       have x0 := (blk_cell hK10 0).trans rfl
       have x1 := (blk_cell hK10 1).trans rfl
       have x2 := (blk_cell hK10 2).trans rfl
       have x3 := (blk_cell hK10 3).trans rfl
       have x4 := (blk_cell hK10 4).trans rfl
       have xz0 := blk_frozen hK10 0
       have xz1 := blk_frozen hK10 1
       have xz2 := blk_frozen hK10 2
       have xz3 := blk_frozen hK10 3
       have xz4 := blk_frozen hK10 4
       simp only [List.getElem?_toArray, List.getElem?_cons_zero, List.getElem?_cons_succ] at y0 y1 y2 y3 y4 x0 x1 x2 x3 x4
       have hKG : K ≠ G := HNE.out
       have hGK : G ≠ K := HNE.out.symm
       clear hv10 hK10 hq hr H5 ew9 c50 z50 cB9 HN8 HN9
       go_wp2
       have hv := HV.out
       obtain ⟨L1, L2, L0, L3, L4, L5, L6⟩ := HL.out
       have hk7 := HK0.out.trans hv.keep (Or.inl rfl)
       obtain ⟨F3, gg3, F4, gg4, ev3, ev4, hMF⟩ := MF.of_rows (m := ⟨4, nm, ⟨#[]⟩, vs, []⟩) (lo' := base) hv.own (World.ownsRow_nil _ base 25 5) (by simpa using Reps.none _ _) (Nat.le_refl _)
       simp only at ev3 ev4
       cases ev3
       cases ev4
       have hT := nam_tail (m := ⟨4, nm, ⟨#[]⟩, vs, []⟩) (W := w10) (w := w) (w0 := w0) (g := g) (K := K) (o := pObj s j2 l) (by omega) HK10.out hg L2 L0 hv.below hk7 hv.par (hMF.move (fun b hb => ⟨⟨by have := hb.1; have := HB.out; omega, hb.2⟩, rfl⟩))
       rw [HQ6.out]
       simp only [Option.map_some, HJ2.out]
       exact bodyPost_ret (results_single rfl (.cell K 25 _ (0, 0) _ rfl hT.1 Try.underlying25 rfl (by kernel_rfl) .nil)) rfl hT.2
end Go.Proofs.Yteafilojjdfllaa
end
section
namespace Go.Proofs.Yteafilojjdfllaa
open Go Go.Proofs.Yteafilojjdfllaa.PAll
theorem valsW_suf {step : List UInt8 → Step} : ∀ (k : Nat) (r : List UInt8) (x : List ByteArray) (t : List UInt8), valsW step k r = some (x, t) → t <:+ r
 | 0, r, x, t, h => by rw [valsW] at h; cases h
 | k + 1, r, x, t, h => by
  rw [valsW] at h
  cases hv : valW step r with
  | none => rw [hv] at h; cases h
  | some q =>
   obtain ⟨v, l⟩ := q
   rw [hv] at h
   have hs := val_suffix hv
   cases l with
   | nil => cases h
   | cons c l =>
    simp only at h
    have h2 : l <:+ r := (List.suffix_cons c l).trans hs
    split at h
    ·simp only [Option.some.injEq, Prod.mk.injEq] at h
     rw [← h.2]
     exact h2
    ·split at h
     ·cases hq : valsW step k l with
      | none => rw [hq] at h; cases h
      | some p =>
       rw [hq] at h
       simp only [Option.map_some, Option.some.injEq, Prod.mk.injEq] at h
       rw [← h.2]
       exact (valsW_suf k l p.1 p.2 hq).trans h2
     ·cases h
theorem map_some' {α β : Type} {f : α → β} {o : Option α} {b : β} (h : o.map f = some b) : ∃ a, o = some a ∧ f a = b := by
 cases o with
 | none => cases h
 | some a => exact ⟨a, rfl, by simpa using h⟩
theorem namedW_suf {cut : List UInt8 → Nat} {step : List UInt8 → Step} {emp : Bool} {r : List UInt8} {m : S25} {t : List UInt8} (h : namedW cut step emp r = some (m, t)) : t <:+ r := by
 unfold namedW at h
 simp only at h
 have hd : r.drop (cut r) <:+ r := List.drop_suffix _ _
 generalize hq : r.drop (cut r) = q at h hd
 match q with
 | [] => cases h
 | c :: q =>
  simp only at h
  have h1 : q <:+ r := (List.suffix_cons c q).trans hd
  split at h
  ·obtain ⟨a, ha, e⟩ := map_some' h
   simp only [Prod.mk.injEq] at e
   rw [← e.2]
   exact (val_suffix ha).trans h1
  ·split at h
   ·match q with
    | [] => cases h
    | e :: q =>
     simp only at h
     split at h
     ·obtain ⟨a, ha, e⟩ := map_some' h
      simp only [Prod.mk.injEq] at e
      rw [← e.2]
      exact (val_suffix ha).trans ((List.suffix_cons _ q).trans h1)
     ·cases h
   ·split at h
    ·match q with
     | [] => cases h
     | e :: q =>
      simp only at h
      split at h
      ·obtain ⟨a, ha, e⟩ := map_some' h
       simp only [Prod.mk.injEq] at e
       rw [← e.2]
       exact (val_suffix ha).trans ((List.suffix_cons _ q).trans h1)
      ·cases h
    ·split at h
     ·match q with
      | [] => cases h
      | e :: q =>
       simp only at h
       have h2 : q <:+ r := (List.suffix_cons _ q).trans h1
       split at h
       ·split at h
        ·simp only [Option.some.injEq, Prod.mk.injEq] at h
         rw [← h.2]
         exact (List.drop_suffix _ _).trans h2
        ·obtain ⟨a, ha, e⟩ := map_some' h
         simp only [Prod.mk.injEq] at e
         rw [← e.2]
         exact (valsW_suf _ _ _ _ ha).trans h2
       ·cases h
     ·cases h
theorem readML_suf {cut : List UInt8 → Nat} {step : List UInt8 → Step} {emp : Bool} (d : Nat) (ih : ∀ (left : Nat) (r : List UInt8) (m : S25) (l' : Nat) (t : List UInt8), readM cut step emp d left r = some (m, l', t) → t <:+ r ∧ l' < left) :
  ∀ (k left : Nat) (r : List UInt8) (x : List S25) (l' : Nat) (t : List UInt8), readML cut step emp d k left r = some (x, l', t) → t <:+ r ∧ l' < left
 | 0, left, r, x, l', t, h => by rw [readML] at h; cases h
 | k + 1, left, r, x, l', t, h => by
  rw [readML] at h
  cases hv : readM cut step emp d left r with
  | none => rw [hv] at h; cases h
  | some q =>
   obtain ⟨m, l1, l⟩ := q
   rw [hv] at h
   obtain ⟨hs, hl⟩ := ih _ _ _ _ _ hv
   cases l with
   | nil => cases h
   | cons c l =>
    simp only at h
    have h2 : l <:+ r := (List.suffix_cons c l).trans hs
    split at h
    ·simp only [Option.some.injEq, Prod.mk.injEq] at h
     obtain ⟨-, rfl, rfl⟩ := h
     exact ⟨h2, hl⟩
    ·split at h
     ·obtain ⟨a, ha, e⟩ := map_some' h
      simp only [Prod.mk.injEq] at e
      obtain ⟨-, e2⟩ := e
      have := readML_suf d ih k l1 l a.1 a.2.1 a.2.2 ha
      rw [e2] at this
      exact ⟨this.1.trans h2, by have := this.2; omega⟩
     ·cases h
theorem readM_suf {cut : List UInt8 → Nat} {step : List UInt8 → Step} {emp : Bool} : ∀ (d left : Nat) (r : List UInt8) (m : S25) (l' : Nat) (t : List UInt8), readM cut step emp d left r = some (m, l', t) → t <:+ r ∧ l' < left
 | 0, left, r, m, l', t, h => by rw [readM.eq_def] at h; cases h
 | d + 1, 0, r, m, l', t, h => by rw [readM.eq_def] at h; cases h
 | d + 1, left + 1, [], m, l', t, h => by rw [readM.eq_def] at h; cases h
 | d + 1, left + 1, c :: r, m, l', t, h => by
  rw [readM_cons] at h
  have h1 : r <:+ c :: r := List.suffix_cons c r
  split at h
  ·simp only [Option.some.injEq, Prod.mk.injEq] at h
   obtain ⟨-, rfl, rfl⟩ := h
   exact ⟨h1, Nat.lt_succ_self _⟩
  ·split at h
   ·match r with
    | [] => cases h
    | e :: q =>
     simp only at h
     have h2 : q <:+ c :: e :: q := (List.suffix_cons _ q).trans h1
     split at h
     ·split at h
      ·simp only [Option.some.injEq, Prod.mk.injEq] at h
       obtain ⟨-, rfl, rfl⟩ := h
       exact ⟨(List.drop_suffix _ _).trans h2, Nat.lt_succ_self _⟩
      ·obtain ⟨a, ha, e⟩ := map_some' h
       simp only [Prod.mk.injEq] at e
       obtain ⟨-, e2⟩ := e
       have := readML_suf d (fun left r m l' t h => readM_suf d left r m l' t h) _ _ _ a.1 a.2.1 a.2.2 ha
       rw [e2] at this
       exact ⟨this.1.trans h2, by have := this.2; omega⟩
     ·cases h
   ·obtain ⟨a, ha, e⟩ := map_some' h
    simp only [Prod.mk.injEq] at e
    obtain ⟨-, rfl, rfl⟩ := e
    exact ⟨namedW_suf (m := a.1) (t := a.2) ha, Nat.lt_succ_self _⟩
end Go.Proofs.Yteafilojjdfllaa
end
section
namespace Go.Proofs.Yteafilojjdfllaa
open Go Go.RowKit Go.Proofs.YteafilojjdfllaaW.PrintWords Go.Proofs.YteafilojjdfllaaW.PrintLast Go.Proofs.YteafilojjdfllaaW.PrintMore Go.Proofs.Yteafilojjdfllaa.PAll
set_option linter.unusedVariables false
set_option linter.unusedSimpArgs false
section
variable {P : Program} {ops : Array Oper} {Q : Exit → Act → World → Prop} {K : Act → World → Prop} {o : Oper} {a : Act}
/-- append of one element whose block lies anywhere -/
theorem append_at {W : World} (base : Nat) (hw : Region.wanted o (yielded ops a.tmps) = true) (s x : Operand) (t e : TypeId) (z : Value) (size bytes : Nat)
  (ho : o.op = .call { callee := .builtin .append, args := #[s, x], argTypes := #[t, t] })
  (ht : P.underlying t = some (.slice e)) (hinfo : (P.info? e).map (fun i => (i.zero, i.size, i.bytes)) = some (some z, size, bytes)) (hz : z.cells.size = size) (hs0 : 0 < size) (hb0 : 0 < bytes)
  (v : Value) (n : Nat) (xs ys : List Value) (bz : Nat) (hs : a.eval s = v) (hx : a.eval x = .slice (some ⟨bz, 0, none⟩) 1 1) (hbz : W.heap[bz]? = some (.cells ys.toArray e (0, 0))) (hys : ys.length = size) (h1 : ∀ u ∈ ys, u.oneCell' = true)
  (HO : W.ownsRow base e size v n xs) (hbase : base ≤ W.heap.size) (hl : (n + 1) * bytes ≤ 140737488355328)
  (h : ∀ v1 w1, w1.ownsRow base e size v1 (n + 1) (xs ++ ys) → W.grownBy w1 v.ownBlock → (v1.ownBlock = v.ownBlock ∨ v1.ownBlock = some W.heap.size) → K (a.put o.dst v1) w1) :
  if Region.wanted o (yielded ops a.tmps) = true then Oper.wp P o a W K Q else K (a.put o.dst undef) W := by
 obtain ⟨i0, hi, hzz⟩ := Option.map_eq_some_iff.1 hinfo
 simp only [Prod.mk.injEq] at hzz
 obtain ⟨hz0, hz1, hz2⟩ := hzz
 have hlen : n + 1 ≤ 140737488355328 := Nat.le_trans (Nat.le_mul_of_pos_right _ hb0) hl
 rw [if_pos hw]
 obtain ⟨v1, w1, hr, hown, hg, _, hat⟩ := run_append_own_at (P := P) W base t o.type e i0 z size bytes ht hi hz0 hz1 hz2 hz hs0 v n xs HO ⟨bz, 0, none⟩ 1 1 ys (by rw [hys]; simp)
  (by simpa using World.news_of_block (cs := ys.toArray) (t := e) (fr := (0, 0)) hbz) h1 (by simp only [maxLen]; omega) hl hbase
 unfold Oper.wp execOp
 simp only [ho, resolve, invoke, builtin, Sem.run_bind, Sem.run_pure, Result.andThen_ok, List.map_toArray, List.map_cons, List.map_nil, hs, hx, hr]
 exact h v1 w1 hown hg hat
end
section
variable {P : Program} {ops : Array Oper} {Q : Exit → Act → World → Prop} {md : Region.Mode} {S : World → Prop} {ds : List Nat}
/-- two stores that end a region, in either order -/
theorem twoLast_ {i j : Nat} {Ni Nj : Option Tmp} {oi oj : Oper} {fuel : Nat} {l : Array Bool} {a : Act} {w : World} (li lj : Array Bool) (hi : ops[i]? = some oi) (hj : ops[j]? = some oj) (hNi : oi.dst = Ni) (hNj : oj.dst = Nj)
  (hc : (Region.ready md ops l == [i, j] && l.setIfInBounds i true == li && l.setIfInBounds j true == lj) = true) (hdi : i ∈ ds) (hdj : j ∈ ds)
  (h1 : ∀ K : Act → World → Prop, Shut (∀ a' w', wpAnyLast P md ops Q S ds fuel li a' w' → K a' w') → if Region.wanted oi (yielded ops a.tmps) = true then Oper.wp P oi a w K Q else K (a.put Ni undef) w)
  (h2 : ∀ K : Act → World → Prop, Shut (∀ a' w', wpAnyLast P md ops Q S ds fuel lj a' w' → K a' w') → if Region.wanted oj (yielded ops a.tmps) = true then Oper.wp P oj a w K Q else K (a.put Nj undef) w) :
  wpAnyLast P md ops Q S ds (fuel + 1) l a w := by
 subst hNi
 subst hNj
 simp only [Bool.and_eq_true, beq_iff_eq] at hc
 obtain ⟨⟨h3, h4⟩, h5⟩ := hc
 subst h4
 subst h5
 exact wpAnyLast_ready h3 (by simp) (AllReadyL.cons_last hi hdi (fun K hK => h1 K hK) (AllReadyL.cons_last hj hdj (fun K hK => h2 K hK) AllReadyL.nil))
end
theorem set_mid {α : Type} : ∀ (xs : List α) (y : α) (ys : List α) (z : α), (xs ++ y :: ys).set xs.length z = xs ++ z :: ys
 | [], y, ys, z => rfl
 | x :: xs, y, ys, z => by simp [set_mid xs y ys z]
/-- the last element of an own row is laid anew -/
theorem own_elem {w : World} {base R c n : Nat} {cells : List Value} {u0 u1 u2 u3 u4 v0 v1 v2 v3 v4 : Value} (h : w.ownsRow base 25 5 (.slice (some ⟨R, 0, none⟩) (n + 1) c) (n + 1) (cells ++ [u0, u1, u2, u3, u4])) (k : Nat) (hk : k = cells.length) :
  (((((w.setCell ⟨R, k, none⟩ v0).setCell ⟨R, k + 1, none⟩ v1).setCell ⟨R, k + 2, none⟩ v2).setCell ⟨R, k + 3, none⟩ v3).setCell ⟨R, k + 4, none⟩ v4).ownsRow base 25 5 (.slice (some ⟨R, 0, none⟩) (n + 1) c) (n + 1) (cells ++ [v0, v1, v2, v3, v4]) := by
 subst hk
 have h0 := (h.stored cells.length v0).1
 rw [set_mid] at h0
 have e1 := (h0.stored (cells.length + 1) v1).1
 rw [show cells ++ [v0, u1, u2, u3, u4] = (cells ++ [v0]) ++ u1 :: [u2, u3, u4] by simp, show cells.length + 1 = (cells ++ [v0]).length by simp, set_mid] at e1
 have e2 := (e1.stored (cells.length + 2) v2).1
 rw [show (cells ++ [v0]) ++ v1 :: [u2, u3, u4] = (cells ++ [v0, v1]) ++ u2 :: [u3, u4] by simp, show cells.length + 2 = (cells ++ [v0, v1]).length by simp, set_mid] at e2
 have e3 := (e2.stored (cells.length + 3) v3).1
 rw [show (cells ++ [v0, v1]) ++ v2 :: [u3, u4] = (cells ++ [v0, v1, v2]) ++ u3 :: [u4] by simp, show cells.length + 3 = (cells ++ [v0, v1, v2]).length by simp, set_mid] at e3
 have e4 := (e3.stored (cells.length + 4) v4).1
 rw [show (cells ++ [v0, v1, v2]) ++ v3 :: [u4] = (cells ++ [v0, v1, v2, v3]) ++ u4 :: [] by simp, show cells.length + 4 = (cells ++ [v0, v1, v2, v3]).length by simp, set_mid] at e4
 simpa using e4
theorem own_some {w : World} {base : Nat} {e : TypeId} {size n : Nat} {v : Value} {xs : List Value} (h : w.ownsRow base e size v (n + 1) xs) : ∃ R c, v = .slice (some ⟨R, 0, none⟩) (n + 1) c := by
 rcases h.2 with ⟨hv, h0⟩ | ⟨g, cap, cur, hv, _⟩
 ·cases h0
 ·exact ⟨g, cap, hv⟩
/-- the world of the closure: the parser, the boxes of its pointer and of the depth, the matcher under way and its row of kids -/
structure VK (w0 wn w : World) (g B D G base : Nat) (s : ByteArray) (op dz : Int) (i : Nat) (l : Int) (ks : List S25) (cells : List Value) (n : Nat) (Au : Option Addr) (cu : Nat) : Prop where
 below : Below w0.heap.size w0 w
 keep : KeepBut wn w g none
 size : base ≤ w.heap.size
 box : w.heap[B]? = some (.cells #[.pointer (some ⟨g, 0, none⟩)] 170 (0, 0))
 dbox : w.heap[D]? = some (.cells #[.int .i64 dz] 3 (0, 0))
 blk : w.heap[G]? = some (.cells #[.int .i64 op, .string ⟨#[]⟩, .string ⟨#[]⟩, .slice none 0 0, .slice Au n cu] 25 (0, 0))
 par : PB w g s i l
 own : w.ownsRow base 25 5 (.slice Au n cu) n cells
 reps : Reps (KR w (Part base w (.slice Au n cu))) 5 ks cells
 len : ks.length = n
 clen : cells.length = n * 5
/-- where these lie -/
structure VM (w0 wn : World) (g B D G base : Nat) : Prop where
 g0 : w0.heap.size ≤ g
 gn : g < wn.heap.size
 nB : B ≠ g
 nD : D ≠ g
 nG : wn.heap.size ≤ G
 Bb : B < base
 Db : D < base
 Gb : G < base
 eB : B ≠ G
 eD : D ≠ G
 w0l : w0.heap.size ≤ wn.heap.size
section
variable {w0 wn w w' : World} {g B D G base : Nat} {s : ByteArray} {op dz : Int} {i j : Nat} {l l' : Int} {ks : List S25} {cells : List Value} {n : Nat} {Au : Option Addr} {cu : Nat}
theorem VK.moved (h : VK w0 wn w g B D G base s op dz i l ks cells n Au cu) (HL : VM w0 wn g B D G base) (hB : Below w0.heap.size w0 w') (hK : KeepBut w w' g none) (hP : PB w' g s j l') : VK w0 wn w' g B D G base s op dz j l' ks cells n Au cu := by
 obtain ⟨L1, L2, L3, L4, L5, L6, L7, L8, L9, L10, L11⟩ := HL
 have hs := h.size
 have hs2 := hK.1
 exact ⟨hB, h.keep.trans hK (Or.inl rfl), Nat.le_trans hs hK.1, (hK.2 B (by omega) (by omega) (by simp)).trans h.box, (hK.2 D (by omega) (by omega) (by simp)).trans h.dbox, (hK.2 G (by omega) (by omega) (by simp)).trans h.blk, hP,
  own_move h.own (fun k hk => hK.2 k (h.own.lt _ hk).2 (by have := (h.own.lt _ hk).1; omega) (by simp)),
  h.reps.imp_ (fun p c hk => hk.move (fun b hb => ⟨⟨hb.1, by have := hb.2.1; omega, hb.2.2⟩, hK.2 b hb.2.1 (by have := hb.1; omega) (by simp)⟩)), h.len, h.clen⟩
theorem VK.drew (h : VK w0 wn w g B D G base s op dz i l ks cells n Au cu) : VK w0 wn w.drew g B D G base s op dz i l ks cells n Au cu :=
 ⟨below_drew h.below, h.keep.trans (KeepBut.of_below (below_drew (Below.refl w.heap.size w)) g none) (Or.inl rfl), h.size, h.box, h.dbox, h.blk, h.par, h.own, h.reps, h.len, h.clen⟩
end
/-- the parser's matcher, as deep as it may be yet -/
def IHp (w0 : World) (g : Nat) (s : ByteArray) (d : Nat) (dz : Int) : Prop :=
 ∀ (w : World) (i left : Nat), left ≤ 64 → i ≤ s.size → Below w0.heap.size w0 w → PB w g s i (left : Int) → Calls Try.prog 144 #[.pointer (some ⟨g, 0, none⟩), .int .i64 dz] w (RedPost w0 w g ((readM (cutM 33) stepP true d left (s.data.toList.drop i)).map fun q => (q.1, pObj s (s.size - q.2.2.length) (q.2.1 : Nat))))
theorem read_place {cut : List UInt8 → Nat} {step : List UInt8 → Step} {emp : Bool} {s : ByteArray} {i d left l1 : Nat} {m : S25} {t : List UInt8} (hi : i ≤ s.size) (h : readM cut step emp d left (s.data.toList.drop i) = some (m, l1, t)) : ∃ j, s.size - t.length = j ∧ j ≤ s.size ∧ s.data.toList.drop j = t ∧ l1 < left ∧ i ≤ j := by
 obtain ⟨h1, h2⟩ := readM_suf _ _ _ _ _ _ h
 obtain ⟨u, hu⟩ := h1
 have hl := congrArg List.length hu
 simp only [List.length_append, List.length_drop] at hl
 have hsz : s.data.toList.length = s.size := by simp
 have hsuf : t <:+ s.data.toList := List.IsSuffix.trans ⟨u, hu⟩ (List.drop_suffix _ _)
 refine ⟨s.size - t.length, rfl, by omega, ?_, h2, ?_⟩
 ·have := List.suffix_iff_eq_drop.1 hsuf
  rw [hsz] at this
  exact this.symm
 ·omega
end Go.Proofs.Yteafilojjdfllaa
end
section
namespace Go.Proofs.Yteafilojjdfllaa
section
open Go Go.RowKit Go.Proofs.YteafilojjdfllaaW.PrintWords Go.Proofs.Yteafilojjdfllaa.PAll
theorem rv_end (s : ByteArray) (j : Nat) (h : s.size ≤ j) : unqW stepR (s.data.toList.drop j) = none := by
 rw [List.drop_of_length_le (by simpa using h), unq_nil]
theorem rv_34 (s : ByteArray) (j : Nat) (h : j < s.size) (hx : bN s j = 34) : unqW stepR (s.data.toList.drop j) = some ([], s.data.toList.drop (j + 1)) := by
 rw [bN_drop s j h, hx, unq_cons, stepR_cons, if_pos rfl]
theorem rv_raw (s : ByteArray) (j : Nat) (h : j < s.size) (x : UInt8) (hx : bN s j = x) (h1 : x ≠ 34) (h2 : x ≠ 92) : unqW stepR (s.data.toList.drop j) = (unqW stepR (s.data.toList.drop (j + 1))).map (fun q => (x :: q.1, q.2)) := by
 rw [bN_drop s j h, hx, unq_cons, stepR_cons, if_neg h1, if_neg h2]
 rfl
theorem rv_short (s : ByteArray) (j : Nat) (h : j < s.size) (h2 : s.size < j + 2) (hx : bN s j = 92) : unqW stepR (s.data.toList.drop j) = none := by
 rw [bN_drop s j h, hx, unq_cons, stepR_cons, if_neg (by decide), if_pos rfl, drop_len, if_pos (by omega)]
theorem rv_next (s : ByteArray) (j : Nat) (h : j + 2 ≤ s.size) (hx : bN s j = 92) (y : UInt8) (hy : bN s (j + 1) = y) (h1 : y ≠ 120) : unqW stepR (s.data.toList.drop j) = (unqW stepR (s.data.toList.drop (j + 2))).map (fun q => (y :: q.1, q.2)) := by
 rw [bN_drop s j (by omega), hx, unq_cons, stepR_cons, if_neg (by decide), if_pos rfl, drop_len, if_neg (by omega), drop_getD, Nat.add_zero, hy, if_pos h1]
 simp only [List.drop_drop]
theorem rv_xshort (s : ByteArray) (j : Nat) (h : j + 2 ≤ s.size) (h4 : s.size < j + 4) (hx : bN s j = 92) (h1 : bN s (j + 1) = 120) : unqW stepR (s.data.toList.drop j) = none := by
 rw [bN_drop s j (by omega), hx, unq_cons, stepR_cons, if_neg (by decide), if_pos rfl, drop_len, if_neg (by omega), drop_getD, Nat.add_zero, h1, if_neg (by simp), if_pos (by omega)]
theorem rv_hex (s : ByteArray) (j : Nat) (h : j + 4 ≤ s.size) (hx : bN s j = 92) (h1 : bN s (j + 1) = 120) (y z : UInt8) (hy : bN s (j + 2) = y) (hz : bN s (j + 3) = z) : unqW stepR (s.data.toList.drop j) = if hexV y < 0 ∨ hexV z < 0 then none else (unqW stepR (s.data.toList.drop (j + 4))).map (fun q => (hexB y z :: q.1, q.2)) := by
 rw [bN_drop s j (by omega), hx, unq_cons, stepR_cons, if_neg (by decide), if_pos rfl, drop_len, if_neg (by omega), drop_getD, drop_getD, drop_getD, Nat.add_zero, h1, if_neg (by simp), if_neg (by omega), hy, hz]
 split <;> rename_i e <;> split at e <;> cases e <;> rename_i e2
 ·rw [if_pos e2]
 ·rw [if_neg e2, List.drop_drop]
theorem rval_34 (s : ByteArray) (j : Nat) (h : j < s.size) (hx : bN s j = 34) : valW stepR (s.data.toList.drop j) = (unqW stepR (s.data.toList.drop (j + 1))).map (fun q => ([] ++ q.1, q.2)) := by
 rw [bN_drop s j h, hx]
 show unqW stepR _ = _
 cases unqW stepR (s.data.toList.drop (j + 1)) <;> rfl
theorem rval_end (s : ByteArray) (j : Nat) (h : s.size ≤ j) : valW stepR (s.data.toList.drop j) = none := by
 rw [List.drop_of_length_le (by simpa using h)]; rfl
theorem rval_no (s : ByteArray) (j : Nat) (h : j < s.size) (hx : bN s j ≠ 34) : valW stepR (s.data.toList.drop j) = none := by
 rw [bN_drop s j h]
 generalize bN s j = y at hx
 unfold valW
 split
 ·rename_i e; cases e; exact absurd rfl hx
 ·rfl
/-- two digits, put together -/
theorem hex_sum {y z : UInt8} {v1 v2 : Int} (h1 : hexV y = v1) (h2 : hexV z = v2) (p1 : 0 ≤ v1) (p2 : 0 ≤ v2) : (v1 * 16 % 256 + v2) % 256 = ((hexB y z).toNat : Int) := by
 have r1 := (hexV_range y).2
 have r2 := (hexV_range z).2
 rw [hexB, h1, h2]
 simp
 omega
theorem take_drop_len {α : Type} (p : α → Bool) (l : List α) : l.take (l.takeWhile p).length = l.takeWhile p ∧ l.drop (l.takeWhile p).length = l.dropWhile p := by
 induction l with
 | nil => exact ⟨rfl, rfl⟩
 | cons x l ih =>
  rw [List.takeWhile_cons, List.dropWhile_cons]
  split
  ·simp [ih.1, ih.2]
  ·simp
end
section
open Go Go.RowKit Go.Proofs.YteafilojjdfllaaW.PrintWords Go.Proofs.YteafilojjdfllaaW.PrintLast Go.Proofs.YteafilojjdfllaaW.PrintMore Go.Proofs.Yteafilojjdfllaa.PAll
set_option linter.unusedVariables false
set_option linter.unusedSimpArgs false
/-- how Value ends -/
def ValPost (w0 w : World) (g : Nat) (s : ByteArray) (Q : Option (List UInt8 × List UInt8)) (e : Ending) (w' : World) : Prop :=
 Below w0.heap.size w0 w' ∧ KeepBut w w' g none ∧
  ((Q = none ∧ ∃ x j, e = .returned (.string x) ∧ j ≤ s.size ∧ SB w' g s j true) ∨ ∃ v t, Q = some (v, t) ∧ e = .returned (.string ⟨v.toArray⟩) ∧ t.length ≤ s.size ∧ SB w' g s (s.size - t.length) false)
theorem far_g {g k n : Nat} (hg : g < n) (hk : n ≤ k) : k ≠ g := by omega
theorem rowOk {o : Value} {n : Nat} (h : ∀ k, o.ownBlock = some k → n ≤ k) : o.ownBlock = none ∨ ∃ b, o.ownBlock = some b ∧ n ≤ b := by
 cases e : o.ownBlock with
 | none => exact .inl rfl
 | some k => exact .inr ⟨k, rfl, h k e⟩
theorem keep_grown {w W W1 : World} {g : Nat} {o : Value} (h : KeepBut w W g none) (ho : ∀ k, o.ownBlock = some k → w.heap.size ≤ k) (hg : W.grownBy W1 o.ownBlock) : KeepBut w W1 g none :=
 h.trans (KeepBut.of_grown hg g) (rowOk ho)
theorem SB.grown {W W1 : World} {g i n : Nat} {s : ByteArray} {b : Bool} {o : Value} (h : SB W g s i b) (hgn : g < n) (ho : ∀ k, o.ownBlock = some k → n ≤ k) (hg : W.grownBy W1 o.ownBlock) : SB W1 g s i b :=
 (hg.block g h.lt (fun e => by have := ho g e.symm; omega)).trans h
theorem measB {W W' : World} {g n j k : Nat} (h : j < n) (hk : j < k) (c1 : W.cell? ⟨g, 1, none⟩ = some (.int .i64 (j : Int))) (c2 : W'.cell? ⟨g, 1, none⟩ = some (.int .i64 (k : Int))) : n - (intOf ((W'.cell? ⟨g, 1, none⟩).getD undef)).toNat < n - (intOf ((W.cell? ⟨g, 1, none⟩).getD undef)).toNat := by
 rw [c1, c2]
 show n - ((k : Nat) : Int).toNat < n - (j : Int).toNat
 omega
theorem val_post {w0 w W : World} {g j : Nat} {s : ByteArray} {Q : Option (List UInt8 × List UInt8)} {xs : List UInt8} (hQ : Q = some (xs ++ [], s.data.toList.drop j)) (hj : j ≤ s.size) (hB : Below w0.heap.size w0 W) (hK : KeepBut w W g none) (hS : SB W g s j false) :
  ValPost w0 w g s Q (.returned (.string (strOfNums (ints xs)))) W := by
 have h1 : strOfNums (ints xs) = ⟨xs.toArray⟩ := Lib.Lz.strOfNums_map xs
 have h2 : (s.data.toList.drop j).length = s.size - j := drop_len s j
 refine ⟨hB, hK, Or.inr ⟨xs ++ [], _, hQ, by rw [h1, List.append_nil], by omega, ?_⟩⟩
 rw [show s.size - (s.data.toList.drop j).length = j by omega]
 exact hS
theorem isAt_false {s : ByteArray} {i : Nat} {b : Bool} (h : isAt s i b 34 = false) : (if b = true then none else valW stepR (s.data.toList.drop i)) = none := by
 cases b with
 | true => rfl
 | false =>
  rw [if_neg (by decide)]
  by_cases hlt : i < s.size
  ·refine rval_no s i hlt (fun e => ?_)
   unfold isAt at h
   rw [e, decide_eq_true hlt] at h
   simp at h
  ·exact rval_end s i (by omega)
theorem isAt_true {s : ByteArray} {i : Nat} {b : Bool} {c : UInt8} (h : isAt s i b c = true) : i < s.size ∧ b = false ∧ bN s i = c := by
 unfold isAt at h
 simp only [Bool.and_eq_true, Bool.not_eq_true', decide_eq_true_eq, beq_iff_eq] at h
 exact ⟨h.1.2, h.1.1, h.2⟩
theorem isAt_true34 {s : ByteArray} {i : Nat} {b : Bool} (h : isAt s i b 34 = true) : (if b = true then none else valW stepR (s.data.toList.drop i)) = (unqW stepR (s.data.toList.drop (i + 1))).map (fun q => ([] ++ q.1, q.2)) := by
 obtain ⟨h1, rfl, h3⟩ := isAt_true h
 rw [if_neg (by decide)]
 exact rval_34 s i h1 h3
theorem hexBad {c : UInt8} (h : hexV c < 0) : hexRet c = .tuple #[.int .u8 0, .bool false] := by unfold hexRet; rw [if_pos h]
theorem hexGood {c : UInt8} {v : Int} (hv : hexV c = v) (h : ¬ v < 0) : hexRet c = .tuple #[.int .u8 v, .bool true] := by unfold hexRet; rw [hv, if_neg h]
theorem hex170b (w : World) (c : UInt8) (v : Int) (hv : hexV c = v) (h : v < 0) : Calls Try.prog 170 #[.int .u8 (c.toNat : Int)] w fun e w' => e = .returned (.tuple #[.int .u8 0, .bool false]) ∧ ∃ m, w' = w.drewN m := by
 rw [← hexBad (show hexV c < 0 from by rw [hv]; exact h)]; exact hex170 w c
theorem hex170g (w : World) (c : UInt8) (v : Int) (hv : hexV c = v) (h : ¬ v < 0) : Calls Try.prog 170 #[.int .u8 (c.toNat : Int)] w fun e w' => e = .returned (.tuple #[.int .u8 v, .bool true]) ∧ ∃ m, w' = w.drewN m := by
 rw [← hexGood hv h]; exact hex170 w c
set_option maxRecDepth 100000 in
set_option maxHeartbeats 16000000 in
/-- Value. -/
theorem value136 (w0 w : World) (g : Nat) (s : ByteArray) (i : Nat) (b : Bool) (hi : i ≤ s.size) (hs : s.size ≤ 1000000000) (hg : w0.heap.size ≤ g) (hB : Below w0.heap.size w0 w) (hS : SB w g s i b) :
  Calls Try.prog 136 #[.pointer (some ⟨g, 0, none⟩)] w (ValPost w0 w g s (if b = true then none else valW stepR (s.data.toList.drop i))) := by
 have hm := Lib.hid (show Calls Try.prog 135 #[.pointer (some ⟨g, 0, none⟩), .int .u8 34] w (SPost w0 w g s (if isAt s i b 34 = true then i + 1 else i) (!isAt s i b 34) (.tuple #[])) from must135 w0 w g s i b 34 hi hs hg hB hS)
 have hgw := hS.lt
 obtain ⟨Q, hQ⟩ : ∃ Q, (if b = true then none else valW stepR (s.data.toList.drop i)) = Q := ⟨_, rfl⟩
 have HQ : ∃ j bd, j ≤ s.size ∧ (if isAt s i b 34 = true then i + 1 else i) = j ∧ (!isAt s i b 34) = bd ∧ Hid (bd = true → Q = none) ∧ Hid (bd = false → Q = (unqW stepR (s.data.toList.drop j)).map (fun q => (([] : List UInt8) ++ q.1, q.2))) := by
  cases h : isAt s i b 34 with
  | true => exact ⟨i + 1, false, by have := (isAt_true h).1; omega, rfl, rfl, Lib.hid (fun h => absurd h (by decide)), Lib.hid (fun _ => by rw [← hQ]; exact isAt_true34 h)⟩
  | false => exact ⟨i, true, hi, rfl, rfl, Lib.hid (fun _ => by rw [← hQ]; exact isAt_false h), Lib.hid (fun h => absurd h (by decide))⟩
 obtain ⟨j0, bd0, hj0, ej0, eb0, HN0, HE0⟩ := HQ
 rw [hQ]
 rw [ej0, eb0] at hm
 clear hS hB ej0 eb0 hQ
 go_enter Try.func136, Try.ntmps136
 go_wp2_with fail
 (with_reducible refine hm.out.mono ?_)
 rintro e w1 ⟨rfl, hB1, hK1, hS1⟩
 have HB1 := Lib.hid hB1
 have HK1 := Lib.hid hK1
 have HS1 := Lib.hid hS1
 clear hB1 hK1 hS1 hm
 go_wp2
 go_loopw [3, 4, 5, 6, 7, 8] (fun u3 _ _ _ _ _ wr => ∃ (j : Nat) (bd : Bool) (xs : List UInt8), j ≤ s.size ∧ xs.length ≤ j ∧ Hid ((Kd.int .u8).R 5 wr w0.heap.size (fun k => w.heap.size ≤ k) u3 (ints xs)) ∧ Hid (SB wr g s j bd) ∧ Hid (bd = true → Q = none) ∧ Hid (bd = false → Q = (unqW stepR (s.data.toList.drop j)).map (fun q => (xs ++ q.1, q.2))) ∧ Hid (Below w0.heap.size w0 wr) ∧ Hid (KeepBut w wr g none))
  (fun _ _ _ _ _ _ wr => s.size - (intOf ((wr.cell? ⟨g, 1, none⟩).getD undef)).toNat)
 case atStart => exact ⟨j0, bd0, [], hj0, Nat.zero_le _, Lib.hid (Kd.R_nil (Kd.int .u8) _ _ _ _), HS1, HN0, HE0, HB1, HK1⟩
 case round =>
  clear HB1 HK1 HS1 HN0 HE0 hj0
  obtain ⟨j, bd, xs, hj, hxl, HR, HS, HN, HE, HB, HK⟩ := hrel
  cases bd with
  | true =>
   have HN1 := Lib.hid (HN.out rfl)
   clear HN HE
   have g2 := HS.out.c2
   have hcv := own_string (P := Try.prog) Try.underlying85 Try.underlying5 Try.underlying9 (Kd.own_of_R HR.out)
   go_wp2
   go_ret
   exact ⟨HB.out, HK.out, Or.inl ⟨HN1.out, _, j, rfl, hj, HS.out⟩⟩
  | false =>
   have HE1 := Lib.hid (HE.out rfl)
   clear HE HN
   rename Hid (Q = _) => HE
   have HS0 := HS
   have g0 := HS.out.c0
   have g1 := HS.out.c1
   have g2 := HS.out.c2
   have z1 := HS.out.z1
   have z2 := HS.out.z2
   by_cases hlt : j < s.size
   ·have d1 : decide (s.size ≤ j) = false := decide_eq_false (by omega)
    have d2 : decide ((s.size : Int) ≤ (j : Int)) = false := decide_eq_false (by omega)
    obtain ⟨x, hx⟩ : ∃ x, bN s j = x := ⟨_, rfl⟩
    have hx0 := bN_at s j x hx
    have HX := Lib.hid hx
    clear hx
    go_wp2
    go_quiet (fail)
    clear g0 g1 g2 z1 z2
    have HS := Lib.hid (HS.out.drewN nq)
    have HB := Lib.hid (pw_below_drewN HB.out nq)
    have HK := Lib.hid (keep_drewN HK.out nq)
    have HR := Lib.hid (Kd.R_drewN HR.out nq)
    generalize wr.drewN nq = W1 at HS HB HK HR ⊢
    clear nq
    have g0 := HS.out.c0
    have g1 := HS.out.c1
    have g2 := HS.out.c2
    have z1 := HS.out.z1
    have z2 := HS.out.z2
    go_wp2
    go_quiet (fail)
    clear g0 g1 g2 z1 z2
    have HS := Lib.hid (HS.out.drewN nq)
    have HB := Lib.hid (pw_below_drewN HB.out nq)
    have HK := Lib.hid (keep_drewN HK.out nq)
    have HR := Lib.hid (Kd.R_drewN HR.out nq)
    generalize W1.drewN nq = W2 at HS HB HK HR ⊢
    clear nq
    have g0 := HS.out.c0
    have g1 := HS.out.c1
    have g2 := HS.out.c2
    have z1 := HS.out.z1
    have z2 := HS.out.z2
    obtain ⟨j1, ej1, ej1I⟩ : ∃ j1 : Nat, j1 = j + 1 ∧ (j : Int) + 1 = (j1 : Int) := ⟨j + 1, rfl, rfl⟩
    have HJ1 := Lib.hid ej1
    have hj1 : j < j1 := by omega
    have hj1' : j1 ≤ s.size := by omega
    clear ej1
    have HS := Lib.hid (show SB (W2.setCell ⟨g, 1, none⟩ (.int .i64 (j1 : Int))) g s j1 false from HS.out.set1 j1)
    have HB := Lib.hid (HB.out.setCell (p := ⟨g, 1, none⟩) hg (.int .i64 (j1 : Int)))
    have HK := Lib.hid (HK.out.set_ 1 (.int .i64 (j1 : Int)))
    have HR := Lib.hid (Kd.R_far (p := ⟨g, 1, none⟩) HR.out (fun k hk => far_g hgw hk) (.int .i64 (j1 : Int)))
    by_cases e34 : (x.toNat : Int) = 34
    ·have hcv := own_string (P := Try.prog) Try.underlying85 Try.underlying5 Try.underlying9 (Kd.own_of_R HR.out)
     have HE2 := Lib.hid (HE.out.trans (congrArg (Option.map (fun q => (xs ++ q.1, q.2))) (rv_34 s j hlt (HX.out.trans ((un_toNat (n := 34) (by decide)).1 e34)))))
     have b34 : ((x.toNat : Int) == 34) = true := beq_iff_eq.2 e34
     clear e34
     go_wp2
     go_ret
     exact val_post (by rw [HJ1.out]; exact HE2.out) hj1' HB.out HK.out HS.out
    ·have b34 : ((x.toNat : Int) == 34) = false := beq_eq_false_iff_ne.2 e34
     have n34 : x ≠ 34 := fun h => e34 (by rw [h]; rfl)
     by_cases e92 : (x.toNat : Int) = 92
     ·have b92 : ((x.toNat : Int) == 92) = true := beq_iff_eq.2 e92
      have b92n : ((x.toNat : Int) != 92) = false := by simp [bne, b92]
      have HX92 := Lib.hid (HX.out.trans ((un_toNat (n := 92) (by decide)).1 e92))
      clear e34 e92 n34
      go_wp2
      obtain ⟨W3, eW3⟩ : ∃ W3, W2.setCell ⟨g, 1, none⟩ (.int .i64 (j1 : Int)) = W3 := ⟨_, rfl⟩
      rw [eW3] at HS HB HK HR ⊢
      clear eW3 g0 g1 g2 z1 z2
      have g0 := HS.out.c0
      have g1 := HS.out.c1
      have g2 := HS.out.c2
      have z1 := HS.out.z1
      have z2 := HS.out.z2
      by_cases hlt1 : j1 < s.size
      ·have d3 : decide (s.size ≤ j1) = false := decide_eq_false (by omega)
       have d4 : decide ((s.size : Int) ≤ (j1 : Int)) = false := decide_eq_false (by omega)
       obtain ⟨y, hy⟩ : ∃ y, bN s j1 = y := ⟨_, rfl⟩
       have hy0 := bN_at s j1 y hy
       have HY := Lib.hid (show bN s (j + 1) = y from by rw [← HJ1.out]; exact hy)
       clear hy
       go_quiet (fail)
       clear g0 g1 g2 z1 z2
       have HS := Lib.hid (HS.out.drewN nq)
       have HB := Lib.hid (pw_below_drewN HB.out nq)
       have HK := Lib.hid (keep_drewN HK.out nq)
       have HR := Lib.hid (Kd.R_drewN HR.out nq)
       generalize W3.drewN nq = W4 at HS HB HK HR ⊢
       clear nq
       have g0 := HS.out.c0
       have g1 := HS.out.c1
       have g2 := HS.out.c2
       have z1 := HS.out.z1
       have z2 := HS.out.z2
       go_wp2
       go_quiet (fail)
       clear g0 g1 g2 z1 z2
       have HS := Lib.hid (HS.out.drewN nq)
       have HB := Lib.hid (pw_below_drewN HB.out nq)
       have HK := Lib.hid (keep_drewN HK.out nq)
       have HR := Lib.hid (Kd.R_drewN HR.out nq)
       generalize W4.drewN nq = W5 at HS HB HK HR ⊢
       clear nq
       have g0 := HS.out.c0
       have g1 := HS.out.c1
       have g2 := HS.out.c2
       have z1 := HS.out.z1
       have z2 := HS.out.z2
       obtain ⟨j2, ej2, ej2I⟩ : ∃ j2 : Nat, j2 = j1 + 1 ∧ (j1 : Int) + 1 = (j2 : Int) := ⟨j1 + 1, rfl, rfl⟩
       have HJ2 := Lib.hid (show j2 = j + 2 from by rw [ej2, HJ1.out])
       have hj2 : j1 < j2 := by omega
       have hj2' : j2 ≤ s.size := by omega
       have hj2j : j2 ≤ j + 2 := by have := HJ2.out; omega
       clear ej2
       have HS := Lib.hid (show SB (W5.setCell ⟨g, 1, none⟩ (.int .i64 (j2 : Int))) g s j2 false from HS.out.set1 j2)
       have HB := Lib.hid (HB.out.setCell (p := ⟨g, 1, none⟩) hg (.int .i64 (j2 : Int)))
       have HK := Lib.hid (HK.out.set_ 1 (.int .i64 (j2 : Int)))
       have HR := Lib.hid (Kd.R_far (p := ⟨g, 1, none⟩) HR.out (fun k hk => far_g hgw hk) (.int .i64 (j2 : Int)))
       by_cases e120 : (y.toNat : Int) = 120
       ·have b120 : ((y.toNat : Int) == 120) = true := beq_iff_eq.2 e120
        have b120n : ((y.toNat : Int) != 120) = false := by simp [bne, b120]
        have HY120 := Lib.hid (HY.out.trans ((un_toNat (n := 120) (by decide)).1 e120))
        clear e120
        go_wp2
        obtain ⟨W6, eW6⟩ : ∃ W6, W5.setCell ⟨g, 1, none⟩ (.int .i64 (j2 : Int)) = W6 := ⟨_, rfl⟩
        rw [eW6] at HS HB HK HR ⊢
        clear eW6 g0 g1 g2 z1 z2
        have g0 := HS.out.c0
        have g1 := HS.out.c1
        have g2 := HS.out.c2
        have z1 := HS.out.z1
        have z2 := HS.out.z2
        by_cases h4 : j2 + 2 ≤ s.size
        ·have d5 : decide ((s.size : Int) - (j2 : Int) < 2) = false := decide_eq_false (by omega)
         have d6 : ¬ (s.size : Int) - (j2 : Int) < 2 := by omega
         obtain ⟨p, hp⟩ : ∃ p, bN s j2 = p := ⟨_, rfl⟩
         obtain ⟨q, hq⟩ : ∃ q, bN s (j2 + 1) = q := ⟨_, rfl⟩
         have hp0 := bN_at s j2 p hp
         have hq0 := bN_at s (j2 + 1) q hq
         obtain ⟨v1, hv1⟩ : ∃ v, hexV p = v := ⟨_, rfl⟩
         obtain ⟨v2, hv2⟩ : ∃ v, hexV q = v := ⟨_, rfl⟩
         have HE0 := rv_hex s j (by have := HJ2.out; omega) HX92.out HY120.out p q (by rw [← HJ2.out]; exact hp) (by rw [show j + 3 = j2 + 1 by have := HJ2.out; omega]; exact hq)
         rw [hv1, hv2] at HE0
         have HE3 := Lib.hid HE0
         have HV1 := Lib.hid hv1
         have HV2 := Lib.hid hv2
         clear hp hq hv1 hv2 HE0
         have hp1 : (j2 : Int) < (s.size : Int) := by omega
         have hp2 : j2 < s.size := by omega
         have hq1 : (j2 : Int) + 1 < (s.size : Int) := by omega
         have hq2 : j2 + 1 < s.size := by omega
         have hq3 : (0 : Int) ≤ (j2 : Int) + 1 := by omega
         have hq4 : IntKind.i64.wrap ((j2 : Int) + 1) = (j2 : Int) + 1 := by rw [i64_w]; unfold wrap64; omega
         have hq0' : ∀ h : ((j2 : Int) + 1).toNat < s.size, ((s[((j2 : Int) + 1).toNat]'h).toNat : Int) = (q.toNat : Int) := fun h => hq0 hq2
         go_quiet (fail)
         clear g0 g1 g2 z1 z2
         have HS := Lib.hid (HS.out.drewN nq)
         have HB := Lib.hid (pw_below_drewN HB.out nq)
         have HK := Lib.hid (keep_drewN HK.out nq)
         have HR := Lib.hid (Kd.R_drewN HR.out nq)
         generalize W6.drewN nq = W7 at HS HB HK HR ⊢
         clear nq
         have g0 := HS.out.c0
         have g1 := HS.out.c1
         have g2 := HS.out.c2
         have z1 := HS.out.z1
         have z2 := HS.out.z2
         go_wp2
         by_cases q1 : v1 < 0
         ·have HN2 := Lib.hid (map_none' HE.out (HE3.out.trans (if_pos (Or.inl q1))))
          go_quiet (first | (go_at_call 170; exact Calls.quiet_of (hex170b _ p v1 HV1.out q1)))
          clear g0 g1 g2 z1 z2
          have HS := Lib.hid (HS.out.drewN nq)
          have HB := Lib.hid (pw_below_drewN HB.out nq)
          have HK := Lib.hid (keep_drewN HK.out nq)
          have HR := Lib.hid (Kd.R_drewN HR.out nq)
          generalize W7.drewN nq = W8 at HS HB HK HR ⊢
          clear nq
          have g0 := HS.out.c0
          have g1 := HS.out.c1
          have g2 := HS.out.c2
          have z1 := HS.out.z1
          have z2 := HS.out.z2
          by_cases q2 : v2 < 0
          ·have HQ2 := Lib.hid q2
           clear q2
           go_wp2
           go_quiet (first | (go_at_call 170; exact Calls.quiet_of (hex170b _ q v2 HV2.out HQ2.out)))
           clear g0 g1 g2 z1 z2
           have HS := Lib.hid (HS.out.drewN nq)
           have HB := Lib.hid (pw_below_drewN HB.out nq)
           have HK := Lib.hid (keep_drewN HK.out nq)
           have HR := Lib.hid (Kd.R_drewN HR.out nq)
           generalize W8.drewN nq = W9 at HS HB HK HR ⊢
           clear nq
           have g0 := HS.out.c0
           have g1 := HS.out.c1
           have g2 := HS.out.c2
           have z1 := HS.out.z1
           have z2 := HS.out.z2
           have HS := Lib.hid (HS.out.set2 true)
           have HB := Lib.hid (HB.out.setCell (p := ⟨g, 2, none⟩) hg (.bool true))
           have HK := Lib.hid (HK.out.set_ 2 (.bool true))
           have HR := Lib.hid (Kd.R_far (p := ⟨g, 2, none⟩) HR.out (fun k hk => far_g hgw hk) (.bool true))
           have hcv := own_string (P := Try.prog) Try.underlying85 Try.underlying5 Try.underlying9 (Kd.own_of_R HR.out)
           go_wp2
           go_ret
           exact ⟨HB.out, HK.out, Or.inl ⟨HN2.out, _, j2, rfl, by omega, HS.out⟩⟩
          ·have HQ2 := Lib.hid (fun W => hex170g W q v2 HV2.out q2)
           go_wp2
           go_quiet (first | (go_at_call 170; exact Calls.quiet_of (HQ2.out _)))
           clear g0 g1 g2 z1 z2
           have HS := Lib.hid (HS.out.drewN nq)
           have HB := Lib.hid (pw_below_drewN HB.out nq)
           have HK := Lib.hid (keep_drewN HK.out nq)
           have HR := Lib.hid (Kd.R_drewN HR.out nq)
           generalize W8.drewN nq = W9 at HS HB HK HR ⊢
           clear nq
           have g0 := HS.out.c0
           have g1 := HS.out.c1
           have g2 := HS.out.c2
           have z1 := HS.out.z1
           have z2 := HS.out.z2
           have HS := Lib.hid (HS.out.set2 true)
           have HB := Lib.hid (HB.out.setCell (p := ⟨g, 2, none⟩) hg (.bool true))
           have HK := Lib.hid (HK.out.set_ 2 (.bool true))
           have HR := Lib.hid (Kd.R_far (p := ⟨g, 2, none⟩) HR.out (fun k hk => far_g hgw hk) (.bool true))
           have hcv := own_string (P := Try.prog) Try.underlying85 Try.underlying5 Try.underlying9 (Kd.own_of_R HR.out)
           go_wp2
           go_ret
           exact ⟨HB.out, HK.out, Or.inl ⟨HN2.out, _, j2, rfl, by omega, HS.out⟩⟩
         ·go_quiet (first | (go_at_call 170; exact Calls.quiet_of (hex170g _ p v1 HV1.out q1)))
          clear g0 g1 g2 z1 z2
          have HS := Lib.hid (HS.out.drewN nq)
          have HB := Lib.hid (pw_below_drewN HB.out nq)
          have HK := Lib.hid (keep_drewN HK.out nq)
          have HR := Lib.hid (Kd.R_drewN HR.out nq)
          generalize W7.drewN nq = W8 at HS HB HK HR ⊢
          clear nq
          have g0 := HS.out.c0
          have g1 := HS.out.c1
          have g2 := HS.out.c2
          have z1 := HS.out.z1
          have z2 := HS.out.z2
          by_cases q2 : v2 < 0
          ·have HN2 := Lib.hid (map_none' HE.out (HE3.out.trans (if_pos (Or.inr q2))))
           have HQ2 := Lib.hid q2
           clear q2
           go_wp2
           go_quiet (first | (go_at_call 170; exact Calls.quiet_of (hex170b _ q v2 HV2.out HQ2.out)))
           clear g0 g1 g2 z1 z2
           have HS := Lib.hid (HS.out.drewN nq)
           have HB := Lib.hid (pw_below_drewN HB.out nq)
           have HK := Lib.hid (keep_drewN HK.out nq)
           have HR := Lib.hid (Kd.R_drewN HR.out nq)
           generalize W8.drewN nq = W9 at HS HB HK HR ⊢
           clear nq
           have g0 := HS.out.c0
           have g1 := HS.out.c1
           have g2 := HS.out.c2
           have z1 := HS.out.z1
           have z2 := HS.out.z2
           have HS := Lib.hid (HS.out.set2 true)
           have HB := Lib.hid (HB.out.setCell (p := ⟨g, 2, none⟩) hg (.bool true))
           have HK := Lib.hid (HK.out.set_ 2 (.bool true))
           have HR := Lib.hid (Kd.R_far (p := ⟨g, 2, none⟩) HR.out (fun k hk => far_g hgw hk) (.bool true))
           have hcv := own_string (P := Try.prog) Try.underlying85 Try.underlying5 Try.underlying9 (Kd.own_of_R HR.out)
           go_wp2
           go_ret
           exact ⟨HB.out, HK.out, Or.inl ⟨HN2.out, _, j2, rfl, by omega, HS.out⟩⟩
          ·have HE4 := Lib.hid (map_snoc HE.out (HE3.out.trans (if_neg (fun h => h.elim q1 q2))))
           have HQ2 := Lib.hid (fun W => hex170g W q v2 HV2.out q2)
           go_wp2
           go_quiet (first | (go_at_call 170; exact Calls.quiet_of (HQ2.out _)))
           clear g0 g1 g2 z1 z2
           have HS := Lib.hid (HS.out.drewN nq)
           have HB := Lib.hid (pw_below_drewN HB.out nq)
           have HK := Lib.hid (keep_drewN HK.out nq)
           have HR := Lib.hid (Kd.R_drewN HR.out nq)
           generalize W8.drewN nq = W9 at HS HB HK HR ⊢
           clear nq
           have g0 := HS.out.c0
           have g1 := HS.out.c1
           have g2 := HS.out.c2
           have z1 := HS.out.z1
           have z2 := HS.out.z2
           obtain ⟨j4, ej4, ej4I⟩ : ∃ j4 : Nat, j4 = j2 + 2 ∧ (j2 : Int) + 2 = (j4 : Int) := ⟨j2 + 2, rfl, rfl⟩
           have HJ4 := Lib.hid (show j4 = j + 4 from by rw [ej4, HJ2.out])
           have hj4 : j2 < j4 := by omega
           have hj4' : j4 ≤ s.size := by omega
           clear ej4
           have HS := Lib.hid (show SB (W9.setCell ⟨g, 1, none⟩ (.int .i64 (j4 : Int))) g s j4 false from HS.out.set1 j4)
           have HB := Lib.hid (HB.out.setCell (p := ⟨g, 1, none⟩) hg (.int .i64 (j4 : Int)))
           have HK := Lib.hid (HK.out.set_ 1 (.int .i64 (j4 : Int)))
           have HR := Lib.hid (Kd.R_far (p := ⟨g, 1, none⟩) HR.out (fun k hk => far_g hgw hk) (.int .i64 (j4 : Int)))
           have hlo1 := (hexV_range p).1
           have hhi1 := (hexV_range p).2
           have hlo2 := (hexV_range q).1
           have hhi2 := (hexV_range q).2
           rw [HV1.out] at hlo1 hhi1
           rw [HV2.out] at hlo2 hhi2
           have hsum := hex_sum HV1.out HV2.out (by omega) (by omega)
           have hm1 : v1 * 16 % 256 = v1 * 16 := by omega
           have hm2 : (v1 * 16 + v2) % 256 = v1 * 16 + v2 := by omega
           rw [hm1, hm2] at hsum
           have HSUM := Lib.hid hsum
           clear hsum
           go_wp2_with (at_builtin; refine Kd.R_append (Kd.int .u8) (w0 := w0) w0.heap.size rfl (.tmp 146) (.tmp 151) 85 5 (.int .u8 0) 1 rfl Try.underlying85 info5 rfl (by decide) (by omega) u3 (ints xs) (v1 * 16 + v2) [.int .u8 (v1 * 16 + v2)] (fun k => w.heap.size ≤ k) (fun _ => False) rfl (by first | rfl | (rw [World.size_setCell]; rfl) | simp) rfl (fun _ hk => hk.elim) (fun k hk => Nat.le_trans (keep_size HK.out) hk) HR.out HB.out (below_size HB.out) (by rw [ints_len]; omega) ?_; intro w3v w3 hown1 hbel1 hg1 hat1; clear hat1; have HG1 := Lib.hid hg1; clear hg1)
           rw [HSUM.out] at hown1
           have HS := Lib.hid (SB.grown HS.out hgw HR.out.1 HG1.out)
           have HK := Lib.hid (keep_grown HK.out HR.out.1 HG1.out)
           have HR := Lib.hid (show (Kd.int .u8).R 5 w3 w0.heap.size (fun k => w.heap.size ≤ k) w3v (ints (xs ++ [hexB p q])) from by rw [ints_app]; exact hown1)
           have HB := Lib.hid hbel1
           clear hown1 hbel1
           go_roundw
           case rel => exact ⟨j4, false, xs ++ [hexB p q], by omega, by rw [List.length_append, List.length_singleton]; omega, HR, HS, Lib.hid (fun h => absurd h Bool.false_ne_true), Lib.hid (fun _ => (by rw [HJ4.out]; exact HE4.out)), HB, HK⟩
           case measure => exact measB hlt (by omega) HS0.out.c1 HS.out.c1
        ·have d5 : decide ((s.size : Int) - (j2 : Int) < 2) = true := decide_eq_true (by omega)
         have d6 : (s.size : Int) - (j2 : Int) < 2 := by omega
         have HN2 := Lib.hid (map_none' HE.out (rv_xshort s j (by have := HJ2.out; omega) (by have := HJ2.out; omega) HX92.out HY120.out))
         go_quiet (fail)
         clear g0 g1 g2 z1 z2
         have HS := Lib.hid (HS.out.drewN nq)
         have HB := Lib.hid (pw_below_drewN HB.out nq)
         have HK := Lib.hid (keep_drewN HK.out nq)
         have HR := Lib.hid (Kd.R_drewN HR.out nq)
         generalize W6.drewN nq = W7 at HS HB HK HR ⊢
         clear nq
         have g0 := HS.out.c0
         have g1 := HS.out.c1
         have g2 := HS.out.c2
         have z1 := HS.out.z1
         have z2 := HS.out.z2
         have HS := Lib.hid (HS.out.set2 true)
         have HB := Lib.hid (HB.out.setCell (p := ⟨g, 2, none⟩) hg (.bool true))
         have HK := Lib.hid (HK.out.set_ 2 (.bool true))
         have HR := Lib.hid (Kd.R_far (p := ⟨g, 2, none⟩) HR.out (fun k hk => far_g hgw hk) (.bool true))
         have hcv := own_string (P := Try.prog) Try.underlying85 Try.underlying5 Try.underlying9 (Kd.own_of_R HR.out)
         go_wp2
         go_ret
         exact ⟨HB.out, HK.out, Or.inl ⟨HN2.out, _, j2, rfl, by omega, HS.out⟩⟩
       ·have b120 : ((y.toNat : Int) == 120) = false := beq_eq_false_iff_ne.2 e120
        have b120n : ((y.toNat : Int) != 120) = true := by simp [bne, b120]
        have HE4 := Lib.hid (map_snoc HE.out (rv_next s j (by have := HJ2.out; omega) HX92.out y HY.out (fun h => e120 (by rw [h]; rfl))))
        go_wp2_with (at_builtin; refine Kd.R_append (Kd.int .u8) (w0 := w0) w0.heap.size rfl (.tmp 84) (.tmp 86) 85 5 (.int .u8 0) 1 rfl Try.underlying85 info5 rfl (by decide) (by omega) u3 (ints xs) ((y.toNat : Int)) [.int .u8 ((y.toNat : Int))] (fun k => w.heap.size ≤ k) (fun _ => False) rfl (by first | rfl | (rw [World.size_setCell]; rfl) | simp) rfl (fun _ hk => hk.elim) (fun k hk => Nat.le_trans (keep_size HK.out) hk) HR.out HB.out (below_size HB.out) (by rw [ints_len]; omega) ?_; intro w3v w3 hown1 hbel1 hg1 hat1; clear hat1; have HG1 := Lib.hid hg1; clear hg1)
        have HS := Lib.hid (SB.grown HS.out hgw HR.out.1 HG1.out)
        have HK := Lib.hid (keep_grown HK.out HR.out.1 HG1.out)
        have HR := Lib.hid (show (Kd.int .u8).R 5 w3 w0.heap.size (fun k => w.heap.size ≤ k) w3v (ints (xs ++ [y])) from by rw [ints_app]; exact hown1)
        have HB := Lib.hid hbel1
        clear hown1 hbel1
        go_roundw
        case rel => exact ⟨j2, false, xs ++ [y], by omega, by rw [List.length_append, List.length_singleton]; omega, HR, HS, Lib.hid (fun h => absurd h Bool.false_ne_true), Lib.hid (fun _ => (by rw [HJ2.out]; exact HE4.out)), HB, HK⟩
        case measure => exact measB hlt (by omega) HS0.out.c1 HS.out.c1
      ·have d3 : decide (s.size ≤ j1) = true := decide_eq_true (by omega)
       have d4 : decide ((s.size : Int) ≤ (j1 : Int)) = true := decide_eq_true (by omega)
       have HN2 := Lib.hid (map_none' HE.out (rv_short s j hlt (by have := HJ1.out; omega) HX92.out))
       go_quiet (fail)
       clear g0 g1 g2 z1 z2
       have HS := Lib.hid (HS.out.drewN nq)
       have HB := Lib.hid (pw_below_drewN HB.out nq)
       have HK := Lib.hid (keep_drewN HK.out nq)
       have HR := Lib.hid (Kd.R_drewN HR.out nq)
       generalize W3.drewN nq = W4 at HS HB HK HR ⊢
       clear nq
       have g0 := HS.out.c0
       have g1 := HS.out.c1
       have g2 := HS.out.c2
       have z1 := HS.out.z1
       have z2 := HS.out.z2
       have HS := Lib.hid (HS.out.set2 true)
       have HB := Lib.hid (HB.out.setCell (p := ⟨g, 2, none⟩) hg (.bool true))
       have HK := Lib.hid (HK.out.set_ 2 (.bool true))
       have HR := Lib.hid (Kd.R_far (p := ⟨g, 2, none⟩) HR.out (fun k hk => far_g hgw hk) (.bool true))
       have hcv := own_string (P := Try.prog) Try.underlying85 Try.underlying5 Try.underlying9 (Kd.own_of_R HR.out)
       go_wp2
       go_ret
       exact ⟨HB.out, HK.out, Or.inl ⟨HN2.out, _, j1, rfl, by omega, HS.out⟩⟩
     ·have b92 : ((x.toNat : Int) == 92) = false := beq_eq_false_iff_ne.2 e92
      have b92n : ((x.toNat : Int) != 92) = true := by simp [bne, b92]
      have HE4 := Lib.hid (map_snoc HE.out (rv_raw s j hlt x HX.out n34 (fun h => e92 (by rw [h]; rfl))))
      go_wp2_with (at_builtin; refine Kd.R_append (Kd.int .u8) (w0 := w0) w0.heap.size rfl (.tmp 49) (.tmp 51) 85 5 (.int .u8 0) 1 rfl Try.underlying85 info5 rfl (by decide) (by omega) u3 (ints xs) ((x.toNat : Int)) [.int .u8 ((x.toNat : Int))] (fun k => w.heap.size ≤ k) (fun _ => False) rfl (by first | rfl | (rw [World.size_setCell]; rfl) | simp) rfl (fun _ hk => hk.elim) (fun k hk => Nat.le_trans (keep_size HK.out) hk) HR.out HB.out (below_size HB.out) (by rw [ints_len]; omega) ?_; intro w3v w3 hown1 hbel1 hg1 hat1; clear hat1; have HG1 := Lib.hid hg1; clear hg1)
      have HS := Lib.hid (SB.grown HS.out hgw HR.out.1 HG1.out)
      have HK := Lib.hid (keep_grown HK.out HR.out.1 HG1.out)
      have HR := Lib.hid (show (Kd.int .u8).R 5 w3 w0.heap.size (fun k => w.heap.size ≤ k) w3v (ints (xs ++ [x])) from by rw [ints_app]; exact hown1)
      have HB := Lib.hid hbel1
      clear hown1 hbel1
      go_roundw
      case rel => exact ⟨j1, false, xs ++ [x], by omega, by rw [List.length_append, List.length_singleton]; omega, HR, HS, Lib.hid (fun h => absurd h Bool.false_ne_true), Lib.hid (fun _ => (by rw [HJ1.out]; exact HE4.out)), HB, HK⟩
      case measure => exact measB hlt (by omega) HS0.out.c1 HS.out.c1
   ·have d1 : decide (s.size ≤ j) = true := decide_eq_true (by omega)
    have d2 : decide ((s.size : Int) ≤ (j : Int)) = true := decide_eq_true (by omega)
    have HN := Lib.hid (map_none' HE.out (rv_end s j (by omega)))
    go_wp2
    go_quiet (fail)
    clear g0 g1 g2 z1 z2
    have HS := Lib.hid (HS.out.drewN nq)
    have HB := Lib.hid (pw_below_drewN HB.out nq)
    have HK := Lib.hid (keep_drewN HK.out nq)
    have HR := Lib.hid (Kd.R_drewN HR.out nq)
    generalize wr.drewN nq = W1 at HS HB HK HR ⊢
    clear nq
    have g0 := HS.out.c0
    have g1 := HS.out.c1
    have g2 := HS.out.c2
    have z1 := HS.out.z1
    have z2 := HS.out.z2
    have HS := Lib.hid (HS.out.set2 true)
    have HB := Lib.hid (HB.out.setCell (p := ⟨g, 2, none⟩) hg (.bool true))
    have HK := Lib.hid (HK.out.set_ 2 (.bool true))
    have HR := Lib.hid (Kd.R_far (p := ⟨g, 2, none⟩) HR.out (fun k hk => far_g hgw hk) (.bool true))
    have hcv := own_string (P := Try.prog) Try.underlying85 Try.underlying5 Try.underlying9 (Kd.own_of_R HR.out)
    go_wp2
    go_ret
    exact ⟨HB.out, HK.out, Or.inl ⟨HN.out, _, j, rfl, by omega, HS.out⟩⟩
end
end Go.Proofs.Yteafilojjdfllaa
end
section
namespace Go.Proofs.Yteafilojjdfllaa
open Go Go.RowKit Go.Proofs.YteafilojjdfllaaW.PrintWords Go.Proofs.YteafilojjdfllaaW.PrintLast Go.Proofs.YteafilojjdfllaaW.PrintMore Go.Proofs.Yteafilojjdfllaa.PAll
set_option linter.unusedVariables false
set_option linter.unusedSimpArgs false
theorem u8w : ∀ n : Fin 17, IntKind.u8.wrap ((n.val : Nat) : Int) = ((n.val : Nat) : Int) := by decide +kernel
theorem dig_ext : ∀ n : Fin 16, (⟨#[48, 49, 50, 51, 52, 53, 54, 55, 56, 57, 97, 98, 99, 100, 101, 102]⟩ : ByteArray).extract n.val (n.val + 1) = ⟨#[hexD n.val]⟩ := by decide +kernel
theorem one_ext (s : ByteArray) (j : Nat) (h : j < s.size) : s.extract j (j + 1) = ⟨#[s.data.toList.getD j 0]⟩ := by
 apply ba_ext
 have h' : j < s.data.size := h
 have hl : j < s.data.toList.length := by simpa using h
 simp only [ByteArray.data_extract, Array.toList_extract, List.extract_eq_take_drop, Nat.add_sub_cancel_left]
 rw [List.drop_eq_getElem_cons hl]
 rw [List.getD_eq_getElem?_getD, List.getElem?_eq_getElem hl]
 simp
theorem addS (a b : List UInt8) (h : (a ++ b).length ≤ 1000000000) : Op.stringOp .add ⟨a.toArray⟩ ⟨b.toArray⟩ = pure (.string ⟨(a ++ b).toArray⟩) := add_to (by simp) (by simpa using h)
set_option maxRecDepth 100000 in
set_option maxHeartbeats 8000000 in
/-- the document's Quoted. -/
theorem quoted133 (w : World) (t : ByteArray) (ht : t.size ≤ 1000000) : Calls Try.prog 133 #[.string t] w fun e w' => e = .returned (.string (qB t)) ∧ ∃ m, w' = w.drewN m := by
 suffices h : Calls Try.prog 133 #[.string t] w fun e w' => e = .returned (.string (qB t)) ∧ Drawn0 w w' from h.mono fun _ _ ⟨he, n, hn⟩ => ⟨he, n, hn⟩
 go_enter Try.func133, Try.ntmps133
 go_wp2
 go_loopw [3, 4, 5] (fun u3 u4 _ wr => ∃ (j : Nat) (acc : List UInt8), u4 = .int .i64 j ∧ u3 = .string ⟨acc.toArray⟩ ∧ j ≤ t.size ∧ acc.length ≤ 4 * j + 1 ∧ Hid (quoteT t = acc ++ ((t.data.toList.drop j).flatMap encB ++ [34])) ∧ Drawn0 w wr)
  (fun _ u4 _ _ => t.size - (intOf u4).toNat)
 case atStart => exact ⟨0, [34], rfl, rfl, Nat.zero_le _, by simp, Lib.hid (by unfold quoteT quoteL; rfl), ⟨0, rfl⟩⟩
 case round =>
  obtain ⟨j, acc, rfl, rfl, hj, hal, HA, hB⟩ := hrel
  by_cases hlt : j < t.size
  ·obtain ⟨c, hc⟩ : ∃ c, t.data.toList.getD j 0 = c := ⟨_, rfl⟩
   have h1 : t.extract j (j + 1) = ⟨[c].toArray⟩ := by rw [one_ext t j hlt, hc]
   have hx0 : ∀ h : j < t.size, ((t[j]'h).toNat : Int) = (c.toNat : Int) := fun h => by
    have h' : j < t.data.size := h
    rw [← hc, List.getD_eq_getElem?_getD, Array.getElem?_toList, Array.getElem?_eq_getElem h']
    rfl
   have HA1 := Lib.hid (show quoteT t = (acc ++ encB c) ++ ((t.data.toList.drop (j + 1)).flatMap encB ++ [34]) from by rw [HA.out, bdrop t j hlt, hc, List.flatMap_cons]; simp)
   have hcn := c.toNat_lt
   clear hc
   by_cases e1 : c = 34 ∨ c = 92
   ·have he : encB c = [92] ++ [c] := by unfold encB; rw [if_pos e1]; rfl
    rw [he] at HA1
    have A1 := addS acc [92] (by simp; omega)
    have A2 := addS (acc ++ [92]) [c] (by simp; omega)
    rcases e1 with e1 | e1
    ·have b1 : ((c.toNat : Int) == 34) = true := by rw [e1]; rfl
     clear he e1
     go_wp2
     go_roundw
     case rel => exact ⟨j + 1, acc ++ [92] ++ [c], by go_num, by first | rfl | (simp; done) | exact congrArg Value.string (ba_ext (by simp)), by omega, by simp only [List.length_append, List.length_cons, List.length_nil]; omega, Lib.hid (by rw [HA1.out]; first | done | simp), by repeat (first | exact hB | apply Drawn0.step)⟩
     case measure => simp [intOf]; omega
    ·have b0 : ((c.toNat : Int) == 34) = false := by rw [e1]; rfl
     have b1 : ((c.toNat : Int) == 92) = true := by rw [e1]; rfl
     clear he e1
     go_wp2
     go_roundw
     case rel => exact ⟨j + 1, acc ++ [92] ++ [c], by go_num, by first | rfl | (simp; done) | exact congrArg Value.string (ba_ext (by simp)), by omega, by simp only [List.length_append, List.length_cons, List.length_nil]; omega, Lib.hid (by rw [HA1.out]; first | done | simp), by repeat (first | exact hB | apply Drawn0.step)⟩
     case measure => simp [intOf]; omega
   ·have b0 : ((c.toNat : Int) == 34) = false := beq_eq_false_iff_ne.2 (fun h => e1 (Or.inl (UInt8.toNat_inj.1 (by have : (34 : UInt8).toNat = 34 := rfl; omega))))
    have b1 : ((c.toNat : Int) == 92) = false := beq_eq_false_iff_ne.2 (fun h => e1 (Or.inr (UInt8.toNat_inj.1 (by have : (92 : UInt8).toNat = 92 := rfl; omega))))
    by_cases e2 : c.toNat < 32 ∨ c.toNat ≥ 127
    ·have he : encB c = [92, 120] ++ [hexD (c.toNat / 16)] ++ [hexD (c.toNat % 16)] := by unfold encB; rw [if_neg e1, if_pos e2]; rfl
     rw [he] at HA1
     obtain ⟨q, hq⟩ : ∃ q, c.toNat / 16 = q := ⟨_, rfl⟩
     obtain ⟨r, hr⟩ : ∃ r, c.toNat % 16 = r := ⟨_, rfl⟩
     have hq16 : q < 16 := by omega
     have hr16 : r < 16 := by omega
     rw [hq, hr] at HA1
     have s1 : (⟨#[48, 49, 50, 51, 52, 53, 54, 55, 56, 57, 97, 98, 99, 100, 101, 102]⟩ : ByteArray).extract q (q + 1) = ⟨[hexD q].toArray⟩ := dig_ext ⟨q, hq16⟩
     have s2 : (⟨#[48, 49, 50, 51, 52, 53, 54, 55, 56, 57, 97, 98, 99, 100, 101, 102]⟩ : ByteArray).extract r (r + 1) = ⟨[hexD r].toArray⟩ := dig_ext ⟨r, hr16⟩
     have A1 := addS acc [92, 120] (by simp; omega)
     have A2 := addS (acc ++ [92, 120]) [hexD q] (by simp; omega)
     have A3 := addS (acc ++ [92, 120] ++ [hexD q]) [hexD r] (by simp; omega)
     have td : Int.tdiv (c.toNat : Int) 16 = (q : Int) := by rw [Int.tdiv_eq_ediv_of_nonneg (by omega)]; omega
     have tm : Int.tmod (c.toNat : Int) 16 = (r : Int) := by rw [Int.tmod_eq_emod_of_nonneg (by omega)]; omega
     have ed : (c.toNat : Int) / 16 = (q : Int) := by omega
     have em : (c.toNat : Int) % 16 = (r : Int) := by omega
     have wq : IntKind.u8.wrap ((q : Int) + 1) = (q : Int) + 1 := u8w ⟨q + 1, by omega⟩
     have wr' : IntKind.u8.wrap ((r : Int) + 1) = (r : Int) + 1 := u8w ⟨r + 1, by omega⟩
     have wq0 : IntKind.u8.wrap (q : Int) = (q : Int) := u8w ⟨q, by omega⟩
     have wr0 : IntKind.u8.wrap (r : Int) = (r : Int) := u8w ⟨r, by omega⟩
     clear he e1 hq hr
     rcases Nat.lt_or_ge c.toNat 32 with e3 | e3
     ·have n1 : (c.toNat : Int) < 32 := by omega
      go_wp2
      go_quiet (fail)
      go_wp2
      go_roundw
      case rel => exact ⟨j + 1, acc ++ [92, 120] ++ [hexD q] ++ [hexD r], by go_num, by first | rfl | (simp; done) | exact congrArg Value.string (ba_ext (by simp)), by omega, by simp only [List.length_append, List.length_cons, List.length_nil]; omega, Lib.hid (by rw [HA1.out]; first | done | simp), by repeat (first | exact hB | apply Drawn0.step)⟩
      case measure => simp [intOf]; omega
     ·have n1 : ¬ (c.toNat : Int) < 32 := by omega
      have n2 : (127 : Int) ≤ (c.toNat : Int) := by omega
      go_wp2
      go_quiet (fail)
      go_wp2
      go_roundw
      case rel => exact ⟨j + 1, acc ++ [92, 120] ++ [hexD q] ++ [hexD r], by go_num, by first | rfl | (simp; done) | exact congrArg Value.string (ba_ext (by simp)), by omega, by simp only [List.length_append, List.length_cons, List.length_nil]; omega, Lib.hid (by rw [HA1.out]; first | done | simp), by repeat (first | exact hB | apply Drawn0.step)⟩
      case measure => simp [intOf]; omega
    ·have he : encB c = [c] := by unfold encB; rw [if_neg e1, if_neg e2]
     rw [he] at HA1
     have n1 : ¬ (c.toNat : Int) < 32 := by omega
     have n2 : ¬ (127 : Int) ≤ (c.toNat : Int) := by omega
     have A1 := addS acc [c] (by simp; omega)
     clear he e1 e2
     go_wp2
     go_roundw
     case rel => exact ⟨j + 1, acc ++ [c], by go_num, by first | rfl | (simp; done) | exact congrArg Value.string (ba_ext (by simp)), by omega, by simp only [List.length_append, List.length_cons, List.length_nil]; omega, Lib.hid (by rw [HA1.out]; first | done | simp), by repeat (first | exact hB | apply Drawn0.step)⟩
     case measure => simp [intOf]; omega
  ·obtain rfl : j = t.size := by omega
   have A1 := addS acc [34] (by simp; omega)
   have HQ := Lib.hid (show qB t = ⟨(acc ++ [34]).toArray⟩ from by unfold qB; rw [HA.out, List.drop_of_length_le (by simp)]; simp)
   go_wp2
   go_ret
   exact ⟨by rw [HQ.out]; simp, by repeat (first | exact hB | apply Drawn0.step)⟩
end Go.Proofs.Yteafilojjdfllaa
end
section
namespace Go.Proofs.Yteafilojjdfllaa
open Go Go.RowKit Go.Proofs.YteafilojjdfllaaW.PrintWords Go.Proofs.YteafilojjdfllaaW.PrintLast Go.Proofs.YteafilojjdfllaaW.PrintMore Go.Proofs.Yteafilojjdfllaa.PAll
set_option linter.unusedVariables false
set_option linter.unusedSimpArgs false
end Go.Proofs.Yteafilojjdfllaa
end
section
namespace Go.Proofs.Yteafilojjdfllaa
section
open Go Go.RowKit Go.Proofs.YteafilojjdfllaaW.PrintWords Go.Proofs.YteafilojjdfllaaW.PrintLast Go.Proofs.YteafilojjdfllaaW.PrintMore Go.Proofs.Yteafilojjdfllaa.PAll
set_option linter.unusedVariables false
set_option linter.unusedSimpArgs false
theorem nameEnd_le {s : ByteArray} {i : Nat} (hi : i ≤ s.size) : nameEnd s i ≤ s.size := by
 unfold nameEnd
 have h1 := (List.takeWhile_sublist nameC (l := s.data.toList.drop i)).length_le
 rw [drop_len] at h1
 omega
theorem nameEnd_drop {s : ByteArray} {i : Nat} : (s.data.toList.drop i).dropWhile nameC = s.data.toList.drop (nameEnd s i) := by
 rw [← (take_drop_len nameC _).2, List.drop_drop]; rfl
def lenV : Value → Nat
 | .slice _ n _ => n
 | _ => 0
end
section
open Go Go.RowKit Go.Proofs.YteafilojjdfllaaW.PrintWords Go.Proofs.YteafilojjdfllaaW.PrintLast Go.Proofs.YteafilojjdfllaaW.PrintMore Go.Proofs.Yteafilojjdfllaa.PAll
set_option linter.unusedVariables false
end
end Go.Proofs.Yteafilojjdfllaa
end
section
namespace Go.Proofs.Yteafilojjdfllaa
open Go Go.RowKit Go.Proofs.YteafilojjdfllaaW.PrintWords Go.Proofs.YteafilojjdfllaaW.PrintLast Go.Proofs.YteafilojjdfllaaW.PrintMore Go.Proofs.Yteafilojjdfllaa.PAll
set_option linter.unusedVariables false
set_option linter.unusedSimpArgs false
theorem isAt_next (s : ByteArray) (i : Nat) (c : UInt8) : isAt s i false c = nextB c (s.data.toList.drop i) := by
 unfold isAt nextB
 by_cases h : i < s.size
 ·rw [bN_drop s i h, decide_eq_true h]
  by_cases e : bN s i = c <;> simp [e]
 ·rw [decide_eq_false h, List.drop_of_length_le (by simp; omega)]
  rfl
theorem isAt_bad (s : ByteArray) (i : Nat) (c : UInt8) : isAt s i true c = false := by unfold isAt; rfl
/-- how a step of the reader ends, of one that is well -/
def SKeep (w0 w : World) (g : Nat) (s : ByteArray) (i : Nat) (b : Bool) (w' : World) : Prop := Below w0.heap.size w0 w' ∧ KeepBut w w' g none ∧ SB w' g s i b
theorem isT (w0 w : World) (g : Nat) (s : ByteArray) (i : Nat) (c : UInt8) (cz : Int) (hcz : cz = (c.toNat : Int)) (h : nextB c (s.data.toList.drop i) = true) (hi : i ≤ s.size) (hs : s.size ≤ 1000000000) (hg : w0.heap.size ≤ g) (hB : Below w0.heap.size w0 w) (hS : SB w g s i false) :
  Calls Try.prog 169 #[.pointer (some ⟨g, 0, none⟩), .int .u8 cz] w fun e w' => e = .returned (.bool true) ∧ SKeep w0 w g s (i + 1) false w' := by
 subst hcz
 have hh := is169 w0 w g s i false c hi hs hg hB hS
 rw [isAt_next, h, if_pos rfl] at hh
 exact hh.mono fun e w' ⟨h1, h2, h3, h4⟩ => ⟨h1, h2, h3, h4⟩
theorem isF (w0 w : World) (g : Nat) (s : ByteArray) (i : Nat) (c : UInt8) (cz : Int) (hcz : cz = (c.toNat : Int)) (h : nextB c (s.data.toList.drop i) = false) (hi : i ≤ s.size) (hs : s.size ≤ 1000000000) (hg : w0.heap.size ≤ g) (hB : Below w0.heap.size w0 w) (hS : SB w g s i false) :
  Calls Try.prog 169 #[.pointer (some ⟨g, 0, none⟩), .int .u8 cz] w fun e w' => e = .returned (.bool false) ∧ SKeep w0 w g s i false w' := by
 subst hcz
 have hh := is169 w0 w g s i false c hi hs hg hB hS
 rw [isAt_next, h, if_neg (by decide)] at hh
 exact hh.mono fun e w' ⟨h1, h2, h3, h4⟩ => ⟨h1, h2, h3, h4⟩
/-- whether it stands there, whatever was before -/
theorem isAny (w0 w : World) (g : Nat) (s : ByteArray) (i : Nat) (b : Bool) (c : UInt8) (cz : Int) (hcz : cz = (c.toNat : Int)) (hi : i ≤ s.size) (hs : s.size ≤ 1000000000) (hg : w0.heap.size ≤ g) (hB : Below w0.heap.size w0 w) (hS : SB w g s i b) :
  Calls Try.prog 169 #[.pointer (some ⟨g, 0, none⟩), .int .u8 cz] w fun e w' => ∃ v i', e = .returned (.bool v) ∧ SKeep w0 w g s i' b w' ∧ i' ≤ s.size ∧ Hid ((v = true ∧ b = false ∧ nextB c (s.data.toList.drop i) = true ∧ i' = i + 1) ∨ (v = false ∧ i' = i ∧ (b = true ∨ nextB c (s.data.toList.drop i) = false))) := by
 subst hcz
 refine (is169 w0 w g s i b c hi hs hg hB hS).mono ?_
 rintro e w' ⟨h1, h2, h3, h4⟩
 cases b with
 | true =>
  rw [isAt_bad] at h1 h4
  exact ⟨false, i, h1, ⟨h2, h3, by simpa using h4⟩, hi, Lib.hid (Or.inr ⟨rfl, rfl, Or.inl rfl⟩)⟩
 | false =>
  rw [isAt_next] at h1 h4
  cases hn : nextB c (s.data.toList.drop i) with
  | true =>
   rw [hn] at h1 h4
   exact ⟨true, i + 1, h1, ⟨h2, h3, by simpa using h4⟩, next_lt hn, Lib.hid (Or.inl ⟨rfl, rfl, rfl, rfl⟩)⟩
  | false =>
   rw [hn] at h1 h4
   exact ⟨false, i, h1, ⟨h2, h3, by simpa using h4⟩, hi, Lib.hid (Or.inr ⟨rfl, rfl, Or.inr rfl⟩)⟩
/-- it must stand there -/
theorem mustAny (w0 w : World) (g : Nat) (s : ByteArray) (i : Nat) (b : Bool) (c : UInt8) (cz : Int) (hcz : cz = (c.toNat : Int)) (hi : i ≤ s.size) (hs : s.size ≤ 1000000000) (hg : w0.heap.size ≤ g) (hB : Below w0.heap.size w0 w) (hS : SB w g s i b) :
  Calls Try.prog 135 #[.pointer (some ⟨g, 0, none⟩), .int .u8 cz] w fun e w' => ∃ i' b', e = .returned (.tuple #[]) ∧ SKeep w0 w g s i' b' w' ∧ i' ≤ s.size ∧ Hid ((b' = true ∧ (b = true ∨ nextB c (s.data.toList.drop i) = false)) ∨ (b' = false ∧ b = false ∧ nextB c (s.data.toList.drop i) = true ∧ i' = i + 1)) := by
 subst hcz
 refine (must135 w0 w g s i b c hi hs hg hB hS).mono ?_
 rintro e w' ⟨h1, h2, h3, h4⟩
 cases b with
 | true =>
  rw [isAt_bad] at h4
  exact ⟨i, true, h1, ⟨h2, h3, by simpa using h4⟩, hi, Lib.hid (Or.inl ⟨rfl, Or.inl rfl⟩)⟩
 | false =>
  rw [isAt_next] at h4
  cases hn : nextB c (s.data.toList.drop i) with
  | true =>
   rw [hn] at h4
   exact ⟨i + 1, false, h1, ⟨h2, h3, by simpa using h4⟩, next_lt hn, Lib.hid (Or.inr ⟨rfl, rfl, rfl, rfl⟩)⟩
  | false =>
   rw [hn] at h4
   exact ⟨i, true, h1, ⟨h2, h3, by simpa using h4⟩, hi, Lib.hid (Or.inl ⟨rfl, Or.inr rfl⟩)⟩
/-- a value, whatever was before -/
theorem valAny (w0 w : World) (g : Nat) (s : ByteArray) (i : Nat) (b : Bool) (hi : i ≤ s.size) (hs : s.size ≤ 1000000000) (hg : w0.heap.size ≤ g) (hB : Below w0.heap.size w0 w) (hS : SB w g s i b) :
  Calls Try.prog 136 #[.pointer (some ⟨g, 0, none⟩)] w fun e w' => ∃ x i' b', e = .returned (.string x) ∧ SKeep w0 w g s i' b' w' ∧ i' ≤ s.size ∧ Hid ((b' = true ∧ (b = true ∨ valW stepR (s.data.toList.drop i) = none)) ∨ (b' = false ∧ b = false ∧ ∃ v t, valW stepR (s.data.toList.drop i) = some (v, t) ∧ x = ⟨v.toArray⟩ ∧ s.data.toList.drop i' = t)) := by
 refine (value136 w0 w g s i b hi hs hg hB hS).mono ?_
 rintro e w' ⟨h1, h2, ⟨h3, x, j, rfl, h4, h5⟩ | ⟨v, t, h3, rfl, h4, h5⟩⟩
 ·refine ⟨x, j, true, rfl, ⟨h1, h2, h5⟩, h4, Lib.hid (Or.inl ⟨rfl, ?_⟩)⟩
  cases b with
  | true => exact Or.inl rfl
  | false => exact Or.inr (by simpa using h3)
 ·cases b with
  | true => rw [if_pos rfl] at h3; cases h3
  | false =>
   rw [if_neg (by decide)] at h3
   obtain ⟨p1, p2⟩ := val_place h3
   exact ⟨_, s.size - t.length, false, rfl, ⟨h1, h2, h5⟩, by omega, Lib.hid (Or.inr ⟨rfl, rfl, v, t, h3, rfl, p2⟩)⟩
/-- behind a name, as the document reads -/
def tailR (n : ByteArray) (r : List UInt8) : Option (S25 × List UInt8) :=
 if nextB 61 r = true then (valW stepR (r.drop 1)).map (fun p => (⟨1, n, ⟨p.1.toArray⟩, [], []⟩, p.2))
 else if nextB 33 r = true then (if nextB 61 (r.drop 1) = true then (valW stepR (r.drop 2)).map (fun p => (⟨2, n, ⟨p.1.toArray⟩, [], []⟩, p.2)) else none)
 else if nextB 94 r = true then (if nextB 61 (r.drop 1) = true then (valW stepR (r.drop 2)).map (fun p => (⟨3, n, ⟨p.1.toArray⟩, [], []⟩, p.2)) else none)
 else if nextB 64 r = true then (if nextB 40 (r.drop 1) = true then (valsW stepR 17 (r.drop 2)).map (fun p => (⟨4, n, ⟨#[]⟩, p.1, []⟩, p.2)) else none)
 else none
theorem namedR_tail (s : ByteArray) (i : Nat) : namedW cutN stepR false (s.data.toList.drop i) = tailR ⟨((s.data.toList.drop i).takeWhile nameC).toArray⟩ (s.data.toList.drop (nameEnd s i)) := by
 have h1 := (take_drop_len nameC (s.data.toList.drop i)).1
 have h2 := (take_drop_len nameC (s.data.toList.drop i)).2
 rw [nameEnd_drop] at h2
 unfold namedW cutN
 rw [h1, h2]
 generalize (⟨((s.data.toList.drop i).takeWhile nameC).toArray⟩ : ByteArray) = n
 generalize s.data.toList.drop (nameEnd s i) = q
 unfold tailR
 match q with
 | [] => rfl
 | c :: q =>
  simp only [nextB_cons, List.drop_succ_cons, List.drop_zero]
  by_cases h1 : c = 61
  ·rw [if_pos h1, if_pos h1]
  rw [if_neg h1, if_neg h1]
  by_cases h2 : c = 33
  ·rw [if_pos h2, if_pos h2]
   match q with
   | [] => rfl
   | e :: q => simp only [nextB_cons, List.drop_succ_cons, List.drop_zero]
  rw [if_neg h2, if_neg h2]
  by_cases h3 : c = 94
  ·rw [if_pos h3, if_pos h3]
   match q with
   | [] => rfl
   | e :: q => simp only [nextB_cons, List.drop_succ_cons, List.drop_zero]
  rw [if_neg h3, if_neg h3]
  by_cases h4 : c = 64
  ·rw [if_pos h4, if_pos h4]
   match q with
   | [] => rfl
   | e :: q =>
    simp only [nextB_cons, List.drop_succ_cons, List.drop_zero]
    by_cases he : e = 40
    ·rw [if_pos he, if_pos he, if_neg (by simp)]
    ·rw [if_neg he, if_neg he]
  ·rw [if_neg h4, if_neg h4]
/-- behind a value, as the document reads -/
def restR (k : Nat) (r : List UInt8) : Option (List ByteArray × List UInt8) := if nextB 41 r = true then some ([], r.drop 1) else if nextB 44 r = true then valsW stepR k (r.drop 1) else none
theorem valsR_rest (k : Nat) (r : List UInt8) : valsW stepR (k + 1) r = match valW stepR r with
  | none => none
  | some (v, t) => (restR k t).map (fun q => (⟨v.toArray⟩ :: q.1, q.2)) := by
 rw [valsW]
 cases valW stepR r with
 | none => rfl
 | some p =>
  obtain ⟨v, t⟩ := p
  cases t with
  | nil => rfl
  | cons c t =>
   unfold restR nextB
   by_cases h1 : c = 41
   ·subst h1; rfl
   ·by_cases h2 : c = 44
    ·subst h2; simp
    ·simp [h1, h2]
/-- how the reader ends -/
def RdPost (w0 w : World) (g gn : Nat) (s : ByteArray) (Q : Option (S25 × Nat × List UInt8)) (e : Ending) (w' : World) : Prop :=
 Below w0.heap.size w0 w' ∧ KeepBut w w' g (some gn) ∧
  ((Q = none ∧ (∃ x0 x1 x2 A3 n3 c3 A4 n4 c4, e = .returned (.agg #[.int .i64 x0, .string x1, .string x2, .slice A3 n3 c3, .slice A4 n4 c4])) ∧ (∃ i, i ≤ s.size ∧ SB w' g s i true) ∧ ∃ k, NB w' gn k) ∨
   ∃ m l r j A3 c3 A4 c4, Q = some (m, l, r) ∧ s.data.toList.drop j = r ∧ j ≤ s.size ∧ e = .returned (mV m A3 c3 A4 c4) ∧ MF w' (fun b => w.heap.size ≤ b ∧ b < w'.heap.size) m A3 c3 A4 c4 ∧ SB w' g s j false ∧ NB w' gn (64 - (l : Int)))
/-- the reader's world: its blocks, the result's -/
structure RS (w0 w W : World) (g gn K : Nat) (s : ByteArray) (i : Nat) (b : Bool) (nz : Int) : Prop where
 below : Below w0.heap.size w0 W
 keep : KeepBut w W g (some gn)
 sb : SB W g s i b
 nb : NB W gn nz
 res : W.heap[K]? = some (.cells Z5 25 (0, 0))
structure RL (w0 w : World) (g gn K : Nat) : Prop where
 g0 : w0.heap.size ≤ g
 gn0 : w0.heap.size ≤ gn
 ne : g ≠ gn
 gl : g < w.heap.size
 gnl : gn < w.heap.size
 eK : K = w.heap.size
 w0l : w0.heap.size ≤ w.heap.size
section
variable {w0 w W W' : World} {g gn K : Nat} {s : ByteArray} {i j : Nat} {b b' : Bool} {nz : Int}
theorem RS.moved (h : RS w0 w W g gn K s i b nz) (L : RL w0 w g gn K) (hk : SKeep w0 W g s j b' W') : RS w0 w W' g gn K s j b' nz := by
 obtain ⟨L1, L2, L3, L4, L5, L6, L7⟩ := L
 obtain ⟨h1, h2, h3⟩ := hk
 have hs := blk_lt h.res
 exact ⟨h1, keep_two2 h.keep (keep_wk h2), h3, (h2.2 gn (by omega) (fun e => L3 e.symm) (by simp)).trans h.nb, (h2.2 K hs (by omega) (by simp)).trans h.res⟩
theorem RS.below_ (h : RS w0 w W g gn K s i b nz) (hb : Below W.heap.size W W') (L : RL w0 w g gn K) : RS w0 w W' g gn K s i b nz :=
 h.moved L ⟨below_step h.below hb, KeepBut.of_below hb g none, h.sb.below hb⟩
theorem RS.cB (h : RS w0 w W g gn K s i b nz) : W.cell? ⟨g, 2, none⟩ = some (.bool b) := h.sb.c2
theorem RS.zK (h : RS w0 w W g gn K s i b nz) (k : Nat) : W.frozen? ⟨K, k, none⟩ = false := blk_frozen h.res k
theorem RS.k0 (h : RS w0 w W g gn K s i b nz) : W.cell? ⟨K, 0, none⟩ = some (.int .i64 0) := (blk_cell h.res 0).trans rfl
theorem RS.k1 (h : RS w0 w W g gn K s i b nz) : W.cell? ⟨K, 1, none⟩ = some (.string ⟨#[]⟩) := (blk_cell h.res 1).trans rfl
theorem RS.k2 (h : RS w0 w W g gn K s i b nz) : W.cell? ⟨K, 2, none⟩ = some (.string ⟨#[]⟩) := (blk_cell h.res 2).trans rfl
theorem RS.k3 (h : RS w0 w W g gn K s i b nz) : W.cell? ⟨K, 3, none⟩ = some (.slice none 0 0) := (blk_cell h.res 3).trans rfl
theorem RS.k4 (h : RS w0 w W g gn K s i b nz) : W.cell? ⟨K, 4, none⟩ = some (.slice none 0 0) := (blk_cell h.res 4).trans rfl
/-- the result is laid: nothing -/
theorem RS.bad (h : RS w0 w W g gn K s i true nz) (L : RL w0 w g gn K) (hi : i ≤ s.size) (x0 : Int) (x1 x2 : ByteArray) (A3 : Option Addr) (n3 c3 : Nat) (A4 : Option Addr) (n4 c4 : Nat) :
  (((((W.setCell ⟨K, 0, none⟩ (.int .i64 x0)).setCell ⟨K, 1, none⟩ (.string x1)).setCell ⟨K, 2, none⟩ (.string x2)).setCell ⟨K, 3, none⟩ (.slice A3 n3 c3)).setCell ⟨K, 4, none⟩ (.slice A4 n4 c4)).heap[K]? = some (.cells #[.int .i64 x0, .string x1, .string x2, .slice A3 n3 c3, .slice A4 n4 c4] 25 (0, 0)) ∧
  RdPost w0 w g gn s none (.returned (.agg #[.int .i64 x0, .string x1, .string x2, .slice A3 n3 c3, .slice A4 n4 c4])) (((((W.setCell ⟨K, 0, none⟩ (.int .i64 x0)).setCell ⟨K, 1, none⟩ (.string x1)).setCell ⟨K, 2, none⟩ (.string x2)).setCell ⟨K, 3, none⟩ (.slice A3 n3 c3)).setCell ⟨K, 4, none⟩ (.slice A4 n4 c4)) := by
 obtain ⟨L1, L2, L3, L4, L5, L6, L7⟩ := L
 obtain ⟨t1, t2, t3, t4, t5⟩ := got_tail (g := g) (gn := gn) (.int .i64 x0) (.string x1) (.string x2) (.slice A3 n3 c3) (.slice A4 n4 c4) L6 h.res L7 h.below h.keep
 exact ⟨t1, t2, t3, Or.inl ⟨rfl, ⟨_, _, _, _, _, _, _, _, _, rfl⟩, ⟨i, hi, (t4 g (by omega)).trans h.sb⟩, nz, (t4 gn (by omega)).trans h.nb⟩⟩
/-- the result is laid: a matcher -/
theorem RS.good {m : S25} {l : Nat} {r : List UInt8} {A3 A4 : Option Addr} {c3 c4 : Nat} (h : RS w0 w W g gn K s i false nz) (L : RL w0 w g gn K) (hi : i ≤ s.size) (hr : s.data.toList.drop i = r) (hnz : nz = 64 - (l : Int)) (hM : MF W (fun b => K < b ∧ b < W.heap.size) m A3 c3 A4 c4) :
  (((((W.setCell ⟨K, 0, none⟩ (.int .i64 m.f0)).setCell ⟨K, 1, none⟩ (.string m.f1)).setCell ⟨K, 2, none⟩ (.string m.f2)).setCell ⟨K, 3, none⟩ (.slice A3 m.f3.length c3)).setCell ⟨K, 4, none⟩ (.slice A4 m.f4.length c4)).heap[K]? = some (.cells #[.int .i64 m.f0, .string m.f1, .string m.f2, .slice A3 m.f3.length c3, .slice A4 m.f4.length c4] 25 (0, 0)) ∧
  RdPost w0 w g gn s (some (m, l, r)) (.returned (mV m A3 c3 A4 c4)) (((((W.setCell ⟨K, 0, none⟩ (.int .i64 m.f0)).setCell ⟨K, 1, none⟩ (.string m.f1)).setCell ⟨K, 2, none⟩ (.string m.f2)).setCell ⟨K, 3, none⟩ (.slice A3 m.f3.length c3)).setCell ⟨K, 4, none⟩ (.slice A4 m.f4.length c4)) := by
 obtain ⟨L1, L2, L3, L4, L5, L6, L7⟩ := L
 obtain ⟨t1, t2, t3, t4, t5⟩ := got_tail (g := g) (gn := gn) (.int .i64 m.f0) (.string m.f1) (.string m.f2) (.slice A3 m.f3.length c3) (.slice A4 m.f4.length c4) L6 h.res L7 h.below h.keep
 refine ⟨t1, t2, t3, Or.inr ⟨m, l, r, i, A3, c3, A4, c4, rfl, hr, hi, rfl, hM.move (fun b hb => ⟨⟨by omega, by rw [t5]; exact hb.2⟩, t4 b (by omega)⟩), (t4 g (by omega)).trans h.sb, ?_⟩⟩
 rw [← hnz]
 exact (t4 gn (by omega)).trans h.nb
end
/-- the reader, so many more -/
def IHd (w0 : World) (g gn : Nat) (s : ByteArray) (d : Nat) : Prop :=
 ∀ (w : World) (i left : Nat) (nz : Int), left ≤ 64 → left < d → i ≤ s.size → Below w0.heap.size w0 w → SB w g s i false → NB w gn nz → nz = 64 - (left : Int) → Calls Try.prog 146 #[.pointer (some ⟨g, 0, none⟩), .pointer (some ⟨gn, 0, none⟩)] w (RdPost w0 w g gn s (readM cutN stepR false d left (s.data.toList.drop i)))
end Go.Proofs.Yteafilojjdfllaa
end
section
namespace Go.Proofs.Yteafilojjdfllaa
open Go Go.RowKit Go.Proofs.YteafilojjdfllaaW.PrintWords Go.Proofs.YteafilojjdfllaaW.PrintLast Go.Proofs.YteafilojjdfllaaW.PrintMore Go.Proofs.Yteafilojjdfllaa.PAll
set_option linter.unusedVariables false
set_option linter.unusedSimpArgs false
set_option maxRecDepth 100000 in
set_option maxHeartbeats 32000000 in
/-- so many are read. -/
theorem rd146a (w0 w : World) (g gn : Nat) (s : ByteArray) (i d : Nat) (hi : i ≤ s.size) (hs : s.size ≤ 1000000000) (hg : w0.heap.size ≤ g) (hgn : w0.heap.size ≤ gn) (hne : g ≠ gn) (hB : Below w0.heap.size w0 w) (hS : SB w g s i false) (nz : Int) (hN : NB w gn nz) (hnz : nz = 64) :
  Calls Try.prog 146 #[.pointer (some ⟨g, 0, none⟩), .pointer (some ⟨gn, 0, none⟩)] w (RdPost w0 w g gn s none) := by
 have hgl := hS.lt
 have hgnl := blk_lt hN
 have hne2 := hne.symm
 obtain ⟨nz1, hnz1⟩ : ∃ nz1, nz + 1 = nz1 := ⟨_, rfl⟩
 have hw1 : wrap64 (nz + 1) = nz1 := by unfold wrap64; omega
 have hN2 : NB (w.alloc (.cells Z5 25)) gn nz := (Below.heap_alloc _ _ _ hgnl).trans hN
 have m0 := blk_cell hN2 0
 have mz0 := blk_frozen hN2 0
 simp only [List.getElem?_toArray, List.getElem?_cons_zero] at m0
 have t1 : (64 : Int) < nz1 := by omega
 have t2 : decide ((64 : Int) < nz1) = true := decide_eq_true t1
 obtain ⟨V, eV⟩ : ∃ V, V = (w.alloc (.cells Z5 25)).setCell ⟨gn, 0, none⟩ (.int .i64 nz1) := ⟨_, rfl⟩
 obtain ⟨K, eK⟩ : ∃ K, w.heap.size = K := ⟨_, rfl⟩
 have HL := Lib.hid (show RL w0 w g gn K from ⟨hg, hgn, hne, hgl, hgnl, eK.symm, hB.size⟩)
 have HV : Hid (RS w0 w V g gn K s i false nz1) := Lib.hid (by
  rw [eV, ← eK]
  refine ⟨(below_alloc hB _).setCell hgn _, ⟨by simp, fun i hi h1 h2 => ?_⟩, (Below.heap_setCell _ _ _ _ hne).trans ((Below.heap_alloc _ _ _ hgl).trans hS), (blk_set hN2 0 _).trans (by rfl), (Below.heap_setCell _ _ _ _ (by simp; omega)).trans (blk_new w _)⟩
  have h3 : i ≠ gn := fun e => h2 (by rw [e])
  exact (Below.heap_setCell _ _ _ _ h3).trans (Below.heap_alloc _ _ _ hi))
 have HKS := Lib.hid (show V.heap.size = K + 1 by rw [eV, World.size_setCell, World.size_alloc, eK])
 clear hS hB hN hN2 hgl hgnl hnz hnz1
 go_enter Try.func146, Try.ntmps146
 go_upto_region 3 with fail
 rw [← eV]
 clear eV m0 mz0 t1 t2 hw1 hne2 eK
 have cg := HV.out.sb.c2
 have zg := HV.out.sb.z2
 have HV2 : Hid (RS w0 w (V.setCell ⟨g, 2, none⟩ (.bool true)) g gn K s i true nz1) := Lib.hid (by
  have h := HV.out
  obtain ⟨L1, L2, L3, L4, L5, L6, L7⟩ := HL.out
  exact h.moved HL.out ⟨h.below.setCell L1 _, (KeepBut.refl V g none).set_ 2 _, h.sb.set2 true⟩)
 have cg2 := HV2.out.sb.c2
 have xk0 := HV2.out.k0
 have xk1 := HV2.out.k1
 have xk2 := HV2.out.k2
 have xk3 := HV2.out.k3
 have xk4 := HV2.out.k4
 have xz0 := HV2.out.zK 0
 have xz1 := HV2.out.zK 1
 have xz2 := HV2.out.zK 2
 have xz3 := HV2.out.zK 3
 have xz4 := HV2.out.zK 4
 clear HV
 go_wp2
 have hT := HV2.out.bad HL.out hi 0 ⟨#[]⟩ ⟨#[]⟩ none 0 0 none 0 0
 exact bodyPost_ret (results_single rfl (.cell K 25 _ (0, 0) _ rfl hT.1 Try.underlying25 rfl (by kernel_rfl) .nil)) rfl hT.2
set_option maxRecDepth 100000 in
set_option maxHeartbeats 32000000 in
/-- a star. -/
theorem rd146s (w0 w : World) (g gn : Nat) (s : ByteArray) (i left d : Nat) (hl : left ≤ 63) (hi : i ≤ s.size) (hs : s.size ≤ 1000000000) (hg : w0.heap.size ≤ g) (hgn : w0.heap.size ≤ gn) (hne : g ≠ gn) (hB : Below w0.heap.size w0 w) (hS : SB w g s i false) (nz : Int) (hN : NB w gn nz) (hnz : nz = 63 - (left : Int)) (h42 : nextB 42 (s.data.toList.drop i) = true) :
  Calls Try.prog 146 #[.pointer (some ⟨g, 0, none⟩), .pointer (some ⟨gn, 0, none⟩)] w (RdPost w0 w g gn s (readM cutN stepR false (d + 1) (left + 1) (s.data.toList.drop i))) := by
 obtain ⟨Q, eQ⟩ : ∃ Q, readM cutN stepR false (d + 1) (left + 1) (s.data.toList.drop i) = Q := ⟨_, rfl⟩
 rw [eQ]
 rw [readM_step _ _ _ _ _ _ rfl] at eQ
 have HQ := Lib.hid eQ
 clear eQ
 have E42 := Lib.hid h42
 clear h42
 have hgl := hS.lt
 have hgnl := blk_lt hN
 have hne2 := hne.symm
 obtain ⟨nz1, hnz1⟩ : ∃ nz1, nz + 1 = nz1 := ⟨_, rfl⟩
 have hw1 : wrap64 (nz + 1) = nz1 := by unfold wrap64; omega
 have hN2 : NB (w.alloc (.cells Z5 25)) gn nz := (Below.heap_alloc _ _ _ hgnl).trans hN
 have m0 := blk_cell hN2 0
 have mz0 := blk_frozen hN2 0
 simp only [List.getElem?_toArray, List.getElem?_cons_zero] at m0
 have t1 : ¬ (64 : Int) < nz1 := by omega
 have t2 : decide ((64 : Int) < nz1) = false := decide_eq_false t1
 obtain ⟨V, eV⟩ : ∃ V, V = (w.alloc (.cells Z5 25)).setCell ⟨gn, 0, none⟩ (.int .i64 nz1) := ⟨_, rfl⟩
 obtain ⟨K, eK⟩ : ∃ K, w.heap.size = K := ⟨_, rfl⟩
 have HL := Lib.hid (show RL w0 w g gn K from ⟨hg, hgn, hne, hgl, hgnl, eK.symm, hB.size⟩)
 have HV : Hid (RS w0 w V g gn K s i false nz1) := Lib.hid (by
  rw [eV, ← eK]
  refine ⟨(below_alloc hB _).setCell hgn _, ⟨by simp, fun i hi h1 h2 => ?_⟩, (Below.heap_setCell _ _ _ _ hne).trans ((Below.heap_alloc _ _ _ hgl).trans hS), (blk_set hN2 0 _).trans (by rfl), (Below.heap_setCell _ _ _ _ (by simp; omega)).trans (blk_new w _)⟩
  have h3 : i ≠ gn := fun e => h2 (by rw [e])
  exact (Below.heap_setCell _ _ _ _ h3).trans (Below.heap_alloc _ _ _ hi))
 have HNZ := Lib.hid (show nz1 = 64 - (left : Int) by omega)
 have HKS := Lib.hid (show V.heap.size = K + 1 by rw [eV, World.size_setCell, World.size_alloc, eK])
 clear hS hB hN hN2 hgl hgnl hnz hnz1
 go_enter Try.func146, Try.ntmps146
 go_upto_region 4 with fail
 rw [← eV]
 clear eV m0 mz0 t1 t2 hw1 hne2 eK
 have cB := HV.out.cB
 have H1 := Lib.hid (isT w0 V g s (i) 42 42 rfl E42.out hi hs hg HV.out.below HV.out.sb)
 go_wp2_with fail
 (with_reducible refine H1.out.mono ?_)
 rintro ee w1 ⟨rfl, hk1⟩
 have H1n : Hid (RS w0 w w1 g gn K s (i + 1) false nz1) := Lib.hid (HV.out.moved HL.out hk1)
 clear H1 hk1
 have xk0 := H1n.out.k0
 have xk1 := H1n.out.k1
 have xk2 := H1n.out.k2
 have xk3 := H1n.out.k3
 have xk4 := H1n.out.k4
 have xz0 := H1n.out.zK 0
 have xz1 := H1n.out.zK 1
 have xz2 := H1n.out.zK 2
 have xz3 := H1n.out.zK 3
 have xz4 := H1n.out.zK 4
 have hi1 : i + 1 ≤ s.size := next_lt E42.out
 clear HV
 go_wp2
 have hT := H1n.out.good (m := ⟨0, ⟨#[]⟩, ⟨#[]⟩, [], []⟩) (A3 := none) (c3 := 0) (A4 := none) (c4 := 0) HL.out hi1 rfl HNZ.out (fun X _ => ⟨Nat.le_refl _, Kd.C_nil _ _, Nat.le_refl _, Kd.C_nil _ _⟩)
 rw [← HQ.out, if_pos E42.out, List.drop_drop]
 exact bodyPost_ret (results_single rfl (.cell K 25 _ (0, 0) _ rfl hT.1 Try.underlying25 rfl (by kernel_rfl) .nil)) rfl hT.2
set_option maxRecDepth 100000 in
set_option maxHeartbeats 32000000 in
/-- a name and what it is. -/
theorem rd146n1 (w0 w : World) (g gn : Nat) (s : ByteArray) (i left d : Nat) (hl : left ≤ 63) (hi : i ≤ s.size) (hs : s.size ≤ 1000000000) (hg : w0.heap.size ≤ g) (hgn : w0.heap.size ≤ gn) (hne : g ≠ gn) (hB : Below w0.heap.size w0 w) (hS : SB w g s i false) (nz : Int) (hN : NB w gn nz) (hnz : nz = 63 - (left : Int)) (h42 : nextB 42 (s.data.toList.drop i) = false) (h38 : nextB 38 (s.data.toList.drop i) = false) (h124 : nextB 124 (s.data.toList.drop i) = false) (h33 : nextB 33 (s.data.toList.drop i) = false) (h61 : nextB 61 (s.data.toList.drop (nameEnd s i)) = true) :
  Calls Try.prog 146 #[.pointer (some ⟨g, 0, none⟩), .pointer (some ⟨gn, 0, none⟩)] w (RdPost w0 w g gn s (readM cutN stepR false (d + 1) (left + 1) (s.data.toList.drop i))) := by
 obtain ⟨Q, eQ⟩ : ∃ Q, readM cutN stepR false (d + 1) (left + 1) (s.data.toList.drop i) = Q := ⟨_, rfl⟩
 rw [eQ]
 rw [readM_step _ _ _ _ _ _ rfl] at eQ
 have HQ := Lib.hid eQ
 clear eQ
 rw [if_neg (by rw [h42]; decide), if_neg (by rw [h38]; decide), if_neg (by rw [h124]; decide), if_neg (by rw [h33]; decide), namedR_tail] at HQ
 have E42 := Lib.hid h42
 have E38 := Lib.hid h38
 have E124 := Lib.hid h124
 have E33 := Lib.hid h33
 obtain ⟨e, he⟩ : ∃ e, nameEnd s i = e := ⟨_, rfl⟩
 obtain ⟨nm, hnm⟩ : ∃ nm : ByteArray, (⟨((s.data.toList.drop i).takeWhile nameC).toArray⟩ : ByteArray) = nm := ⟨_, rfl⟩
 have hes : e ≤ s.size := by rw [← he]; exact nameEnd_le hi
 rw [he, hnm] at HQ
 have HNE := Lib.hid (And.intro he hnm)
 clear h42 h38 h124 h33
 have hgl := hS.lt
 have hgnl := blk_lt hN
 have hne2 := hne.symm
 obtain ⟨nz1, hnz1⟩ : ∃ nz1, nz + 1 = nz1 := ⟨_, rfl⟩
 have hw1 : wrap64 (nz + 1) = nz1 := by unfold wrap64; omega
 have hN2 : NB (w.alloc (.cells Z5 25)) gn nz := (Below.heap_alloc _ _ _ hgnl).trans hN
 have m0 := blk_cell hN2 0
 have mz0 := blk_frozen hN2 0
 simp only [List.getElem?_toArray, List.getElem?_cons_zero] at m0
 have t1 : ¬ (64 : Int) < nz1 := by omega
 have t2 : decide ((64 : Int) < nz1) = false := decide_eq_false t1
 obtain ⟨V, eV⟩ : ∃ V, V = (w.alloc (.cells Z5 25)).setCell ⟨gn, 0, none⟩ (.int .i64 nz1) := ⟨_, rfl⟩
 obtain ⟨K, eK⟩ : ∃ K, w.heap.size = K := ⟨_, rfl⟩
 have HL := Lib.hid (show RL w0 w g gn K from ⟨hg, hgn, hne, hgl, hgnl, eK.symm, hB.size⟩)
 have HV : Hid (RS w0 w V g gn K s i false nz1) := Lib.hid (by
  rw [eV, ← eK]
  refine ⟨(below_alloc hB _).setCell hgn _, ⟨by simp, fun i hi h1 h2 => ?_⟩, (Below.heap_setCell _ _ _ _ hne).trans ((Below.heap_alloc _ _ _ hgl).trans hS), (blk_set hN2 0 _).trans (by rfl), (Below.heap_setCell _ _ _ _ (by simp; omega)).trans (blk_new w _)⟩
  have h3 : i ≠ gn := fun e => h2 (by rw [e])
  exact (Below.heap_setCell _ _ _ _ h3).trans (Below.heap_alloc _ _ _ hi))
 have HNZ := Lib.hid (show nz1 = 64 - (left : Int) by omega)
 have HKS := Lib.hid (show V.heap.size = K + 1 by rw [eV, World.size_setCell, World.size_alloc, eK])
 clear hS hB hN hN2 hgl hgnl hnz hnz1
 go_enter Try.func146, Try.ntmps146
 go_upto_region 4 with fail
 rw [← eV]
 clear eV m0 mz0 t1 t2 hw1 hne2 eK
 have cB := HV.out.cB
 have H1 := Lib.hid (isF w0 V g s (i) 42 42 rfl E42.out hi hs hg HV.out.below HV.out.sb)
 go_wp2_with fail
 (with_reducible refine H1.out.mono ?_)
 rintro ee w1 ⟨rfl, hk1⟩
 have H1n : Hid (RS w0 w w1 g gn K s (i) false nz1) := Lib.hid (HV.out.moved HL.out hk1)
 clear H1 hk1
 have H2 := Lib.hid (isF w0 w1 g s (i) 38 38 rfl E38.out hi hs hg H1n.out.below H1n.out.sb)
 go_wp2_with fail
 (with_reducible refine H2.out.mono ?_)
 rintro ee w2 ⟨rfl, hk2⟩
 have H2n : Hid (RS w0 w w2 g gn K s (i) false nz1) := Lib.hid (H1n.out.moved HL.out hk2)
 clear H2 hk2
 have H3 := Lib.hid (isF w0 w2 g s (i) 124 124 rfl E124.out hi hs hg H2n.out.below H2n.out.sb)
 go_wp2_with fail
 (with_reducible refine H3.out.mono ?_)
 rintro ee w3 ⟨rfl, hk3⟩
 have H3n : Hid (RS w0 w w3 g gn K s (i) false nz1) := Lib.hid (H2n.out.moved HL.out hk3)
 clear H3 hk3
 have H4 := Lib.hid (isF w0 w3 g s (i) 33 33 rfl E33.out hi hs hg H3n.out.below H3n.out.sb)
 go_wp2_with fail
 (with_reducible refine H4.out.mono ?_)
 rintro ee w4 ⟨rfl, hk4⟩
 have H4n : Hid (RS w0 w w4 g gn K s (i) false nz1) := Lib.hid (H3n.out.moved HL.out hk4)
 clear H4 hk4
 have h5 := name134 w0 w4 g s i false hi hs hg H4n.out.below H4n.out.sb
 rw [HNE.out.1, HNE.out.2] at h5
 have H5 := Lib.hid h5
 clear h5 he hnm
 go_wp2_with fail
 (with_reducible refine H5.out.mono ?_)
 rintro ee w5 ⟨rfl, hb5, hk5, hs5⟩
 have H5n : Hid (RS w0 w w5 g gn K s e false nz1) := Lib.hid (H4n.out.moved HL.out ⟨hb5, hk5, hs5⟩)
 clear H5 hb5 hk5 hs5 HV H1n H2n H3n H4n
 rw [HNE.out.1] at h61
 have E61 := Lib.hid h61
 clear h61
 have he1 : e + 1 ≤ s.size := next_lt E61.out
 have H6 := Lib.hid (isT w0 w5 g s (e) 61 61 rfl E61.out hes hs hg H5n.out.below H5n.out.sb)
 go_wp2_with fail
 (with_reducible refine H6.out.mono ?_)
 rintro ee w6 ⟨rfl, hk6⟩
 have H6n : Hid (RS w0 w w6 g gn K s (e + 1) false nz1) := Lib.hid (H5n.out.moved HL.out hk6)
 clear H6 hk6
 have H9 := Lib.hid (valAny w0 w6 g s (e + 1) false he1 hs hg H6n.out.below H6n.out.sb)
 clear H5n
 go_wp2_with fail
 refine H9.out.mono ?_
 rintro ee w9 ⟨x9, i9, b9, rfl, hk9, hi9, HT9⟩
 have H9n : Hid (RS w0 w w9 g gn K s i9 b9 nz1) := Lib.hid (H6n.out.moved HL.out hk9)
 clear H9 hk9
 have xk0 := H9n.out.k0
 have xk1 := H9n.out.k1
 have xk2 := H9n.out.k2
 have xk3 := H9n.out.k3
 have xk4 := H9n.out.k4
 have xz0 := H9n.out.zK 0
 have xz1 := H9n.out.zK 1
 have xz2 := H9n.out.zK 2
 have xz3 := H9n.out.zK 3
 have xz4 := H9n.out.zK 4
 cases b9 with
 | true =>
  have HQn := Lib.hid (show Q = none by
   rw [← HQ.out]
   unfold tailR
   rw [if_pos E61.out, List.drop_drop]
   rcases HT9.out with ⟨-, h | h⟩ | ⟨h, -⟩
   ·cases h
   ·rw [h]; rfl
   ·cases h)
  go_wp2
  have hT := H9n.out.bad HL.out hi9 1 nm x9 none 0 0 none 0 0
  rw [HQn.out]
  exact bodyPost_ret (results_single rfl (.cell K 25 _ (0, 0) _ rfl hT.1 Try.underlying25 rfl (by kernel_rfl) .nil)) rfl hT.2
 | false =>
  obtain ⟨v, t, hv, rfl, ht⟩ : ∃ v t, valW stepR (s.data.toList.drop (e + 1)) = some (v, t) ∧ x9 = ⟨v.toArray⟩ ∧ s.data.toList.drop i9 = t := by
   rcases HT9.out with ⟨h, -⟩ | ⟨-, -, h⟩
   ·cases h
   ·exact h
  obtain ⟨x9, ex9⟩ : ∃ x9 : ByteArray, (⟨v.toArray⟩ : ByteArray) = x9 := ⟨_, rfl⟩
  have HQn := Lib.hid (show Q = some (⟨1, nm, x9, [], []⟩, left, t) by
   rw [← HQ.out, ← ex9]
   unfold tailR
   rw [if_pos E61.out, List.drop_drop, hv]
   rfl)
  rw [ex9]
  have HTT := Lib.hid ht
  clear hv ht HT9 ex9
  go_wp2
  have hT := H9n.out.good (m := ⟨1, nm, x9, [], []⟩) (A3 := none) (c3 := 0) (A4 := none) (c4 := 0) HL.out hi9 HTT.out HNZ.out (fun X _ => ⟨Nat.le_refl _, Kd.C_nil _ _, Nat.le_refl _, Kd.C_nil _ _⟩)
  rw [HQn.out]
  exact bodyPost_ret (results_single rfl (.cell K 25 _ (0, 0) _ rfl hT.1 Try.underlying25 rfl (by kernel_rfl) .nil)) rfl hT.2
set_option maxRecDepth 100000 in
set_option maxHeartbeats 32000000 in
/-- a name and what it is. -/
theorem rd146n2 (w0 w : World) (g gn : Nat) (s : ByteArray) (i left d : Nat) (hl : left ≤ 63) (hi : i ≤ s.size) (hs : s.size ≤ 1000000000) (hg : w0.heap.size ≤ g) (hgn : w0.heap.size ≤ gn) (hne : g ≠ gn) (hB : Below w0.heap.size w0 w) (hS : SB w g s i false) (nz : Int) (hN : NB w gn nz) (hnz : nz = 63 - (left : Int)) (h42 : nextB 42 (s.data.toList.drop i) = false) (h38 : nextB 38 (s.data.toList.drop i) = false) (h124 : nextB 124 (s.data.toList.drop i) = false) (h33 : nextB 33 (s.data.toList.drop i) = false) (h61 : nextB 61 (s.data.toList.drop (nameEnd s i)) = false) (hc : nextB 33 (s.data.toList.drop (nameEnd s i)) = true) :
  Calls Try.prog 146 #[.pointer (some ⟨g, 0, none⟩), .pointer (some ⟨gn, 0, none⟩)] w (RdPost w0 w g gn s (readM cutN stepR false (d + 1) (left + 1) (s.data.toList.drop i))) := by
 obtain ⟨Q, eQ⟩ : ∃ Q, readM cutN stepR false (d + 1) (left + 1) (s.data.toList.drop i) = Q := ⟨_, rfl⟩
 rw [eQ]
 rw [readM_step _ _ _ _ _ _ rfl] at eQ
 have HQ := Lib.hid eQ
 clear eQ
 rw [if_neg (by rw [h42]; decide), if_neg (by rw [h38]; decide), if_neg (by rw [h124]; decide), if_neg (by rw [h33]; decide), namedR_tail] at HQ
 have E42 := Lib.hid h42
 have E38 := Lib.hid h38
 have E124 := Lib.hid h124
 have E33 := Lib.hid h33
 obtain ⟨e, he⟩ : ∃ e, nameEnd s i = e := ⟨_, rfl⟩
 obtain ⟨nm, hnm⟩ : ∃ nm : ByteArray, (⟨((s.data.toList.drop i).takeWhile nameC).toArray⟩ : ByteArray) = nm := ⟨_, rfl⟩
 have hes : e ≤ s.size := by rw [← he]; exact nameEnd_le hi
 rw [he, hnm] at HQ
 have HNE := Lib.hid (And.intro he hnm)
 clear h42 h38 h124 h33
 have hgl := hS.lt
 have hgnl := blk_lt hN
 have hne2 := hne.symm
 obtain ⟨nz1, hnz1⟩ : ∃ nz1, nz + 1 = nz1 := ⟨_, rfl⟩
 have hw1 : wrap64 (nz + 1) = nz1 := by unfold wrap64; omega
 have hN2 : NB (w.alloc (.cells Z5 25)) gn nz := (Below.heap_alloc _ _ _ hgnl).trans hN
 have m0 := blk_cell hN2 0
 have mz0 := blk_frozen hN2 0
 simp only [List.getElem?_toArray, List.getElem?_cons_zero] at m0
 have t1 : ¬ (64 : Int) < nz1 := by omega
 have t2 : decide ((64 : Int) < nz1) = false := decide_eq_false t1
 obtain ⟨V, eV⟩ : ∃ V, V = (w.alloc (.cells Z5 25)).setCell ⟨gn, 0, none⟩ (.int .i64 nz1) := ⟨_, rfl⟩
 obtain ⟨K, eK⟩ : ∃ K, w.heap.size = K := ⟨_, rfl⟩
 have HL := Lib.hid (show RL w0 w g gn K from ⟨hg, hgn, hne, hgl, hgnl, eK.symm, hB.size⟩)
 have HV : Hid (RS w0 w V g gn K s i false nz1) := Lib.hid (by
  rw [eV, ← eK]
  refine ⟨(below_alloc hB _).setCell hgn _, ⟨by simp, fun i hi h1 h2 => ?_⟩, (Below.heap_setCell _ _ _ _ hne).trans ((Below.heap_alloc _ _ _ hgl).trans hS), (blk_set hN2 0 _).trans (by rfl), (Below.heap_setCell _ _ _ _ (by simp; omega)).trans (blk_new w _)⟩
  have h3 : i ≠ gn := fun e => h2 (by rw [e])
  exact (Below.heap_setCell _ _ _ _ h3).trans (Below.heap_alloc _ _ _ hi))
 have HNZ := Lib.hid (show nz1 = 64 - (left : Int) by omega)
 have HKS := Lib.hid (show V.heap.size = K + 1 by rw [eV, World.size_setCell, World.size_alloc, eK])
 clear hS hB hN hN2 hgl hgnl hnz hnz1
 go_enter Try.func146, Try.ntmps146
 go_upto_region 4 with fail
 rw [← eV]
 clear eV m0 mz0 t1 t2 hw1 hne2 eK
 have cB := HV.out.cB
 have H1 := Lib.hid (isF w0 V g s (i) 42 42 rfl E42.out hi hs hg HV.out.below HV.out.sb)
 go_wp2_with fail
 (with_reducible refine H1.out.mono ?_)
 rintro ee w1 ⟨rfl, hk1⟩
 have H1n : Hid (RS w0 w w1 g gn K s (i) false nz1) := Lib.hid (HV.out.moved HL.out hk1)
 clear H1 hk1
 have H2 := Lib.hid (isF w0 w1 g s (i) 38 38 rfl E38.out hi hs hg H1n.out.below H1n.out.sb)
 go_wp2_with fail
 (with_reducible refine H2.out.mono ?_)
 rintro ee w2 ⟨rfl, hk2⟩
 have H2n : Hid (RS w0 w w2 g gn K s (i) false nz1) := Lib.hid (H1n.out.moved HL.out hk2)
 clear H2 hk2
 have H3 := Lib.hid (isF w0 w2 g s (i) 124 124 rfl E124.out hi hs hg H2n.out.below H2n.out.sb)
 go_wp2_with fail
 (with_reducible refine H3.out.mono ?_)
 rintro ee w3 ⟨rfl, hk3⟩
 have H3n : Hid (RS w0 w w3 g gn K s (i) false nz1) := Lib.hid (H2n.out.moved HL.out hk3)
 clear H3 hk3
 have H4 := Lib.hid (isF w0 w3 g s (i) 33 33 rfl E33.out hi hs hg H3n.out.below H3n.out.sb)
 go_wp2_with fail
 (with_reducible refine H4.out.mono ?_)
 rintro ee w4 ⟨rfl, hk4⟩
 have H4n : Hid (RS w0 w w4 g gn K s (i) false nz1) := Lib.hid (H3n.out.moved HL.out hk4)
 clear H4 hk4
 have h5 := name134 w0 w4 g s i false hi hs hg H4n.out.below H4n.out.sb
 rw [HNE.out.1, HNE.out.2] at h5
 have H5 := Lib.hid h5
 clear h5 he hnm
 go_wp2_with fail
 (with_reducible refine H5.out.mono ?_)
 rintro ee w5 ⟨rfl, hb5, hk5, hs5⟩
 have H5n : Hid (RS w0 w w5 g gn K s e false nz1) := Lib.hid (H4n.out.moved HL.out ⟨hb5, hk5, hs5⟩)
 clear H5 hb5 hk5 hs5 HV H1n H2n H3n H4n
 rw [HNE.out.1] at h61 hc
 have E61 := Lib.hid h61
 have EC := Lib.hid hc
 clear h61 hc
 have he1 : e + 1 ≤ s.size := next_lt EC.out
 have H6 := Lib.hid (isF w0 w5 g s (e) 61 61 rfl E61.out hes hs hg H5n.out.below H5n.out.sb)
 go_wp2_with fail
 (with_reducible refine H6.out.mono ?_)
 rintro ee w6 ⟨rfl, hk6⟩
 have H6n : Hid (RS w0 w w6 g gn K s (e) false nz1) := Lib.hid (H5n.out.moved HL.out hk6)
 clear H6 hk6
 have H8 := Lib.hid (isT w0 w6 g s (e) 33 33 rfl EC.out hes hs hg H6n.out.below H6n.out.sb)
 go_wp2_with fail
 (with_reducible refine H8.out.mono ?_)
 rintro ee w7 ⟨rfl, hk8⟩
 have H7n : Hid (RS w0 w w7 g gn K s (e + 1) false nz1) := Lib.hid (H6n.out.moved HL.out hk8)
 clear H8 hk8
 have H8 := Lib.hid (mustAny w0 w7 g s (e + 1) false 61 61 rfl he1 hs hg H7n.out.below H7n.out.sb)
 go_wp2_with fail
 (with_reducible refine H8.out.mono ?_)
 rintro ee w8 ⟨i8, b8, rfl, hk8, hi8, HT8⟩
 have H8n : Hid (RS w0 w w8 g gn K s i8 b8 nz1) := Lib.hid (H7n.out.moved HL.out hk8)
 have H9 := Lib.hid (valAny w0 w8 g s i8 b8 hi8 hs hg H8n.out.below H8n.out.sb)
 clear H8 hk8 H7n H5n
 go_wp2_with fail
 refine H9.out.mono ?_
 rintro ee w9 ⟨x9, i9, b9, rfl, hk9, hi9, HT9⟩
 have H9n : Hid (RS w0 w w9 g gn K s i9 b9 nz1) := Lib.hid (H8n.out.moved HL.out hk9)
 clear H9 hk9
 have xk0 := H9n.out.k0
 have xk1 := H9n.out.k1
 have xk2 := H9n.out.k2
 have xk3 := H9n.out.k3
 have xk4 := H9n.out.k4
 have xz0 := H9n.out.zK 0
 have xz1 := H9n.out.zK 1
 have xz2 := H9n.out.zK 2
 have xz3 := H9n.out.zK 3
 have xz4 := H9n.out.zK 4
 cases b9 with
 | true =>
  have HQn := Lib.hid (show Q = none by
   rw [← HQ.out]
   unfold tailR
   rw [if_neg (by rw [E61.out]; decide), if_pos EC.out, List.drop_drop, List.drop_drop]
   rcases HT9.out with ⟨-, h | h⟩ | ⟨h, -⟩
   ·rcases HT8.out with ⟨-, h' | h'⟩ | ⟨h', -⟩
    ·cases h'
    ·rw [if_neg (by rw [h']; decide)]; rfl
    ·rw [h] at h'; cases h'
   ·rcases HT8.out with ⟨-, h' | h'⟩ | ⟨-, -, h', hi8'⟩
    ·cases h'
    ·rw [if_neg (by rw [h']; decide)]; rfl
    ·rw [hi8'] at h
     rw [if_pos h', h]; rfl
   ·cases h)
  go_wp2
  have hT := H9n.out.bad HL.out hi9 2 nm x9 none 0 0 none 0 0
  rw [HQn.out]
  exact bodyPost_ret (results_single rfl (.cell K 25 _ (0, 0) _ rfl hT.1 Try.underlying25 rfl (by kernel_rfl) .nil)) rfl hT.2
 | false =>
  obtain ⟨v, t, hv, rfl, ht⟩ : ∃ v t, valW stepR (s.data.toList.drop (e + 1 + 1)) = some (v, t) ∧ x9 = ⟨v.toArray⟩ ∧ s.data.toList.drop i9 = t := by
   rcases HT9.out with ⟨h, -⟩ | ⟨-, hb8, h⟩
   ·cases h
   ·rcases HT8.out with ⟨h', -⟩ | ⟨-, -, h', hi8'⟩
    ·rw [hb8] at h'; cases h'
    ·rw [hi8'] at h
     exact h
  obtain ⟨x9, ex9⟩ : ∃ x9 : ByteArray, (⟨v.toArray⟩ : ByteArray) = x9 := ⟨_, rfl⟩
  have HQn := Lib.hid (show Q = some (⟨2, nm, x9, [], []⟩, left, t) by
   rcases HT8.out with ⟨h', -⟩ | ⟨-, -, h', hi8'⟩
   ·rcases HT9.out with ⟨h, -⟩ | ⟨-, hb8, h⟩
    ·cases h
    ·rw [hb8] at h'; cases h'
   ·rw [← HQ.out, ← ex9]
    unfold tailR
    rw [if_neg (by rw [E61.out]; decide), if_pos EC.out, List.drop_drop, List.drop_drop, if_pos h', hv]
    rfl)
  rw [ex9]
  have HTT := Lib.hid ht
  clear hv ht HT9 ex9
  go_wp2
  have hT := H9n.out.good (m := ⟨2, nm, x9, [], []⟩) (A3 := none) (c3 := 0) (A4 := none) (c4 := 0) HL.out hi9 HTT.out HNZ.out (fun X _ => ⟨Nat.le_refl _, Kd.C_nil _ _, Nat.le_refl _, Kd.C_nil _ _⟩)
  rw [HQn.out]
  exact bodyPost_ret (results_single rfl (.cell K 25 _ (0, 0) _ rfl hT.1 Try.underlying25 rfl (by kernel_rfl) .nil)) rfl hT.2
set_option maxRecDepth 100000 in
set_option maxHeartbeats 32000000 in
/-- a name and what it is. -/
theorem rd146n3 (w0 w : World) (g gn : Nat) (s : ByteArray) (i left d : Nat) (hl : left ≤ 63) (hi : i ≤ s.size) (hs : s.size ≤ 1000000000) (hg : w0.heap.size ≤ g) (hgn : w0.heap.size ≤ gn) (hne : g ≠ gn) (hB : Below w0.heap.size w0 w) (hS : SB w g s i false) (nz : Int) (hN : NB w gn nz) (hnz : nz = 63 - (left : Int)) (h42 : nextB 42 (s.data.toList.drop i) = false) (h38 : nextB 38 (s.data.toList.drop i) = false) (h124 : nextB 124 (s.data.toList.drop i) = false) (h33 : nextB 33 (s.data.toList.drop i) = false) (h61 : nextB 61 (s.data.toList.drop (nameEnd s i)) = false) (h94 : nextB 33 (s.data.toList.drop (nameEnd s i)) = false) (hc : nextB 94 (s.data.toList.drop (nameEnd s i)) = true) :
  Calls Try.prog 146 #[.pointer (some ⟨g, 0, none⟩), .pointer (some ⟨gn, 0, none⟩)] w (RdPost w0 w g gn s (readM cutN stepR false (d + 1) (left + 1) (s.data.toList.drop i))) := by
 obtain ⟨Q, eQ⟩ : ∃ Q, readM cutN stepR false (d + 1) (left + 1) (s.data.toList.drop i) = Q := ⟨_, rfl⟩
 rw [eQ]
 rw [readM_step _ _ _ _ _ _ rfl] at eQ
 have HQ := Lib.hid eQ
 clear eQ
 rw [if_neg (by rw [h42]; decide), if_neg (by rw [h38]; decide), if_neg (by rw [h124]; decide), if_neg (by rw [h33]; decide), namedR_tail] at HQ
 have E42 := Lib.hid h42
 have E38 := Lib.hid h38
 have E124 := Lib.hid h124
 have E33 := Lib.hid h33
 obtain ⟨e, he⟩ : ∃ e, nameEnd s i = e := ⟨_, rfl⟩
 obtain ⟨nm, hnm⟩ : ∃ nm : ByteArray, (⟨((s.data.toList.drop i).takeWhile nameC).toArray⟩ : ByteArray) = nm := ⟨_, rfl⟩
 have hes : e ≤ s.size := by rw [← he]; exact nameEnd_le hi
 rw [he, hnm] at HQ
 have HNE := Lib.hid (And.intro he hnm)
 clear h42 h38 h124 h33
 have hgl := hS.lt
 have hgnl := blk_lt hN
 have hne2 := hne.symm
 obtain ⟨nz1, hnz1⟩ : ∃ nz1, nz + 1 = nz1 := ⟨_, rfl⟩
 have hw1 : wrap64 (nz + 1) = nz1 := by unfold wrap64; omega
 have hN2 : NB (w.alloc (.cells Z5 25)) gn nz := (Below.heap_alloc _ _ _ hgnl).trans hN
 have m0 := blk_cell hN2 0
 have mz0 := blk_frozen hN2 0
 simp only [List.getElem?_toArray, List.getElem?_cons_zero] at m0
 have t1 : ¬ (64 : Int) < nz1 := by omega
 have t2 : decide ((64 : Int) < nz1) = false := decide_eq_false t1
 obtain ⟨V, eV⟩ : ∃ V, V = (w.alloc (.cells Z5 25)).setCell ⟨gn, 0, none⟩ (.int .i64 nz1) := ⟨_, rfl⟩
 obtain ⟨K, eK⟩ : ∃ K, w.heap.size = K := ⟨_, rfl⟩
 have HL := Lib.hid (show RL w0 w g gn K from ⟨hg, hgn, hne, hgl, hgnl, eK.symm, hB.size⟩)
 have HV : Hid (RS w0 w V g gn K s i false nz1) := Lib.hid (by
  rw [eV, ← eK]
  refine ⟨(below_alloc hB _).setCell hgn _, ⟨by simp, fun i hi h1 h2 => ?_⟩, (Below.heap_setCell _ _ _ _ hne).trans ((Below.heap_alloc _ _ _ hgl).trans hS), (blk_set hN2 0 _).trans (by rfl), (Below.heap_setCell _ _ _ _ (by simp; omega)).trans (blk_new w _)⟩
  have h3 : i ≠ gn := fun e => h2 (by rw [e])
  exact (Below.heap_setCell _ _ _ _ h3).trans (Below.heap_alloc _ _ _ hi))
 have HNZ := Lib.hid (show nz1 = 64 - (left : Int) by omega)
 have HKS := Lib.hid (show V.heap.size = K + 1 by rw [eV, World.size_setCell, World.size_alloc, eK])
 clear hS hB hN hN2 hgl hgnl hnz hnz1
 go_enter Try.func146, Try.ntmps146
 go_upto_region 4 with fail
 rw [← eV]
 clear eV m0 mz0 t1 t2 hw1 hne2 eK
 have cB := HV.out.cB
 have H1 := Lib.hid (isF w0 V g s (i) 42 42 rfl E42.out hi hs hg HV.out.below HV.out.sb)
 go_wp2_with fail
 (with_reducible refine H1.out.mono ?_)
 rintro ee w1 ⟨rfl, hk1⟩
 have H1n : Hid (RS w0 w w1 g gn K s (i) false nz1) := Lib.hid (HV.out.moved HL.out hk1)
 clear H1 hk1
 have H2 := Lib.hid (isF w0 w1 g s (i) 38 38 rfl E38.out hi hs hg H1n.out.below H1n.out.sb)
 go_wp2_with fail
 (with_reducible refine H2.out.mono ?_)
 rintro ee w2 ⟨rfl, hk2⟩
 have H2n : Hid (RS w0 w w2 g gn K s (i) false nz1) := Lib.hid (H1n.out.moved HL.out hk2)
 clear H2 hk2
 have H3 := Lib.hid (isF w0 w2 g s (i) 124 124 rfl E124.out hi hs hg H2n.out.below H2n.out.sb)
 go_wp2_with fail
 (with_reducible refine H3.out.mono ?_)
 rintro ee w3 ⟨rfl, hk3⟩
 have H3n : Hid (RS w0 w w3 g gn K s (i) false nz1) := Lib.hid (H2n.out.moved HL.out hk3)
 clear H3 hk3
 have H4 := Lib.hid (isF w0 w3 g s (i) 33 33 rfl E33.out hi hs hg H3n.out.below H3n.out.sb)
 go_wp2_with fail
 (with_reducible refine H4.out.mono ?_)
 rintro ee w4 ⟨rfl, hk4⟩
 have H4n : Hid (RS w0 w w4 g gn K s (i) false nz1) := Lib.hid (H3n.out.moved HL.out hk4)
 clear H4 hk4
 have h5 := name134 w0 w4 g s i false hi hs hg H4n.out.below H4n.out.sb
 rw [HNE.out.1, HNE.out.2] at h5
 have H5 := Lib.hid h5
 clear h5 he hnm
 go_wp2_with fail
 (with_reducible refine H5.out.mono ?_)
 rintro ee w5 ⟨rfl, hb5, hk5, hs5⟩
 have H5n : Hid (RS w0 w w5 g gn K s e false nz1) := Lib.hid (H4n.out.moved HL.out ⟨hb5, hk5, hs5⟩)
 clear H5 hb5 hk5 hs5 HV H1n H2n H3n H4n
 rw [HNE.out.1] at h61 hc h94
 have E61 := Lib.hid h61
 have EC := Lib.hid hc
 have E94 := Lib.hid h94
 clear h61 hc h94
 have he1 : e + 1 ≤ s.size := next_lt EC.out
 have H6 := Lib.hid (isF w0 w5 g s (e) 61 61 rfl E61.out hes hs hg H5n.out.below H5n.out.sb)
 go_wp2_with fail
 (with_reducible refine H6.out.mono ?_)
 rintro ee w6 ⟨rfl, hk6⟩
 have H6n : Hid (RS w0 w w6 g gn K s (e) false nz1) := Lib.hid (H5n.out.moved HL.out hk6)
 clear H6 hk6
 have H7 := Lib.hid (isF w0 w6 g s (e) 33 33 rfl E94.out hes hs hg H6n.out.below H6n.out.sb)
 go_wp2_with fail
 (with_reducible refine H7.out.mono ?_)
 rintro ee w6b ⟨rfl, hk7⟩
 have H6b : Hid (RS w0 w w6b g gn K s (e) false nz1) := Lib.hid (H6n.out.moved HL.out hk7)
 clear H7 hk7
 have H8 := Lib.hid (isT w0 w6b g s (e) 94 94 rfl EC.out hes hs hg H6b.out.below H6b.out.sb)
 go_wp2_with fail
 (with_reducible refine H8.out.mono ?_)
 rintro ee w7 ⟨rfl, hk8⟩
 have H7n : Hid (RS w0 w w7 g gn K s (e + 1) false nz1) := Lib.hid (H6b.out.moved HL.out hk8)
 clear H8 hk8
 have H8 := Lib.hid (mustAny w0 w7 g s (e + 1) false 61 61 rfl he1 hs hg H7n.out.below H7n.out.sb)
 go_wp2_with fail
 (with_reducible refine H8.out.mono ?_)
 rintro ee w8 ⟨i8, b8, rfl, hk8, hi8, HT8⟩
 have H8n : Hid (RS w0 w w8 g gn K s i8 b8 nz1) := Lib.hid (H7n.out.moved HL.out hk8)
 have H9 := Lib.hid (valAny w0 w8 g s i8 b8 hi8 hs hg H8n.out.below H8n.out.sb)
 clear H8 hk8 H7n H5n
 go_wp2_with fail
 refine H9.out.mono ?_
 rintro ee w9 ⟨x9, i9, b9, rfl, hk9, hi9, HT9⟩
 have H9n : Hid (RS w0 w w9 g gn K s i9 b9 nz1) := Lib.hid (H8n.out.moved HL.out hk9)
 clear H9 hk9
 have xk0 := H9n.out.k0
 have xk1 := H9n.out.k1
 have xk2 := H9n.out.k2
 have xk3 := H9n.out.k3
 have xk4 := H9n.out.k4
 have xz0 := H9n.out.zK 0
 have xz1 := H9n.out.zK 1
 have xz2 := H9n.out.zK 2
 have xz3 := H9n.out.zK 3
 have xz4 := H9n.out.zK 4
 cases b9 with
 | true =>
  have HQn := Lib.hid (show Q = none by
   rw [← HQ.out]
   unfold tailR
   rw [if_neg (by rw [E61.out]; decide), if_neg (by rw [E94.out]; decide), if_pos EC.out, List.drop_drop, List.drop_drop]
   rcases HT9.out with ⟨-, h | h⟩ | ⟨h, -⟩
   ·rcases HT8.out with ⟨-, h' | h'⟩ | ⟨h', -⟩
    ·cases h'
    ·rw [if_neg (by rw [h']; decide)]; rfl
    ·rw [h] at h'; cases h'
   ·rcases HT8.out with ⟨-, h' | h'⟩ | ⟨-, -, h', hi8'⟩
    ·cases h'
    ·rw [if_neg (by rw [h']; decide)]; rfl
    ·rw [hi8'] at h
     rw [if_pos h', h]; rfl
   ·cases h)
  go_wp2
  have hT := H9n.out.bad HL.out hi9 3 nm x9 none 0 0 none 0 0
  rw [HQn.out]
  exact bodyPost_ret (results_single rfl (.cell K 25 _ (0, 0) _ rfl hT.1 Try.underlying25 rfl (by kernel_rfl) .nil)) rfl hT.2
 | false =>
  obtain ⟨v, t, hv, rfl, ht⟩ : ∃ v t, valW stepR (s.data.toList.drop (e + 1 + 1)) = some (v, t) ∧ x9 = ⟨v.toArray⟩ ∧ s.data.toList.drop i9 = t := by
   rcases HT9.out with ⟨h, -⟩ | ⟨-, hb8, h⟩
   ·cases h
   ·rcases HT8.out with ⟨h', -⟩ | ⟨-, -, h', hi8'⟩
    ·rw [hb8] at h'; cases h'
    ·rw [hi8'] at h
     exact h
  obtain ⟨x9, ex9⟩ : ∃ x9 : ByteArray, (⟨v.toArray⟩ : ByteArray) = x9 := ⟨_, rfl⟩
  have HQn := Lib.hid (show Q = some (⟨3, nm, x9, [], []⟩, left, t) by
   rcases HT8.out with ⟨h', -⟩ | ⟨-, -, h', hi8'⟩
   ·rcases HT9.out with ⟨h, -⟩ | ⟨-, hb8, h⟩
    ·cases h
    ·rw [hb8] at h'; cases h'
   ·rw [← HQ.out, ← ex9]
    unfold tailR
    rw [if_neg (by rw [E61.out]; decide), if_neg (by rw [E94.out]; decide), if_pos EC.out, List.drop_drop, List.drop_drop, if_pos h', hv]
    rfl)
  rw [ex9]
  have HTT := Lib.hid ht
  clear hv ht HT9 ex9
  go_wp2
  have hT := H9n.out.good (m := ⟨3, nm, x9, [], []⟩) (A3 := none) (c3 := 0) (A4 := none) (c4 := 0) HL.out hi9 HTT.out HNZ.out (fun X _ => ⟨Nat.le_refl _, Kd.C_nil _ _, Nat.le_refl _, Kd.C_nil _ _⟩)
  rw [HQn.out]
  exact bodyPost_ret (results_single rfl (.cell K 25 _ (0, 0) _ rfl hT.1 Try.underlying25 rfl (by kernel_rfl) .nil)) rfl hT.2
end Go.Proofs.Yteafilojjdfllaa
end
section
namespace Go.Proofs.Yteafilojjdfllaa
open Go Go.RowKit Go.Proofs.YteafilojjdfllaaW.PrintWords Go.Proofs.YteafilojjdfllaaW.PrintLast Go.Proofs.YteafilojjdfllaaW.PrintMore Go.Proofs.Yteafilojjdfllaa.PAll
set_option linter.unusedVariables false
set_option linter.unusedSimpArgs false
section
variable {w0 w W W' : World} {g gn K : Nat} {s : ByteArray} {i j : Nat} {b b' : Bool} {nz : Int}
theorem RS.grown (h : RS w0 w W g gn K s i b nz) (L : RL w0 w g gn K) {o : Option Nat} (hg : W.grownBy W' o) (ho : ∀ k, o = some k → K < k) : RS w0 w W' g gn K s i b nz := by
 obtain ⟨L1, L2, L3, L4, L5, L6, L7⟩ := L
 have hs := h.keep.1
 have hr := blk_lt h.res
 have hne : ∀ k, k ≤ K → some k ≠ o := fun k hk e => by have := ho k e.symm; omega
 exact ⟨h.below.grown hg (by omega) (fun k hk => by have := ho k hk; omega), ⟨by have := hg.size; omega, fun i hi h1 h2 => (hg.block i (by omega) (hne i (by omega))).trans (h.keep.2 i hi h1 h2)⟩, (hg.block g (by omega) (hne g (by omega))).trans h.sb, (hg.block gn (by omega) (hne gn (by omega))).trans h.nb, (hg.block K hr (hne K (Nat.le_refl _))).trans h.res⟩
theorem RS.setG (h : RS w0 w W g gn K s i b nz) (L : RL w0 w g gn K) {G1 : Nat} (hG : K < G1) (k : Nat) (v : Value) : RS w0 w (W.setCell ⟨G1, k, none⟩ v) g gn K s i b nz := by
 obtain ⟨L1, L2, L3, L4, L5, L6, L7⟩ := L
 have far : ∀ q, q ≤ K → (W.setCell ⟨G1, k, none⟩ v).heap[q]? = W.heap[q]? := fun q hq => Below.heap_setCell _ _ _ _ (show q ≠ G1 by omega)
 exact ⟨h.below.setCell (show w0.heap.size ≤ G1 by omega) _, ⟨by simpa using h.keep.1, fun i hi h1 h2 => (far i (by omega)).trans (h.keep.2 i hi h1 h2)⟩, (far g (by omega)).trans h.sb, (far gn (by omega)).trans h.nb, (far K (Nat.le_refl _)).trans h.res⟩
theorem RS.badSet (h : RS w0 w W g gn K s i b nz) (L : RL w0 w g gn K) : RS w0 w (W.setCell ⟨g, 2, none⟩ (.bool true)) g gn K s i true nz :=
 h.moved L ⟨h.below.setCell L.g0 _, (KeepBut.refl W g none).set_ 2 _, h.sb.set2 true⟩
end
/-- a value, of one that is well -/
theorem valF (w0 w : World) (g : Nat) (s : ByteArray) (i : Nat) (hi : i ≤ s.size) (hs : s.size ≤ 1000000000) (hg : w0.heap.size ≤ g) (hB : Below w0.heap.size w0 w) (hS : SB w g s i false) :
  Calls Try.prog 136 #[.pointer (some ⟨g, 0, none⟩)] w fun e w' => ∃ x i' b', e = .returned (.string x) ∧ SKeep w0 w g s i' b' w' ∧ i' ≤ s.size ∧ Hid ((b' = true ∧ valW stepR (s.data.toList.drop i) = none) ∨ (b' = false ∧ ∃ v t, valW stepR (s.data.toList.drop i) = some (v, t) ∧ x = ⟨v.toArray⟩ ∧ s.data.toList.drop i' = t)) := by
 refine (valAny w0 w g s i false hi hs hg hB hS).mono ?_
 rintro e w' ⟨x, i', b', h1, h2, h3, h4⟩
 refine ⟨x, i', b', h1, h2, h3, Lib.hid ?_⟩
 rcases h4.out with ⟨h, h' | h'⟩ | ⟨h, -, h'⟩
 ·cases h'
 ·exact Or.inl ⟨h, h'⟩
 ·exact Or.inr ⟨h, h'⟩
/-- a value more -/
theorem among_step {n p i10 left : Nat} {b10 : Bool} {s nm x : ByteArray} {xs : List ByteArray} {Q : Option (S25 × Nat × List UInt8)} (hn : n ≤ 16)
  (hQ : Q = (valsW stepR (17 - n) (s.data.toList.drop p)).map (fun q => ((⟨4, nm, ⟨#[]⟩, xs ++ q.1, []⟩ : S25), left, q.2)))
  (h10 : (b10 = true ∧ valW stepR (s.data.toList.drop p) = none) ∨ (b10 = false ∧ ∃ v t, valW stepR (s.data.toList.drop p) = some (v, t) ∧ x = ⟨v.toArray⟩ ∧ s.data.toList.drop i10 = t)) :
  (b10 = true → Q = none) ∧ (b10 = false → Q = (restR (16 - n) (s.data.toList.drop i10)).map (fun q => ((⟨4, nm, ⟨#[]⟩, (xs ++ [x]) ++ q.1, []⟩ : S25), left, q.2))) := by
 rw [show 17 - n = (16 - n) + 1 by omega, valsR_rest] at hQ
 rcases h10 with ⟨rfl, h⟩ | ⟨rfl, v, t, h, hx, ht⟩
 ·exact ⟨fun _ => (by rw [hQ, h]; rfl), fun h => (by cases h)⟩
 ·refine ⟨fun h => (by cases h), fun _ => ?_⟩
  rw [hQ, h, ht, hx]
  simp only [Option.map_map]
  congr 1
  funext q
  simp
theorem among_next {n i10 i12 i14 left : Nat} {b10 b14 : Bool} {s nm : ByteArray} {xs : List ByteArray} {Q : Option (S25 × Nat × List UInt8)} (hn : n ≤ 16)
  (hQ : (b10 = true → Q = none) ∧ (b10 = false → Q = (restR (16 - n) (s.data.toList.drop i10)).map (fun q => ((⟨4, nm, ⟨#[]⟩, xs ++ q.1, []⟩ : S25), left, q.2))))
  (h12 : i12 = i10 ∧ (b10 = true ∨ nextB 41 (s.data.toList.drop i10) = false))
  (h14 : (b14 = true ∧ (b10 = true ∨ nextB 44 (s.data.toList.drop i12) = false)) ∨ (b14 = false ∧ b10 = false ∧ nextB 44 (s.data.toList.drop i12) = true ∧ i14 = i12 + 1)) :
  (b14 = true ∧ Q = none) ∨ (b14 = false ∧ Q = (valsW stepR (17 - (n + 1)) (s.data.toList.drop i14)).map (fun q => ((⟨4, nm, ⟨#[]⟩, xs ++ q.1, []⟩ : S25), left, q.2))) := by
 obtain ⟨rfl, h12⟩ := h12
 rcases h14 with ⟨rfl, h | h⟩ | ⟨rfl, hb, h, rfl⟩
 ·exact Or.inl ⟨rfl, hQ.1 h⟩
 ·refine Or.inl ⟨rfl, ?_⟩
  cases b10 with
  | true => exact hQ.1 rfl
  | false =>
   rcases h12 with h' | h'
   ·cases h'
   ·rw [hQ.2 rfl]; unfold restR; rw [if_neg (by rw [h']; decide), if_neg (by rw [h]; decide)]; rfl
 ·subst hb
  refine Or.inr ⟨rfl, ?_⟩
  rcases h12 with h' | h'
  ·cases h'
  ·rw [hQ.2 rfl]; unfold restR; rw [if_neg (by rw [h']; decide), if_pos h, List.drop_drop, show 16 - n = 17 - (n + 1) by omega]
set_option maxRecDepth 100000 in
set_option maxHeartbeats 32000000 in
/-- a name and what it is among. -/
theorem rd146n4 (w0 w : World) (g gn : Nat) (s : ByteArray) (i left d : Nat) (hl : left ≤ 63) (hi : i ≤ s.size) (hs : s.size ≤ 1000000000) (hg : w0.heap.size ≤ g) (hgn : w0.heap.size ≤ gn) (hne : g ≠ gn) (hB : Below w0.heap.size w0 w) (hS : SB w g s i false) (nz : Int) (hN : NB w gn nz) (hnz : nz = 63 - (left : Int)) (h42 : nextB 42 (s.data.toList.drop i) = false) (h38 : nextB 38 (s.data.toList.drop i) = false) (h124 : nextB 124 (s.data.toList.drop i) = false) (h33 : nextB 33 (s.data.toList.drop i) = false) (h61 : nextB 61 (s.data.toList.drop (nameEnd s i)) = false) (h94 : nextB 33 (s.data.toList.drop (nameEnd s i)) = false) (hc : nextB 94 (s.data.toList.drop (nameEnd s i)) = false) :
  Calls Try.prog 146 #[.pointer (some ⟨g, 0, none⟩), .pointer (some ⟨gn, 0, none⟩)] w (RdPost w0 w g gn s (readM cutN stepR false (d + 1) (left + 1) (s.data.toList.drop i))) := by
 obtain ⟨Q, eQ⟩ : ∃ Q, readM cutN stepR false (d + 1) (left + 1) (s.data.toList.drop i) = Q := ⟨_, rfl⟩
 rw [eQ]
 rw [readM_step _ _ _ _ _ _ rfl] at eQ
 have HQ := Lib.hid eQ
 clear eQ
 rw [if_neg (by rw [h42]; decide), if_neg (by rw [h38]; decide), if_neg (by rw [h124]; decide), if_neg (by rw [h33]; decide), namedR_tail] at HQ
 have E42 := Lib.hid h42
 have E38 := Lib.hid h38
 have E124 := Lib.hid h124
 have E33 := Lib.hid h33
 obtain ⟨e, he⟩ : ∃ e, nameEnd s i = e := ⟨_, rfl⟩
 obtain ⟨nm, hnm⟩ : ∃ nm : ByteArray, (⟨((s.data.toList.drop i).takeWhile nameC).toArray⟩ : ByteArray) = nm := ⟨_, rfl⟩
 have hes : e ≤ s.size := by rw [← he]; exact nameEnd_le hi
 rw [he, hnm] at HQ
 have HNE := Lib.hid (And.intro he hnm)
 clear h42 h38 h124 h33
 have hgl := hS.lt
 have hgnl := blk_lt hN
 have hne2 := hne.symm
 obtain ⟨nz1, hnz1⟩ : ∃ nz1, nz + 1 = nz1 := ⟨_, rfl⟩
 have hw1 : wrap64 (nz + 1) = nz1 := by unfold wrap64; omega
 have hN2 : NB (w.alloc (.cells Z5 25)) gn nz := (Below.heap_alloc _ _ _ hgnl).trans hN
 have m0 := blk_cell hN2 0
 have mz0 := blk_frozen hN2 0
 simp only [List.getElem?_toArray, List.getElem?_cons_zero] at m0
 have t1 : ¬ (64 : Int) < nz1 := by omega
 have t2 : decide ((64 : Int) < nz1) = false := decide_eq_false t1
 obtain ⟨V, eV⟩ : ∃ V, V = (w.alloc (.cells Z5 25)).setCell ⟨gn, 0, none⟩ (.int .i64 nz1) := ⟨_, rfl⟩
 obtain ⟨K, eK⟩ : ∃ K, w.heap.size = K := ⟨_, rfl⟩
 have HL := Lib.hid (show RL w0 w g gn K from ⟨hg, hgn, hne, hgl, hgnl, eK.symm, hB.size⟩)
 have HV : Hid (RS w0 w V g gn K s i false nz1) := Lib.hid (by
  rw [eV, ← eK]
  refine ⟨(below_alloc hB _).setCell hgn _, ⟨by simp, fun i hi h1 h2 => ?_⟩, (Below.heap_setCell _ _ _ _ hne).trans ((Below.heap_alloc _ _ _ hgl).trans hS), (blk_set hN2 0 _).trans (by rfl), (Below.heap_setCell _ _ _ _ (by simp; omega)).trans (blk_new w _)⟩
  have h3 : i ≠ gn := fun e => h2 (by rw [e])
  exact (Below.heap_setCell _ _ _ _ h3).trans (Below.heap_alloc _ _ _ hi))
 have HNZ := Lib.hid (show nz1 = 64 - (left : Int) by omega)
 have HKS := Lib.hid (show V.heap.size = K + 1 by rw [eV, World.size_setCell, World.size_alloc, eK])
 clear hS hB hN hN2 hgl hgnl hnz hnz1
 go_enter Try.func146, Try.ntmps146
 go_upto_region 4 with fail
 rw [← eV]
 clear eV m0 mz0 t1 t2 hw1 hne2 eK
 have cB := HV.out.cB
 have H1 := Lib.hid (isF w0 V g s (i) 42 42 rfl E42.out hi hs hg HV.out.below HV.out.sb)
 go_wp2_with fail
 (with_reducible refine H1.out.mono ?_)
 rintro ee w1 ⟨rfl, hk1⟩
 have H1n : Hid (RS w0 w w1 g gn K s (i) false nz1) := Lib.hid (HV.out.moved HL.out hk1)
 clear H1 hk1
 have H2 := Lib.hid (isF w0 w1 g s (i) 38 38 rfl E38.out hi hs hg H1n.out.below H1n.out.sb)
 go_wp2_with fail
 (with_reducible refine H2.out.mono ?_)
 rintro ee w2 ⟨rfl, hk2⟩
 have H2n : Hid (RS w0 w w2 g gn K s (i) false nz1) := Lib.hid (H1n.out.moved HL.out hk2)
 clear H2 hk2
 have H3 := Lib.hid (isF w0 w2 g s (i) 124 124 rfl E124.out hi hs hg H2n.out.below H2n.out.sb)
 go_wp2_with fail
 (with_reducible refine H3.out.mono ?_)
 rintro ee w3 ⟨rfl, hk3⟩
 have H3n : Hid (RS w0 w w3 g gn K s (i) false nz1) := Lib.hid (H2n.out.moved HL.out hk3)
 clear H3 hk3
 have H4 := Lib.hid (isF w0 w3 g s (i) 33 33 rfl E33.out hi hs hg H3n.out.below H3n.out.sb)
 go_wp2_with fail
 (with_reducible refine H4.out.mono ?_)
 rintro ee w4 ⟨rfl, hk4⟩
 have H4n : Hid (RS w0 w w4 g gn K s (i) false nz1) := Lib.hid (H3n.out.moved HL.out hk4)
 clear H4 hk4
 have h5 := name134 w0 w4 g s i false hi hs hg H4n.out.below H4n.out.sb
 rw [HNE.out.1, HNE.out.2] at h5
 have H5 := Lib.hid h5
 clear h5 he hnm
 go_wp2_with fail
 (with_reducible refine H5.out.mono ?_)
 rintro ee w5 ⟨rfl, hb5, hk5, hs5⟩
 have H5n : Hid (RS w0 w w5 g gn K s e false nz1) := Lib.hid (H4n.out.moved HL.out ⟨hb5, hk5, hs5⟩)
 clear H5 hb5 hk5 hs5 HV H1n H2n H3n H4n
 rw [HNE.out.1] at h61 hc h94
 have E61 := Lib.hid h61
 have EC := Lib.hid hc
 have E94 := Lib.hid h94
 clear h61 hc h94
 have H6 := Lib.hid (isF w0 w5 g s (e) 61 61 rfl E61.out hes hs hg H5n.out.below H5n.out.sb)
 go_wp2_with fail
 (with_reducible refine H6.out.mono ?_)
 rintro ee w6 ⟨rfl, hk6⟩
 have H6n : Hid (RS w0 w w6 g gn K s (e) false nz1) := Lib.hid (H5n.out.moved HL.out hk6)
 clear H6 hk6
 have H7 := Lib.hid (isF w0 w6 g s (e) 33 33 rfl E94.out hes hs hg H6n.out.below H6n.out.sb)
 go_wp2_with fail
 (with_reducible refine H7.out.mono ?_)
 rintro ee w7 ⟨rfl, hk7⟩
 have H7n : Hid (RS w0 w w7 g gn K s (e) false nz1) := Lib.hid (H6n.out.moved HL.out hk7)
 clear H7 hk7
 have H8 := Lib.hid (isF w0 w7 g s (e) 94 94 rfl EC.out hes hs hg H7n.out.below H7n.out.sb)
 go_wp2_with fail
 (with_reducible refine H8.out.mono ?_)
 rintro ee w8 ⟨rfl, hk8⟩
 have H8n : Hid (RS w0 w w8 g gn K s (e) false nz1) := Lib.hid (H7n.out.moved HL.out hk8)
 clear H8 hk8
 have H9 := Lib.hid (mustAny w0 w8 g s e false 64 64 rfl hes hs hg H8n.out.below H8n.out.sb)
 go_wp2_with fail
 (with_reducible refine H9.out.mono ?_)
 rintro ee w9 ⟨i9, b9, rfl, hk9, hi9, HT9⟩
 have H9n : Hid (RS w0 w w9 g gn K s i9 b9 nz1) := Lib.hid (H8n.out.moved HL.out hk9)
 have H10 := Lib.hid (mustAny w0 w9 g s i9 b9 40 40 rfl hi9 hs hg H9n.out.below H9n.out.sb)
 clear H9 hk9 H8n H7n H6n H5n
 go_wp2_with fail
 (with_reducible refine H10.out.mono ?_)
 rintro ee w10 ⟨i10, b10, rfl, hk10, hi10, HT10⟩
 have HXn : Hid (RS w0 w w10 g gn K s i10 b10 nz1) := Lib.hid (H9n.out.moved HL.out hk10)
 have HST : Hid ((b10 = true ∧ Q = none) ∨ (b10 = false ∧ Q = (valsW stepR (17 - 0) (s.data.toList.drop i10)).map (fun q => ((⟨4, nm, ⟨#[]⟩, [] ++ q.1, []⟩ : S25), left, q.2)))) := Lib.hid (by
  rw [← HQ.out]
  unfold tailR
  rw [if_neg (by rw [E61.out]; decide), if_neg (by rw [E94.out]; decide), if_neg (by rw [EC.out]; decide)]
  rcases HT9.out with ⟨rfl, h9 | h9⟩ | ⟨rfl, -, h9, rfl⟩
  ·cases h9
  ·rcases HT10.out with ⟨rfl, -⟩ | ⟨-, h, -⟩
   ·exact Or.inl ⟨rfl, by rw [if_neg (by rw [h9]; decide)]; rfl⟩
   ·cases h
  ·rw [if_pos h9, List.drop_drop]
   rcases HT10.out with ⟨rfl, h | h⟩ | ⟨rfl, -, h, rfl⟩
   ·cases h
   ·exact Or.inl ⟨rfl, by rw [if_neg (by rw [h]; decide)]; rfl⟩
   ·refine Or.inr ⟨rfl, ?_⟩
    rw [if_pos h, List.drop_drop]
    cases valsW stepR 17 (s.data.toList.drop (e + 1 + 1)) <;> rfl)
 clear H10 hk10 H9n HT9 HT10
 go_upto_block 4 with fail
 obtain ⟨G1, eG1⟩ : ∃ G1, w10.heap.size = G1 := ⟨_, rfl⟩
 rw [eG1]
 obtain ⟨X, eX⟩ : ∃ X, X = w10.alloc (.cells #[.int .i64 4, .string nm, .string ⟨#[]⟩, .slice none 0 0, .slice none 0 0] 25) := ⟨_, rfl⟩
 rw [← eX]
 have hbX : Below w10.heap.size w10 X := by rw [eX]; exact below_alloc (Below.refl _ _) _
 have HXX : Hid (RS w0 w X g gn K s i10 b10 nz1) := Lib.hid (HXn.out.below_ hbX HL.out)
 have HG : Hid (X.heap[G1]? = some (.cells #[.int .i64 4, .string nm, .string ⟨#[]⟩, .slice none 0 0, .slice none 0 0] 25 (0, 0))) := Lib.hid (by rw [eX, ← eG1]; exact blk_new w10 _)
 have hKG : K < G1 := by have := blk_lt HXn.out.res; omega
 have HXS := Lib.hid (show G1 + 1 ≤ X.heap.size by rw [eX, World.size_alloc]; omega)
 have HKG := Lib.hid hKG
 have hne1 : G1 ≠ K := by omega
 have hne2 : K ≠ G1 := by omega
 have hng1 : G1 ≠ g := by have := HL.out.gl; have := HL.out.eK; omega
 have hng2 : g ≠ G1 := by have := HL.out.gl; have := HL.out.eK; omega
 have HNG := Lib.hid (And.intro hne1 (And.intro hne2 (And.intro hng1 hng2)))
 clear eX eG1 hbX HXn hKG HQ hne1 hne2 hng1 hng2
 go_wp2_with fail
 go_loopw [10] (fun u10 wr => ∃ (n p : Nat) (b : Bool) (xs : List ByteArray) (A : Option Addr) (c : Nat), n ≤ 17 ∧ p ≤ s.size ∧ xs.length = n ∧ Hid (RS w0 w wr g gn K s p b nz1) ∧ Hid (wr.heap[G1]? = some (.cells #[.int .i64 4, .string nm, .string ⟨#[]⟩, .slice A n c, .slice none 0 0] 25 (0, 0))) ∧ Hid (wr.ownsRow (G1 + 1) 9 1 (.slice A n c) n (encs Value.string xs)) ∧ Hid ((b = true ∧ Q = none) ∨ (b = false ∧ Q = (valsW stepR (17 - n) (s.data.toList.drop p)).map (fun q => ((⟨4, nm, ⟨#[]⟩, xs ++ q.1, []⟩ : S25), left, q.2)))) ∧ Hid (G1 + 1 ≤ wr.heap.size))
  (fun _ wr => 18 - lenV ((wr.cell? ⟨G1, 3, none⟩).getD undef))
 case atStart => exact ⟨0, i10, b10, [], none, 0, by decide, hi10, rfl, HXX, HG, Lib.hid (by simpa [encs] using World.ownsRow_nil _ _ _ _), HST, HXS⟩
 case round =>
  obtain ⟨n, p, b, xs, A, c, hn, hp, hxl, HR, HGr, HO, HS2, HSZ⟩ := hrel
  clear HXX HG HST HXS
  have cB := HR.out.cB
  have zB := HR.out.sb.z2
  have y3 : wr.cell? ⟨G1, 3, none⟩ = some (.slice A n c) := (blk_cell HGr.out 3).trans rfl
  have HY3 := Lib.hid y3
  by_cases hcont : b = false ∧ n ≤ 16
  ·obtain ⟨rfl, hn16⟩ := hcont
   have hnI : (n : Int) ≤ 16 := by omega
   have dnI : decide ((n : Int) ≤ 16) = true := decide_eq_true hnI
   have H1 := Lib.hid (valF w0 wr g s p hp hs hg HR.out.below HR.out.sb)
   go_wp2_with fail
   (with_reducible refine H1.out.mono ?_)
   rintro ee wa ⟨x, ia, ba, rfl, hka, hia, HTa⟩
   have HA : Hid (RS w0 w wa g gn K s ia ba nz1) := Lib.hid (HR.out.moved HL.out hka)
   obtain ⟨hkb, hkk, hks⟩ := hka
   have hO1 : wa.ownsRow (G1 + 1) 9 1 (.slice A n c) n (encs Value.string xs) := own_move HO.out (fun q hq => hkk.2 q (HO.out.lt _ hq).2 (by have := (HO.out.lt _ hq).1; have := HKG.out; have := HL.out.gl; have := HL.out.eK; omega) (by simp))
   have hG1 := (hkk.2 G1 (by have := HSZ.out; omega) (by have := HNG.out.2.2.1; omega) (by simp)).trans HGr.out
   have hbs := hkk.1
   have HO1 := Lib.hid hO1
   have HG1 := Lib.hid hG1
   have HS1 := Lib.hid (show G1 + 1 ≤ wa.heap.size by have := HSZ.out; omega)
   have ya : wa.cell? ⟨G1, 3, none⟩ = some (.slice A n c) := (blk_cell hG1 3).trans rfl
   have HLT := Lib.hid (fun q (hq : (Value.slice A n c).ownBlock = some q) => hO1.lt _ hq)
   have HX2 := Lib.hid (show (xs ++ [x]).length = n + 1 by rw [List.length_append, hxl]; rfl)
   clear hkb hkk hks hO1 hG1 hbs H1
   go_wp2_with (at_builtin; refine print_append_of (w0 := wa) (W := wa) Value.string (G1 + 1) rfl (.tmp 116) (.tmp 118) 22 9 (.string ByteArray.empty) 16 rfl Try.underlying22 infoSt rfl (by decide) (.slice A n c) xs x rfl rfl rfl (by rw [hxl]; exact HO1.out) (Below.refl _ _) HS1.out (by rw [hxl]; omega) ?_; intro v1 wb hown2 hb2 hg2 hat2; rw [HX2.out] at hown2; obtain ⟨A2, c2, rfl⟩ := own_slice hown2; have hlo := HLT.out; have hneG : some G1 ≠ (Value.slice A n c).ownBlock := (fun e => by have := (hlo _ e.symm).1; omega); have q5 := (hg2.block G1 (blk_lt HG1.out) hneG).trans HG1.out; have Q5 := Lib.hid q5; have zO4 := blk_frozen q5 3; have cO4 : wb.cell? ⟨G1, 3, none⟩ = some (.slice A n c) := (blk_cell q5 3).trans rfl; have HG2 := Lib.hid hg2; have HO2 := Lib.hid hown2; clear hg2 hb2 hown2 hat2 q5 hneG hlo)
   have HB : Hid (RS w0 w wb g gn K s ia ba nz1) := Lib.hid (HA.out.grown HL.out HG2.out (fun q hq => by have := (HLT.out q hq).1; have := HKG.out; omega))
   obtain ⟨wc, ewc⟩ : ∃ wc, wc = wb.setCell ⟨G1, 3, none⟩ (.slice A2 (n + 1) c2) := ⟨_, rfl⟩
   have HC : Hid (RS w0 w wc g gn K s ia ba nz1) := Lib.hid (by rw [ewc]; exact HB.out.setG HL.out HKG.out 3 _)
   have HGc : Hid (wc.heap[G1]? = some (.cells #[.int .i64 4, .string nm, .string ⟨#[]⟩, .slice A2 (n + 1) c2, .slice none 0 0] 25 (0, 0))) := Lib.hid (by rw [ewc]; exact (blk_set Q5.out 3 _).trans (by rfl))
   have HOc : Hid (wc.ownsRow (G1 + 1) 9 1 (.slice A2 (n + 1) c2) (n + 1) (encs Value.string (xs ++ [x]))) := Lib.hid (by rw [ewc]; exact own_move HO2.out (fun q hq => Below.heap_setCell _ _ _ _ (show q ≠ G1 by have := (HO2.out.lt _ hq).1; omega)))
   have HSc := Lib.hid (show G1 + 1 ≤ wc.heap.size by rw [ewc, World.size_setCell]; have := HG2.out.size; have := HS1.out; omega)
   have HST1 := Lib.hid (among_step (i10 := ia) (b10 := ba) (x := x) hn16 (by rcases HS2.out with ⟨h, -⟩ | ⟨-, h⟩; cases h; exact h) HTa.out)
   have H2 := Lib.hid (isAny w0 wc g s ia ba 41 41 rfl hia hs hg HC.out.below HC.out.sb)
   rw [← ewc]
   clear ewc HB HA HG2 HO2 Q5 zO4 cO4 HO1 HG1 HS1 ya HLT HTa HS2 HR HGr HO y3 cB zB
   refine H2.out.mono ?_
   rintro ee wd ⟨v, id, rfl, hkd, hid, HTd⟩
   have HD : Hid (RS w0 w wd g gn K s id ba nz1) := Lib.hid (HC.out.moved HL.out hkd)
   obtain ⟨hkb, hkk, hks⟩ := hkd
   have HGd := Lib.hid ((hkk.2 G1 (blk_lt HGc.out) HNG.out.2.2.1 (by simp)).trans HGc.out)
   have HOd : Hid (wd.ownsRow (G1 + 1) 9 1 (.slice A2 (n + 1) c2) (n + 1) (encs Value.string (xs ++ [x]))) := Lib.hid (own_move HOc.out (fun q hq => hkk.2 q (HOc.out.lt _ hq).2 (by have := (HOc.out.lt _ hq).1; have := HKG.out; have := HL.out.gl; have := HL.out.eK; omega) (by simp)))
   have HSd := Lib.hid (Nat.le_trans HSc.out hkk.1)
   clear hkb hkk hks HGc HOc HSc HC H2
   cases v with
   | true =>
    have hf : ba = false ∧ nextB 41 (s.data.toList.drop ia) = true ∧ id = ia + 1 := by
     rcases HTd.out with ⟨-, h1, h2, h3⟩ | ⟨h, -⟩
     ·exact ⟨h1, h2, h3⟩
     ·cases h
    obtain ⟨rfl, hnx, rfl⟩ := hf
    have HQn := Lib.hid (show Q = some (⟨4, nm, ⟨#[]⟩, xs ++ [x], []⟩, left, s.data.toList.drop (ia + 1)) by
     rw [HST1.out.2 rfl]
     unfold restR
     rw [if_pos hnx, List.drop_drop]
     simp)
    have y0 := blk_cell HGd.out 0
    have y1 := blk_cell HGd.out 1
    have y2 := blk_cell HGd.out 2
    have y3 := blk_cell HGd.out 3
    have y4 := blk_cell HGd.out 4
    have xk0 := HD.out.k0
    have xk1 := HD.out.k1
    have xk2 := HD.out.k2
    have xk3 := HD.out.k3
    have xk4 := HD.out.k4
    have xz0 := HD.out.zK 0
    have xz1 := HD.out.zK 1
    have xz2 := HD.out.zK 2
    have xz3 := HD.out.zK 3
    have xz4 := HD.out.zK 4
    simp only [List.getElem?_toArray, List.getElem?_cons_zero, List.getElem?_cons_succ] at y0 y1 y2 y3 y4
    have hne1 : G1 ≠ K := HNG.out.1
    have hne2 : K ≠ G1 := HNG.out.2.1
    clear HTd hnx
    go_wp2
    obtain ⟨F3, gg3, F4, gg4, ev3, ev4, hMF⟩ := MF.of_rows (m := ⟨4, nm, ⟨#[]⟩, xs ++ [x], []⟩) (lo' := G1 + 1) (v3 := .slice A2 (n + 1) c2) (by rw [List.length_append, hxl]; exact HOd.out) (World.ownsRow_nil _ (G1 + 1) 25 5) (by simpa using Reps.none _ _) (Nat.le_refl _)
    simp only [List.length_append, hxl, List.length_cons, List.length_nil] at ev3 ev4
    cases ev3
    cases ev4
    have hT := HD.out.good (m := ⟨4, nm, ⟨#[]⟩, xs ++ [x], []⟩) HL.out hid rfl HNZ.out (hMF.move (fun q hq => ⟨⟨by have := hq.1; have := HKG.out; omega, hq.2⟩, rfl⟩))
    rw [HQn.out]
    simp only [mV, List.length_append, hxl, List.length_cons, List.length_nil] at hT
    exact bodyPost_ret (results_single rfl (.cell K 25 _ (0, 0) _ rfl hT.1 Try.underlying25 rfl (by kernel_rfl) .nil)) rfl hT.2
   | false =>
    have hf : id = ia ∧ (ba = true ∨ nextB 41 (s.data.toList.drop ia) = false) := by
     rcases HTd.out with ⟨h, -⟩ | ⟨-, h1, h2⟩
     ·cases h
     ·exact ⟨h1, h2⟩
    have HF := Lib.hid hf
    have H3 := Lib.hid (mustAny w0 wd g s id ba 44 44 rfl hid hs hg HD.out.below HD.out.sb)
    clear HTd hf
    go_wp2_with fail
    refine H3.out.mono ?_
    rintro ee we ⟨ie, be, rfl, hke, hie, HTe⟩
    have HE : Hid (RS w0 w we g gn K s ie be nz1) := Lib.hid (HD.out.moved HL.out hke)
    obtain ⟨hkb, hkk, hks⟩ := hke
    have HGe := Lib.hid ((hkk.2 G1 (blk_lt HGd.out) HNG.out.2.2.1 (by simp)).trans HGd.out)
    have HOe : Hid (we.ownsRow (G1 + 1) 9 1 (.slice A2 (n + 1) c2) (n + 1) (encs Value.string (xs ++ [x]))) := Lib.hid (own_move HOd.out (fun q hq => hkk.2 q (HOd.out.lt _ hq).2 (by have := (HOd.out.lt _ hq).1; have := HKG.out; have := HL.out.gl; have := HL.out.eK; omega) (by simp)))
    have HSe := Lib.hid (Nat.le_trans HSd.out hkk.1)
    have HSTe := Lib.hid (among_next hn16 HST1.out HF.out HTe.out)
    clear hkb hkk hks HGd HOd HSd HD H3 HTe HF HST1
    go_wp2
    go_roundw
    case rel => exact ⟨n + 1, ie, be, xs ++ [x], A2, c2, by omega, hie, by rw [List.length_append, hxl]; rfl, HE, HGe, HOe, HSTe, HSe⟩
    case measure =>
     have h1 : we.cell? ⟨G1, 3, none⟩ = some (.slice A2 (n + 1) c2) := (blk_cell HGe.out 3).trans rfl
     rw [h1, HY3.out]
     simp [lenV]
     omega
  ·have HQn := Lib.hid (show Q = none by
    rcases HS2.out with ⟨-, h⟩ | ⟨hb, h⟩
    ·exact h
    ·have h17 : n = 17 := by
      rcases Nat.lt_or_ge n 17 with h' | h'
      ·exact absurd ⟨hb, by omega⟩ hcont
      ·omega
     subst h17
     rw [h, Nat.sub_self, valsW]
     rfl)
   have HRb : Hid (RS w0 w (wr.setCell ⟨g, 2, none⟩ (.bool true)) g gn K s p true nz1) := Lib.hid (HR.out.badSet HL.out)
   have HGb := Lib.hid ((Below.heap_setCell wr ⟨g, 2, none⟩ (.bool true) G1 HNG.out.2.2.1).trans HGr.out)
   have y0 := blk_cell HGb.out 0
   have y1 := blk_cell HGb.out 1
   have y2 := blk_cell HGb.out 2
   have y3b := blk_cell HGb.out 3
   have y4 := blk_cell HGb.out 4
   have xk0 := HRb.out.k0
   have xk1 := HRb.out.k1
   have xk2 := HRb.out.k2
   have xk3 := HRb.out.k3
   have xk4 := HRb.out.k4
   have xz0 := HRb.out.zK 0
   have xz1 := HRb.out.zK 1
   have xz2 := HRb.out.zK 2
   have xz3 := HRb.out.zK 3
   have xz4 := HRb.out.zK 4
   simp only [List.getElem?_toArray, List.getElem?_cons_zero, List.getElem?_cons_succ] at y0 y1 y2 y3b y4
   have hne1 : G1 ≠ K := HNG.out.1
   have hne2 : K ≠ G1 := HNG.out.2.1
   have hng1 : G1 ≠ g := HNG.out.2.2.1
   have hng2 : g ≠ G1 := HNG.out.2.2.2
   cases b with
   | true =>
    clear hcont HS2
    go_wp2
    have hT := HRb.out.bad HL.out hp 4 nm ⟨#[]⟩ A n c none 0 0
    rw [HQn.out]
    exact bodyPost_ret (results_single rfl (.cell K 25 _ (0, 0) _ rfl hT.1 Try.underlying25 rfl (by kernel_rfl) .nil)) rfl hT.2
   | false =>
    have hnI : ¬ (n : Int) ≤ 16 := by
     intro h
     exact hcont ⟨rfl, by omega⟩
    have dnI : decide ((n : Int) ≤ 16) = false := decide_eq_false hnI
    clear hcont HS2
    go_wp2
    have hT := HRb.out.bad HL.out hp 4 nm ⟨#[]⟩ A n c none 0 0
    rw [HQn.out]
    exact bodyPost_ret (results_single rfl (.cell K 25 _ (0, 0) _ rfl hT.1 Try.underlying25 rfl (by kernel_rfl) .nil)) rfl hT.2
end Go.Proofs.Yteafilojjdfllaa
end
