/- Own text: RefS, RefName, laid into one text. -/
import Derived.Test.YteafilojjdfllaaUnq132
import Derived.Test.YteafilojjdfllaaParseL
namespace Go.Proofs.Yteafilojjdfllaa
section
open Go Go.RowKit Go.Proofs.YteafilojjdfllaaW.PrintWords Go.Proofs.YteafilojjdfllaaW.PrintLast Go.Proofs.YteafilojjdfllaaW.PrintMore Go.Proofs.Yteafilojjdfllaa.PAll
set_option linter.unusedVariables false
set_option linter.unusedSimpArgs false

/-- the reader's block -/
def SB (W : World) (g : Nat) (s : ByteArray) (i : Nat) (b : Bool) : Prop := W.heap[g]? = some (.cells #[.string s, .int .i64 (i : Int), .bool b] 159 (0, 0))
section
variable {W X : World} {g : Nat} {s : ByteArray} {i : Nat} {b : Bool}
theorem SB.c0 (h : SB W g s i b) : W.cell? ⟨g, 0, none⟩ = some (.string s) := (blk_cell h 0).trans rfl
theorem SB.c1 (h : SB W g s i b) : W.cell? ⟨g, 1, none⟩ = some (.int .i64 (i : Int)) := (blk_cell h 1).trans rfl
theorem SB.c2 (h : SB W g s i b) : W.cell? ⟨g, 2, none⟩ = some (.bool b) := (blk_cell h 2).trans rfl
theorem SB.z1 (h : SB W g s i b) : W.frozen? ⟨g, 1, none⟩ = false := blk_frozen h 1
theorem SB.z2 (h : SB W g s i b) : W.frozen? ⟨g, 2, none⟩ = false := blk_frozen h 2
theorem SB.lt (h : SB W g s i b) : g < W.heap.size := (Array.getElem?_eq_some_iff.1 h).1
theorem SB.set1 (h : SB W g s i b) (j : Nat) : SB (W.setCell ⟨g, 1, none⟩ (.int .i64 (j : Int))) g s j b := by simpa [SB] using blk_set h 1 (.int .i64 (j : Int))
theorem SB.set2 (h : SB W g s i b) (c : Bool) : SB (W.setCell ⟨g, 2, none⟩ (.bool c)) g s i c := by simpa [SB] using blk_set h 2 (.bool c)
theorem SB.below (h : SB W g s i b) (hb : Below W.heap.size W X) : SB X g s i b := (hb.block g h.lt).trans h
theorem SB.alloc (h : SB W g s i b) (o : Obj) : SB (W.alloc o) g s i b := h.below (below_alloc (Below.refl _ _) o)
theorem SB.drewN (h : SB W g s i b) (n : Nat) : SB (W.drewN n) g s i b := h
theorem SB.drew (h : SB W g s i b) : SB W.drew g s i b := h
end
/-- how a step of the reader ends -/
def SPost (w0 w : World) (g : Nat) (s : ByteArray) (i : Nat) (b : Bool) (v : Value) (e : Ending) (w' : World) : Prop :=
  e = .returned v ∧ Below w0.heap.size w0 w' ∧ KeepBut w w' g none ∧ SB w' g s i b

theorem dig_at : ∀ n : Fin 16, (⟨#[48, 49, 50, 51, 52, 53, 54, 55, 56, 57, 97, 98, 99, 100, 101, 102]⟩ : ByteArray).data.toList.getD n.val 0 = hexD n.val := by decide +kernel
theorem hexV_inv_fin : ∀ n : Fin 256, 0 ≤ hexV n.val.toUInt8 → hexD (hexV n.val.toUInt8).toNat = n.val.toUInt8 := by decide +kernel
theorem hexV_inv (c : UInt8) (h : 0 ≤ hexV c) : hexD (hexV c).toNat = c := by
  have h1 := hexV_inv_fin ⟨c.toNat, c.toNat_lt⟩
  simp only [show c.toNat.toUInt8 = c from by simp] at h1
  exact h1 h
def hexRet (c : UInt8) : Value := if hexV c < 0 then .tuple #[.int .u8 0, .bool false] else .tuple #[.int .u8 (hexV c), .bool true]
set_option maxRecDepth 100000 in
set_option maxHeartbeats 4000000 in
/-- hex. -/
theorem hex170 (w : World) (c : UInt8) : Calls Try.prog 170 #[.int .u8 (c.toNat : Int)] w fun e w' => e = .returned (hexRet c) ∧ ∃ m, w' = w.drewN m := by
  go_enter Try.func170, Try.ntmps170
  go_wp2
  go_loopw [4] (fun u4 wr => ∃ (j : Nat), u4 = .int .i64 j ∧ j ≤ 16 ∧ Hid (∀ i, i < j → hexD i ≠ c) ∧ wr = w)
    (fun u4 _ => 16 - (intOf u4).toNat)
  case atStart => exact ⟨0, rfl, Nat.zero_le _, Lib.hid (fun i hi => absurd hi (Nat.not_lt_zero i)), rfl⟩
  case round =>
    obtain ⟨j, rfl, hj, HN, rfl⟩ := hrel
    by_cases hlt : j < 16
    · have hx : ∀ h : j < (⟨#[48, 49, 50, 51, 52, 53, 54, 55, 56, 57, 97, 98, 99, 100, 101, 102]⟩ : ByteArray).size, (((⟨#[48, 49, 50, 51, 52, 53, 54, 55, 56, 57, 97, 98, 99, 100, 101, 102]⟩ : ByteArray)[j]'h).toNat : Int) = ((hexD j).toNat : Int) := bN_at _ j _ (dig_at ⟨j, hlt⟩)
      by_cases e : hexD j = c
      · have hv : hexV c = (j : Int) := by rw [← e]; exact hexV_hexD ⟨j, hlt⟩
        have HR := Lib.hid (show hexRet c = .tuple #[.int .u8 (j : Int), .bool true] from by unfold hexRet; rw [hv, if_neg (by omega)])
        have b1 : (((hexD j).toNat : Int) == (c.toNat : Int)) = true := by rw [e]; exact beq_self_eq_true _
        have b2 : (j : Int) % 256 = (j : Int) := by omega
        clear e hv
        go_wp2
        go_ret2
        exact ⟨by rw [HR.out]; first | rfl | simp [*], 0, rfl⟩
      · have b1 : (((hexD j).toNat : Int) == (c.toNat : Int)) = false := beq_eq_false_iff_ne.2 (fun h => e (UInt8.toNat_inj.1 (by omega)))
        have HE := Lib.hid e
        clear e
        go_wp2
        go_roundw
        case rel => exact ⟨j + 1, by go_num, by omega, Lib.hid (fun i hi => by rcases Nat.lt_succ_iff_lt_or_eq.1 hi with h | rfl; exact HN.out i h; exact HE.out), by first | rfl | trivial⟩
        case measure => simp [intOf]; omega
    · obtain rfl : j = 16 := by omega
      have HR := Lib.hid (show hexRet c = .tuple #[.int .u8 0, .bool false] from by
        unfold hexRet
        by_cases h : hexV c < 0
        · rw [if_pos h]
        · exact absurd (hexV_inv c (by omega)) (HN.out _ (by have := (hexV_range c).2; omega)))
      go_wp2
      go_ret2
      exact ⟨by rw [HR.out]; rfl, 0, rfl⟩
/-- the reader moves on -/
theorem SPost.moved {w0 w : World} {g : Nat} {s : ByteArray} {i j : Nat} {b : Bool} {v : Value} {m : Nat} (hB : Below w0.heap.size w0 w) (hg : w0.heap.size ≤ g) (hS : SB w g s i b) : SPost w0 w g s j b v (.returned v) ((w.drewN m).setCell ⟨g, 1, none⟩ (.int .i64 (j : Int))) :=
  ⟨rfl, (pw_below_drewN hB m).setCell hg _, (keep_drewN (KeepBut.refl w g none) m).set_ 1 _, (hS.drewN m).set1 j⟩
def isAt (s : ByteArray) (i : Nat) (b : Bool) (c : UInt8) : Bool := !b && decide (i < s.size) && (bN s i == c)
set_option maxRecDepth 100000 in
set_option maxHeartbeats 8000000 in
/-- Is. -/
theorem is169 (w0 w : World) (g : Nat) (s : ByteArray) (i : Nat) (b : Bool) (c : UInt8) (hi : i ≤ s.size) (hs : s.size ≤ 1000000000) (hg : w0.heap.size ≤ g) (hB : Below w0.heap.size w0 w) (hS : SB w g s i b) :
    Calls Try.prog 169 #[.pointer (some ⟨g, 0, none⟩), .int .u8 (c.toNat : Int)] w (SPost w0 w g s (if isAt s i b c = true then i + 1 else i) b (.bool (isAt s i b c))) := by
  have c0 := hS.c0
  have c1 := hS.c1
  have c2 := hS.c2
  have HS := Lib.hid hS
  have HB := Lib.hid hB
  clear hS hB
  cases b with
  | true =>
    rw [show isAt s i true c = false from rfl, if_neg (by decide)]
    go_enter Try.func169, Try.ntmps169
    go_wp2
    go_quiet (fail)
    go_wp2
    go_ret
    exact ⟨rfl, pw_below_drewN HB.out _, keep_drewN (KeepBut.refl w g none) _, HS.out.drewN _⟩
  | false =>
    by_cases hlt : i < s.size
    · obtain ⟨x, hx⟩ : ∃ x, bN s i = x := ⟨_, rfl⟩
      have hx0 := bN_at s i x hx
      have d1 : decide (s.size ≤ i) = false := decide_eq_false (by omega)
      have d2 : decide ((s.size : Int) ≤ (i : Int)) = false := decide_eq_false (by omega)
      by_cases e : x = c
      · have hv : isAt s i false c = true := by unfold isAt; rw [hx, e, decide_eq_true hlt]; simp
        rw [hv, if_pos rfl]
        have b1 : ((x.toNat : Int) == (c.toNat : Int)) = true := by rw [e]; exact beq_self_eq_true _
        have b2 : ((x.toNat : Int) != (c.toNat : Int)) = false := by simp [bne, b1]
        clear hx e hv
        go_enter Try.func169, Try.ntmps169
        go_wp2
        go_quiet (fail)
        have f1 := (HS.out.drewN nq).c1
        have f2 := (HS.out.drewN nq).z1
        go_wp2
        go_ret
        exact SPost.moved (j := i + 1) HB.out hg HS.out
      · have hv : isAt s i false c = false := by unfold isAt; rw [hx, show (x == c) = false from beq_eq_false_iff_ne.2 e]; simp
        rw [hv, if_neg (by decide)]
        have b1 : ((x.toNat : Int) == (c.toNat : Int)) = false := beq_eq_false_iff_ne.2 (fun h => e (UInt8.toNat_inj.1 (by omega)))
        have b2 : ((x.toNat : Int) != (c.toNat : Int)) = true := by simp [bne, b1]
        clear hx e hv
        go_enter Try.func169, Try.ntmps169
        go_wp2
        go_quiet (fail)
        go_wp2
        go_ret
        exact ⟨rfl, pw_below_drewN HB.out _, keep_drewN (KeepBut.refl w g none) _, HS.out.drewN _⟩
    · have hv : isAt s i false c = false := by unfold isAt; rw [decide_eq_false hlt]; simp
      rw [hv, if_neg (by decide)]
      have d1 : decide (s.size ≤ i) = true := decide_eq_true (by omega)
      have d2 : decide ((s.size : Int) ≤ (i : Int)) = true := decide_eq_true (by omega)
      clear hv
      go_enter Try.func169, Try.ntmps169
      go_wp2
      go_quiet (fail)
      go_wp2
      go_ret
      exact ⟨rfl, pw_below_drewN HB.out _, keep_drewN (KeepBut.refl w g none) _, HS.out.drewN _⟩
set_option maxRecDepth 100000 in
set_option maxHeartbeats 8000000 in
/-- Must. -/
theorem must135 (w0 w : World) (g : Nat) (s : ByteArray) (i : Nat) (b : Bool) (c : UInt8) (hi : i ≤ s.size) (hs : s.size ≤ 1000000000) (hg : w0.heap.size ≤ g) (hB : Below w0.heap.size w0 w) (hS : SB w g s i b) :
    Calls Try.prog 135 #[.pointer (some ⟨g, 0, none⟩), .int .u8 (c.toNat : Int)] w (SPost w0 w g s (if isAt s i b c = true then i + 1 else i) (!isAt s i b c) (.tuple #[])) := by
  have h := Lib.hid (is169 w0 w g s i b c hi hs hg hB hS)
  have hbi : isAt s i b c = true → b = false := fun h => by unfold isAt at h; cases b <;> simp_all
  clear hS
  cases hv : isAt s i b c with
  | true =>
    have hb := hbi hv
    subst hb
    rw [hv] at h
    go_enter Try.func135, Try.ntmps135
    go_wp2_with fail
    (with_reducible refine h.out.mono ?_)
    rintro e w1 ⟨rfl, hB1, hK1, hS1⟩
    go_wp2
    go_end0
    exact ⟨rfl, hB1, hK1, hS1⟩
  | false =>
    rw [hv] at h
    go_enter Try.func135, Try.ntmps135
    go_wp2_with fail
    (with_reducible refine h.out.mono ?_)
    rintro e w1 ⟨rfl, hB1, hK1, hS1⟩
    have f2 := hS1.c2
    have z2 := hS1.z2
    go_wp2
    go_end0
    exact ⟨rfl, hB1.setCell hg _, hK1.set_ 2 _, hS1.set2 true⟩
end
section
open Go Go.RowKit Go.Proofs.YteafilojjdfllaaW.PrintWords Go.Proofs.YteafilojjdfllaaW.PrintLast Go.Proofs.YteafilojjdfllaaW.PrintMore Go.Proofs.Yteafilojjdfllaa.PAll
set_option linter.unusedVariables false
set_option linter.unusedSimpArgs false

theorem span_next {s : ByteArray} {i j : Nat} {c : UInt8} (hij : i ≤ j) (hj : j < s.size) (hx : bN s j = c) (hc : nameC c = true) (h : (s.data.toList.drop i).takeWhile nameC = (s.data.toList.drop i).take (j - i) ++ (s.data.toList.drop j).takeWhile nameC) :
    (s.data.toList.drop i).takeWhile nameC = (s.data.toList.drop i).take (j + 1 - i) ++ (s.data.toList.drop (j + 1)).takeWhile nameC := by
  have hl : j - i < (s.data.toList.drop i).length := by rw [List.length_drop]; simp; omega
  have hg : (s.data.toList.drop i)[j - i]'hl = c := by
    rw [List.getElem_drop]
    rw [← hx, bN, List.getD_eq_getElem?_getD]
    simp only [show i + (j - i) = j by omega]
    rw [List.getElem?_eq_getElem (by simpa using hj)]
    rfl
  rw [h, show j + 1 - i = (j - i) + 1 by omega, List.take_succ_eq_append_getElem hl, hg, bN_drop s j hj, hx, List.takeWhile_cons, if_pos hc]
  simp
theorem measS {W W' : World} {g n j : Nat} (h : j < n) (c1 : W.cell? ⟨g, 1, none⟩ = some (.int .i64 (j : Int))) (c2 : W'.cell? ⟨g, 1, none⟩ = some (.int .i64 ((j + 1 : Nat) : Int))) : n - (intOf ((W'.cell? ⟨g, 1, none⟩).getD undef)).toNat < n - (intOf ((W.cell? ⟨g, 1, none⟩).getD undef)).toNat := by
  rw [c1, c2]
  show n - ((j + 1 : Nat) : Int).toNat < n - (j : Int).toNat
  omega
/-- a name read: its end -/
def nameEnd (s : ByteArray) (i : Nat) : Nat := i + ((s.data.toList.drop i).takeWhile nameC).length
theorem name_post {w0 w W : World} {g : Nat} {s : ByteArray} {i j : Nat} {b : Bool} (hij : i ≤ j) (hj : j ≤ s.size) (he : (s.data.toList.drop j).takeWhile nameC = []) (h : (s.data.toList.drop i).takeWhile nameC = (s.data.toList.drop i).take (j - i) ++ (s.data.toList.drop j).takeWhile nameC)
    (hB : Below w0.heap.size w0 W) (hK : KeepBut w W g none) (hS : SB W g s j b) :
    SPost w0 w g s (nameEnd s i) b (.string ⟨((s.data.toList.drop i).takeWhile nameC).toArray⟩) (.returned (.string (s.extract i j))) W := by
  rw [he, List.append_nil] at h
  have hl : ((s.data.toList.drop i).takeWhile nameC).length = j - i := by rw [h, List.length_take, List.length_drop]; simp; omega
  have hn : nameEnd s i = j := by unfold nameEnd; omega
  rw [hn]
  refine ⟨?_, hB, hK, hS⟩
  have := ext_take s i (j - i)
  rw [show i + (j - i) = j by omega] at this
  rw [this, h]
def pre (n k : Nat) : List Bool := List.replicate k true ++ List.replicate (n - k) false
section
variable {P : Program} {ops : Array Oper} {Q : Exit → Act → World → Prop} {S : World → Prop} {ds : List Nat} {T : Bool × List (List Nat × List Nat)}
theorem takeN {n k : Nat} {N : Option Tmp} {oi : Oper} {v : Value} {fuel : Nat} {a : Act} {w : World} (hT : rtab .any ops = T) (hi : ops[k]? = some oi) (hN : oi.dst = N) (hc : takeT T ds (pre n k) (pre n (k + 1)) k = true)
    (hQ : ∀ c a w, Q (.panic c) (a.put oi.dst v) w → Q (.panic c) a w) (hy : YieldsIf P ops S oi v a) (hS : S w) {a' : Act} (ha : a.put N v = a')
    (h : wpAnyLast P .any ops Q S ds fuel (pre n (k + 1)).toArray a' w) : wpAnyLast P .any ops Q S ds (fuel + 1) (pre n k).toArray a w :=
  take_ (pre n (k + 1)).toArray hi hN (take_of hT hc) hQ hy hS ha h
theorem pureN {n k : Nat} {N : Option Tmp} {oi : Oper} {v : Value} {fuel : Nat} {a : Act} {w : World} (hT : rtab .any ops = T) (hi : ops[k]? = some oi) (hN : oi.dst = N) (hc : anyT T (pre n k) (pre n (k + 1)) k = true)
    (hQ : ∀ c a w, Q (.panic c) (a.put oi.dst v) w → Q (.panic c) a w) (hy : Yields P ops oi v a) {a' : Act} (ha : a.put N v = a')
    (h : wpAnyLast P .any ops Q S ds fuel (pre n (k + 1)).toArray a' w) : wpAnyLast P .any ops Q S ds (fuel + 1) (pre n k).toArray a w :=
  pure_ (pre n (k + 1)).toArray hi hN (any_of hT hc) hQ hy ha h
end
noncomputable def tabN2 : Bool × List (List Nat × List Nat) := rtab .any (opsOf Try.f134 2)
theorem tabN2_eq : rtab .any (opsOf Try.f134 2) = tabN2 := rfl
set_option maxRecDepth 100000 in
set_option maxHeartbeats 60000000 in
/-- Name. -/
theorem name134 (w0 w : World) (g : Nat) (s : ByteArray) (i : Nat) (b : Bool) (hi : i ≤ s.size) (hs : s.size ≤ 1000000000) (hg : w0.heap.size ≤ g) (hB : Below w0.heap.size w0 w) (hS : SB w g s i b) :
    Calls Try.prog 134 #[.pointer (some ⟨g, 0, none⟩)] w (SPost w0 w g s (nameEnd s i) b (.string ⟨((s.data.toList.drop i).takeWhile nameC).toArray⟩)) := by
  have HS0 := Lib.hid hS
  have HB0 := Lib.hid hB
  have c1 := hS.c1
  clear hS hB
  go_enter Try.func134, Try.ntmps134
  go_wp2
  clear c1
  go_loopw [] (fun wr => ∃ (j : Nat), i ≤ j ∧ j ≤ s.size ∧ Hid ((s.data.toList.drop i).takeWhile nameC = (s.data.toList.drop i).take (j - i) ++ (s.data.toList.drop j).takeWhile nameC) ∧ Hid (SB wr g s j b) ∧ Hid (Below w0.heap.size w0 wr) ∧ Hid (KeepBut w wr g none))
    (fun wr => s.size - (intOf ((wr.cell? ⟨g, 1, none⟩).getD undef)).toNat)
  case atStart => exact ⟨i, Nat.le_refl _, hi, Lib.hid (by rw [Nat.sub_self]; rfl), HS0, HB0, Lib.hid (KeepBut.refl w g none)⟩
  case round =>
    obtain ⟨j, hij, hj, HT, HS, HB, HK⟩ := hrel
    have g0 := HS.out.c0
    have g1 := HS.out.c1
    by_cases hlt : j < s.size
    · have dl : decide (j < s.size) = true := decide_eq_true hlt
      have dlI : decide ((j : Int) < (s.size : Int)) = true := decide_eq_true (by omega)
      obtain ⟨c, hc⟩ : ∃ c, bN s j = c := ⟨_, rfl⟩
      have hx0 := bN_at s j c hc
      have HX := Lib.hid hc
      clear hc
      by_cases e95 : (c.toNat : Int) = 95
      · have b95 : ((c.toNat : Int) == 95) = true := beq_iff_eq.2 e95
        have HN2 := Lib.hid (show nameC c = true from by unfold nameC; exact decide_eq_true (by omega))
        go_wp2
        have f0 := fun W (hb : Below wr.heap.size wr W) => pw_cell_below hb g0
        have f1 := fun W (hb : Below wr.heap.size wr W) => pw_cell_below hb g1
        have hS0 : Below wr.heap.size wr wr.drew := below_drew (Below.refl _ _)
        refine start_ (n := 70) (S := fun w' => Below wr.heap.size wr w') (ds := []) (pre 70 0).toArray (by kernel_rfl) rfl rfl hS0 (fun hHeld => ?_)
        clear hS0
        generalize wr.drew = W at hHeld ⊢
        refine with_tab (T := tabN2) tabN2_eq (fun HT_ => ?_)
        iterate 70
          first
            | (refine pureN HT_.out (N := some _) (v := undef) (a' := ?_) rfl rfl (by kernel_rfl) (fun _ _ _ h => h) (Or.inr ⟨by rfl, by rfl⟩) ?_ ?_
               rotate_left
               · simp only [Act.put, List.setIfInBounds_toArray, List.set_cons_zero, List.set_cons_succ, i64_w, i32_w]
                 rfl)
            | (refine takeN HT_.out (N := some _) (v := ?_) (a' := ?_) rfl rfl (by kernel_rfl) (fun _ _ _ h => h) (Or.inl ⟨by rfl, ?_⟩) hHeld ?_ ?_
               rotate_left
               · intro w' hS'
                 have q0 := f0 w' hS'
                 have q1 := f1 w' hS'
                 go_simp
                 with_reducible rfl
               rotate_left
               · simp only [Act.put, List.setIfInBounds_toArray, List.set_cons_zero, List.set_cons_succ, i64_w, i32_w]
                 rfl)
        refine done_ (done_of HT_.out (by kernel_rfl)) ?_
        have HS1 := Lib.hid (HS.out.below hHeld)
        have HB1 := Lib.hid (below_step HB.out hHeld)
        have HK1 := Lib.hid (HK.out.trans (KeepBut.of_below hHeld g none) (.inl rfl))
        clear f0 f1
        have f1 := HS1.out.c1
        have f2 := HS1.out.z1
        have HS2 := Lib.hid (HS1.out.set1 (j + 1))
        have HB2 := Lib.hid (HB1.out.setCell (p := ⟨g, 1, none⟩) hg (.int .i64 ((j + 1 : Nat) : Int)))
        have HK2 := Lib.hid (HK1.out.set_ 1 (.int .i64 ((j + 1 : Nat) : Int)))
        go_wp2
        go_roundw
        case rel => exact ⟨j + 1, by omega, by omega, Lib.hid (span_next (by omega) hlt HX.out HN2.out HT.out), HS2, HB2, HK2⟩
        case measure => exact measS hlt HS.out.c1 HS2.out.c1
      · have b95 : ((c.toNat : Int) == 95) = false := beq_eq_false_iff_ne.2 e95
        by_cases e97 : (97 : Int) ≤ (c.toNat : Int)
        · have d97 : decide ((97 : Int) ≤ (c.toNat : Int)) = true := decide_eq_true e97
          have d97N : decide (97 ≤ c.toNat) = true := decide_eq_true (by omega)
          by_cases e122 : (c.toNat : Int) ≤ 122
          · have d122 : decide ((c.toNat : Int) ≤ 122) = true := decide_eq_true e122
            have d122N : decide (c.toNat ≤ 122) = true := decide_eq_true (by omega)
            have HN2 := Lib.hid (show nameC c = true from by unfold nameC; exact decide_eq_true (by omega))
            go_wp2
            have f0 := fun W (hb : Below wr.heap.size wr W) => pw_cell_below hb g0
            have f1 := fun W (hb : Below wr.heap.size wr W) => pw_cell_below hb g1
            have hS0 : Below wr.heap.size wr wr.drew := below_drew (Below.refl _ _)
            refine start_ (n := 70) (S := fun w' => Below wr.heap.size wr w') (ds := []) (pre 70 0).toArray (by kernel_rfl) rfl rfl hS0 (fun hHeld => ?_)
            clear hS0
            generalize wr.drew = W at hHeld ⊢
            refine with_tab (T := tabN2) tabN2_eq (fun HT_ => ?_)
            iterate 70
              first
                | (refine pureN HT_.out (N := some _) (v := undef) (a' := ?_) rfl rfl (by kernel_rfl) (fun _ _ _ h => h) (Or.inr ⟨by rfl, by rfl⟩) ?_ ?_
                   rotate_left
                   · simp only [Act.put, List.setIfInBounds_toArray, List.set_cons_zero, List.set_cons_succ, i64_w, i32_w]
                     rfl)
                | (refine takeN HT_.out (N := some _) (v := ?_) (a' := ?_) rfl rfl (by kernel_rfl) (fun _ _ _ h => h) (Or.inl ⟨by rfl, ?_⟩) hHeld ?_ ?_
                   rotate_left
                   · intro w' hS'
                     have q0 := f0 w' hS'
                     have q1 := f1 w' hS'
                     go_simp
                     with_reducible rfl
                   rotate_left
                   · simp only [Act.put, List.setIfInBounds_toArray, List.set_cons_zero, List.set_cons_succ, i64_w, i32_w]
                     rfl)
            refine done_ (done_of HT_.out (by kernel_rfl)) ?_
            have HS1 := Lib.hid (HS.out.below hHeld)
            have HB1 := Lib.hid (below_step HB.out hHeld)
            have HK1 := Lib.hid (HK.out.trans (KeepBut.of_below hHeld g none) (.inl rfl))
            clear f0 f1
            have f1 := HS1.out.c1
            have f2 := HS1.out.z1
            have HS2 := Lib.hid (HS1.out.set1 (j + 1))
            have HB2 := Lib.hid (HB1.out.setCell (p := ⟨g, 1, none⟩) hg (.int .i64 ((j + 1 : Nat) : Int)))
            have HK2 := Lib.hid (HK1.out.set_ 1 (.int .i64 ((j + 1 : Nat) : Int)))
            go_wp2
            go_roundw
            case rel => exact ⟨j + 1, by omega, by omega, Lib.hid (span_next (by omega) hlt HX.out HN2.out HT.out), HS2, HB2, HK2⟩
            case measure => exact measS hlt HS.out.c1 HS2.out.c1
          · have d122 : decide ((c.toNat : Int) ≤ 122) = false := decide_eq_false e122
            have d122N : decide (c.toNat ≤ 122) = false := decide_eq_false (by omega)
            have d48 : decide ((48 : Int) ≤ (c.toNat : Int)) = true := decide_eq_true (by omega)
            have d48N : decide (48 ≤ c.toNat) = true := decide_eq_true (by omega)
            have d57 : decide ((c.toNat : Int) ≤ 57) = false := decide_eq_false (by omega)
            have d57N : decide (c.toNat ≤ 57) = false := decide_eq_false (by omega)
            have HE := Lib.hid (show (s.data.toList.drop j).takeWhile nameC = [] from by rw [bN_drop s j hlt, HX.out, List.takeWhile_cons, if_neg (by unfold nameC; rw [decide_eq_false (by omega)]; decide)])
            go_wp2
            have f0 := fun W (hb : Below wr.heap.size wr W) => pw_cell_below hb g0
            have f1 := fun W (hb : Below wr.heap.size wr W) => pw_cell_below hb g1
            have hS0 : Below wr.heap.size wr wr.drew := below_drew (Below.refl _ _)
            refine start_ (n := 70) (S := fun w' => Below wr.heap.size wr w') (ds := []) (pre 70 0).toArray (by kernel_rfl) rfl rfl hS0 (fun hHeld => ?_)
            clear hS0
            generalize wr.drew = W at hHeld ⊢
            refine with_tab (T := tabN2) tabN2_eq (fun HT_ => ?_)
            iterate 70
              first
                | (refine pureN HT_.out (N := some _) (v := undef) (a' := ?_) rfl rfl (by kernel_rfl) (fun _ _ _ h => h) (Or.inr ⟨by rfl, by rfl⟩) ?_ ?_
                   rotate_left
                   · simp only [Act.put, List.setIfInBounds_toArray, List.set_cons_zero, List.set_cons_succ, i64_w, i32_w]
                     rfl)
                | (refine takeN HT_.out (N := some _) (v := ?_) (a' := ?_) rfl rfl (by kernel_rfl) (fun _ _ _ h => h) (Or.inl ⟨by rfl, ?_⟩) hHeld ?_ ?_
                   rotate_left
                   · intro w' hS'
                     have q0 := f0 w' hS'
                     have q1 := f1 w' hS'
                     go_simp
                     with_reducible rfl
                   rotate_left
                   · simp only [Act.put, List.setIfInBounds_toArray, List.set_cons_zero, List.set_cons_succ, i64_w, i32_w]
                     rfl)
            refine done_ (done_of HT_.out (by kernel_rfl)) ?_
            have HS1 := Lib.hid (HS.out.below hHeld)
            have HB1 := Lib.hid (below_step HB.out hHeld)
            have HK1 := Lib.hid (HK.out.trans (KeepBut.of_below hHeld g none) (.inl rfl))
            clear f0 f1
            have f0 := HS1.out.c0
            have f1 := HS1.out.c1
            have HS2 := HS1
            have HB2 := HB1
            have HK2 := HK1
            clear g0 g1 HS HB HK HS1 HB1 HK1 hHeld
            go_wp2
            go_quiet (fail)
            go_wp2
            go_ret
            exact name_post hij hj HE.out HT.out (pw_below_drewN HB2.out _) (keep_drewN HK2.out _) (HS2.out.drewN _)
        · have d97 : decide ((97 : Int) ≤ (c.toNat : Int)) = false := decide_eq_false e97
          have d97N : decide (97 ≤ c.toNat) = false := decide_eq_false (by omega)
          by_cases e48 : (48 : Int) ≤ (c.toNat : Int)
          · have d48 : decide ((48 : Int) ≤ (c.toNat : Int)) = true := decide_eq_true e48
            have d48N : decide (48 ≤ c.toNat) = true := decide_eq_true (by omega)
            by_cases e57 : (c.toNat : Int) ≤ 57
            · have d57 : decide ((c.toNat : Int) ≤ 57) = true := decide_eq_true e57
              have d57N : decide (c.toNat ≤ 57) = true := decide_eq_true (by omega)
              have HN2 := Lib.hid (show nameC c = true from by unfold nameC; exact decide_eq_true (by omega))
              go_wp2
              have f0 := fun W (hb : Below wr.heap.size wr W) => pw_cell_below hb g0
              have f1 := fun W (hb : Below wr.heap.size wr W) => pw_cell_below hb g1
              have hS0 : Below wr.heap.size wr wr.drew := below_drew (Below.refl _ _)
              refine start_ (n := 70) (S := fun w' => Below wr.heap.size wr w') (ds := []) (pre 70 0).toArray (by kernel_rfl) rfl rfl hS0 (fun hHeld => ?_)
              clear hS0
              generalize wr.drew = W at hHeld ⊢
              refine with_tab (T := tabN2) tabN2_eq (fun HT_ => ?_)
              iterate 70
                first
                  | (refine pureN HT_.out (N := some _) (v := undef) (a' := ?_) rfl rfl (by kernel_rfl) (fun _ _ _ h => h) (Or.inr ⟨by rfl, by rfl⟩) ?_ ?_
                     rotate_left
                     · simp only [Act.put, List.setIfInBounds_toArray, List.set_cons_zero, List.set_cons_succ, i64_w, i32_w]
                       rfl)
                  | (refine takeN HT_.out (N := some _) (v := ?_) (a' := ?_) rfl rfl (by kernel_rfl) (fun _ _ _ h => h) (Or.inl ⟨by rfl, ?_⟩) hHeld ?_ ?_
                     rotate_left
                     · intro w' hS'
                       have q0 := f0 w' hS'
                       have q1 := f1 w' hS'
                       go_simp
                       with_reducible rfl
                     rotate_left
                     · simp only [Act.put, List.setIfInBounds_toArray, List.set_cons_zero, List.set_cons_succ, i64_w, i32_w]
                       rfl)
              refine done_ (done_of HT_.out (by kernel_rfl)) ?_
              have HS1 := Lib.hid (HS.out.below hHeld)
              have HB1 := Lib.hid (below_step HB.out hHeld)
              have HK1 := Lib.hid (HK.out.trans (KeepBut.of_below hHeld g none) (.inl rfl))
              clear f0 f1
              have f1 := HS1.out.c1
              have f2 := HS1.out.z1
              have HS2 := Lib.hid (HS1.out.set1 (j + 1))
              have HB2 := Lib.hid (HB1.out.setCell (p := ⟨g, 1, none⟩) hg (.int .i64 ((j + 1 : Nat) : Int)))
              have HK2 := Lib.hid (HK1.out.set_ 1 (.int .i64 ((j + 1 : Nat) : Int)))
              go_wp2
              go_roundw
              case rel => exact ⟨j + 1, by omega, by omega, Lib.hid (span_next (by omega) hlt HX.out HN2.out HT.out), HS2, HB2, HK2⟩
              case measure => exact measS hlt HS.out.c1 HS2.out.c1
            · have d57 : decide ((c.toNat : Int) ≤ 57) = false := decide_eq_false e57
              have d57N : decide (c.toNat ≤ 57) = false := decide_eq_false (by omega)
              have HE := Lib.hid (show (s.data.toList.drop j).takeWhile nameC = [] from by rw [bN_drop s j hlt, HX.out, List.takeWhile_cons, if_neg (by unfold nameC; rw [decide_eq_false (by omega)]; decide)])
              go_wp2
              have f0 := fun W (hb : Below wr.heap.size wr W) => pw_cell_below hb g0
              have f1 := fun W (hb : Below wr.heap.size wr W) => pw_cell_below hb g1
              have hS0 : Below wr.heap.size wr wr.drew := below_drew (Below.refl _ _)
              refine start_ (n := 70) (S := fun w' => Below wr.heap.size wr w') (ds := []) (pre 70 0).toArray (by kernel_rfl) rfl rfl hS0 (fun hHeld => ?_)
              clear hS0
              generalize wr.drew = W at hHeld ⊢
              refine with_tab (T := tabN2) tabN2_eq (fun HT_ => ?_)
              iterate 70
                first
                  | (refine pureN HT_.out (N := some _) (v := undef) (a' := ?_) rfl rfl (by kernel_rfl) (fun _ _ _ h => h) (Or.inr ⟨by rfl, by rfl⟩) ?_ ?_
                     rotate_left
                     · simp only [Act.put, List.setIfInBounds_toArray, List.set_cons_zero, List.set_cons_succ, i64_w, i32_w]
                       rfl)
                  | (refine takeN HT_.out (N := some _) (v := ?_) (a' := ?_) rfl rfl (by kernel_rfl) (fun _ _ _ h => h) (Or.inl ⟨by rfl, ?_⟩) hHeld ?_ ?_
                     rotate_left
                     · intro w' hS'
                       have q0 := f0 w' hS'
                       have q1 := f1 w' hS'
                       go_simp
                       with_reducible rfl
                     rotate_left
                     · simp only [Act.put, List.setIfInBounds_toArray, List.set_cons_zero, List.set_cons_succ, i64_w, i32_w]
                       rfl)
              refine done_ (done_of HT_.out (by kernel_rfl)) ?_
              have HS1 := Lib.hid (HS.out.below hHeld)
              have HB1 := Lib.hid (below_step HB.out hHeld)
              have HK1 := Lib.hid (HK.out.trans (KeepBut.of_below hHeld g none) (.inl rfl))
              clear f0 f1
              have f0 := HS1.out.c0
              have f1 := HS1.out.c1
              have HS2 := HS1
              have HB2 := HB1
              have HK2 := HK1
              clear g0 g1 HS HB HK HS1 HB1 HK1 hHeld
              go_wp2
              go_quiet (fail)
              go_wp2
              go_ret
              exact name_post hij hj HE.out HT.out (pw_below_drewN HB2.out _) (keep_drewN HK2.out _) (HS2.out.drewN _)
          · have d48 : decide ((48 : Int) ≤ (c.toNat : Int)) = false := decide_eq_false e48
            have d48N : decide (48 ≤ c.toNat) = false := decide_eq_false (by omega)
            have HE := Lib.hid (show (s.data.toList.drop j).takeWhile nameC = [] from by rw [bN_drop s j hlt, HX.out, List.takeWhile_cons, if_neg (by unfold nameC; rw [decide_eq_false (by omega)]; decide)])
            go_wp2
            have f0 := fun W (hb : Below wr.heap.size wr W) => pw_cell_below hb g0
            have f1 := fun W (hb : Below wr.heap.size wr W) => pw_cell_below hb g1
            have hS0 : Below wr.heap.size wr wr.drew := below_drew (Below.refl _ _)
            refine start_ (n := 70) (S := fun w' => Below wr.heap.size wr w') (ds := []) (pre 70 0).toArray (by kernel_rfl) rfl rfl hS0 (fun hHeld => ?_)
            clear hS0
            generalize wr.drew = W at hHeld ⊢
            refine with_tab (T := tabN2) tabN2_eq (fun HT_ => ?_)
            iterate 70
              first
                | (refine pureN HT_.out (N := some _) (v := undef) (a' := ?_) rfl rfl (by kernel_rfl) (fun _ _ _ h => h) (Or.inr ⟨by rfl, by rfl⟩) ?_ ?_
                   rotate_left
                   · simp only [Act.put, List.setIfInBounds_toArray, List.set_cons_zero, List.set_cons_succ, i64_w, i32_w]
                     rfl)
                | (refine takeN HT_.out (N := some _) (v := ?_) (a' := ?_) rfl rfl (by kernel_rfl) (fun _ _ _ h => h) (Or.inl ⟨by rfl, ?_⟩) hHeld ?_ ?_
                   rotate_left
                   · intro w' hS'
                     have q0 := f0 w' hS'
                     have q1 := f1 w' hS'
                     go_simp
                     with_reducible rfl
                   rotate_left
                   · simp only [Act.put, List.setIfInBounds_toArray, List.set_cons_zero, List.set_cons_succ, i64_w, i32_w]
                     rfl)
            refine done_ (done_of HT_.out (by kernel_rfl)) ?_
            have HS1 := Lib.hid (HS.out.below hHeld)
            have HB1 := Lib.hid (below_step HB.out hHeld)
            have HK1 := Lib.hid (HK.out.trans (KeepBut.of_below hHeld g none) (.inl rfl))
            clear f0 f1
            have f0 := HS1.out.c0
            have f1 := HS1.out.c1
            have HS2 := HS1
            have HB2 := HB1
            have HK2 := HK1
            clear g0 g1 HS HB HK HS1 HB1 HK1 hHeld
            go_wp2
            go_quiet (fail)
            go_wp2
            go_ret
            exact name_post hij hj HE.out HT.out (pw_below_drewN HB2.out _) (keep_drewN HK2.out _) (HS2.out.drewN _)
    · have dl : decide (j < s.size) = false := decide_eq_false hlt
      have dlI : decide ((j : Int) < (s.size : Int)) = false := decide_eq_false (by omega)
      have HE := Lib.hid (show (s.data.toList.drop j).takeWhile nameC = [] from by rw [List.drop_of_length_le (by simp; omega)]; rfl)
      go_wp2
      have f0 := fun W (hb : Below wr.heap.size wr W) => pw_cell_below hb g0
      have f1 := fun W (hb : Below wr.heap.size wr W) => pw_cell_below hb g1
      have hS0 : Below wr.heap.size wr wr.drew := below_drew (Below.refl _ _)
      refine start_ (n := 70) (S := fun w' => Below wr.heap.size wr w') (ds := []) (pre 70 0).toArray (by kernel_rfl) rfl rfl hS0 (fun hHeld => ?_)
      clear hS0
      generalize wr.drew = W at hHeld ⊢
      refine with_tab (T := tabN2) tabN2_eq (fun HT_ => ?_)
      iterate 70
        first
          | (refine pureN HT_.out (N := some _) (v := undef) (a' := ?_) rfl rfl (by kernel_rfl) (fun _ _ _ h => h) (Or.inr ⟨by rfl, by rfl⟩) ?_ ?_
             rotate_left
             · simp only [Act.put, List.setIfInBounds_toArray, List.set_cons_zero, List.set_cons_succ, i64_w, i32_w]
               rfl)
          | (refine takeN HT_.out (N := some _) (v := ?_) (a' := ?_) rfl rfl (by kernel_rfl) (fun _ _ _ h => h) (Or.inl ⟨by rfl, ?_⟩) hHeld ?_ ?_
             rotate_left
             · intro w' hS'
               have q0 := f0 w' hS'
               have q1 := f1 w' hS'
               go_simp
               with_reducible rfl
             rotate_left
             · simp only [Act.put, List.setIfInBounds_toArray, List.set_cons_zero, List.set_cons_succ, i64_w, i32_w]
               rfl)
      refine done_ (done_of HT_.out (by kernel_rfl)) ?_
      have HS1 := Lib.hid (HS.out.below hHeld)
      have HB1 := Lib.hid (below_step HB.out hHeld)
      have HK1 := Lib.hid (HK.out.trans (KeepBut.of_below hHeld g none) (.inl rfl))
      clear f0 f1
      have f0 := HS1.out.c0
      have f1 := HS1.out.c1
      have HS2 := HS1
      have HB2 := HB1
      have HK2 := HK1
      clear g0 g1 HS HB HK HS1 HB1 HK1 hHeld
      go_wp2
      go_quiet (fail)
      go_wp2
      go_ret
      exact name_post hij hj HE.out HT.out (pw_below_drewN HB2.out _) (keep_drewN HK2.out _) (HS2.out.drewN _)
end
end Go.Proofs.Yteafilojjdfllaa
