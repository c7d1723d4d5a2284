/- The text of a matcher that may be is what the document says, and it is read back as that matcher. No condition. -/
import Derived.Deep.CutBlock
import Derived.Test.YteafilojjdfllaaZMatchTextsD
section
namespace Go.Proofs.Yteafilojjdfllaa
open Go Go.RowKit Go.Proofs.YteafilojjdfllaaW.PrintWords Go.Proofs.YteafilojjdfllaaW.PrintLast Go.Proofs.YteafilojjdfllaaW.PrintMore Go.Proofs.Yteafilojjdfllaa.PAll
set_option linter.unusedVariables false
set_option linter.unusedSimpArgs false
theorem quoted133b (w : World) (t : ByteArray) (ht : t.size ≤ 1000000) : Calls Try.prog 133 #[.string t] w fun e w' => e = .returned (.string (qB t)) ∧ Below w.heap.size w w' :=
 (quoted133 w t ht).mono fun e w' ⟨h, m, hm⟩ => ⟨h, hm ▸ pw_below_drewN (Below.refl _ _) m⟩
theorem commas_snoc2 : ∀ (l : List (List UInt8)) (x : List UInt8), commas (l ++ [x]) = (if l = [] then [] else commas l ++ [44]) ++ x
 | [], x => rfl
 | [y], x => by simp [commas]
 | y :: z :: l, x => by
  show y ++ 44 :: commas ((z :: l) ++ [x]) = _
  rw [commas_snoc2 (z :: l) x]
  simp [commas]
theorem commas_at {α : Type} (f : α → List UInt8) (xs : List α) (d : α) (j : Nat) (h : j < xs.length) : commas ((xs.take (j + 1)).map f) = (if j = 0 then [] else commas ((xs.take j).map f) ++ [44]) ++ f (xs.getD j d) := by
 rw [takeD xs d j h, List.map_append]
 show commas ((xs.take j).map f ++ [f (xs.getD j d)]) = _
 rw [commas_snoc2]
 by_cases hj : j = 0
 ·subst hj; simp
 ·have hne : (xs.take j).map f ≠ [] := by
   intro e
   have := congrArg List.length e
   rw [List.length_map, List.length_take] at this
   simp only [List.length_nil] at this
   omega
  rw [if_neg hj, if_neg hne]
theorem commas_take : ∀ (l : List (List UInt8)) (j : Nat), (commas (l.take j)).length ≤ (commas l).length
 | [], j => by simp
 | [x], 0 => by simp [commas]
 | [x], j + 1 => by simp
 | x :: y :: l, 0 => by simp [commas]
 | x :: y :: l, 1 => by
  show x.length ≤ (x ++ 44 :: commas (y :: l)).length
  simp
 | x :: y :: l, j + 2 => by
  show (x ++ 44 :: commas (y :: l.take j)).length ≤ (x ++ 44 :: commas (y :: l)).length
  have := commas_take (y :: l) (j + 1)
  simp only [List.take_succ_cons] at this
  simp only [List.length_append, List.length_cons]
  omega
/-- one more is laid behind the text -/
theorem text_more {α : Type} {f : α → List UInt8} {xs : List α} {d : α} {j : Nat} {s q : ByteArray} {pfx : List UInt8} (hj : j < xs.length) (hs : s.data.toList = pfx ++ commas ((xs.take j).map f)) (hq : q.data.toList = f (xs.getD j d)) (hl : (pfx ++ commas (xs.map f)).length ≤ 1000000000) :
  (j = 0 ∧ ∃ t : ByteArray, t.data.toList = pfx ++ commas ((xs.take (j + 1)).map f) ∧ Op.stringOp .add s q = pure (.string t)) ∨ (0 < j ∧ ∃ s1 t : ByteArray, t.data.toList = pfx ++ commas ((xs.take (j + 1)).map f) ∧ Op.stringOp .add s ⟨#[44]⟩ = pure (.string s1) ∧ Op.stringOp .add s1 q = pure (.string t)) := by
 have hlen : (pfx ++ commas ((xs.take (j + 1)).map f)).length ≤ 1000000000 := by
  have := commas_take (xs.map f) (j + 1)
  rw [← List.map_take] at this
  rw [List.length_append] at hl ⊢
  omega
 have hc := commas_at f xs d j hj
 by_cases h0 : j = 0
 ·left
  refine ⟨h0, ⟨(pfx ++ commas ((xs.take (j + 1)).map f)).toArray⟩, rfl, add_to ?_ hlen⟩
  rw [hs, hq]
  show _ = pfx ++ commas ((xs.take (j + 1)).map f)
  rw [hc, if_pos h0]
  subst h0
  simp [commas]
 ·right
  rw [if_neg h0] at hc
  refine ⟨by omega, ⟨(pfx ++ (commas ((xs.take j).map f) ++ [44])).toArray⟩, ⟨(pfx ++ commas ((xs.take (j + 1)).map f)).toArray⟩, rfl, add_to ?_ ?_, add_to ?_ hlen⟩
  ·rw [hs]; simp
  ·show (pfx ++ (commas ((xs.take j).map f) ++ [44])).length ≤ _
   rw [hc] at hlen
   simp only [List.length_append] at hlen ⊢
   omega
  ·rw [hq]
   show (pfx ++ (commas ((xs.take j).map f) ++ [44])) ++ _ = pfx ++ commas ((xs.take (j + 1)).map f)
   rw [hc]
   simp
set_option maxRecDepth 100000 in
set_option maxHeartbeats 16000000 in
theorem text93 : ∀ (N : Nat) (m : S25), nodesM m ≤ N → okM m = true → nodesM m ≤ 1000 → bytesM m ≤ 1000000 → ∀ (A3 : Option Addr) (c3 : Nat) (A4 : Option Addr) (c4 : Nat) (w : World), MC w m A3 c3 A4 c4 →
  Calls Try.prog 93 #[.agg #[.int .i64 m.f0, .string m.f1, .string m.f2, .slice A3 m.f3.length c3, .slice A4 m.f4.length c4]] w fun e w' => e = .returned (.string (tB m)) ∧ Below w.heap.size w w' := by
 intro N
 induction N with
 | zero => intro m h; rw [nodesM_mk] at h; omega
 | succ N ih =>
  intro m hN hok h1000 hbytes A3 c3 A4 c4 w hM
  have IH := Lib.hid ih
  clear ih
  have hlen := textM_len _ m (Nat.le_refl _) hok
  have hB0 : Below w.heap.size w (w.alloc (.cells #[.int .i64 m.f0, .string m.f1, .string m.f2, .slice A3 m.f3.length c3, .slice A4 m.f4.length c4] 25)) := below_alloc (Below.refl _ _) _
  have hX0 : BoxM (w.alloc (.cells #[.int .i64 m.f0, .string m.f1, .string m.f2, .slice A3 m.f3.length c3, .slice A4 m.f4.length c4] 25)) w.heap.size m.f0 m.f1 m.f2 (.slice A3 m.f3.length c3) (.slice A4 m.f4.length c4) := blk_new w _
  have hb := bytesM_mk m
  have hnd := nodesM_mk m
  rcases shape hok with rfl | ⟨op, n, v, ho, hn, rfl⟩ | ⟨n, vs, hn, rfl⟩ | ⟨op, ks, ho, hk, rfl⟩
  ·simp only at hX0 hB0 ⊢
   go_enter Try.func93, Try.ntmps93
   go_wp2
   go_ret
   exact ⟨rfl, hB0⟩
  ·simp only at hX0 hB0 hb ⊢
   have hv : v.size ≤ 1000000 := by omega
   have hT := text_n (n := n) (v := v) (vs := []) (show op = 1 ∨ op = 2 ∨ op = 3 ∨ op = 4 by omega)
   have hn2 : n.data.toList.length ≤ 1000000 := by rw [show n.data.toList.length = n.size by simp]; omega
   have hq := quoteT_len v
   rcases ho with rfl | rfl | rfl
   ·obtain ⟨s1, e1⟩ : ∃ s1 : ByteArray, s1.data.toList = n.data.toList ++ [61] := ⟨⟨(n.data.toList ++ [61]).toArray⟩, rfl⟩
    have a1 : Op.stringOp .add n ⟨#[61]⟩ = pure (.string s1) := add_to (by rw [e1]) (by rw [e1, List.length_append]; simp only [List.length_cons, List.length_nil]; omega)
    have eT : ∀ t, t = tB ⟨1, n, v, [], []⟩ → s1.data.toList ++ (qB v).data.toList = t.data.toList := fun t ht => by rw [ht, e1]; unfold tB; rw [hT]; simp [textN, qB]
    obtain ⟨t, et⟩ : ∃ t, t = tB ⟨1, n, v, [], []⟩ := ⟨_, rfl⟩
    have a2 : Op.stringOp .add s1 (qB v) = pure (.string t) := add_to (eT t et) (by rw [← eT t et, List.length_append, e1, List.length_append]; simp only [qB, List.length_cons, List.length_nil]; omega)
    rw [← et]
    have hXd := hX0.below (below_drew (Below.refl _ _))
    have hBd := below_drew hB0
    have f0 := hX0.c0
    clear hT hM hok hlen hN h1000 hbytes hb IH hnd eT e1 et hq hn2
    have f1 := hXd.c1
    have f2 := hXd.c2
    go_enter Try.func93, Try.ntmps93
    go_wp2_with fail
    go_region_held3 (fun w' => w'.cell? ⟨w.heap.size, 1, none⟩ = some (.string n) ∧ w'.cell? ⟨w.heap.size, 2, none⟩ = some (.string v) ∧ Below w.heap.size w w')
     (first | exact ⟨by assumption, by assumption, by assumption⟩)
     (first | (go_at_call 133; (with_reducible refine (quoted133b _ v hv).mono ?_); rintro e w1 ⟨rfl, hb1⟩; have hX1 := hXd.below hb1; have f1 := hX1.c1; have f2 := hX1.c2; have hB1 := below_step hBd hb1))
    rename_i hS
    have hBe := hS.2.2
    clear hS
    go_wp2_with fail
    go_ret
    exact ⟨rfl, hBe⟩
   ·obtain ⟨s1, e1⟩ : ∃ s1 : ByteArray, s1.data.toList = n.data.toList ++ [33, 61] := ⟨⟨(n.data.toList ++ [33, 61]).toArray⟩, rfl⟩
    have a1 : Op.stringOp .add n ⟨#[33, 61]⟩ = pure (.string s1) := add_to (by rw [e1]) (by rw [e1, List.length_append]; simp only [List.length_cons, List.length_nil]; omega)
    have eT : ∀ t, t = tB ⟨2, n, v, [], []⟩ → s1.data.toList ++ (qB v).data.toList = t.data.toList := fun t ht => by rw [ht, e1]; unfold tB; rw [hT]; simp [textN, qB]
    obtain ⟨t, et⟩ : ∃ t, t = tB ⟨2, n, v, [], []⟩ := ⟨_, rfl⟩
    have a2 : Op.stringOp .add s1 (qB v) = pure (.string t) := add_to (eT t et) (by rw [← eT t et, List.length_append, e1, List.length_append]; simp only [qB, List.length_cons, List.length_nil]; omega)
    rw [← et]
    have hXd := hX0.below (below_drew (Below.refl _ _))
    have hBd := below_drew hB0
    have f0 := hX0.c0
    clear hT hM hok hlen hN h1000 hbytes hb IH hnd eT e1 et hq hn2
    have f1 := hXd.c1
    have f2 := hXd.c2
    go_enter Try.func93, Try.ntmps93
    go_wp2_with fail
    go_region_held3 (fun w' => w'.cell? ⟨w.heap.size, 1, none⟩ = some (.string n) ∧ w'.cell? ⟨w.heap.size, 2, none⟩ = some (.string v) ∧ Below w.heap.size w w')
     (first | exact ⟨by assumption, by assumption, by assumption⟩)
     (first | (go_at_call 133; (with_reducible refine (quoted133b _ v hv).mono ?_); rintro e w1 ⟨rfl, hb1⟩; have hX1 := hXd.below hb1; have f1 := hX1.c1; have f2 := hX1.c2; have hB1 := below_step hBd hb1))
    rename_i hS
    have hBe := hS.2.2
    clear hS
    go_wp2_with fail
    go_ret
    exact ⟨rfl, hBe⟩
   ·obtain ⟨s1, e1⟩ : ∃ s1 : ByteArray, s1.data.toList = n.data.toList ++ [94, 61] := ⟨⟨(n.data.toList ++ [94, 61]).toArray⟩, rfl⟩
    have a1 : Op.stringOp .add n ⟨#[94, 61]⟩ = pure (.string s1) := add_to (by rw [e1]) (by rw [e1, List.length_append]; simp only [List.length_cons, List.length_nil]; omega)
    have eT : ∀ t, t = tB ⟨3, n, v, [], []⟩ → s1.data.toList ++ (qB v).data.toList = t.data.toList := fun t ht => by rw [ht, e1]; unfold tB; rw [hT]; simp [textN, qB]
    obtain ⟨t, et⟩ : ∃ t, t = tB ⟨3, n, v, [], []⟩ := ⟨_, rfl⟩
    have a2 : Op.stringOp .add s1 (qB v) = pure (.string t) := add_to (eT t et) (by rw [← eT t et, List.length_append, e1, List.length_append]; simp only [qB, List.length_cons, List.length_nil]; omega)
    rw [← et]
    have hXd := hX0.below (below_drew (Below.refl _ _))
    have hBd := below_drew hB0
    have f0 := hX0.c0
    clear hT hM hok hlen hN h1000 hbytes hb IH hnd eT e1 et hq hn2
    have f1 := hXd.c1
    have f2 := hXd.c2
    go_enter Try.func93, Try.ntmps93
    go_wp2_with fail
    go_region_held3 (fun w' => w'.cell? ⟨w.heap.size, 1, none⟩ = some (.string n) ∧ w'.cell? ⟨w.heap.size, 2, none⟩ = some (.string v) ∧ Below w.heap.size w w')
     (first | exact ⟨by assumption, by assumption, by assumption⟩)
     (first | (go_at_call 133; (with_reducible refine (quoted133b _ v hv).mono ?_); rintro e w1 ⟨rfl, hb1⟩; have hX1 := hXd.below hb1; have f1 := hX1.c1; have f2 := hX1.c2; have hB1 := below_step hBd hb1))
    rename_i hS
    have hBe := hS.2.2
    clear hS
    go_wp2_with fail
    go_ret
    exact ⟨rfl, hBe⟩
  ·simp only [List.length_nil] at hX0 hB0 hb hlen ⊢
   have h16 := ok_vals16 hok
   have hT := text_n (op := 4) (n := n) (v := ⟨#[]⟩) (vs := vs) (by omega)
   have HM := Lib.hid (fun j hj => hM.value j hj)
   simp only at HM
   have Hsz := Lib.hid (fun (x : ByteArray) (hx : x ∈ vs) => sizes_mem hx)
   have hsv : sizes vs ≤ 1000000 := by omega
   have hn2 : n.data.toList.length ≤ 1000000 := by rw [show n.data.toList.length = n.size by simp]; omega
   obtain ⟨t, et⟩ : ∃ t, t = tB ⟨4, n, ⟨#[]⟩, vs, []⟩ := ⟨_, rfl⟩
   have eT : t.data.toList = n.data.toList ++ [64, 40] ++ commas (vs.map quoteT) ++ [41] := by rw [et]; unfold tB; rw [hT]; simp [textN]
   have eL : t.data.toList.length ≤ 1000000000 := by rw [et]; unfold tB; simp only; omega
   obtain ⟨s1, e1⟩ : ∃ s1 : ByteArray, s1.data.toList = n.data.toList ++ [64, 40] := ⟨⟨(n.data.toList ++ [64, 40]).toArray⟩, rfl⟩
   have a1 : Op.stringOp .add n ⟨#[64, 40]⟩ = pure (.string s1) := add_to (by rw [e1]) (by rw [e1]; rw [eT, List.length_append, List.length_append] at eL; omega)
   have HL := Lib.hid (show (n.data.toList ++ [64, 40] ++ commas (vs.map quoteT)).length ≤ 1000000000 by rw [eT, List.length_append] at eL; omega)
   have HE := Lib.hid eT
   have HEL := Lib.hid eL
   have HE1 := Lib.hid e1
   rw [← et]
   obtain ⟨W0, e0⟩ : ∃ W0, w.alloc (.cells #[.int .i64 4, .string n, .string ⟨#[]⟩, .slice A3 vs.length c3, .slice A4 0 c4] 25) = W0 := ⟨_, rfl⟩
   rw [e0] at hX0 hB0
   have x0 := hX0.c0
   have x1 := hX0.c1
   have x3 := hX0.c3
   have E0 := Lib.hid e0
   clear hT hM hok hlen hN h1000 hbytes hb IH hnd e0 eT eL e1 et hn2
   go_enter Try.func93, Try.ntmps93
   go_upto_region 12 with fail
   rw [E0.out]
   go_wp2_with fail
   go_loopw [3, 4] (fun u3 u4 wr => ∃ (j : Nat) (x : ByteArray), u3 = .string x ∧ u4 = .int .i64 (j : Int) ∧ j ≤ vs.length ∧ Hid (x.data.toList = n.data.toList ++ [64, 40] ++ commas ((vs.take j).map quoteT)) ∧ Below W0.heap.size W0 wr)
    (fun _ u4 _ => vs.length - (intOf u4).toNat)
   case atStart => exact ⟨0, s1, rfl, rfl, Nat.zero_le _, Lib.hid (by rw [HE1.out]; simp [commas]), Below.refl _ _⟩
   case round =>
    obtain ⟨j, x, rfl, rfl, hj, HXE, hB⟩ := hrel
    have f3 := (hX0.below hB).c3
    by_cases hlt : j < vs.length
    ·obtain ⟨ad, rfl, hcell⟩ := HM.out j hlt
     have hcell := pw_cell_below (below_step hB0 hB) hcell
     have hxs := Hsz.out (vs.getD j ByteArray.empty) (by simp [List.getD_eq_getElem?_getD, hlt])
     have hmore := text_more (f := quoteT) (xs := vs) (d := ByteArray.empty) (q := qB (vs.getD j ByteArray.empty)) hlt HXE.out rfl HL.out
     obtain ⟨y, ey⟩ : ∃ y, vs.getD j ByteArray.empty = y := ⟨_, rfl⟩
     rw [ey] at hcell hxs hmore
     clear ey
     have hltI : (j : Int) < (vs.length : Int) := by omega
     have hys : y.size ≤ 1000000 := by omega
     rcases hmore with ⟨h0, t1, ht1, b1⟩ | ⟨h0, s2, t1, ht1, b1, b2⟩
     ·have h0I : ¬ (0 : Int) < (j : Int) := by omega
      have HT1 := Lib.hid ht1
      clear h0 ht1
      go_wp2_with (first | (go_at_call 133; (with_reducible refine (quoted133b _ y hys).mono ?_); rintro e w5 ⟨rfl, hB5⟩))
      go_roundw
      case rel => exact ⟨j + 1, t1, rfl, by go_num, by omega, HT1, below_step hB hB5⟩
      case measure => simp [intOf]; omega
     ·have h0I : (0 : Int) < (j : Int) := by omega
      have HT1 := Lib.hid ht1
      clear h0 ht1
      go_wp2_with (first | (go_at_call 133; (with_reducible refine (quoted133b _ y hys).mono ?_); rintro e w5 ⟨rfl, hB5⟩))
      go_roundw
      case rel => exact ⟨j + 1, t1, rfl, by go_num, by omega, HT1, below_step hB hB5⟩
      case measure => simp [intOf]; omega
    ·have hjv : j = vs.length := by omega
     have hltI : ¬ (j : Int) < (vs.length : Int) := by omega
     have a3 : Op.stringOp .add x ⟨#[41]⟩ = pure (.string t) := add_to (by rw [HXE.out, hjv, List.take_length, HE.out]) HEL.out
     clear hjv
     go_wp2_with fail
     go_ret
     exact ⟨rfl, below_step hB0 hB⟩
  ·rcases ho with rfl | rfl | rfl
   ·have hT := text_k (op := 5) (ks := ks) (by simp)
    simp only [List.length_nil] at hX0 hB0 hb hlen hnd ⊢
    have HM := Lib.hid (fun j hj => hM.kid j hj)
    simp only at HM
    have hln := lenL_nodes ks
    have Hkid := Lib.hid (fun (x : S25) (hx : x ∈ ks) => (⟨by have := nodes_lt ⟨5, ⟨#[]⟩, ⟨#[]⟩, [], ks⟩ x hx; omega, okL_mem hk hx, by have := nodes_lt ⟨5, ⟨#[]⟩, ⟨#[]⟩, [], ks⟩ x hx; omega, by have := bytesL_mem hx; omega⟩ : nodesM x ≤ N ∧ okM x = true ∧ nodesM x ≤ 1000 ∧ bytesM x ≤ 1000000))
    obtain ⟨t, et⟩ : ∃ t, t = tB ⟨5, ⟨#[]⟩, ⟨#[]⟩, [], ks⟩ := ⟨_, rfl⟩
    have eT : t.data.toList = [38, 40] ++ commas (ks.map textM) ++ [41] := by rw [et]; unfold tB; rw [hT]; simp
    have eL : t.data.toList.length ≤ 1000000000 := by rw [et]; unfold tB; simp only; omega
    have HL := Lib.hid (show ([38, 40] ++ commas (ks.map textM)).length ≤ 1000000000 by rw [eT, List.length_append] at eL; omega)
    have HE := Lib.hid eT
    have HEL := Lib.hid eL
    rw [← et]
    obtain ⟨W0, e0⟩ : ∃ W0, w.alloc (.cells #[.int .i64 5, .string ⟨#[]⟩, .string ⟨#[]⟩, .slice A3 0 c3, .slice A4 ks.length c4] 25) = W0 := ⟨_, rfl⟩
    rw [e0] at hX0 hB0
    have x0 := hX0.c0
    have x4 := hX0.c4
    have hk1000 : ks.length ≤ 1000 := by omega
    have E0 := Lib.hid e0
    clear hT hM hok hlen hN h1000 hbytes hb hnd e0 hln eT eL et
    go_enter Try.func93, Try.ntmps93
    go_upto_region 24 with fail
    rw [E0.out]
    go_wp2_with fail
    clear x0 x4
    go_loopw [5, 6] (fun u5 u6 wr => ∃ (j : Nat) (x : ByteArray), u5 = .string x ∧ u6 = .int .i64 (j : Int) ∧ j ≤ ks.length ∧ Hid (x.data.toList = [38, 40] ++ commas ((ks.take j).map textM)) ∧ Below W0.heap.size W0 wr)
     (fun _ u6 _ => ks.length - (intOf u6).toNat)
    case atStart => exact ⟨0, _, rfl, rfl, Nat.zero_le _, Lib.hid (by simp [commas]), Below.refl _ _⟩
    case round =>
     obtain ⟨j, x, rfl, rfl, hj, HXE, hB⟩ := hrel
     have f4 := (hX0.below hB).c4
     by_cases hlt : j < ks.length
     ·obtain ⟨ad, B3, e3, B4, e4, rfl, hMk, k0, k1, k2, k3, k4⟩ := HM.out j hlt
      have k0 := pw_cell_below (below_step hB0 hB) k0
      have k1 := pw_cell_below (below_step hB0 hB) k1
      have k2 := pw_cell_below (below_step hB0 hB) k2
      have k3 := pw_cell_below (below_step hB0 hB) k3
      have k4 := pw_cell_below (below_step hB0 hB) k4
      have hxs := Lib.hid (Hkid.out (ks.getD j z25) (by simp [List.getD_eq_getElem?_getD, hlt]))
      have hmore := text_more (f := textM) (xs := ks) (d := z25) (q := tB (ks.getD j z25)) hlt HXE.out rfl HL.out
      obtain ⟨y, ey⟩ : ∃ y, ks.getD j z25 = y := ⟨_, rfl⟩
      rw [ey] at hMk k0 k1 k2 k3 k4 hxs hmore
      clear ey
      have hltI : (j : Int) < (ks.length : Int) := by omega
      have HMK := Lib.hid (hMk.below (below_step hB0 hB))
      clear hMk
      rcases hmore with ⟨h0, t1, ht1, b1⟩ | ⟨h0, s2, t1, ht1, b1, b2⟩
      ·have h0I : ¬ (0 : Int) < (j : Int) := by omega
       have HT1 := Lib.hid ht1
       clear h0 ht1
       go_wp2_with (first | (go_at_call 93; (with_reducible refine (IH.out y hxs.out.1 hxs.out.2.1 hxs.out.2.2.1 hxs.out.2.2.2 B3 e3 B4 e4 _ HMK.out).mono ?_); rintro e w5 ⟨rfl, hB5⟩))
       go_roundw
       case rel => exact ⟨j + 1, t1, rfl, by go_num, by omega, HT1, below_step hB hB5⟩
       case measure => simp [intOf]; omega
      ·have h0I : (0 : Int) < (j : Int) := by omega
       have HT1 := Lib.hid ht1
       clear h0 ht1
       go_wp2_with (first | (go_at_call 93; (with_reducible refine (IH.out y hxs.out.1 hxs.out.2.1 hxs.out.2.2.1 hxs.out.2.2.2 B3 e3 B4 e4 _ HMK.out).mono ?_); rintro e w5 ⟨rfl, hB5⟩))
       go_roundw
       case rel => exact ⟨j + 1, t1, rfl, by go_num, by omega, HT1, below_step hB hB5⟩
       case measure => simp [intOf]; omega
     ·have hjv : j = ks.length := by omega
      have hltI : ¬ (j : Int) < (ks.length : Int) := by omega
      have a3 : Op.stringOp .add x ⟨#[41]⟩ = pure (.string t) := add_to (by rw [HXE.out, hjv, List.take_length, HE.out]) HEL.out
      clear hjv
      go_wp2_with fail
      go_ret
      exact ⟨rfl, below_step hB0 hB⟩
   ·have hT := text_k (op := 6) (ks := ks) (by simp)
    simp only [List.length_nil] at hX0 hB0 hb hlen hnd ⊢
    have HM := Lib.hid (fun j hj => hM.kid j hj)
    simp only at HM
    have hln := lenL_nodes ks
    have Hkid := Lib.hid (fun (x : S25) (hx : x ∈ ks) => (⟨by have := nodes_lt ⟨6, ⟨#[]⟩, ⟨#[]⟩, [], ks⟩ x hx; omega, okL_mem hk hx, by have := nodes_lt ⟨6, ⟨#[]⟩, ⟨#[]⟩, [], ks⟩ x hx; omega, by have := bytesL_mem hx; omega⟩ : nodesM x ≤ N ∧ okM x = true ∧ nodesM x ≤ 1000 ∧ bytesM x ≤ 1000000))
    obtain ⟨t, et⟩ : ∃ t, t = tB ⟨6, ⟨#[]⟩, ⟨#[]⟩, [], ks⟩ := ⟨_, rfl⟩
    have eT : t.data.toList = [124, 40] ++ commas (ks.map textM) ++ [41] := by rw [et]; unfold tB; rw [hT]; simp
    have eL : t.data.toList.length ≤ 1000000000 := by rw [et]; unfold tB; simp only; omega
    have HL := Lib.hid (show ([124, 40] ++ commas (ks.map textM)).length ≤ 1000000000 by rw [eT, List.length_append] at eL; omega)
    have HE := Lib.hid eT
    have HEL := Lib.hid eL
    rw [← et]
    obtain ⟨W0, e0⟩ : ∃ W0, w.alloc (.cells #[.int .i64 6, .string ⟨#[]⟩, .string ⟨#[]⟩, .slice A3 0 c3, .slice A4 ks.length c4] 25) = W0 := ⟨_, rfl⟩
    rw [e0] at hX0 hB0
    have x0 := hX0.c0
    have x4 := hX0.c4
    have hk1000 : ks.length ≤ 1000 := by omega
    have E0 := Lib.hid e0
    clear hT hM hok hlen hN h1000 hbytes hb hnd e0 hln eT eL et
    go_enter Try.func93, Try.ntmps93
    go_upto_region 24 with fail
    rw [E0.out]
    go_wp2_with fail
    clear x0 x4
    go_loopw [5, 6] (fun u5 u6 wr => ∃ (j : Nat) (x : ByteArray), u5 = .string x ∧ u6 = .int .i64 (j : Int) ∧ j ≤ ks.length ∧ Hid (x.data.toList = [124, 40] ++ commas ((ks.take j).map textM)) ∧ Below W0.heap.size W0 wr)
     (fun _ u6 _ => ks.length - (intOf u6).toNat)
    case atStart => exact ⟨0, _, rfl, rfl, Nat.zero_le _, Lib.hid (by simp [commas]), Below.refl _ _⟩
    case round =>
     obtain ⟨j, x, rfl, rfl, hj, HXE, hB⟩ := hrel
     have f4 := (hX0.below hB).c4
     by_cases hlt : j < ks.length
     ·obtain ⟨ad, B3, e3, B4, e4, rfl, hMk, k0, k1, k2, k3, k4⟩ := HM.out j hlt
      have k0 := pw_cell_below (below_step hB0 hB) k0
      have k1 := pw_cell_below (below_step hB0 hB) k1
      have k2 := pw_cell_below (below_step hB0 hB) k2
      have k3 := pw_cell_below (below_step hB0 hB) k3
      have k4 := pw_cell_below (below_step hB0 hB) k4
      have hxs := Lib.hid (Hkid.out (ks.getD j z25) (by simp [List.getD_eq_getElem?_getD, hlt]))
      have hmore := text_more (f := textM) (xs := ks) (d := z25) (q := tB (ks.getD j z25)) hlt HXE.out rfl HL.out
      obtain ⟨y, ey⟩ : ∃ y, ks.getD j z25 = y := ⟨_, rfl⟩
      rw [ey] at hMk k0 k1 k2 k3 k4 hxs hmore
      clear ey
      have hltI : (j : Int) < (ks.length : Int) := by omega
      have HMK := Lib.hid (hMk.below (below_step hB0 hB))
      clear hMk
      rcases hmore with ⟨h0, t1, ht1, b1⟩ | ⟨h0, s2, t1, ht1, b1, b2⟩
      ·have h0I : ¬ (0 : Int) < (j : Int) := by omega
       have HT1 := Lib.hid ht1
       clear h0 ht1
       go_wp2_with (first | (go_at_call 93; (with_reducible refine (IH.out y hxs.out.1 hxs.out.2.1 hxs.out.2.2.1 hxs.out.2.2.2 B3 e3 B4 e4 _ HMK.out).mono ?_); rintro e w5 ⟨rfl, hB5⟩))
       go_roundw
       case rel => exact ⟨j + 1, t1, rfl, by go_num, by omega, HT1, below_step hB hB5⟩
       case measure => simp [intOf]; omega
      ·have h0I : (0 : Int) < (j : Int) := by omega
       have HT1 := Lib.hid ht1
       clear h0 ht1
       go_wp2_with (first | (go_at_call 93; (with_reducible refine (IH.out y hxs.out.1 hxs.out.2.1 hxs.out.2.2.1 hxs.out.2.2.2 B3 e3 B4 e4 _ HMK.out).mono ?_); rintro e w5 ⟨rfl, hB5⟩))
       go_roundw
       case rel => exact ⟨j + 1, t1, rfl, by go_num, by omega, HT1, below_step hB hB5⟩
       case measure => simp [intOf]; omega
     ·have hjv : j = ks.length := by omega
      have hltI : ¬ (j : Int) < (ks.length : Int) := by omega
      have a3 : Op.stringOp .add x ⟨#[41]⟩ = pure (.string t) := add_to (by rw [HXE.out, hjv, List.take_length, HE.out]) HEL.out
      clear hjv
      go_wp2_with fail
      go_ret
      exact ⟨rfl, below_step hB0 hB⟩
   ·have hT := text_k (op := 7) (ks := ks) (by simp)
    simp only [List.length_nil] at hX0 hB0 hb hlen hnd ⊢
    have HM := Lib.hid (fun j hj => hM.kid j hj)
    simp only at HM
    have hln := lenL_nodes ks
    have Hkid := Lib.hid (fun (x : S25) (hx : x ∈ ks) => (⟨by have := nodes_lt ⟨7, ⟨#[]⟩, ⟨#[]⟩, [], ks⟩ x hx; omega, okL_mem hk hx, by have := nodes_lt ⟨7, ⟨#[]⟩, ⟨#[]⟩, [], ks⟩ x hx; omega, by have := bytesL_mem hx; omega⟩ : nodesM x ≤ N ∧ okM x = true ∧ nodesM x ≤ 1000 ∧ bytesM x ≤ 1000000))
    obtain ⟨t, et⟩ : ∃ t, t = tB ⟨7, ⟨#[]⟩, ⟨#[]⟩, [], ks⟩ := ⟨_, rfl⟩
    have eT : t.data.toList = [33, 40] ++ commas (ks.map textM) ++ [41] := by rw [et]; unfold tB; rw [hT]; simp
    have eL : t.data.toList.length ≤ 1000000000 := by rw [et]; unfold tB; simp only; omega
    have HL := Lib.hid (show ([33, 40] ++ commas (ks.map textM)).length ≤ 1000000000 by rw [eT, List.length_append] at eL; omega)
    have HE := Lib.hid eT
    have HEL := Lib.hid eL
    rw [← et]
    obtain ⟨W0, e0⟩ : ∃ W0, w.alloc (.cells #[.int .i64 7, .string ⟨#[]⟩, .string ⟨#[]⟩, .slice A3 0 c3, .slice A4 ks.length c4] 25) = W0 := ⟨_, rfl⟩
    rw [e0] at hX0 hB0
    have x0 := hX0.c0
    have x4 := hX0.c4
    have hk1000 : ks.length ≤ 1000 := by omega
    have E0 := Lib.hid e0
    clear hT hM hok hlen hN h1000 hbytes hb hnd e0 hln eT eL et
    go_enter Try.func93, Try.ntmps93
    go_upto_region 24 with fail
    rw [E0.out]
    go_wp2_with fail
    clear x0 x4
    go_loopw [5, 6] (fun u5 u6 wr => ∃ (j : Nat) (x : ByteArray), u5 = .string x ∧ u6 = .int .i64 (j : Int) ∧ j ≤ ks.length ∧ Hid (x.data.toList = [33, 40] ++ commas ((ks.take j).map textM)) ∧ Below W0.heap.size W0 wr)
     (fun _ u6 _ => ks.length - (intOf u6).toNat)
    case atStart => exact ⟨0, _, rfl, rfl, Nat.zero_le _, Lib.hid (by simp [commas]), Below.refl _ _⟩
    case round =>
     obtain ⟨j, x, rfl, rfl, hj, HXE, hB⟩ := hrel
     have f4 := (hX0.below hB).c4
     by_cases hlt : j < ks.length
     ·obtain ⟨ad, B3, e3, B4, e4, rfl, hMk, k0, k1, k2, k3, k4⟩ := HM.out j hlt
      have k0 := pw_cell_below (below_step hB0 hB) k0
      have k1 := pw_cell_below (below_step hB0 hB) k1
      have k2 := pw_cell_below (below_step hB0 hB) k2
      have k3 := pw_cell_below (below_step hB0 hB) k3
      have k4 := pw_cell_below (below_step hB0 hB) k4
      have hxs := Lib.hid (Hkid.out (ks.getD j z25) (by simp [List.getD_eq_getElem?_getD, hlt]))
      have hmore := text_more (f := textM) (xs := ks) (d := z25) (q := tB (ks.getD j z25)) hlt HXE.out rfl HL.out
      obtain ⟨y, ey⟩ : ∃ y, ks.getD j z25 = y := ⟨_, rfl⟩
      rw [ey] at hMk k0 k1 k2 k3 k4 hxs hmore
      clear ey
      have hltI : (j : Int) < (ks.length : Int) := by omega
      have HMK := Lib.hid (hMk.below (below_step hB0 hB))
      clear hMk
      rcases hmore with ⟨h0, t1, ht1, b1⟩ | ⟨h0, s2, t1, ht1, b1, b2⟩
      ·have h0I : ¬ (0 : Int) < (j : Int) := by omega
       have HT1 := Lib.hid ht1
       clear h0 ht1
       go_wp2_with (first | (go_at_call 93; (with_reducible refine (IH.out y hxs.out.1 hxs.out.2.1 hxs.out.2.2.1 hxs.out.2.2.2 B3 e3 B4 e4 _ HMK.out).mono ?_); rintro e w5 ⟨rfl, hB5⟩))
       go_roundw
       case rel => exact ⟨j + 1, t1, rfl, by go_num, by omega, HT1, below_step hB hB5⟩
       case measure => simp [intOf]; omega
      ·have h0I : (0 : Int) < (j : Int) := by omega
       have HT1 := Lib.hid ht1
       clear h0 ht1
       go_wp2_with (first | (go_at_call 93; (with_reducible refine (IH.out y hxs.out.1 hxs.out.2.1 hxs.out.2.2.1 hxs.out.2.2.2 B3 e3 B4 e4 _ HMK.out).mono ?_); rintro e w5 ⟨rfl, hB5⟩))
       go_roundw
       case rel => exact ⟨j + 1, t1, rfl, by go_num, by omega, HT1, below_step hB hB5⟩
       case measure => simp [intOf]; omega
     ·have hjv : j = ks.length := by omega
      have hltI : ¬ (j : Int) < (ks.length : Int) := by omega
      have a3 : Op.stringOp .add x ⟨#[41]⟩ = pure (.string t) := add_to (by rw [HXE.out, hjv, List.take_length, HE.out]) HEL.out
      clear hjv
      go_wp2_with fail
      go_ret
      exact ⟨rfl, below_step hB0 hB⟩
end Go.Proofs.Yteafilojjdfllaa
end
section
namespace Go.Proofs.Yteafilojjdfllaa
open Go Go.RowKit Go.Proofs.YteafilojjdfllaaW.PrintWords Go.Proofs.YteafilojjdfllaaW.PrintLast Go.Proofs.YteafilojjdfllaaW.PrintMore Go.Proofs.Yteafilojjdfllaa.PAll
set_option maxRecDepth 100000 in
set_option maxHeartbeats 8000000 in
theorem same90 : ∀ (N : Nat) (m : S25), nodesM m ≤ N → nodesM m ≤ 1000 → m.f3.length ≤ 1000 → wideM m → ∀ (A3 : Option Addr) (c3 : Nat) (A4 : Option Addr) (c4 : Nat) (B3 : Option Addr) (d3 : Nat) (B4 : Option Addr) (d4 : Nat) (w : World), MC w m A3 c3 A4 c4 → MC w m B3 d3 B4 d4 →
  Calls Try.prog 90 #[.agg #[.int .i64 m.f0, .string m.f1, .string m.f2, .slice A3 m.f3.length c3, .slice A4 m.f4.length c4], .agg #[.int .i64 m.f0, .string m.f1, .string m.f2, .slice B3 m.f3.length d3, .slice B4 m.f4.length d4]] w fun e w' => e = .returned (.bool true) ∧ Below w.heap.size w w' := by
 intro N
 induction N with
 | zero => intro m h; rw [nodesM_mk] at h; omega
 | succ N ih =>
  rintro ⟨op, t1, t2, vs, ks⟩ hN h1000 hv1000 hw
  have IH := Lib.hid ih
  clear ih
  intro A3 c3 A4 c4 B3 d3 B4 d4 w hM hM'
  obtain ⟨hw1, hw2⟩ := (wideM_mk _).1 hw
  simp only at hw1 hv1000 hM hM'
  have Hw2 := Lib.hid hw2
  have hks : ks.length ≤ 1000 := by have := len_nodes ks; rw [nodesM_mk] at h1000; simp only at h1000; omega
  obtain ⟨V0, eV0⟩ : ∃ V0, V0 = w.alloc (.cells #[.int .i64 op, .string t1, .string t2, .slice A3 vs.length c3, .slice A4 ks.length c4] 25) := ⟨_, rfl⟩
  obtain ⟨V, eV⟩ : ∃ V, V = V0.alloc (.cells #[.int .i64 op, .string t1, .string t2, .slice B3 vs.length d3, .slice B4 ks.length d4] 25) := ⟨_, rfl⟩
  have hs0 : V0.heap.size = w.heap.size + 1 := by rw [eV0]; simp
  have hB0 : Below w.heap.size w V := by rw [eV, eV0]; exact below_alloc (below_alloc (Below.refl _ _) _) _
  have hX : BoxM V w.heap.size op t1 t2 (.slice A3 vs.length c3) (.slice A4 ks.length c4) := by rw [eV]; exact blk_alloc (by rw [eV0]; exact blk_new w _) _
  have hY : BoxM V (w.heap.size + 1) op t1 t2 (.slice B3 vs.length d3) (.slice B4 ks.length d4) := by rw [eV, ← hs0]; exact blk_new V0 _
  have HM := Lib.hid hM
  have HM' := Lib.hid hM'
  clear hM hM' hw hw2
  have hq : (op == op) = true := beq_self_eq_true _
  have x0 := hX.c0
  have x1 := hX.c1
  have x2 := hX.c2
  have x3 := hX.c3
  have x4 := hX.c4
  have y0 := hY.c0
  have y1 := hY.c1
  have y2 := hY.c2
  have y3 := hY.c3
  have y4 := hY.c4
  go_enter Try.func90, Try.ntmps90
  go_wp2_with fail
  rw [← eV0, ← eV]
  clear eV eV0 hs0
  go_loopw [5] (fun u5 wr => ∃ (j : Nat), u5 = .int .i64 j ∧ j ≤ vs.length ∧ Below V.heap.size V wr)
   (fun u5 _ => vs.length - (intOf u5).toNat)
  case atStart => exact ⟨0, rfl, Nat.zero_le _, Below.refl _ _⟩
  case round =>
   obtain ⟨j, rfl, hj, hB⟩ := hrel
   clear x0 x1 x2 x3 x4 y0 y1 y2 y3 y4
   have x3 := (hX.below hB).c3
   have x4 := (hX.below hB).c4
   have y3 := (hY.below hB).c3
   have y4 := (hY.below hB).c4
   by_cases hlt : j < vs.length
   ·obtain ⟨ad, rfl, a0⟩ := Kd.at_string (Kd.C_below (Kd.C_below HM.out.2.1 hB0) hB) (j : Int) (by omega) (by show (j : Int) < (vs.length : Int); omega)
    obtain ⟨ad2, rfl, b0⟩ := Kd.at_string (Kd.C_below (Kd.C_below HM'.out.2.1 hB0) hB) (j : Int) (by omega) (by show (j : Int) < (vs.length : Int); omega)
    simp only [Int.toNat_natCast] at a0 b0
    go_wp2
    go_quiet (fail)
    go_wp2
    go_roundw
    case rel => exact ⟨j + 1, by go_num, by omega, by repeat (first | exact hB | apply pw_below_drewN | apply below_drew)⟩
    case measure => simp [intOf]; omega
   ·obtain rfl : j = vs.length := by omega
    rename World => wo
    go_wp2
    go_loopw [6] (fun u6 wr => ∃ (i : Nat), u6 = .int .i64 i ∧ i ≤ ks.length ∧ Below V.heap.size V wr)
     (fun u6 _ => ks.length - (intOf u6).toNat)
    case atStart => exact ⟨0, rfl, Nat.zero_le _, hB⟩
    case round =>
     obtain ⟨i, rfl, hi, hBi⟩ := hrel
     clear x3 x4 y3 y4
     have x4 := (hX.below hBi).c4
     have y4 := (hY.below hBi).c4
     by_cases hlt2 : i < ks.length
     ·obtain ⟨ad, F3, e3, F4, e4, rfl, hMk, k0, k1, k2, k3, k4⟩ := ((HM.out.below hB0).below hBi).kid i hlt2
      obtain ⟨ad2, G3, g3, G4, g4, rfl, hMq, q0, q1, q2, q3, q4⟩ := ((HM'.out.below hB0).below hBi).kid i hlt2
      simp only at hMk hMq k0 k1 k2 k3 k4 q0 q1 q2 q3 q4
      have hmem : ks.getD i z25 ∈ ks := by simp [List.getD_eq_getElem?_getD, hlt2]
      have hsmall := nodes_lt ⟨op, t1, t2, vs, ks⟩ _ hmem
      have Hwk := Lib.hid (wideL_at Hw2.out hlt2)
      obtain ⟨kid, ek⟩ : ∃ kid, ks.getD i z25 = kid := ⟨_, rfl⟩
      rw [ek] at hMk hMq k0 k1 k2 k3 k4 q0 q1 q2 q3 q4 hsmall Hwk
      clear ek hmem
      have HMk := Lib.hid (hMk.below (below_drew (Below.refl _ _)))
      have HMq := Lib.hid (hMq.below (below_drew (Below.refl _ _)))
      clear hMk hMq
      have hv1 : kid.f3.length ≤ 1000 := by have := ((wideM_mk _).1 Hwk.out).1; omega
      go_wp2
      go_region_held3 (fun w' => w'.cell? ⟨w.heap.size, 4, none⟩ = some (.slice (some ad) ks.length c4) ∧ w'.cell? ⟨w.heap.size + 1, 4, none⟩ = some (.slice (some ad2) ks.length d4) ∧ w'.cell? (ad.add (i * 5)) = some (.int .i64 kid.f0) ∧ w'.cell? ⟨(ad.add (i * 5)).block, (ad.add (i * 5)).off + 1, none⟩ = some (.string kid.f1) ∧ w'.cell? ⟨(ad.add (i * 5)).block, (ad.add (i * 5)).off + 2, none⟩ = some (.string kid.f2) ∧ w'.cell? ⟨(ad.add (i * 5)).block, (ad.add (i * 5)).off + 3, none⟩ = some (.slice F3 kid.f3.length e3) ∧ w'.cell? ⟨(ad.add (i * 5)).block, (ad.add (i * 5)).off + 4, none⟩ = some (.slice F4 kid.f4.length e4) ∧ w'.cell? (ad2.add (i * 5)) = some (.int .i64 kid.f0) ∧ w'.cell? ⟨(ad2.add (i * 5)).block, (ad2.add (i * 5)).off + 1, none⟩ = some (.string kid.f1) ∧ w'.cell? ⟨(ad2.add (i * 5)).block, (ad2.add (i * 5)).off + 2, none⟩ = some (.string kid.f2) ∧ w'.cell? ⟨(ad2.add (i * 5)).block, (ad2.add (i * 5)).off + 3, none⟩ = some (.slice G3 kid.f3.length g3) ∧ w'.cell? ⟨(ad2.add (i * 5)).block, (ad2.add (i * 5)).off + 4, none⟩ = some (.slice G4 kid.f4.length g4) ∧ Below V.heap.size V w')
       (first | exact ⟨x4, y4, k0, k1, k2, k3, k4, q0, q1, q2, q3, q4, below_drew hBi⟩ | exact ⟨pw_cell_below hb5 x4, pw_cell_below hb5 y4, pw_cell_below hb5 k0, pw_cell_below hb5 k1, pw_cell_below hb5 k2, pw_cell_below hb5 k3, pw_cell_below hb5 k4, pw_cell_below hb5 q0, pw_cell_below hb5 q1, pw_cell_below hb5 q2, pw_cell_below hb5 q3, pw_cell_below hb5 q4, below_step (below_drew hBi) hb5⟩)
       (first | (go_at_call 90; (with_reducible refine (IH.out kid (by omega) (by omega) hv1 Hwk.out F3 e3 F4 e4 G3 g3 G4 g4 _ HMk.out HMq.out).mono ?_); rintro e w5 ⟨rfl, hb5⟩))
      rename_i hS
      have hbel := hS.2.2.2.2.2.2.2.2.2.2.2.2
      clear hS
      go_wp2
      go_roundw
      case rel => exact ⟨i + 1, by go_num, by omega, hbel⟩
      case measure => simp [intOf]; omega
     ·obtain rfl : i = ks.length := by omega
      go_wp2
      go_ret
      exact ⟨rfl, below_step hB0 hBi⟩
end Go.Proofs.Yteafilojjdfllaa
end
section
namespace Go.Proofs.Yteafilojjdfllaa
open Go Go.RowKit Go.Proofs.YteafilojjdfllaaW.PrintWords Go.Proofs.YteafilojjdfllaaW.PrintLast Go.Proofs.YteafilojjdfllaaW.PrintMore Go.Proofs.Yteafilojjdfllaa.PAll
set_option linter.unusedVariables false
set_option linter.unusedSimpArgs false
theorem tB_size {m : S25} (h : chkB m = true) : (tB m).size ≤ 1000000 := by
 obtain ⟨h1, h2, h3, h4⟩ := chk_def.1 h
 have := textM_len _ m (Nat.le_refl _) h1
 have e : (tB m).size = (textM m).length := by show (textM m).toArray.size = _; simp
 omega
/-- Parse of a matcher's text -/
theorem parse92y (w : World) (m : S25) (h : chkB m = true) (t : ByteArray) (ht : tB m = t) : Calls Try.prog 92 #[.string t] w fun e w' => (∃ A3 c3 A4 c4, e = .returned (.tuple #[mV m A3 c3 A4 c4, .int .i64 0]) ∧ MC w' m A3 c3 A4 c4) ∧ Below w.heap.size w w' := by
 subst ht
 refine (parse92 w (tB m) (by have := tB_size h; omega)).mono ?_
 rintro e w' ⟨hb, hh⟩
 obtain ⟨p1, p2⟩ := parseM_text h
 rw [p1, p2] at hh
 rcases hh with ⟨h1, -⟩ | ⟨-, h2, -⟩ | ⟨m', A3, c3, A4, c4, -, h2, rfl, hMF⟩
 ·cases h1
 ·cases h2
 ·cases h2
  exact ⟨⟨A3, c3, A4, c4, rfl, hMF.now⟩, hb⟩
theorem rtext_of {m : S25} {A3 : Option Addr} {c3 : Nat} {A4 : Option Addr} {c4 : Nat} (w : World) (hc : chkB m = true) (hM : MC w m A3 c3 A4 c4) (t : ByteArray) (ht : tB m = t) :
  Calls Try.prog 93 #[.agg #[.int .i64 m.f0, .string m.f1, .string m.f2, .slice A3 m.f3.length c3, .slice A4 m.f4.length c4]] w fun e w' => e = .returned (.string t) ∧ Below w.heap.size w w' := by
 obtain ⟨h1, h2, h3, h4⟩ := chk_def.1 hc
 rw [← ht]
 exact text93 _ m (Nat.le_refl _) h1 (by omega) (by omega) A3 c3 A4 c4 w hM
theorem same_of {m : S25} {A3 : Option Addr} {c3 : Nat} {A4 : Option Addr} {c4 : Nat} {B3 : Option Addr} {d3 : Nat} {B4 : Option Addr} {d4 : Nat} (w : World) (ht : tinyP 0 m) (hM : MC w m A3 c3 A4 c4) (hN : MC w m B3 d3 B4 d4) :
  Calls Try.prog 90 #[.agg #[.int .i64 m.f0, .string m.f1, .string m.f2, .slice A3 m.f3.length c3, .slice A4 m.f4.length c4], .agg #[.int .i64 m.f0, .string m.f1, .string m.f2, .slice B3 m.f3.length d3, .slice B4 m.f4.length d4]] w fun e w' => e = .returned (.bool true) ∧ Below w.heap.size w w' := by
 obtain ⟨h1, h2, h3, h4⟩ := ht
 have := (wideM_mk m).1 h3
 exact same90 _ m (Nat.le_refl _) (by omega) (by omega) h3 A3 c3 A4 c4 B3 d3 B4 d4 w hM hN
set_option maxRecDepth 100000 in
set_option maxHeartbeats 16000000 in
theorem matchTexts_walk (w : World) (m : S25) (A3 : Option Addr) (c3 : Nat) (A4 : Option Addr) (c4 : Nat) (hM : MC w m A3 c3 A4 c4) :
  Calls Try.prog 28 #[.agg #[.int .i64 m.f0, .string m.f1, .string m.f2, .slice A3 m.f3.length c3, .slice A4 m.f4.length c4]] w fun e w' => e = .returned (.bool true) ∧ Below w.heap.size w w' := by
 have hK0 := KM.new w m (.slice A3 m.f3.length c3) (.slice A4 m.f4.length c4)
 go_enter Try.func28, Try.ntmps28
 go_wp2_with fail
 (with_reducible refine (m31 hK0 hM).mono ?_)
 rintro e w1 ⟨⟨v, rfl, htn⟩, hk, -, e0, e1, e2, e3, e4⟩
 clear hK0
 cases v with
 | false =>
  go_wp2_with fail
  (with_reducible refine (m52 hk).mono ?_)
  rintro e w9 ⟨rfl, hk, -⟩
  go_wp2_with fail
  go_ret
  exact ⟨rfl, hk.bel⟩
 | true =>
  have HT := Lib.hid (htn rfl)
  clear htn
  cases hc : chkB m with
  | false =>
   have HC := Lib.hid hc
   clear hc
   go_wp2_with fail
   (with_reducible refine (m36 HC.out hk HT.out hM).mono ?_)
   rintro e w2 ⟨rfl, hk, -, e0, e1, e2, e3, e4⟩
   go_wp2_with fail
   (with_reducible refine (m52 hk).mono ?_)
   rintro e w9 ⟨rfl, hk, -⟩
   go_wp2_with fail
   go_ret
   exact ⟨rfl, hk.bel⟩
  | true =>
   have HC := Lib.hid hc
   clear hc
   obtain ⟨t, et⟩ : ∃ t, tB m = t := ⟨_, rfl⟩
   have HE := Lib.hid et
   clear et
   go_wp2_with fail
   (with_reducible refine (m36 HC.out hk HT.out hM).mono ?_)
   rintro e w2 ⟨rfl, hk, -, e0, e1, e2, e3, e4⟩
   go_wp2_with fail
   (with_reducible refine (m54 hk HT.out hM).mono ?_)
   rintro e w3 ⟨⟨D3, d3, D4, d4, rfl, hMC⟩, hk, hb3, e0, e1, e2, e3, e4⟩
   have H3 := Text61 w3 m D3 d3 D4 d4 HC.out hMC
   rw [HE.out] at H3
   have H3 := Lib.hid H3
   go_wp2_with fail
   (with_reducible refine H3.out.mono ?_)
   rintro e w4 ⟨rfl, hb4⟩
   replace hk := hk.step hb4
   have H4 := Lib.hid (parse92y w4 m HC.out t HE.out)
   clear hMC e0 e1 e2 e3 e4 hb3 hb4 H3
   go_wp2_with fail
   (with_reducible refine H4.out.mono ?_)
   rintro e w5 ⟨⟨B3, b3, B4, b4, rfl, hMB⟩, hb5⟩
   replace hk := hk.step hb5
   obtain ⟨G, eG⟩ : ∃ G, w5.heap.size = G := ⟨_, rfl⟩
   obtain ⟨w6, e6⟩ : ∃ w6, w6 = w5.alloc (.cells #[.int .i64 m.f0, .string m.f1, .string m.f2, .slice B3 m.f3.length b3, .slice B4 m.f4.length b4] 25) := ⟨_, rfl⟩
   have hb6 : Below w5.heap.size w5 w6 := by rw [e6]; exact below_alloc (Below.refl _ _) _
   have hG6 : w6.heap[G]? = some (.cells #[.int .i64 m.f0, .string m.f1, .string m.f2, .slice B3 m.f3.length b3, .slice B4 m.f4.length b4] 25 (0, 0)) := by rw [e6, ← eG]; exact blk_new w5 _
   replace hk := hk.step hb6
   have HM6 := Lib.hid (hMB.below hb6)
   obtain ⟨e0, e1, e2, e3, e4⟩ := hk.cells
   have H6 := Lib.hid (rtext_of w6 HC.out (hM.below hk.bel) t HE.out)
   have HG6 := Lib.hid hG6
   have E6 := Lib.hid e6
   have EG := Lib.hid eG
   clear hb5 hb6 hG6 e6 hMB H4 eG
   go_upto_region 5 with fail
   rw [EG.out, ← E6.out]
   have hte : (t.toList == t.toList) = true := beq_self_eq_true _
   go_wp2_with fail
   (with_reducible refine H6.out.mono ?_)
   rintro e w7 ⟨rfl, hb7⟩
   replace hk := hk.step hb7
   obtain ⟨e0, e1, e2, e3, e4⟩ := hk.cells
   have hG7 := (hb7.block G (blk_lt HG6.out)).trans HG6.out
   have x0 := blk_cell hG7 0
   have x1 := blk_cell hG7 1
   have x2 := blk_cell hG7 2
   have x3 := blk_cell hG7 3
   have x4 := blk_cell hG7 4
   simp only [List.getElem?_toArray, List.getElem?_cons_zero, List.getElem?_cons_succ] at x0 x1 x2 x3 x4
   have H7 := Lib.hid (same_of w7 HT.out (HM6.out.below hb7) (hM.below hk.bel))
   clear hb7 hG7 H6
   go_wp2_with fail
   (with_reducible refine H7.out.mono ?_)
   rintro e w8 ⟨rfl, hb8⟩
   replace hk := hk.step hb8
   clear hb8 H7
   go_wp2_with fail
   (with_reducible refine (m52 hk).mono ?_)
   rintro e w9 ⟨rfl, hk, -⟩
   go_wp2_with fail
   go_ret
   exact ⟨rfl, hk.bel⟩
end Go.Proofs.Yteafilojjdfllaa
end
section
namespace Go.Proofs.Yteafilojjdfllaa.matchTexts
open Go.ChangeShapes Go.WideShapes Go.ChangeAt Go.RowKit Go.Proofs.YteafilojjdfllaaW.PrintWords Go.Proofs.Yteafilojjdfllaa.PAll
set_option linter.unusedVariables false
set_option maxRecDepth 100000 in
theorem lifted (os : Os) (started : os.Started) (H : Type) (enc : TypeId × Value → H) :
  ReturnsInHanded {} Try.checked os 28 .any (Rows.matchTextsSpec.pre6 enc Try.prog Try.f28 Rows.matchTextsRow.domain false) (Rows.matchTextsSpec.post enc Try.prog Try.f28 false true false false) := by
 refine returnsInHanded_of_change_sized (C := Try.checked) own started (by kernel_rfl) Try.func28
  (ChangeSpec.witness6 (enc := enc) (C := Try.checked) false ⟨#[], #[.agg #[.int .i64 0, .string ⟨#[]⟩, .string ⟨#[]⟩, .slice none 0 0, .slice none 0 0]], []⟩ 20 (by kernel_rfl) (by kernel_rfl) (by kernel_rfl) (by kernel_rfl)) ?_
 intro W base args ds gs before hval0 hW hcnd hsz0 _
 have hsz : (DataW.weightsEach Try.prog (Try.f28.params.toList ++ Rows.matchTextsSpec.plain.varTypes Try.prog) (ds ++ gs)).all (· ≤ reachBytes) = true := hsz0
 have hval : ∀ (j : Nat) t v, Try.f28.params[j]? = some t → args[j]? = some v → Value.okWide Try.prog W .any base t v := hval0
 have hW' := hW
 obtain ⟨p, q, hA0, hV, rfl, hfz, hnd⟩ := hW
 have hA : DataW.TrodAll enc Try.prog W 0 (fun _ => true) true Try.f28.params.toList args.toList ds p := hA0
 rw [Try.params28] at hA hval hsz
 have hA0' := hA0
 obtain ⟨v0, vs0, d0, ds0, p0, q0, hargs, rfl, rfl, h0, r0⟩ := trodAll_cons hA
 obtain ⟨rfl, rfl, rfl⟩ := trodAll_nil r0
 obtain rfl : args = #[v0] := by cases args; simp_all
 obtain ⟨rfl, rfl⟩ := trodVars_none hV
 obtain ⟨m0, A3_0, c3_0, A4_0, c4_0, rfl, hM0⟩ := open_m (hval 0 25 v0 rfl rfl) h0 (hw_of (j := 0) hsz rfl rfl)
 clear hA0 hval0
 refine (matchTexts_walk W m0 A3_0 c3_0 A4_0 c4_0 hM0).mono fun e W' ⟨he, bel⟩ => ?_
 subst he
 exact ⟨_, rfl, _, _, _, [], _, [], hW', trodAll_mk1 (shut_bool Try.underlying4 _), trodAll_below bel (by rw [Try.params28]; intro t ht; simp only [List.mem_cons, List.not_mem_nil, or_false] at ht; subst ht; exact ⟨by kernel_rfl, of_decide_eq_true (by kernel_rfl)⟩) hA0', rfl, bel.frame _, fun h => by cases h⟩
theorem closed : joinedFacts Try.prog 28 Try.f28 Rows.matchTextsSpec Rows.matchTextsRow = true := by
 unfold joinedFacts
 rw [pf_laid, pf_maps, pf_stops, pf_knobs, pf_plain, pf_heard, pf_enter, pf_lifts, pf_make]
 kernel_rfl
theorem inst : Try.f28.isInstance Try.prog Rows.matchTextsRow.origin Rows.matchTextsRow.targs := of_decide_eq_true (by kernel_rfl)
theorem wrap : Try.f28.isWrapper Try.prog Rows.matchTextsRow.wrapper Rows.matchTextsRow.mainSum := by
 unfold Func.isWrapper; first | (rw [if_pos (by decide +kernel)]; kernel_rfl) | (rw [if_neg (by decide +kernel)]; exact ⟨rfl, rfl⟩)
theorem over : Rows.matchTextsRow.holds Try.pinned (OpenSpec.ofChange Rows.matchTextsSpec) :=
 OpenClaim.holds_of_wide 28 Try.f28 rfl rfl rfl rfl rfl rfl rfl ⟨rfl, rfl, rfl, rfl, rfl⟩ rfl rfl rfl rfl rfl (by kernel_rfl) Try.func28 closed inst wrap
  (fun os started H enc _ => lifted os started H enc)
end Go.Proofs.Yteafilojjdfllaa.matchTexts
namespace Go.Proofs.Yteafilojjdfllaa
theorem matchTexts_holds : Rows.MatchTextsSaid := matchTexts.over
#print axioms matchTexts_holds
end Go.Proofs.Yteafilojjdfllaa
end
