/- A matcher as bytes is what the document says, and is read back; any bytes are read at any place as the document reads them. No condition. -/
import Derived.Shelf.Strings.OnBuilder
import Derived.Shelf.Small.Strs
import Derived.Shelf.Strings.Search1
import Derived.Test.YteafilojjdfllaaProg
import Derived.Lib.LazyBuf
import Derived.Lib.Join
import Derived.Test.YteafilojjdfllaaZMatchBytesE
section
namespace Go.Proofs
open Go.Shelf
def Try.lays156_ren : Go.Shelf.Ren := ⟨fun | 156 => 126 | 165 => 165 | 166 => 166 | 169 => 167 | 240 => 183 | 241 => 184 | 276 => 191 | 277 => 192 | n => n, fun | 31 => 22 | 9 => 9 | 3 => 3 | 4 => 4 | 0 => 0 | 20 => 20 | 72 => 188 | 76 => 192 | 70 => 186 | 37 => 85 | 75 => 191 | 127 => 204 | 164 => 205 | 5 => 5 | 80 => 160 | n => n, fun | n => n⟩
theorem Try.lays156 : Go.Proofs.Lays.n156 Try.prog Try.lays156_ren := {
 mixed := by kernel_rfl
 f156 := Try.func126.trans (congrArg some (by kernel_rfl))
 f165 := Try.func165.trans (congrArg some (by kernel_rfl))
 f166 := Try.func166.trans (congrArg some (by kernel_rfl))
 f169 := Try.func167.trans (congrArg some (by kernel_rfl))
 f240 := Try.func183.trans (congrArg some (by kernel_rfl))
 f241 := Try.func184.trans (congrArg some (by kernel_rfl))
 f276 := Try.func191.trans (congrArg some (by kernel_rfl))
 f277 := Try.func192.trans (congrArg some (by kernel_rfl))
 t0 := Try.underlying0
 a0 := Try.isAgg0
 z0 := Try.sizeOf0
 v0 := Try.zeroValue0
 t3 := Try.underlying3
 a3 := Try.isAgg3
 z3 := Try.sizeOf3
 v3 := Try.zeroValue3
 t4 := Try.underlying4
 a4 := Try.isAgg4
 z4 := Try.sizeOf4
 v4 := Try.zeroValue4
 t9 := Try.underlying9
 a9 := Try.isAgg9
 z9 := Try.sizeOf9
 v9 := Try.zeroValue9
 t20 := Try.underlying20
 a20 := Try.isAgg20
 z20 := Try.sizeOf20
 v20 := Try.zeroValue20
 t31 := Try.underlying22
 a31 := Try.isAgg22
 z31 := Try.sizeOf22
 v31 := Try.zeroValue22
 t37 := Try.underlying85
 a37 := Try.isAgg85
 z37 := Try.sizeOf85
 v37 := Try.zeroValue85
 t70 := Try.underlying186
 a70 := Try.isAgg186
 z70 := Try.sizeOf186
 v70 := Try.zeroValue186
 t72 := Try.underlying188
 a72 := Try.isAgg188
 z72 := Try.sizeOf188
 v72 := Try.zeroValue188
 t75 := Try.underlying191
 a75 := Try.isAgg191
 z75 := Try.sizeOf191
 v75 := Try.zeroValue191
 t76 := Try.underlying192
 a76 := Try.isAgg192
 z76 := Try.sizeOf192
 v76 := Try.zeroValue192
 t127 := Try.underlying204
 a127 := Try.isAgg204
 z127 := Try.sizeOf204
 v127 := Try.zeroValue204
 t164 := Try.underlying205
 a164 := Try.isAgg205
 z164 := Try.sizeOf205
 v164 := Try.zeroValue205 }
theorem Try.Builder_Extra_156 : Builder.Extra Try.prog Try.lays156_ren := {
 sizeBuilder := by kernel_rfl
 liesBuilder := by kernel_rfl
 t5 := Try.underlying5
 a5 := Try.isAgg5
 z5 := Try.sizeOf5
 v5 := Try.zeroValue5
 infoByte := by kernel_rfl
 cellsByte := by kernel_rfl
 sizeByte := by kernel_rfl
 neB5 := by decide }
open Go.RowKit in
/-- No element: the empty string; the world is as it was. (Whatever the slice's address and capacity: a nil slice too.) (LAID: no walk: one application.) -/
theorem Try.strings_Join_none (a : Option Addr) (c : Nat) (sep : ByteArray) (w : World) :
  Calls Try.prog 126 #[.slice a 0 c, .string sep] w fun e w' => e = .returned (.string ⟨#[]⟩) ∧ w' = w := Any.strings_Join_none Try.lays156 Try.Builder_Extra_156 a c sep w
open Go.RowKit in
/-- strings.Join: "Join concatenates the elements of its first argument to create a single string. The separator string sep is placed between elements in the resulting string.": HOWEVER MANY ELEMENTS. Below the heap's end the world is as it was. (LAID: no walk: one application.) -/
theorem Try.strings_Join (bk o c : Nat) (xs : List ByteArray) (sep : ByteArray) (w : World) (hcells : ∀ (j : Nat) x, xs[j]? = some x → w.cell? ⟨bk, o + j, none⟩ = some (.string x)) (hbk : bk < w.heap.size) (hN : xs.length ≤ 140737488355328) (hcap : xs.length ≤ c) (hlen : (Lib.join (xs.map (·.data.toList)) sep.data.toList).length ≤ 140737488355328) :
  Calls Try.prog 126 #[.slice (some ⟨bk, o, none⟩) xs.length c, .string sep] w fun e w' => e = .returned (.string ⟨(Lib.join (xs.map (·.data.toList)) sep.data.toList).toArray⟩) ∧ Below w.heap.size w w' := Any.strings_Join Try.lays156 Try.Builder_Extra_156 bk o c xs sep w hcells hbk hN hcap hlen
end Go.Proofs
end
section
namespace Go.Proofs.Yteafilojjdfllaa
open Go Go.RowKit Go.Proofs.YteafilojjdfllaaW.PrintWords Go.Proofs.YteafilojjdfllaaW.PrintLast Go.Proofs.YteafilojjdfllaaW.PrintMore Go.Proofs.Yteafilojjdfllaa.PAll
def ints (l : List UInt8) : List Int := l.map fun b => (b.toNat : Int)
theorem ints_app (a b : List UInt8) : ints (a ++ b) = ints a ++ ints b := by simp [ints]
theorem and15 : ∀ n : Fin 256, Go.bits .and .u8 (n.val : Int) 15 = ((n.val % 16 : Nat) : Int) := by decide +kernel
theorem digit_at : ∀ n : Fin 16, bt (⟨#[48, 49, 50, 51, 52, 53, 54, 55, 56, 57, 97, 98, 99, 100, 101, 102]⟩ : ByteArray) (n.val : Int) = ((hexD n.val).toNat : Int) := by decide +kernel
theorem quoted_l0 (t : ByteArray) (ht : t.size ≤ 1000000) : ∀ (d i k : Nat) (x : List Int), i ≤ t.size → t.size ≤ i + d → 2 * d < k → x.length + 4 * d ≤ 100000000 →
  label_Quoted.l0 k t x (t.size : Int) (i : Int) = some (strOfNums (x ++ ints ((t.data.toList.drop i).flatMap encB) ++ [34]))
 | d, i, 0, _, _, _, h, _ => by omega
 | d, i, k + 1, x, hi, hd, hk, hx => by
  simp only [label_Quoted.l0]
  by_cases hlt : i < t.size
  ·obtain ⟨d, rfl⟩ : ∃ q, d = q + 1 := ⟨d - 1, by omega⟩
   obtain ⟨k, rfl⟩ : ∃ q, k = q + 1 := ⟨k - 1, by omega⟩
   have ih := fun x' (hx' : x'.length + 4 * d ≤ 100000000) => quoted_l0 t ht d (i + 1) k x' (by omega) (by omega) (by omega) hx'
   rw [if_pos (by omega), if_pos (by omega), if_pos (by omega), bt_nat t i hlt, bdrop t i hlt]
   generalize t.data.toList.getD i 0 = c
   have hc := c.toNat_lt
   have h92 : c = 92 ↔ (c.toNat : Int) = 92 := ⟨fun h => by rw [h]; rfl, fun h => UInt8.toNat_inj.1 (by have : (92 : UInt8).toNat = 92 := rfl; omega)⟩
   have h34 : c = 34 ↔ (c.toNat : Int) = 34 := ⟨fun h => by rw [h]; rfl, fun h => UInt8.toNat_inj.1 (by have : (34 : UInt8).toNat = 34 := rfl; omega)⟩
   rw [List.flatMap_cons, ints_app]
   have two : ∀ y : List Int, y.length ≤ 4 → ints (encB c) = y → (some y : Option (List Int)).bind (fun y2 => if x.length + y2.length < 140737488355328 then label_Quoted.l0 k t (x ++ y2) (t.size : Int) (wrap64 ((i : Int) + 1)) else none) = some (strOfNums (x ++ (ints (encB c) ++ ints ((t.data.toList.drop (i + 1)).flatMap encB)) ++ [34])) := by
    intro y hy e
    rw [Option.bind_some, if_pos (by omega), w64s i (by omega), ih (x ++ y) (by rw [List.length_append]; omega), e, List.append_assoc x y]
   have hex : 32 > (c.toNat : Int) ∨ (c.toNat : Int) ≥ 127 → ¬ c = 34 ∧ ¬ c = 92 → (if 0 ≤ ((c.toNat : Int) / 16) then (if ((c.toNat : Int) / 16) < 16 then (if 0 ≤ (Go.bits .and .u8 (c.toNat : Int) 15) then (if (Go.bits .and .u8 (c.toNat : Int) 15) < 16 then ((some (([92, 120, bt (⟨#[48, 49, 50, 51, 52, 53, 54, 55, 56, 57, 97, 98, 99, 100, 101, 102]⟩ : ByteArray) ((c.toNat : Int) / 16), bt (⟨#[48, 49, 50, 51, 52, 53, 54, 55, 56, 57, 97, 98, 99, 100, 101, 102]⟩ : ByteArray) (Go.bits .and .u8 (c.toNat : Int) 15)] : List Int) : List Int)).bind fun y2 => (if x.length + y2.length < 140737488355328 then (label_Quoted.l0 k t (x ++ y2) (t.size : Int) (wrap64 ((i : Int) + 1))) else (none))) else (none)) else (none)) else (none)) else (none)) = some (strOfNums (x ++ (ints (encB c) ++ ints ((t.data.toList.drop (i + 1)).flatMap encB)) ++ [34])) := by
    intro h1 h2
    have ha := and15 ⟨c.toNat, hc⟩
    have hd1 := digit_at ⟨c.toNat / 16, by omega⟩
    have hd2 := digit_at ⟨c.toNat % 16, by omega⟩
    simp only at ha hd1 hd2
    rw [ha, if_pos (by omega), if_pos (by omega), if_pos (by omega), if_pos (by omega)]
    rw [show (c.toNat : Int) / 16 = ((c.toNat / 16 : Nat) : Int) by omega, hd1, hd2]
    refine two _ (by simp) ?_
    unfold encB
    rw [if_neg (by rintro (h | h); exact h2.1 h; exact h2.2 h), if_pos (by omega)]
    rfl
   by_cases e34 : (c.toNat : Int) = 34
   ·rw [if_pos e34]
    simp only [label_Quoted.j1, if_true]
    exact two _ (by simp) (by unfold encB; rw [if_pos (Or.inl (h34.2 e34))]; rfl)
   ·rw [if_neg e34]
    by_cases e92 : (c.toNat : Int) = 92
    ·simp only [label_Quoted.j1, e92, beq_self_eq_true, if_true]
     exact two _ (by simp) (by unfold encB; rw [if_pos (Or.inr (h92.2 e92))]; simp [ints, e92])
    ·have hb : ((c.toNat : Int) == 92) = false := by rw [beq_eq_false_iff_ne]; exact e92
     simp only [label_Quoted.j1, hb]
     rw [if_neg (by decide)]
     have hno : ¬ c = 34 ∧ ¬ c = 92 := ⟨fun h => e34 (h34.1 h), fun h => e92 (h92.1 h)⟩
     by_cases e1 : (c.toNat : Int) < 32
     ·rw [if_pos e1]
      exact hex (Or.inl (by omega)) hno
     ·rw [if_neg e1]
      by_cases e2 : (c.toNat : Int) ≥ 127
      ·rw [if_pos e2]
       exact hex (Or.inr e2) hno
      ·rw [if_neg e2, if_pos (by omega), w64s i (by omega), ih (x ++ [(c.toNat : Int)]) (by rw [List.length_append, List.length_singleton]; omega)]
       have : encB c = [c] := by
        unfold encB
        rw [if_neg (by rintro (h | h); exact hno.1 h; exact hno.2 h), if_neg (by omega)]
       rw [this]
       simp [ints]
  ·rw [if_neg (by omega), if_pos (by omega), List.drop_of_length_le (by simp; omega)]
   simp [ints]
theorem label_Quoted.val (t : ByteArray) (ht : t.size ≤ 1000000) (k : Nat) (hk : 2 * t.size < k) : label_Quoted.f k t = some ⟨(quoteT t).toArray⟩ := by
 have h := quoted_l0 t ht t.size 0 k [34] (by omega) (by omega) hk (by simp; omega)
 rw [label_Quoted.f]
 rw [show ((0 : Nat) : Int) = 0 from rfl, List.drop_zero] at h
 rw [h, ← Lib.Lz.strOfNums_map]
 simp [quoteT, quoteL, ints]
/-- a text between quotes -/
def qB (v : ByteArray) : ByteArray := ⟨(quoteT v).toArray⟩
theorem quoted125 (w : World) (t : ByteArray) (ht : t.size ≤ 1000000) : Calls Try.prog 125 #[.string t] w fun e w' => e = .returned (.string (qB t)) ∧ Below w.heap.size w w' :=
 label_Quoted.calls (2 * t.size + 1) t _ w (label_Quoted.val t ht _ (Nat.lt_succ_self _))
theorem infoSt : (Try.prog.info? 9).map (fun i => (i.zero, i.size, i.bytes)) = some (some (.string ByteArray.empty), 1, 16) := by kernel_rfl
/-- strings.Join at a comma, over a list of the call's own -/
theorem join126 (w : World) (base : Nat) (v : Value) (xs : List ByteArray) (ho : w.ownsRow base 9 1 v xs.length (encs Value.string xs)) (hn : xs.length ≤ 1000000) (hl : (commas (xs.map (·.data.toList))).length ≤ 140737488355328) :
  Calls Try.prog 126 #[v, .string ⟨#[44]⟩] w fun e w' => e = .returned (.string ⟨(commas (xs.map (·.data.toList))).toArray⟩) ∧ Below w.heap.size w w' := by
 cases xs with
 | nil =>
  obtain ⟨A, c, rfl⟩ := own_slice ho
  exact (Try.strings_Join_none A c ⟨#[44]⟩ w).mono fun e w' ⟨he, hw⟩ => ⟨he, by rw [hw]; exact Below.refl _ _⟩
 | cons x xs =>
  have hlt := own_lt ho
  have hle := own_slice ho
  rcases ho.2 with ⟨_, h0⟩ | ⟨g, cap, cur, rfl, hb, hg, hcap, _⟩
  ·simp at h0
  ·have h := Try.strings_Join g 0 cap (x :: xs) ⟨#[44]⟩ w (fun j u hu => by
    have := ho.cells (g := g) rfl j (.string u) (by rw [encs_get (d := ByteArray.empty) (x :: xs) j (List.getElem?_eq_some_iff.1 hu).1]; simp [List.getD_eq_getElem?_getD, hu])
    rw [add_plain] at this
    rwa [Nat.zero_add]) (hlt g (by simp [Value.ownBlock])) (by omega) hcap (by rw [show (⟨#[44]⟩ : ByteArray).data.toList = [44] from rfl, commas_join]; exact hl)
   rw [show (⟨#[44]⟩ : ByteArray).data.toList = [44] from rfl, commas_join] at h
   exact h
theorem ba_ext {a b : ByteArray} (h : a.data.toList = b.data.toList) : a = b := by
 cases a; cases b
 simp only at h
 rw [Array.toList_inj.1 h]
theorem takeD {α : Type} (xs : List α) (z : α) (j : Nat) (h : j < xs.length) : xs.take (j + 1) = xs.take j ++ [xs.getD j z] := by
 rw [List.take_succ_eq_append_getElem h]; simp [List.getD_eq_getElem?_getD, h]
theorem qB_map (vs : List ByteArray) : (vs.map qB).map (·.data.toList) = vs.map quoteT := by simp [qB, Function.comp_def]
theorem add_to {a b c : ByteArray} (h : a.data.toList ++ b.data.toList = c.data.toList) (hs : c.data.toList.length ≤ 1000000000) : Op.stringOp .add a b = pure (.string c) := by
 have e : c = a ++ b := ba_ext (by rw [← h]; simp [ByteArray.data_append])
 have e1 : a.data.toList.length = a.size := by simp
 have e2 : b.data.toList.length = b.size := by simp
 have hl : a.size + b.size ≤ 1000000000 := by rw [← h, List.length_append] at hs; omega
 unfold Op.stringOp
 simp only
 rw [if_neg (by rw [show IntKind.i64.max = 9223372036854775807 from rfl]; omega), e]
end Go.Proofs.Yteafilojjdfllaa
end
section
namespace Go.Proofs.Yteafilojjdfllaa
open Go Go.RowKit Go.Proofs.YteafilojjdfllaaW.PrintWords Go.Proofs.Yteafilojjdfllaa.PAll
end Go.Proofs.Yteafilojjdfllaa
end
section
namespace Go.Proofs.Yteafilojjdfllaa
open Go Go.RowKit Go.Proofs.YteafilojjdfllaaW.PrintWords Go.Proofs.YteafilojjdfllaaW.PrintLast Go.Proofs.YteafilojjdfllaaW.PrintMore Go.Proofs.Yteafilojjdfllaa.PAll
/-- a matcher's text -/
def tB (m : S25) : ByteArray := ⟨(textM m).toArray⟩
theorem sign159 (w : World) (op : Int) (s : ByteArray) (h : match_sign.f op = some s) : Calls Try.prog 159 #[.int .i64 op] w fun e w' => e = .returned (.string s) ∧ Below w.heap.size w w' :=
 (match_sign.calls op s w h).mono fun _ _ h => ⟨h.1, h.2.below⟩
theorem sizes_mem : ∀ {vs : List ByteArray} {x : ByteArray}, x ∈ vs → x.size ≤ sizes vs
 | v :: vs, x, h => by
  simp only [sizes]
  rcases List.mem_cons.1 h with rfl | h
  ·omega
  ·have := sizes_mem h; omega
theorem bytesL_mem : ∀ {ks : List S25} {x : S25}, x ∈ ks → bytesM x ≤ bytesL ks
 | v :: vs, x, h => by
  simp only [bytesL]
  rcases List.mem_cons.1 h with rfl | h
  ·omega
  ·have := bytesL_mem h; omega
theorem tB_map (ks : List S25) : (ks.map tB).map (·.data.toList) = ks.map textM := by simp [tB, Function.comp_def]
set_option maxRecDepth 100000 in
set_option maxHeartbeats 8000000 in
theorem text110 : ∀ (N : Nat) (m : S25), nodesM m ≤ N → okM m = true → nodesM m ≤ 1000 → bytesM m ≤ 1000000 → ∀ (A3 : Option Addr) (c3 : Nat) (A4 : Option Addr) (c4 : Nat) (w : World), MC w m A3 c3 A4 c4 →
  Calls Try.prog 110 #[.agg #[.int .i64 m.f0, .string m.f1, .string m.f2, .slice A3 m.f3.length c3, .slice A4 m.f4.length c4]] w fun e w' => e = .returned (.string (tB m)) ∧ Below w.heap.size w w' := by
 intro N
 induction N with
 | zero => intro m h; rw [nodesM_mk] at h; omega
 | succ N ih =>
  intro m hN hok h1000 hbytes A3 c3 A4 c4 w hM
  have IH := Lib.hid ih
  clear ih
  have hlen := textM_len _ m (Nat.le_refl _) hok
  have hB0 : Below w.heap.size w (w.alloc (.cells #[.int .i64 m.f0, .string m.f1, .string m.f2, .slice A3 m.f3.length c3, .slice A4 m.f4.length c4] 25)) := below_alloc (Below.refl _ _) _
  have hX0 : BoxM (w.alloc (.cells #[.int .i64 m.f0, .string m.f1, .string m.f2, .slice A3 m.f3.length c3, .slice A4 m.f4.length c4] 25)) w.heap.size m.f0 m.f1 m.f2 (.slice A3 m.f3.length c3) (.slice A4 m.f4.length c4) := blk_new w _
  have hb := bytesM_mk m
  have hnd := nodesM_mk m
  rcases shape hok with rfl | ⟨op, n, v, ho, hn, rfl⟩ | ⟨n, vs, hn, rfl⟩ | ⟨op, ks, ho, hk, rfl⟩
  ·simp only at hX0 hB0 ⊢
   go_enter Try.func110, Try.ntmps110
   go_wp2
   go_ret
   exact ⟨rfl, hB0⟩
  ·simp only at hX0 hB0 hb ⊢
   have hv : v.size ≤ 1000000 := by omega
   have hT := text_n (n := n) (v := v) (vs := []) (show op = 1 ∨ op = 2 ∨ op = 3 ∨ op = 4 by omega)
   have hn2 : n.data.toList.length ≤ 1000000 := by rw [show n.data.toList.length = n.size by simp]; omega
   have hq := quoteT_len v
   rcases ho with rfl | rfl | rfl
   ·obtain ⟨s1, e1⟩ : ∃ s1 : ByteArray, s1.data.toList = n.data.toList ++ [61] := ⟨⟨(n.data.toList ++ [61]).toArray⟩, rfl⟩
    have a1 : Op.stringOp .add n ⟨#[61]⟩ = pure (.string s1) := add_to (by rw [e1]) (by rw [e1, List.length_append]; simp only [List.length_cons, List.length_nil]; omega)
    have eT : ∀ t, t = tB ⟨1, n, v, [], []⟩ → s1.data.toList ++ (qB v).data.toList = t.data.toList := fun t ht => by rw [ht, e1]; unfold tB; rw [hT]; simp [textN, qB]
    obtain ⟨t, et⟩ : ∃ t, t = tB ⟨1, n, v, [], []⟩ := ⟨_, rfl⟩
    have a2 : Op.stringOp .add s1 (qB v) = pure (.string t) := add_to (eT t et) (by rw [← eT t et, List.length_append, e1, List.length_append]; simp only [qB, List.length_cons, List.length_nil]; omega)
    rw [← et]
    have hXd := hX0.below (below_drew (Below.refl _ _))
    have hBd := below_drew hB0
    clear hT hM hok hlen hN h1000 hbytes hb IH hnd eT e1 et hq hn2
    have f1 := hXd.c1
    have f2 := hXd.c2
    go_enter Try.func110, Try.ntmps110
    go_wp2_with fail
    go_region_held3 (fun w' => w'.cell? ⟨w.heap.size, 1, none⟩ = some (.string n) ∧ w'.cell? ⟨w.heap.size, 2, none⟩ = some (.string v) ∧ Below w.heap.size w w')
     (first | exact ⟨by assumption, by assumption, by assumption⟩)
     (first | (go_at_call 125; (with_reducible refine (quoted125 _ v hv).mono ?_); rintro e w1 ⟨rfl, hb1⟩; have hX1 := hXd.below hb1; have f1 := hX1.c1; have f2 := hX1.c2; have hB1 := below_step hBd hb1))
    rename_i hS
    have hBe := hS.2.2
    clear hS
    go_wp2_with fail
    go_ret
    exact ⟨rfl, hBe⟩
   ·obtain ⟨s1, e1⟩ : ∃ s1 : ByteArray, s1.data.toList = n.data.toList ++ [33, 61] := ⟨⟨(n.data.toList ++ [33, 61]).toArray⟩, rfl⟩
    have a1 : Op.stringOp .add n ⟨#[33, 61]⟩ = pure (.string s1) := add_to (by rw [e1]) (by rw [e1, List.length_append]; simp only [List.length_cons, List.length_nil]; omega)
    have eT : ∀ t, t = tB ⟨2, n, v, [], []⟩ → s1.data.toList ++ (qB v).data.toList = t.data.toList := fun t ht => by rw [ht, e1]; unfold tB; rw [hT]; simp [textN, qB]
    obtain ⟨t, et⟩ : ∃ t, t = tB ⟨2, n, v, [], []⟩ := ⟨_, rfl⟩
    have a2 : Op.stringOp .add s1 (qB v) = pure (.string t) := add_to (eT t et) (by rw [← eT t et, List.length_append, e1, List.length_append]; simp only [qB, List.length_cons, List.length_nil]; omega)
    rw [← et]
    have hXd := hX0.below (below_drew (Below.refl _ _))
    have hBd := below_drew hB0
    clear hT hM hok hlen hN h1000 hbytes hb IH hnd eT e1 et hq hn2
    have f1 := hXd.c1
    have f2 := hXd.c2
    go_enter Try.func110, Try.ntmps110
    go_wp2_with fail
    go_region_held3 (fun w' => w'.cell? ⟨w.heap.size, 1, none⟩ = some (.string n) ∧ w'.cell? ⟨w.heap.size, 2, none⟩ = some (.string v) ∧ Below w.heap.size w w')
     (first | exact ⟨by assumption, by assumption, by assumption⟩)
     (first | (go_at_call 125; (with_reducible refine (quoted125 _ v hv).mono ?_); rintro e w1 ⟨rfl, hb1⟩; have hX1 := hXd.below hb1; have f1 := hX1.c1; have f2 := hX1.c2; have hB1 := below_step hBd hb1))
    rename_i hS
    have hBe := hS.2.2
    clear hS
    go_wp2_with fail
    go_ret
    exact ⟨rfl, hBe⟩
   ·obtain ⟨s1, e1⟩ : ∃ s1 : ByteArray, s1.data.toList = n.data.toList ++ [94, 61] := ⟨⟨(n.data.toList ++ [94, 61]).toArray⟩, rfl⟩
    have a1 : Op.stringOp .add n ⟨#[94, 61]⟩ = pure (.string s1) := add_to (by rw [e1]) (by rw [e1, List.length_append]; simp only [List.length_cons, List.length_nil]; omega)
    have eT : ∀ t, t = tB ⟨3, n, v, [], []⟩ → s1.data.toList ++ (qB v).data.toList = t.data.toList := fun t ht => by rw [ht, e1]; unfold tB; rw [hT]; simp [textN, qB]
    obtain ⟨t, et⟩ : ∃ t, t = tB ⟨3, n, v, [], []⟩ := ⟨_, rfl⟩
    have a2 : Op.stringOp .add s1 (qB v) = pure (.string t) := add_to (eT t et) (by rw [← eT t et, List.length_append, e1, List.length_append]; simp only [qB, List.length_cons, List.length_nil]; omega)
    rw [← et]
    have hXd := hX0.below (below_drew (Below.refl _ _))
    have hBd := below_drew hB0
    clear hT hM hok hlen hN h1000 hbytes hb IH hnd eT e1 et hq hn2
    have f1 := hXd.c1
    have f2 := hXd.c2
    go_enter Try.func110, Try.ntmps110
    go_wp2_with fail
    go_region_held3 (fun w' => w'.cell? ⟨w.heap.size, 1, none⟩ = some (.string n) ∧ w'.cell? ⟨w.heap.size, 2, none⟩ = some (.string v) ∧ Below w.heap.size w w')
     (first | exact ⟨by assumption, by assumption, by assumption⟩)
     (first | (go_at_call 125; (with_reducible refine (quoted125 _ v hv).mono ?_); rintro e w1 ⟨rfl, hb1⟩; have hX1 := hXd.below hb1; have f1 := hX1.c1; have f2 := hX1.c2; have hB1 := below_step hBd hb1))
    rename_i hS
    have hBe := hS.2.2
    clear hS
    go_wp2_with fail
    go_ret
    exact ⟨rfl, hBe⟩
  ·simp only [List.length_nil] at hX0 hB0 hb hlen ⊢
   have h16 := ok_vals16 hok
   have hT := text_n (op := 4) (n := n) (v := ⟨#[]⟩) (vs := vs) (by omega)
   have HT := Lib.hid hT
   have HM := Lib.hid (fun j hj => hM.value j hj)
   simp only at HM
   have Hsz := Lib.hid (fun (x : ByteArray) (hx : x ∈ vs) => sizes_mem hx)
   have Hl := Lib.hid (show (commas (vs.map quoteT)).length ≤ 140737488355328 from by
    rw [hT] at hlen
    simp only [textN, List.length_append, List.length_cons, if_neg (show ¬ (4 : Int) = 1 by decide), if_neg (show ¬ (4 : Int) = 2 by decide), if_neg (show ¬ (4 : Int) = 3 by decide)] at hlen
    omega)
   have hsv : sizes vs ≤ 1000000 := by omega
   have hn2 : n.data.toList.length ≤ 1000000 := by rw [show n.data.toList.length = n.size by simp]; omega
   obtain ⟨t, et⟩ : ∃ t, t = tB ⟨4, n, ⟨#[]⟩, vs, []⟩ := ⟨_, rfl⟩
   have eT : t.data.toList = n.data.toList ++ [64, 40] ++ commas (vs.map quoteT) ++ [41] := by rw [et]; unfold tB; rw [hT]; simp [textN]
   have eL : t.data.toList.length ≤ 1000000000 := by rw [et]; unfold tB; simp only; omega
   obtain ⟨s1, e1⟩ : ∃ s1 : ByteArray, s1.data.toList = n.data.toList ++ [64, 40] := ⟨⟨(n.data.toList ++ [64, 40]).toArray⟩, rfl⟩
   obtain ⟨s2, e2⟩ : ∃ s2 : ByteArray, s2.data.toList = n.data.toList ++ [64, 40] ++ commas (vs.map quoteT) := ⟨⟨(n.data.toList ++ [64, 40] ++ commas (vs.map quoteT)).toArray⟩, rfl⟩
   have a1 : Op.stringOp .add n ⟨#[64, 40]⟩ = pure (.string s1) := add_to (by rw [e1]) (by rw [e1]; rw [eT, List.length_append, List.length_append] at eL; omega)
   have a2 : Op.stringOp .add s1 ⟨(commas (vs.map quoteT)).toArray⟩ = pure (.string s2) := add_to (by rw [e1, e2]) (by rw [e2]; rw [eT, List.length_append] at eL; omega)
   have a3 : Op.stringOp .add s2 ⟨#[41]⟩ = pure (.string t) := add_to (by rw [e2, eT]) eL
   rw [← et]
   obtain ⟨W0, e0⟩ : ∃ W0, w.alloc (.cells #[.int .i64 4, .string n, .string ⟨#[]⟩, .slice A3 vs.length c3, .slice A4 0 c4] 25) = W0 := ⟨_, rfl⟩
   have hsz : W0.heap.size = w.heap.size + 1 := by rw [← e0]; simp
   rw [e0] at hX0 hB0
   have x1 := hX0.c1
   have x3 := hX0.c3
   have E0 := Lib.hid e0
   clear hT hM hok hlen hN h1000 hbytes hb IH hnd e0 eT eL e1 e2 et hn2
   go_enter Try.func110, Try.ntmps110
   go_wp2
   rw [E0.out]
   go_loopw [3, 44] (fun u3 u44 wr => ∃ (j : Nat), u44 = .int .i64 j ∧ j ≤ vs.length ∧ wr.ownsRow W0.heap.size 9 1 u3 j (encs Value.string ((vs.take j).map qB)) ∧ Below W0.heap.size W0 wr)
    (fun _ u44 _ => vs.length - (intOf u44).toNat)
   case atStart => exact ⟨0, rfl, Nat.zero_le _, by simpa [encs] using World.ownsRow_nil _ _ _ _, Below.refl _ _⟩
   case round =>
    obtain ⟨j, rfl, hj, hO, hB⟩ := hrel
    have hle := hB.size
    by_cases hlt : j < vs.length
    ·obtain ⟨ad, rfl, hcell⟩ := HM.out j hlt
     have hcell := pw_cell_below (below_step hB0 hB) hcell
     have Htake := Lib.hid (takeD vs ByteArray.empty j hlt)
     have hxs := Hsz.out (vs.getD j ByteArray.empty) (by simp [List.getD_eq_getElem?_getD, hlt])
     obtain ⟨x, ex⟩ : ∃ x, vs.getD j ByteArray.empty = x := ⟨_, rfl⟩
     rw [ex] at hcell Htake hxs
     clear ex
     have hlj : ((vs.take j).map qB).length = j := by simp; omega
     obtain ⟨Au, cu, rfl⟩ := own_slice hO
     have HO := Lib.hid hO
     clear hO
     go_wp2_with (first | (go_at_call 125; (with_reducible refine (quoted125 _ x (by omega)).mono ?_); rintro e w5 ⟨rfl, hB5⟩) | (at_builtin; refine print_append_of (w0 := W0) (W := w5) Value.string W0.heap.size rfl (.tmp 48) (.tmp 51) 22 9 (.string ByteArray.empty) 16 rfl Try.underlying22 infoSt rfl (by decide) (.slice Au j cu) ((vs.take j).map qB) (qB x) rfl rfl rfl (by rw [hlj]; exact pw_own_below HO.out hB5) (below_step hB hB5) (by have := hB5.size; omega) (by rw [hlj]; omega) ?_; intro v1 w2 hown2 hb2 hg2 hat2))
     go_roundw
     case rel => exact ⟨j + 1, by go_num, by omega, by rw [Htake.out, List.map_append]; rw [List.length_append, hlj] at hown2; exact hown2, hb2⟩
     case measure => simp [intOf]; omega
    ·obtain rfl : j = vs.length := by omega
     rw [List.take_length] at hO
     have hXr := (hX0.below hB).below (below_drew (Below.refl _ _))
     have hBr := below_drew (below_step hB0 hB)
     have f1 := hXr.c1
     obtain ⟨Au, cu, rfl⟩ := own_slice hO
     have HO := Lib.hid hO
     clear hO x1 x3
     go_wp2_with fail
     go_region_held3 (fun w' => w'.cell? ⟨w.heap.size, 1, none⟩ = some (.string n) ∧ Below w.heap.size w w')
      (first | exact ⟨by assumption, by assumption⟩)
      (first | (go_at_call 126; (with_reducible refine (join126 _ W0.heap.size (.slice Au vs.length cu) (vs.map qB) (by rw [List.length_map]; exact pw_own_below HO.out (below_drew (Below.refl _ _))) (by simp; omega) (by rw [qB_map]; exact Hl.out)).mono ?_); rintro e w1 ⟨rfl, hb1⟩; rw [qB_map]; have hX1 := hXr.below hb1; have f1 := hX1.c1; have hB1 := below_step hBr hb1))
     rename_i hS
     have hBe := hS.2
     clear hS
     go_wp2_with fail
     go_ret
     exact ⟨rfl, hBe⟩
  ·have hT := text_k (ks := ks) ho
   rcases ho with rfl | rfl | rfl
   ·simp only [List.length_nil] at hX0 hB0 hb hlen hnd ⊢
    have HT := Lib.hid hT
    have HM := Lib.hid (fun j hj => hM.kid j hj)
    simp only at HM
    have hln := lenL_nodes ks
    have Hl := Lib.hid (show (commas (ks.map textM)).length ≤ 140737488355328 from by
     rw [hT] at hlen
     simp only [List.length_append, List.length_cons] at hlen
     omega)
    have Hkid := Lib.hid (fun (x : S25) (hx : x ∈ ks) => (⟨by have := nodes_lt ⟨5, ⟨#[]⟩, ⟨#[]⟩, [], ks⟩ x hx; omega, okL_mem hk hx, by have := nodes_lt ⟨5, ⟨#[]⟩, ⟨#[]⟩, [], ks⟩ x hx; omega, by have := bytesL_mem hx; omega⟩ : nodesM x ≤ N ∧ okM x = true ∧ nodesM x ≤ 1000 ∧ bytesM x ≤ 1000000))
    obtain ⟨sg, esg⟩ : ∃ sg : ByteArray, sg = ⟨#[38]⟩ := ⟨_, rfl⟩
    have hsg : match_sign.f 5 = some sg := by rw [esg]; rfl
    have Hsg := Lib.hid hsg
    obtain ⟨t, et⟩ : ∃ t, t = tB ⟨5, ⟨#[]⟩, ⟨#[]⟩, [], ks⟩ := ⟨_, rfl⟩
    have eT : t.data.toList = sg.data.toList ++ [40] ++ commas (ks.map textM) ++ [41] := by rw [et, esg]; unfold tB; rw [hT]; simp
    have eL : t.data.toList.length ≤ 1000000000 := by rw [et]; unfold tB; simp only; omega
    obtain ⟨s1, e1⟩ : ∃ s1 : ByteArray, s1.data.toList = sg.data.toList ++ [40] := ⟨⟨(sg.data.toList ++ [40]).toArray⟩, rfl⟩
    obtain ⟨s2, e2⟩ : ∃ s2 : ByteArray, s2.data.toList = sg.data.toList ++ [40] ++ commas (ks.map textM) := ⟨⟨(sg.data.toList ++ [40] ++ commas (ks.map textM)).toArray⟩, rfl⟩
    have a1 : Op.stringOp .add sg ⟨#[40]⟩ = pure (.string s1) := add_to (by rw [e1]) (by rw [e1]; rw [eT, List.length_append, List.length_append] at eL; omega)
    have a2 : Op.stringOp .add s1 ⟨(commas (ks.map textM)).toArray⟩ = pure (.string s2) := add_to (by rw [e1, e2]) (by rw [e2]; rw [eT, List.length_append] at eL; omega)
    have a3 : Op.stringOp .add s2 ⟨#[41]⟩ = pure (.string t) := add_to (by rw [e2, eT]) eL
    rw [← et]
    obtain ⟨W0, e0⟩ : ∃ W0, w.alloc (.cells #[.int .i64 5, .string ⟨#[]⟩, .string ⟨#[]⟩, .slice A3 0 c3, .slice A4 ks.length c4] 25) = W0 := ⟨_, rfl⟩
    have hsz : W0.heap.size = w.heap.size + 1 := by rw [← e0]; simp
    rw [e0] at hX0 hB0
    have x0 := hX0.c0
    have x4 := hX0.c4
    have hk1000 : ks.length ≤ 1000 := by omega
    have E0 := Lib.hid e0
    clear hT hM hok hlen hN h1000 hbytes hb hnd e0 hln eT eL e1 e2 et hsg esg
    go_enter Try.func110, Try.ntmps110
    go_wp2
    rw [E0.out]
    clear x0 x4
    go_loopw [3, 7, 64] (fun u3 _ u64 wr => ∃ (j : Nat), u64 = .int .i64 j ∧ j ≤ ks.length ∧ wr.ownsRow W0.heap.size 9 1 u3 j (encs Value.string ((ks.take j).map tB)) ∧ Below W0.heap.size W0 wr)
     (fun _ _ u64 _ => ks.length - (intOf u64).toNat)
    case atStart => exact ⟨0, rfl, Nat.zero_le _, by simpa [encs] using World.ownsRow_nil _ _ _ _, Below.refl _ _⟩
    case round =>
     obtain ⟨j, rfl, hj, hO, hB⟩ := hrel
     have hle := hB.size
     by_cases hlt : j < ks.length
     ·obtain ⟨ad, B3, e3, B4, e4, rfl, hMk, k0, k1, k2, k3, k4⟩ := HM.out j hlt
      have k0 := pw_cell_below (below_step hB0 hB) k0
      have k1 := pw_cell_below (below_step hB0 hB) k1
      have k2 := pw_cell_below (below_step hB0 hB) k2
      have k3 := pw_cell_below (below_step hB0 hB) k3
      have k4 := pw_cell_below (below_step hB0 hB) k4
      have Htake := Lib.hid (takeD ks z25 j hlt)
      have hxs := Lib.hid (Hkid.out (ks.getD j z25) (by simp [List.getD_eq_getElem?_getD, hlt]))
      obtain ⟨x, ex⟩ : ∃ x, ks.getD j z25 = x := ⟨_, rfl⟩
      rw [ex] at hMk k0 k1 k2 k3 k4 Htake hxs
      clear ex
      have hlj : ((ks.take j).map tB).length = j := by simp; omega
      obtain ⟨Au, cu, rfl⟩ := own_slice hO
      have HO := Lib.hid hO
      clear hO
      go_wp2_with (first | (go_at_call 110; (with_reducible refine (IH.out x hxs.out.1 hxs.out.2.1 hxs.out.2.2.1 hxs.out.2.2.2 B3 e3 B4 e4 _ (hMk.below (below_step hB0 (below_alloc hB _)))).mono ?_); rintro e w5 ⟨rfl, hB5⟩; have hBa := below_step (below_alloc hB _) hB5) | (at_builtin; refine print_append_of (w0 := W0) (W := w5) Value.string W0.heap.size rfl (.tmp 68) (.tmp 71) 22 9 (.string ByteArray.empty) 16 rfl Try.underlying22 infoSt rfl (by decide) (.slice Au j cu) ((ks.take j).map tB) (tB x) rfl rfl rfl (by rw [hlj]; exact pw_own_below HO.out (below_step (below_alloc (Below.refl _ _) _) hB5)) hBa (by have := hBa.size; omega) (by rw [hlj]; omega) ?_; intro v1 w2 hown2 hb2 hg2 hat2))
      go_roundw
      case rel => exact ⟨j + 1, by go_num, by omega, by rw [Htake.out, List.map_append]; rw [List.length_append, hlj] at hown2; exact hown2, hb2⟩
      case measure => simp [intOf]; omega
     ·obtain rfl : j = ks.length := by omega
      rw [List.take_length] at hO
      have hXr := hX0.below hB
      have f0 := hXr.c0
      obtain ⟨Au, cu, rfl⟩ := own_slice hO
      have HO := Lib.hid hO
      clear hO
      go_wp2_with (first | (go_at_call 159; (with_reducible refine (sign159 _ 5 _ Hsg.out).mono ?_); rintro e w1 ⟨rfl, hb1⟩; have hB1 := below_step (below_step hB0 hB) hb1) | (go_at_call 126; (with_reducible refine (join126 _ W0.heap.size (.slice Au ks.length cu) (ks.map tB) (by rw [List.length_map]; exact pw_own_below HO.out hb1) (by simp; omega) (by rw [tB_map]; exact Hl.out)).mono ?_); rintro e w2 ⟨rfl, hb2⟩; rw [tB_map]; have hB2 := below_step hB1 hb2))
      go_ret
      exact ⟨rfl, hB2⟩
   ·simp only [List.length_nil] at hX0 hB0 hb hlen hnd ⊢
    have HT := Lib.hid hT
    have HM := Lib.hid (fun j hj => hM.kid j hj)
    simp only at HM
    have hln := lenL_nodes ks
    have Hl := Lib.hid (show (commas (ks.map textM)).length ≤ 140737488355328 from by
     rw [hT] at hlen
     simp only [List.length_append, List.length_cons] at hlen
     omega)
    have Hkid := Lib.hid (fun (x : S25) (hx : x ∈ ks) => (⟨by have := nodes_lt ⟨6, ⟨#[]⟩, ⟨#[]⟩, [], ks⟩ x hx; omega, okL_mem hk hx, by have := nodes_lt ⟨6, ⟨#[]⟩, ⟨#[]⟩, [], ks⟩ x hx; omega, by have := bytesL_mem hx; omega⟩ : nodesM x ≤ N ∧ okM x = true ∧ nodesM x ≤ 1000 ∧ bytesM x ≤ 1000000))
    obtain ⟨sg, esg⟩ : ∃ sg : ByteArray, sg = ⟨#[124]⟩ := ⟨_, rfl⟩
    have hsg : match_sign.f 6 = some sg := by rw [esg]; rfl
    have Hsg := Lib.hid hsg
    obtain ⟨t, et⟩ : ∃ t, t = tB ⟨6, ⟨#[]⟩, ⟨#[]⟩, [], ks⟩ := ⟨_, rfl⟩
    have eT : t.data.toList = sg.data.toList ++ [40] ++ commas (ks.map textM) ++ [41] := by rw [et, esg]; unfold tB; rw [hT]; simp
    have eL : t.data.toList.length ≤ 1000000000 := by rw [et]; unfold tB; simp only; omega
    obtain ⟨s1, e1⟩ : ∃ s1 : ByteArray, s1.data.toList = sg.data.toList ++ [40] := ⟨⟨(sg.data.toList ++ [40]).toArray⟩, rfl⟩
    obtain ⟨s2, e2⟩ : ∃ s2 : ByteArray, s2.data.toList = sg.data.toList ++ [40] ++ commas (ks.map textM) := ⟨⟨(sg.data.toList ++ [40] ++ commas (ks.map textM)).toArray⟩, rfl⟩
    have a1 : Op.stringOp .add sg ⟨#[40]⟩ = pure (.string s1) := add_to (by rw [e1]) (by rw [e1]; rw [eT, List.length_append, List.length_append] at eL; omega)
    have a2 : Op.stringOp .add s1 ⟨(commas (ks.map textM)).toArray⟩ = pure (.string s2) := add_to (by rw [e1, e2]) (by rw [e2]; rw [eT, List.length_append] at eL; omega)
    have a3 : Op.stringOp .add s2 ⟨#[41]⟩ = pure (.string t) := add_to (by rw [e2, eT]) eL
    rw [← et]
    obtain ⟨W0, e0⟩ : ∃ W0, w.alloc (.cells #[.int .i64 6, .string ⟨#[]⟩, .string ⟨#[]⟩, .slice A3 0 c3, .slice A4 ks.length c4] 25) = W0 := ⟨_, rfl⟩
    have hsz : W0.heap.size = w.heap.size + 1 := by rw [← e0]; simp
    rw [e0] at hX0 hB0
    have x0 := hX0.c0
    have x4 := hX0.c4
    have hk1000 : ks.length ≤ 1000 := by omega
    have E0 := Lib.hid e0
    clear hT hM hok hlen hN h1000 hbytes hb hnd e0 hln eT eL e1 e2 et hsg esg
    go_enter Try.func110, Try.ntmps110
    go_wp2
    rw [E0.out]
    clear x0 x4
    go_loopw [3, 7, 64] (fun u3 _ u64 wr => ∃ (j : Nat), u64 = .int .i64 j ∧ j ≤ ks.length ∧ wr.ownsRow W0.heap.size 9 1 u3 j (encs Value.string ((ks.take j).map tB)) ∧ Below W0.heap.size W0 wr)
     (fun _ _ u64 _ => ks.length - (intOf u64).toNat)
    case atStart => exact ⟨0, rfl, Nat.zero_le _, by simpa [encs] using World.ownsRow_nil _ _ _ _, Below.refl _ _⟩
    case round =>
     obtain ⟨j, rfl, hj, hO, hB⟩ := hrel
     have hle := hB.size
     by_cases hlt : j < ks.length
     ·obtain ⟨ad, B3, e3, B4, e4, rfl, hMk, k0, k1, k2, k3, k4⟩ := HM.out j hlt
      have k0 := pw_cell_below (below_step hB0 hB) k0
      have k1 := pw_cell_below (below_step hB0 hB) k1
      have k2 := pw_cell_below (below_step hB0 hB) k2
      have k3 := pw_cell_below (below_step hB0 hB) k3
      have k4 := pw_cell_below (below_step hB0 hB) k4
      have Htake := Lib.hid (takeD ks z25 j hlt)
      have hxs := Lib.hid (Hkid.out (ks.getD j z25) (by simp [List.getD_eq_getElem?_getD, hlt]))
      obtain ⟨x, ex⟩ : ∃ x, ks.getD j z25 = x := ⟨_, rfl⟩
      rw [ex] at hMk k0 k1 k2 k3 k4 Htake hxs
      clear ex
      have hlj : ((ks.take j).map tB).length = j := by simp; omega
      obtain ⟨Au, cu, rfl⟩ := own_slice hO
      have HO := Lib.hid hO
      clear hO
      go_wp2_with (first | (go_at_call 110; (with_reducible refine (IH.out x hxs.out.1 hxs.out.2.1 hxs.out.2.2.1 hxs.out.2.2.2 B3 e3 B4 e4 _ (hMk.below (below_step hB0 (below_alloc hB _)))).mono ?_); rintro e w5 ⟨rfl, hB5⟩; have hBa := below_step (below_alloc hB _) hB5) | (at_builtin; refine print_append_of (w0 := W0) (W := w5) Value.string W0.heap.size rfl (.tmp 68) (.tmp 71) 22 9 (.string ByteArray.empty) 16 rfl Try.underlying22 infoSt rfl (by decide) (.slice Au j cu) ((ks.take j).map tB) (tB x) rfl rfl rfl (by rw [hlj]; exact pw_own_below HO.out (below_step (below_alloc (Below.refl _ _) _) hB5)) hBa (by have := hBa.size; omega) (by rw [hlj]; omega) ?_; intro v1 w2 hown2 hb2 hg2 hat2))
      go_roundw
      case rel => exact ⟨j + 1, by go_num, by omega, by rw [Htake.out, List.map_append]; rw [List.length_append, hlj] at hown2; exact hown2, hb2⟩
      case measure => simp [intOf]; omega
     ·obtain rfl : j = ks.length := by omega
      rw [List.take_length] at hO
      have hXr := hX0.below hB
      have f0 := hXr.c0
      obtain ⟨Au, cu, rfl⟩ := own_slice hO
      have HO := Lib.hid hO
      clear hO
      go_wp2_with (first | (go_at_call 159; (with_reducible refine (sign159 _ 6 _ Hsg.out).mono ?_); rintro e w1 ⟨rfl, hb1⟩; have hB1 := below_step (below_step hB0 hB) hb1) | (go_at_call 126; (with_reducible refine (join126 _ W0.heap.size (.slice Au ks.length cu) (ks.map tB) (by rw [List.length_map]; exact pw_own_below HO.out hb1) (by simp; omega) (by rw [tB_map]; exact Hl.out)).mono ?_); rintro e w2 ⟨rfl, hb2⟩; rw [tB_map]; have hB2 := below_step hB1 hb2))
      go_ret
      exact ⟨rfl, hB2⟩
   ·simp only [List.length_nil] at hX0 hB0 hb hlen hnd ⊢
    have HT := Lib.hid hT
    have HM := Lib.hid (fun j hj => hM.kid j hj)
    simp only at HM
    have hln := lenL_nodes ks
    have Hl := Lib.hid (show (commas (ks.map textM)).length ≤ 140737488355328 from by
     rw [hT] at hlen
     simp only [List.length_append, List.length_cons] at hlen
     omega)
    have Hkid := Lib.hid (fun (x : S25) (hx : x ∈ ks) => (⟨by have := nodes_lt ⟨7, ⟨#[]⟩, ⟨#[]⟩, [], ks⟩ x hx; omega, okL_mem hk hx, by have := nodes_lt ⟨7, ⟨#[]⟩, ⟨#[]⟩, [], ks⟩ x hx; omega, by have := bytesL_mem hx; omega⟩ : nodesM x ≤ N ∧ okM x = true ∧ nodesM x ≤ 1000 ∧ bytesM x ≤ 1000000))
    obtain ⟨sg, esg⟩ : ∃ sg : ByteArray, sg = ⟨#[33]⟩ := ⟨_, rfl⟩
    have hsg : match_sign.f 7 = some sg := by rw [esg]; rfl
    have Hsg := Lib.hid hsg
    obtain ⟨t, et⟩ : ∃ t, t = tB ⟨7, ⟨#[]⟩, ⟨#[]⟩, [], ks⟩ := ⟨_, rfl⟩
    have eT : t.data.toList = sg.data.toList ++ [40] ++ commas (ks.map textM) ++ [41] := by rw [et, esg]; unfold tB; rw [hT]; simp
    have eL : t.data.toList.length ≤ 1000000000 := by rw [et]; unfold tB; simp only; omega
    obtain ⟨s1, e1⟩ : ∃ s1 : ByteArray, s1.data.toList = sg.data.toList ++ [40] := ⟨⟨(sg.data.toList ++ [40]).toArray⟩, rfl⟩
    obtain ⟨s2, e2⟩ : ∃ s2 : ByteArray, s2.data.toList = sg.data.toList ++ [40] ++ commas (ks.map textM) := ⟨⟨(sg.data.toList ++ [40] ++ commas (ks.map textM)).toArray⟩, rfl⟩
    have a1 : Op.stringOp .add sg ⟨#[40]⟩ = pure (.string s1) := add_to (by rw [e1]) (by rw [e1]; rw [eT, List.length_append, List.length_append] at eL; omega)
    have a2 : Op.stringOp .add s1 ⟨(commas (ks.map textM)).toArray⟩ = pure (.string s2) := add_to (by rw [e1, e2]) (by rw [e2]; rw [eT, List.length_append] at eL; omega)
    have a3 : Op.stringOp .add s2 ⟨#[41]⟩ = pure (.string t) := add_to (by rw [e2, eT]) eL
    rw [← et]
    obtain ⟨W0, e0⟩ : ∃ W0, w.alloc (.cells #[.int .i64 7, .string ⟨#[]⟩, .string ⟨#[]⟩, .slice A3 0 c3, .slice A4 ks.length c4] 25) = W0 := ⟨_, rfl⟩
    have hsz : W0.heap.size = w.heap.size + 1 := by rw [← e0]; simp
    rw [e0] at hX0 hB0
    have x0 := hX0.c0
    have x4 := hX0.c4
    have hk1000 : ks.length ≤ 1000 := by omega
    have E0 := Lib.hid e0
    clear hT hM hok hlen hN h1000 hbytes hb hnd e0 hln eT eL e1 e2 et hsg esg
    go_enter Try.func110, Try.ntmps110
    go_wp2
    rw [E0.out]
    clear x0 x4
    go_loopw [3, 7, 64] (fun u3 _ u64 wr => ∃ (j : Nat), u64 = .int .i64 j ∧ j ≤ ks.length ∧ wr.ownsRow W0.heap.size 9 1 u3 j (encs Value.string ((ks.take j).map tB)) ∧ Below W0.heap.size W0 wr)
     (fun _ _ u64 _ => ks.length - (intOf u64).toNat)
    case atStart => exact ⟨0, rfl, Nat.zero_le _, by simpa [encs] using World.ownsRow_nil _ _ _ _, Below.refl _ _⟩
    case round =>
     obtain ⟨j, rfl, hj, hO, hB⟩ := hrel
     have hle := hB.size
     by_cases hlt : j < ks.length
     ·obtain ⟨ad, B3, e3, B4, e4, rfl, hMk, k0, k1, k2, k3, k4⟩ := HM.out j hlt
      have k0 := pw_cell_below (below_step hB0 hB) k0
      have k1 := pw_cell_below (below_step hB0 hB) k1
      have k2 := pw_cell_below (below_step hB0 hB) k2
      have k3 := pw_cell_below (below_step hB0 hB) k3
      have k4 := pw_cell_below (below_step hB0 hB) k4
      have Htake := Lib.hid (takeD ks z25 j hlt)
      have hxs := Lib.hid (Hkid.out (ks.getD j z25) (by simp [List.getD_eq_getElem?_getD, hlt]))
      obtain ⟨x, ex⟩ : ∃ x, ks.getD j z25 = x := ⟨_, rfl⟩
      rw [ex] at hMk k0 k1 k2 k3 k4 Htake hxs
      clear ex
      have hlj : ((ks.take j).map tB).length = j := by simp; omega
      obtain ⟨Au, cu, rfl⟩ := own_slice hO
      have HO := Lib.hid hO
      clear hO
      go_wp2_with (first | (go_at_call 110; (with_reducible refine (IH.out x hxs.out.1 hxs.out.2.1 hxs.out.2.2.1 hxs.out.2.2.2 B3 e3 B4 e4 _ (hMk.below (below_step hB0 (below_alloc hB _)))).mono ?_); rintro e w5 ⟨rfl, hB5⟩; have hBa := below_step (below_alloc hB _) hB5) | (at_builtin; refine print_append_of (w0 := W0) (W := w5) Value.string W0.heap.size rfl (.tmp 68) (.tmp 71) 22 9 (.string ByteArray.empty) 16 rfl Try.underlying22 infoSt rfl (by decide) (.slice Au j cu) ((ks.take j).map tB) (tB x) rfl rfl rfl (by rw [hlj]; exact pw_own_below HO.out (below_step (below_alloc (Below.refl _ _) _) hB5)) hBa (by have := hBa.size; omega) (by rw [hlj]; omega) ?_; intro v1 w2 hown2 hb2 hg2 hat2))
      go_roundw
      case rel => exact ⟨j + 1, by go_num, by omega, by rw [Htake.out, List.map_append]; rw [List.length_append, hlj] at hown2; exact hown2, hb2⟩
      case measure => simp [intOf]; omega
     ·obtain rfl : j = ks.length := by omega
      rw [List.take_length] at hO
      have hXr := hX0.below hB
      have f0 := hXr.c0
      obtain ⟨Au, cu, rfl⟩ := own_slice hO
      have HO := Lib.hid hO
      clear hO
      go_wp2_with (first | (go_at_call 159; (with_reducible refine (sign159 _ 7 _ Hsg.out).mono ?_); rintro e w1 ⟨rfl, hb1⟩; have hB1 := below_step (below_step hB0 hB) hb1) | (go_at_call 126; (with_reducible refine (join126 _ W0.heap.size (.slice Au ks.length cu) (ks.map tB) (by rw [List.length_map]; exact pw_own_below HO.out hb1) (by simp; omega) (by rw [tB_map]; exact Hl.out)).mono ?_); rintro e w2 ⟨rfl, hb2⟩; rw [tB_map]; have hB2 := below_step hB1 hb2))
      go_ret
      exact ⟨rfl, hB2⟩
set_option maxRecDepth 100000 in
set_option maxHeartbeats 4000000 in
/-- match.Text of a matcher that may be. -/
theorem Text61 (w : World) (m : S25) (A3 : Option Addr) (c3 : Nat) (A4 : Option Addr) (c4 : Nat) (hok : chkB m = true) (hM : MC w m A3 c3 A4 c4) :
  Calls Try.prog 61 #[.agg #[.int .i64 m.f0, .string m.f1, .string m.f2, .slice A3 m.f3.length c3, .slice A4 m.f4.length c4]] w fun e w' => e = .returned (.string (tB m)) ∧ Below w.heap.size w w' := by
 have hB0 : Below w.heap.size w (w.alloc (.cells #[.int .i64 m.f0, .string m.f1, .string m.f2, .slice A3 m.f3.length c3, .slice A4 m.f4.length c4] 25)) := below_alloc (Below.refl _ _) _
 have hX0 : BoxM (w.alloc (.cells #[.int .i64 m.f0, .string m.f1, .string m.f2, .slice A3 m.f3.length c3, .slice A4 m.f4.length c4] 25)) w.heap.size m.f0 m.f1 m.f2 (.slice A3 m.f3.length c3) (.slice A4 m.f4.length c4) := blk_new w _
 obtain ⟨q1, q2, q3, q4⟩ := chk_def.1 hok
 have Hok := Lib.hid hok
 have Hq := Lib.hid (show okM m = true ∧ nodesM m ≤ 1000 ∧ bytesM m ≤ 1000000 from ⟨q1, by omega, by omega⟩)
 clear hok q1 q2 q3 q4
 go_enter Try.func61, Try.ntmps61
 go_wp2_with fail
 (with_reducible refine (check53v _ m A3 c3 A4 c4 true Hok.out (hM.below hB0)).mono ?_)
 rintro e w1 ⟨rfl, hb1⟩
 have hX1 := hX0.below hb1
 have x0 := hX1.c0
 have x1 := hX1.c1
 have x2 := hX1.c2
 have x3 := hX1.c3
 have x4 := hX1.c4
 have hB1 := below_step hB0 hb1
 go_wp2_with fail
 (with_reducible refine (text110 _ m (Nat.le_refl _) Hq.out.1 Hq.out.2.1 Hq.out.2.2 A3 c3 A4 c4 _ (hM.below hB1)).mono ?_)
 rintro e w2 ⟨rfl, hb2⟩
 go_wp2_with fail
 go_ret
 exact ⟨rfl, below_step hB1 hb2⟩
end Go.Proofs.Yteafilojjdfllaa
end
section
namespace Go.Proofs.Yteafilojjdfllaa
open Go Go.RowKit Go.Proofs.YteafilojjdfllaaW.PrintWords Go.Proofs.YteafilojjdfllaaW.PrintLast Go.Proofs.YteafilojjdfllaaW.PrintMore Go.Proofs.Yteafilojjdfllaa.PAll
/-- a row of one element -/
theorem C_one' {α : Type} {d : Kd α} {W : World} {g : Nat} {x : α} {cs : List Value} {t : TypeId} (hb : W.heap[g]? = some (.cells ⟨cs⟩ t (0, 0))) (hK : d.K W x cs) : d.C W (some ⟨g, 0, none⟩) 1 [x] := by
 refine ⟨rfl, by decide, fun _ => ⟨⟨g, 0, none⟩, rfl, fun j p hj => ?_⟩⟩
 have hj0 : j = 0 := by
  cases j with
  | zero => rfl
  | succ j => simp at hj
 subst hj0
 cases hj
 refine ⟨cs, d.K_len hK, hK, fun i u hu => ?_⟩
 have := blk_cell hb i
 have e : (⟨g, 0, none⟩ : Addr).add (0 * d.sz + i) = ⟨g, i, none⟩ := by simp [Addr.add]; exact Eq.symm
 rw [e]
 simpa [hu] using this
/-- a row of two elements -/
theorem C_two {α : Type} {d : Kd α} {W : World} {g : Nat} {x y : α} {cs ds : List Value} {t : TypeId} (hb : W.heap[g]? = some (.cells ⟨cs ++ ds⟩ t (0, 0))) (hx : d.K W x cs) (hy : d.K W y ds) : d.C W (some ⟨g, 0, none⟩) 2 [x, y] := by
 have l1 := d.K_len hx
 have l2 := d.K_len hy
 refine ⟨rfl, by decide, fun _ => ⟨⟨g, 0, none⟩, rfl, fun j p hj => ?_⟩⟩
 have hat : ∀ i, (⟨g, 0, none⟩ : Addr).add i = ⟨g, i, none⟩ := fun i => add_plain g i
 match j, hj with
 | 0, hj =>
  cases hj
  refine ⟨cs, l1, hx, fun i u hu => ?_⟩
  have hi := (List.getElem?_eq_some_iff.1 hu).1
  have := blk_cell hb i
  rw [hat]
  rw [show 0 * d.sz + i = i by omega, this]
  simp [List.getElem?_append_left hi, hu]
 | 1, hj =>
  cases hj
  refine ⟨ds, l2, hy, fun i u hu => ?_⟩
  have := blk_cell hb (d.sz + i)
  rw [hat]
  rw [show 1 * d.sz + i = d.sz + i by omega, this, ← l1]
  simp only [List.getElem?_toArray]
  rw [List.getElem?_append_right (by omega), show cs.length + i - cs.length = i by omega, hu]
def exMI : S25 := ⟨2, ⟨#[97]⟩, ⟨#[49]⟩, [], []⟩
def exMK : S25 := ⟨1, ⟨#[97]⟩, ⟨#[120]⟩, [], []⟩
def exMN : S25 := ⟨7, ⟨#[]⟩, ⟨#[]⟩, [], [exMK]⟩
def exMA : S25 := ⟨5, ⟨#[]⟩, ⟨#[]⟩, [], [z25, exMN]⟩
def exML : List S68 := [⟨⟨#[98]⟩, ⟨#[50]⟩⟩]
theorem exM_chk : chkB exMA = true := by kernel_rfl
theorem exM_ev : evalB exML exMA = true := by kernel_rfl
theorem exM_evI : evalB exML exMI = true := by kernel_rfl
theorem exM_text : tB exMA = ⟨#[38, 40, 42, 44, 33, 40, 97, 61, 34, 120, 34, 41, 41]⟩ := by kernel_rfl
theorem k68_one (W : World) (x : S68) : k68.K W x [.string x.f0, .string x.f1] := k68.K_of_M (k68_mkM W 0 (fun _ => True) x)
theorem exEvalI (W : World) (A : Option Addr) (hC : Kd.C k68 W A 1 exML) : Calls Try.prog 55 #[.agg #[.int .i64 2, .string ⟨#[97]⟩, .string ⟨#[49]⟩, .slice none 0 0, .slice none 0 0], .slice A 1 1] W fun e w' => e = .returned (.bool true) ∧ Below W.heap.size W w' :=
 Eval55 W exMI none 0 none 0 A 1 exML true exM_evI (by decide) ⟨Nat.le_refl _, Kd.C_nil _ _, Nat.le_refl _, Kd.C_nil _ _⟩ (by decide) (by decide) hC
theorem exTextA (W : World) (A : Option Addr) (hM : MC W exMA none 0 A 2) : Calls Try.prog 61 #[.agg #[.int .i64 5, .string ⟨#[]⟩, .string ⟨#[]⟩, .slice none 0 0, .slice A 2 2]] W fun e w' => e = .returned (.string ⟨#[38, 40, 42, 44, 33, 40, 97, 61, 34, 120, 34, 41, 41]⟩) ∧ Below W.heap.size W w' := by
 have h := Text61 W exMA none 0 A 2 exM_chk hM
 rw [exM_text] at h
 exact h
theorem exCheckA (W : World) (A : Option Addr) (hM : MC W exMA none 0 A 2) : Calls Try.prog 53 #[.agg #[.int .i64 5, .string ⟨#[]⟩, .string ⟨#[]⟩, .slice none 0 0, .slice A 2 2]] W fun e w' => e = .returned (.bool true) ∧ Below W.heap.size W w' := check53v W exMA none 0 A 2 true exM_chk hM
theorem exEvalA (W : World) (A B : Option Addr) (hM : MC W exMA none 0 A 2) (hC : Kd.C k68 W B 1 exML) : Calls Try.prog 55 #[.agg #[.int .i64 5, .string ⟨#[]⟩, .string ⟨#[]⟩, .slice none 0 0, .slice A 2 2], .slice B 1 1] W fun e w' => e = .returned (.bool true) ∧ Below W.heap.size W w' :=
 Eval55 W exMA none 0 A 2 B 1 exML true exM_ev (by decide) hM (by decide) (by decide) hC
/-- the example in memory -/
theorem exM_world (w : World) : ∃ W : World, ((((w.alloc (.cells #[.string ⟨#[98]⟩, .string ⟨#[50]⟩] 68)).alloc (.cells #[.int .i64 1, .string ⟨#[97]⟩, .string ⟨#[120]⟩, .slice none 0 0, .slice none 0 0] 25)).alloc (.cells #[.int .i64 0, .string ⟨#[]⟩, .string ⟨#[]⟩, .slice none 0 0, .slice none 0 0, .int .i64 7, .string ⟨#[]⟩, .string ⟨#[]⟩, .slice none 0 0, .slice (some ⟨w.heap.size + 1, 0, none⟩) 1 1] 25)).alloc (.cells #[.int .i64 5, .string ⟨#[]⟩, .string ⟨#[]⟩, .slice none 0 0, .slice (some ⟨w.heap.size + 1 + 1, 0, none⟩) 2 2] 25)) = W ∧ Below w.heap.size w W ∧ Kd.C k68 W (some ⟨w.heap.size, 0, none⟩) exML.length exML ∧ MC W exMA none 0 (some ⟨w.heap.size + 1 + 1, 0, none⟩) 2 ∧
  BoxM W (w.heap.size + 1 + 1 + 1) 5 ⟨#[]⟩ ⟨#[]⟩ (.slice none 0 0) (.slice (some ⟨w.heap.size + 1 + 1, 0, none⟩) 2 2) := by
 refine ⟨_, rfl, below_alloc (below_alloc (below_alloc (below_alloc (Below.refl _ _) _) _) _) _, ?_, ?_, ?_⟩
 ·have h := blk_new w (.cells #[.string ⟨#[98]⟩, .string ⟨#[50]⟩] 68)
  have hC : Kd.C k68 (w.alloc (.cells #[.string ⟨#[98]⟩, .string ⟨#[50]⟩] 68)) (some ⟨w.heap.size, 0, none⟩) 1 exML := C_one' h (k68_one _ ⟨⟨#[98]⟩, ⟨#[50]⟩⟩)
  exact Kd.C_alloc (Kd.C_alloc (Kd.C_alloc hC _) _) _
 ·refine ⟨Nat.le_refl _, Kd.C_nil _ _, Nat.le_refl _, ?_⟩
  refine Kd.C_alloc ?_ _
  have h := blk_new ((w.alloc (.cells #[.string ⟨#[98]⟩, .string ⟨#[50]⟩] 68)).alloc (.cells #[.int .i64 1, .string ⟨#[97]⟩, .string ⟨#[120]⟩, .slice none 0 0, .slice none 0 0] 25)) (.cells #[.int .i64 0, .string ⟨#[]⟩, .string ⟨#[]⟩, .slice none 0 0, .slice none 0 0, .int .i64 7, .string ⟨#[]⟩, .string ⟨#[]⟩, .slice none 0 0, .slice (some ⟨w.heap.size + 1, 0, none⟩) 1 1] 25)
  have e : ((w.alloc (.cells #[.string ⟨#[98]⟩, .string ⟨#[50]⟩] 68)).alloc (.cells #[.int .i64 1, .string ⟨#[97]⟩, .string ⟨#[120]⟩, .slice none 0 0, .slice none 0 0] 25)).heap.size = w.heap.size + 1 + 1 := by simp
  rw [e] at h
  have hk := blk_new (w.alloc (.cells #[.string ⟨#[98]⟩, .string ⟨#[50]⟩] 68)) (.cells #[.int .i64 1, .string ⟨#[97]⟩, .string ⟨#[120]⟩, .slice none 0 0, .slice none 0 0] 25)
  rw [World.size_alloc] at hk
  have hK : Kd.C k25 ((w.alloc (.cells #[.string ⟨#[98]⟩, .string ⟨#[50]⟩] 68)).alloc (.cells #[.int .i64 1, .string ⟨#[97]⟩, .string ⟨#[120]⟩, .slice none 0 0, .slice none 0 0] 25)) (some ⟨w.heap.size + 1, 0, none⟩) 1 [exMK] :=
   C_one' hk (k25_mk _ exMK (Nat.le_refl _) (Kd.C_nil _ _) (Nat.le_refl _) (Kd.C_nil _ _))
  exact C_two (cs := [.int .i64 0, .string ⟨#[]⟩, .string ⟨#[]⟩, .slice none 0 0, .slice none 0 0]) (ds := [.int .i64 7, .string ⟨#[]⟩, .string ⟨#[]⟩, .slice none 0 0, .slice (some ⟨w.heap.size + 1, 0, none⟩) 1 1]) h
   (k25_mk _ z25 (Nat.le_refl _) (Kd.C_nil _ _) (Nat.le_refl _) (Kd.C_nil _ _)) (k25_mk _ exMN (Nat.le_refl _) (Kd.C_nil _ _) (Nat.le_refl _) (Kd.C_alloc hK _))
 ·have h := blk_new (((w.alloc (.cells #[.string ⟨#[98]⟩, .string ⟨#[50]⟩] 68)).alloc (.cells #[.int .i64 1, .string ⟨#[97]⟩, .string ⟨#[120]⟩, .slice none 0 0, .slice none 0 0] 25)).alloc (.cells #[.int .i64 0, .string ⟨#[]⟩, .string ⟨#[]⟩, .slice none 0 0, .slice none 0 0, .int .i64 7, .string ⟨#[]⟩, .string ⟨#[]⟩, .slice none 0 0, .slice (some ⟨w.heap.size + 1, 0, none⟩) 1 1] 25)) (.cells #[.int .i64 5, .string ⟨#[]⟩, .string ⟨#[]⟩, .slice none 0 0, .slice (some ⟨w.heap.size + 1 + 1, 0, none⟩) 2 2] 25)
  rw [World.size_alloc, World.size_alloc, World.size_alloc] at h
  exact h
set_option maxRecDepth 100000 in
set_option maxHeartbeats 4000000 in
/-- varvelaw12.awake. -/
theorem awake52 (w : World) : Calls Try.prog 52 #[] w fun e w' => e = .returned (.bool true) ∧ Below w.heap.size w w' := by
 obtain ⟨W3, e3, hB, hL, hM, hX⟩ := exM_world w
 have E3 := Lib.hid e3
 clear e3
 go_enter Try.func52, Try.ntmps52
 go_wp2_with fail
 rw [E3.out]
 (with_reducible refine (exEvalI _ _ hL).mono ?_)
 rintro e w1 ⟨rfl, hb1⟩
 have hX1 := hX.below hb1
 have hB1 := below_step hB hb1
 have hM1 := hM.below hb1
 have hL1 := Kd.C_below hL hb1
 have c0 := hX1.c0
 have c1 := hX1.c1
 have c2 := hX1.c2
 have c3 := hX1.c3
 have c4 := hX1.c4
 clear hX hB hM hL hb1
 go_wp2_with fail
 (with_reducible refine (exTextA _ _ hM1).mono ?_)
 rintro e w2 ⟨rfl, hb2⟩
 have hX2 := hX1.below hb2
 have hB2 := below_step hB1 hb2
 have hM2 := hM1.below hb2
 have hL2 := Kd.C_below hL1 hb2
 have c0 := hX2.c0
 have c1 := hX2.c1
 have c2 := hX2.c2
 have c3 := hX2.c3
 have c4 := hX2.c4
 clear hX1 hB1 hM1 hL1 hb2
 go_wp2_with fail
 (with_reducible refine (exCheckA _ _ hM2).mono ?_)
 rintro e w3 ⟨rfl, hb3⟩
 have hX3 := hX2.below hb3
 have hB3 := below_step hB2 hb3
 have hM3 := hM2.below hb3
 have hL3 := Kd.C_below hL2 hb3
 have c0 := hX3.c0
 have c1 := hX3.c1
 have c2 := hX3.c2
 have c3 := hX3.c3
 have c4 := hX3.c4
 clear hX2 hB2 hM2 hL2 hb3
 go_wp2_with fail
 (with_reducible refine (exEvalA _ _ _ hM3 hL3).mono ?_)
 rintro e w4 ⟨rfl, hb4⟩
 go_wp2_with fail
 go_ret
 exact ⟨rfl, below_step hB3 hb4⟩
end Go.Proofs.Yteafilojjdfllaa
end
section
namespace Go.Proofs.Yteafilojjdfllaa
open Go Go.RowKit Go.Proofs.YteafilojjdfllaaW.PrintWords Go.Proofs.YteafilojjdfllaaW.PrintLast Go.Proofs.YteafilojjdfllaaW.PrintMore Go.Proofs.Yteafilojjdfllaa.PAll
set_option linter.unusedVariables false
set_option linter.unusedSimpArgs false
theorem wideL_of : ∀ (ks : List S25), (∀ k ∈ ks, wideM k) → wideL ks
 | [], _ => trivial
 | k :: ks, h => ⟨h k (List.mem_cons_self ..), wideL_of ks (fun x hx => h x (List.mem_cons_of_mem _ hx))⟩
theorem ok_wide : ∀ (N : Nat) (m : S25), nodesM m ≤ N → okM m = true → wideM m
 | 0, m, h, _ => by rw [nodesM_mk] at h; omega
 | N + 1, m, h, hok => by
  have hsz := leaf_sizes hok
  rw [wideM_mk]
  rcases shape hok with rfl | ⟨op, n, v, ho, hn, rfl⟩ | ⟨n, vs, hn, rfl⟩ | ⟨op, ks, ho, hk, rfl⟩
  ·exact ⟨by simp, trivial⟩
  ·exact ⟨by simp, trivial⟩
  ·exact ⟨by have := (hsz.2 rfl).2.1; simp only at this ⊢; omega, trivial⟩
  ·refine ⟨by simp, wideL_of ks (fun k hkm => ok_wide N k ?_ (okL_mem hk hkm))⟩
   have := nodes_lt ⟨op, ⟨#[]⟩, ⟨#[]⟩, [], ks⟩ k hkm
   omega
theorem ok_vals1000 {m : S25} (hok : okM m = true) : m.f3.length ≤ 1000 := by
 have hsz := leaf_sizes hok
 rcases shape hok with rfl | ⟨op, n, v, ho, hn, rfl⟩ | ⟨n, vs, hn, rfl⟩ | ⟨op, ks, ho, hk, rfl⟩
 ·simp
 ·simp
 ·have := (hsz.2 rfl).2.1; simp only at this ⊢; omega
 ·simp
theorem same90v (w : World) (m : S25) (hk : chkB m = true) (A3 : Option Addr) (c3 : Nat) (A4 : Option Addr) (c4 : Nat) (B3 : Option Addr) (d3 : Nat) (B4 : Option Addr) (d4 : Nat) (hM : MC w m A3 c3 A4 c4) (hN : MC w m B3 d3 B4 d4) :
  Calls Try.prog 90 #[.agg #[.int .i64 m.f0, .string m.f1, .string m.f2, .slice A3 m.f3.length c3, .slice A4 m.f4.length c4], .agg #[.int .i64 m.f0, .string m.f1, .string m.f2, .slice B3 m.f3.length d3, .slice B4 m.f4.length d4]] w fun e w' => e = .returned (.bool true) ∧ Below w.heap.size w w' := by
 obtain ⟨h1, h2, h3, h4⟩ := chk_def.1 hk
 exact same90 (nodesM m) m (Nat.le_refl _) (by omega) (ok_vals1000 h1) (ok_wide _ m (Nat.le_refl _) h1) A3 c3 A4 c4 B3 d3 B4 d4 w hM hN
theorem matW_back {bs : List UInt8} {m : S25} {n : Nat} (hn : bs.length = n) (h : chkB m = true) : matW (bs ++ encM m) (n : Int) = some (m, []) := by
 obtain ⟨h1, h2, h3, h4⟩ := chk_def.1 h
 unfold matW
 rw [if_neg (by omega), Int.toNat_natCast, ← hn, List.drop_left]
 have := decM_enc (nodesM m) m 8 64 [] (Nat.le_refl _) h1 (by omega) (by omega) (by omega)
 rw [List.append_nil] at this
 rw [this]
 simp [Option.filter, h]
theorem matW_chk {bs t : List UInt8} {i : Int} {m : S25} (h : matW bs i = some (m, t)) : chkB m = true := by
 unfold matW at h
 split at h
 ·cases h
 ·rw [Option.map_eq_some_iff] at h
  obtain ⟨q, hq, e⟩ := h
  have := Option.filter_eq_some_iff.1 hq
  simp only [Prod.mk.injEq] at e
  rw [← e.1]
  simpa using this.2
theorem zero_chk : chkB ⟨0, ⟨#[]⟩, ⟨#[]⟩, [], []⟩ = true := by decide +kernel
theorem str_parts2 (bs xs : List UInt8) : (⟨(bs ++ xs).toArray⟩ : ByteArray) = (⟨bs.toArray⟩ : ByteArray) ++ (⟨xs.toArray⟩ : ByteArray) := by
 apply ByteArray.ext
 simp
/-- an operation of its own that hands back a value and leaves the world -/
theorem conv2_ {P : Program} {ops : Array Oper} {oi : Oper} {N : Option Tmp} {a : Act} {w : World} {K : Act → World → Prop} {Q : Exit → Act → World → Prop} {v : Value} {s t : TypeId} {o : Operand} (hw : Region.wanted oi (yielded ops a.tmps) = true) (hop : oi.op = .convert s t o) (hx : (convert s t (a.eval o)).run P w = .ok v w) (hN : oi.dst = N) (h : K (a.put N v) w) : if Region.wanted oi (yielded ops a.tmps) = true then Oper.wp P oi a w K Q else K (a.put N undef) w := by
 rw [if_pos hw]
 subst hN
 unfold Oper.wp execOp
 simp only [hop, Sem.run_bind, Sem.run_pure, hx, Result.andThen_ok]
 exact h
noncomputable def tabR27_4 : Bool × List (List Nat × List Nat) := rtab .any (opsOf Try.f27 4)
theorem tabR27_4_eq : rtab .any (opsOf Try.f27 4) = tabR27_4 := rfl
noncomputable def tabR27_6 : Bool × List (List Nat × List Nat) := rtab .any (opsOf Try.f27 6)
theorem tabR27_6_eq : rtab .any (opsOf Try.f27 6) = tabR27_6 := rfl
set_option maxRecDepth 100000 in
set_option maxHeartbeats 16000000 in
theorem matchBytes_walk (w : World) (m : S25) (A3 : Option Addr) (c3 : Nat) (A4 : Option Addr) (c4 : Nat) (B : Option Addr) (n d : Nat) (bs : List UInt8) (at_ : Int) (hn : bs.length = n) (hd : n ≤ d) (hlb : n ≤ 140737488355328) (hM : MC w m A3 c3 A4 c4) (hD : (Kd.int .u8).C w B bs.length (bys bs)) :
  Calls Try.prog 27 #[.agg #[.int .i64 m.f0, .string m.f1, .string m.f2, .slice A3 m.f3.length c3, .slice A4 m.f4.length c4], .slice B n d, .int .i64 at_] w fun e w' => e = .returned (.bool true) ∧ Below w.heap.size w w' := by
 have HM := Lib.hid hM
 have HD := Lib.hid hD
 have HN := Lib.hid hn
 obtain ⟨V, eV⟩ : ∃ V, V = w.alloc (.cells #[.int .i64 m.f0, .string m.f1, .string m.f2, .slice A3 m.f3.length c3, .slice A4 m.f4.length c4] 25) := ⟨_, rfl⟩
 have hX : BoxM V w.heap.size m.f0 m.f1 m.f2 (.slice A3 m.f3.length c3) (.slice A4 m.f4.length c4) := by rw [eV]; exact blk_new w _
 have hBV : Below w.heap.size w V := by rw [eV]; exact below_alloc (Below.refl _ _) _
 have h1 := tiny31 V m A3 c3 A4 c4 (hM.below hBV)
 have H1 := Lib.hid h1
 have HX := Lib.hid hX
 have HBV := Lib.hid hBV
 have k0 := (hX).c0
 have k1 := (hX).c1
 have k2 := (hX).c2
 have k3 := (hX).c3
 have k4 := (hX).c4
 rw [eV] at k0 k1 k2 k3 k4
 clear hM hD hn hX hBV h1
 go_enter Try.func27, Try.ntmps27
 go_wp2_with fail
 rw [← eV]
 refine H1.out.mono ?_
 rintro e w1 ⟨v, rfl, hb1, ht⟩
 clear k0 k1 k2 k3 k4 H1 eV
 cases v with
 | false =>
  have HB1 := Lib.hid (below_step HBV.out hb1)
  clear hb1 ht
  go_wp2_with fail
  (with_reducible refine (awake52 _).mono ?_)
  rintro e w15 ⟨rfl, hb15⟩
  go_wp2
  go_ret
  exact ⟨rfl, below_step HB1.out hb15⟩
 | true =>
  have HT := Lib.hid (ht rfl)
  have hX1 := HX.out.below hb1
  have k0 := (hX1).c0
  have k1 := (hX1).c1
  have k2 := (hX1).c2
  have k3 := (hX1).c3
  have k4 := (hX1).c4
  have HX1 := Lib.hid hX1
  have HB1 := Lib.hid (below_step HBV.out hb1)
  have h36 := fun v hv => check36v w1 m A3 c3 A4 c4 v hv HT.out.2.1 (HM.out.below (below_step HBV.out hb1))
  have H36 := Lib.hid h36
  clear hb1 ht h36 hX1
  cases hk : chkB m with
  | true =>
   have HK := Lib.hid hk
   have HOK := Lib.hid (show okM m = true ∧ nodesM m ≤ 64 ∧ (encM m).length ≤ 1000000 from by
    obtain ⟨h1, h2, h3, h4⟩ := chk_def.1 hk
    have := encM_small hk
    exact ⟨h1, by omega, by omega⟩)
   have hE17 := encM_small hk
   have H36' := Lib.hid (H36.out true hk)
   clear hk H36
   go_wp2_with fail
   refine H36'.out.mono ?_
   rintro e w2 ⟨rfl, hb2⟩
   have HB2 := Lib.hid (below_step HB1.out hb2)
   have HX2 := Lib.hid (HX1.out.below hb2)
   have HBVw := Lib.hid (show Below w.heap.size w w2 from below_step HB1.out hb2)
   clear k0 k1 k2 k3 k4 hb2 H36'
   go_wp2_with fail
   refine start_ (n := 6) (S := fun W => Below w2.heap.size w2 W) (ds := []) #[false, false, false, false, false, false] (by kernel_rfl) rfl rfl (below_drew (Below.refl _ _)) (fun hHeld => ?_)
   refine with_tab (T := tabR27_4) tabR27_4_eq (fun HT_ => ?_)
   refine pure_ (i := 0) (N := some 22) (v := ?_) (a' := ?_) #[true, false, false, false, false, false] rfl rfl (any_of HT_.out (by kernel_rfl)) (fun _ _ _ h => h) (Or.inl ⟨by rfl, ?_⟩) ?_ ?_
   rotate_left
   ·intro w'
    go_simp
    with_reducible rfl
   rotate_left
   ·simp only [Act.put, List.setIfInBounds_toArray, List.set_cons_zero, List.set_cons_succ, i64_w, i32_w]
    rfl
   refine take_ (i := 2) (N := some 24) (v := ?_) (a' := ?_) #[true, false, true, false, false, false] rfl rfl (take_of HT_.out (by kernel_rfl)) (fun _ _ _ h => h) (Or.inl ⟨by rfl, ?_⟩) hHeld ?_ ?_
   rotate_left
   ·intro w' hh
    have q := (HX2.out.below hh)
    have q0 := q.c0
    have q1 := q.c1
    have q2 := q.c2
    have q3 := q.c3
    have q4 := q.c4
    go_simp
    with_reducible rfl
   rotate_left
   ·simp only [Act.put, List.setIfInBounds_toArray, List.set_cons_zero, List.set_cons_succ, i64_w, i32_w]
    rfl
   refine one_ (i := 1) (N := some 23) #[true, true, true, false, false, false] rfl rfl (one_of HT_.out (by kernel_rfl)) (by decide) (fun K_ hK_ => ?_)
   refine goes_ Try.func73 (by kernel_rfl) rfl #[.slice B n d] (by rfl) rfl rfl (by (try simp only [List.map_toArray, List.map_cons, List.map_nil]); first | done | rfl) ?_
   (with_reducible refine (bytes73 _ B n d bs HN.out (by omega) (Kd.C_below HD.out (below_step HBVw.out hHeld))).mono ?_)
   rintro e w5 ⟨A1, n1, c1, rfl, HN1, hc1, HR1, hb5⟩
   refine ⟨_, rfl, ?_⟩
   refine hK_.out _ _ (below_step hHeld hb5) (fun hHeld => ?_)
   clear hK_ K_
   try simp only [Act.put, List.setIfInBounds_toArray, List.set_cons_zero, List.set_cons_succ]
   refine one_ (i := 3) (N := some 25) #[true, true, true, true, false, false] rfl rfl (one_of HT_.out (by kernel_rfl)) (by decide) (fun K_ hK_ => ?_)
   refine goes_ Try.func54 (by kernel_rfl) rfl #[.agg #[.int .i64 m.f0, .string m.f1, .string m.f2, .slice A3 m.f3.length c3, .slice A4 m.f4.length c4]] (by rfl) rfl rfl (by (try simp only [List.map_toArray, List.map_cons, List.map_nil]); first | done | rfl) ?_
   (with_reducible refine (matcher54 _ m A3 c3 A4 c4 HT.out (HM.out.below (below_step HBVw.out hHeld))).mono ?_)
   rintro e w6 ⟨D3, f3, D4, f4, rfl, hMF6, hb6⟩
   have HMF6 := Lib.hid hMF6.now
   have HC6 := Lib.hid (Kd.C_below (R_C HR1.out) hb6)
   clear hMF6
   refine ⟨_, rfl, ?_⟩
   refine hK_.out _ _ (below_step hHeld hb6) (fun hHeld => ?_)
   clear hK_ K_
   try simp only [Act.put, List.setIfInBounds_toArray, List.set_cons_zero, List.set_cons_succ]
   refine one_ (i := 4) (N := some 26) #[true, true, true, true, true, false] rfl rfl (one_of HT_.out (by kernel_rfl)) (by decide) (fun K_ hK_ => ?_)
   refine goes_ Try.func87 (by kernel_rfl) rfl #[.slice A1 n1 c1, .agg #[.int .i64 m.f0, .string m.f1, .string m.f2, .slice D3 m.f3.length f3, .slice D4 m.f4.length f4]] (by rfl) rfl rfl (by (try simp only [List.map_toArray, List.map_cons, List.map_nil]); first | done | rfl) ?_
   (with_reducible refine (mPut87 m HK.out A1 n1 c1 bs D3 f3 D4 f4 _ HN1.out hc1 (by have := HN.out; have := HN1.out; omega) HC6.out HMF6.out).mono ?_)
   rintro e w7 ⟨A7, n7, c7, rfl, HN7, hc7, HC7, hb7⟩
   refine ⟨_, rfl, ?_⟩
   refine hK_.out _ _ (below_step hHeld hb7) (fun hHeld => ?_)
   clear hK_ K_
   try simp only [Act.put, List.setIfInBounds_toArray, List.set_cons_zero, List.set_cons_succ]
   refine pure_ (i := 5) (N := some 7) (v := ?_) (a' := ?_) #[true, true, true, true, true, true] rfl rfl (any_of HT_.out (by kernel_rfl)) (fun _ _ _ h => h) (Or.inl ⟨by rfl, ?_⟩) ?_ ?_
   rotate_left
   ·intro w'
    go_simp
    with_reducible rfl
   rotate_left
   ·simp only [Act.put, List.setIfInBounds_toArray, List.set_cons_zero, List.set_cons_succ, i64_w, i32_w]
    rfl
   refine done_ (done_of HT_.out (by kernel_rfl)) ?_
   have HB7 := Lib.hid (below_step HBVw.out hHeld)
   have HX7 := Lib.hid (HX2.out.below hHeld)
   have hn7 : n7 ≤ 199999999990000 := by have h1 := HN.out; have h2 := HN7.out; rw [List.length_append] at h2; omega
   have h8 := mGet88 w7 A7 n7 c7 (bs ++ encM m) (n : Int) HN7.out (by omega) hc7 HC7.out
   rw [matW_back HN.out HK.out] at h8
   have H8 := Lib.hid h8
   clear h8 hHeld HMF6 HC6 HR1 hc1 HN1
   go_wp2_with fail
   refine H8.out.mono ?_
   rintro e w8 ⟨hb8, hres⟩
   obtain ⟨E3, e3, E4, e4, rfl, hMF⟩ : ∃ A3 c3 A4 c4, e = .returned (.tuple #[mV m A3 c3 A4 c4, .int .i64 (n7 : Int), .bool true]) ∧ MF w8 (fun b => w7.heap.size ≤ b ∧ b < w8.heap.size) m A3 c3 A4 c4 := by
    rcases hres with ⟨h, -⟩ | ⟨m', r', A3', c3', A4', c4', h, he, hM'⟩
    ·cases h
    ·simp only [Option.some.injEq, Prod.mk.injEq] at h
     obtain ⟨rfl, rfl⟩ := h
     exact ⟨_, _, _, _, by simpa using he, hM'⟩
   obtain ⟨W8, eW8⟩ : ∃ W8, W8 = w8.alloc (.cells #[.int .i64 m.f0, .string m.f1, .string m.f2, .slice E3 m.f3.length e3, .slice E4 m.f4.length e4] 25) := ⟨_, rfl⟩
   have hBW8 : Below w8.heap.size w8 W8 := by rw [eW8]; exact below_alloc (Below.refl _ _) _
   have hb8' := below_step hb8 hBW8
   have HX8 := Lib.hid (HX7.out.below hb8')
   have HY8 : Hid (BoxM W8 w8.heap.size m.f0 m.f1 m.f2 (.slice E3 m.f3.length e3) (.slice E4 m.f4.length e4)) := Lib.hid (by rw [eW8]; exact blk_new w8 _)
   have HMG := Lib.hid (hMF.now.below hBW8)
   have HB8 := Lib.hid (below_step HB7.out hb8')
   have HC8 := Lib.hid (Kd.C_below HC7.out hb8')
   obtain ⟨E, hE⟩ : ∃ E, encM m = E := ⟨_, rfl⟩
   obtain ⟨X, hXX⟩ : ∃ X, bs ++ encM m = X := ⟨_, rfl⟩
   have HE := Lib.hid hE
   have HXX := Lib.hid hXX
   have hS : (⟨bs.toArray⟩ : ByteArray) ++ (⟨E.toArray⟩ : ByteArray) = (⟨X.toArray⟩ : ByteArray) := by rw [← hXX, ← hE]; exact (str_parts2 _ _).symm
   obtain ⟨sb, hsb⟩ : ∃ s : ByteArray, (⟨bs.toArray⟩ : ByteArray) = s := ⟨_, rfl⟩
   obtain ⟨se, hse⟩ : ∃ s : ByteArray, (⟨E.toArray⟩ : ByteArray) = s := ⟨_, rfl⟩
   obtain ⟨sx, hsx⟩ : ∃ s : ByteArray, (⟨X.toArray⟩ : ByteArray) = s := ⟨_, rfl⟩
   have HSB := Lib.hid hsb
   have HSE := Lib.hid hse
   have HSX := Lib.hid hsx
   rw [hsb, hse, hsx] at hS
   have hzb : sb.size ≤ 140737488355328 := by rw [← hsb]; have := HN.out; simp only [ByteArray.size, List.size_toArray]; omega
   have hze : se.size ≤ 17000 := by rw [← hse, ← hE]; simpa [ByteArray.size] using hE17
   have hsm : ¬ 9223372036854775807 < sb.size + se.size := by omega
   rw [HXX.out] at HC8 HN7
   have v0 := fun W (h : Below W8.heap.size W8 W) => by
    have h2 := Kd.C_string (P := Try.prog) (c := c7) Try.underlying85 Try.underlying5 Try.underlying9 (Kd.C_below HC8.out h)
    rw [str_bytes, HSX.out, HN7.out] at h2
    exact h2
   have v1 := fun W (h : Below W8.heap.size W8 W) => by
    have h2 := Kd.C_string (P := Try.prog) (c := d) Try.underlying85 Try.underlying5 Try.underlying9 (Kd.C_below (Kd.C_below HD.out HB8.out) h)
    rw [str_bytes, HSB.out, HN.out] at h2
    exact h2
   clear hres hMF hb8 hBW8 hb8' hE hXX hsb hse hsx hzb hze H8 HC7
   go_wp2_with fail
   rw [← eW8]
   refine start_ (n := 25) (S := fun W => Below W8.heap.size W8 W) (ds := []) #[false, false, false, false, false, false, false, false, false, false, false, false, false, false, false, false, false, false, false, false, false, false, false, false, false] (by kernel_rfl) rfl rfl (below_drew (Below.refl _ _)) (fun hHeld => ?_)
   refine with_tab (T := tabR27_6) tabR27_6_eq (fun HT_ => ?_)
   refine pure_ (i := 0) (N := some 35) (v := ?_) (a' := ?_) #[true, false, false, false, false, false, false, false, false, false, false, false, false, false, false, false, false, false, false, false, false, false, false, false, false] rfl rfl (any_of HT_.out (by kernel_rfl)) (fun _ _ _ h => h) (Or.inl ⟨by rfl, ?_⟩) ?_ ?_
   rotate_left
   ·intro w'
    go_simp
    with_reducible rfl
   rotate_left
   ·simp only [Act.put, List.setIfInBounds_toArray, List.set_cons_zero, List.set_cons_succ, i64_w, i32_w]
    rfl
   refine pure_ (i := 2) (N := some 37) (v := ?_) (a' := ?_) #[true, false, true, false, false, false, false, false, false, false, false, false, false, false, false, false, false, false, false, false, false, false, false, false, false] rfl rfl (any_of HT_.out (by kernel_rfl)) (fun _ _ _ h => h) (Or.inl ⟨by rfl, ?_⟩) ?_ ?_
   rotate_left
   ·intro w'
    go_simp
    with_reducible rfl
   rotate_left
   ·simp only [Act.put, List.setIfInBounds_toArray, List.set_cons_zero, List.set_cons_succ, i64_w, i32_w]
    rfl
   refine take_ (i := 1) (N := some 36) (v := ?_) (a' := ?_) #[true, true, true, false, false, false, false, false, false, false, false, false, false, false, false, false, false, false, false, false, false, false, false, false, false] rfl rfl (take_of HT_.out (by kernel_rfl)) (fun _ _ _ h => h) (Or.inl ⟨by rfl, ?_⟩) hHeld ?_ ?_
   rotate_left
   ·intro w' hh
    have hcv := v0 w' hh
    go_simp
    with_reducible rfl
   rotate_left
   ·simp only [Act.put, List.setIfInBounds_toArray, List.set_cons_zero, List.set_cons_succ, i64_w, i32_w]
    rfl
   refine take_ (i := 3) (N := some 38) (v := ?_) (a' := ?_) #[true, true, true, true, false, false, false, false, false, false, false, false, false, false, false, false, false, false, false, false, false, false, false, false, false] rfl rfl (take_of HT_.out (by kernel_rfl)) (fun _ _ _ h => h) (Or.inl ⟨by rfl, ?_⟩) hHeld ?_ ?_
   rotate_left
   ·intro w' hh
    have hcv := v1 w' hh
    go_simp
    with_reducible rfl
   rotate_left
   ·simp only [Act.put, List.setIfInBounds_toArray, List.set_cons_zero, List.set_cons_succ, i64_w, i32_w]
    rfl
   refine take_ (i := 4) (N := some 39) (v := ?_) (a' := ?_) #[true, true, true, true, true, false, false, false, false, false, false, false, false, false, false, false, false, false, false, false, false, false, false, false, false] rfl rfl (take_of HT_.out (by kernel_rfl)) (fun _ _ _ h => h) (Or.inl ⟨by rfl, ?_⟩) hHeld ?_ ?_
   rotate_left
   ·intro w' hh
    have q := (HX8.out.below hh)
    have q0 := q.c0
    have q1 := q.c1
    have q2 := q.c2
    have q3 := q.c3
    have q4 := q.c4
    go_simp
    with_reducible rfl
   rotate_left
   ·simp only [Act.put, List.setIfInBounds_toArray, List.set_cons_zero, List.set_cons_succ, i64_w, i32_w]
    rfl
   refine one_ (i := 5) (N := some 40) #[true, true, true, true, true, true, false, false, false, false, false, false, false, false, false, false, false, false, false, false, false, false, false, false, false] rfl rfl (one_of HT_.out (by kernel_rfl)) (by decide) (fun K_ hK_ => ?_)
   refine goes_ Try.func89 (by kernel_rfl) rfl #[.agg #[.int .i64 m.f0, .string m.f1, .string m.f2, .slice A3 m.f3.length c3, .slice A4 m.f4.length c4]] (by rfl) rfl rfl (by (try simp only [List.map_toArray, List.map_cons, List.map_nil]); first | done | rfl) ?_
   (with_reducible refine (rput89 (nodesM m) m (Nat.le_refl _) HOK.out.1 HOK.out.2.1 HOK.out.2.2 A3 c3 A4 c4 _ (HM.out.below (below_step HB8.out hHeld))).mono ?_)
   rintro e w9 ⟨A9, n9, c9, rfl, HN9, hc9, HC9, hb9⟩
   have hH9 := below_step hHeld hb9
   have v2 := Kd.C_string (P := Try.prog) (c := c9) Try.underlying85 Try.underlying5 Try.underlying9 HC9.out
   rw [HE.out] at HN9
   rw [HE.out, str_bytes, HSE.out, HN9.out] at v2
   have V2 := Lib.hid v2
   clear v2
   refine ⟨_, rfl, ?_⟩
   refine hK_.out _ _ (hH9) (fun hHeld => ?_)
   clear hK_ K_
   try simp only [Act.put, List.setIfInBounds_toArray, List.set_cons_zero, List.set_cons_succ]
   refine one_ (i := 6) (N := some 41) #[true, true, true, true, true, true, true, false, false, false, false, false, false, false, false, false, false, false, false, false, false, false, false, false, false] rfl rfl (one_of HT_.out (by kernel_rfl)) (by decide) (fun K_ hK_ => ?_)
   refine conv2_ (v := .string se) rfl rfl V2.out rfl ?_
   refine hK_.out _ _ hHeld (fun hHeld => ?_)
   clear hK_ K_
   try simp only [Act.put, List.setIfInBounds_toArray, List.set_cons_zero, List.set_cons_succ]
   refine pure_ (i := 7) (N := some 42) (v := ?_) (a' := ?_) #[true, true, true, true, true, true, true, true, false, false, false, false, false, false, false, false, false, false, false, false, false, false, false, false, false] rfl rfl (any_of HT_.out (by kernel_rfl)) (fun _ _ _ h => h) (Or.inl ⟨by rfl, ?_⟩) ?_ ?_
   rotate_left
   ·intro w'
    go_simp
    with_reducible rfl
   rotate_left
   ·simp only [Act.put, List.setIfInBounds_toArray, List.set_cons_zero, List.set_cons_succ, i64_w, i32_w]
    rfl
   refine pure_ (i := 8) (N := some 43) (v := ?_) (a' := ?_) #[true, true, true, true, true, true, true, true, true, false, false, false, false, false, false, false, false, false, false, false, false, false, false, false, false] rfl rfl (any_of HT_.out (by kernel_rfl)) (fun _ _ _ h => h) (Or.inl ⟨by rfl, ?_⟩) ?_ ?_
   rotate_left
   ·intro w'
    go_simp
    with_reducible rfl
   rotate_left
   ·simp only [Act.put, List.setIfInBounds_toArray, List.set_cons_zero, List.set_cons_succ, i64_w, i32_w]
    rfl
   refine pure_ (i := 9) (N := some 44) (v := ?_) (a' := ?_) #[true, true, true, true, true, true, true, true, true, true, false, false, false, false, false, false, false, false, false, false, false, false, false, false, false] rfl rfl (any_of HT_.out (by kernel_rfl)) (fun _ _ _ h => h) (Or.inl ⟨by rfl, ?_⟩) ?_ ?_
   rotate_left
   ·intro w'
    go_simp
    with_reducible rfl
   rotate_left
   ·simp only [Act.put, List.setIfInBounds_toArray, List.set_cons_zero, List.set_cons_succ, i64_w, i32_w]
    rfl
   refine take_ (i := 10) (N := some 45) (v := ?_) (a' := ?_) #[true, true, true, true, true, true, true, true, true, true, true, false, false, false, false, false, false, false, false, false, false, false, false, false, false] rfl rfl (take_of HT_.out (by kernel_rfl)) (fun _ _ _ h => h) (Or.inl ⟨by rfl, ?_⟩) hHeld ?_ ?_
   rotate_left
   ·intro w' hh
    have q := (HY8.out.below hh)
    have q0 := q.c0
    have q1 := q.c1
    have q2 := q.c2
    have q3 := q.c3
    have q4 := q.c4
    go_simp
    with_reducible rfl
   rotate_left
   ·simp only [Act.put, List.setIfInBounds_toArray, List.set_cons_zero, List.set_cons_succ, i64_w, i32_w]
    rfl
   refine take_ (i := 11) (N := some 46) (v := ?_) (a' := ?_) #[true, true, true, true, true, true, true, true, true, true, true, true, false, false, false, false, false, false, false, false, false, false, false, false, false] rfl rfl (take_of HT_.out (by kernel_rfl)) (fun _ _ _ h => h) (Or.inl ⟨by rfl, ?_⟩) hHeld ?_ ?_
   rotate_left
   ·intro w' hh
    have q := (HX8.out.below hh)
    have q0 := q.c0
    have q1 := q.c1
    have q2 := q.c2
    have q3 := q.c3
    have q4 := q.c4
    go_simp
    with_reducible rfl
   rotate_left
   ·simp only [Act.put, List.setIfInBounds_toArray, List.set_cons_zero, List.set_cons_succ, i64_w, i32_w]
    rfl
   refine one_ (i := 12) (N := some 47) #[true, true, true, true, true, true, true, true, true, true, true, true, true, false, false, false, false, false, false, false, false, false, false, false, false] rfl rfl (one_of HT_.out (by kernel_rfl)) (by decide) (fun K_ hK_ => ?_)
   refine goes_ Try.func90 (by kernel_rfl) rfl #[.agg #[.int .i64 m.f0, .string m.f1, .string m.f2, .slice E3 m.f3.length e3, .slice E4 m.f4.length e4], .agg #[.int .i64 m.f0, .string m.f1, .string m.f2, .slice A3 m.f3.length c3, .slice A4 m.f4.length c4]] (by rfl) rfl rfl (by (try simp only [List.map_toArray, List.map_cons, List.map_nil]); first | done | rfl) ?_
   (with_reducible refine (same90v _ m HK.out E3 e3 E4 e4 A3 c3 A4 c4 (HMG.out.below hHeld) (HM.out.below (below_step HB8.out hHeld))).mono ?_)
   rintro e w10 ⟨rfl, hb10⟩
   refine ⟨_, rfl, ?_⟩
   refine hK_.out _ _ (below_step hHeld hb10) (fun hHeld => ?_)
   clear hK_ K_
   try simp only [Act.put, List.setIfInBounds_toArray, List.set_cons_zero, List.set_cons_succ]
   refine pure_ (i := 13) (N := some 48) (v := ?_) (a' := ?_) #[true, true, true, true, true, true, true, true, true, true, true, true, true, true, false, false, false, false, false, false, false, false, false, false, false] rfl rfl (any_of HT_.out (by kernel_rfl)) (fun _ _ _ h => h) (Or.inl ⟨by rfl, ?_⟩) ?_ ?_
   rotate_left
   ·intro w'
    go_simp
    with_reducible rfl
   rotate_left
   ·simp only [Act.put, List.setIfInBounds_toArray, List.set_cons_zero, List.set_cons_succ, i64_w, i32_w]
    rfl
   refine pure_ (i := 14) (N := some 49) (v := ?_) (a' := ?_) #[true, true, true, true, true, true, true, true, true, true, true, true, true, true, true, false, false, false, false, false, false, false, false, false, false] rfl rfl (any_of HT_.out (by kernel_rfl)) (fun _ _ _ h => h) (Or.inl ⟨by rfl, ?_⟩) ?_ ?_
   rotate_left
   ·intro w'
    go_simp
    with_reducible rfl
   rotate_left
   ·simp only [Act.put, List.setIfInBounds_toArray, List.set_cons_zero, List.set_cons_succ, i64_w, i32_w]
    rfl
   refine pure_ (i := 15) (N := some 50) (v := ?_) (a' := ?_) #[true, true, true, true, true, true, true, true, true, true, true, true, true, true, true, true, false, false, false, false, false, false, false, false, false] rfl rfl (any_of HT_.out (by kernel_rfl)) (fun _ _ _ h => h) (Or.inl ⟨by rfl, ?_⟩) ?_ ?_
   rotate_left
   ·intro w'
    go_simp
    with_reducible rfl
   rotate_left
   ·simp only [Act.put, List.setIfInBounds_toArray, List.set_cons_zero, List.set_cons_succ, i64_w, i32_w]
    rfl
   refine pure_ (i := 16) (N := some 51) (v := ?_) (a' := ?_) #[true, true, true, true, true, true, true, true, true, true, true, true, true, true, true, true, true, false, false, false, false, false, false, false, false] rfl rfl (any_of HT_.out (by kernel_rfl)) (fun _ _ _ h => h) (Or.inl ⟨by rfl, ?_⟩) ?_ ?_
   rotate_left
   ·intro w'
    go_simp
    with_reducible rfl
   rotate_left
   ·simp only [Act.put, List.setIfInBounds_toArray, List.set_cons_zero, List.set_cons_succ, i64_w, i32_w]
    rfl
   refine pure_ (i := 17) (N := some 52) (v := ?_) (a' := ?_) #[true, true, true, true, true, true, true, true, true, true, true, true, true, true, true, true, true, true, false, false, false, false, false, false, false] rfl rfl (any_of HT_.out (by kernel_rfl)) (fun _ _ _ h => h) (Or.inl ⟨by rfl, ?_⟩) ?_ ?_
   rotate_left
   ·intro w'
    go_simp
    with_reducible rfl
   rotate_left
   ·simp only [Act.put, List.setIfInBounds_toArray, List.set_cons_zero, List.set_cons_succ, i64_w, i32_w]
    rfl
   refine pure_ (i := 18) (N := some 53) (v := ?_) (a' := ?_) #[true, true, true, true, true, true, true, true, true, true, true, true, true, true, true, true, true, true, true, false, false, false, false, false, false] rfl rfl (any_of HT_.out (by kernel_rfl)) (fun _ _ _ h => h) (Or.inl ⟨by rfl, ?_⟩) ?_ ?_
   rotate_left
   ·intro w'
    go_simp
    with_reducible rfl
   rotate_left
   ·simp only [Act.put, List.setIfInBounds_toArray, List.set_cons_zero, List.set_cons_succ, i64_w, i32_w]
    rfl
   refine pure_ (i := 19) (N := some 54) (v := ?_) (a' := ?_) #[true, true, true, true, true, true, true, true, true, true, true, true, true, true, true, true, true, true, true, true, false, false, false, false, false] rfl rfl (any_of HT_.out (by kernel_rfl)) (fun _ _ _ h => h) (Or.inl ⟨by rfl, ?_⟩) ?_ ?_
   rotate_left
   ·intro w'
    go_simp
    with_reducible rfl
   rotate_left
   ·simp only [Act.put, List.setIfInBounds_toArray, List.set_cons_zero, List.set_cons_succ, i64_w, i32_w]
    rfl
   refine pure_ (i := 20) (N := some 55) (v := ?_) (a' := ?_) #[true, true, true, true, true, true, true, true, true, true, true, true, true, true, true, true, true, true, true, true, true, false, false, false, false] rfl rfl (any_of HT_.out (by kernel_rfl)) (fun _ _ _ h => h) (Or.inl ⟨by rfl, ?_⟩) ?_ ?_
   rotate_left
   ·intro w'
    go_simp
    with_reducible rfl
   rotate_left
   ·simp only [Act.put, List.setIfInBounds_toArray, List.set_cons_zero, List.set_cons_succ, i64_w, i32_w]
    rfl
   refine pure_ (i := 21) (N := some 56) (v := ?_) (a' := ?_) #[true, true, true, true, true, true, true, true, true, true, true, true, true, true, true, true, true, true, true, true, true, true, false, false, false] rfl rfl (any_of HT_.out (by kernel_rfl)) (fun _ _ _ h => h) (Or.inl ⟨by rfl, ?_⟩) ?_ ?_
   rotate_left
   ·intro w'
    go_simp
    with_reducible rfl
   rotate_left
   ·simp only [Act.put, List.setIfInBounds_toArray, List.set_cons_zero, List.set_cons_succ, i64_w, i32_w]
    rfl
   refine pure_ (i := 22) (N := some 57) (v := ?_) (a' := ?_) #[true, true, true, true, true, true, true, true, true, true, true, true, true, true, true, true, true, true, true, true, true, true, true, false, false] rfl rfl (any_of HT_.out (by kernel_rfl)) (fun _ _ _ h => h) (Or.inl ⟨by rfl, ?_⟩) ?_ ?_
   rotate_left
   ·intro w'
    go_simp
    with_reducible rfl
   rotate_left
   ·simp only [Act.put, List.setIfInBounds_toArray, List.set_cons_zero, List.set_cons_succ, i64_w, i32_w]
    rfl
   refine pure_ (i := 23) (N := some 58) (v := ?_) (a' := ?_) #[true, true, true, true, true, true, true, true, true, true, true, true, true, true, true, true, true, true, true, true, true, true, true, true, false] rfl rfl (any_of HT_.out (by kernel_rfl)) (fun _ _ _ h => h) (Or.inl ⟨by rfl, ?_⟩) ?_ ?_
   rotate_left
   ·intro w'
    go_simp
    with_reducible rfl
   rotate_left
   ·simp only [Act.put, List.setIfInBounds_toArray, List.set_cons_zero, List.set_cons_succ, i64_w, i32_w]
    rfl
   refine pure_ (i := 24) (N := some 59) (v := ?_) (a' := ?_) #[true, true, true, true, true, true, true, true, true, true, true, true, true, true, true, true, true, true, true, true, true, true, true, true, true] rfl rfl (any_of HT_.out (by kernel_rfl)) (fun _ _ _ h => h) (Or.inl ⟨by rfl, ?_⟩) ?_ ?_
   rotate_left
   ·intro w'
    go_simp
    with_reducible rfl
   rotate_left
   ·simp only [Act.put, List.setIfInBounds_toArray, List.set_cons_zero, List.set_cons_succ, i64_w, i32_w]
    rfl
   refine done_ (done_of HT_.out (by kernel_rfl)) ?_
   have HBx := Lib.hid (below_step HB8.out hHeld)
   clear v0 v1 hHeld HC8 HMG HSB HSE HSX hS HX8 HY8
   go_wp2_with fail
   (with_reducible refine (bytes73 _ B n d bs HN.out (by omega) (Kd.C_below HD.out HBx.out)).mono ?_)
   rintro e w11 ⟨A11, n11, c11, rfl, HN11, hc11, HR11, hb11⟩
   have HB11 := Lib.hid (below_step HBx.out hb11)
   clear hb11
   have hn11 : n11 ≤ 1000000000000000 := by have := HN.out; have := HN11.out; omega
   have h12 := mGet88 w11 A11 n11 c11 bs at_ HN11.out hn11 hc11 (R_C HR11.out)
   have e11 : n11 = n := by have := HN.out; have := HN11.out; omega
   rw [e11] at h12
   cases hq : matW bs at_ with
   | none =>
    rw [hq] at h12
    have H12 := Lib.hid h12
    have HQ := Lib.hid hq
    subst e11
    clear h12 hq
    go_wp2_with fail
    refine H12.out.mono ?_
    rintro e w12 ⟨hb12, hres⟩
    obtain rfl : e = .returned (.tuple #[.agg Z5, .int .i64 0, .bool false]) := by
     rcases hres with ⟨-, h⟩ | ⟨m', r', _, _, _, _, h, -⟩
     ·exact h
     ·cases h
    have HB12 := Lib.hid (below_step HB11.out hb12)
    clear hb12 H12 hres
    obtain ⟨V, eV⟩ : ∃ V, V = (w12.alloc (.cells Z5 25)).alloc (.cells #[.slice B n11 d, .int .i64 at_, .bool false] 93) := ⟨_, rfl⟩
    obtain ⟨g11, eg⟩ : ∃ g, w12.heap.size = g := ⟨_, rfl⟩
    obtain ⟨g14, eg2⟩ : ∃ g, g11 + 1 = g := ⟨_, rfl⟩
    have hX : RB V g14 B n11 d at_ false := by
     have := blk_new (w12.alloc (.cells Z5 25)) (.cells #[.slice B n11 d, .int .i64 at_, .bool false] 93)
     rw [World.size_alloc, eg, eg2] at this
     rw [eV]; exact this
    have hY : V.heap[g11]? = some (.cells Z5 25 (0, 0)) := by rw [eV]; exact (Below.heap_alloc _ _ _ (by simp; omega)).trans (by rw [← eg]; exact blk_new w12 _)
    have hBV : Below w12.heap.size w12 V := by rw [eV]; exact below_alloc (below_alloc (Below.refl _ _) _) _
    have h13 := rmget91 w12 V g14 B n11 d bs at_ false HN.out (by omega) hd (by omega) hBV hX (Kd.C_below HD.out HB12.out)
    rw [if_neg (by decide), HQ.out] at h13
    have H13 := Lib.hid h13
    have HY := Lib.hid hY
    have HEG := Lib.hid (And.intro eg (And.intro eg2 hX.lt))
    clear h13 hX hBV hY
    go_wp2_with fail
    rw [← eV]
    refine H13.out.mono ?_
    rintro e w13 ⟨hb13, hk13, hres⟩
    obtain ⟨rfl, i, hRB⟩ : e = .returned (.agg Z5) ∧ ∃ i, RB w13 g14 B n11 d i true := by
     rcases hres with ⟨-, he, i, hRB⟩ | ⟨m', r', _, _, _, _, h, -⟩
     ·exact ⟨he, i, hRB⟩
     ·cases h
    have HB13 := Lib.hid (below_step HB12.out hb13)
    have y13 := (hk13.2 g11 (blk_lt HY.out) (by have := HEG.out; omega) (by simp)).trans HY.out
    have y13' : (w13.alloc (.cells Z5 25)).heap[g11]? = some (.cells Z5 25 (0, 0)) := (Below.heap_alloc _ _ _ (blk_lt y13)).trans y13
    have g2 := (hRB.below (below_alloc (Below.refl w13.heap.size w13) (.cells Z5 25))).c2
    have x0 := blk_cell y13' 0
    have x1 := blk_cell y13' 1
    have x2 := blk_cell y13' 2
    have x3 := blk_cell y13' 3
    have x4 := blk_cell y13' 4
    simp only [List.getElem?_toArray, List.getElem?_cons_zero, List.getElem?_cons_succ] at x0 x1 x2 x3 x4
    have H90 : Hid (∀ W, Calls Try.prog 90 #[.agg Z5, .agg Z5] W fun e w' => e = .returned (.bool true) ∧ Below W.heap.size W w') := Lib.hid (fun W => same90v W ⟨0, ⟨#[]⟩, ⟨#[]⟩, [], []⟩ zero_chk none 0 none 0 none 0 none 0 ⟨Nat.le_refl _, Kd.C_nil _ _, Nat.le_refl _, Kd.C_nil _ _⟩ ⟨Nat.le_refl _, Kd.C_nil _ _, Nat.le_refl _, Kd.C_nil _ _⟩)
    have HBA := Lib.hid (below_alloc HB13.out (.cells Z5 25))
    clear hRB hb13 hres H13 eV y13 y13' hk13 eg eg2 HEG
    go_wp2_with fail
    (with_reducible refine (H90.out _).mono ?_)
    rintro e w14 ⟨rfl, hb14⟩
    go_wp2_with fail
    (with_reducible refine (awake52 _).mono ?_)
    rintro e w15 ⟨rfl, hb15⟩
    go_wp2
    go_ret
    exact ⟨rfl, below_step (below_step HBA.out hb14) hb15⟩
   | some q =>
    obtain ⟨x, t⟩ := q
    rw [hq] at h12
    have H12 := Lib.hid h12
    have HQ := Lib.hid hq
    have HXC := Lib.hid (matW_chk hq)
    subst e11
    clear h12 hq
    go_wp2_with fail
    refine H12.out.mono ?_
    rintro e w12 ⟨hb12, hres⟩
    obtain ⟨C3, f3, C4, f4, rfl, hMF⟩ : ∃ A3 c3 A4 c4, e = .returned (.tuple #[mV x A3 c3 A4 c4, .int .i64 ((n11 : Int) - (t.length : Nat)), .bool true]) ∧ MF w12 (fun b => w11.heap.size ≤ b ∧ b < w12.heap.size) x A3 c3 A4 c4 := by
     rcases hres with ⟨h, -⟩ | ⟨m', r', A3', c3', A4', c4', h, he, hM'⟩
     ·cases h
     ·simp only [Option.some.injEq, Prod.mk.injEq] at h
      obtain ⟨rfl, rfl⟩ := h
      exact ⟨_, _, _, _, he, hM'⟩
    have HB12 := Lib.hid (below_step HB11.out hb12)
    have HMF := Lib.hid hMF.now
    clear hb12 H12 hres hMF
    obtain ⟨z, hz⟩ : ∃ z : Int, (n11 : Int) - (t.length : Nat) = z := ⟨_, rfl⟩
    rw [hz]
    obtain ⟨V, eV⟩ : ∃ V, V = (w12.alloc (.cells #[.int .i64 x.f0, .string x.f1, .string x.f2, .slice C3 x.f3.length f3, .slice C4 x.f4.length f4] 25)).alloc (.cells #[.slice B n11 d, .int .i64 at_, .bool false] 93) := ⟨_, rfl⟩
    obtain ⟨g11, eg⟩ : ∃ g, w12.heap.size = g := ⟨_, rfl⟩
    obtain ⟨g14, eg2⟩ : ∃ g, g11 + 1 = g := ⟨_, rfl⟩
    have hX : RB V g14 B n11 d at_ false := by
     have := blk_new (w12.alloc (.cells #[.int .i64 x.f0, .string x.f1, .string x.f2, .slice C3 x.f3.length f3, .slice C4 x.f4.length f4] 25)) (.cells #[.slice B n11 d, .int .i64 at_, .bool false] 93)
     rw [World.size_alloc, eg, eg2] at this
     rw [eV]; exact this
    have hY : V.heap[g11]? = some (.cells #[.int .i64 x.f0, .string x.f1, .string x.f2, .slice C3 x.f3.length f3, .slice C4 x.f4.length f4] 25 (0, 0)) := by rw [eV]; exact (Below.heap_alloc _ _ _ (by simp; omega)).trans (by rw [← eg]; exact blk_new w12 _)
    have hBV : Below w12.heap.size w12 V := by rw [eV]; exact below_alloc (below_alloc (Below.refl _ _) _) _
    have h13 := rmget91 w12 V g14 B n11 d bs at_ false HN.out (by omega) hd (by omega) hBV hX (Kd.C_below HD.out HB12.out)
    rw [if_neg (by decide), HQ.out] at h13
    have H13 := Lib.hid h13
    have HZ := Lib.hid hz
    have HY := Lib.hid hY
    have HEG := Lib.hid (And.intro eg (And.intro eg2 hX.lt))
    clear h13 hX hBV hz hY
    go_wp2_with fail
    rw [← eV]
    refine H13.out.mono ?_
    rintro e w13 ⟨hb13, hk13, hres⟩
    obtain ⟨D3, h3, D4, h4, rfl, hMF13, hRB⟩ : ∃ A3 c3 A4 c4, e = .returned (mV x A3 c3 A4 c4) ∧ MF w13 (fun b => V.heap.size ≤ b ∧ b < w13.heap.size) x A3 c3 A4 c4 ∧ RB w13 g14 B n11 d z false := by
     rcases hres with ⟨h, -⟩ | ⟨m', r', A3', c3', A4', c4', h, he, hM', hRB⟩
     ·cases h
     ·simp only [Option.some.injEq, Prod.mk.injEq] at h
      obtain ⟨rfl, rfl⟩ := h
      rw [HZ.out] at hRB
      exact ⟨_, _, _, _, he, hM', hRB⟩
    have HB13 := Lib.hid (below_step HB12.out hb13)
    have y13 := (hk13.2 g11 (blk_lt HY.out) (by have := HEG.out; omega) (by simp)).trans HY.out
    have y13' : (w13.alloc (.cells #[.int .i64 x.f0, .string x.f1, .string x.f2, .slice D3 x.f3.length h3, .slice D4 x.f4.length h4] 25)).heap[g11]? = some (.cells #[.int .i64 x.f0, .string x.f1, .string x.f2, .slice C3 x.f3.length f3, .slice C4 x.f4.length f4] 25 (0, 0)) := (Below.heap_alloc _ _ _ (blk_lt y13)).trans y13
    have hRB' := hRB.below (below_alloc (Below.refl w13.heap.size w13) (.cells #[.int .i64 x.f0, .string x.f1, .string x.f2, .slice D3 x.f3.length h3, .slice D4 x.f4.length h4] 25))
    have g2 := hRB'.c2
    have g1 := hRB'.c1
    have HRB := Lib.hid hRB'
    have x0 := blk_cell y13' 0
    have x1 := blk_cell y13' 1
    have x2 := blk_cell y13' 2
    have x3 := blk_cell y13' 3
    have x4 := blk_cell y13' 4
    simp only [List.getElem?_toArray, List.getElem?_cons_zero, List.getElem?_cons_succ] at x0 x1 x2 x3 x4
    have hBA := below_alloc (Below.refl w13.heap.size w13) (.cells #[.int .i64 x.f0, .string x.f1, .string x.f2, .slice D3 x.f3.length h3, .slice D4 x.f4.length h4] 25)
    have HBA := Lib.hid (below_step HB13.out hBA)
    have H90 := Lib.hid (same90v (w13.alloc (.cells #[.int .i64 x.f0, .string x.f1, .string x.f2, .slice D3 x.f3.length h3, .slice D4 x.f4.length h4] 25)) x HXC.out C3 f3 C4 f4 D3 h3 D4 h4 ((HMF.out.below hb13).below hBA) (hMF13.now.below hBA))
    clear hRB hRB' hb13 hres H13 eV y13 y13' hk13 eg eg2 HEG hBA hMF13
    go_wp2_with fail
    (with_reducible refine H90.out.mono ?_)
    rintro e w14 ⟨rfl, hb14⟩
    have g3 := (HRB.out.below hb14).c1
    go_wp2_with fail
    (with_reducible refine (awake52 _).mono ?_)
    rintro e w15 ⟨rfl, hb15⟩
    go_wp2
    go_ret
    exact ⟨rfl, below_step (below_step HBA.out hb14) hb15⟩
  | false =>
   have H36' := Lib.hid (H36.out false hk)
   clear hk H36
   go_wp2_with fail
   refine H36'.out.mono ?_
   rintro e w2 ⟨rfl, hb2⟩
   have HBx := Lib.hid (below_step HB1.out hb2)
   clear k0 k1 k2 k3 k4 hb2 H36'
   go_wp2_with fail
   (with_reducible refine (bytes73 _ B n d bs HN.out (by omega) (Kd.C_below HD.out HBx.out)).mono ?_)
   rintro e w11 ⟨A11, n11, c11, rfl, HN11, hc11, HR11, hb11⟩
   have HB11 := Lib.hid (below_step HBx.out hb11)
   clear hb11
   have hn11 : n11 ≤ 1000000000000000 := by have := HN.out; have := HN11.out; omega
   have h12 := mGet88 w11 A11 n11 c11 bs at_ HN11.out hn11 hc11 (R_C HR11.out)
   have e11 : n11 = n := by have := HN.out; have := HN11.out; omega
   rw [e11] at h12
   cases hq : matW bs at_ with
   | none =>
    rw [hq] at h12
    have H12 := Lib.hid h12
    have HQ := Lib.hid hq
    subst e11
    clear h12 hq
    go_wp2_with fail
    refine H12.out.mono ?_
    rintro e w12 ⟨hb12, hres⟩
    obtain rfl : e = .returned (.tuple #[.agg Z5, .int .i64 0, .bool false]) := by
     rcases hres with ⟨-, h⟩ | ⟨m', r', _, _, _, _, h, -⟩
     ·exact h
     ·cases h
    have HB12 := Lib.hid (below_step HB11.out hb12)
    clear hb12 H12 hres
    obtain ⟨V, eV⟩ : ∃ V, V = (w12.alloc (.cells Z5 25)).alloc (.cells #[.slice B n11 d, .int .i64 at_, .bool false] 93) := ⟨_, rfl⟩
    obtain ⟨g11, eg⟩ : ∃ g, w12.heap.size = g := ⟨_, rfl⟩
    obtain ⟨g14, eg2⟩ : ∃ g, g11 + 1 = g := ⟨_, rfl⟩
    have hX : RB V g14 B n11 d at_ false := by
     have := blk_new (w12.alloc (.cells Z5 25)) (.cells #[.slice B n11 d, .int .i64 at_, .bool false] 93)
     rw [World.size_alloc, eg, eg2] at this
     rw [eV]; exact this
    have hY : V.heap[g11]? = some (.cells Z5 25 (0, 0)) := by rw [eV]; exact (Below.heap_alloc _ _ _ (by simp; omega)).trans (by rw [← eg]; exact blk_new w12 _)
    have hBV : Below w12.heap.size w12 V := by rw [eV]; exact below_alloc (below_alloc (Below.refl _ _) _) _
    have h13 := rmget91 w12 V g14 B n11 d bs at_ false HN.out (by omega) hd (by omega) hBV hX (Kd.C_below HD.out HB12.out)
    rw [if_neg (by decide), HQ.out] at h13
    have H13 := Lib.hid h13
    have HY := Lib.hid hY
    have HEG := Lib.hid (And.intro eg (And.intro eg2 hX.lt))
    clear h13 hX hBV hY
    go_wp2_with fail
    rw [← eV]
    refine H13.out.mono ?_
    rintro e w13 ⟨hb13, hk13, hres⟩
    obtain ⟨rfl, i, hRB⟩ : e = .returned (.agg Z5) ∧ ∃ i, RB w13 g14 B n11 d i true := by
     rcases hres with ⟨-, he, i, hRB⟩ | ⟨m', r', _, _, _, _, h, -⟩
     ·exact ⟨he, i, hRB⟩
     ·cases h
    have HB13 := Lib.hid (below_step HB12.out hb13)
    have y13 := (hk13.2 g11 (blk_lt HY.out) (by have := HEG.out; omega) (by simp)).trans HY.out
    have y13' : (w13.alloc (.cells Z5 25)).heap[g11]? = some (.cells Z5 25 (0, 0)) := (Below.heap_alloc _ _ _ (blk_lt y13)).trans y13
    have g2 := (hRB.below (below_alloc (Below.refl w13.heap.size w13) (.cells Z5 25))).c2
    have x0 := blk_cell y13' 0
    have x1 := blk_cell y13' 1
    have x2 := blk_cell y13' 2
    have x3 := blk_cell y13' 3
    have x4 := blk_cell y13' 4
    simp only [List.getElem?_toArray, List.getElem?_cons_zero, List.getElem?_cons_succ] at x0 x1 x2 x3 x4
    have H90 : Hid (∀ W, Calls Try.prog 90 #[.agg Z5, .agg Z5] W fun e w' => e = .returned (.bool true) ∧ Below W.heap.size W w') := Lib.hid (fun W => same90v W ⟨0, ⟨#[]⟩, ⟨#[]⟩, [], []⟩ zero_chk none 0 none 0 none 0 none 0 ⟨Nat.le_refl _, Kd.C_nil _ _, Nat.le_refl _, Kd.C_nil _ _⟩ ⟨Nat.le_refl _, Kd.C_nil _ _, Nat.le_refl _, Kd.C_nil _ _⟩)
    have HBA := Lib.hid (below_alloc HB13.out (.cells Z5 25))
    clear hRB hb13 hres H13 eV y13 y13' hk13 eg eg2 HEG
    go_wp2_with fail
    (with_reducible refine (H90.out _).mono ?_)
    rintro e w14 ⟨rfl, hb14⟩
    go_wp2_with fail
    (with_reducible refine (awake52 _).mono ?_)
    rintro e w15 ⟨rfl, hb15⟩
    go_wp2
    go_ret
    exact ⟨rfl, below_step (below_step HBA.out hb14) hb15⟩
   | some q =>
    obtain ⟨x, t⟩ := q
    rw [hq] at h12
    have H12 := Lib.hid h12
    have HQ := Lib.hid hq
    have HXC := Lib.hid (matW_chk hq)
    subst e11
    clear h12 hq
    go_wp2_with fail
    refine H12.out.mono ?_
    rintro e w12 ⟨hb12, hres⟩
    obtain ⟨C3, f3, C4, f4, rfl, hMF⟩ : ∃ A3 c3 A4 c4, e = .returned (.tuple #[mV x A3 c3 A4 c4, .int .i64 ((n11 : Int) - (t.length : Nat)), .bool true]) ∧ MF w12 (fun b => w11.heap.size ≤ b ∧ b < w12.heap.size) x A3 c3 A4 c4 := by
     rcases hres with ⟨h, -⟩ | ⟨m', r', A3', c3', A4', c4', h, he, hM'⟩
     ·cases h
     ·simp only [Option.some.injEq, Prod.mk.injEq] at h
      obtain ⟨rfl, rfl⟩ := h
      exact ⟨_, _, _, _, he, hM'⟩
    have HB12 := Lib.hid (below_step HB11.out hb12)
    have HMF := Lib.hid hMF.now
    clear hb12 H12 hres hMF
    obtain ⟨z, hz⟩ : ∃ z : Int, (n11 : Int) - (t.length : Nat) = z := ⟨_, rfl⟩
    rw [hz]
    obtain ⟨V, eV⟩ : ∃ V, V = (w12.alloc (.cells #[.int .i64 x.f0, .string x.f1, .string x.f2, .slice C3 x.f3.length f3, .slice C4 x.f4.length f4] 25)).alloc (.cells #[.slice B n11 d, .int .i64 at_, .bool false] 93) := ⟨_, rfl⟩
    obtain ⟨g11, eg⟩ : ∃ g, w12.heap.size = g := ⟨_, rfl⟩
    obtain ⟨g14, eg2⟩ : ∃ g, g11 + 1 = g := ⟨_, rfl⟩
    have hX : RB V g14 B n11 d at_ false := by
     have := blk_new (w12.alloc (.cells #[.int .i64 x.f0, .string x.f1, .string x.f2, .slice C3 x.f3.length f3, .slice C4 x.f4.length f4] 25)) (.cells #[.slice B n11 d, .int .i64 at_, .bool false] 93)
     rw [World.size_alloc, eg, eg2] at this
     rw [eV]; exact this
    have hY : V.heap[g11]? = some (.cells #[.int .i64 x.f0, .string x.f1, .string x.f2, .slice C3 x.f3.length f3, .slice C4 x.f4.length f4] 25 (0, 0)) := by rw [eV]; exact (Below.heap_alloc _ _ _ (by simp; omega)).trans (by rw [← eg]; exact blk_new w12 _)
    have hBV : Below w12.heap.size w12 V := by rw [eV]; exact below_alloc (below_alloc (Below.refl _ _) _) _
    have h13 := rmget91 w12 V g14 B n11 d bs at_ false HN.out (by omega) hd (by omega) hBV hX (Kd.C_below HD.out HB12.out)
    rw [if_neg (by decide), HQ.out] at h13
    have H13 := Lib.hid h13
    have HZ := Lib.hid hz
    have HY := Lib.hid hY
    have HEG := Lib.hid (And.intro eg (And.intro eg2 hX.lt))
    clear h13 hX hBV hz hY
    go_wp2_with fail
    rw [← eV]
    refine H13.out.mono ?_
    rintro e w13 ⟨hb13, hk13, hres⟩
    obtain ⟨D3, h3, D4, h4, rfl, hMF13, hRB⟩ : ∃ A3 c3 A4 c4, e = .returned (mV x A3 c3 A4 c4) ∧ MF w13 (fun b => V.heap.size ≤ b ∧ b < w13.heap.size) x A3 c3 A4 c4 ∧ RB w13 g14 B n11 d z false := by
     rcases hres with ⟨h, -⟩ | ⟨m', r', A3', c3', A4', c4', h, he, hM', hRB⟩
     ·cases h
     ·simp only [Option.some.injEq, Prod.mk.injEq] at h
      obtain ⟨rfl, rfl⟩ := h
      rw [HZ.out] at hRB
      exact ⟨_, _, _, _, he, hM', hRB⟩
    have HB13 := Lib.hid (below_step HB12.out hb13)
    have y13 := (hk13.2 g11 (blk_lt HY.out) (by have := HEG.out; omega) (by simp)).trans HY.out
    have y13' : (w13.alloc (.cells #[.int .i64 x.f0, .string x.f1, .string x.f2, .slice D3 x.f3.length h3, .slice D4 x.f4.length h4] 25)).heap[g11]? = some (.cells #[.int .i64 x.f0, .string x.f1, .string x.f2, .slice C3 x.f3.length f3, .slice C4 x.f4.length f4] 25 (0, 0)) := (Below.heap_alloc _ _ _ (blk_lt y13)).trans y13
    have hRB' := hRB.below (below_alloc (Below.refl w13.heap.size w13) (.cells #[.int .i64 x.f0, .string x.f1, .string x.f2, .slice D3 x.f3.length h3, .slice D4 x.f4.length h4] 25))
    have g2 := hRB'.c2
    have g1 := hRB'.c1
    have HRB := Lib.hid hRB'
    have x0 := blk_cell y13' 0
    have x1 := blk_cell y13' 1
    have x2 := blk_cell y13' 2
    have x3 := blk_cell y13' 3
    have x4 := blk_cell y13' 4
    simp only [List.getElem?_toArray, List.getElem?_cons_zero, List.getElem?_cons_succ] at x0 x1 x2 x3 x4
    have hBA := below_alloc (Below.refl w13.heap.size w13) (.cells #[.int .i64 x.f0, .string x.f1, .string x.f2, .slice D3 x.f3.length h3, .slice D4 x.f4.length h4] 25)
    have HBA := Lib.hid (below_step HB13.out hBA)
    have H90 := Lib.hid (same90v (w13.alloc (.cells #[.int .i64 x.f0, .string x.f1, .string x.f2, .slice D3 x.f3.length h3, .slice D4 x.f4.length h4] 25)) x HXC.out C3 f3 C4 f4 D3 h3 D4 h4 ((HMF.out.below hb13).below hBA) (hMF13.now.below hBA))
    clear hRB hRB' hb13 hres H13 eV y13 y13' hk13 eg eg2 HEG hBA hMF13
    go_wp2_with fail
    (with_reducible refine H90.out.mono ?_)
    rintro e w14 ⟨rfl, hb14⟩
    have g3 := (HRB.out.below hb14).c1
    go_wp2_with fail
    (with_reducible refine (awake52 _).mono ?_)
    rintro e w15 ⟨rfl, hb15⟩
    go_wp2
    go_ret
    exact ⟨rfl, below_step (below_step HBA.out hb14) hb15⟩
end Go.Proofs.Yteafilojjdfllaa
end
section
namespace Go.Proofs.Yteafilojjdfllaa.matchBytes
open Go.ChangeShapes Go.WideShapes Go.ChangeAt Go.RowKit Go.Proofs.YteafilojjdfllaaW.PrintWords Go.Proofs.Yteafilojjdfllaa.PAll
set_option linter.unusedVariables false
theorem cells5b : Try.prog.cellsOf 5 = Kd.sz (Kd.int .u8) := by kernel_rfl
theorem bytes_of : ∀ (l : List Int), (∀ a ∈ l, (Lit.int .u8 a).wf = true) → ∃ bs : List UInt8, l = bys bs
 | [], _ => ⟨[], rfl⟩
 | a :: l, h => by
  obtain ⟨bs, rfl⟩ := bytes_of l (fun x hx => h x (List.mem_cons_of_mem _ hx))
  have ha := h a (List.mem_cons_self ..)
  refine ⟨a.toNat.toUInt8 :: bs, ?_⟩
  have h2 : 0 ≤ a ∧ a < 256 := by
   have h3 : IntKind.u8.min ≤ a ∧ a ≤ IntKind.u8.max := by simpa [Lit.wf] using ha
   have e0 : IntKind.u8.min = 0 := by decide
   have e1 : IntKind.u8.max = 255 := by decide
   omega
  simp only [bys, List.map_cons, List.cons.injEq, and_true]
  have : (a.toNat.toUInt8).toNat = a.toNat := by simp; omega
  omega
set_option maxRecDepth 100000 in
theorem lifted (os : Os) (started : os.Started) (H : Type) (enc : TypeId × Value → H) :
  ReturnsInHanded {} Try.checked os 27 .any (Rows.matchBytesSpec.pre6 enc Try.prog Try.f27 Rows.matchBytesRow.domain false) (Rows.matchBytesSpec.post enc Try.prog Try.f27 false true false false) := by
 refine returnsInHanded_of_change_sized (C := Try.checked) own started (by kernel_rfl) Try.func27
  (ChangeSpec.witness6 (enc := enc) (C := Try.checked) false ⟨#[], #[.agg #[.int .i64 0, .string ⟨#[]⟩, .string ⟨#[]⟩, .slice none 0 0, .slice none 0 0], .slice none 0 0, .int .i64 0], []⟩ 20 (by kernel_rfl) (by kernel_rfl) (by kernel_rfl) (by kernel_rfl)) ?_
 intro W base args ds gs before hval0 hW hcnd hsz0 _
 have hsz : (DataW.weightsEach Try.prog (Try.f27.params.toList ++ Rows.matchBytesSpec.plain.varTypes Try.prog) (ds ++ gs)).all (· ≤ reachBytes) = true := hsz0
 have hval : ∀ (j : Nat) t v, Try.f27.params[j]? = some t → args[j]? = some v → Value.okWide Try.prog W .any base t v := hval0
 have hW' := hW
 obtain ⟨p, q, hA0, hV, rfl, hfz, hnd⟩ := hW
 have hA : DataW.TrodAll enc Try.prog W 0 (fun _ => true) true Try.f27.params.toList args.toList ds p := hA0
 rw [Try.params27] at hA hval hsz
 have hA0' := hA0
 obtain ⟨v0, vs0, d0, ds0, p0, q0, hargs, rfl, rfl, h0, r0⟩ := trodAll_cons hA
 obtain ⟨v1, vs1, d1, ds1, p1, q1, rfl, rfl, rfl, h1, r1⟩ := trodAll_cons r0
 obtain ⟨v2, vs2, d2, ds2, p2, q2, rfl, rfl, rfl, h2, r2⟩ := trodAll_cons r1
 obtain ⟨rfl, rfl, rfl⟩ := trodAll_nil r2
 obtain rfl : args = #[v0, v1, v2] := by cases args; simp_all
 obtain ⟨rfl, rfl⟩ := trodVars_none hV
 obtain ⟨m0, A3_0, c3_0, A4_0, c4_0, rfl, hM0⟩ := open_m (hval 0 25 v0 rfl rfl) h0 (hw_of (j := 0) hsz rfl rfl)
 obtain ⟨A1, c1, l1, rfl, hc1, hC1, hz1, hn1, hS1⟩ := open_sl (B := 1) Try.underlying85 cells5b (by kernel_rfl) (fun n => op_int Try.underlying5 n) (hval 1 85 v1 rfl rfl) h1 (hw_of (j := 1) hsz rfl rfl)
 obtain ⟨bs1, rfl⟩ := bytes_of l1 hS1
 obtain ⟨a2, rfl, rfl, rfl, w2⟩ := open_int Try.underlying3 (hval 2 3 v2 rfl rfl) h2
 clear hA0 hval0
 refine (matchBytes_walk W m0 A3_0 c3_0 A4_0 c4_0 A1 (bys bs1).length c1 bs1 a2 (bys_len bs1).symm hc1 (by have := hz1; rw [Nat.mul_one] at this; exact Nat.le_trans this (by decide)) hM0 (by have := hC1; rw [bys_len] at this; exact this)).mono fun e W' ⟨he, bel⟩ => ?_
 subst he
 exact ⟨_, rfl, _, _, _, [], _, [], hW', trodAll_mk1 (shut_bool Try.underlying4 _), trodAll_below bel (by rw [Try.params27]; intro t ht; simp only [List.mem_cons, List.not_mem_nil, or_false] at ht; rcases ht with rfl | rfl | rfl <;> exact ⟨by kernel_rfl, of_decide_eq_true (by kernel_rfl)⟩) hA0', rfl, bel.frame _, fun h => by cases h⟩
theorem closed : joinedFacts Try.prog 27 Try.f27 Rows.matchBytesSpec Rows.matchBytesRow = true := by
 unfold joinedFacts
 rw [pf_laid, pf_maps, pf_stops, pf_knobs, pf_plain, pf_heard, pf_enter, pf_lifts, pf_make]
 kernel_rfl
theorem inst : Try.f27.isInstance Try.prog Rows.matchBytesRow.origin Rows.matchBytesRow.targs := of_decide_eq_true (by kernel_rfl)
theorem wrap : Try.f27.isWrapper Try.prog Rows.matchBytesRow.wrapper Rows.matchBytesRow.mainSum := by
 unfold Func.isWrapper; first | (rw [if_pos (by decide +kernel)]; kernel_rfl) | (rw [if_neg (by decide +kernel)]; exact ⟨rfl, rfl⟩)
theorem over : Rows.matchBytesRow.holds Try.pinned (OpenSpec.ofChange Rows.matchBytesSpec) :=
 OpenClaim.holds_of_wide 27 Try.f27 rfl rfl rfl rfl rfl rfl rfl ⟨rfl, rfl, rfl, rfl, rfl⟩ rfl rfl rfl rfl rfl (by kernel_rfl) Try.func27 closed inst wrap
  (fun os started H enc _ => lifted os started H enc)
end Go.Proofs.Yteafilojjdfllaa.matchBytes
namespace Go.Proofs.Yteafilojjdfllaa
theorem matchBytes_holds : Rows.MatchBytesSaid := matchBytes.over
#print axioms matchBytes_holds
end Go.Proofs.Yteafilojjdfllaa
end
