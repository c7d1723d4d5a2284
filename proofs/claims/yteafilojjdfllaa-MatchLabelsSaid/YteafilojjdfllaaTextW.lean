/- Own text: a matcher's text: the walk of match.text and match.Text. -/
import Derived.Test.YteafilojjdfllaaTxt
import Derived.Test.YteafilojjdfllaaMatB
import Derived.Test.YteafilojjdfllaaShelf
namespace Go.Proofs.Yteafilojjdfllaa
open Go Go.RowKit Go.Proofs.YteafilojjdfllaaW.PrintWords Go.Proofs.YteafilojjdfllaaW.PrintLast Go.Proofs.YteafilojjdfllaaW.PrintMore Go.Proofs.Yteafilojjdfllaa.PAll

/-- a text between quotes; a matcher's text -/
def qB (v : ByteArray) : ByteArray := ⟨(quoteT v).toArray⟩
def tB (m : S25) : ByteArray := ⟨(textM m).toArray⟩
theorem quoted125 (w : World) (t : ByteArray) (ht : t.size ≤ 1000000) : Calls Try.prog 125 #[.string t] w fun e w' => e = .returned (.string (qB t)) ∧ Below w.heap.size w w' :=
  label_Quoted.calls (2 * t.size + 1) t _ w (label_Quoted.val t ht _ (Nat.lt_succ_self _))
theorem sign159 (w : World) (op : Int) (s : ByteArray) (h : match_sign.f op = some s) : Calls Try.prog 159 #[.int .i64 op] w fun e w' => e = .returned (.string s) ∧ Below w.heap.size w w' :=
  (match_sign.calls op s w h).mono fun _ _ h => ⟨h.1, h.2.below⟩
theorem infoSt : (Try.prog.info? 9).map (fun i => (i.zero, i.size, i.bytes)) = some (some (.string ByteArray.empty), 1, 16) := by kernel_rfl
/-- strings.Join at a comma, over a list of the call's own -/
theorem join126 (w : World) (base : Nat) (v : Value) (xs : List ByteArray) (ho : w.ownsRow base 9 1 v xs.length (encs Value.string xs)) (hn : xs.length ≤ 1000000) (hl : (commas (xs.map (·.data.toList))).length ≤ 140737488355328) :
    Calls Try.prog 126 #[v, .string ⟨#[44]⟩] w fun e w' => e = .returned (.string ⟨(commas (xs.map (·.data.toList))).toArray⟩) ∧ Below w.heap.size w w' := by
  cases xs with
  | nil =>
    obtain ⟨A, c, rfl⟩ := own_slice ho
    exact (Try.strings_Join_none A c ⟨#[44]⟩ w).mono fun e w' ⟨he, hw⟩ => ⟨he, by rw [hw]; exact Below.refl _ _⟩
  | cons x xs =>
    have hlt := own_lt ho
    have hle := own_slice ho
    rcases ho.2 with ⟨_, h0⟩ | ⟨g, cap, cur, rfl, hb, hg, hcap, _⟩
    · simp at h0
    · have h := Try.strings_Join g 0 cap (x :: xs) ⟨#[44]⟩ w (fun j u hu => by
        have := ho.cells (g := g) rfl j (.string u) (by rw [encs_get (d := ByteArray.empty) (x :: xs) j (List.getElem?_eq_some_iff.1 hu).1]; simp [List.getD_eq_getElem?_getD, hu])
        rw [add_plain] at this
        rwa [Nat.zero_add]) (hlt g (by simp [Value.ownBlock])) (by omega) hcap (by rw [show (⟨#[44]⟩ : ByteArray).data.toList = [44] from rfl, commas_join]; exact hl)
      rw [show (⟨#[44]⟩ : ByteArray).data.toList = [44] from rfl, commas_join] at h
      exact h

theorem ba_ext {a b : ByteArray} (h : a.data.toList = b.data.toList) : a = b := by
  cases a; cases b
  simp only at h
  rw [Array.toList_inj.1 h]
theorem sizes_mem : ∀ {vs : List ByteArray} {x : ByteArray}, x ∈ vs → x.size ≤ sizes vs
  | v :: vs, x, h => by
    simp only [sizes]
    rcases List.mem_cons.1 h with rfl | h
    · omega
    · have := sizes_mem h; omega
theorem bytesL_mem : ∀ {ks : List S25} {x : S25}, x ∈ ks → bytesM x ≤ bytesL ks
  | v :: vs, x, h => by
    simp only [bytesL]
    rcases List.mem_cons.1 h with rfl | h
    · omega
    · have := bytesL_mem h; omega
theorem takeD {α : Type} (xs : List α) (z : α) (j : Nat) (h : j < xs.length) : xs.take (j + 1) = xs.take j ++ [xs.getD j z] := by
  rw [List.take_succ_eq_append_getElem h]; simp [List.getD_eq_getElem?_getD, h]
theorem qB_map (vs : List ByteArray) : (vs.map qB).map (·.data.toList) = vs.map quoteT := by simp [qB, Function.comp_def]
theorem tB_map (ks : List S25) : (ks.map tB).map (·.data.toList) = ks.map textM := by simp [tB, Function.comp_def]
theorem add_to {a b c : ByteArray} (h : a.data.toList ++ b.data.toList = c.data.toList) (hs : c.data.toList.length ≤ 1000000000) : Op.stringOp .add a b = pure (.string c) := by
  have e : c = a ++ b := ba_ext (by rw [← h]; simp [ByteArray.data_append])
  have e1 : a.data.toList.length = a.size := by simp
  have e2 : b.data.toList.length = b.size := by simp
  have hl : a.size + b.size ≤ 1000000000 := by rw [← h, List.length_append] at hs; omega
  unfold Op.stringOp
  simp only
  rw [if_neg (by rw [show IntKind.i64.max = 9223372036854775807 from rfl]; omega), e]
theorem str_eq {a b : ByteArray} (h : a.data.toList = b.data.toList) : (Value.string a) = .string b := by rw [ba_ext h]
theorem str_ret {a b : ByteArray} (h : a.data.toList = b.data.toList) : Ending.returned (Value.string a) = .returned (.string b) := by rw [ba_ext h]
theorem sign_val (op : Int) : match_sign.f op = some ⟨#[if op = 5 then 38 else if op = 6 then 124 else 33]⟩ := by
  unfold match_sign.f
  split
  · rfl
  split <;> rfl

set_option maxRecDepth 100000 in
set_option maxHeartbeats 8000000 in
theorem text110 : ∀ (N : Nat) (m : S25), nodesM m ≤ N → okM m = true → nodesM m ≤ 1000 → bytesM m ≤ 1000000 → ∀ (A3 : Option Addr) (c3 : Nat) (A4 : Option Addr) (c4 : Nat) (w : World), MC w m A3 c3 A4 c4 →
    Calls Try.prog 110 #[.agg #[.int .i64 m.f0, .string m.f1, .string m.f2, .slice A3 m.f3.length c3, .slice A4 m.f4.length c4]] w fun e w' => e = .returned (.string (tB m)) ∧ Below w.heap.size w w' := by
  intro N
  induction N with
  | zero => intro m h; rw [nodesM_mk] at h; omega
  | succ N ih =>
    intro m hN hok h1000 hbytes A3 c3 A4 c4 w hM
    have IH := Lib.hid ih
    clear ih
    have hlen := textM_len _ m (Nat.le_refl _) hok
    have hB0 : Below w.heap.size w (w.alloc (.cells #[.int .i64 m.f0, .string m.f1, .string m.f2, .slice A3 m.f3.length c3, .slice A4 m.f4.length c4] 25)) := below_alloc (Below.refl _ _) _
    have hX0 : BoxM (w.alloc (.cells #[.int .i64 m.f0, .string m.f1, .string m.f2, .slice A3 m.f3.length c3, .slice A4 m.f4.length c4] 25)) w.heap.size m.f0 m.f1 m.f2 (.slice A3 m.f3.length c3) (.slice A4 m.f4.length c4) := blk_new w _
    have hb := bytesM_mk m
    have hnd := nodesM_mk m
    rcases shape hok with rfl | ⟨op, n, v, ho, hn, rfl⟩ | ⟨n, vs, hn, rfl⟩ | ⟨op, ks, ho, hk, rfl⟩
    · simp only at hX0 hB0 ⊢
      go_enter Try.func110, Try.ntmps110
      go_wp2
      go_ret
      exact ⟨rfl, hB0⟩
    · simp only at hX0 hB0 hb ⊢
      have hv : v.size ≤ 1000000 := by omega
      have hT := text_n (n := n) (v := v) (vs := []) (show op = 1 ∨ op = 2 ∨ op = 3 ∨ op = 4 by omega)
      have hn2 : n.data.toList.length ≤ 1000000 := by rw [show n.data.toList.length = n.size by simp]; omega
      have hq := quoteT_len v
      rcases ho with rfl | rfl | rfl
      · obtain ⟨s1, e1⟩ : ∃ s1 : ByteArray, s1.data.toList = n.data.toList ++ [61] := ⟨⟨(n.data.toList ++ [61]).toArray⟩, rfl⟩
        have a1 : Op.stringOp .add n ⟨#[61]⟩ = pure (.string s1) := add_to (by rw [e1]) (by rw [e1, List.length_append]; simp only [List.length_cons, List.length_nil]; omega)
        have eT : ∀ t, t = tB ⟨1, n, v, [], []⟩ → s1.data.toList ++ (qB v).data.toList = t.data.toList := fun t ht => by rw [ht, e1]; unfold tB; rw [hT]; simp [textN, qB]
        obtain ⟨t, et⟩ : ∃ t, t = tB ⟨1, n, v, [], []⟩ := ⟨_, rfl⟩
        have a2 : Op.stringOp .add s1 (qB v) = pure (.string t) := add_to (eT t et) (by rw [← eT t et, List.length_append, e1, List.length_append]; simp only [qB, List.length_cons, List.length_nil]; omega)
        rw [← et]
        have hXd := hX0.below (below_drew (Below.refl _ _))
        have hBd := below_drew hB0
        clear hT hM hok hlen hN h1000 hbytes hb IH hnd eT e1 et hq hn2
        have f1 := hXd.c1
        have f2 := hXd.c2
        go_enter Try.func110, Try.ntmps110
        go_wp2_with fail
        go_region_held3 (fun w' => w'.cell? ⟨w.heap.size, 1, none⟩ = some (.string n) ∧ w'.cell? ⟨w.heap.size, 2, none⟩ = some (.string v) ∧ Below w.heap.size w w')
          (first | exact ⟨by assumption, by assumption, by assumption⟩)
          (first | (go_at_call 125; (with_reducible refine (quoted125 _ v hv).mono ?_); rintro e w1 ⟨rfl, hb1⟩; have hX1 := hXd.below hb1; have f1 := hX1.c1; have f2 := hX1.c2; have hB1 := below_step hBd hb1))
        rename_i hS
        have hBe := hS.2.2
        clear hS
        go_wp2_with fail
        go_ret
        exact ⟨rfl, hBe⟩
      · obtain ⟨s1, e1⟩ : ∃ s1 : ByteArray, s1.data.toList = n.data.toList ++ [33, 61] := ⟨⟨(n.data.toList ++ [33, 61]).toArray⟩, rfl⟩
        have a1 : Op.stringOp .add n ⟨#[33, 61]⟩ = pure (.string s1) := add_to (by rw [e1]) (by rw [e1, List.length_append]; simp only [List.length_cons, List.length_nil]; omega)
        have eT : ∀ t, t = tB ⟨2, n, v, [], []⟩ → s1.data.toList ++ (qB v).data.toList = t.data.toList := fun t ht => by rw [ht, e1]; unfold tB; rw [hT]; simp [textN, qB]
        obtain ⟨t, et⟩ : ∃ t, t = tB ⟨2, n, v, [], []⟩ := ⟨_, rfl⟩
        have a2 : Op.stringOp .add s1 (qB v) = pure (.string t) := add_to (eT t et) (by rw [← eT t et, List.length_append, e1, List.length_append]; simp only [qB, List.length_cons, List.length_nil]; omega)
        rw [← et]
        have hXd := hX0.below (below_drew (Below.refl _ _))
        have hBd := below_drew hB0
        clear hT hM hok hlen hN h1000 hbytes hb IH hnd eT e1 et hq hn2
        have f1 := hXd.c1
        have f2 := hXd.c2
        go_enter Try.func110, Try.ntmps110
        go_wp2_with fail
        go_region_held3 (fun w' => w'.cell? ⟨w.heap.size, 1, none⟩ = some (.string n) ∧ w'.cell? ⟨w.heap.size, 2, none⟩ = some (.string v) ∧ Below w.heap.size w w')
          (first | exact ⟨by assumption, by assumption, by assumption⟩)
          (first | (go_at_call 125; (with_reducible refine (quoted125 _ v hv).mono ?_); rintro e w1 ⟨rfl, hb1⟩; have hX1 := hXd.below hb1; have f1 := hX1.c1; have f2 := hX1.c2; have hB1 := below_step hBd hb1))
        rename_i hS
        have hBe := hS.2.2
        clear hS
        go_wp2_with fail
        go_ret
        exact ⟨rfl, hBe⟩
      · obtain ⟨s1, e1⟩ : ∃ s1 : ByteArray, s1.data.toList = n.data.toList ++ [94, 61] := ⟨⟨(n.data.toList ++ [94, 61]).toArray⟩, rfl⟩
        have a1 : Op.stringOp .add n ⟨#[94, 61]⟩ = pure (.string s1) := add_to (by rw [e1]) (by rw [e1, List.length_append]; simp only [List.length_cons, List.length_nil]; omega)
        have eT : ∀ t, t = tB ⟨3, n, v, [], []⟩ → s1.data.toList ++ (qB v).data.toList = t.data.toList := fun t ht => by rw [ht, e1]; unfold tB; rw [hT]; simp [textN, qB]
        obtain ⟨t, et⟩ : ∃ t, t = tB ⟨3, n, v, [], []⟩ := ⟨_, rfl⟩
        have a2 : Op.stringOp .add s1 (qB v) = pure (.string t) := add_to (eT t et) (by rw [← eT t et, List.length_append, e1, List.length_append]; simp only [qB, List.length_cons, List.length_nil]; omega)
        rw [← et]
        have hXd := hX0.below (below_drew (Below.refl _ _))
        have hBd := below_drew hB0
        clear hT hM hok hlen hN h1000 hbytes hb IH hnd eT e1 et hq hn2
        have f1 := hXd.c1
        have f2 := hXd.c2
        go_enter Try.func110, Try.ntmps110
        go_wp2_with fail
        go_region_held3 (fun w' => w'.cell? ⟨w.heap.size, 1, none⟩ = some (.string n) ∧ w'.cell? ⟨w.heap.size, 2, none⟩ = some (.string v) ∧ Below w.heap.size w w')
          (first | exact ⟨by assumption, by assumption, by assumption⟩)
          (first | (go_at_call 125; (with_reducible refine (quoted125 _ v hv).mono ?_); rintro e w1 ⟨rfl, hb1⟩; have hX1 := hXd.below hb1; have f1 := hX1.c1; have f2 := hX1.c2; have hB1 := below_step hBd hb1))
        rename_i hS
        have hBe := hS.2.2
        clear hS
        go_wp2_with fail
        go_ret
        exact ⟨rfl, hBe⟩
    · simp only [List.length_nil] at hX0 hB0 hb hlen ⊢
      have h16 := ok_vals16 hok
      have hT := text_n (op := 4) (n := n) (v := ⟨#[]⟩) (vs := vs) (by omega)
      have HT := Lib.hid hT
      have HM := Lib.hid (fun j hj => hM.value j hj)
      simp only at HM
      have Hsz := Lib.hid (fun (x : ByteArray) (hx : x ∈ vs) => sizes_mem hx)
      have Hl := Lib.hid (show (commas (vs.map quoteT)).length ≤ 140737488355328 from by
        rw [hT] at hlen
        simp only [textN, List.length_append, List.length_cons, if_neg (show ¬ (4 : Int) = 1 by decide), if_neg (show ¬ (4 : Int) = 2 by decide), if_neg (show ¬ (4 : Int) = 3 by decide)] at hlen
        omega)
      have hsv : sizes vs ≤ 1000000 := by omega
      have hn2 : n.data.toList.length ≤ 1000000 := by rw [show n.data.toList.length = n.size by simp]; omega
      obtain ⟨t, et⟩ : ∃ t, t = tB ⟨4, n, ⟨#[]⟩, vs, []⟩ := ⟨_, rfl⟩
      have eT : t.data.toList = n.data.toList ++ [64, 40] ++ commas (vs.map quoteT) ++ [41] := by rw [et]; unfold tB; rw [hT]; simp [textN]
      have eL : t.data.toList.length ≤ 1000000000 := by rw [et]; unfold tB; simp only; omega
      obtain ⟨s1, e1⟩ : ∃ s1 : ByteArray, s1.data.toList = n.data.toList ++ [64, 40] := ⟨⟨(n.data.toList ++ [64, 40]).toArray⟩, rfl⟩
      obtain ⟨s2, e2⟩ : ∃ s2 : ByteArray, s2.data.toList = n.data.toList ++ [64, 40] ++ commas (vs.map quoteT) := ⟨⟨(n.data.toList ++ [64, 40] ++ commas (vs.map quoteT)).toArray⟩, rfl⟩
      have a1 : Op.stringOp .add n ⟨#[64, 40]⟩ = pure (.string s1) := add_to (by rw [e1]) (by rw [e1]; rw [eT, List.length_append, List.length_append] at eL; omega)
      have a2 : Op.stringOp .add s1 ⟨(commas (vs.map quoteT)).toArray⟩ = pure (.string s2) := add_to (by rw [e1, e2]) (by rw [e2]; rw [eT, List.length_append] at eL; omega)
      have a3 : Op.stringOp .add s2 ⟨#[41]⟩ = pure (.string t) := add_to (by rw [e2, eT]) eL
      rw [← et]
      obtain ⟨W0, e0⟩ : ∃ W0, w.alloc (.cells #[.int .i64 4, .string n, .string ⟨#[]⟩, .slice A3 vs.length c3, .slice A4 0 c4] 25) = W0 := ⟨_, rfl⟩
      have hsz : W0.heap.size = w.heap.size + 1 := by rw [← e0]; simp
      rw [e0] at hX0 hB0
      have x1 := hX0.c1
      have x3 := hX0.c3
      have E0 := Lib.hid e0
      clear hT hM hok hlen hN h1000 hbytes hb IH hnd e0 eT eL e1 e2 et hn2
      go_enter Try.func110, Try.ntmps110
      go_wp2
      rw [E0.out]
      go_loopw [3, 44] (fun u3 u44 wr => ∃ (j : Nat), u44 = .int .i64 j ∧ j ≤ vs.length ∧ wr.ownsRow W0.heap.size 9 1 u3 j (encs Value.string ((vs.take j).map qB)) ∧ Below W0.heap.size W0 wr)
        (fun _ u44 _ => vs.length - (intOf u44).toNat)
      case atStart => exact ⟨0, rfl, Nat.zero_le _, by simpa [encs] using World.ownsRow_nil _ _ _ _, Below.refl _ _⟩
      case round =>
        obtain ⟨j, rfl, hj, hO, hB⟩ := hrel
        have hle := hB.size
        by_cases hlt : j < vs.length
        · obtain ⟨ad, rfl, hcell⟩ := HM.out j hlt
          have hcell := pw_cell_below (below_step hB0 hB) hcell
          have Htake := Lib.hid (takeD vs ByteArray.empty j hlt)
          have hxs := Hsz.out (vs.getD j ByteArray.empty) (by simp [List.getD_eq_getElem?_getD, hlt])
          obtain ⟨x, ex⟩ : ∃ x, vs.getD j ByteArray.empty = x := ⟨_, rfl⟩
          rw [ex] at hcell Htake hxs
          clear ex
          have hlj : ((vs.take j).map qB).length = j := by simp; omega
          obtain ⟨Au, cu, rfl⟩ := own_slice hO
          have HO := Lib.hid hO
          clear hO
          go_wp2_with (first | (go_at_call 125; (with_reducible refine (quoted125 _ x (by omega)).mono ?_); rintro e w5 ⟨rfl, hB5⟩) | (at_builtin; refine print_append_of (w0 := W0) (W := w5) Value.string W0.heap.size rfl (.tmp 48) (.tmp 51) 22 9 (.string ByteArray.empty) 16 rfl Try.underlying22 infoSt rfl (by decide) (.slice Au j cu) ((vs.take j).map qB) (qB x) rfl rfl rfl (by rw [hlj]; exact pw_own_below HO.out hB5) (below_step hB hB5) (by have := hB5.size; omega) (by rw [hlj]; omega) ?_; intro v1 w2 hown2 hb2 hg2 hat2))
          go_roundw
          case rel => exact ⟨j + 1, by go_num, by omega, by rw [Htake.out, List.map_append]; rw [List.length_append, hlj] at hown2; exact hown2, hb2⟩
          case measure => simp [intOf]; omega
        · obtain rfl : j = vs.length := by omega
          rw [List.take_length] at hO
          have hXr := (hX0.below hB).below (below_drew (Below.refl _ _))
          have hBr := below_drew (below_step hB0 hB)
          have f1 := hXr.c1
          obtain ⟨Au, cu, rfl⟩ := own_slice hO
          have HO := Lib.hid hO
          clear hO x1 x3
          go_wp2_with fail
          go_region_held3 (fun w' => w'.cell? ⟨w.heap.size, 1, none⟩ = some (.string n) ∧ Below w.heap.size w w')
            (first | exact ⟨by assumption, by assumption⟩)
            (first | (go_at_call 126; (with_reducible refine (join126 _ W0.heap.size (.slice Au vs.length cu) (vs.map qB) (by rw [List.length_map]; exact pw_own_below HO.out (below_drew (Below.refl _ _))) (by simp; omega) (by rw [qB_map]; exact Hl.out)).mono ?_); rintro e w1 ⟨rfl, hb1⟩; rw [qB_map]; have hX1 := hXr.below hb1; have f1 := hX1.c1; have hB1 := below_step hBr hb1))
          rename_i hS
          have hBe := hS.2
          clear hS
          go_wp2_with fail
          go_ret
          exact ⟨rfl, hBe⟩
    · have hT := text_k (ks := ks) ho
      rcases ho with rfl | rfl | rfl
      · simp only [List.length_nil] at hX0 hB0 hb hlen hnd ⊢
        have HT := Lib.hid hT
        have HM := Lib.hid (fun j hj => hM.kid j hj)
        simp only at HM
        have hln := lenL_nodes ks
        have Hl := Lib.hid (show (commas (ks.map textM)).length ≤ 140737488355328 from by
          rw [hT] at hlen
          simp only [List.length_append, List.length_cons] at hlen
          omega)
        have Hkid := Lib.hid (fun (x : S25) (hx : x ∈ ks) => (⟨by have := nodes_lt ⟨5, ⟨#[]⟩, ⟨#[]⟩, [], ks⟩ x hx; omega, okL_mem hk hx, by have := nodes_lt ⟨5, ⟨#[]⟩, ⟨#[]⟩, [], ks⟩ x hx; omega, by have := bytesL_mem hx; omega⟩ : nodesM x ≤ N ∧ okM x = true ∧ nodesM x ≤ 1000 ∧ bytesM x ≤ 1000000))
        obtain ⟨sg, esg⟩ : ∃ sg : ByteArray, sg = ⟨#[38]⟩ := ⟨_, rfl⟩
        have hsg : match_sign.f 5 = some sg := by rw [esg]; rfl
        have Hsg := Lib.hid hsg
        obtain ⟨t, et⟩ : ∃ t, t = tB ⟨5, ⟨#[]⟩, ⟨#[]⟩, [], ks⟩ := ⟨_, rfl⟩
        have eT : t.data.toList = sg.data.toList ++ [40] ++ commas (ks.map textM) ++ [41] := by rw [et, esg]; unfold tB; rw [hT]; simp
        have eL : t.data.toList.length ≤ 1000000000 := by rw [et]; unfold tB; simp only; omega
        obtain ⟨s1, e1⟩ : ∃ s1 : ByteArray, s1.data.toList = sg.data.toList ++ [40] := ⟨⟨(sg.data.toList ++ [40]).toArray⟩, rfl⟩
        obtain ⟨s2, e2⟩ : ∃ s2 : ByteArray, s2.data.toList = sg.data.toList ++ [40] ++ commas (ks.map textM) := ⟨⟨(sg.data.toList ++ [40] ++ commas (ks.map textM)).toArray⟩, rfl⟩
        have a1 : Op.stringOp .add sg ⟨#[40]⟩ = pure (.string s1) := add_to (by rw [e1]) (by rw [e1]; rw [eT, List.length_append, List.length_append] at eL; omega)
        have a2 : Op.stringOp .add s1 ⟨(commas (ks.map textM)).toArray⟩ = pure (.string s2) := add_to (by rw [e1, e2]) (by rw [e2]; rw [eT, List.length_append] at eL; omega)
        have a3 : Op.stringOp .add s2 ⟨#[41]⟩ = pure (.string t) := add_to (by rw [e2, eT]) eL
        rw [← et]
        obtain ⟨W0, e0⟩ : ∃ W0, w.alloc (.cells #[.int .i64 5, .string ⟨#[]⟩, .string ⟨#[]⟩, .slice A3 0 c3, .slice A4 ks.length c4] 25) = W0 := ⟨_, rfl⟩
        have hsz : W0.heap.size = w.heap.size + 1 := by rw [← e0]; simp
        rw [e0] at hX0 hB0
        have x0 := hX0.c0
        have x4 := hX0.c4
        have hk1000 : ks.length ≤ 1000 := by omega
        have E0 := Lib.hid e0
        clear hT hM hok hlen hN h1000 hbytes hb hnd e0 hln eT eL e1 e2 et hsg esg
        go_enter Try.func110, Try.ntmps110
        go_wp2
        rw [E0.out]
        clear x0 x4
        go_loopw [3, 7, 64] (fun u3 _ u64 wr => ∃ (j : Nat), u64 = .int .i64 j ∧ j ≤ ks.length ∧ wr.ownsRow W0.heap.size 9 1 u3 j (encs Value.string ((ks.take j).map tB)) ∧ Below W0.heap.size W0 wr)
          (fun _ _ u64 _ => ks.length - (intOf u64).toNat)
        case atStart => exact ⟨0, rfl, Nat.zero_le _, by simpa [encs] using World.ownsRow_nil _ _ _ _, Below.refl _ _⟩
        case round =>
          obtain ⟨j, rfl, hj, hO, hB⟩ := hrel
          have hle := hB.size
          by_cases hlt : j < ks.length
          · obtain ⟨ad, B3, e3, B4, e4, rfl, hMk, k0, k1, k2, k3, k4⟩ := HM.out j hlt
            have k0 := pw_cell_below (below_step hB0 hB) k0
            have k1 := pw_cell_below (below_step hB0 hB) k1
            have k2 := pw_cell_below (below_step hB0 hB) k2
            have k3 := pw_cell_below (below_step hB0 hB) k3
            have k4 := pw_cell_below (below_step hB0 hB) k4
            have Htake := Lib.hid (takeD ks z25 j hlt)
            have hxs := Lib.hid (Hkid.out (ks.getD j z25) (by simp [List.getD_eq_getElem?_getD, hlt]))
            obtain ⟨x, ex⟩ : ∃ x, ks.getD j z25 = x := ⟨_, rfl⟩
            rw [ex] at hMk k0 k1 k2 k3 k4 Htake hxs
            clear ex
            have hlj : ((ks.take j).map tB).length = j := by simp; omega
            obtain ⟨Au, cu, rfl⟩ := own_slice hO
            have HO := Lib.hid hO
            clear hO
            go_wp2_with (first | (go_at_call 110; (with_reducible refine (IH.out x hxs.out.1 hxs.out.2.1 hxs.out.2.2.1 hxs.out.2.2.2 B3 e3 B4 e4 _ (hMk.below (below_step hB0 (below_alloc hB _)))).mono ?_); rintro e w5 ⟨rfl, hB5⟩; have hBa := below_step (below_alloc hB _) hB5) | (at_builtin; refine print_append_of (w0 := W0) (W := w5) Value.string W0.heap.size rfl (.tmp 68) (.tmp 71) 22 9 (.string ByteArray.empty) 16 rfl Try.underlying22 infoSt rfl (by decide) (.slice Au j cu) ((ks.take j).map tB) (tB x) rfl rfl rfl (by rw [hlj]; exact pw_own_below HO.out (below_step (below_alloc (Below.refl _ _) _) hB5)) hBa (by have := hBa.size; omega) (by rw [hlj]; omega) ?_; intro v1 w2 hown2 hb2 hg2 hat2))
            go_roundw
            case rel => exact ⟨j + 1, by go_num, by omega, by rw [Htake.out, List.map_append]; rw [List.length_append, hlj] at hown2; exact hown2, hb2⟩
            case measure => simp [intOf]; omega
          · obtain rfl : j = ks.length := by omega
            rw [List.take_length] at hO
            have hXr := hX0.below hB
            have f0 := hXr.c0
            obtain ⟨Au, cu, rfl⟩ := own_slice hO
            have HO := Lib.hid hO
            clear hO
            go_wp2_with (first | (go_at_call 159; (with_reducible refine (sign159 _ 5 _ Hsg.out).mono ?_); rintro e w1 ⟨rfl, hb1⟩; have hB1 := below_step (below_step hB0 hB) hb1) | (go_at_call 126; (with_reducible refine (join126 _ W0.heap.size (.slice Au ks.length cu) (ks.map tB) (by rw [List.length_map]; exact pw_own_below HO.out hb1) (by simp; omega) (by rw [tB_map]; exact Hl.out)).mono ?_); rintro e w2 ⟨rfl, hb2⟩; rw [tB_map]; have hB2 := below_step hB1 hb2))
            go_ret
            exact ⟨rfl, hB2⟩
      · simp only [List.length_nil] at hX0 hB0 hb hlen hnd ⊢
        have HT := Lib.hid hT
        have HM := Lib.hid (fun j hj => hM.kid j hj)
        simp only at HM
        have hln := lenL_nodes ks
        have Hl := Lib.hid (show (commas (ks.map textM)).length ≤ 140737488355328 from by
          rw [hT] at hlen
          simp only [List.length_append, List.length_cons] at hlen
          omega)
        have Hkid := Lib.hid (fun (x : S25) (hx : x ∈ ks) => (⟨by have := nodes_lt ⟨6, ⟨#[]⟩, ⟨#[]⟩, [], ks⟩ x hx; omega, okL_mem hk hx, by have := nodes_lt ⟨6, ⟨#[]⟩, ⟨#[]⟩, [], ks⟩ x hx; omega, by have := bytesL_mem hx; omega⟩ : nodesM x ≤ N ∧ okM x = true ∧ nodesM x ≤ 1000 ∧ bytesM x ≤ 1000000))
        obtain ⟨sg, esg⟩ : ∃ sg : ByteArray, sg = ⟨#[124]⟩ := ⟨_, rfl⟩
        have hsg : match_sign.f 6 = some sg := by rw [esg]; rfl
        have Hsg := Lib.hid hsg
        obtain ⟨t, et⟩ : ∃ t, t = tB ⟨6, ⟨#[]⟩, ⟨#[]⟩, [], ks⟩ := ⟨_, rfl⟩
        have eT : t.data.toList = sg.data.toList ++ [40] ++ commas (ks.map textM) ++ [41] := by rw [et, esg]; unfold tB; rw [hT]; simp
        have eL : t.data.toList.length ≤ 1000000000 := by rw [et]; unfold tB; simp only; omega
        obtain ⟨s1, e1⟩ : ∃ s1 : ByteArray, s1.data.toList = sg.data.toList ++ [40] := ⟨⟨(sg.data.toList ++ [40]).toArray⟩, rfl⟩
        obtain ⟨s2, e2⟩ : ∃ s2 : ByteArray, s2.data.toList = sg.data.toList ++ [40] ++ commas (ks.map textM) := ⟨⟨(sg.data.toList ++ [40] ++ commas (ks.map textM)).toArray⟩, rfl⟩
        have a1 : Op.stringOp .add sg ⟨#[40]⟩ = pure (.string s1) := add_to (by rw [e1]) (by rw [e1]; rw [eT, List.length_append, List.length_append] at eL; omega)
        have a2 : Op.stringOp .add s1 ⟨(commas (ks.map textM)).toArray⟩ = pure (.string s2) := add_to (by rw [e1, e2]) (by rw [e2]; rw [eT, List.length_append] at eL; omega)
        have a3 : Op.stringOp .add s2 ⟨#[41]⟩ = pure (.string t) := add_to (by rw [e2, eT]) eL
        rw [← et]
        obtain ⟨W0, e0⟩ : ∃ W0, w.alloc (.cells #[.int .i64 6, .string ⟨#[]⟩, .string ⟨#[]⟩, .slice A3 0 c3, .slice A4 ks.length c4] 25) = W0 := ⟨_, rfl⟩
        have hsz : W0.heap.size = w.heap.size + 1 := by rw [← e0]; simp
        rw [e0] at hX0 hB0
        have x0 := hX0.c0
        have x4 := hX0.c4
        have hk1000 : ks.length ≤ 1000 := by omega
        have E0 := Lib.hid e0
        clear hT hM hok hlen hN h1000 hbytes hb hnd e0 hln eT eL e1 e2 et hsg esg
        go_enter Try.func110, Try.ntmps110
        go_wp2
        rw [E0.out]
        clear x0 x4
        go_loopw [3, 7, 64] (fun u3 _ u64 wr => ∃ (j : Nat), u64 = .int .i64 j ∧ j ≤ ks.length ∧ wr.ownsRow W0.heap.size 9 1 u3 j (encs Value.string ((ks.take j).map tB)) ∧ Below W0.heap.size W0 wr)
          (fun _ _ u64 _ => ks.length - (intOf u64).toNat)
        case atStart => exact ⟨0, rfl, Nat.zero_le _, by simpa [encs] using World.ownsRow_nil _ _ _ _, Below.refl _ _⟩
        case round =>
          obtain ⟨j, rfl, hj, hO, hB⟩ := hrel
          have hle := hB.size
          by_cases hlt : j < ks.length
          · obtain ⟨ad, B3, e3, B4, e4, rfl, hMk, k0, k1, k2, k3, k4⟩ := HM.out j hlt
            have k0 := pw_cell_below (below_step hB0 hB) k0
            have k1 := pw_cell_below (below_step hB0 hB) k1
            have k2 := pw_cell_below (below_step hB0 hB) k2
            have k3 := pw_cell_below (below_step hB0 hB) k3
            have k4 := pw_cell_below (below_step hB0 hB) k4
            have Htake := Lib.hid (takeD ks z25 j hlt)
            have hxs := Lib.hid (Hkid.out (ks.getD j z25) (by simp [List.getD_eq_getElem?_getD, hlt]))
            obtain ⟨x, ex⟩ : ∃ x, ks.getD j z25 = x := ⟨_, rfl⟩
            rw [ex] at hMk k0 k1 k2 k3 k4 Htake hxs
            clear ex
            have hlj : ((ks.take j).map tB).length = j := by simp; omega
            obtain ⟨Au, cu, rfl⟩ := own_slice hO
            have HO := Lib.hid hO
            clear hO
            go_wp2_with (first | (go_at_call 110; (with_reducible refine (IH.out x hxs.out.1 hxs.out.2.1 hxs.out.2.2.1 hxs.out.2.2.2 B3 e3 B4 e4 _ (hMk.below (below_step hB0 (below_alloc hB _)))).mono ?_); rintro e w5 ⟨rfl, hB5⟩; have hBa := below_step (below_alloc hB _) hB5) | (at_builtin; refine print_append_of (w0 := W0) (W := w5) Value.string W0.heap.size rfl (.tmp 68) (.tmp 71) 22 9 (.string ByteArray.empty) 16 rfl Try.underlying22 infoSt rfl (by decide) (.slice Au j cu) ((ks.take j).map tB) (tB x) rfl rfl rfl (by rw [hlj]; exact pw_own_below HO.out (below_step (below_alloc (Below.refl _ _) _) hB5)) hBa (by have := hBa.size; omega) (by rw [hlj]; omega) ?_; intro v1 w2 hown2 hb2 hg2 hat2))
            go_roundw
            case rel => exact ⟨j + 1, by go_num, by omega, by rw [Htake.out, List.map_append]; rw [List.length_append, hlj] at hown2; exact hown2, hb2⟩
            case measure => simp [intOf]; omega
          · obtain rfl : j = ks.length := by omega
            rw [List.take_length] at hO
            have hXr := hX0.below hB
            have f0 := hXr.c0
            obtain ⟨Au, cu, rfl⟩ := own_slice hO
            have HO := Lib.hid hO
            clear hO
            go_wp2_with (first | (go_at_call 159; (with_reducible refine (sign159 _ 6 _ Hsg.out).mono ?_); rintro e w1 ⟨rfl, hb1⟩; have hB1 := below_step (below_step hB0 hB) hb1) | (go_at_call 126; (with_reducible refine (join126 _ W0.heap.size (.slice Au ks.length cu) (ks.map tB) (by rw [List.length_map]; exact pw_own_below HO.out hb1) (by simp; omega) (by rw [tB_map]; exact Hl.out)).mono ?_); rintro e w2 ⟨rfl, hb2⟩; rw [tB_map]; have hB2 := below_step hB1 hb2))
            go_ret
            exact ⟨rfl, hB2⟩
      · simp only [List.length_nil] at hX0 hB0 hb hlen hnd ⊢
        have HT := Lib.hid hT
        have HM := Lib.hid (fun j hj => hM.kid j hj)
        simp only at HM
        have hln := lenL_nodes ks
        have Hl := Lib.hid (show (commas (ks.map textM)).length ≤ 140737488355328 from by
          rw [hT] at hlen
          simp only [List.length_append, List.length_cons] at hlen
          omega)
        have Hkid := Lib.hid (fun (x : S25) (hx : x ∈ ks) => (⟨by have := nodes_lt ⟨7, ⟨#[]⟩, ⟨#[]⟩, [], ks⟩ x hx; omega, okL_mem hk hx, by have := nodes_lt ⟨7, ⟨#[]⟩, ⟨#[]⟩, [], ks⟩ x hx; omega, by have := bytesL_mem hx; omega⟩ : nodesM x ≤ N ∧ okM x = true ∧ nodesM x ≤ 1000 ∧ bytesM x ≤ 1000000))
        obtain ⟨sg, esg⟩ : ∃ sg : ByteArray, sg = ⟨#[33]⟩ := ⟨_, rfl⟩
        have hsg : match_sign.f 7 = some sg := by rw [esg]; rfl
        have Hsg := Lib.hid hsg
        obtain ⟨t, et⟩ : ∃ t, t = tB ⟨7, ⟨#[]⟩, ⟨#[]⟩, [], ks⟩ := ⟨_, rfl⟩
        have eT : t.data.toList = sg.data.toList ++ [40] ++ commas (ks.map textM) ++ [41] := by rw [et, esg]; unfold tB; rw [hT]; simp
        have eL : t.data.toList.length ≤ 1000000000 := by rw [et]; unfold tB; simp only; omega
        obtain ⟨s1, e1⟩ : ∃ s1 : ByteArray, s1.data.toList = sg.data.toList ++ [40] := ⟨⟨(sg.data.toList ++ [40]).toArray⟩, rfl⟩
        obtain ⟨s2, e2⟩ : ∃ s2 : ByteArray, s2.data.toList = sg.data.toList ++ [40] ++ commas (ks.map textM) := ⟨⟨(sg.data.toList ++ [40] ++ commas (ks.map textM)).toArray⟩, rfl⟩
        have a1 : Op.stringOp .add sg ⟨#[40]⟩ = pure (.string s1) := add_to (by rw [e1]) (by rw [e1]; rw [eT, List.length_append, List.length_append] at eL; omega)
        have a2 : Op.stringOp .add s1 ⟨(commas (ks.map textM)).toArray⟩ = pure (.string s2) := add_to (by rw [e1, e2]) (by rw [e2]; rw [eT, List.length_append] at eL; omega)
        have a3 : Op.stringOp .add s2 ⟨#[41]⟩ = pure (.string t) := add_to (by rw [e2, eT]) eL
        rw [← et]
        obtain ⟨W0, e0⟩ : ∃ W0, w.alloc (.cells #[.int .i64 7, .string ⟨#[]⟩, .string ⟨#[]⟩, .slice A3 0 c3, .slice A4 ks.length c4] 25) = W0 := ⟨_, rfl⟩
        have hsz : W0.heap.size = w.heap.size + 1 := by rw [← e0]; simp
        rw [e0] at hX0 hB0
        have x0 := hX0.c0
        have x4 := hX0.c4
        have hk1000 : ks.length ≤ 1000 := by omega
        have E0 := Lib.hid e0
        clear hT hM hok hlen hN h1000 hbytes hb hnd e0 hln eT eL e1 e2 et hsg esg
        go_enter Try.func110, Try.ntmps110
        go_wp2
        rw [E0.out]
        clear x0 x4
        go_loopw [3, 7, 64] (fun u3 _ u64 wr => ∃ (j : Nat), u64 = .int .i64 j ∧ j ≤ ks.length ∧ wr.ownsRow W0.heap.size 9 1 u3 j (encs Value.string ((ks.take j).map tB)) ∧ Below W0.heap.size W0 wr)
          (fun _ _ u64 _ => ks.length - (intOf u64).toNat)
        case atStart => exact ⟨0, rfl, Nat.zero_le _, by simpa [encs] using World.ownsRow_nil _ _ _ _, Below.refl _ _⟩
        case round =>
          obtain ⟨j, rfl, hj, hO, hB⟩ := hrel
          have hle := hB.size
          by_cases hlt : j < ks.length
          · obtain ⟨ad, B3, e3, B4, e4, rfl, hMk, k0, k1, k2, k3, k4⟩ := HM.out j hlt
            have k0 := pw_cell_below (below_step hB0 hB) k0
            have k1 := pw_cell_below (below_step hB0 hB) k1
            have k2 := pw_cell_below (below_step hB0 hB) k2
            have k3 := pw_cell_below (below_step hB0 hB) k3
            have k4 := pw_cell_below (below_step hB0 hB) k4
            have Htake := Lib.hid (takeD ks z25 j hlt)
            have hxs := Lib.hid (Hkid.out (ks.getD j z25) (by simp [List.getD_eq_getElem?_getD, hlt]))
            obtain ⟨x, ex⟩ : ∃ x, ks.getD j z25 = x := ⟨_, rfl⟩
            rw [ex] at hMk k0 k1 k2 k3 k4 Htake hxs
            clear ex
            have hlj : ((ks.take j).map tB).length = j := by simp; omega
            obtain ⟨Au, cu, rfl⟩ := own_slice hO
            have HO := Lib.hid hO
            clear hO
            go_wp2_with (first | (go_at_call 110; (with_reducible refine (IH.out x hxs.out.1 hxs.out.2.1 hxs.out.2.2.1 hxs.out.2.2.2 B3 e3 B4 e4 _ (hMk.below (below_step hB0 (below_alloc hB _)))).mono ?_); rintro e w5 ⟨rfl, hB5⟩; have hBa := below_step (below_alloc hB _) hB5) | (at_builtin; refine print_append_of (w0 := W0) (W := w5) Value.string W0.heap.size rfl (.tmp 68) (.tmp 71) 22 9 (.string ByteArray.empty) 16 rfl Try.underlying22 infoSt rfl (by decide) (.slice Au j cu) ((ks.take j).map tB) (tB x) rfl rfl rfl (by rw [hlj]; exact pw_own_below HO.out (below_step (below_alloc (Below.refl _ _) _) hB5)) hBa (by have := hBa.size; omega) (by rw [hlj]; omega) ?_; intro v1 w2 hown2 hb2 hg2 hat2))
            go_roundw
            case rel => exact ⟨j + 1, by go_num, by omega, by rw [Htake.out, List.map_append]; rw [List.length_append, hlj] at hown2; exact hown2, hb2⟩
            case measure => simp [intOf]; omega
          · obtain rfl : j = ks.length := by omega
            rw [List.take_length] at hO
            have hXr := hX0.below hB
            have f0 := hXr.c0
            obtain ⟨Au, cu, rfl⟩ := own_slice hO
            have HO := Lib.hid hO
            clear hO
            go_wp2_with (first | (go_at_call 159; (with_reducible refine (sign159 _ 7 _ Hsg.out).mono ?_); rintro e w1 ⟨rfl, hb1⟩; have hB1 := below_step (below_step hB0 hB) hb1) | (go_at_call 126; (with_reducible refine (join126 _ W0.heap.size (.slice Au ks.length cu) (ks.map tB) (by rw [List.length_map]; exact pw_own_below HO.out hb1) (by simp; omega) (by rw [tB_map]; exact Hl.out)).mono ?_); rintro e w2 ⟨rfl, hb2⟩; rw [tB_map]; have hB2 := below_step hB1 hb2))
            go_ret
            exact ⟨rfl, hB2⟩

set_option maxRecDepth 100000 in
set_option maxHeartbeats 4000000 in
/-- match.Text of a matcher that may be. -/
theorem Text61 (w : World) (m : S25) (A3 : Option Addr) (c3 : Nat) (A4 : Option Addr) (c4 : Nat) (hok : chkB m = true) (hM : MC w m A3 c3 A4 c4) :
    Calls Try.prog 61 #[.agg #[.int .i64 m.f0, .string m.f1, .string m.f2, .slice A3 m.f3.length c3, .slice A4 m.f4.length c4]] w fun e w' => e = .returned (.string (tB m)) ∧ Below w.heap.size w w' := by
  have hB0 : Below w.heap.size w (w.alloc (.cells #[.int .i64 m.f0, .string m.f1, .string m.f2, .slice A3 m.f3.length c3, .slice A4 m.f4.length c4] 25)) := below_alloc (Below.refl _ _) _
  have hX0 : BoxM (w.alloc (.cells #[.int .i64 m.f0, .string m.f1, .string m.f2, .slice A3 m.f3.length c3, .slice A4 m.f4.length c4] 25)) w.heap.size m.f0 m.f1 m.f2 (.slice A3 m.f3.length c3) (.slice A4 m.f4.length c4) := blk_new w _
  obtain ⟨q1, q2, q3, q4⟩ := chk_def.1 hok
  have Hok := Lib.hid hok
  have Hq := Lib.hid (show okM m = true ∧ nodesM m ≤ 1000 ∧ bytesM m ≤ 1000000 from ⟨q1, by omega, by omega⟩)
  clear hok q1 q2 q3 q4
  go_enter Try.func61, Try.ntmps61
  go_wp2_with fail
  (with_reducible refine (check53v _ m A3 c3 A4 c4 true Hok.out (hM.below hB0)).mono ?_)
  rintro e w1 ⟨rfl, hb1⟩
  have hX1 := hX0.below hb1
  have x0 := hX1.c0
  have x1 := hX1.c1
  have x2 := hX1.c2
  have x3 := hX1.c3
  have x4 := hX1.c4
  have hB1 := below_step hB0 hb1
  go_wp2_with fail
  (with_reducible refine (text110 _ m (Nat.le_refl _) Hq.out.1 Hq.out.2.1 Hq.out.2.2 A3 c3 A4 c4 _ (hM.below hB1)).mono ?_)
  rintro e w2 ⟨rfl, hb2⟩
  go_wp2_with fail
  go_ret
  exact ⟨rfl, below_step hB1 hb2⟩
end Go.Proofs.Yteafilojjdfllaa
