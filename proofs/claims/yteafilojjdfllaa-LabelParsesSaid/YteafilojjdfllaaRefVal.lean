/- Own text: ValR, RefVal, laid into one text. -/
import Derived.Test.YteafilojjdfllaaParseL
import Derived.Test.YteafilojjdfllaaUnq132
import Derived.Test.YteafilojjdfllaaRefName
namespace Go.Proofs.Yteafilojjdfllaa
section
open Go Go.RowKit Go.Proofs.YteafilojjdfllaaW.PrintWords Go.Proofs.Yteafilojjdfllaa.PAll

theorem rv_end (s : ByteArray) (j : Nat) (h : s.size ≤ j) : unqW stepR (s.data.toList.drop j) = none := by
  rw [List.drop_of_length_le (by simpa using h), unq_nil]
theorem rv_34 (s : ByteArray) (j : Nat) (h : j < s.size) (hx : bN s j = 34) : unqW stepR (s.data.toList.drop j) = some ([], s.data.toList.drop (j + 1)) := by
  rw [bN_drop s j h, hx, unq_cons, stepR_cons, if_pos rfl]
theorem rv_raw (s : ByteArray) (j : Nat) (h : j < s.size) (x : UInt8) (hx : bN s j = x) (h1 : x ≠ 34) (h2 : x ≠ 92) : unqW stepR (s.data.toList.drop j) = (unqW stepR (s.data.toList.drop (j + 1))).map (fun q => (x :: q.1, q.2)) := by
  rw [bN_drop s j h, hx, unq_cons, stepR_cons, if_neg h1, if_neg h2]
  rfl
theorem rv_short (s : ByteArray) (j : Nat) (h : j < s.size) (h2 : s.size < j + 2) (hx : bN s j = 92) : unqW stepR (s.data.toList.drop j) = none := by
  rw [bN_drop s j h, hx, unq_cons, stepR_cons, if_neg (by decide), if_pos rfl, drop_len, if_pos (by omega)]
theorem rv_next (s : ByteArray) (j : Nat) (h : j + 2 ≤ s.size) (hx : bN s j = 92) (y : UInt8) (hy : bN s (j + 1) = y) (h1 : y ≠ 120) : unqW stepR (s.data.toList.drop j) = (unqW stepR (s.data.toList.drop (j + 2))).map (fun q => (y :: q.1, q.2)) := by
  rw [bN_drop s j (by omega), hx, unq_cons, stepR_cons, if_neg (by decide), if_pos rfl, drop_len, if_neg (by omega), drop_getD, Nat.add_zero, hy, if_pos h1]
  simp only [List.drop_drop]
theorem rv_xshort (s : ByteArray) (j : Nat) (h : j + 2 ≤ s.size) (h4 : s.size < j + 4) (hx : bN s j = 92) (h1 : bN s (j + 1) = 120) : unqW stepR (s.data.toList.drop j) = none := by
  rw [bN_drop s j (by omega), hx, unq_cons, stepR_cons, if_neg (by decide), if_pos rfl, drop_len, if_neg (by omega), drop_getD, Nat.add_zero, h1, if_neg (by simp), if_pos (by omega)]
theorem rv_hex (s : ByteArray) (j : Nat) (h : j + 4 ≤ s.size) (hx : bN s j = 92) (h1 : bN s (j + 1) = 120) (y z : UInt8) (hy : bN s (j + 2) = y) (hz : bN s (j + 3) = z) : unqW stepR (s.data.toList.drop j) = if hexV y < 0 ∨ hexV z < 0 then none else (unqW stepR (s.data.toList.drop (j + 4))).map (fun q => (hexB y z :: q.1, q.2)) := by
  rw [bN_drop s j (by omega), hx, unq_cons, stepR_cons, if_neg (by decide), if_pos rfl, drop_len, if_neg (by omega), drop_getD, drop_getD, drop_getD, Nat.add_zero, h1, if_neg (by simp), if_neg (by omega), hy, hz]
  split <;> rename_i e <;> split at e <;> cases e <;> rename_i e2
  · rw [if_pos e2]
  · rw [if_neg e2, List.drop_drop]
theorem rval_34 (s : ByteArray) (j : Nat) (h : j < s.size) (hx : bN s j = 34) : valW stepR (s.data.toList.drop j) = (unqW stepR (s.data.toList.drop (j + 1))).map (fun q => ([] ++ q.1, q.2)) := by
  rw [bN_drop s j h, hx]
  show unqW stepR _ = _
  cases unqW stepR (s.data.toList.drop (j + 1)) <;> rfl
theorem rval_end (s : ByteArray) (j : Nat) (h : s.size ≤ j) : valW stepR (s.data.toList.drop j) = none := by
  rw [List.drop_of_length_le (by simpa using h)]; rfl
theorem rval_no (s : ByteArray) (j : Nat) (h : j < s.size) (hx : bN s j ≠ 34) : valW stepR (s.data.toList.drop j) = none := by
  rw [bN_drop s j h]
  generalize bN s j = y at hx
  unfold valW
  split
  · rename_i e; cases e; exact absurd rfl hx
  · rfl
/-- two digits, put together -/
theorem hex_sum {y z : UInt8} {v1 v2 : Int} (h1 : hexV y = v1) (h2 : hexV z = v2) (p1 : 0 ≤ v1) (p2 : 0 ≤ v2) : (v1 * 16 % 256 + v2) % 256 = ((hexB y z).toNat : Int) := by
  have r1 := (hexV_range y).2
  have r2 := (hexV_range z).2
  rw [hexB, h1, h2]
  simp
  omega
/-! ### the document's reading of a text -/
def parseR (s : ByteArray) : Option (List S68) := (manyW cutR stepR 9 s.data.toList).filter (fun l => chkS l && ((textB l).toList == s.toList))
theorem parseR_none {s : ByteArray} (h : manyW cutR stepR 9 s.data.toList = none) : parseR s = none := by unfold parseR; rw [h]; rfl
theorem parseR_bad {s : ByteArray} {l : List S68} (h : manyW cutR stepR 9 s.data.toList = some l) (hb : (chkS l && ((textB l).toList == s.toList)) = false) : parseR s = none := by
  unfold parseR; rw [h, Option.filter, if_neg (by rw [hb]; decide)]
theorem parseR_good {s : ByteArray} {l : List S68} (h : manyW cutR stepR 9 s.data.toList = some l) (hb : (chkS l && ((textB l).toList == s.toList)) = true) : parseR s = some l := by
  unfold parseR; rw [h, Option.filter, if_pos hb]
theorem parseR_sound {s : ByteArray} {l : List S68} (h : parseR s = some l) : chkS l = true ∧ textB l = s := by
  unfold parseR at h
  rw [Option.filter_eq_some_iff, Bool.and_eq_true, beq_iff_eq, ByteArray.toList_eq, ByteArray.toList_eq] at h
  exact ⟨h.2.1, ba_ext h.2.2⟩
theorem parseR_text {l : List S68} (h : chkS l = true) : parseR (textB l) = some l := by
  have h1 : manyW cutR stepR 9 (textB l).data.toList = some l := by
    have hn := (chkS_iff l).1 h
    refine many_text right_R cutR_name l 9 (by rintro rfl; simp at hn) (by omega) (fun x hx => ?_)
    unfold chkS at h
    simp only [Bool.and_eq_true, List.all_eq_true] at h
    have := h.1.2 x hx
    unfold okS at this
    rw [Bool.and_eq_true] at this
    exact this.1
  exact parseR_good h1 (by rw [h]; simp)
/-- the two read the same -/
theorem parseR_W (s : ByteArray) : parseR s = parseW s := by
  cases h : parseR s with
  | some l =>
    obtain ⟨h1, rfl⟩ := parseR_sound h
    exact (parse_text h1).symm
  | none =>
    cases h2 : parseW s with
    | none => rfl
    | some l =>
      obtain ⟨h1, rfl⟩ := parse_sound h2
      rw [parseR_text h1] at h
      cases h
/-- a name, and what stands behind it -/
theorem one_no {s : ByteArray} {i e : Nat} (h : (s.data.toList.drop i).dropWhile nameC = s.data.toList.drop e) (hx : e < s.size → bN s e ≠ 61) : oneW cutR stepR (s.data.toList.drop i) = none := by
  unfold oneW cutR
  rw [h, if_neg]
  intro hh
  by_cases he : e < s.size
  · rw [bN_drop s e he] at hh
    exact hx he (by simpa using hh)
  · rw [List.drop_of_length_le (by simp; omega)] at hh
    cases hh
theorem take_drop_len {α : Type} (p : α → Bool) (l : List α) : l.take (l.takeWhile p).length = l.takeWhile p ∧ l.drop (l.takeWhile p).length = l.dropWhile p := by
  induction l with
  | nil => exact ⟨rfl, rfl⟩
  | cons x l ih =>
    rw [List.takeWhile_cons, List.dropWhile_cons]
    split
    · simp [ih.1, ih.2]
    · simp
theorem one_yes {s : ByteArray} {i e : Nat} (hd : (s.data.toList.drop i).dropWhile nameC = s.data.toList.drop e) (he : e = i + ((s.data.toList.drop i).takeWhile nameC).length) (hlt : e < s.size) (hx : bN s e = 61) : oneW cutR stepR (s.data.toList.drop i) = (valW stepR (s.data.toList.drop (e + 1))).map (fun q => (⟨⟨((s.data.toList.drop i).takeWhile nameC).toArray⟩, ⟨q.1.toArray⟩⟩, q.2)) := by
  unfold oneW cutR
  rw [hd, bN_drop s e hlt, hx, List.head?_cons, if_pos rfl]
  simp only
  rw [(take_drop_len nameC _).1, List.drop_drop, show i + (((s.data.toList.drop i).takeWhile nameC).length + 1) = e + 1 by omega]
end
section
open Go Go.RowKit Go.Proofs.YteafilojjdfllaaW.PrintWords Go.Proofs.YteafilojjdfllaaW.PrintLast Go.Proofs.YteafilojjdfllaaW.PrintMore Go.Proofs.Yteafilojjdfllaa.PAll
set_option linter.unusedVariables false
set_option linter.unusedSimpArgs false

/-- how Value ends -/
def ValPost (w0 w : World) (g : Nat) (s : ByteArray) (Q : Option (List UInt8 × List UInt8)) (e : Ending) (w' : World) : Prop :=
  Below w0.heap.size w0 w' ∧ KeepBut w w' g none ∧
    ((Q = none ∧ ∃ x j, e = .returned (.string x) ∧ j ≤ s.size ∧ SB w' g s j true) ∨ ∃ v t, Q = some (v, t) ∧ e = .returned (.string ⟨v.toArray⟩) ∧ t.length ≤ s.size ∧ SB w' g s (s.size - t.length) false)
theorem far_g {g k n : Nat} (hg : g < n) (hk : n ≤ k) : k ≠ g := by omega
theorem rowOk {o : Value} {n : Nat} (h : ∀ k, o.ownBlock = some k → n ≤ k) : o.ownBlock = none ∨ ∃ b, o.ownBlock = some b ∧ n ≤ b := by
  cases e : o.ownBlock with
  | none => exact .inl rfl
  | some k => exact .inr ⟨k, rfl, h k e⟩
theorem keep_grown {w W W1 : World} {g : Nat} {o : Value} (h : KeepBut w W g none) (ho : ∀ k, o.ownBlock = some k → w.heap.size ≤ k) (hg : W.grownBy W1 o.ownBlock) : KeepBut w W1 g none :=
  h.trans (KeepBut.of_grown hg g) (rowOk ho)
theorem SB.grown {W W1 : World} {g i n : Nat} {s : ByteArray} {b : Bool} {o : Value} (h : SB W g s i b) (hgn : g < n) (ho : ∀ k, o.ownBlock = some k → n ≤ k) (hg : W.grownBy W1 o.ownBlock) : SB W1 g s i b :=
  (hg.block g h.lt (fun e => by have := ho g e.symm; omega)).trans h
theorem measB {W W' : World} {g n j k : Nat} (h : j < n) (hk : j < k) (c1 : W.cell? ⟨g, 1, none⟩ = some (.int .i64 (j : Int))) (c2 : W'.cell? ⟨g, 1, none⟩ = some (.int .i64 (k : Int))) : n - (intOf ((W'.cell? ⟨g, 1, none⟩).getD undef)).toNat < n - (intOf ((W.cell? ⟨g, 1, none⟩).getD undef)).toNat := by
  rw [c1, c2]
  show n - ((k : Nat) : Int).toNat < n - (j : Int).toNat
  omega
theorem val_post {w0 w W : World} {g j : Nat} {s : ByteArray} {Q : Option (List UInt8 × List UInt8)} {xs : List UInt8} (hQ : Q = some (xs ++ [], s.data.toList.drop j)) (hj : j ≤ s.size) (hB : Below w0.heap.size w0 W) (hK : KeepBut w W g none) (hS : SB W g s j false) :
    ValPost w0 w g s Q (.returned (.string (strOfNums (ints xs)))) W := by
  have h1 : strOfNums (ints xs) = ⟨xs.toArray⟩ := Lib.Lz.strOfNums_map xs
  have h2 : (s.data.toList.drop j).length = s.size - j := drop_len s j
  refine ⟨hB, hK, Or.inr ⟨xs ++ [], _, hQ, by rw [h1, List.append_nil], by omega, ?_⟩⟩
  rw [show s.size - (s.data.toList.drop j).length = j by omega]
  exact hS
theorem isAt_false {s : ByteArray} {i : Nat} {b : Bool} (h : isAt s i b 34 = false) : (if b = true then none else valW stepR (s.data.toList.drop i)) = none := by
  cases b with
  | true => rfl
  | false =>
    rw [if_neg (by decide)]
    by_cases hlt : i < s.size
    · refine rval_no s i hlt (fun e => ?_)
      unfold isAt at h
      rw [e, decide_eq_true hlt] at h
      simp at h
    · exact rval_end s i (by omega)
theorem isAt_true {s : ByteArray} {i : Nat} {b : Bool} {c : UInt8} (h : isAt s i b c = true) : i < s.size ∧ b = false ∧ bN s i = c := by
  unfold isAt at h
  simp only [Bool.and_eq_true, Bool.not_eq_true', decide_eq_true_eq, beq_iff_eq] at h
  exact ⟨h.1.2, h.1.1, h.2⟩
theorem isAt_true34 {s : ByteArray} {i : Nat} {b : Bool} (h : isAt s i b 34 = true) : (if b = true then none else valW stepR (s.data.toList.drop i)) = (unqW stepR (s.data.toList.drop (i + 1))).map (fun q => ([] ++ q.1, q.2)) := by
  obtain ⟨h1, rfl, h3⟩ := isAt_true h
  rw [if_neg (by decide)]
  exact rval_34 s i h1 h3
theorem hexBad {c : UInt8} (h : hexV c < 0) : hexRet c = .tuple #[.int .u8 0, .bool false] := by unfold hexRet; rw [if_pos h]
theorem hexGood {c : UInt8} {v : Int} (hv : hexV c = v) (h : ¬ v < 0) : hexRet c = .tuple #[.int .u8 v, .bool true] := by unfold hexRet; rw [hv, if_neg h]
theorem hex170b (w : World) (c : UInt8) (v : Int) (hv : hexV c = v) (h : v < 0) : Calls Try.prog 170 #[.int .u8 (c.toNat : Int)] w fun e w' => e = .returned (.tuple #[.int .u8 0, .bool false]) ∧ ∃ m, w' = w.drewN m := by
  rw [← hexBad (show hexV c < 0 from by rw [hv]; exact h)]; exact hex170 w c
theorem hex170g (w : World) (c : UInt8) (v : Int) (hv : hexV c = v) (h : ¬ v < 0) : Calls Try.prog 170 #[.int .u8 (c.toNat : Int)] w fun e w' => e = .returned (.tuple #[.int .u8 v, .bool true]) ∧ ∃ m, w' = w.drewN m := by
  rw [← hexGood hv h]; exact hex170 w c

set_option maxRecDepth 100000 in
set_option maxHeartbeats 16000000 in
/-- Value. -/
theorem value136 (w0 w : World) (g : Nat) (s : ByteArray) (i : Nat) (b : Bool) (hi : i ≤ s.size) (hs : s.size ≤ 1000000000) (hg : w0.heap.size ≤ g) (hB : Below w0.heap.size w0 w) (hS : SB w g s i b) :
    Calls Try.prog 136 #[.pointer (some ⟨g, 0, none⟩)] w (ValPost w0 w g s (if b = true then none else valW stepR (s.data.toList.drop i))) := by
  have hm := Lib.hid (show Calls Try.prog 135 #[.pointer (some ⟨g, 0, none⟩), .int .u8 34] w (SPost w0 w g s (if isAt s i b 34 = true then i + 1 else i) (!isAt s i b 34) (.tuple #[])) from must135 w0 w g s i b 34 hi hs hg hB hS)
  have hgw := hS.lt
  obtain ⟨Q, hQ⟩ : ∃ Q, (if b = true then none else valW stepR (s.data.toList.drop i)) = Q := ⟨_, rfl⟩
  have HQ : ∃ j bd, j ≤ s.size ∧ (if isAt s i b 34 = true then i + 1 else i) = j ∧ (!isAt s i b 34) = bd ∧ Hid (bd = true → Q = none) ∧ Hid (bd = false → Q = (unqW stepR (s.data.toList.drop j)).map (fun q => (([] : List UInt8) ++ q.1, q.2))) := by
    cases h : isAt s i b 34 with
    | true => exact ⟨i + 1, false, by have := (isAt_true h).1; omega, rfl, rfl, Lib.hid (fun h => absurd h (by decide)), Lib.hid (fun _ => by rw [← hQ]; exact isAt_true34 h)⟩
    | false => exact ⟨i, true, hi, rfl, rfl, Lib.hid (fun _ => by rw [← hQ]; exact isAt_false h), Lib.hid (fun h => absurd h (by decide))⟩
  obtain ⟨j0, bd0, hj0, ej0, eb0, HN0, HE0⟩ := HQ
  rw [hQ]
  rw [ej0, eb0] at hm
  clear hS hB ej0 eb0 hQ
  go_enter Try.func136, Try.ntmps136
  go_wp2_with fail
  (with_reducible refine hm.out.mono ?_)
  rintro e w1 ⟨rfl, hB1, hK1, hS1⟩
  have HB1 := Lib.hid hB1
  have HK1 := Lib.hid hK1
  have HS1 := Lib.hid hS1
  clear hB1 hK1 hS1 hm
  go_wp2
  go_loopw [3, 4, 5, 6, 7, 8] (fun u3 _ _ _ _ _ wr => ∃ (j : Nat) (bd : Bool) (xs : List UInt8), j ≤ s.size ∧ xs.length ≤ j ∧ Hid ((Kd.int .u8).R 5 wr w0.heap.size (fun k => w.heap.size ≤ k) u3 (ints xs)) ∧ Hid (SB wr g s j bd) ∧ Hid (bd = true → Q = none) ∧ Hid (bd = false → Q = (unqW stepR (s.data.toList.drop j)).map (fun q => (xs ++ q.1, q.2))) ∧ Hid (Below w0.heap.size w0 wr) ∧ Hid (KeepBut w wr g none))
    (fun _ _ _ _ _ _ wr => s.size - (intOf ((wr.cell? ⟨g, 1, none⟩).getD undef)).toNat)
  case atStart => exact ⟨j0, bd0, [], hj0, Nat.zero_le _, Lib.hid (Kd.R_nil (Kd.int .u8) _ _ _ _), HS1, HN0, HE0, HB1, HK1⟩
  case round =>
    clear HB1 HK1 HS1 HN0 HE0 hj0
    obtain ⟨j, bd, xs, hj, hxl, HR, HS, HN, HE, HB, HK⟩ := hrel
    cases bd with
    | true =>
      have HN1 := Lib.hid (HN.out rfl)
      clear HN HE
      have g2 := HS.out.c2
      have hcv := own_string (P := Try.prog) Try.underlying85 Try.underlying5 Try.underlying9 (Kd.own_of_R HR.out)
      go_wp2
      go_ret
      exact ⟨HB.out, HK.out, Or.inl ⟨HN1.out, _, j, rfl, hj, HS.out⟩⟩
    | false =>
      have HE1 := Lib.hid (HE.out rfl)
      clear HE HN
      rename Hid (Q = _) => HE
      have HS0 := HS
      have g0 := HS.out.c0
      have g1 := HS.out.c1
      have g2 := HS.out.c2
      have z1 := HS.out.z1
      have z2 := HS.out.z2
      by_cases hlt : j < s.size
      · have d1 : decide (s.size ≤ j) = false := decide_eq_false (by omega)
        have d2 : decide ((s.size : Int) ≤ (j : Int)) = false := decide_eq_false (by omega)
        obtain ⟨x, hx⟩ : ∃ x, bN s j = x := ⟨_, rfl⟩
        have hx0 := bN_at s j x hx
        have HX := Lib.hid hx
        clear hx
        go_wp2
        go_quiet (fail)
        clear g0 g1 g2 z1 z2
        have HS := Lib.hid (HS.out.drewN nq)
        have HB := Lib.hid (pw_below_drewN HB.out nq)
        have HK := Lib.hid (keep_drewN HK.out nq)
        have HR := Lib.hid (Kd.R_drewN HR.out nq)
        generalize wr.drewN nq = W1 at HS HB HK HR ⊢
        clear nq
        have g0 := HS.out.c0
        have g1 := HS.out.c1
        have g2 := HS.out.c2
        have z1 := HS.out.z1
        have z2 := HS.out.z2
        go_wp2
        go_quiet (fail)
        clear g0 g1 g2 z1 z2
        have HS := Lib.hid (HS.out.drewN nq)
        have HB := Lib.hid (pw_below_drewN HB.out nq)
        have HK := Lib.hid (keep_drewN HK.out nq)
        have HR := Lib.hid (Kd.R_drewN HR.out nq)
        generalize W1.drewN nq = W2 at HS HB HK HR ⊢
        clear nq
        have g0 := HS.out.c0
        have g1 := HS.out.c1
        have g2 := HS.out.c2
        have z1 := HS.out.z1
        have z2 := HS.out.z2
        obtain ⟨j1, ej1, ej1I⟩ : ∃ j1 : Nat, j1 = j + 1 ∧ (j : Int) + 1 = (j1 : Int) := ⟨j + 1, rfl, rfl⟩
        have HJ1 := Lib.hid ej1
        have hj1 : j < j1 := by omega
        have hj1' : j1 ≤ s.size := by omega
        clear ej1
        have HS := Lib.hid (show SB (W2.setCell ⟨g, 1, none⟩ (.int .i64 (j1 : Int))) g s j1 false from HS.out.set1 j1)
        have HB := Lib.hid (HB.out.setCell (p := ⟨g, 1, none⟩) hg (.int .i64 (j1 : Int)))
        have HK := Lib.hid (HK.out.set_ 1 (.int .i64 (j1 : Int)))
        have HR := Lib.hid (Kd.R_far (p := ⟨g, 1, none⟩) HR.out (fun k hk => far_g hgw hk) (.int .i64 (j1 : Int)))
        by_cases e34 : (x.toNat : Int) = 34
        · have hcv := own_string (P := Try.prog) Try.underlying85 Try.underlying5 Try.underlying9 (Kd.own_of_R HR.out)
          have HE2 := Lib.hid (HE.out.trans (congrArg (Option.map (fun q => (xs ++ q.1, q.2))) (rv_34 s j hlt (HX.out.trans ((un_toNat (n := 34) (by decide)).1 e34)))))
          have b34 : ((x.toNat : Int) == 34) = true := beq_iff_eq.2 e34
          clear e34
          go_wp2
          go_ret
          exact val_post (by rw [HJ1.out]; exact HE2.out) hj1' HB.out HK.out HS.out
        · have b34 : ((x.toNat : Int) == 34) = false := beq_eq_false_iff_ne.2 e34
          have n34 : x ≠ 34 := fun h => e34 (by rw [h]; rfl)
          by_cases e92 : (x.toNat : Int) = 92
          · have b92 : ((x.toNat : Int) == 92) = true := beq_iff_eq.2 e92
            have b92n : ((x.toNat : Int) != 92) = false := by simp [bne, b92]
            have HX92 := Lib.hid (HX.out.trans ((un_toNat (n := 92) (by decide)).1 e92))
            clear e34 e92 n34
            go_wp2
            obtain ⟨W3, eW3⟩ : ∃ W3, W2.setCell ⟨g, 1, none⟩ (.int .i64 (j1 : Int)) = W3 := ⟨_, rfl⟩
            rw [eW3] at HS HB HK HR ⊢
            clear eW3 g0 g1 g2 z1 z2
            have g0 := HS.out.c0
            have g1 := HS.out.c1
            have g2 := HS.out.c2
            have z1 := HS.out.z1
            have z2 := HS.out.z2
            by_cases hlt1 : j1 < s.size
            · have d3 : decide (s.size ≤ j1) = false := decide_eq_false (by omega)
              have d4 : decide ((s.size : Int) ≤ (j1 : Int)) = false := decide_eq_false (by omega)
              obtain ⟨y, hy⟩ : ∃ y, bN s j1 = y := ⟨_, rfl⟩
              have hy0 := bN_at s j1 y hy
              have HY := Lib.hid (show bN s (j + 1) = y from by rw [← HJ1.out]; exact hy)
              clear hy
              go_quiet (fail)
              clear g0 g1 g2 z1 z2
              have HS := Lib.hid (HS.out.drewN nq)
              have HB := Lib.hid (pw_below_drewN HB.out nq)
              have HK := Lib.hid (keep_drewN HK.out nq)
              have HR := Lib.hid (Kd.R_drewN HR.out nq)
              generalize W3.drewN nq = W4 at HS HB HK HR ⊢
              clear nq
              have g0 := HS.out.c0
              have g1 := HS.out.c1
              have g2 := HS.out.c2
              have z1 := HS.out.z1
              have z2 := HS.out.z2
              go_wp2
              go_quiet (fail)
              clear g0 g1 g2 z1 z2
              have HS := Lib.hid (HS.out.drewN nq)
              have HB := Lib.hid (pw_below_drewN HB.out nq)
              have HK := Lib.hid (keep_drewN HK.out nq)
              have HR := Lib.hid (Kd.R_drewN HR.out nq)
              generalize W4.drewN nq = W5 at HS HB HK HR ⊢
              clear nq
              have g0 := HS.out.c0
              have g1 := HS.out.c1
              have g2 := HS.out.c2
              have z1 := HS.out.z1
              have z2 := HS.out.z2
              obtain ⟨j2, ej2, ej2I⟩ : ∃ j2 : Nat, j2 = j1 + 1 ∧ (j1 : Int) + 1 = (j2 : Int) := ⟨j1 + 1, rfl, rfl⟩
              have HJ2 := Lib.hid (show j2 = j + 2 from by rw [ej2, HJ1.out])
              have hj2 : j1 < j2 := by omega
              have hj2' : j2 ≤ s.size := by omega
              have hj2j : j2 ≤ j + 2 := by have := HJ2.out; omega
              clear ej2
              have HS := Lib.hid (show SB (W5.setCell ⟨g, 1, none⟩ (.int .i64 (j2 : Int))) g s j2 false from HS.out.set1 j2)
              have HB := Lib.hid (HB.out.setCell (p := ⟨g, 1, none⟩) hg (.int .i64 (j2 : Int)))
              have HK := Lib.hid (HK.out.set_ 1 (.int .i64 (j2 : Int)))
              have HR := Lib.hid (Kd.R_far (p := ⟨g, 1, none⟩) HR.out (fun k hk => far_g hgw hk) (.int .i64 (j2 : Int)))
              by_cases e120 : (y.toNat : Int) = 120
              · have b120 : ((y.toNat : Int) == 120) = true := beq_iff_eq.2 e120
                have b120n : ((y.toNat : Int) != 120) = false := by simp [bne, b120]
                have HY120 := Lib.hid (HY.out.trans ((un_toNat (n := 120) (by decide)).1 e120))
                clear e120
                go_wp2
                obtain ⟨W6, eW6⟩ : ∃ W6, W5.setCell ⟨g, 1, none⟩ (.int .i64 (j2 : Int)) = W6 := ⟨_, rfl⟩
                rw [eW6] at HS HB HK HR ⊢
                clear eW6 g0 g1 g2 z1 z2
                have g0 := HS.out.c0
                have g1 := HS.out.c1
                have g2 := HS.out.c2
                have z1 := HS.out.z1
                have z2 := HS.out.z2
                by_cases h4 : j2 + 2 ≤ s.size
                · have d5 : decide ((s.size : Int) - (j2 : Int) < 2) = false := decide_eq_false (by omega)
                  have d6 : ¬ (s.size : Int) - (j2 : Int) < 2 := by omega
                  obtain ⟨p, hp⟩ : ∃ p, bN s j2 = p := ⟨_, rfl⟩
                  obtain ⟨q, hq⟩ : ∃ q, bN s (j2 + 1) = q := ⟨_, rfl⟩
                  have hp0 := bN_at s j2 p hp
                  have hq0 := bN_at s (j2 + 1) q hq
                  obtain ⟨v1, hv1⟩ : ∃ v, hexV p = v := ⟨_, rfl⟩
                  obtain ⟨v2, hv2⟩ : ∃ v, hexV q = v := ⟨_, rfl⟩
                  have HE0 := rv_hex s j (by have := HJ2.out; omega) HX92.out HY120.out p q (by rw [← HJ2.out]; exact hp) (by rw [show j + 3 = j2 + 1 by have := HJ2.out; omega]; exact hq)
                  rw [hv1, hv2] at HE0
                  have HE3 := Lib.hid HE0
                  have HV1 := Lib.hid hv1
                  have HV2 := Lib.hid hv2
                  clear hp hq hv1 hv2 HE0
                  have hp1 : (j2 : Int) < (s.size : Int) := by omega
                  have hp2 : j2 < s.size := by omega
                  have hq1 : (j2 : Int) + 1 < (s.size : Int) := by omega
                  have hq2 : j2 + 1 < s.size := by omega
                  have hq3 : (0 : Int) ≤ (j2 : Int) + 1 := by omega
                  have hq4 : IntKind.i64.wrap ((j2 : Int) + 1) = (j2 : Int) + 1 := by rw [i64_w]; unfold wrap64; omega
                  have hq0' : ∀ h : ((j2 : Int) + 1).toNat < s.size, ((s[((j2 : Int) + 1).toNat]'h).toNat : Int) = (q.toNat : Int) := fun h => hq0 hq2
                  go_quiet (fail)
                  clear g0 g1 g2 z1 z2
                  have HS := Lib.hid (HS.out.drewN nq)
                  have HB := Lib.hid (pw_below_drewN HB.out nq)
                  have HK := Lib.hid (keep_drewN HK.out nq)
                  have HR := Lib.hid (Kd.R_drewN HR.out nq)
                  generalize W6.drewN nq = W7 at HS HB HK HR ⊢
                  clear nq
                  have g0 := HS.out.c0
                  have g1 := HS.out.c1
                  have g2 := HS.out.c2
                  have z1 := HS.out.z1
                  have z2 := HS.out.z2
                  go_wp2
                  by_cases q1 : v1 < 0
                  · have HN2 := Lib.hid (map_none' HE.out (HE3.out.trans (if_pos (Or.inl q1))))
                    go_quiet (first | (go_at_call 170; exact Calls.quiet_of (hex170b _ p v1 HV1.out q1)))
                    clear g0 g1 g2 z1 z2
                    have HS := Lib.hid (HS.out.drewN nq)
                    have HB := Lib.hid (pw_below_drewN HB.out nq)
                    have HK := Lib.hid (keep_drewN HK.out nq)
                    have HR := Lib.hid (Kd.R_drewN HR.out nq)
                    generalize W7.drewN nq = W8 at HS HB HK HR ⊢
                    clear nq
                    have g0 := HS.out.c0
                    have g1 := HS.out.c1
                    have g2 := HS.out.c2
                    have z1 := HS.out.z1
                    have z2 := HS.out.z2
                    by_cases q2 : v2 < 0
                    · have HQ2 := Lib.hid q2
                      clear q2
                      go_wp2
                      go_quiet (first | (go_at_call 170; exact Calls.quiet_of (hex170b _ q v2 HV2.out HQ2.out)))
                      clear g0 g1 g2 z1 z2
                      have HS := Lib.hid (HS.out.drewN nq)
                      have HB := Lib.hid (pw_below_drewN HB.out nq)
                      have HK := Lib.hid (keep_drewN HK.out nq)
                      have HR := Lib.hid (Kd.R_drewN HR.out nq)
                      generalize W8.drewN nq = W9 at HS HB HK HR ⊢
                      clear nq
                      have g0 := HS.out.c0
                      have g1 := HS.out.c1
                      have g2 := HS.out.c2
                      have z1 := HS.out.z1
                      have z2 := HS.out.z2
                      have HS := Lib.hid (HS.out.set2 true)
                      have HB := Lib.hid (HB.out.setCell (p := ⟨g, 2, none⟩) hg (.bool true))
                      have HK := Lib.hid (HK.out.set_ 2 (.bool true))
                      have HR := Lib.hid (Kd.R_far (p := ⟨g, 2, none⟩) HR.out (fun k hk => far_g hgw hk) (.bool true))
                      have hcv := own_string (P := Try.prog) Try.underlying85 Try.underlying5 Try.underlying9 (Kd.own_of_R HR.out)
                      go_wp2
                      go_ret
                      exact ⟨HB.out, HK.out, Or.inl ⟨HN2.out, _, j2, rfl, by omega, HS.out⟩⟩
                    · have HQ2 := Lib.hid (fun W => hex170g W q v2 HV2.out q2)
                      go_wp2
                      go_quiet (first | (go_at_call 170; exact Calls.quiet_of (HQ2.out _)))
                      clear g0 g1 g2 z1 z2
                      have HS := Lib.hid (HS.out.drewN nq)
                      have HB := Lib.hid (pw_below_drewN HB.out nq)
                      have HK := Lib.hid (keep_drewN HK.out nq)
                      have HR := Lib.hid (Kd.R_drewN HR.out nq)
                      generalize W8.drewN nq = W9 at HS HB HK HR ⊢
                      clear nq
                      have g0 := HS.out.c0
                      have g1 := HS.out.c1
                      have g2 := HS.out.c2
                      have z1 := HS.out.z1
                      have z2 := HS.out.z2
                      have HS := Lib.hid (HS.out.set2 true)
                      have HB := Lib.hid (HB.out.setCell (p := ⟨g, 2, none⟩) hg (.bool true))
                      have HK := Lib.hid (HK.out.set_ 2 (.bool true))
                      have HR := Lib.hid (Kd.R_far (p := ⟨g, 2, none⟩) HR.out (fun k hk => far_g hgw hk) (.bool true))
                      have hcv := own_string (P := Try.prog) Try.underlying85 Try.underlying5 Try.underlying9 (Kd.own_of_R HR.out)
                      go_wp2
                      go_ret
                      exact ⟨HB.out, HK.out, Or.inl ⟨HN2.out, _, j2, rfl, by omega, HS.out⟩⟩
                  · go_quiet (first | (go_at_call 170; exact Calls.quiet_of (hex170g _ p v1 HV1.out q1)))
                    clear g0 g1 g2 z1 z2
                    have HS := Lib.hid (HS.out.drewN nq)
                    have HB := Lib.hid (pw_below_drewN HB.out nq)
                    have HK := Lib.hid (keep_drewN HK.out nq)
                    have HR := Lib.hid (Kd.R_drewN HR.out nq)
                    generalize W7.drewN nq = W8 at HS HB HK HR ⊢
                    clear nq
                    have g0 := HS.out.c0
                    have g1 := HS.out.c1
                    have g2 := HS.out.c2
                    have z1 := HS.out.z1
                    have z2 := HS.out.z2
                    by_cases q2 : v2 < 0
                    · have HN2 := Lib.hid (map_none' HE.out (HE3.out.trans (if_pos (Or.inr q2))))
                      have HQ2 := Lib.hid q2
                      clear q2
                      go_wp2
                      go_quiet (first | (go_at_call 170; exact Calls.quiet_of (hex170b _ q v2 HV2.out HQ2.out)))
                      clear g0 g1 g2 z1 z2
                      have HS := Lib.hid (HS.out.drewN nq)
                      have HB := Lib.hid (pw_below_drewN HB.out nq)
                      have HK := Lib.hid (keep_drewN HK.out nq)
                      have HR := Lib.hid (Kd.R_drewN HR.out nq)
                      generalize W8.drewN nq = W9 at HS HB HK HR ⊢
                      clear nq
                      have g0 := HS.out.c0
                      have g1 := HS.out.c1
                      have g2 := HS.out.c2
                      have z1 := HS.out.z1
                      have z2 := HS.out.z2
                      have HS := Lib.hid (HS.out.set2 true)
                      have HB := Lib.hid (HB.out.setCell (p := ⟨g, 2, none⟩) hg (.bool true))
                      have HK := Lib.hid (HK.out.set_ 2 (.bool true))
                      have HR := Lib.hid (Kd.R_far (p := ⟨g, 2, none⟩) HR.out (fun k hk => far_g hgw hk) (.bool true))
                      have hcv := own_string (P := Try.prog) Try.underlying85 Try.underlying5 Try.underlying9 (Kd.own_of_R HR.out)
                      go_wp2
                      go_ret
                      exact ⟨HB.out, HK.out, Or.inl ⟨HN2.out, _, j2, rfl, by omega, HS.out⟩⟩
                    · have HE4 := Lib.hid (map_snoc HE.out (HE3.out.trans (if_neg (fun h => h.elim q1 q2))))
                      have HQ2 := Lib.hid (fun W => hex170g W q v2 HV2.out q2)
                      go_wp2
                      go_quiet (first | (go_at_call 170; exact Calls.quiet_of (HQ2.out _)))
                      clear g0 g1 g2 z1 z2
                      have HS := Lib.hid (HS.out.drewN nq)
                      have HB := Lib.hid (pw_below_drewN HB.out nq)
                      have HK := Lib.hid (keep_drewN HK.out nq)
                      have HR := Lib.hid (Kd.R_drewN HR.out nq)
                      generalize W8.drewN nq = W9 at HS HB HK HR ⊢
                      clear nq
                      have g0 := HS.out.c0
                      have g1 := HS.out.c1
                      have g2 := HS.out.c2
                      have z1 := HS.out.z1
                      have z2 := HS.out.z2
                      obtain ⟨j4, ej4, ej4I⟩ : ∃ j4 : Nat, j4 = j2 + 2 ∧ (j2 : Int) + 2 = (j4 : Int) := ⟨j2 + 2, rfl, rfl⟩
                      have HJ4 := Lib.hid (show j4 = j + 4 from by rw [ej4, HJ2.out])
                      have hj4 : j2 < j4 := by omega
                      have hj4' : j4 ≤ s.size := by omega
                      clear ej4
                      have HS := Lib.hid (show SB (W9.setCell ⟨g, 1, none⟩ (.int .i64 (j4 : Int))) g s j4 false from HS.out.set1 j4)
                      have HB := Lib.hid (HB.out.setCell (p := ⟨g, 1, none⟩) hg (.int .i64 (j4 : Int)))
                      have HK := Lib.hid (HK.out.set_ 1 (.int .i64 (j4 : Int)))
                      have HR := Lib.hid (Kd.R_far (p := ⟨g, 1, none⟩) HR.out (fun k hk => far_g hgw hk) (.int .i64 (j4 : Int)))
                      have hlo1 := (hexV_range p).1
                      have hhi1 := (hexV_range p).2
                      have hlo2 := (hexV_range q).1
                      have hhi2 := (hexV_range q).2
                      rw [HV1.out] at hlo1 hhi1
                      rw [HV2.out] at hlo2 hhi2
                      have hsum := hex_sum HV1.out HV2.out (by omega) (by omega)
                      have hm1 : v1 * 16 % 256 = v1 * 16 := by omega
                      have hm2 : (v1 * 16 + v2) % 256 = v1 * 16 + v2 := by omega
                      rw [hm1, hm2] at hsum
                      have HSUM := Lib.hid hsum
                      clear hsum
                      go_wp2_with (at_builtin; refine Kd.R_append (Kd.int .u8) (w0 := w0) w0.heap.size rfl (.tmp 146) (.tmp 151) 85 5 (.int .u8 0) 1 rfl Try.underlying85 info5 rfl (by decide) (by omega) u3 (ints xs) (v1 * 16 + v2) [.int .u8 (v1 * 16 + v2)] (fun k => w.heap.size ≤ k) (fun _ => False) rfl (by first | rfl | (rw [World.size_setCell]; rfl) | simp) rfl (fun _ hk => hk.elim) (fun k hk => Nat.le_trans (keep_size HK.out) hk) HR.out HB.out (below_size HB.out) (by rw [ints_len]; omega) ?_; intro w3v w3 hown1 hbel1 hg1 hat1; clear hat1; have HG1 := Lib.hid hg1; clear hg1)
                      rw [HSUM.out] at hown1
                      have HS := Lib.hid (SB.grown HS.out hgw HR.out.1 HG1.out)
                      have HK := Lib.hid (keep_grown HK.out HR.out.1 HG1.out)
                      have HR := Lib.hid (show (Kd.int .u8).R 5 w3 w0.heap.size (fun k => w.heap.size ≤ k) w3v (ints (xs ++ [hexB p q])) from by rw [ints_app]; exact hown1)
                      have HB := Lib.hid hbel1
                      clear hown1 hbel1
                      go_roundw
                      case rel => exact ⟨j4, false, xs ++ [hexB p q], by omega, by rw [List.length_append, List.length_singleton]; omega, HR, HS, Lib.hid (fun h => absurd h Bool.false_ne_true), Lib.hid (fun _ => (by rw [HJ4.out]; exact HE4.out)), HB, HK⟩
                      case measure => exact measB hlt (by omega) HS0.out.c1 HS.out.c1
                · have d5 : decide ((s.size : Int) - (j2 : Int) < 2) = true := decide_eq_true (by omega)
                  have d6 : (s.size : Int) - (j2 : Int) < 2 := by omega
                  have HN2 := Lib.hid (map_none' HE.out (rv_xshort s j (by have := HJ2.out; omega) (by have := HJ2.out; omega) HX92.out HY120.out))
                  go_quiet (fail)
                  clear g0 g1 g2 z1 z2
                  have HS := Lib.hid (HS.out.drewN nq)
                  have HB := Lib.hid (pw_below_drewN HB.out nq)
                  have HK := Lib.hid (keep_drewN HK.out nq)
                  have HR := Lib.hid (Kd.R_drewN HR.out nq)
                  generalize W6.drewN nq = W7 at HS HB HK HR ⊢
                  clear nq
                  have g0 := HS.out.c0
                  have g1 := HS.out.c1
                  have g2 := HS.out.c2
                  have z1 := HS.out.z1
                  have z2 := HS.out.z2
                  have HS := Lib.hid (HS.out.set2 true)
                  have HB := Lib.hid (HB.out.setCell (p := ⟨g, 2, none⟩) hg (.bool true))
                  have HK := Lib.hid (HK.out.set_ 2 (.bool true))
                  have HR := Lib.hid (Kd.R_far (p := ⟨g, 2, none⟩) HR.out (fun k hk => far_g hgw hk) (.bool true))
                  have hcv := own_string (P := Try.prog) Try.underlying85 Try.underlying5 Try.underlying9 (Kd.own_of_R HR.out)
                  go_wp2
                  go_ret
                  exact ⟨HB.out, HK.out, Or.inl ⟨HN2.out, _, j2, rfl, by omega, HS.out⟩⟩
              · have b120 : ((y.toNat : Int) == 120) = false := beq_eq_false_iff_ne.2 e120
                have b120n : ((y.toNat : Int) != 120) = true := by simp [bne, b120]
                have HE4 := Lib.hid (map_snoc HE.out (rv_next s j (by have := HJ2.out; omega) HX92.out y HY.out (fun h => e120 (by rw [h]; rfl))))
                go_wp2_with (at_builtin; refine Kd.R_append (Kd.int .u8) (w0 := w0) w0.heap.size rfl (.tmp 84) (.tmp 86) 85 5 (.int .u8 0) 1 rfl Try.underlying85 info5 rfl (by decide) (by omega) u3 (ints xs) ((y.toNat : Int)) [.int .u8 ((y.toNat : Int))] (fun k => w.heap.size ≤ k) (fun _ => False) rfl (by first | rfl | (rw [World.size_setCell]; rfl) | simp) rfl (fun _ hk => hk.elim) (fun k hk => Nat.le_trans (keep_size HK.out) hk) HR.out HB.out (below_size HB.out) (by rw [ints_len]; omega) ?_; intro w3v w3 hown1 hbel1 hg1 hat1; clear hat1; have HG1 := Lib.hid hg1; clear hg1)
                have HS := Lib.hid (SB.grown HS.out hgw HR.out.1 HG1.out)
                have HK := Lib.hid (keep_grown HK.out HR.out.1 HG1.out)
                have HR := Lib.hid (show (Kd.int .u8).R 5 w3 w0.heap.size (fun k => w.heap.size ≤ k) w3v (ints (xs ++ [y])) from by rw [ints_app]; exact hown1)
                have HB := Lib.hid hbel1
                clear hown1 hbel1
                go_roundw
                case rel => exact ⟨j2, false, xs ++ [y], by omega, by rw [List.length_append, List.length_singleton]; omega, HR, HS, Lib.hid (fun h => absurd h Bool.false_ne_true), Lib.hid (fun _ => (by rw [HJ2.out]; exact HE4.out)), HB, HK⟩
                case measure => exact measB hlt (by omega) HS0.out.c1 HS.out.c1
            · have d3 : decide (s.size ≤ j1) = true := decide_eq_true (by omega)
              have d4 : decide ((s.size : Int) ≤ (j1 : Int)) = true := decide_eq_true (by omega)
              have HN2 := Lib.hid (map_none' HE.out (rv_short s j hlt (by have := HJ1.out; omega) HX92.out))
              go_quiet (fail)
              clear g0 g1 g2 z1 z2
              have HS := Lib.hid (HS.out.drewN nq)
              have HB := Lib.hid (pw_below_drewN HB.out nq)
              have HK := Lib.hid (keep_drewN HK.out nq)
              have HR := Lib.hid (Kd.R_drewN HR.out nq)
              generalize W3.drewN nq = W4 at HS HB HK HR ⊢
              clear nq
              have g0 := HS.out.c0
              have g1 := HS.out.c1
              have g2 := HS.out.c2
              have z1 := HS.out.z1
              have z2 := HS.out.z2
              have HS := Lib.hid (HS.out.set2 true)
              have HB := Lib.hid (HB.out.setCell (p := ⟨g, 2, none⟩) hg (.bool true))
              have HK := Lib.hid (HK.out.set_ 2 (.bool true))
              have HR := Lib.hid (Kd.R_far (p := ⟨g, 2, none⟩) HR.out (fun k hk => far_g hgw hk) (.bool true))
              have hcv := own_string (P := Try.prog) Try.underlying85 Try.underlying5 Try.underlying9 (Kd.own_of_R HR.out)
              go_wp2
              go_ret
              exact ⟨HB.out, HK.out, Or.inl ⟨HN2.out, _, j1, rfl, by omega, HS.out⟩⟩
          · have b92 : ((x.toNat : Int) == 92) = false := beq_eq_false_iff_ne.2 e92
            have b92n : ((x.toNat : Int) != 92) = true := by simp [bne, b92]
            have HE4 := Lib.hid (map_snoc HE.out (rv_raw s j hlt x HX.out n34 (fun h => e92 (by rw [h]; rfl))))
            go_wp2_with (at_builtin; refine Kd.R_append (Kd.int .u8) (w0 := w0) w0.heap.size rfl (.tmp 49) (.tmp 51) 85 5 (.int .u8 0) 1 rfl Try.underlying85 info5 rfl (by decide) (by omega) u3 (ints xs) ((x.toNat : Int)) [.int .u8 ((x.toNat : Int))] (fun k => w.heap.size ≤ k) (fun _ => False) rfl (by first | rfl | (rw [World.size_setCell]; rfl) | simp) rfl (fun _ hk => hk.elim) (fun k hk => Nat.le_trans (keep_size HK.out) hk) HR.out HB.out (below_size HB.out) (by rw [ints_len]; omega) ?_; intro w3v w3 hown1 hbel1 hg1 hat1; clear hat1; have HG1 := Lib.hid hg1; clear hg1)
            have HS := Lib.hid (SB.grown HS.out hgw HR.out.1 HG1.out)
            have HK := Lib.hid (keep_grown HK.out HR.out.1 HG1.out)
            have HR := Lib.hid (show (Kd.int .u8).R 5 w3 w0.heap.size (fun k => w.heap.size ≤ k) w3v (ints (xs ++ [x])) from by rw [ints_app]; exact hown1)
            have HB := Lib.hid hbel1
            clear hown1 hbel1
            go_roundw
            case rel => exact ⟨j1, false, xs ++ [x], by omega, by rw [List.length_append, List.length_singleton]; omega, HR, HS, Lib.hid (fun h => absurd h Bool.false_ne_true), Lib.hid (fun _ => (by rw [HJ1.out]; exact HE4.out)), HB, HK⟩
            case measure => exact measB hlt (by omega) HS0.out.c1 HS.out.c1
      · have d1 : decide (s.size ≤ j) = true := decide_eq_true (by omega)
        have d2 : decide ((s.size : Int) ≤ (j : Int)) = true := decide_eq_true (by omega)
        have HN := Lib.hid (map_none' HE.out (rv_end s j (by omega)))
        go_wp2
        go_quiet (fail)
        clear g0 g1 g2 z1 z2
        have HS := Lib.hid (HS.out.drewN nq)
        have HB := Lib.hid (pw_below_drewN HB.out nq)
        have HK := Lib.hid (keep_drewN HK.out nq)
        have HR := Lib.hid (Kd.R_drewN HR.out nq)
        generalize wr.drewN nq = W1 at HS HB HK HR ⊢
        clear nq
        have g0 := HS.out.c0
        have g1 := HS.out.c1
        have g2 := HS.out.c2
        have z1 := HS.out.z1
        have z2 := HS.out.z2
        have HS := Lib.hid (HS.out.set2 true)
        have HB := Lib.hid (HB.out.setCell (p := ⟨g, 2, none⟩) hg (.bool true))
        have HK := Lib.hid (HK.out.set_ 2 (.bool true))
        have HR := Lib.hid (Kd.R_far (p := ⟨g, 2, none⟩) HR.out (fun k hk => far_g hgw hk) (.bool true))
        have hcv := own_string (P := Try.prog) Try.underlying85 Try.underlying5 Try.underlying9 (Kd.own_of_R HR.out)
        go_wp2
        go_ret
        exact ⟨HB.out, HK.out, Or.inl ⟨HN.out, _, j, rfl, by omega, HS.out⟩⟩
end
end Go.Proofs.Yteafilojjdfllaa
