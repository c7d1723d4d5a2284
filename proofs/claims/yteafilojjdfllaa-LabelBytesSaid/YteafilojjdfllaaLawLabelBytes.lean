/- Own text: BytesP, LabBytes, LabBytesR, LawLabelBytes, laid into one text. -/
import Derived.Test.YteafilojjdfllaaSortP
import Derived.Test.YteafilojjdfllaaRefTxt
import Derived.Test.YteafilojjdfllaaLabChk
import Derived.Test.YteafilojjdfllaaAwakeL
namespace Go.Proofs.Yteafilojjdfllaa
section
open Go Go.Proofs.Yteafilojjdfllaa.PAll

/-! ### a set's bytes -/
def encLb (x : S68) : List UInt8 := encT x.f0.data.toList ++ encT x.f1.data.toList
def encS (l : List S68) : List UInt8 := encV l.length ++ l.flatMap encLb
/-- so many labels -/
def decN : Nat → List UInt8 → Option (List S68 × List UInt8)
  | 0, r => some ([], r)
  | n + 1, r => match decT 32 r with
    | none => none
    | some (k, r1) => match decT 64 r1 with
      | none => none
      | some (v, r2) => (decN n r2).map (fun q => (⟨⟨k.toArray⟩, ⟨v.toArray⟩⟩ :: q.1, q.2))
/-- a set, and what is behind -/
def decS (l : List UInt8) : Option (List S68 × List UInt8) :=
  match decV 0 0 l with
  | none => none
  | some (n, r) => if n ≤ 8 then (match decN n r with | none => none | some (x, t) => if chkS x then some (x, t) else none) else none
theorem decN_len : ∀ (n : Nat) (r : List UInt8) (x : List S68) (t : List UInt8), decN n r = some (x, t) → x.length = n ∧ n + t.length ≤ r.length
  | 0, r, x, t, h => by
    rw [decN] at h
    simp only [Option.some.injEq, Prod.mk.injEq] at h
    obtain ⟨rfl, rfl⟩ := h
    simp
  | n + 1, r, x, t, h => by
    rw [decN] at h
    split at h
    · cases h
    · next k r1 h1 =>
      split at h
      · cases h
      · next v r2 h2 =>
        rw [Option.map_eq_some_iff] at h
        obtain ⟨⟨y, u⟩, hy, e⟩ := h
        simp only [Prod.mk.injEq] at e
        obtain ⟨rfl, rfl⟩ := e
        obtain ⟨e1, e2⟩ := decN_len n r2 y u hy
        have l1 := decT_len h1
        have l2 := decT_len h2
        exact ⟨by simp [e1], by omega⟩
theorem okS_sizes {x : S68} (h : okS x = true) : x.f0.data.toList.length ≤ 32 ∧ x.f1.data.toList.length ≤ 64 := by
  unfold okS at h
  rw [Bool.and_eq_true, decide_eq_true_iff] at h
  have h1 := h.1
  unfold nameB at h1
  rw [Bool.and_eq_true, decide_eq_true_iff] at h1
  have e0 : x.f0.data.toList.length = x.f0.size := by simp
  have e1 : x.f1.data.toList.length = x.f1.size := by simp
  omega
theorem decN_enc (t : List UInt8) : ∀ (l : List S68), (∀ x ∈ l, okS x = true) → decN l.length (l.flatMap encLb ++ t) = some (l, t)
  | [], _ => rfl
  | x :: l, h => by
    obtain ⟨h1, h2⟩ := okS_sizes (h x (List.mem_cons_self ..))
    rw [List.length_cons, decN, List.flatMap_cons, encLb, List.append_assoc, List.append_assoc, decT_enc 32 _ _ h1 (by omega)]
    simp only
    rw [decT_enc 64 _ _ h2 (by omega)]
    simp only
    rw [decN_enc t l (fun y hy => h y (List.mem_cons_of_mem _ hy))]
    rfl
theorem decS_enc (l : List S68) (t : List UInt8) (h : chkS l = true) : decS (encS l ++ t) = some (l, t) := by
  have hc := h
  unfold chkS at h
  rw [Bool.and_eq_true, Bool.and_eq_true, decide_eq_true_iff, List.all_eq_true] at h
  unfold decS encS
  rw [List.append_assoc, decV_num _ (by have := h.1.1.2; omega)]
  simp only
  rw [if_pos h.1.1.2, decN_enc t l h.1.2]
  simp only
  rw [if_pos hc]
end
section
open Go Go.RowKit Go.Proofs.YteafilojjdfllaaW.PrintWords Go.Proofs.YteafilojjdfllaaW.PrintLast Go.Proofs.YteafilojjdfllaaW.PrintMore Go.Proofs.Yteafilojjdfllaa.PAll
set_option linter.unusedVariables false
set_option linter.unusedSimpArgs false

theorem infoLy : (Try.prog.info? 68).map (fun i => (i.zero, i.size, i.bytes)) = some (some (.agg #[.string ⟨#[]⟩, .string ⟨#[]⟩]), 2, 32) := by kernel_rfl
/-- bytes that are read -/
def BPost (w : World) (xs : List UInt8) (e : Ending) (w' : World) : Prop :=
  ∃ A n c, e = .returned (.slice A n c) ∧ Hid (xs.length = n) ∧ n ≤ c ∧ Hid ((Kd.int .u8).C w' A xs.length (bys xs)) ∧ Below w.heap.size w w'
theorem encLb_len {x : S68} (h : x.f0.size ≤ 32 ∧ x.f1.size ≤ 64) : (encLb x).length ≤ 116 := by
  unfold encLb encT
  have e0 : x.f0.data.toList.length = x.f0.size := by simp
  have e1 : x.f1.data.toList.length = x.f1.size := by simp
  have h0 := encV_ten (v := x.f0.data.toList.length) (by omega)
  have h1 := encV_ten (v := x.f1.data.toList.length) (by omega)
  simp only [List.length_append]
  omega
theorem encT_len {s : ByteArray} (h : s.size ≤ 64) : (encT s.data.toList).length ≤ 74 := by
  unfold encT
  have e0 : s.data.toList.length = s.size := by simp
  have h0 := encV_ten (v := s.data.toList.length) (by omega)
  simp only [List.length_append]
  omega
theorem take_enc {l : List S68} {j : Nat} (hj : j < l.length) (x : S68) (ex : l.getD j z68 = x) : (l.take (j + 1)).flatMap encLb = (l.take j).flatMap encLb ++ encLb x := by
  rw [List.take_succ_eq_append_getElem hj, List.flatMap_append]
  rw [List.getD_eq_getElem?_getD, List.getElem?_eq_getElem hj, Option.getD_some] at ex
  rw [ex]
  simp
set_option maxRecDepth 100000 in
set_option maxHeartbeats 8000000 in
/-- label.Put. -/
theorem put80 (w : World) (A : Option Addr) (n c : Nat) (bs : List UInt8) (l : List S68) (B : Option Addr) (d : Nat) (hn : bs.length = n) (hc : n ≤ c) (hl : n ≤ 140737488352000) (h8 : l.length ≤ 8) (hs : ∀ x ∈ l, x.f0.size ≤ 32 ∧ x.f1.size ≤ 64) (hC : (Kd.int .u8).C w A bs.length (bys bs)) (hD : Kd.C k68 w B l.length l) :
    Calls Try.prog 80 #[.slice A n c, .slice B l.length d] w (BPost w (bs ++ encS l)) := by
  have h1 := Lib.hid (put114 w A n c bs l.length hn hc (by omega) (by omega) hC)
  have hv10 := encV_ten (v := l.length) (by omega)
  have HD := Lib.hid hD
  have HS := Lib.hid hs
  obtain ⟨X0, eX0⟩ : ∃ X, bs ++ encV l.length = X := ⟨_, rfl⟩
  rw [eX0] at h1
  have HX0 := Lib.hid eX0
  have hX0 : X0.length ≤ 140737488352010 := by rw [← eX0, List.length_append]; omega
  clear hC hD hs eX0 hn
  go_enter Try.func80, Try.ntmps80
  go_wp2_with fail
  (with_reducible refine h1.out.mono ?_)
  rintro e w1 ⟨A1, n1, c1, rfl, HN1, hc1, HR1, hB1⟩
  have HC1 := Lib.hid (R_C HR1.out)
  have HB1 := Lib.hid hB1
  clear hB1 HR1 h1
  go_wp2
  go_loopw [0, 6, 14] (fun u0 _ u14 wr => ∃ (j : Nat) (xs : List UInt8) (A' : Option Addr) (n' c' : Nat), u14 = .int .i64 j ∧ j ≤ l.length ∧ u0 = .slice A' n' c' ∧ n' ≤ c' ∧ n' ≤ 140737488352010 + 116 * j ∧ Hid (xs.length = n') ∧ Hid (xs = X0 ++ (l.take j).flatMap encLb) ∧ Hid ((Kd.int .u8).C wr A' xs.length (bys xs)) ∧ Hid (Below w.heap.size w wr)) (fun _ _ u14 _ => l.length - (intOf u14).toNat)
  case atStart => exact ⟨0, X0, A1, n1, c1, rfl, Nat.zero_le _, rfl, hc1, by have := HN1.out; omega, HN1, Lib.hid (by simp), HC1, HB1⟩
  case round =>
    clear HB1 HC1 HN1 hc1
    obtain ⟨j, xs, A', n', c', rfl, hj, rfl, hc', hn', HN, HX, HC, HB⟩ := hrel
    by_cases hlt : j < l.length
    · have hltI : (j : Int) < (l.length : Int) := by omega
      obtain ⟨bd, rfl, b0, b1⟩ := at_lab (Kd.C_below HD.out HB.out) j hlt
      obtain ⟨x, ex⟩ : ∃ x, l.getD j z68 = x := ⟨_, rfl⟩
      rw [ex] at b0 b1
      have HE := Lib.hid (take_enc hlt x ex)
      have hxm : x ∈ l := by rw [← ex, List.getD_eq_getElem?_getD, List.getElem?_eq_getElem hlt]; simp
      have hx := HS.out x hxm
      have hx0 := hx.1
      have hx1 := hx.2
      have hy0 := encT_len (s := x.f0) (by omega)
      have hy1 := encT_len (s := x.f1) (by omega)
      have hyx := encLb_len hx
      clear ex hxm hx
      obtain ⟨V, eV⟩ : ∃ V, V = wr.alloc (.cells #[.string x.f0, .string x.f1] 68) := ⟨_, rfl⟩
      have hBV : Below wr.heap.size wr V := eV ▸ below_alloc (Below.refl _ _) _
      have hX : V.heap[wr.heap.size]? = some (.cells #[.string x.f0, .string x.f1] 68 (0, 0)) := by rw [eV]; exact blk_new wr _
      have HBV := Lib.hid (below_step HB.out hBV)
      have HCV := Lib.hid (Kd.C_below HC.out hBV)
      have k0 : V.cell? ⟨wr.heap.size, 0, none⟩ = some (.string x.f0) := blk_cell hX 0
      have k1 : V.cell? ⟨wr.heap.size, 1, none⟩ = some (.string x.f1) := blk_cell hX 1
      clear hX hBV
      go_wp2_with fail
      rw [← eV]
      have f0 := fun W (hb : Below V.heap.size V W) => pw_cell_below hb k0
      have f1 := fun W (hb : Below V.heap.size V W) => pw_cell_below hb k1
      clear eV b0 b1
      go_region_held3 (fun W => Below V.heap.size V W)
        (first | exact below_drew (Below.refl _ _) | exact HK6.out | exact HK5.out)
        (first
          | (go_at_call 127; (with_reducible refine (putText127 _ A' n' c' xs x.f0 HN.out hc' (by omega) (by omega) (Kd.C_below HCV.out (by assumption))).mono ?_); rintro e w5 ⟨A5, n5, c5, rfl, HN5, hc5, HR5, hb5⟩; have HK5 := Lib.hid (show Below V.heap.size V w5 from below_step (by assumption) hb5); clear hb5)
          | (go_at_call 127; (with_reducible refine (putText127 _ A5 n5 c5 (xs ++ encT x.f0.data.toList) x.f1 HN5.out hc5 (by omega) (by have := HN5.out; have := HN.out; simp only [List.length_append] at *; omega) (Kd.C_below (R_C HR5.out) (by first | assumption | exact Below.refl _ _))).mono ?_); rintro e w6 ⟨A6, n6, c6, rfl, HN6, hc6, HR6, hb6⟩; have HK6 := Lib.hid (show Below V.heap.size V w6 from below_step (by first | assumption | exact HK5.out) hb6); clear hb6))
      have HBf := Lib.hid (below_step HBV.out HK6.out)
      have HC6 := Lib.hid (R_C HR6.out)
      have HXf := Lib.hid (show (xs ++ encT x.f0.data.toList) ++ encT x.f1.data.toList = X0 ++ (l.take (j + 1)).flatMap encLb from by rw [HE.out, HX.out]; unfold encLb; simp)
      have hlen6 : n6 ≤ 140737488352010 + 116 * (j + 1) := by
        have h1 := HN6.out
        have h2 := HN.out
        simp only [List.length_append] at h1
        have h3 : (encLb x).length = (encT x.f0.data.toList).length + (encT x.f1.data.toList).length := by unfold encLb; simp
        omega
      clear f0 f1 k0 k1
      go_wp2
      go_roundw
      case rel => exact ⟨j + 1, _, A6, n6, c6, by go_num, by omega, rfl, hc6, hlen6, HN6, HXf, HC6, HBf⟩
      case measure => simp [intOf]; omega
    · obtain rfl : j = l.length := by omega
      have HXf := Lib.hid (show xs = bs ++ encS l from by rw [HX.out, ← HX0.out, List.take_length]; unfold encS; simp)
      rw [HXf.out] at HN HC
      go_wp2
      go_ret
      exact ⟨A', n', c', rfl, HN, hc', HC, HB.out⟩
/-! ### a set read -/
theorem getText128n (w : World) (A : Option Addr) (n c : Nat) (bs : List UInt8) (k most : Nat) (mz : Int) (hmz : mz = (most : Int)) (hq : decT most (bs.drop k) = none) (hn : bs.length = n) (hc : n ≤ c) (hl : n ≤ 1000000000000000) (hm : most ≤ 1000000) (hC : (Kd.int .u8).C w A bs.length (bys bs)) :
    Calls Try.prog 128 #[.slice A n c, .int .i64 k, .int .i64 mz] w fun e w' => e = .returned (.tuple #[.string ⟨#[]⟩, .int .i64 0, .bool false]) ∧ Below w.heap.size w w' := by
  subst hmz
  have h := getText128 w A n c bs (k : Int) most hn hc hl hm hC
  have e : textW most bs (k : Int) = none := by unfold textW; rw [if_neg (by omega), Int.toNat_natCast, hq]
  rw [e] at h
  exact h
theorem getText128y (w : World) (A : Option Addr) (n c : Nat) (bs : List UInt8) (k most k1 : Nat) (mz : Int) (hmz : mz = (most : Int)) (t r : List UInt8) (x : ByteArray) (hx : (⟨t.toArray⟩ : ByteArray) = x) (hk : (n : Int) - (r.length : Nat) = (k1 : Int)) (hq : decT most (bs.drop k) = some (t, r)) (hn : bs.length = n) (hc : n ≤ c) (hl : n ≤ 1000000000000000) (hm : most ≤ 1000000) (hC : (Kd.int .u8).C w A bs.length (bys bs)) :
    Calls Try.prog 128 #[.slice A n c, .int .i64 k, .int .i64 mz] w fun e w' => e = .returned (.tuple #[.string x, .int .i64 k1, .bool true]) ∧ Below w.heap.size w w' := by
  subst hmz
  have h := getText128 w A n c bs (k : Int) most hn hc hl hm hC
  have e : textW most bs (k : Int) = some (t, r) := by unfold textW; rw [if_neg (by omega), Int.toNat_natCast, hq]
  rw [e] at h
  rw [← hk, ← hx]
  exact h
/-- where a text ends -/
theorem decT_place {most k n : Nat} {bs t r : List UInt8} (hn : bs.length = n) (hk : k ≤ n) (h : decT most (bs.drop k) = some (t, r)) : ∃ k1 : Nat, k < k1 ∧ k1 ≤ n ∧ (n : Int) - (r.length : Nat) = (k1 : Int) ∧ bs.drop k1 = r ∧ t.length ≤ most := by
  have h0 := h
  unfold decT at h
  split at h
  · cases h
  · next m q hq =>
    split at h
    · next hm =>
      simp only [Option.some.injEq, Prod.mk.injEq] at h
      obtain ⟨rfl, rfl⟩ := h
      have h1 := (decV_suffix _ _ _ hq).trans (List.drop_suffix k bs)
      have h2 := (List.drop_suffix m q).trans h1
      have h3 := decT_len h0
      have h4 : (bs.drop k).length = n - k := by rw [List.length_drop, hn]
      have h5 := h2.length_le
      refine ⟨n - (q.drop m).length, by omega, by omega, by omega, ?_, h3.2⟩
      rw [← hn]
      exact (List.suffix_iff_eq_drop.1 h2).symm
    · cases h
/-- a set at a place -/
def labW (bs : List UInt8) (i : Int) : Option (List S68 × List UInt8) := if i < 0 then none else decS (bs.drop i.toNat)
theorem labW_none {bs : List UInt8} {i : Int} (h : getW bs i = none) : labW bs i = none := by
  unfold getW at h
  unfold labW decS
  split
  · rfl
  · next hi => rw [if_neg hi] at h; rw [h]
theorem labW_some {bs : List UInt8} {i : Int} {m : Nat} {r : List UInt8} (h : getW bs i = some (m, r)) : labW bs i = if m ≤ 8 then (match decN m r with | none => none | some (x, t) => if chkS x then some (x, t) else none) else none := by
  unfold getW at h
  unfold labW decS
  split
  · next hi => rw [if_pos hi] at h; cases h
  · next hi => rw [if_neg hi] at h; rw [h] <;> rfl
theorem decN_none1 {n : Nat} {r : List UInt8} (h : decT 32 r = none) : decN (n + 1) r = none := by rw [decN, h]
theorem decN_none2 {n : Nat} {r r1 k : List UInt8} (h : decT 32 r = some (k, r1)) (h2 : decT 64 r1 = none) : decN (n + 1) r = none := by rw [decN, h]; simp only; rw [h2]
theorem decN_next {n : Nat} {r r1 r2 k v : List UInt8} (h : decT 32 r = some (k, r1)) (h2 : decT 64 r1 = some (v, r2)) : decN (n + 1) r = (decN n r2).map (fun q => (⟨⟨k.toArray⟩, ⟨v.toArray⟩⟩ :: q.1, q.2)) := by rw [decN, h]; simp only; rw [h2]
theorem decN_short {n : Nat} {r : List UInt8} (h : r.length < n) : decN n r = none := by
  cases hq : decN n r with
  | none => rfl
  | some q => have := (decN_len n r q.1 q.2 hq).2; omega
theorem lab_none {M q : Option (List S68 × List UInt8)} {l : List S68} (h : M = q.map (fun q => (l ++ q.1, q.2))) (hq : q = none) : M = none := by rw [h, hq]; rfl
theorem lab_snoc {M q r : Option (List S68 × List UInt8)} {l : List S68} {x : S68} (h : M = q.map (fun q => (l ++ q.1, q.2))) (hq : q = r.map (fun q => (x :: q.1, q.2))) : M = r.map (fun q => ((l ++ [x]) ++ q.1, q.2)) := by
  rw [h, hq]; cases r <;> simp
def LabPost (w : World) (n : Nat) (G : Option (List S68 × List UInt8)) (e : Ending) (w' : World) : Prop :=
  (match G with
    | none => e = .returned (.tuple #[.slice none 0 0, .int .i64 0, .bool false])
    | some (x, t) => ∃ A c, e = .returned (.tuple #[.slice A x.length c, .int .i64 ((n : Int) - (t.length : Nat)), .bool true]) ∧ x.length ≤ c ∧ Kd.C k68 w' A x.length x) ∧ Below w.heap.size w w'
set_option maxRecDepth 100000 in
set_option maxHeartbeats 16000000 in
/-- label.Get. -/
theorem get81 (w : World) (A : Option Addr) (n c : Nat) (bs : List UInt8) (at_ : Int) (hn : bs.length = n) (hc : n ≤ c) (hl : n ≤ 1000000000000000) (hC : (Kd.int .u8).C w A bs.length (bys bs)) :
    Calls Try.prog 81 #[.slice A n c, .int .i64 at_] w (LabPost w n (labW bs at_)) := by
  obtain ⟨G, hG⟩ : ∃ G, labW bs at_ = G := ⟨_, rfl⟩
  rw [hG]
  have HC := Lib.hid hC
  have HN := Lib.hid hn
  cases hv : getW bs at_ with
  | none =>
    have hgn : G = none := by rw [← hG]; exact labW_none hv
    subst hgn
    have h1 := Lib.hid (get116n w A n c bs at_ hv hn hl hC)
    clear hC hn hG hv
    go_enter Try.func81, Try.ntmps81
    go_wp2_with fail
    (with_reducible refine h1.out.mono ?_)
    rintro e w1 ⟨rfl, rfl⟩
    go_wp2
    go_ret3
    exact ⟨rfl, Below.refl _ _⟩
  | some q =>
    obtain ⟨m, r⟩ := q
    obtain ⟨hp0, hp1, hp2, hp3, hp4⟩ := getW_place hv
    obtain ⟨k0, ek⟩ : ∃ k, bs.length - r.length = k := ⟨_, rfl⟩
    rw [ek] at hp2 hp3
    have h1 := Lib.hid (get116y w A n c bs at_ m k0 r hv (by omega) hn hl hC)
    have hk0 : k0 ≤ n := by omega
    have hG2 := labW_some hv
    rw [hG] at hG2
    by_cases hm8 : m ≤ 8
    · rw [if_pos hm8] at hG2
      have t1 : ¬ (8 : Int) < (m : Int) := by omega
      have t1d : decide ((8 : Int) < (m : Int)) = false := decide_eq_false t1
      obtain ⟨M, hM⟩ : ∃ M, decN m r = M := ⟨_, rfl⟩
      rw [hM] at hG2
      have HG := Lib.hid hG2
      have HM0 := Lib.hid (show M = (decN (m - 0) (bs.drop k0)).map (fun q => (([] : List S68) ++ q.1, q.2)) from by rw [hp3, ← hM, Nat.sub_zero]; cases decN m r <;> simp)
      clear hC hn hG hG2 hv hp0 hp1 hp2 hp3 ek hM
      go_enter Try.func81, Try.ntmps81
      go_wp2_with fail
      (with_reducible refine h1.out.mono ?_)
      rintro e w1 ⟨rfl, rfl⟩
      clear h1
      go_wp2
      go_loopw [1, 4, 5, 6, 8, 9, 10, 25] (fun u1 _ _ _ _ u9 _ u25 wr => ∃ (j k : Nat) (ls : List S68), u1 = .int .i64 k ∧ u25 = .int .u64 j ∧ j ≤ m ∧ k ≤ n ∧ ls.length ≤ j ∧ Hid (M = (decN (m - j) (bs.drop k)).map (fun q => (ls ++ q.1, q.2))) ∧ Hid (k68.R 68 wr w1.heap.size (fun _ => True) u9 ls) ∧ Hid (Below w1.heap.size w1 wr)) (fun _ _ _ _ _ _ _ u25 _ => m - (intOf u25).toNat)
      case atStart => exact ⟨0, k0, [], rfl, rfl, Nat.zero_le _, hk0, Nat.zero_le _, HM0, Lib.hid (Kd.R_nil _ _ _ _ _), Lib.hid (Below.refl _ _)⟩
      case round =>
        clear HM0
        obtain ⟨j, k, ls, rfl, rfl, hj, hk, hls, HM, HR, HB⟩ := hrel
        by_cases hlt : j < m
        · have tI : (j : Int) < (m : Int) := by omega
          obtain ⟨p, hp⟩ : ∃ p, m - j = p + 1 := ⟨m - j - 1, by omega⟩
          rw [hp] at HM
          have Hp := Lib.hid hp
          have HRb := Lib.hid (Kd.R_mono (Kd.R_bound HR.out) (fun b hb => hb.2.2.1))
          obtain ⟨V, eV⟩ : ∃ V, V = wr.alloc (.cells #[.string ⟨#[]⟩, .string ⟨#[]⟩] 68) := ⟨_, rfl⟩
          have hBV : Below wr.heap.size wr V := eV ▸ below_alloc (Below.refl _ _) _
          have hX : V.heap[wr.heap.size]? = some (.cells #[.string ⟨#[]⟩, .string ⟨#[]⟩] 68 (0, 0)) := by rw [eV]; exact blk_new wr _
          have hVs : wr.heap.size < V.heap.size := (Array.getElem?_eq_some_iff.1 hX).1
          have hwr := HB.out.size
          have HBV := Lib.hid (below_step HB.out hBV)
          have HRV := Lib.hid (Kd.R_below HRb.out hBV)
          have HCV := Lib.hid (Kd.C_below HC.out HBV.out)
          clear hp hBV HRb
          cases hq1 : decT 32 (bs.drop k) with
          | none =>
            have hM : M = none := lab_none HM.out (decN_none1 hq1)
            have hgn : G = none := by rw [HG.out, hM]
            have hc1 := Lib.hid (getText128n V A n c bs k 32 32 rfl hq1 HN.out hc hl (by decide) HCV.out)
            clear hq1 hM HG
            subst hgn
            go_wp2_with fail
            rw [← eV]
            (with_reducible refine hc1.out.mono ?_)
            rintro e w5 ⟨rfl, hb5⟩
            have hX5 := (hb5.block _ hVs).trans hX
            have y0 := blk_cell hX5 0
            have y1 := blk_cell hX5 1
            have v0 := blk_frozen hX5 0
            simp only [List.getElem?_toArray, List.getElem?_cons_zero, List.getElem?_cons_succ] at y0 y1
            go_wp2
            go_ret3
            exact ⟨rfl, (below_step HBV.out hb5).setCell hwr _⟩
          | some q1 =>
            obtain ⟨t1, r1⟩ := q1
            obtain ⟨k1, hk1, hk1n, hk1I, hdr1, -⟩ := decT_place HN.out hk hq1
            obtain ⟨x0, hx0⟩ : ∃ x : ByteArray, (⟨t1.toArray⟩ : ByteArray) = x := ⟨_, rfl⟩
            have hc1 := Lib.hid (getText128y V A n c bs k 32 k1 32 rfl t1 r1 x0 hx0 hk1I hq1 HN.out hc hl (by decide) HCV.out)
            go_wp2_with fail
            rw [← eV]
            (with_reducible refine hc1.out.mono ?_)
            rintro e w5 ⟨rfl, hb5⟩
            have hX5 := (hb5.block _ hVs).trans hX
            have hV5 := hb5.size
            have y0 := blk_cell hX5 0
            have v0 := blk_frozen hX5 0
            simp only [List.getElem?_toArray, List.getElem?_cons_zero, List.getElem?_cons_succ] at y0
            have hX6 := blk_set hX5 0 (.string x0)
            have HB6 := Lib.hid ((below_step HBV.out hb5).setCell (p := ⟨wr.heap.size, 0, none⟩) hwr (.string x0))
            have HR6 := Lib.hid (Kd.R_far (p := ⟨wr.heap.size, 0, none⟩) (Kd.R_below HRV.out hb5) (fun b hb => Nat.ne_of_lt hb) (.string x0))
            have HC6 := Lib.hid (Kd.C_below HC.out HB6.out)
            cases hq2 : decT 64 (bs.drop k1) with
            | none =>
              have hM : M = none := lab_none HM.out (decN_none2 hq1 (by rw [← hdr1]; exact hq2))
              have hgn : G = none := by rw [HG.out, hM]
              have hc2 := Lib.hid (getText128n _ A n c bs k1 64 64 rfl hq2 HN.out hc hl (by decide) HC6.out)
              clear hq1 hq2 hM HG hdr1 hc1
              subst hgn
              go_wp2_with fail
              (with_reducible refine hc2.out.mono ?_)
              rintro e w7 ⟨rfl, hb7⟩
              have hX7 := (hb7.block _ (by simp; omega)).trans hX6
              have y7 := blk_cell hX7 1
              have v7 := blk_frozen hX7 1
              simp at y7
              go_wp2
              go_ret3
              exact ⟨rfl, (below_step HB6.out hb7).setCell hwr _⟩
            | some q2 =>
              obtain ⟨t2, r2⟩ := q2
              obtain ⟨k2, hk2, hk2n, hk2I, hdr2, -⟩ := decT_place HN.out hk1n hq2
              obtain ⟨x1, hx1⟩ : ∃ x : ByteArray, (⟨t2.toArray⟩ : ByteArray) = x := ⟨_, rfl⟩
              obtain ⟨x, ex⟩ : ∃ x : S68, (⟨x0, x1⟩ : S68) = x := ⟨_, rfl⟩
              obtain rfl : x0 = x.f0 := by rw [← ex]
              obtain rfl : x1 = x.f1 := by rw [← ex]
              have HM2 := Lib.hid (show M = (decN (m - (j + 1)) (bs.drop k2)).map (fun q => ((ls ++ [x]) ++ q.1, q.2)) from by
                refine lab_snoc HM.out ?_
                rw [decN_next hq1 (by rw [← hdr1]; exact hq2), hdr2, hx0, hx1, show m - (j + 1) = p by have := Hp.out; omega])
              have hc2 := Lib.hid (getText128y _ A n c bs k1 64 k2 64 rfl t2 r2 x.f1 hx1 hk2I hq2 HN.out hc hl (by decide) HC6.out)
              clear hq1 hq2 hdr1 hdr2 hc1 hx0 hx1 ex hk1I hk2I
              go_wp2_with fail
              (with_reducible refine hc2.out.mono ?_)
              rintro e w7 ⟨rfl, hb7⟩
              have hX7 := (hb7.block _ (by simp; omega)).trans hX6
              have y7 := blk_cell hX7 1
              have v7 := blk_frozen hX7 1
              simp at y7
              have hX8 := blk_set hX7 1 (.string x.f1)
              have u0 := blk_cell hX8 0
              have u1 := blk_cell hX8 1
              simp at u0 u1
              have HB8 := Lib.hid ((below_step HB6.out hb7).setCell (p := ⟨wr.heap.size, 1, none⟩) hwr (.string x.f1))
              have HR8 := Lib.hid (Kd.R_mono (ok' := fun _ => True) (Kd.R_far (p := ⟨wr.heap.size, 1, none⟩) (Kd.R_below HR6.out hb7) (fun b hb => Nat.ne_of_lt hb) (.string x.f1)) (fun _ _ => trivial))
              clear hc2 hX hX5 hX6 hX7 hX8 y0 v0 eV
              obtain ⟨Au, cu, rfl⟩ := Kd.R_slice HR8.out
              go_wp2_with (at_builtin; refine Kd.R_append k68 (w0 := w1) w1.heap.size rfl (.tmp 48) (.tmp 50) 28 68 (.agg #[.string ⟨#[]⟩, .string ⟨#[]⟩]) 32 rfl Try.underlying28 infoLy rfl (by decide) (by omega) (.slice Au ls.length cu) ls x [.string x.f0, .string x.f1] (fun _ => True) (fun _ => False) rfl (by first | rfl | (rw [World.size_setCell]; rfl)) (k68_mkM _ _ _ x) (fun _ hk => hk.elim) (fun _ _ => trivial) HR8.out HB8.out (below_size HB8.out) (by omega) ?_; intro v9 w9 hown9 hb9 hg9 hat9; have HR9 := Lib.hid hown9; have HB9 := Lib.hid hb9; clear hown9 hb9 hg9 hat9)
              go_roundw
              case rel => exact ⟨j + 1, k2, ls ++ [x], rfl, by go_num, by omega, hk2n, by rw [List.length_append, List.length_singleton]; omega, HM2, HR9, HB9⟩
              case measure => simp [intOf]; omega
        · obtain rfl : j = m := by omega
          have HM2 := Lib.hid (show M = some (ls, bs.drop k) from by rw [HM.out, Nat.sub_self, decN]; simp)
          obtain ⟨Au, cu, rfl, hcu, hCu⟩ := Kd.R_reads HR.out
          have HCu := Lib.hid hCu
          clear hCu hlt HM
          go_wp2_with fail
          (with_reducible refine (check62 _ ls Au cu HCu.out).mono ?_)
          rintro e w5 ⟨rfl, hb5⟩
          cases hch : chkS ls with
          | false =>
            have hgn : G = none := by rw [HG.out, HM2.out]; simp only; rw [if_neg (by rw [hch]; decide)]
            clear HG
            subst hgn
            go_wp2
            go_ret3
            exact ⟨rfl, below_step HB.out hb5⟩
          | true =>
            have hgn : G = some (ls, bs.drop k) := by rw [HG.out, HM2.out]; simp only; rw [if_pos hch]
            have HK := Lib.hid (show (n : Int) - ((bs.drop k).length : Nat) = (k : Int) from by rw [List.length_drop, HN.out]; omega)
            clear HG
            subst hgn
            go_wp2
            go_ret3
            exact ⟨⟨_, _, by rw [HK.out]; rfl, hcu, Kd.C_below HCu.out hb5⟩, below_step HB.out hb5⟩
    · rw [if_neg hm8] at hG2
      subst hG2
      have t1 : (8 : Int) < (m : Int) := by omega
      have t1d : decide ((8 : Int) < (m : Int)) = true := decide_eq_true t1
      clear hC hn hG hv hp0 hp1 hp2 hp3 ek
      go_enter Try.func81, Try.ntmps81
      go_wp2_with fail
      (with_reducible refine h1.out.mono ?_)
      rintro e w1 ⟨rfl, rfl⟩
      go_wp2
      go_ret3
      exact ⟨rfl, Below.refl _ _⟩
end
section
open Go Go.RowKit Go.Proofs.YteafilojjdfllaaW.PrintWords Go.Proofs.YteafilojjdfllaaW.PrintLast Go.Proofs.YteafilojjdfllaaW.PrintMore Go.Proofs.Yteafilojjdfllaa.PAll
set_option linter.unusedVariables false
set_option linter.unusedSimpArgs false

set_option maxRecDepth 100000 in
set_option maxHeartbeats 8000000 in
/-- the document's Put. -/
theorem rput82 (w : World) (l : List S68) (B : Option Addr) (d : Nat) (h8 : l.length ≤ 8) (hs : ∀ x ∈ l, x.f0.size ≤ 32 ∧ x.f1.size ≤ 64) (hD : Kd.C k68 w B l.length l) :
    Calls Try.prog 82 #[.slice B l.length d] w (BPost w (encS l)) := by
  have h1 := Lib.hid (rput118 w l.length (by omega))
  have hv10 := encV_ten (v := l.length) (by omega)
  have HD := Lib.hid hD
  have HS := Lib.hid hs
  obtain ⟨X0, eX0⟩ : ∃ X, encV l.length = X := ⟨_, rfl⟩
  rw [eX0] at h1 hv10
  have HX0 := Lib.hid eX0
  clear hD hs eX0
  go_enter Try.func82, Try.ntmps82
  go_wp2_with fail
  (with_reducible refine h1.out.mono ?_)
  rintro e w1 ⟨A1, n1, c1, rfl, HN1, hc1, HR1, hB1⟩
  have HB1 := Lib.hid hB1
  clear hB1 h1
  go_wp2
  go_loopw [3, 4] (fun u3 u4 wr => ∃ (j : Nat) (xs : List UInt8), u4 = .int .i64 j ∧ j ≤ l.length ∧ xs.length ≤ 10 + 116 * j ∧ Hid (xs = X0 ++ (l.take j).flatMap encLb) ∧ Hid ((Kd.int .u8).R 5 wr w.heap.size (fun _ => True) u3 (bys xs)) ∧ Hid (Below w.heap.size w wr)) (fun _ u4 _ => l.length - (intOf u4).toNat)
  case atStart => exact ⟨0, X0, rfl, Nat.zero_le _, by omega, Lib.hid (by simp), HR1, HB1⟩
  case round =>
    clear HB1 HR1 HN1 hc1
    obtain ⟨j, xs, rfl, hj, hxl, HX, HR, HB⟩ := hrel
    by_cases hlt : j < l.length
    · have hltI : (j : Int) < (l.length : Int) := by omega
      obtain ⟨bd, rfl, b0, b1⟩ := at_lab (Kd.C_below HD.out HB.out) j hlt
      obtain ⟨x, ex⟩ : ∃ x, l.getD j z68 = x := ⟨_, rfl⟩
      rw [ex] at b0 b1
      have HE := Lib.hid (take_enc hlt x ex)
      have EX := Lib.hid ex
      have hxm : x ∈ l := by rw [← ex, List.getD_eq_getElem?_getD, List.getElem?_eq_getElem hlt]; simp
      have hx := HS.out x hxm
      have hx0 := hx.1
      have hx1 := hx.2
      have hy0 := encT_len (s := x.f0) (by omega)
      have hy1 := encT_len (s := x.f1) (by omega)
      have hyx := encLb_len hx
      obtain ⟨T0, eT0⟩ : ∃ t, encT x.f0.data.toList = t := ⟨_, rfl⟩
      obtain ⟨T1, eT1⟩ : ∃ t, encT x.f1.data.toList = t := ⟨_, rfl⟩
      have hc0 := fun W => rtext129 W x.f0 (by omega)
      have hc1 := fun W => rtext129 W x.f1 (by omega)
      rw [eT0] at hc0 hy0
      rw [eT1] at hc1 hy1
      have H0 := Lib.hid hc0
      have H1 := Lib.hid hc1
      have ET := Lib.hid (show encLb x = T0 ++ T1 from by rw [← eT0, ← eT1]; rfl)
      clear ex hxm hx eT0 eT1 hc0 hc1
      go_wp2_with (first
        | (go_at_call 129; (with_reducible refine (H0.out _).mono ?_); rintro e w5 ⟨A5, n5, c5, rfl, HN5, hc5, HR5, hb5⟩; have HR6 := Lib.hid (Kd.R_below HR.out hb5); have HB5 := Lib.hid (below_step HB.out hb5); clear hb5)
        | (at_builtin; refine Kd.R_append_row (Value.int .u8) (0 : Int) (h1 := fun _ => rfl) (w0 := w) (W := w5) w.heap.size rfl (.tmp 15) (.tmp 21) 85 5 (.int .u8 0) 1 rfl Try.underlying85 infoBy rfl (by decide) u3 (bys xs) (bys T0) A5 n5 c5 (fun _ => True) rfl rfl (fun _ _ => trivial) HR6.out (by have := R_C HR5.out; rwa [HN5.out] at this) HB5.out (below_size HB5.out) (by rw [bys_len]; have := HN5.out; omega) ?_; intro v6 w6 hown6 hb6 hg6 hat6; rw [← bys_app] at hown6; have HR7 := Lib.hid hown6; have HB7 := Lib.hid hb6; clear hown6 hb6 hg6 hat6; obtain ⟨bd', e', -, b1⟩ := at_lab (Kd.C_below HD.out HB7.out) j hlt; cases e'; rw [EX.out] at b1)
        | (go_at_call 129; (with_reducible refine (H1.out _).mono ?_); rintro e w7 ⟨A7, n7, c7, rfl, HN7, hc7, HR8, hb7⟩; have HR9 := Lib.hid (Kd.R_below HR7.out hb7); have HB9 := Lib.hid (below_step HB7.out hb7); clear hb7)
        | (at_builtin; refine Kd.R_append_row (Value.int .u8) (0 : Int) (h1 := fun _ => rfl) (w0 := w) (W := w7) w.heap.size rfl (.tmp 23) (.tmp 29) 85 5 (.int .u8 0) 1 rfl Try.underlying85 infoBy rfl (by decide) v6 (bys (xs ++ T0)) (bys T1) A7 n7 c7 (fun _ => True) rfl rfl (fun _ _ => trivial) HR9.out (by have := R_C HR8.out; rwa [HN7.out] at this) HB9.out (below_size HB9.out) (by rw [bys_len, List.length_append]; have := HN7.out; omega) ?_; intro v8 w8 hown8 hb8 hg8 hat8; rw [← bys_app] at hown8; have HR10 := Lib.hid hown8; have HB10 := Lib.hid hb8; clear hown8 hb8 hg8 hat8))
      go_roundw
      case rel => exact ⟨j + 1, (xs ++ T0) ++ T1, by go_num, by omega, by simp only [List.length_append]; have := congrArg List.length ET.out; simp only [List.length_append] at this; omega, Lib.hid (by rw [HE.out, HX.out, ET.out]; simp), HR10, HB10⟩
      case measure => simp [intOf]; omega
    · obtain rfl : j = l.length := by omega
      have HXf := Lib.hid (show xs = encS l from by rw [HX.out, ← HX0.out, List.take_length]; rfl)
      rw [HXf.out] at HR
      have HP := Lib.hid (PutPost.of HR.out HB.out)
      obtain ⟨B2, m2, d2, e2⟩ := post_slice HP.out
      subst e2
      go_wp2
      go_ret
      obtain ⟨A9, n9, c9, e9, h1, h2, h3, h4⟩ := HP.out
      exact ⟨A9, n9, c9, e9, h1, h2, Lib.hid (R_C h3.out), h4⟩
theorem rtextW_dec (most : Nat) (bs : List UInt8) (k : Nat) : rtextW false most bs (k : Int) = decT most (bs.drop k) := by
  unfold rtextW numW getW decT
  rw [if_neg (by decide), if_neg (by omega), Int.toNat_natCast]
  all_goals (cases decV 0 0 (bs.drop k) <;> rfl)
theorem rtext130n (w0 w : World) (g : Nat) (A : Option Addr) (n c : Nat) (bs : List UInt8) (at_ : Int) (b : Bool) (most : Nat) (mz : Int) (hmz : mz = (most : Int)) (hq : rtextW b most bs at_ = none) (hm : most ≤ 1000000) (hn : bs.length = n) (hc : n ≤ c) (hl : n ≤ 1000000000000000) (hg : w0.heap.size ≤ g) (hB : Below w0.heap.size w0 w) (hS : RB w g A n c at_ b) (hC0 : (Kd.int .u8).C w0 A bs.length (bys bs)) :
    Calls Try.prog 130 #[.pointer (some ⟨g, 0, none⟩), .int .i64 mz] w fun e w' => e = .returned (.string ⟨#[]⟩) ∧ Below w0.heap.size w0 w' ∧ KeepBut w w' g none ∧ ∃ i, RB w' g A n c i true := by
  subst hmz
  refine (rtext130 w0 w g A n c bs at_ b most hm hn hc hl hg hB hS hC0).mono ?_
  rw [hq]
  rintro e w' ⟨h1, h2, ⟨-, h3, h4⟩ | ⟨v, r, h3, _⟩⟩
  · exact ⟨h3, h1, h2, h4⟩
  · cases h3
theorem rtext130y (w0 w : World) (g : Nat) (A : Option Addr) (n c : Nat) (bs : List UInt8) (k : Nat) (most k1 : Nat) (mz : Int) (hmz : mz = (most : Int)) (t r : List UInt8) (x : ByteArray) (hx : (⟨t.toArray⟩ : ByteArray) = x) (hk : (n : Int) - (r.length : Nat) = (k1 : Int)) (hq : decT most (bs.drop k) = some (t, r)) (hm : most ≤ 1000000) (hn : bs.length = n) (hc : n ≤ c) (hl : n ≤ 1000000000000000) (hg : w0.heap.size ≤ g) (hB : Below w0.heap.size w0 w) (hS : RB w g A n c (k : Int) false) (hC0 : (Kd.int .u8).C w0 A bs.length (bys bs)) :
    Calls Try.prog 130 #[.pointer (some ⟨g, 0, none⟩), .int .i64 mz] w fun e w' => e = .returned (.string x) ∧ Below w0.heap.size w0 w' ∧ KeepBut w w' g none ∧ RB w' g A n c (k1 : Int) false := by
  subst hmz hx
  refine (rtext130 w0 w g A n c bs (k : Int) false most hm hn hc hl hg hB hS hC0).mono ?_
  rw [rtextW_dec, hq]
  rintro e w' ⟨h1, h2, ⟨h3, _⟩ | ⟨v, r', h3, h4, h5⟩⟩
  · cases h3
  · cases h3
    rw [hk] at h5
    exact ⟨h4, h1, h2, h5⟩
theorem rowOk' {o : Value} {n : Nat} (h : ∀ k, o.ownBlock = some k → n ≤ k) : o.ownBlock = none ∨ ∃ b, o.ownBlock = some b ∧ n ≤ b := by
  cases e : o.ownBlock with
  | none => exact .inl rfl
  | some k => exact .inr ⟨k, rfl, h k e⟩
theorem keep_grown' {w W W1 : World} {g : Nat} {o : Value} (h : KeepBut w W g none) (ho : ∀ k, o.ownBlock = some k → w.heap.size ≤ k) (hg : W.grownBy W1 o.ownBlock) : KeepBut w W1 g none :=
  h.trans (KeepBut.of_grown hg g) (rowOk' ho)
theorem RB.grown {W W1 : World} {g n0 n c : Nat} {A : Option Addr} {i : Int} {b : Bool} {o : Value} (h : RB W g A n c i b) (hgn : g < n0) (ho : ∀ k, o.ownBlock = some k → n0 ≤ k) (hg : W.grownBy W1 o.ownBlock) : RB W1 g A n c i b :=
  (hg.block g h.lt (fun e => by have := ho g e.symm; omega)).trans h
theorem R_keepG {w W X : World} {base g : Nat} {v : Value} {ls : List S68} (h : k68.R 68 W base (fun k => w.heap.size ≤ k) v ls) (hg : g < w.heap.size) (hk : KeepBut W X g none) : k68.R 68 X base (fun k => w.heap.size ≤ k) v ls :=
  Kd.R_keep h hk (fun k hk2 => by omega)
def RGetPost (w0 w : World) (g : Nat) (A : Option Addr) (n c : Nat) (Q : Option (List S68 × List UInt8)) (e : Ending) (w' : World) : Prop :=
  Below w0.heap.size w0 w' ∧ KeepBut w w' g none ∧
    ((Q = none ∧ e = .returned (.slice none 0 0) ∧ ∃ i, RB w' g A n c i true) ∨ ∃ x t B d, Q = some (x, t) ∧ e = .returned (.slice B x.length d) ∧ x.length ≤ d ∧ Kd.C k68 w' B x.length x ∧ RB w' g A n c ((n : Int) - (t.length : Nat)) false)
theorem count_none {bs : List UInt8} {i : Int} {b : Bool} (h : countW b 8 bs i = none) : (if b = true then none else labW bs i) = none := by
  unfold countW numW at h
  cases b with
  | true => rfl
  | false =>
    rw [if_neg (by decide)] at h ⊢
    cases hq : getW bs i with
    | none => exact labW_none hq
    | some q =>
      obtain ⟨m, r⟩ := q
      rw [hq] at h
      simp only at h
      split at h
      · cases h
      · next hm =>
        rw [labW_some hq]
        split
        · rw [decN_short (by omega)]
        · rfl
theorem count_some {bs : List UInt8} {i : Int} {b : Bool} {m : Nat} {r : List UInt8} (h : countW b 8 bs i = some (m, r)) : b = false ∧ m ≤ 8 ∧ getW bs i = some (m, r) := by
  unfold countW at h
  split at h
  · cases h
  · next m' r' hq =>
    split at h
    · next hm =>
      simp only [Option.some.injEq, Prod.mk.injEq] at h
      obtain ⟨rfl, rfl⟩ := h
      exact ⟨(numW_place hq).1, hm.1, (numW_place hq).2⟩
    · cases h
theorem count120n (w0 w : World) (g : Nat) (A : Option Addr) (n c : Nat) (bs : List UInt8) (at_ : Int) (b : Bool) (hq : countW b 8 bs at_ = none) (hn : bs.length = n) (hl : n ≤ 1000000000000000) (hg : w0.heap.size ≤ g) (hB : Below w0.heap.size w0 w) (hS : RB w g A n c at_ b) (hC0 : (Kd.int .u8).C w0 A bs.length (bys bs)) :
    Calls Try.prog 120 #[.pointer (some ⟨g, 0, none⟩), .int .i64 8] w fun e w' => e = .returned (.int .i64 0) ∧ Below w0.heap.size w0 w' ∧ KeepBut w w' g none ∧ ∃ i, RB w' g A n c i true := by
  refine (count120 w0 w g A n c bs at_ b 8 (by decide) hn hl hg hB hS hC0).mono ?_
  rw [hq]
  rintro e w' ⟨h1, h2, ⟨-, h3, h4⟩ | ⟨v, r, h3, _⟩⟩
  · exact ⟨h3, h1, h2, h4⟩
  · cases h3
theorem count120y (w0 w : World) (g : Nat) (A : Option Addr) (n c : Nat) (bs : List UInt8) (at_ : Int) (b : Bool) (m k : Nat) (r : List UInt8) (hq : countW b 8 bs at_ = some (m, r)) (hk : (n : Int) - (r.length : Nat) = (k : Int)) (hn : bs.length = n) (hl : n ≤ 1000000000000000) (hg : w0.heap.size ≤ g) (hB : Below w0.heap.size w0 w) (hS : RB w g A n c at_ b) (hC0 : (Kd.int .u8).C w0 A bs.length (bys bs)) :
    Calls Try.prog 120 #[.pointer (some ⟨g, 0, none⟩), .int .i64 8] w fun e w' => e = .returned (.int .i64 m) ∧ Below w0.heap.size w0 w' ∧ KeepBut w w' g none ∧ RB w' g A n c (k : Int) false := by
  refine (count120 w0 w g A n c bs at_ b 8 (by decide) hn hl hg hB hS hC0).mono ?_
  rw [hq]
  rintro e w' ⟨h1, h2, ⟨h3, _⟩ | ⟨v', r', h3, h4, h5⟩⟩
  · cases h3
  · cases h3
    rw [hk] at h5
    exact ⟨h4, h1, h2, h5⟩
set_option maxRecDepth 100000 in
set_option maxHeartbeats 16000000 in
/-- the document's Get. -/
theorem rget83 (w0 w : World) (g : Nat) (A : Option Addr) (n c : Nat) (bs : List UInt8) (at_ : Int) (b : Bool) (hn : bs.length = n) (hc : n ≤ c) (hl : n ≤ 1000000000000000) (hg : w0.heap.size ≤ g) (hB : Below w0.heap.size w0 w) (hS : RB w g A n c at_ b) (hC0 : (Kd.int .u8).C w0 A bs.length (bys bs)) :
    Calls Try.prog 83 #[.pointer (some ⟨g, 0, none⟩)] w (RGetPost w0 w g A n c (if b = true then none else labW bs at_)) := by
  obtain ⟨Q, hQ⟩ : ∃ Q, (if b = true then none else labW bs at_) = Q := ⟨_, rfl⟩
  have hgw := hS.lt
  have HN := Lib.hid hn
  have HC0 := Lib.hid hC0
  cases hq : countW b 8 bs at_ with
  | none =>
    have HQ := Lib.hid (hQ.symm.trans (count_none hq))
    rw [hQ]
    have h1 := Lib.hid (count120n w0 w g A n c bs at_ b hq hn hl hg hB hS hC0)
    clear hB hS hC0 hq hQ hn
    go_enter Try.func83, Try.ntmps83
    go_wp2_with fail
    (with_reducible refine h1.out.mono ?_)
    rintro e w1 ⟨rfl, hB1, hK1, i1, hS1⟩
    have g2 := hS1.c2
    have z2 := hS1.z2
    have HS2 := Lib.hid (hS1.set2 true)
    have HB2 := Lib.hid (hB1.setCell (p := ⟨g, 2, none⟩) hg (.bool true))
    have HK2 := Lib.hid (hK1.set_ 2 (.bool true))
    clear hS1 hB1 hK1
    go_wp2
    refine wp_loop_rounds 1 ?_
    rw [rounds_succ]
    go_wp2
    go_ret
    exact ⟨HB2.out, HK2.out, Or.inl ⟨HQ.out, rfl, _, HS2.out⟩⟩
  | some q =>
    obtain ⟨m, r⟩ := q
    obtain ⟨rfl, hm8, hv⟩ := count_some hq
    obtain ⟨hp0, hp1, hp2, hp3, hp4⟩ := getW_place hv
    obtain ⟨k0, hk0I, hk0⟩ : ∃ k : Nat, (n : Int) - (r.length : Nat) = (k : Int) ∧ k ≤ n := ⟨n - r.length, by omega, by omega⟩
    have h1 := Lib.hid (count120y w0 w g A n c bs at_ false m k0 r hq hk0I hn hl hg hB hS hC0)
    have hQ2 := labW_some hv
    rw [if_neg (by decide)] at hQ
    rw [if_pos hm8, hQ] at hQ2
    rw [if_neg (by decide), hQ]
    obtain ⟨M, hM⟩ : ∃ M, decN m r = M := ⟨_, rfl⟩
    rw [hM] at hQ2
    have HQ := Lib.hid hQ2
    have HM0 := Lib.hid (show M = (decN (m - 0) (bs.drop k0)).map (fun q => (([] : List S68) ++ q.1, q.2)) from by rw [show k0 = bs.length - r.length by omega, hp3, ← hM, Nat.sub_zero]; cases decN m r <;> simp)
    clear hB hS hC0 hq hQ hQ2 hn hv hp0 hp1 hp2 hp3 hk0I hM
    go_enter Try.func83, Try.ntmps83
    go_wp2_with fail
    (with_reducible refine h1.out.mono ?_)
    rintro e w1 ⟨rfl, hB1, hK1, hS1⟩
    have HB1 := Lib.hid hB1
    have HK1 := Lib.hid hK1
    have HS1 := Lib.hid hS1
    clear h1 hB1 hK1 hS1
    go_wp2
    go_loopw [4, 5, 6, 7] (fun u4 u5 _ _ wr => ∃ (j : Nat) (at' : Int) (bd : Bool) (ls : List S68), u5 = .int .i64 j ∧ j ≤ m ∧ ls.length ≤ j ∧ Hid (bd = true → M = none) ∧ Hid (bd = false → ∃ k : Nat, at' = (k : Int) ∧ k ≤ n ∧ M = (decN (m - j) (bs.drop k)).map (fun q => (ls ++ q.1, q.2))) ∧ Hid (∀ x ∈ ls, x.f0.size ≤ 140737488351232) ∧ Hid (k68.R 68 wr w0.heap.size (fun k => w.heap.size ≤ k) u4 ls) ∧ Hid (RB wr g A n c at' bd) ∧ Hid (Below w0.heap.size w0 wr) ∧ Hid (KeepBut w wr g none)) (fun _ u5 _ _ _ => m - (intOf u5).toNat)
    case atStart => exact ⟨0, (k0 : Int), false, [], rfl, Nat.zero_le _, Nat.zero_le _, Lib.hid (fun h => absurd h (by decide)), Lib.hid (fun _ => ⟨k0, rfl, hk0, HM0.out⟩), Lib.hid (by simp), Lib.hid (Kd.R_nil _ _ _ _ _), HS1, HB1, HK1⟩
    case round =>
      clear HM0 HB1 HK1 HS1
      obtain ⟨j, at', bd, ls, rfl, hj, hls, HN0, HE0, HZ, HR, HS, HB, HK⟩ := hrel
      obtain ⟨Au, cu, rfl, hcu, hCu⟩ := Kd.R_reads HR.out
      have HCu := Lib.hid hCu
      clear hCu
      cases bd with
      | true =>
        have HM := Lib.hid (HN0.out rfl)
        have HQ2 := Lib.hid (show Q = none from by rw [HQ.out, HM.out])
        clear HN0 HE0
        have g2 := HS.out.c2
        have z2 := HS.out.z2
        have HS2 := Lib.hid (HS.out.set2 true)
        have HB2 := Lib.hid (HB.out.setCell (p := ⟨g, 2, none⟩) hg (.bool true))
        have HK2 := Lib.hid (HK.out.set_ 2 (.bool true))
        go_wp2
        all_goals (go_ret; exact ⟨HB2.out, HK2.out, Or.inl ⟨HQ2.out, rfl, _, HS2.out⟩⟩)
      | false =>
        obtain ⟨k, rfl, hkn, hME⟩ := HE0.out rfl
        have HM := Lib.hid hME
        clear HN0 HE0 hME
        have g2 := HS.out.c2
        by_cases hlt : j < m
        · have tI : (j : Int) < (m : Int) := by omega
          have tId : decide ((j : Int) < (m : Int)) = true := decide_eq_true tI
          obtain ⟨p, hp⟩ : ∃ p, m - j = p + 1 := ⟨m - j - 1, by omega⟩
          rw [hp] at HM
          have Hp := Lib.hid hp
          clear hp
          cases hq1 : decT 32 (bs.drop k) with
          | none =>
            have HMN := Lib.hid (lab_none HM.out (decN_none1 hq1))
            have h1 := Lib.hid (rtext130n w0 wr g A n c bs (k : Int) false 32 32 rfl (by rw [rtextW_dec, hq1]) (by decide) HN.out hc hl hg HB.out HS.out HC0.out)
            clear hq1 HM
            go_wp2_with fail
            (with_reducible refine h1.out.mono ?_)
            rintro e w5 ⟨rfl, hB5, hK5, i5, hS5⟩
            have h2 := Lib.hid (rtext130n w0 w5 g A n c bs i5 true 64 64 rfl rfl (by decide) HN.out hc hl hg hB5 hS5 HC0.out)
            have HR5 := Lib.hid (R_keepG HR.out hgw hK5)
            have HK5 := Lib.hid (HK.out.trans hK5 (.inl rfl))
            clear hB5 hK5 hS5 h1 g2
            go_wp2_with fail
            (with_reducible refine h2.out.mono ?_)
            rintro e w7 ⟨rfl, hB7, hK7, i7, hS7⟩
            have HR7 := Lib.hid (R_keepG HR5.out hgw hK7)
            have HK7 := Lib.hid (HK5.out.trans hK7 (.inl rfl))
            have HB7 := Lib.hid hB7
            have HS7 := Lib.hid hS7
            clear hB7 hK7 hS7 h2
            go_wp2_with (at_builtin; refine Kd.R_append k68 (w0 := w0) w0.heap.size rfl (.tmp 26) (.tmp 30) 28 68 (.agg #[.string ⟨#[]⟩, .string ⟨#[]⟩]) 32 rfl Try.underlying28 infoLy rfl (by decide) (by omega) (.slice Au ls.length cu) ls (⟨⟨#[]⟩, ⟨#[]⟩⟩ : S68) [.string ⟨#[]⟩, .string ⟨#[]⟩] (fun k => w.heap.size ≤ k) (fun _ => False) rfl (by first | rfl | (rw [World.size_setCell]; rfl)) (k68_mkM _ _ _ (⟨⟨#[]⟩, ⟨#[]⟩⟩ : S68)) (fun _ hk => hk.elim) (fun k hk => Nat.le_trans (keep_size HK7.out) hk) HR7.out HB7.out (below_size HB7.out) (by omega) ?_; intro v9 w9 hown9 hb9 hg9 hat9; have HR9 := Lib.hid hown9; have HB9 := Lib.hid hb9; have HS9 := Lib.hid (RB.grown HS7.out hgw HR7.out.1 hg9); have HK9 := Lib.hid (keep_grown' HK7.out HR7.out.1 hg9); clear hown9 hb9 hg9 hat9)
            go_roundw
            case rel => exact ⟨j + 1, i7, true, ls ++ [⟨⟨#[]⟩, ⟨#[]⟩⟩], by go_num, by omega, by rw [List.length_append, List.length_singleton]; omega, Lib.hid (fun _ => HMN.out), Lib.hid (fun h => absurd h (by decide)), Lib.hid (fun x hx => by rcases List.mem_append.1 hx with h | h; exact HZ.out x h; rw [List.mem_singleton.1 h]; decide), HR9, HS9, HB9, HK9⟩
            case measure => simp [intOf]; omega
          | some q1 =>
            obtain ⟨t1, r1⟩ := q1
            obtain ⟨k1, hk1, hk1n, hk1I, hdr1, ht1⟩ := decT_place HN.out hkn hq1
            obtain ⟨x0, hx0⟩ : ∃ x : ByteArray, (⟨t1.toArray⟩ : ByteArray) = x := ⟨_, rfl⟩
            have hx0s : x0.size ≤ 140737488351232 := by rw [← hx0]; show t1.toArray.size ≤ _; simp; omega
            have h1 := Lib.hid (rtext130y w0 wr g A n c bs k 32 k1 32 rfl t1 r1 x0 hx0 hk1I hq1 (by decide) HN.out hc hl hg HB.out HS.out HC0.out)
            go_wp2_with fail
            (with_reducible refine h1.out.mono ?_)
            rintro e w5 ⟨rfl, hB5, hK5, hS5⟩
            have HR5 := Lib.hid (R_keepG HR.out hgw hK5)
            have HK5 := Lib.hid (HK.out.trans hK5 (.inl rfl))
            cases hq2 : decT 64 (bs.drop k1) with
            | none =>
              have HMN := Lib.hid (lab_none HM.out (decN_none2 hq1 (by rw [← hdr1]; exact hq2)))
              have h2 := Lib.hid (rtext130n w0 w5 g A n c bs (k1 : Int) false 64 64 rfl (by rw [rtextW_dec, hq2]) (by decide) HN.out hc hl hg hB5 hS5 HC0.out)
              clear hq1 hq2 HM hdr1 hx0 hB5 hK5 hS5 h1 g2 ht1 hk1I
              go_wp2_with fail
              (with_reducible refine h2.out.mono ?_)
              rintro e w7 ⟨rfl, hB7, hK7, i7, hS7⟩
              have HR7 := Lib.hid (R_keepG HR5.out hgw hK7)
              have HK7 := Lib.hid (HK5.out.trans hK7 (.inl rfl))
              have HB7 := Lib.hid hB7
              have HS7 := Lib.hid hS7
              clear hB7 hK7 hS7 h2
              go_wp2_with (at_builtin; refine Kd.R_append k68 (w0 := w0) w0.heap.size rfl (.tmp 26) (.tmp 30) 28 68 (.agg #[.string ⟨#[]⟩, .string ⟨#[]⟩]) 32 rfl Try.underlying28 infoLy rfl (by decide) (by omega) (.slice Au ls.length cu) ls (⟨x0, ⟨#[]⟩⟩ : S68) [.string x0, .string ⟨#[]⟩] (fun k => w.heap.size ≤ k) (fun _ => False) rfl (by first | rfl | (rw [World.size_setCell]; rfl)) (k68_mkM _ _ _ (⟨x0, ⟨#[]⟩⟩ : S68)) (fun _ hk => hk.elim) (fun k hk => Nat.le_trans (keep_size HK7.out) hk) HR7.out HB7.out (below_size HB7.out) (by omega) ?_; intro v9 w9 hown9 hb9 hg9 hat9; have HR9 := Lib.hid hown9; have HB9 := Lib.hid hb9; have HS9 := Lib.hid (RB.grown HS7.out hgw HR7.out.1 hg9); have HK9 := Lib.hid (keep_grown' HK7.out HR7.out.1 hg9); clear hown9 hb9 hg9 hat9)
              go_roundw
              case rel => exact ⟨j + 1, i7, true, ls ++ [⟨x0, ⟨#[]⟩⟩], by go_num, by omega, by rw [List.length_append, List.length_singleton]; omega, Lib.hid (fun _ => HMN.out), Lib.hid (fun h => absurd h (by decide)), Lib.hid (fun x hx => by rcases List.mem_append.1 hx with h | h; exact HZ.out x h; rw [List.mem_singleton.1 h]; exact hx0s), HR9, HS9, HB9, HK9⟩
              case measure => simp [intOf]; omega
            | some q2 =>
              obtain ⟨t2, r2⟩ := q2
              obtain ⟨k2, hk2, hk2n, hk2I, hdr2, -⟩ := decT_place HN.out hk1n hq2
              obtain ⟨x1, hx1⟩ : ∃ x : ByteArray, (⟨t2.toArray⟩ : ByteArray) = x := ⟨_, rfl⟩
              have HM2 := Lib.hid (show M = (decN (m - (j + 1)) (bs.drop k2)).map (fun q => ((ls ++ [⟨x0, x1⟩]) ++ q.1, q.2)) from by
                refine lab_snoc HM.out ?_
                rw [decN_next hq1 (by rw [← hdr1]; exact hq2), hdr2, hx0, hx1, show m - (j + 1) = p by have := Hp.out; omega])
              have h2 := Lib.hid (rtext130y w0 w5 g A n c bs k1 64 k2 64 rfl t2 r2 x1 hx1 hk2I hq2 (by decide) HN.out hc hl hg hB5 hS5 HC0.out)
              clear hq1 hq2 HM hdr1 hdr2 hx0 hx1 hB5 hK5 hS5 h1 g2 ht1 hk1I hk2I
              go_wp2_with fail
              (with_reducible refine h2.out.mono ?_)
              rintro e w7 ⟨rfl, hB7, hK7, hS7⟩
              have HR7 := Lib.hid (R_keepG HR5.out hgw hK7)
              have HK7 := Lib.hid (HK5.out.trans hK7 (.inl rfl))
              have HB7 := Lib.hid hB7
              have HS7 := Lib.hid hS7
              clear hB7 hK7 hS7 h2
              go_wp2_with (at_builtin; refine Kd.R_append k68 (w0 := w0) w0.heap.size rfl (.tmp 26) (.tmp 30) 28 68 (.agg #[.string ⟨#[]⟩, .string ⟨#[]⟩]) 32 rfl Try.underlying28 infoLy rfl (by decide) (by omega) (.slice Au ls.length cu) ls (⟨x0, x1⟩ : S68) [.string x0, .string x1] (fun k => w.heap.size ≤ k) (fun _ => False) rfl (by first | rfl | (rw [World.size_setCell]; rfl)) (k68_mkM _ _ _ (⟨x0, x1⟩ : S68)) (fun _ hk => hk.elim) (fun k hk => Nat.le_trans (keep_size HK7.out) hk) HR7.out HB7.out (below_size HB7.out) (by omega) ?_; intro v9 w9 hown9 hb9 hg9 hat9; have HR9 := Lib.hid hown9; have HB9 := Lib.hid hb9; have HS9 := Lib.hid (RB.grown HS7.out hgw HR7.out.1 hg9); have HK9 := Lib.hid (keep_grown' HK7.out HR7.out.1 hg9); clear hown9 hb9 hg9 hat9)
              go_roundw
              case rel => exact ⟨j + 1, (k2 : Int), false, ls ++ [⟨x0, x1⟩], by go_num, by omega, by rw [List.length_append, List.length_singleton]; omega, Lib.hid (fun h => absurd h (by decide)), Lib.hid (fun _ => ⟨k2, rfl, hk2n, HM2.out⟩), Lib.hid (fun x hx => by rcases List.mem_append.1 hx with h | h; exact HZ.out x h; rw [List.mem_singleton.1 h]; exact hx0s), HR9, HS9, HB9, HK9⟩
              case measure => simp [intOf]; omega
        · obtain rfl : j = m := by omega
          have HM2 := Lib.hid (show M = some (ls, bs.drop k) from by rw [HM.out, Nat.sub_self, decN]; simp)
          have hl4 : ls.length ≤ 4000000000000000000 := by omega
          clear hlt HM
          go_wp2_with fail
          (with_reducible refine (check58 _ ls Au cu hl4 HZ.out HCu.out).mono ?_)
          rintro e w5 ⟨rfl, hb5⟩
          have HS5 := Lib.hid (HS.out.below hb5)
          have HB5 := Lib.hid (below_step HB.out hb5)
          have HK5 := Lib.hid (HK.out.trans (KeepBut.of_below hb5 g none) (.inl rfl))
          have HC5 := Lib.hid (Kd.C_below HCu.out hb5)
          clear hb5
          cases hch : chkS ls with
          | false =>
            have HQ2 := Lib.hid (show Q = none from by rw [HQ.out, HM2.out]; simp only; rw [if_neg (by rw [hch]; decide)])
            have z2 := HS5.out.z2
            have g2 := HS5.out.c2
            have HS6 := Lib.hid (HS5.out.set2 true)
            have HB6 := Lib.hid (HB5.out.setCell (p := ⟨g, 2, none⟩) hg (.bool true))
            have HK6 := Lib.hid (HK5.out.set_ 2 (.bool true))
            go_wp2
            go_ret
            exact ⟨HB6.out, HK6.out, Or.inl ⟨HQ2.out, rfl, _, HS6.out⟩⟩
          | true =>
            have HQ2 := Lib.hid (show Q = some (ls, bs.drop k) from by rw [HQ.out, HM2.out]; simp only; rw [if_pos hch])
            have HKK := Lib.hid (show (n : Int) - ((bs.drop k).length : Nat) = (k : Int) from by rw [List.length_drop, HN.out]; omega)
            go_wp2
            go_ret
            exact ⟨HB5.out, HK5.out, Or.inr ⟨ls, _, _, _, HQ2.out, rfl, hcu, HC5.out, by rw [HKK.out]; exact HS5.out⟩⟩
end
section
open Go Go.RowKit Go.Proofs.YteafilojjdfllaaW.PrintWords Go.Proofs.YteafilojjdfllaaW.PrintLast Go.Proofs.YteafilojjdfllaaW.PrintMore Go.Proofs.Yteafilojjdfllaa.PAll
set_option linter.unusedVariables false
set_option linter.unusedSimpArgs false

theorem lab_back {bs : List UInt8} {l : List S68} {n : Nat} (hn : bs.length = n) (h : chkS l = true) : labW (bs ++ encS l) (n : Int) = some (l, []) := by
  unfold labW
  rw [if_neg (by omega), Int.toNat_natCast, ← hn, List.drop_left]
  have := decS_enc l [] h
  rwa [List.append_nil] at this
theorem get81back (w : World) (A : Option Addr) (n2 c n : Nat) (bs : List UInt8) (l : List S68) (hn : bs.length = n) (h : chkS l = true) (hn2 : (bs ++ encS l).length = n2) (hc : n2 ≤ c) (hl : n2 ≤ 1000000000000000) (hC : (Kd.int .u8).C w A (bs ++ encS l).length (bys (bs ++ encS l))) :
    Calls Try.prog 81 #[.slice A n2 c, .int .i64 (n : Int)] w fun e w' => (∃ B d, e = .returned (.tuple #[.slice B l.length d, .int .i64 (n2 : Int), .bool true]) ∧ l.length ≤ d ∧ Kd.C k68 w' B l.length l) ∧ Below w.heap.size w w' := by
  have h1 := get81 w A n2 c (bs ++ encS l) (n : Int) hn2 hc hl hC
  rw [lab_back hn h] at h1
  exact h1.mono fun e w' ⟨⟨B, d, he, hd, hD⟩, hb⟩ => ⟨⟨B, d, by rw [he]; simp, hd, hD⟩, hb⟩
theorem str_parts (bs xs : List UInt8) : (⟨(bs ++ xs).toArray⟩ : ByteArray) = (⟨bs.toArray⟩ : ByteArray) ++ (⟨xs.toArray⟩ : ByteArray) := by
  apply ByteArray.ext
  simp
theorem chk_sizes {l : List S68} (h : chkS l = true) : ∀ x ∈ l, x.f0.size ≤ 32 ∧ x.f1.size ≤ 64 := by
  intro x hx
  unfold chkS at h
  rw [Bool.and_eq_true, Bool.and_eq_true, decide_eq_true_iff, List.all_eq_true] at h
  have h1 := okS_sizes (h.1.2 x hx)
  have e0 : x.f0.data.toList.length = x.f0.size := by simp
  have e1 : x.f1.data.toList.length = x.f1.size := by simp
  omega
theorem chk_eight {l : List S68} (h : chkS l = true) : l.length ≤ 8 := by
  unfold chkS at h
  rw [Bool.and_eq_true, Bool.and_eq_true, decide_eq_true_iff, List.all_eq_true] at h
  exact h.1.1.2
theorem decS_chk {r t : List UInt8} {x : List S68} (h : decS r = some (x, t)) : chkS x = true := by
  unfold decS at h
  split at h
  · cases h
  · split at h
    · split at h
      · cases h
      · split at h
        · next hc =>
          simp only [Option.some.injEq, Prod.mk.injEq] at h
          obtain ⟨rfl, rfl⟩ := h
          exact hc
        · cases h
    · cases h
theorem labW_chk {bs t : List UInt8} {i : Int} {x : List S68} (h : labW bs i = some (x, t)) : chkS x = true := by
  unfold labW at h
  split at h
  · cases h
  · exact decS_chk h
theorem encLs_len : ∀ (l : List S68), (∀ x ∈ l, x.f0.size ≤ 32 ∧ x.f1.size ≤ 64) → (l.flatMap encLb).length ≤ 116 * l.length
  | [], _ => by simp
  | x :: l, h => by
    have h1 := encLb_len (h x (List.mem_cons_self ..))
    have h2 := encLs_len l (fun y hy => h y (List.mem_cons_of_mem _ hy))
    rw [List.flatMap_cons, List.length_append, List.length_cons]
    omega
theorem encS_len {l : List S68} (h8 : l.length ≤ 8) (h : ∀ x ∈ l, x.f0.size ≤ 32 ∧ x.f1.size ≤ 64) : (encS l).length ≤ 938 := by
  have h1 := encLs_len l h
  have h2 := encV_ten (v := l.length) (by omega)
  unfold encS
  rw [List.length_append]
  omega
noncomputable def tabT23 : Bool × List (List Nat × List Nat) := rtab .any (opsOf Try.f23 4)
theorem tabT23_eq : rtab .any (opsOf Try.f23 4) = tabT23 := rfl
/-- an operation of its own that hands back a value and leaves the world -/
theorem conv_ {P : Program} {ops : Array Oper} {oi : Oper} {N : Option Tmp} {a : Act} {w : World} {K : Act → World → Prop} {Q : Exit → Act → World → Prop} {v : Value} {s t : TypeId} {o : Operand} (hw : Region.wanted oi (yielded ops a.tmps) = true) (hop : oi.op = .convert s t o) (hx : (convert s t (a.eval o)).run P w = .ok v w) (hN : oi.dst = N) (h : K (a.put N v) w) : if Region.wanted oi (yielded ops a.tmps) = true then Oper.wp P oi a w K Q else K (a.put N undef) w := by
  rw [if_pos hw]
  subst hN
  unfold Oper.wp execOp
  simp only [hop, Sem.run_bind, Sem.run_pure, hx, Result.andThen_ok]
  exact h
set_option maxRecDepth 100000 in
set_option maxHeartbeats 16000000 in
theorem labelBytes_walk (w : World) (l : List S68) (A : Option Addr) (c : Nat) (B : Option Addr) (n d : Nat) (bs : List UInt8) (at_ : Int) (hn : bs.length = n) (hc : l.length ≤ c) (hd : n ≤ d) (hlb : n ≤ 140737488351232) (hC : Kd.C k68 w A l.length l) (hD : (Kd.int .u8).C w B bs.length (bys bs)) (hl : l.length * 32 ≤ 140737488351232) (hs : ∀ x ∈ l, x.f0.size ≤ 140737488351232 ∧ x.f1.size ≤ 140737488351232) :
    Calls Try.prog 23 #[.slice A l.length c, .slice B n d, .int .i64 at_] w fun e w' => e = .returned (.bool true) ∧ Below w.heap.size w w' := by
  have HC := Lib.hid hC
  have HD := Lib.hid hD
  have HN := Lib.hid hn
  have h58 := Lib.hid (check58 w l A c (by omega) (fun x hx => (hs x hx).1) hC)
  clear hC hD hn hs
  cases hk : chkS l with
  | true =>
    rw [hk] at h58
    have h8 := chk_eight hk
    have HSZ := Lib.hid (chk_sizes hk)
    have HK := Lib.hid hk
    obtain ⟨X, hX⟩ : ∃ X, bs ++ encS l = X := ⟨_, rfl⟩
    obtain ⟨E, hE⟩ : ∃ E, encS l = E := ⟨_, rfl⟩
    have HX := Lib.hid hX
    have HE := Lib.hid hE
    have hS : (⟨bs.toArray⟩ : ByteArray) ++ (⟨E.toArray⟩ : ByteArray) = (⟨X.toArray⟩ : ByteArray) := by rw [← hX, ← hE]; exact (str_parts _ _).symm
    obtain ⟨sb, hsb⟩ : ∃ s : ByteArray, (⟨bs.toArray⟩ : ByteArray) = s := ⟨_, rfl⟩
    obtain ⟨se, hse⟩ : ∃ s : ByteArray, (⟨E.toArray⟩ : ByteArray) = s := ⟨_, rfl⟩
    obtain ⟨sx, hsx⟩ : ∃ s : ByteArray, (⟨X.toArray⟩ : ByteArray) = s := ⟨_, rfl⟩
    have HSB := Lib.hid hsb
    have HSE := Lib.hid hse
    have HSX := Lib.hid hsx
    rw [hsb, hse, hsx] at hS
    have hzb : sb.size ≤ 140737488351232 := by rw [← hsb]; have := HN.out; simp only [ByteArray.size, List.size_toArray]; omega
    have hze : se.size ≤ 938 := by rw [← hse, ← hE]; have := encS_len h8 HSZ.out; simpa [ByteArray.size] using this
    have hsm : ¬ 9223372036854775807 < sb.size + se.size := by omega
    clear hk hX hE hsb hse hsx hzb hze
    go_enter Try.func23, Try.ntmps23
    go_wp2_with fail
    (with_reducible refine h58.out.mono ?_)
    rintro e w1 ⟨rfl, hb1⟩
    clear h58
    have HB1 := Lib.hid hb1
    clear hb1
    go_wp2_with fail
    (with_reducible refine (bytes73 _ B n d bs HN.out (by omega) (Kd.C_below HD.out HB1.out)).mono ?_)
    rintro e w2 ⟨A2, n2, c2, rfl, HN2, hc2, HR2, hb2⟩
    have HB2 := Lib.hid (below_step HB1.out hb2)
    clear hb2
    have hn2 : n2 ≤ 140737488351232 := by have := HN.out; have := HN2.out; omega
    go_wp2_with fail
    (with_reducible refine (Lb.list56 _ A c l (by omega) hc (Kd.C_below HC.out HB2.out)).mono ?_)
    rintro e w3 ⟨A3, c3, rfl, hLF, hb3⟩
    have HC3 := Lib.hid hLF.now.2
    have HC2 := Lib.hid (Kd.C_below (R_C HR2.out) hb3)
    have HB3 := Lib.hid (below_step HB2.out hb3)
    clear hLF hb3
    go_wp2_with fail
    (with_reducible refine (put80 _ A2 n2 c2 bs l A3 c3 HN2.out hc2 (by omega) h8 HSZ.out HC2.out HC3.out).mono ?_)
    rintro e w4 ⟨A4, n4, c4, rfl, HN4, hc4, HC4, hb4⟩
    have HB4 := Lib.hid (below_step HB3.out hb4)
    clear hb4
    have hn4 : n4 ≤ 140737488353000 := by have h1 := HN.out; have h2 := HN4.out; have h3 := encS_len h8 HSZ.out; rw [List.length_append] at h2; omega
    go_wp2_with fail
    (with_reducible refine (get81back _ A4 n4 c4 n bs l HN.out HK.out HN4.out hc4 (by omega) HC4.out).mono ?_)
    rintro e w5 ⟨⟨A5, c5, rfl, hc5, hC5⟩, hb5⟩
    have HC5 := Lib.hid hC5
    have HB5 := Lib.hid (below_step HB4.out hb5)
    have HC4' := Lib.hid (Kd.C_below HC4.out hb5)
    clear hb5 hC5 HC4
    rw [HX.out] at HC4' HN4
    have v0 := fun W (h : Below w5.heap.size w5 W) => by
      have h2 := Kd.C_string (P := Try.prog) (c := c4) Try.underlying85 Try.underlying5 Try.underlying9 (Kd.C_below HC4'.out h)
      rw [str_bytes, HSX.out, HN4.out] at h2
      exact h2
    have v1 := fun W (h : Below w5.heap.size w5 W) => by
      have h2 := Kd.C_string (P := Try.prog) (c := d) Try.underlying85 Try.underlying5 Try.underlying9 (Kd.C_below (Kd.C_below HD.out HB5.out) h)
      rw [str_bytes, HSB.out, HN.out] at h2
      exact h2
    go_wp2_with fail
    refine start_ (n := 25) (S := fun w' => Below w5.heap.size w5 w') (ds := []) #[false, false, false, false, false, false, false, false, false, false, false, false, false, false, false, false, false, false, false, false, false, false, false, false, false] (by kernel_rfl) rfl rfl (below_drew (Below.refl _ _)) (fun hHeld => ?_)
    refine with_tab (T := tabT23) tabT23_eq (fun HT_ => ?_)
    refine pure_ (i := 0) (N := some 31) (v := ?_) (a' := ?_) #[true, false, false, false, false, false, false, false, false, false, false, false, false, false, false, false, false, false, false, false, false, false, false, false, false] rfl rfl (any_of HT_.out (by kernel_rfl)) (fun _ _ _ h => h) (Or.inl ⟨by rfl, ?_⟩) ?_ ?_
    rotate_left
    · intro w'
      go_simp
      with_reducible rfl
    rotate_left
    · simp only [Act.put, List.setIfInBounds_toArray, List.set_cons_zero, List.set_cons_succ, i64_w, i32_w]
      rfl
    refine take_ (i := 1) (N := some 32) (v := ?_) (a' := ?_) #[true, true, false, false, false, false, false, false, false, false, false, false, false, false, false, false, false, false, false, false, false, false, false, false, false] rfl rfl (take_of HT_.out (by kernel_rfl)) (fun _ _ _ h => h) (Or.inl ⟨by rfl, ?_⟩) hHeld ?_ ?_
    rotate_left
    · intro w' hw'
      have hcv := v0 w' hw'
      go_simp
      with_reducible rfl
    rotate_left
    · simp only [Act.put, List.setIfInBounds_toArray, List.set_cons_zero, List.set_cons_succ, i64_w, i32_w]
      rfl
    refine pure_ (i := 2) (N := some 33) (v := ?_) (a' := ?_) #[true, true, true, false, false, false, false, false, false, false, false, false, false, false, false, false, false, false, false, false, false, false, false, false, false] rfl rfl (any_of HT_.out (by kernel_rfl)) (fun _ _ _ h => h) (Or.inl ⟨by rfl, ?_⟩) ?_ ?_
    rotate_left
    · intro w'
      go_simp
      with_reducible rfl
    rotate_left
    · simp only [Act.put, List.setIfInBounds_toArray, List.set_cons_zero, List.set_cons_succ, i64_w, i32_w]
      rfl
    refine take_ (i := 3) (N := some 34) (v := ?_) (a' := ?_) #[true, true, true, true, false, false, false, false, false, false, false, false, false, false, false, false, false, false, false, false, false, false, false, false, false] rfl rfl (take_of HT_.out (by kernel_rfl)) (fun _ _ _ h => h) (Or.inl ⟨by rfl, ?_⟩) hHeld ?_ ?_
    rotate_left
    · intro w' hw'
      have hcv := v1 w' hw'
      go_simp
      with_reducible rfl
    rotate_left
    · simp only [Act.put, List.setIfInBounds_toArray, List.set_cons_zero, List.set_cons_succ, i64_w, i32_w]
      rfl
    refine pure_ (i := 4) (N := some 35) (v := ?_) (a' := ?_) #[true, true, true, true, true, false, false, false, false, false, false, false, false, false, false, false, false, false, false, false, false, false, false, false, false] rfl rfl (any_of HT_.out (by kernel_rfl)) (fun _ _ _ h => h) (Or.inl ⟨by rfl, ?_⟩) ?_ ?_
    rotate_left
    · intro w'
      go_simp
      with_reducible rfl
    rotate_left
    · simp only [Act.put, List.setIfInBounds_toArray, List.set_cons_zero, List.set_cons_succ, i64_w, i32_w]
      rfl
    refine one_ (i := 5) (N := some 36) #[true, true, true, true, true, true, false, false, false, false, false, false, false, false, false, false, false, false, false, false, false, false, false, false, false] rfl rfl (one_of HT_.out (by kernel_rfl)) (by decide) (fun K hK => ?_)
    refine goes_ Try.func82 (by kernel_rfl) rfl #[.slice A l.length c] (by rfl) rfl rfl (by (try simp only [List.map_toArray, List.map_cons, List.map_nil]); first | done | rfl) ?_
    (with_reducible refine (rput82 _ l A c h8 HSZ.out (Kd.C_below HC.out (below_step HB5.out hHeld))).mono ?_)
    rintro e w6 ⟨A6, n6, c6, rfl, HN6, hc6, HC6, hb6⟩
    have hHeld6 := below_step hHeld hb6
    have v2 := Kd.C_string (P := Try.prog) (c := c6) Try.underlying85 Try.underlying5 Try.underlying9 HC6.out
    rw [HE.out] at HN6
    rw [HE.out, str_bytes, HSE.out, HN6.out] at v2
    have V2 := Lib.hid v2
    clear v2
    refine ⟨_, rfl, ?_⟩
    refine hK.out _ _ hHeld6 (fun hHa => ?_)
    clear hK K
    simp only [Act.put, List.setIfInBounds_toArray, List.set_cons_zero, List.set_cons_succ]
    refine one_ (i := 6) (N := some 37) #[true, true, true, true, true, true, true, false, false, false, false, false, false, false, false, false, false, false, false, false, false, false, false, false, false] rfl rfl (one_of HT_.out (by kernel_rfl)) (by decide) (fun K hK => ?_)
    refine conv_ (v := .string se) rfl rfl V2.out rfl ?_
    refine hK.out _ _ hHeld6 (fun hHb => ?_)
    clear hK K
    simp only [Act.put, List.setIfInBounds_toArray, List.set_cons_zero, List.set_cons_succ]
    refine pure_ (i := 7) (N := some 38) (v := ?_) (a' := ?_) #[true, true, true, true, true, true, true, true, false, false, false, false, false, false, false, false, false, false, false, false, false, false, false, false, false] rfl rfl (any_of HT_.out (by kernel_rfl)) (fun _ _ _ h => h) (Or.inl ⟨by rfl, ?_⟩) ?_ ?_
    rotate_left
    · intro w'
      go_simp
      with_reducible rfl
    rotate_left
    · simp only [Act.put, List.setIfInBounds_toArray, List.set_cons_zero, List.set_cons_succ, i64_w, i32_w]
      rfl
    refine pure_ (i := 8) (N := some 39) (v := ?_) (a' := ?_) #[true, true, true, true, true, true, true, true, true, false, false, false, false, false, false, false, false, false, false, false, false, false, false, false, false] rfl rfl (any_of HT_.out (by kernel_rfl)) (fun _ _ _ h => h) (Or.inl ⟨by rfl, ?_⟩) ?_ ?_
    rotate_left
    · intro w'
      go_simp
      with_reducible rfl
    rotate_left
    · simp only [Act.put, List.setIfInBounds_toArray, List.set_cons_zero, List.set_cons_succ, i64_w, i32_w]
      rfl
    refine pure_ (i := 9) (N := some 40) (v := ?_) (a' := ?_) #[true, true, true, true, true, true, true, true, true, true, false, false, false, false, false, false, false, false, false, false, false, false, false, false, false] rfl rfl (any_of HT_.out (by kernel_rfl)) (fun _ _ _ h => h) (Or.inl ⟨by rfl, ?_⟩) ?_ ?_
    rotate_left
    · intro w'
      go_simp
      with_reducible rfl
    rotate_left
    · simp only [Act.put, List.setIfInBounds_toArray, List.set_cons_zero, List.set_cons_succ, i64_w, i32_w]
      rfl
    refine pure_ (i := 10) (N := some 41) (v := ?_) (a' := ?_) #[true, true, true, true, true, true, true, true, true, true, true, false, false, false, false, false, false, false, false, false, false, false, false, false, false] rfl rfl (any_of HT_.out (by kernel_rfl)) (fun _ _ _ h => h) (Or.inl ⟨by rfl, ?_⟩) ?_ ?_
    rotate_left
    · intro w'
      go_simp
      with_reducible rfl
    rotate_left
    · simp only [Act.put, List.setIfInBounds_toArray, List.set_cons_zero, List.set_cons_succ, i64_w, i32_w]
      rfl
    refine pure_ (i := 11) (N := some 42) (v := ?_) (a' := ?_) #[true, true, true, true, true, true, true, true, true, true, true, true, false, false, false, false, false, false, false, false, false, false, false, false, false] rfl rfl (any_of HT_.out (by kernel_rfl)) (fun _ _ _ h => h) (Or.inl ⟨by rfl, ?_⟩) ?_ ?_
    rotate_left
    · intro w'
      go_simp
      with_reducible rfl
    rotate_left
    · simp only [Act.put, List.setIfInBounds_toArray, List.set_cons_zero, List.set_cons_succ, i64_w, i32_w]
      rfl
    refine one_ (i := 12) (N := some 43) #[true, true, true, true, true, true, true, true, true, true, true, true, true, false, false, false, false, false, false, false, false, false, false, false, false] rfl rfl (one_of HT_.out (by kernel_rfl)) (by decide) (fun K hK => ?_)
    refine goes_ Try.func67 (by kernel_rfl) rfl #[.slice A5 l.length c5, .slice A l.length c] (by rfl) rfl rfl (by (try simp only [List.map_toArray, List.map_cons, List.map_nil]); first | done | rfl) ?_
    (with_reducible refine (Lb.sameLab67 _ l A5 c5 A c (by omega) (Kd.C_below HC5.out hHb) (Kd.C_below HC.out (below_step HB5.out hHb))).mono ?_)
    rintro e w7 ⟨rfl, hb7⟩
    have hHeld7 := below_step hHb hb7
    refine ⟨_, rfl, ?_⟩
    refine hK.out _ _ hHeld7 (fun hHc => ?_)
    clear hK K
    simp only [Act.put, List.setIfInBounds_toArray, List.set_cons_zero, List.set_cons_succ]
    refine pure_ (i := 13) (N := some 44) (v := ?_) (a' := ?_) #[true, true, true, true, true, true, true, true, true, true, true, true, true, true, false, false, false, false, false, false, false, false, false, false, false] rfl rfl (any_of HT_.out (by kernel_rfl)) (fun _ _ _ h => h) (Or.inl ⟨by rfl, ?_⟩) ?_ ?_
    rotate_left
    · intro w'
      go_simp
      with_reducible rfl
    rotate_left
    · simp only [Act.put, List.setIfInBounds_toArray, List.set_cons_zero, List.set_cons_succ, i64_w, i32_w]
      rfl
    refine pure_ (i := 14) (N := some 45) (v := ?_) (a' := ?_) #[true, true, true, true, true, true, true, true, true, true, true, true, true, true, true, false, false, false, false, false, false, false, false, false, false] rfl rfl (any_of HT_.out (by kernel_rfl)) (fun _ _ _ h => h) (Or.inl ⟨by rfl, ?_⟩) ?_ ?_
    rotate_left
    · intro w'
      go_simp
      with_reducible rfl
    rotate_left
    · simp only [Act.put, List.setIfInBounds_toArray, List.set_cons_zero, List.set_cons_succ, i64_w, i32_w]
      rfl
    refine pure_ (i := 15) (N := some 46) (v := ?_) (a' := ?_) #[true, true, true, true, true, true, true, true, true, true, true, true, true, true, true, true, false, false, false, false, false, false, false, false, false] rfl rfl (any_of HT_.out (by kernel_rfl)) (fun _ _ _ h => h) (Or.inl ⟨by rfl, ?_⟩) ?_ ?_
    rotate_left
    · intro w'
      go_simp
      with_reducible rfl
    rotate_left
    · simp only [Act.put, List.setIfInBounds_toArray, List.set_cons_zero, List.set_cons_succ, i64_w, i32_w]
      rfl
    refine pure_ (i := 16) (N := some 47) (v := ?_) (a' := ?_) #[true, true, true, true, true, true, true, true, true, true, true, true, true, true, true, true, true, false, false, false, false, false, false, false, false] rfl rfl (any_of HT_.out (by kernel_rfl)) (fun _ _ _ h => h) (Or.inl ⟨by rfl, ?_⟩) ?_ ?_
    rotate_left
    · intro w'
      go_simp
      with_reducible rfl
    rotate_left
    · simp only [Act.put, List.setIfInBounds_toArray, List.set_cons_zero, List.set_cons_succ, i64_w, i32_w]
      rfl
    refine pure_ (i := 17) (N := some 48) (v := ?_) (a' := ?_) #[true, true, true, true, true, true, true, true, true, true, true, true, true, true, true, true, true, true, false, false, false, false, false, false, false] rfl rfl (any_of HT_.out (by kernel_rfl)) (fun _ _ _ h => h) (Or.inl ⟨by rfl, ?_⟩) ?_ ?_
    rotate_left
    · intro w'
      go_simp
      with_reducible rfl
    rotate_left
    · simp only [Act.put, List.setIfInBounds_toArray, List.set_cons_zero, List.set_cons_succ, i64_w, i32_w]
      rfl
    refine pure_ (i := 18) (N := some 49) (v := ?_) (a' := ?_) #[true, true, true, true, true, true, true, true, true, true, true, true, true, true, true, true, true, true, true, false, false, false, false, false, false] rfl rfl (any_of HT_.out (by kernel_rfl)) (fun _ _ _ h => h) (Or.inl ⟨by rfl, ?_⟩) ?_ ?_
    rotate_left
    · intro w'
      go_simp
      with_reducible rfl
    rotate_left
    · simp only [Act.put, List.setIfInBounds_toArray, List.set_cons_zero, List.set_cons_succ, i64_w, i32_w]
      rfl
    refine pure_ (i := 19) (N := some 50) (v := ?_) (a' := ?_) #[true, true, true, true, true, true, true, true, true, true, true, true, true, true, true, true, true, true, true, true, false, false, false, false, false] rfl rfl (any_of HT_.out (by kernel_rfl)) (fun _ _ _ h => h) (Or.inl ⟨by rfl, ?_⟩) ?_ ?_
    rotate_left
    · intro w'
      go_simp
      with_reducible rfl
    rotate_left
    · simp only [Act.put, List.setIfInBounds_toArray, List.set_cons_zero, List.set_cons_succ, i64_w, i32_w]
      rfl
    refine pure_ (i := 20) (N := some 51) (v := ?_) (a' := ?_) #[true, true, true, true, true, true, true, true, true, true, true, true, true, true, true, true, true, true, true, true, true, false, false, false, false] rfl rfl (any_of HT_.out (by kernel_rfl)) (fun _ _ _ h => h) (Or.inl ⟨by rfl, ?_⟩) ?_ ?_
    rotate_left
    · intro w'
      go_simp
      with_reducible rfl
    rotate_left
    · simp only [Act.put, List.setIfInBounds_toArray, List.set_cons_zero, List.set_cons_succ, i64_w, i32_w]
      rfl
    refine pure_ (i := 21) (N := some 52) (v := ?_) (a' := ?_) #[true, true, true, true, true, true, true, true, true, true, true, true, true, true, true, true, true, true, true, true, true, true, false, false, false] rfl rfl (any_of HT_.out (by kernel_rfl)) (fun _ _ _ h => h) (Or.inl ⟨by rfl, ?_⟩) ?_ ?_
    rotate_left
    · intro w'
      go_simp
      with_reducible rfl
    rotate_left
    · simp only [Act.put, List.setIfInBounds_toArray, List.set_cons_zero, List.set_cons_succ, i64_w, i32_w]
      rfl
    refine pure_ (i := 22) (N := some 53) (v := ?_) (a' := ?_) #[true, true, true, true, true, true, true, true, true, true, true, true, true, true, true, true, true, true, true, true, true, true, true, false, false] rfl rfl (any_of HT_.out (by kernel_rfl)) (fun _ _ _ h => h) (Or.inl ⟨by rfl, ?_⟩) ?_ ?_
    rotate_left
    · intro w'
      go_simp
      with_reducible rfl
    rotate_left
    · simp only [Act.put, List.setIfInBounds_toArray, List.set_cons_zero, List.set_cons_succ, i64_w, i32_w]
      rfl
    refine pure_ (i := 23) (N := some 54) (v := ?_) (a' := ?_) #[true, true, true, true, true, true, true, true, true, true, true, true, true, true, true, true, true, true, true, true, true, true, true, true, false] rfl rfl (any_of HT_.out (by kernel_rfl)) (fun _ _ _ h => h) (Or.inl ⟨by rfl, ?_⟩) ?_ ?_
    rotate_left
    · intro w'
      go_simp
      with_reducible rfl
    rotate_left
    · simp only [Act.put, List.setIfInBounds_toArray, List.set_cons_zero, List.set_cons_succ, i64_w, i32_w]
      rfl
    refine pure_ (i := 24) (N := some 55) (v := ?_) (a' := ?_) #[true, true, true, true, true, true, true, true, true, true, true, true, true, true, true, true, true, true, true, true, true, true, true, true, true] rfl rfl (any_of HT_.out (by kernel_rfl)) (fun _ _ _ h => h) (Or.inl ⟨by rfl, ?_⟩) ?_ ?_
    rotate_left
    · intro w'
      go_simp
      with_reducible rfl
    rotate_left
    · simp only [Act.put, List.setIfInBounds_toArray, List.set_cons_zero, List.set_cons_succ, i64_w, i32_w]
      rfl
    refine done_ (done_of HT_.out (by kernel_rfl)) ?_
    have HBx := Lib.hid (below_step HB5.out hHc)
    clear v0 v1 hHc HC4' HC5 HSB HSE HSX hS
    go_wp2_with fail
    (with_reducible refine (bytes73 _ B n d bs HN.out (by omega) (Kd.C_below HD.out HBx.out)).mono ?_)
    rintro e w11 ⟨A11, n11, c11, rfl, HN11, hc11, HR11, hb11⟩
    have HB11 := Lib.hid (below_step HBx.out hb11)
    clear hb11
    have hn11 : n11 ≤ 1000000000000000 := by have := HN.out; have := HN11.out; omega
    have h12 := get81 w11 A11 n11 c11 bs at_ HN11.out hc11 hn11 (R_C HR11.out)
    have e11 : n11 = n := by have := HN.out; have := HN11.out; omega
    rw [e11] at h12
    cases hq : labW bs at_ with
    | none =>
      rw [hq] at h12
      have H12 := Lib.hid h12
      have HQ := Lib.hid hq
      subst e11
      clear h12 hq
      go_wp2_with fail
      (with_reducible refine H12.out.mono ?_)
      rintro e w12 ⟨rfl, hb12⟩
      have HB12 := Lib.hid (below_step HB11.out hb12)
      clear hb12 H12
      obtain ⟨V, eV⟩ : ∃ V, V = w12.alloc (.cells #[.slice B n11 d, .int .i64 at_, .bool false] 93) := ⟨_, rfl⟩
      have hX : RB V w12.heap.size B n11 d at_ false := by rw [eV]; exact blk_new w12 _
      have hBV : Below w12.heap.size w12 V := eV ▸ below_alloc (Below.refl _ _) _
      have h13 := rget83 w12 V w12.heap.size B n11 d bs at_ false HN.out hd (by omega) (Nat.le_refl _) hBV hX (Kd.C_below HD.out HB12.out)
      rw [if_neg (by decide), HQ.out] at h13
      have H13 := Lib.hid h13
      clear h13 hX hBV
      go_wp2_with fail
      rw [← eV]
      (with_reducible refine H13.out.mono ?_)
      rintro e w13 ⟨hb13, -, hres⟩
      obtain ⟨rfl, i, hRB⟩ : e = .returned (.slice none 0 0) ∧ ∃ i, RB w13 w12.heap.size B n11 d i true := by
        rcases hres with ⟨-, he, i, hRB⟩ | ⟨x, t, B', d', h, _⟩
        · exact ⟨he, i, hRB⟩
        · cases h
      have HB13 := Lib.hid (below_step HB12.out hb13)
      have g2 := hRB.c2
      clear hRB hb13 hres H13 eV
      go_wp2_with fail
      (with_reducible refine (awake68 _).mono ?_)
      rintro e w14 ⟨rfl, hb14⟩
      go_wp2
      go_ret
      exact ⟨rfl, below_step HB13.out hb14⟩
    | some q =>
      obtain ⟨x, t⟩ := q
      rw [hq] at h12
      have H12 := Lib.hid h12
      have HQ := Lib.hid hq
      have hx8 := chk_eight (labW_chk hq)
      subst e11
      clear h12 hq
      go_wp2_with fail
      (with_reducible refine H12.out.mono ?_)
      rintro e w12 ⟨⟨C12, d12, rfl, hd12, hC12⟩, hb12⟩
      have HC12 := Lib.hid hC12
      have HB12 := Lib.hid (below_step HB11.out hb12)
      clear hb12 H12 hC12
      obtain ⟨z, hz⟩ : ∃ z : Int, (n11 : Int) - (t.length : Nat) = z := ⟨_, rfl⟩
      rw [hz]
      obtain ⟨V, eV⟩ : ∃ V, V = w12.alloc (.cells #[.slice B n11 d, .int .i64 at_, .bool false] 93) := ⟨_, rfl⟩
      have hX : RB V w12.heap.size B n11 d at_ false := by rw [eV]; exact blk_new w12 _
      have hBV : Below w12.heap.size w12 V := eV ▸ below_alloc (Below.refl _ _) _
      have h13 := rget83 w12 V w12.heap.size B n11 d bs at_ false HN.out hd (by omega) (Nat.le_refl _) hBV hX (Kd.C_below HD.out HB12.out)
      rw [if_neg (by decide), HQ.out] at h13
      have H13 := Lib.hid h13
      have HZ := Lib.hid hz
      clear h13 hX hBV hz
      go_wp2_with fail
      rw [← eV]
      (with_reducible refine H13.out.mono ?_)
      rintro e w13 ⟨hb13, -, hres⟩
      obtain ⟨D13, d13, rfl, hd13, hC13, hRB⟩ : ∃ D d', e = .returned (.slice D x.length d') ∧ x.length ≤ d' ∧ Kd.C k68 w13 D x.length x ∧ RB w13 w12.heap.size B n11 d z false := by
        rcases hres with ⟨h, _⟩ | ⟨x', t', B', d', h, he, hd, hC', hRB⟩
        · cases h
        · simp only [Option.some.injEq, Prod.mk.injEq] at h
          obtain ⟨rfl, rfl⟩ := h
          rw [HZ.out] at hRB
          exact ⟨B', d', he, hd, hC', hRB⟩
      have HB13 := Lib.hid (below_step HB12.out hb13)
      have HC13 := Lib.hid hC13
      have HC12' := Lib.hid (Kd.C_below HC12.out hb13)
      have HRB := Lib.hid hRB
      have g2 := hRB.c2
      have g1 := hRB.c1
      clear hb13 hres H13 eV hC13 hRB HC12
      go_wp2_with fail
      (with_reducible refine (Lb.sameLab67 _ x C12 d12 D13 d13 (by omega) HC12'.out HC13.out).mono ?_)
      rintro e w14 ⟨rfl, hb14⟩
      have g3 := (HRB.out.below hb14).c1
      have HB14 := Lib.hid (below_step HB13.out hb14)
      go_wp2_with fail
      (with_reducible refine (awake68 _).mono ?_)
      rintro e w15 ⟨rfl, hb15⟩
      go_wp2
      go_ret
      exact ⟨rfl, below_step HB14.out hb15⟩
  | false =>
    rw [hk] at h58
    clear hk
    go_enter Try.func23, Try.ntmps23
    go_wp2_with fail
    (with_reducible refine h58.out.mono ?_)
    rintro e w1 ⟨rfl, hb1⟩
    clear h58
    have HBx := Lib.hid hb1
    clear hb1
    go_wp2_with fail
    (with_reducible refine (bytes73 _ B n d bs HN.out (by omega) (Kd.C_below HD.out HBx.out)).mono ?_)
    rintro e w11 ⟨A11, n11, c11, rfl, HN11, hc11, HR11, hb11⟩
    have HB11 := Lib.hid (below_step HBx.out hb11)
    clear hb11
    have hn11 : n11 ≤ 1000000000000000 := by have := HN.out; have := HN11.out; omega
    have h12 := get81 w11 A11 n11 c11 bs at_ HN11.out hc11 hn11 (R_C HR11.out)
    have e11 : n11 = n := by have := HN.out; have := HN11.out; omega
    rw [e11] at h12
    cases hq : labW bs at_ with
    | none =>
      rw [hq] at h12
      have H12 := Lib.hid h12
      have HQ := Lib.hid hq
      subst e11
      clear h12 hq
      go_wp2_with fail
      (with_reducible refine H12.out.mono ?_)
      rintro e w12 ⟨rfl, hb12⟩
      have HB12 := Lib.hid (below_step HB11.out hb12)
      clear hb12 H12
      obtain ⟨V, eV⟩ : ∃ V, V = w12.alloc (.cells #[.slice B n11 d, .int .i64 at_, .bool false] 93) := ⟨_, rfl⟩
      have hX : RB V w12.heap.size B n11 d at_ false := by rw [eV]; exact blk_new w12 _
      have hBV : Below w12.heap.size w12 V := eV ▸ below_alloc (Below.refl _ _) _
      have h13 := rget83 w12 V w12.heap.size B n11 d bs at_ false HN.out hd (by omega) (Nat.le_refl _) hBV hX (Kd.C_below HD.out HB12.out)
      rw [if_neg (by decide), HQ.out] at h13
      have H13 := Lib.hid h13
      clear h13 hX hBV
      go_wp2_with fail
      rw [← eV]
      (with_reducible refine H13.out.mono ?_)
      rintro e w13 ⟨hb13, -, hres⟩
      obtain ⟨rfl, i, hRB⟩ : e = .returned (.slice none 0 0) ∧ ∃ i, RB w13 w12.heap.size B n11 d i true := by
        rcases hres with ⟨-, he, i, hRB⟩ | ⟨x, t, B', d', h, _⟩
        · exact ⟨he, i, hRB⟩
        · cases h
      have HB13 := Lib.hid (below_step HB12.out hb13)
      have g2 := hRB.c2
      clear hRB hb13 hres H13 eV
      go_wp2_with fail
      (with_reducible refine (awake68 _).mono ?_)
      rintro e w14 ⟨rfl, hb14⟩
      go_wp2
      go_ret
      exact ⟨rfl, below_step HB13.out hb14⟩
    | some q =>
      obtain ⟨x, t⟩ := q
      rw [hq] at h12
      have H12 := Lib.hid h12
      have HQ := Lib.hid hq
      have hx8 := chk_eight (labW_chk hq)
      subst e11
      clear h12 hq
      go_wp2_with fail
      (with_reducible refine H12.out.mono ?_)
      rintro e w12 ⟨⟨C12, d12, rfl, hd12, hC12⟩, hb12⟩
      have HC12 := Lib.hid hC12
      have HB12 := Lib.hid (below_step HB11.out hb12)
      clear hb12 H12 hC12
      obtain ⟨z, hz⟩ : ∃ z : Int, (n11 : Int) - (t.length : Nat) = z := ⟨_, rfl⟩
      rw [hz]
      obtain ⟨V, eV⟩ : ∃ V, V = w12.alloc (.cells #[.slice B n11 d, .int .i64 at_, .bool false] 93) := ⟨_, rfl⟩
      have hX : RB V w12.heap.size B n11 d at_ false := by rw [eV]; exact blk_new w12 _
      have hBV : Below w12.heap.size w12 V := eV ▸ below_alloc (Below.refl _ _) _
      have h13 := rget83 w12 V w12.heap.size B n11 d bs at_ false HN.out hd (by omega) (Nat.le_refl _) hBV hX (Kd.C_below HD.out HB12.out)
      rw [if_neg (by decide), HQ.out] at h13
      have H13 := Lib.hid h13
      have HZ := Lib.hid hz
      clear h13 hX hBV hz
      go_wp2_with fail
      rw [← eV]
      (with_reducible refine H13.out.mono ?_)
      rintro e w13 ⟨hb13, -, hres⟩
      obtain ⟨D13, d13, rfl, hd13, hC13, hRB⟩ : ∃ D d', e = .returned (.slice D x.length d') ∧ x.length ≤ d' ∧ Kd.C k68 w13 D x.length x ∧ RB w13 w12.heap.size B n11 d z false := by
        rcases hres with ⟨h, _⟩ | ⟨x', t', B', d', h, he, hd, hC', hRB⟩
        · cases h
        · simp only [Option.some.injEq, Prod.mk.injEq] at h
          obtain ⟨rfl, rfl⟩ := h
          rw [HZ.out] at hRB
          exact ⟨B', d', he, hd, hC', hRB⟩
      have HB13 := Lib.hid (below_step HB12.out hb13)
      have HC13 := Lib.hid hC13
      have HC12' := Lib.hid (Kd.C_below HC12.out hb13)
      have HRB := Lib.hid hRB
      have g2 := hRB.c2
      have g1 := hRB.c1
      clear hb13 hres H13 eV hC13 hRB HC12
      go_wp2_with fail
      (with_reducible refine (Lb.sameLab67 _ x C12 d12 D13 d13 (by omega) HC12'.out HC13.out).mono ?_)
      rintro e w14 ⟨rfl, hb14⟩
      have g3 := (HRB.out.below hb14).c1
      have HB14 := Lib.hid (below_step HB13.out hb14)
      go_wp2_with fail
      (with_reducible refine (awake68 _).mono ?_)
      rintro e w15 ⟨rfl, hb15⟩
      go_wp2
      go_ret
      exact ⟨rfl, below_step HB14.out hb15⟩
end
end Go.Proofs.Yteafilojjdfllaa
