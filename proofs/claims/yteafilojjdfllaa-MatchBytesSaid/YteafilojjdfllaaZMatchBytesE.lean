/- A part of the proof of MatchBytes. No condition. -/
import Derived.Lib.AppendStr
import Derived.Test.YteafilojjdfllaaZMatchBytesD
section
namespace Go.Proofs.Yteafilojjdfllaa
open Go Go.RowKit Go.Proofs.YteafilojjdfllaaW.PrintWords Go.Proofs.YteafilojjdfllaaW.PrintLast Go.Proofs.YteafilojjdfllaaW.PrintMore Go.Proofs.Yteafilojjdfllaa.PAll
set_option linter.unusedVariables false
set_option linter.unusedSimpArgs false
def IHgot (w0 : World) (g gn : Nat) (A : Option Addr) (n c : Nat) (bs : List UInt8) (d : Nat) (dz : Int) : Prop :=
 ∀ (w : World) (at_ : Int) (left : Nat) (nz : Int), left ≤ 64 → Below w0.heap.size w0 w → RB w g A n c at_ false → NB w gn nz → nz = 64 - (left : Int) → Calls Try.prog 141 #[.pointer (some ⟨g, 0, none⟩), .pointer (some ⟨gn, 0, none⟩), .int .i64 dz] w (GotPost w0 w g gn A n c (GotQ false d left bs at_))
theorem got_any {w0 w w' : World} {g gn n c : Nat} {A : Option Addr} {Q : Option (S25 × Nat × List UInt8)} {e : Ending} (h : GotPost w0 w g gn A n c Q e w') : ∃ x0 x1 x2 B3 m3 e3 B4 m4 e4 i5 bb5 nz5, e = .returned (.agg #[.int .i64 x0, .string x1, .string x2, .slice B3 m3 e3, .slice B4 m4 e4]) ∧ Below w0.heap.size w0 w' ∧ KeepBut w w' g (some gn) ∧ RB w' g A n c i5 bb5 ∧ NB w' gn nz5 ∧ Hid ((bb5 = true ∧ Q = none) ∨ (bb5 = false ∧ ∃ (m : S25) (l : Nat) (r : List UInt8), Q = some (m, l, r) ∧ x0 = m.f0 ∧ x1 = m.f1 ∧ x2 = m.f2 ∧ m3 = m.f3.length ∧ m4 = m.f4.length ∧ MF w' (fun b => w.heap.size ≤ b ∧ b < w'.heap.size) m B3 e3 B4 e4 ∧ i5 = (n : Int) - (r.length : Nat) ∧ nz5 = 64 - (l : Int))) := by
 obtain ⟨h1, h2, ⟨h3, ⟨x0, x1, x2, A3, n3, c3, A4, n4, c4, rfl⟩, ⟨i, h4⟩, k, h5⟩ | ⟨m, l, r, A3, c3, A4, c4, h3, rfl, h4, h5, h6⟩⟩ := h
 ·exact ⟨x0, x1, x2, A3, n3, c3, A4, n4, c4, i, true, k, rfl, h1, h2, h4, h5, Lib.hid (Or.inl ⟨rfl, h3⟩)⟩
 ·exact ⟨_, _, _, A3, _, c3, A4, _, c4, _, false, _, rfl, h1, h2, h5, h6, Lib.hid (Or.inr ⟨rfl, m, l, r, h3, rfl, rfl, rfl, rfl, rfl, h4, rfl, rfl⟩)⟩
theorem GotQ_at {bs r : List UInt8} {j d left : Nat} (hr : bs.drop j = r) : GotQ false d left bs (j : Int) = decM d left r := by
 unfold GotQ
 rw [if_neg (by simp), Int.toNat_natCast, hr]
set_option maxRecDepth 100000 in
set_option maxHeartbeats 16000000 in
/-- kids. -/
theorem got141g5 (w0 w : World) (g gn : Nat) (A : Option Addr) (n c : Nat) (bs : List UInt8) (at_ : Int) (left d : Nat) (hl : left ≤ 63) (hd8 : d ≤ 7) (r : List UInt8) (j : Nat) (hnc : n ≤ c) (hj : (n : Int) - (r.length : Nat) = (j : Int)) (hr : bs.drop j = r) (hq0 : getW bs at_ = some (5, r)) (hn : bs.length = n) (hnl : n ≤ 1000000000000000) (hg : w0.heap.size ≤ g) (hgn : w0.heap.size ≤ gn) (hne : g ≠ gn) (hB : Below w0.heap.size w0 w) (hS : RB w g A n c at_ false) (nz : Int) (hN : NB w gn nz) (hnz : nz = 63 - (left : Int)) (hC0 : (Kd.int .u8).C w0 A bs.length (bys bs)) (dz : Int) (hdz : dz = 8 - (d : Int)) (ih : IHgot w0 g gn A n c bs d (dz + 1)) :
  Calls Try.prog 141 #[.pointer (some ⟨g, 0, none⟩), .pointer (some ⟨gn, 0, none⟩), .int .i64 dz] w (GotPost w0 w g gn A n c (GotQ false (d + 1) (left + 1) bs at_)) := by
 have IH := Lib.hid ih
 clear ih
 have hQ : GotQ false (d + 1) (left + 1) bs at_ = (match decV 0 0 r with | none => none | some (k, r3) => if k ≤ 64 then (decML d left k r3).map (fun q => ((⟨5, ⟨#[]⟩, ⟨#[]⟩, [], q.1⟩ : S25), q.2)) else none) := by
  unfold getW at hq0
  unfold GotQ
  split
  ·next h =>
   rcases h with h | h
   ·cases h
   ·rw [if_pos h] at hq0; cases hq0
  ·next h =>
   have hi : ¬ at_ < 0 := fun e => h (Or.inr e)
   rw [if_neg hi] at hq0
   rw [decM, hq0]
   simp only
   rw [if_neg (by decide), if_neg (by decide), if_neg (by decide), if_pos (by decide)]
   all_goals
    cases decV 0 0 r with
    | none => rfl
    | some q2 => rfl
 obtain ⟨Q, eQ⟩ : ∃ Q, GotQ false (d + 1) (left + 1) bs at_ = Q := ⟨_, rfl⟩
 rw [eQ]
 have HQ := Lib.hid (eQ.symm.trans hQ)
 have HN := Lib.hid hn
 have HC0 := Lib.hid hC0
 have HR := Lib.hid hr
 have hgl := hS.lt
 have hgnl := blk_lt hN
 have hne2 := hne.symm
 obtain ⟨nz1, hnz1⟩ : ∃ nz1, nz + 1 = nz1 := ⟨_, rfl⟩
 have hw1 : wrap64 (nz + 1) = nz1 := by unfold wrap64; omega
 have hN2 : NB (w.alloc (.cells Z5 25)) gn nz := (Below.heap_alloc _ _ _ hgnl).trans hN
 have hS2 : RB (w.alloc (.cells Z5 25)) g A n c at_ false := (Below.heap_alloc _ _ _ hgl).trans hS
 have hS3 : RB ((w.alloc (.cells Z5 25)).setCell ⟨gn, 0, none⟩ (.int .i64 nz1)) g A n c at_ false := (Below.heap_setCell _ _ _ _ hne).trans hS2
 have m0 := blk_cell hN2 0
 have mz0 := blk_frozen hN2 0
 simp only [List.getElem?_toArray, List.getElem?_cons_zero] at m0
 have t1 : ¬ (64 : Int) < nz1 := by omega
 have t2 : decide ((64 : Int) < nz1) = false := decide_eq_false t1
 have t3 : ¬ (8 : Int) < dz := by omega
 have t4 : decide ((8 : Int) < dz) = false := decide_eq_false t3
 obtain ⟨V, eV⟩ : ∃ V, V = (w.alloc (.cells Z5 25)).setCell ⟨gn, 0, none⟩ (.int .i64 nz1) := ⟨_, rfl⟩
 have hBV : Below w0.heap.size w0 V := by rw [eV]; exact (below_alloc hB _).setCell hgn _
 have hKV : KeepBut w V g (some gn) := by
  rw [eV]
  refine ⟨by simp, fun i hi h1 h2 => ?_⟩
  have h3 : i ≠ gn := fun e => h2 (by rw [e])
  exact (Below.heap_setCell _ _ _ _ h3).trans (Below.heap_alloc _ _ _ hi)
 have hSV : RB V g A n c at_ false := by rw [eV]; exact hS3
 have hNV : NB V gn nz1 := by rw [eV]; exact (blk_set hN2 0 _).trans (by rfl)
 have hZV : V.heap[w.heap.size]? = some (.cells Z5 25 (0, 0)) := by rw [eV]; exact (Below.heap_setCell _ _ _ _ (by simp; omega)).trans (blk_new w _)
 have hsV : V.heap.size = w.heap.size + 1 := by rw [eV]; simp
 have h1 := num164y w0 V g A n c bs at_ false 5 j r (by unfold numW; rw [if_neg (by decide)]; exact hq0) hj hn hnl hg hBV hSV hC0
 have H1 := Lib.hid h1
 have HK := Lib.hid hKV
 have HNV := Lib.hid hNV
 have HZV := Lib.hid hZV
 have HW := Lib.hid hB.size
 have HG := Lib.hid (And.intro hgl (And.intro hgnl hsV))
 have HNZ := Lib.hid (show nz1 = 64 - (left : Int) by omega)
 have HDZ := Lib.hid hdz
 clear hQ hq0 eQ hr hS hS2 hS3 hN hN2 hgl hgnl hBV hKV hSV hNV hZV h1 hC0 hn hdz hnz hsV hB hnz1
 obtain ⟨K, eK⟩ : ∃ K, w.heap.size = K := ⟨_, rfl⟩
 have EK := Lib.hid eK.symm
 go_enter Try.func141, Try.ntmps141
 go_wp2_with fail
 rw [← eV]
 refine H1.out.mono ?_
 rintro e w1 ⟨rfl, hB1, hK1, hR1⟩
 obtain ⟨hg1, hg2, hg3⟩ := HG.out
 have hZ1 := (hK1.2 _ (blk_lt HZV.out) (by omega) (by simp)).trans HZV.out
 rw [eK] at hZ1
 have hN1 : NB w1 gn nz1 := (hK1.2 gn (blk_lt HNV.out) hne2 (by simp)).trans HNV.out
 have hs1 := hK1.1
 have s2 := hR1.c2
 have hKl := blk_lt hZ1
 obtain ⟨W, eW⟩ : ∃ W, W = w1.alloc (.cells #[.int .i64 5, .string ⟨#[]⟩, .string ⟨#[]⟩, .slice none 0 0, .slice none 0 0] 25) := ⟨_, rfl⟩
 obtain ⟨G, eG⟩ : ∃ G, w1.heap.size = G := ⟨_, rfl⟩
 have b5 : W.heap[G]? = some (.cells #[.int .i64 5, .string ⟨#[]⟩, .string ⟨#[]⟩, .slice none 0 0, .slice none 0 0] 25 (0, 0)) := by rw [eW, ← eG]; exact blk_new w1 _
 have b4 : W.heap[K]? = some (.cells Z5 25 (0, 0)) := by rw [eW]; exact (Below.heap_alloc _ _ _ hKl).trans hZ1
 have hBW : Below w0.heap.size w0 W := by rw [eW]; exact below_alloc hB1 _
 have hKW : KeepBut w W g (some gn) := by rw [eW]; exact keep_two2 HK.out (keep_two2 (keep_wk hK1) (keep_wk (KeepBut.of_below (below_alloc (Below.refl w1.heap.size w1) _) g none)))
 have hRW : RB W g A n c (j : Int) false := by rw [eW]; exact (Below.heap_alloc _ _ _ hR1.lt).trans hR1
 have hNW : NB W gn nz1 := by rw [eW]; exact (Below.heap_alloc _ _ _ (blk_lt hN1)).trans hN1
 have HGW := Lib.hid (show g < K ∧ gn < K ∧ K < G ∧ W.heap.size = G + 1 from ⟨by omega, by omega, by omega, by rw [eW, World.size_alloc, eG]⟩)
 have HGK := Lib.hid (show w0.heap.size ≤ G by have := HW.out; omega)
 clear eK hB1 hK1 hR1 hN1 hZ1 hKl hs1 eV H1 HK HZV HNV HG hg1 hg2 hg3
 have hdw : wrap64 (dz + 1) = dz + 1 := by have := HDZ.out; unfold wrap64; omega
 have h3 := cnt120 w0 W g A n c bs (j : Int) false 64 64 rfl (by decide) HN.out hnl hg hBW hRW HC0.out
 have H3 := Lib.hid h3
 have E5 := Lib.hid b5
 have E4 := Lib.hid b4
 have HKW := Lib.hid hKW
 have HNW := Lib.hid hNW
 have HRr := Lib.hid (show j ≤ n by omega)
 clear b5 b4 hKW hBW hRW hNW hj h3
 go_wp2_with fail
 rw [← eW]
 refine H3.out.mono ?_
 rintro e w4 ⟨k, i2, bb2, rfl, hB4, hK4, hR4, hk64, HT2⟩
 obtain ⟨hg1, hg2, hg3, hg4⟩ := HGW.out
 have d5 := (hK4.2 G (by omega) (by omega) (by simp)).trans E5.out
 have d4 := (hK4.2 K (by omega) (by omega) (by simp)).trans E4.out
 have dn : NB w4 gn nz1 := (hK4.2 gn (by omega) hne2 (by simp)).trans HNW.out
 have hK4' := keep_two2 HKW.out (keep_wk hK4)
 obtain ⟨base, hbase⟩ : ∃ base, w4.heap.size = base := ⟨_, rfl⟩
 have hs4 := hK4.1
 have HGS := Lib.hid (show g < K ∧ gn < K ∧ K < G ∧ G < base from ⟨hg1, hg2, hg3, by omega⟩)
 have HS0 : Hid ((bb2 = true ∧ Q = none) ∨ (bb2 = false ∧ ∃ (p : Nat) (rr : List UInt8), p ≤ n ∧ bs.drop p = rr ∧ i2 = (p : Int) ∧ Q = (decML d left k rr).map (fun q => ((⟨5, ⟨#[]⟩, ⟨#[]⟩, [], [] ++ q.1⟩ : S25), q.2)))) := by
  refine Lib.hid ?_
  rcases HT2.out with ⟨h2, h2b⟩ | ⟨r3, h2, h2i, h2b⟩
  ·refine Or.inl ⟨h2b, ?_⟩
   rw [countW_at HR.out] at h2
   rw [HQ.out]
   cases hv : decV 0 0 r with
   | none => rfl
   | some q =>
    rw [hv] at h2
    simp only at h2 ⊢
    split
    ·next hk =>
     rw [decML_short (by
      rcases Nat.lt_or_ge q.2.length q.1 with h | h
      ·exact h
      ·rw [if_pos ⟨hk, h⟩] at h2; cases h2)]
     rfl
    ·rfl
  ·rw [countW_at HR.out] at h2
   cases hv : decV 0 0 r with
   | none => rw [hv] at h2; cases h2
   | some q =>
    rw [hv] at h2
    simp only at h2
    split at h2
    ·next hk =>
     simp only [Option.some.injEq, Prod.mk.injEq] at h2
     obtain ⟨h3, h4⟩ := h2
     obtain ⟨p, hp1, hp2, hp3, hp4⟩ := decV_at HN.out HRr.out (by rw [HR.out]; exact hv)
     rw [h4] at hp3 hp4
     refine Or.inr ⟨h2b, p, r3, hp2, hp4, by rw [h2i, hp3], ?_⟩
     rw [HQ.out]
     simp only [hv]
     rw [if_pos hk.1, h3, h4]
     rfl
    ·cases h2
 have hw0b : w0.heap.size ≤ base := by have := HGK.out; omega
 clear hs4 hg1 hg2 hg3 hg4 H3 E4 E5 eW HT2 HQ HKW HNW HRr HR hK4 eG
 go_wp2
 go_loopw [13, 14] (fun u13 u14 wr => ∃ (i : Nat) (at2 : Int) (bb : Bool) (A4 : Option Addr) (n4 c4 : Nat) (nzr : Int), u13 = .int .i64 (i : Nat) ∧ i ≤ k ∧ wr.heap[G]? = some (.cells #[.int .i64 5, .string ⟨#[]⟩, .string ⟨#[]⟩, .slice none 0 0, .slice A4 n4 c4] 25 (0, 0)) ∧ wr.heap[K]? = some (.cells Z5 25 (0, 0)) ∧ NB wr gn nzr ∧ RB wr g A n c at2 bb ∧ Below w0.heap.size w0 wr ∧ KeepBut w wr g (some gn) ∧ base ≤ wr.heap.size ∧ Hid ((bb = true ∧ Q = none) ∨ (bb = false ∧ ∃ (p l2 : Nat) (ks : List S25) (cells : List Value) (rr : List UInt8), n4 = i ∧ ks.length = i ∧ l2 ≤ left ∧ nzr = 64 - (l2 : Int) ∧ p ≤ n ∧ bs.drop p = rr ∧ at2 = (p : Int) ∧ wr.ownsRow base 25 5 (.slice A4 i c4) i cells ∧ Reps (KR wr (Part base wr (.slice A4 i c4))) 5 ks cells ∧ Q = (decML d l2 (k - i) rr).map (fun q => ((⟨5, ⟨#[]⟩, ⟨#[]⟩, [], ks ++ q.1⟩ : S25), q.2)))))
  (fun u13 _ _ => k - (intOf u13).toNat)
 case atStart => exact ⟨0, i2, bb2, none, 0, 0, nz1, rfl, Nat.zero_le _, d5, d4, dn, hR4, hB4, hK4', Nat.le_of_eq hbase.symm, Lib.hid (HS0.out.imp id (fun ⟨h, p, rr, h1, h2, h3, h4⟩ => ⟨h, p, left, [], [], rr, rfl, rfl, Nat.le_refl _, HNZ.out, h1, h2, h3, World.ownsRow_nil _ _ _ _, by simpa using Reps.none _ _, h4⟩))⟩
 case round =>
  clear d5 d4 dn hR4 hB4 hK4' HS0 hbase
  obtain ⟨i, at2, bb, A4, n4, c4, nzr, rfl, hik, hXr, hPr, hNr, hRr, hBr, hKr, hSr, HST⟩ := hrel
  have HXr := Lib.hid hXr
  have HPr := Lib.hid hPr
  have HNr := Lib.hid hNr
  have HRr := Lib.hid hRr
  have HBr := Lib.hid hBr
  have HKr := Lib.hid hKr
  have HSr := Lib.hid hSr
  have r2 := hRr.c2
  obtain ⟨hg1, hg2, hg3, hg4⟩ := HGS.out
  have hGK : G ≠ K := by omega
  have hKG : K ≠ G := by omega
  clear hg1 hg2 hg3 hg4
  cases bb with
  | true =>
   have y0 := blk_cell hXr 0
   have z0 := blk_frozen hXr 0
   have y1 := blk_cell hXr 1
   have z1 := blk_frozen hXr 1
   have y2 := blk_cell hXr 2
   have z2 := blk_frozen hXr 2
   have y3 := blk_cell hXr 3
   have z3 := blk_frozen hXr 3
   have y4 := blk_cell hXr 4
   have z4 := blk_frozen hXr 4
   simp only [List.getElem?_toArray, List.getElem?_cons_zero, List.getElem?_cons_succ] at y0 y1 y2 y3 y4
   have yK0 := blk_cell hPr 0
   have zK0 := blk_frozen hPr 0
   have yK1 := blk_cell hPr 1
   have zK1 := blk_frozen hPr 1
   have yK2 := blk_cell hPr 2
   have zK2 := blk_frozen hPr 2
   have yK3 := blk_cell hPr 3
   have zK3 := blk_frozen hPr 3
   have yK4 := blk_cell hPr 4
   have zK4 := blk_frozen hPr 4
   simp only [List.getElem?_toArray, List.getElem?_cons_zero, List.getElem?_cons_succ] at yK0 yK1 yK2 yK3 yK4
   clear hXr hPr hNr hRr hBr hKr hSr
   have HQn := Lib.hid (show Q = none by
    rcases HST.out with ⟨-, h⟩ | ⟨h, -⟩
    ·exact h
    ·cases h)
   by_cases hlt : i < k
   all_goals (go_wp2; obtain ⟨hg1, hg2, hg3, hg4⟩ := HGS.out)
   all_goals
    obtain ⟨t1, t2, t3, t4, t5⟩ := got_tail (w0 := w0) (g := g) (gn := gn) (.int .i64 5) (.string ⟨#[]⟩) (.string ⟨#[]⟩) (.slice none 0 0) (.slice A4 n4 c4) EK.out HPr.out HW.out HBr.out HKr.out
    refine bodyPost_ret (results_single rfl (.cell K 25 _ (0, 0) _ rfl t1 Try.underlying25 rfl (by kernel_rfl) .nil)) rfl ?_
    rw [HQn.out]
    exact got_bad (by omega) (by omega) t2 t3 t4 HRr.out HNr.out
  | false =>
   obtain ⟨p, l2, ks, cells, rr, rfl, hvi, hl2, hnzr, hpn, hpr, rfl, hO3, hRp, hQ⟩ : ∃ (p l2 : Nat) (ks : List S25) (cells : List Value) (rr : List UInt8), n4 = i ∧ ks.length = i ∧ l2 ≤ left ∧ nzr = 64 - (l2 : Int) ∧ p ≤ n ∧ bs.drop p = rr ∧ at2 = (p : Int) ∧ wr.ownsRow base 25 5 (.slice A4 i c4) i cells ∧ Reps (KR wr (Part base wr (.slice A4 i c4))) 5 ks cells ∧ Q = (decML d l2 (k - i) rr).map (fun q => ((⟨5, ⟨#[]⟩, ⟨#[]⟩, [], ks ++ q.1⟩ : S25), q.2)) := by
    rcases HST.out with ⟨h, -⟩ | ⟨-, h⟩
    ·cases h
    ·exact h
   have HO3 := Lib.hid hO3
   have HQi := Lib.hid hQ
   have HRp := Lib.hid hRp
   have HIN := Lib.hid (And.intro hpn (And.intro hpr (And.intro hvi (And.intro hl2 hnzr))))
   by_cases hlt : n4 < k
   ·have h7 := IH.out wr (p : Int) l2 nzr (by omega) hBr hRr hNr hnzr
    rw [GotQ_at hpr] at h7
    have H7 := Lib.hid h7
    clear hXr hPr hNr hRr hBr hKr hSr hO3 hQ hpn hpr hvi HST h7 hl2 hnzr hRp
    go_wp2_with fail
    refine H7.out.mono ?_
    intro e w5 hp5
    clear H7
    obtain ⟨x0, x1, x2, B3, m3, e3, B4, m4, e4, i5, bb5, nz5, rfl, hB5, hK5, hR5, hN5, HT5⟩ := got_any hp5
    obtain ⟨hg1, hg2, hg3, hg4⟩ := HGS.out
    have hsr := HSr.out
    have f5 := (hK5.2 G (by omega) (by omega) (by simp; omega)).trans HXr.out
    have f4 := (hK5.2 K (by omega) (by omega) (by simp; omega)).trans HPr.out
    have hO5 : w5.ownsRow base 25 5 (.slice A4 n4 c4) n4 cells := own_move HO3.out (fun k hk => hK5.2 k (HO3.out.lt _ hk).2 (by have := (HO3.out.lt _ hk).1; omega) (by have := (HO3.out.lt _ hk).1; simp; omega))
    have hs5 := hK5.1
    obtain ⟨V5, eV5⟩ : ∃ V5, V5 = w5.alloc (.cells #[.int .i64 x0, .string x1, .string x2, .slice B3 m3 e3, .slice B4 m4 e4] 25) := ⟨_, rfl⟩
    have hBV5 : Below w5.heap.size w5 V5 := by rw [eV5]; exact below_alloc (Below.refl _ _) _
    have f5a := (hBV5.block G (blk_lt f5)).trans f5
    have f4a := (hBV5.block K (blk_lt f4)).trans f4
    have HO5 := Lib.hid (pw_own_below hO5 hBV5)
    have HB5 := Lib.hid (below_step hB5 hBV5)
    have HK5 := Lib.hid (keep_two2 HKr.out (keep_two2 hK5 (keep_wk (KeepBut.of_below hBV5 g none))))
    have HR5 := Lib.hid (hR5.below hBV5)
    have HN5 : Hid (NB V5 gn nz5) := Lib.hid ((hBV5.block gn (blk_lt hN5)).trans hN5)
    have F5 := Lib.hid f5a
    have F4 := Lib.hid f4a
    have HBV5 := Lib.hid hBV5
    have HV5S := Lib.hid (show V5.heap.size = w5.heap.size + 1 by rw [eV5, World.size_alloc])
    have HS5 := Lib.hid (show base ≤ V5.heap.size by have := hBV5.size; omega)
    have HK5' := Lib.hid hK5
    have HW5 := Lib.hid (show wr.heap.size ≤ w5.heap.size from hs5)
    have HLT := Lib.hid (fun k (hk : (Value.slice A4 n4 c4).ownBlock = some k) => HO3.out.lt _ hk)
    have y0 := blk_cell f5a 0
    have z0 := blk_frozen f5a 0
    have y1 := blk_cell f5a 1
    have z1 := blk_frozen f5a 1
    have y2 := blk_cell f5a 2
    have z2 := blk_frozen f5a 2
    have y3 := blk_cell f5a 3
    have z3 := blk_frozen f5a 3
    have y4 := blk_cell f5a 4
    have z4 := blk_frozen f5a 4
    simp only [List.getElem?_toArray, List.getElem?_cons_zero, List.getElem?_cons_succ] at y0 y1 y2 y3 y4
    rw [eV5] at y0 z0 y1 z1 y2 z2 y3 z3 y4 z4
    clear hB5 hK5 hR5 hN5 hO5 hBV5 f4 f5 f4a f5a hs5 hsr hg1 hg2 hg3 hg4 hp5
    go_wp2_with (at_builtin; rw [← eV5]; refine print_append_cells (w0 := V5) (W := V5) base rfl (.tmp 111) (.tmp 113) 23 25 (.agg Z5) 5 88 rfl Try.underlying23 infoM rfl (by decide) (by decide) (.slice A4 n4 c4) n4 cells [.int .i64 x0, .string x1, .string x2, .slice B3 m3 e3, .slice B4 m4 e4] rfl (by rw [HV5S.out]; rfl) rfl (by intro u hu; simp only [List.mem_cons, List.not_mem_nil, or_false] at hu; rcases hu with rfl | rfl | rfl | rfl | rfl <;> rfl) HO5.out (Below.refl _ _) HS5.out (by omega) ?_; intro v2 w6 hown6 hb6 hg6 hat6; obtain ⟨A2, c2, rfl⟩ := own_slice hown6; have hneG : some G ≠ (Value.slice A4 n4 c4).ownBlock := (fun e => by have := (HLT.out _ e.symm).1; have := HGS.out; omega); have q5 := (hg6.block G (blk_lt F5.out) hneG).trans F5.out; have q53 := blk_cell q5 4; have q5z := blk_frozen q5 4; have Q5 := Lib.hid q5; have HG6 := Lib.hid hg6; have HO6 := Lib.hid hown6; have HAT6 := Lib.hid hat6; clear hown6 hb6 hg6 hat6 q5 hneG; simp only [List.getElem?_toArray, List.getElem?_cons_zero, List.getElem?_cons_succ] at q53)
    go_roundw
    case rel =>
     obtain ⟨hg1, hg2, hg3, hg4⟩ := HGS.out
     have hl2 := HLT.out
     have hs5 := HS5.out
     have hs6 := HG6.out.size
     have hl5 := (HK5.out).1
     have hneK : some K ≠ (Value.slice A4 n4 c4).ownBlock := fun e => by have := (hl2 _ e.symm).1; omega
     have hneg : some g ≠ (Value.slice A4 n4 c4).ownBlock := fun e => by have := (hl2 _ e.symm).1; omega
     have hnegn : some gn ≠ (Value.slice A4 n4 c4).ownBlock := fun e => by have := (hl2 _ e.symm).1; omega
     have q4 := (HG6.out.block K (blk_lt F4.out) hneK).trans F4.out
     have qn : NB w6 gn nz5 := (HG6.out.block gn (blk_lt HN5.out) hnegn).trans HN5.out
     have qg : RB w6 g A n c i5 bb5 := (HG6.out.block g HR5.out.lt hneg).trans HR5.out
     have hB6 : Below w0.heap.size w0 w6 := HB5.out.grown HG6.out (by omega) (fun k hk => by have := (hl2 k hk).1; omega)
     have hK6 : KeepBut w w6 g (some gn) := ⟨by omega, fun i hi h1 h2 => (HG6.out.block i (by omega) (fun e => by have := (hl2 _ e.symm).1; have := EK.out; omega)).trans (HK5.out.2 i hi h1 h2)⟩
     have hnew : ∀ k, (Value.slice A2 (n4 + 1) c2).ownBlock = some k → k ≠ G := fun k hk => by have := (HO6.out.lt _ hk).1; omega
     have hX6 := (blk_set Q5.out 4 (.slice A2 (n4 + 1) c2))
     have hP6 : (w6.setCell ⟨G, 4, none⟩ (.slice A2 (n4 + 1) c2)).heap[K]? = some (.cells Z5 25 (0, 0)) := (Below.heap_setCell _ _ _ _ (show K ≠ G by omega)).trans q4
     have hN6 : NB (w6.setCell ⟨G, 4, none⟩ (.slice A2 (n4 + 1) c2)) gn nz5 := (Below.heap_setCell _ _ _ _ (show gn ≠ G by omega)).trans qn
     have hR6 : RB (w6.setCell ⟨G, 4, none⟩ (.slice A2 (n4 + 1) c2)) g A n c i5 bb5 := (Below.heap_setCell _ _ _ _ (show g ≠ G by omega)).trans qg
     have hB6' : Below w0.heap.size w0 (w6.setCell ⟨G, 4, none⟩ (.slice A2 (n4 + 1) c2)) := hB6.setCell HGK.out _
     have hK6' : KeepBut w (w6.setCell ⟨G, 4, none⟩ (.slice A2 (n4 + 1) c2)) g (some gn) := ⟨by have := hK6.1; simpa using this, fun i hi h1 h2 => (Below.heap_setCell _ _ _ _ (show i ≠ G by have := EK.out; omega)).trans (hK6.2 i hi h1 h2)⟩
     have hO6 : (w6.setCell ⟨G, 4, none⟩ (.slice A2 (n4 + 1) c2)).ownsRow base 25 5 (.slice A2 (n4 + 1) c2) (n4 + 1) _ := own_move HO6.out (fun k hk => Below.heap_setCell _ _ _ _ (hnew k hk))
     have hfar : ∀ b, b < V5.heap.size → (Value.slice A4 n4 c4).ownBlock ≠ some b → (Value.slice A2 (n4 + 1) c2).ownBlock ≠ some b := fun b hb hne e => by
      rcases HAT6.out with h | ⟨b', h, hb'⟩
      ·exact hne (h.symm.trans e)
      ·rw [h] at e; cases e; omega
     have hmove : ∀ b, b < w5.heap.size → (Value.slice A4 n4 c4).ownBlock ≠ some b → b ≠ G → (w6.setCell ⟨G, 4, none⟩ (.slice A2 (n4 + 1) c2)).heap[b]? = w5.heap[b]? := fun b hb h1 h2 => (Below.heap_setCell _ _ _ _ h2).trans ((HG6.out.block b (by have := HBV5.out.size; omega) (fun e => h1 e.symm)).trans (HBV5.out.block b hb))
     have hs6' : (w6.setCell ⟨G, 4, none⟩ (.slice A2 (n4 + 1) c2)).heap.size = w6.heap.size := by simp
     obtain ⟨hpn, hpr, hvi, hl2', hnzr⟩ := HIN.out
     refine ⟨n4 + 1, i5, bb5, A2, n4 + 1, c2, nz5, by go_num, by omega, hX6.trans (by rfl), hP6, hN6, hR6, hB6', hK6', by omega, Lib.hid ?_⟩
     rcases HT5.out with ⟨h1, h1b⟩ | ⟨h1, kid, l3, r4, h2, rfl, rfl, rfl, rfl, rfl, hMF5, h3, h4⟩
     ·exact Or.inl ⟨h1, by rw [HQi.out, decML_none1 (by omega) h1b]; rfl⟩
     ·obtain ⟨p2, hp2n, hp2I, hr4⟩ := decM_suffix_at (d := d) (l := l2) (m := kid) (l' := l3) (by rw [hpr]; exact decM_suf _ _ _ _ _ _ h2) HN.out hpn
      have hReps : Reps (KR (w6.setCell ⟨G, 4, none⟩ (.slice A2 (n4 + 1) c2)) (Part base (w6.setCell ⟨G, 4, none⟩ (.slice A2 (n4 + 1) c2)) (.slice A2 (n4 + 1) c2))) 5 (ks ++ [kid]) (cells ++ [.int .i64 kid.f0, .string kid.f1, .string kid.f2, .slice B3 kid.f3.length e3, .slice B4 kid.f4.length e4]) := by
       have hv5 := HBV5.out.size
       have hw5 := HW5.out
       have hsr := HSr.out
       refine Reps.snoc (HRp.out.imp_ (fun p c hk => hk.move (fun b hb => ?_))) ⟨B3, e3, B4, e4, rfl, hMF5.move (fun b hb => ?_)⟩ rfl
       ·obtain ⟨b1, b2, b3⟩ := hb
        refine ⟨⟨b1, by omega, hfar b (by omega) b3⟩, (hmove b (by omega) b3 (by omega)).trans (HK5'.out.2 b b2 (by omega) (by simp; omega))⟩
       ·obtain ⟨b1, b2⟩ := hb
        have b3 : (Value.slice A4 n4 c4).ownBlock ≠ some b := fun e => by have := (hl2 b e).2; omega
        exact ⟨⟨by omega, by omega, hfar b (by omega) b3⟩, hmove b b2 b3 (by omega)⟩
      refine Or.inr ⟨h1, p2, l3, ks ++ [kid], _, r4, rfl, by rw [List.length_append, hvi]; rfl, by have := (decM_len _ _ _ _ _ _ h2).2; omega, h4, hp2n, hr4, by rw [h3, hp2I], hO6, hReps, ?_⟩
      rw [HQi.out, decML_step (fun l t => ((⟨5, ⟨#[]⟩, ⟨#[]⟩, [], l⟩ : S25), t)) (by omega) h2, show k - n4 - 1 = k - (n4 + 1) by omega]
    case measure => simp [intOf]; omega
   ·obtain rfl : n4 = k := by omega
    have y0 := blk_cell hXr 0
    have z0 := blk_frozen hXr 0
    have y1 := blk_cell hXr 1
    have z1 := blk_frozen hXr 1
    have y2 := blk_cell hXr 2
    have z2 := blk_frozen hXr 2
    have y3 := blk_cell hXr 3
    have z3 := blk_frozen hXr 3
    have y4 := blk_cell hXr 4
    have z4 := blk_frozen hXr 4
    simp only [List.getElem?_toArray, List.getElem?_cons_zero, List.getElem?_cons_succ] at y0 y1 y2 y3 y4
    have yK0 := blk_cell hPr 0
    have zK0 := blk_frozen hPr 0
    have yK1 := blk_cell hPr 1
    have zK1 := blk_frozen hPr 1
    have yK2 := blk_cell hPr 2
    have zK2 := blk_frozen hPr 2
    have yK3 := blk_cell hPr 3
    have zK3 := blk_frozen hPr 3
    have yK4 := blk_cell hPr 4
    have zK4 := blk_frozen hPr 4
    simp only [List.getElem?_toArray, List.getElem?_cons_zero, List.getElem?_cons_succ] at yK0 yK1 yK2 yK3 yK4
    clear hXr hPr hNr hRr hBr hKr hSr hO3 hQ hpn hpr hvi HST hl2 hnzr hRp
    go_wp2
    obtain ⟨hg1, hg2, hg3, hg4⟩ := HGS.out
    obtain ⟨hpn, hpr, hvi, hl2, hnzr⟩ := HIN.out
    have hO := HO3.out
    have hRQ := HRp.out
    rw [← hvi] at hO hRQ
    obtain ⟨F3, gg3, F4, gg4, ev3, ev4, hMF⟩ := MF.of_rows (m := ⟨5, ⟨#[]⟩, ⟨#[]⟩, [], ks⟩) (lo' := base) (World.ownsRow_nil _ _ _ _) hO hRQ (Nat.le_refl _)
    simp only at ev3 ev4
    cases ev3
    cases ev4
    obtain ⟨t1, t2, t3, t4, t5⟩ := got_tail (w0 := w0) (g := g) (gn := gn) (.int .i64 5) (.string ⟨#[]⟩) (.string ⟨#[]⟩) (.slice none 0 0) (.slice A4 n4 c4) EK.out HPr.out HW.out HBr.out HKr.out
    refine bodyPost_ret (results_single rfl (.cell K 25 _ (0, 0) _ rfl t1 Try.underlying25 rfl (by kernel_rfl) .nil)) rfl ?_
    have hQf : Q = some (⟨5, ⟨#[]⟩, ⟨#[]⟩, [], ks⟩, l2, rr) := by rw [HQi.out, Nat.sub_self, decML]; simp
    rw [hQf]
    have hgood := got_good (w := w) (m := ⟨5, ⟨#[]⟩, ⟨#[]⟩, [], ks⟩) (r := rr) (l := l2) EK.out (show g ≠ K by omega) (show gn ≠ K by omega) t2 t3 t4 t5 (hMF.move (fun b hb => ⟨⟨by have := hb.1; omega, hb.2⟩, rfl⟩)) (by have h := HRr.out; rw [show (p : Int) = (n : Int) - (rr.length : Nat) by have := congrArg List.length hpr; rw [List.length_drop, HN.out] at this; omega] at h; exact h) (by rw [← hnzr]; exact HNr.out)
    simp only [mV, hvi, List.length_nil] at hgood
    exact hgood
set_option maxRecDepth 100000 in
set_option maxHeartbeats 16000000 in
/-- kids. -/
theorem got141g6 (w0 w : World) (g gn : Nat) (A : Option Addr) (n c : Nat) (bs : List UInt8) (at_ : Int) (left d : Nat) (hl : left ≤ 63) (hd8 : d ≤ 7) (r : List UInt8) (j : Nat) (hnc : n ≤ c) (hj : (n : Int) - (r.length : Nat) = (j : Int)) (hr : bs.drop j = r) (hq0 : getW bs at_ = some (6, r)) (hn : bs.length = n) (hnl : n ≤ 1000000000000000) (hg : w0.heap.size ≤ g) (hgn : w0.heap.size ≤ gn) (hne : g ≠ gn) (hB : Below w0.heap.size w0 w) (hS : RB w g A n c at_ false) (nz : Int) (hN : NB w gn nz) (hnz : nz = 63 - (left : Int)) (hC0 : (Kd.int .u8).C w0 A bs.length (bys bs)) (dz : Int) (hdz : dz = 8 - (d : Int)) (ih : IHgot w0 g gn A n c bs d (dz + 1)) :
  Calls Try.prog 141 #[.pointer (some ⟨g, 0, none⟩), .pointer (some ⟨gn, 0, none⟩), .int .i64 dz] w (GotPost w0 w g gn A n c (GotQ false (d + 1) (left + 1) bs at_)) := by
 have IH := Lib.hid ih
 clear ih
 have hQ : GotQ false (d + 1) (left + 1) bs at_ = (match decV 0 0 r with | none => none | some (k, r3) => if k ≤ 64 then (decML d left k r3).map (fun q => ((⟨6, ⟨#[]⟩, ⟨#[]⟩, [], q.1⟩ : S25), q.2)) else none) := by
  unfold getW at hq0
  unfold GotQ
  split
  ·next h =>
   rcases h with h | h
   ·cases h
   ·rw [if_pos h] at hq0; cases hq0
  ·next h =>
   have hi : ¬ at_ < 0 := fun e => h (Or.inr e)
   rw [if_neg hi] at hq0
   rw [decM, hq0]
   simp only
   rw [if_neg (by decide), if_neg (by decide), if_neg (by decide), if_pos (by decide)]
   all_goals
    cases decV 0 0 r with
    | none => rfl
    | some q2 => rfl
 obtain ⟨Q, eQ⟩ : ∃ Q, GotQ false (d + 1) (left + 1) bs at_ = Q := ⟨_, rfl⟩
 rw [eQ]
 have HQ := Lib.hid (eQ.symm.trans hQ)
 have HN := Lib.hid hn
 have HC0 := Lib.hid hC0
 have HR := Lib.hid hr
 have hgl := hS.lt
 have hgnl := blk_lt hN
 have hne2 := hne.symm
 obtain ⟨nz1, hnz1⟩ : ∃ nz1, nz + 1 = nz1 := ⟨_, rfl⟩
 have hw1 : wrap64 (nz + 1) = nz1 := by unfold wrap64; omega
 have hN2 : NB (w.alloc (.cells Z5 25)) gn nz := (Below.heap_alloc _ _ _ hgnl).trans hN
 have hS2 : RB (w.alloc (.cells Z5 25)) g A n c at_ false := (Below.heap_alloc _ _ _ hgl).trans hS
 have hS3 : RB ((w.alloc (.cells Z5 25)).setCell ⟨gn, 0, none⟩ (.int .i64 nz1)) g A n c at_ false := (Below.heap_setCell _ _ _ _ hne).trans hS2
 have m0 := blk_cell hN2 0
 have mz0 := blk_frozen hN2 0
 simp only [List.getElem?_toArray, List.getElem?_cons_zero] at m0
 have t1 : ¬ (64 : Int) < nz1 := by omega
 have t2 : decide ((64 : Int) < nz1) = false := decide_eq_false t1
 have t3 : ¬ (8 : Int) < dz := by omega
 have t4 : decide ((8 : Int) < dz) = false := decide_eq_false t3
 obtain ⟨V, eV⟩ : ∃ V, V = (w.alloc (.cells Z5 25)).setCell ⟨gn, 0, none⟩ (.int .i64 nz1) := ⟨_, rfl⟩
 have hBV : Below w0.heap.size w0 V := by rw [eV]; exact (below_alloc hB _).setCell hgn _
 have hKV : KeepBut w V g (some gn) := by
  rw [eV]
  refine ⟨by simp, fun i hi h1 h2 => ?_⟩
  have h3 : i ≠ gn := fun e => h2 (by rw [e])
  exact (Below.heap_setCell _ _ _ _ h3).trans (Below.heap_alloc _ _ _ hi)
 have hSV : RB V g A n c at_ false := by rw [eV]; exact hS3
 have hNV : NB V gn nz1 := by rw [eV]; exact (blk_set hN2 0 _).trans (by rfl)
 have hZV : V.heap[w.heap.size]? = some (.cells Z5 25 (0, 0)) := by rw [eV]; exact (Below.heap_setCell _ _ _ _ (by simp; omega)).trans (blk_new w _)
 have hsV : V.heap.size = w.heap.size + 1 := by rw [eV]; simp
 have h1 := num164y w0 V g A n c bs at_ false 6 j r (by unfold numW; rw [if_neg (by decide)]; exact hq0) hj hn hnl hg hBV hSV hC0
 have H1 := Lib.hid h1
 have HK := Lib.hid hKV
 have HNV := Lib.hid hNV
 have HZV := Lib.hid hZV
 have HW := Lib.hid hB.size
 have HG := Lib.hid (And.intro hgl (And.intro hgnl hsV))
 have HNZ := Lib.hid (show nz1 = 64 - (left : Int) by omega)
 have HDZ := Lib.hid hdz
 clear hQ hq0 eQ hr hS hS2 hS3 hN hN2 hgl hgnl hBV hKV hSV hNV hZV h1 hC0 hn hdz hnz hsV hB hnz1
 obtain ⟨K, eK⟩ : ∃ K, w.heap.size = K := ⟨_, rfl⟩
 have EK := Lib.hid eK.symm
 go_enter Try.func141, Try.ntmps141
 go_wp2_with fail
 rw [← eV]
 refine H1.out.mono ?_
 rintro e w1 ⟨rfl, hB1, hK1, hR1⟩
 obtain ⟨hg1, hg2, hg3⟩ := HG.out
 have hZ1 := (hK1.2 _ (blk_lt HZV.out) (by omega) (by simp)).trans HZV.out
 rw [eK] at hZ1
 have hN1 : NB w1 gn nz1 := (hK1.2 gn (blk_lt HNV.out) hne2 (by simp)).trans HNV.out
 have hs1 := hK1.1
 have s2 := hR1.c2
 have hKl := blk_lt hZ1
 obtain ⟨W, eW⟩ : ∃ W, W = w1.alloc (.cells #[.int .i64 6, .string ⟨#[]⟩, .string ⟨#[]⟩, .slice none 0 0, .slice none 0 0] 25) := ⟨_, rfl⟩
 obtain ⟨G, eG⟩ : ∃ G, w1.heap.size = G := ⟨_, rfl⟩
 have b5 : W.heap[G]? = some (.cells #[.int .i64 6, .string ⟨#[]⟩, .string ⟨#[]⟩, .slice none 0 0, .slice none 0 0] 25 (0, 0)) := by rw [eW, ← eG]; exact blk_new w1 _
 have b4 : W.heap[K]? = some (.cells Z5 25 (0, 0)) := by rw [eW]; exact (Below.heap_alloc _ _ _ hKl).trans hZ1
 have hBW : Below w0.heap.size w0 W := by rw [eW]; exact below_alloc hB1 _
 have hKW : KeepBut w W g (some gn) := by rw [eW]; exact keep_two2 HK.out (keep_two2 (keep_wk hK1) (keep_wk (KeepBut.of_below (below_alloc (Below.refl w1.heap.size w1) _) g none)))
 have hRW : RB W g A n c (j : Int) false := by rw [eW]; exact (Below.heap_alloc _ _ _ hR1.lt).trans hR1
 have hNW : NB W gn nz1 := by rw [eW]; exact (Below.heap_alloc _ _ _ (blk_lt hN1)).trans hN1
 have HGW := Lib.hid (show g < K ∧ gn < K ∧ K < G ∧ W.heap.size = G + 1 from ⟨by omega, by omega, by omega, by rw [eW, World.size_alloc, eG]⟩)
 have HGK := Lib.hid (show w0.heap.size ≤ G by have := HW.out; omega)
 clear eK hB1 hK1 hR1 hN1 hZ1 hKl hs1 eV H1 HK HZV HNV HG hg1 hg2 hg3
 have hdw : wrap64 (dz + 1) = dz + 1 := by have := HDZ.out; unfold wrap64; omega
 have h3 := cnt120 w0 W g A n c bs (j : Int) false 64 64 rfl (by decide) HN.out hnl hg hBW hRW HC0.out
 have H3 := Lib.hid h3
 have E5 := Lib.hid b5
 have E4 := Lib.hid b4
 have HKW := Lib.hid hKW
 have HNW := Lib.hid hNW
 have HRr := Lib.hid (show j ≤ n by omega)
 clear b5 b4 hKW hBW hRW hNW hj h3
 go_wp2_with fail
 rw [← eW]
 refine H3.out.mono ?_
 rintro e w4 ⟨k, i2, bb2, rfl, hB4, hK4, hR4, hk64, HT2⟩
 obtain ⟨hg1, hg2, hg3, hg4⟩ := HGW.out
 have d5 := (hK4.2 G (by omega) (by omega) (by simp)).trans E5.out
 have d4 := (hK4.2 K (by omega) (by omega) (by simp)).trans E4.out
 have dn : NB w4 gn nz1 := (hK4.2 gn (by omega) hne2 (by simp)).trans HNW.out
 have hK4' := keep_two2 HKW.out (keep_wk hK4)
 obtain ⟨base, hbase⟩ : ∃ base, w4.heap.size = base := ⟨_, rfl⟩
 have hs4 := hK4.1
 have HGS := Lib.hid (show g < K ∧ gn < K ∧ K < G ∧ G < base from ⟨hg1, hg2, hg3, by omega⟩)
 have HS0 : Hid ((bb2 = true ∧ Q = none) ∨ (bb2 = false ∧ ∃ (p : Nat) (rr : List UInt8), p ≤ n ∧ bs.drop p = rr ∧ i2 = (p : Int) ∧ Q = (decML d left k rr).map (fun q => ((⟨6, ⟨#[]⟩, ⟨#[]⟩, [], [] ++ q.1⟩ : S25), q.2)))) := by
  refine Lib.hid ?_
  rcases HT2.out with ⟨h2, h2b⟩ | ⟨r3, h2, h2i, h2b⟩
  ·refine Or.inl ⟨h2b, ?_⟩
   rw [countW_at HR.out] at h2
   rw [HQ.out]
   cases hv : decV 0 0 r with
   | none => rfl
   | some q =>
    rw [hv] at h2
    simp only at h2 ⊢
    split
    ·next hk =>
     rw [decML_short (by
      rcases Nat.lt_or_ge q.2.length q.1 with h | h
      ·exact h
      ·rw [if_pos ⟨hk, h⟩] at h2; cases h2)]
     rfl
    ·rfl
  ·rw [countW_at HR.out] at h2
   cases hv : decV 0 0 r with
   | none => rw [hv] at h2; cases h2
   | some q =>
    rw [hv] at h2
    simp only at h2
    split at h2
    ·next hk =>
     simp only [Option.some.injEq, Prod.mk.injEq] at h2
     obtain ⟨h3, h4⟩ := h2
     obtain ⟨p, hp1, hp2, hp3, hp4⟩ := decV_at HN.out HRr.out (by rw [HR.out]; exact hv)
     rw [h4] at hp3 hp4
     refine Or.inr ⟨h2b, p, r3, hp2, hp4, by rw [h2i, hp3], ?_⟩
     rw [HQ.out]
     simp only [hv]
     rw [if_pos hk.1, h3, h4]
     rfl
    ·cases h2
 have hw0b : w0.heap.size ≤ base := by have := HGK.out; omega
 clear hs4 hg1 hg2 hg3 hg4 H3 E4 E5 eW HT2 HQ HKW HNW HRr HR hK4 eG
 go_wp2
 go_loopw [13, 14] (fun u13 u14 wr => ∃ (i : Nat) (at2 : Int) (bb : Bool) (A4 : Option Addr) (n4 c4 : Nat) (nzr : Int), u13 = .int .i64 (i : Nat) ∧ i ≤ k ∧ wr.heap[G]? = some (.cells #[.int .i64 6, .string ⟨#[]⟩, .string ⟨#[]⟩, .slice none 0 0, .slice A4 n4 c4] 25 (0, 0)) ∧ wr.heap[K]? = some (.cells Z5 25 (0, 0)) ∧ NB wr gn nzr ∧ RB wr g A n c at2 bb ∧ Below w0.heap.size w0 wr ∧ KeepBut w wr g (some gn) ∧ base ≤ wr.heap.size ∧ Hid ((bb = true ∧ Q = none) ∨ (bb = false ∧ ∃ (p l2 : Nat) (ks : List S25) (cells : List Value) (rr : List UInt8), n4 = i ∧ ks.length = i ∧ l2 ≤ left ∧ nzr = 64 - (l2 : Int) ∧ p ≤ n ∧ bs.drop p = rr ∧ at2 = (p : Int) ∧ wr.ownsRow base 25 5 (.slice A4 i c4) i cells ∧ Reps (KR wr (Part base wr (.slice A4 i c4))) 5 ks cells ∧ Q = (decML d l2 (k - i) rr).map (fun q => ((⟨6, ⟨#[]⟩, ⟨#[]⟩, [], ks ++ q.1⟩ : S25), q.2)))))
  (fun u13 _ _ => k - (intOf u13).toNat)
 case atStart => exact ⟨0, i2, bb2, none, 0, 0, nz1, rfl, Nat.zero_le _, d5, d4, dn, hR4, hB4, hK4', Nat.le_of_eq hbase.symm, Lib.hid (HS0.out.imp id (fun ⟨h, p, rr, h1, h2, h3, h4⟩ => ⟨h, p, left, [], [], rr, rfl, rfl, Nat.le_refl _, HNZ.out, h1, h2, h3, World.ownsRow_nil _ _ _ _, by simpa using Reps.none _ _, h4⟩))⟩
 case round =>
  clear d5 d4 dn hR4 hB4 hK4' HS0 hbase
  obtain ⟨i, at2, bb, A4, n4, c4, nzr, rfl, hik, hXr, hPr, hNr, hRr, hBr, hKr, hSr, HST⟩ := hrel
  have HXr := Lib.hid hXr
  have HPr := Lib.hid hPr
  have HNr := Lib.hid hNr
  have HRr := Lib.hid hRr
  have HBr := Lib.hid hBr
  have HKr := Lib.hid hKr
  have HSr := Lib.hid hSr
  have r2 := hRr.c2
  obtain ⟨hg1, hg2, hg3, hg4⟩ := HGS.out
  have hGK : G ≠ K := by omega
  have hKG : K ≠ G := by omega
  clear hg1 hg2 hg3 hg4
  cases bb with
  | true =>
   have y0 := blk_cell hXr 0
   have z0 := blk_frozen hXr 0
   have y1 := blk_cell hXr 1
   have z1 := blk_frozen hXr 1
   have y2 := blk_cell hXr 2
   have z2 := blk_frozen hXr 2
   have y3 := blk_cell hXr 3
   have z3 := blk_frozen hXr 3
   have y4 := blk_cell hXr 4
   have z4 := blk_frozen hXr 4
   simp only [List.getElem?_toArray, List.getElem?_cons_zero, List.getElem?_cons_succ] at y0 y1 y2 y3 y4
   have yK0 := blk_cell hPr 0
   have zK0 := blk_frozen hPr 0
   have yK1 := blk_cell hPr 1
   have zK1 := blk_frozen hPr 1
   have yK2 := blk_cell hPr 2
   have zK2 := blk_frozen hPr 2
   have yK3 := blk_cell hPr 3
   have zK3 := blk_frozen hPr 3
   have yK4 := blk_cell hPr 4
   have zK4 := blk_frozen hPr 4
   simp only [List.getElem?_toArray, List.getElem?_cons_zero, List.getElem?_cons_succ] at yK0 yK1 yK2 yK3 yK4
   clear hXr hPr hNr hRr hBr hKr hSr
   have HQn := Lib.hid (show Q = none by
    rcases HST.out with ⟨-, h⟩ | ⟨h, -⟩
    ·exact h
    ·cases h)
   by_cases hlt : i < k
   all_goals (go_wp2; obtain ⟨hg1, hg2, hg3, hg4⟩ := HGS.out)
   all_goals
    obtain ⟨t1, t2, t3, t4, t5⟩ := got_tail (w0 := w0) (g := g) (gn := gn) (.int .i64 6) (.string ⟨#[]⟩) (.string ⟨#[]⟩) (.slice none 0 0) (.slice A4 n4 c4) EK.out HPr.out HW.out HBr.out HKr.out
    refine bodyPost_ret (results_single rfl (.cell K 25 _ (0, 0) _ rfl t1 Try.underlying25 rfl (by kernel_rfl) .nil)) rfl ?_
    rw [HQn.out]
    exact got_bad (by omega) (by omega) t2 t3 t4 HRr.out HNr.out
  | false =>
   obtain ⟨p, l2, ks, cells, rr, rfl, hvi, hl2, hnzr, hpn, hpr, rfl, hO3, hRp, hQ⟩ : ∃ (p l2 : Nat) (ks : List S25) (cells : List Value) (rr : List UInt8), n4 = i ∧ ks.length = i ∧ l2 ≤ left ∧ nzr = 64 - (l2 : Int) ∧ p ≤ n ∧ bs.drop p = rr ∧ at2 = (p : Int) ∧ wr.ownsRow base 25 5 (.slice A4 i c4) i cells ∧ Reps (KR wr (Part base wr (.slice A4 i c4))) 5 ks cells ∧ Q = (decML d l2 (k - i) rr).map (fun q => ((⟨6, ⟨#[]⟩, ⟨#[]⟩, [], ks ++ q.1⟩ : S25), q.2)) := by
    rcases HST.out with ⟨h, -⟩ | ⟨-, h⟩
    ·cases h
    ·exact h
   have HO3 := Lib.hid hO3
   have HQi := Lib.hid hQ
   have HRp := Lib.hid hRp
   have HIN := Lib.hid (And.intro hpn (And.intro hpr (And.intro hvi (And.intro hl2 hnzr))))
   by_cases hlt : n4 < k
   ·have h7 := IH.out wr (p : Int) l2 nzr (by omega) hBr hRr hNr hnzr
    rw [GotQ_at hpr] at h7
    have H7 := Lib.hid h7
    clear hXr hPr hNr hRr hBr hKr hSr hO3 hQ hpn hpr hvi HST h7 hl2 hnzr hRp
    go_wp2_with fail
    refine H7.out.mono ?_
    intro e w5 hp5
    clear H7
    obtain ⟨x0, x1, x2, B3, m3, e3, B4, m4, e4, i5, bb5, nz5, rfl, hB5, hK5, hR5, hN5, HT5⟩ := got_any hp5
    obtain ⟨hg1, hg2, hg3, hg4⟩ := HGS.out
    have hsr := HSr.out
    have f5 := (hK5.2 G (by omega) (by omega) (by simp; omega)).trans HXr.out
    have f4 := (hK5.2 K (by omega) (by omega) (by simp; omega)).trans HPr.out
    have hO5 : w5.ownsRow base 25 5 (.slice A4 n4 c4) n4 cells := own_move HO3.out (fun k hk => hK5.2 k (HO3.out.lt _ hk).2 (by have := (HO3.out.lt _ hk).1; omega) (by have := (HO3.out.lt _ hk).1; simp; omega))
    have hs5 := hK5.1
    obtain ⟨V5, eV5⟩ : ∃ V5, V5 = w5.alloc (.cells #[.int .i64 x0, .string x1, .string x2, .slice B3 m3 e3, .slice B4 m4 e4] 25) := ⟨_, rfl⟩
    have hBV5 : Below w5.heap.size w5 V5 := by rw [eV5]; exact below_alloc (Below.refl _ _) _
    have f5a := (hBV5.block G (blk_lt f5)).trans f5
    have f4a := (hBV5.block K (blk_lt f4)).trans f4
    have HO5 := Lib.hid (pw_own_below hO5 hBV5)
    have HB5 := Lib.hid (below_step hB5 hBV5)
    have HK5 := Lib.hid (keep_two2 HKr.out (keep_two2 hK5 (keep_wk (KeepBut.of_below hBV5 g none))))
    have HR5 := Lib.hid (hR5.below hBV5)
    have HN5 : Hid (NB V5 gn nz5) := Lib.hid ((hBV5.block gn (blk_lt hN5)).trans hN5)
    have F5 := Lib.hid f5a
    have F4 := Lib.hid f4a
    have HBV5 := Lib.hid hBV5
    have HV5S := Lib.hid (show V5.heap.size = w5.heap.size + 1 by rw [eV5, World.size_alloc])
    have HS5 := Lib.hid (show base ≤ V5.heap.size by have := hBV5.size; omega)
    have HK5' := Lib.hid hK5
    have HW5 := Lib.hid (show wr.heap.size ≤ w5.heap.size from hs5)
    have HLT := Lib.hid (fun k (hk : (Value.slice A4 n4 c4).ownBlock = some k) => HO3.out.lt _ hk)
    have y0 := blk_cell f5a 0
    have z0 := blk_frozen f5a 0
    have y1 := blk_cell f5a 1
    have z1 := blk_frozen f5a 1
    have y2 := blk_cell f5a 2
    have z2 := blk_frozen f5a 2
    have y3 := blk_cell f5a 3
    have z3 := blk_frozen f5a 3
    have y4 := blk_cell f5a 4
    have z4 := blk_frozen f5a 4
    simp only [List.getElem?_toArray, List.getElem?_cons_zero, List.getElem?_cons_succ] at y0 y1 y2 y3 y4
    rw [eV5] at y0 z0 y1 z1 y2 z2 y3 z3 y4 z4
    clear hB5 hK5 hR5 hN5 hO5 hBV5 f4 f5 f4a f5a hs5 hsr hg1 hg2 hg3 hg4 hp5
    go_wp2_with (at_builtin; rw [← eV5]; refine print_append_cells (w0 := V5) (W := V5) base rfl (.tmp 111) (.tmp 113) 23 25 (.agg Z5) 5 88 rfl Try.underlying23 infoM rfl (by decide) (by decide) (.slice A4 n4 c4) n4 cells [.int .i64 x0, .string x1, .string x2, .slice B3 m3 e3, .slice B4 m4 e4] rfl (by rw [HV5S.out]; rfl) rfl (by intro u hu; simp only [List.mem_cons, List.not_mem_nil, or_false] at hu; rcases hu with rfl | rfl | rfl | rfl | rfl <;> rfl) HO5.out (Below.refl _ _) HS5.out (by omega) ?_; intro v2 w6 hown6 hb6 hg6 hat6; obtain ⟨A2, c2, rfl⟩ := own_slice hown6; have hneG : some G ≠ (Value.slice A4 n4 c4).ownBlock := (fun e => by have := (HLT.out _ e.symm).1; have := HGS.out; omega); have q5 := (hg6.block G (blk_lt F5.out) hneG).trans F5.out; have q53 := blk_cell q5 4; have q5z := blk_frozen q5 4; have Q5 := Lib.hid q5; have HG6 := Lib.hid hg6; have HO6 := Lib.hid hown6; have HAT6 := Lib.hid hat6; clear hown6 hb6 hg6 hat6 q5 hneG; simp only [List.getElem?_toArray, List.getElem?_cons_zero, List.getElem?_cons_succ] at q53)
    go_roundw
    case rel =>
     obtain ⟨hg1, hg2, hg3, hg4⟩ := HGS.out
     have hl2 := HLT.out
     have hs5 := HS5.out
     have hs6 := HG6.out.size
     have hl5 := (HK5.out).1
     have hneK : some K ≠ (Value.slice A4 n4 c4).ownBlock := fun e => by have := (hl2 _ e.symm).1; omega
     have hneg : some g ≠ (Value.slice A4 n4 c4).ownBlock := fun e => by have := (hl2 _ e.symm).1; omega
     have hnegn : some gn ≠ (Value.slice A4 n4 c4).ownBlock := fun e => by have := (hl2 _ e.symm).1; omega
     have q4 := (HG6.out.block K (blk_lt F4.out) hneK).trans F4.out
     have qn : NB w6 gn nz5 := (HG6.out.block gn (blk_lt HN5.out) hnegn).trans HN5.out
     have qg : RB w6 g A n c i5 bb5 := (HG6.out.block g HR5.out.lt hneg).trans HR5.out
     have hB6 : Below w0.heap.size w0 w6 := HB5.out.grown HG6.out (by omega) (fun k hk => by have := (hl2 k hk).1; omega)
     have hK6 : KeepBut w w6 g (some gn) := ⟨by omega, fun i hi h1 h2 => (HG6.out.block i (by omega) (fun e => by have := (hl2 _ e.symm).1; have := EK.out; omega)).trans (HK5.out.2 i hi h1 h2)⟩
     have hnew : ∀ k, (Value.slice A2 (n4 + 1) c2).ownBlock = some k → k ≠ G := fun k hk => by have := (HO6.out.lt _ hk).1; omega
     have hX6 := (blk_set Q5.out 4 (.slice A2 (n4 + 1) c2))
     have hP6 : (w6.setCell ⟨G, 4, none⟩ (.slice A2 (n4 + 1) c2)).heap[K]? = some (.cells Z5 25 (0, 0)) := (Below.heap_setCell _ _ _ _ (show K ≠ G by omega)).trans q4
     have hN6 : NB (w6.setCell ⟨G, 4, none⟩ (.slice A2 (n4 + 1) c2)) gn nz5 := (Below.heap_setCell _ _ _ _ (show gn ≠ G by omega)).trans qn
     have hR6 : RB (w6.setCell ⟨G, 4, none⟩ (.slice A2 (n4 + 1) c2)) g A n c i5 bb5 := (Below.heap_setCell _ _ _ _ (show g ≠ G by omega)).trans qg
     have hB6' : Below w0.heap.size w0 (w6.setCell ⟨G, 4, none⟩ (.slice A2 (n4 + 1) c2)) := hB6.setCell HGK.out _
     have hK6' : KeepBut w (w6.setCell ⟨G, 4, none⟩ (.slice A2 (n4 + 1) c2)) g (some gn) := ⟨by have := hK6.1; simpa using this, fun i hi h1 h2 => (Below.heap_setCell _ _ _ _ (show i ≠ G by have := EK.out; omega)).trans (hK6.2 i hi h1 h2)⟩
     have hO6 : (w6.setCell ⟨G, 4, none⟩ (.slice A2 (n4 + 1) c2)).ownsRow base 25 5 (.slice A2 (n4 + 1) c2) (n4 + 1) _ := own_move HO6.out (fun k hk => Below.heap_setCell _ _ _ _ (hnew k hk))
     have hfar : ∀ b, b < V5.heap.size → (Value.slice A4 n4 c4).ownBlock ≠ some b → (Value.slice A2 (n4 + 1) c2).ownBlock ≠ some b := fun b hb hne e => by
      rcases HAT6.out with h | ⟨b', h, hb'⟩
      ·exact hne (h.symm.trans e)
      ·rw [h] at e; cases e; omega
     have hmove : ∀ b, b < w5.heap.size → (Value.slice A4 n4 c4).ownBlock ≠ some b → b ≠ G → (w6.setCell ⟨G, 4, none⟩ (.slice A2 (n4 + 1) c2)).heap[b]? = w5.heap[b]? := fun b hb h1 h2 => (Below.heap_setCell _ _ _ _ h2).trans ((HG6.out.block b (by have := HBV5.out.size; omega) (fun e => h1 e.symm)).trans (HBV5.out.block b hb))
     have hs6' : (w6.setCell ⟨G, 4, none⟩ (.slice A2 (n4 + 1) c2)).heap.size = w6.heap.size := by simp
     obtain ⟨hpn, hpr, hvi, hl2', hnzr⟩ := HIN.out
     refine ⟨n4 + 1, i5, bb5, A2, n4 + 1, c2, nz5, by go_num, by omega, hX6.trans (by rfl), hP6, hN6, hR6, hB6', hK6', by omega, Lib.hid ?_⟩
     rcases HT5.out with ⟨h1, h1b⟩ | ⟨h1, kid, l3, r4, h2, rfl, rfl, rfl, rfl, rfl, hMF5, h3, h4⟩
     ·exact Or.inl ⟨h1, by rw [HQi.out, decML_none1 (by omega) h1b]; rfl⟩
     ·obtain ⟨p2, hp2n, hp2I, hr4⟩ := decM_suffix_at (d := d) (l := l2) (m := kid) (l' := l3) (by rw [hpr]; exact decM_suf _ _ _ _ _ _ h2) HN.out hpn
      have hReps : Reps (KR (w6.setCell ⟨G, 4, none⟩ (.slice A2 (n4 + 1) c2)) (Part base (w6.setCell ⟨G, 4, none⟩ (.slice A2 (n4 + 1) c2)) (.slice A2 (n4 + 1) c2))) 5 (ks ++ [kid]) (cells ++ [.int .i64 kid.f0, .string kid.f1, .string kid.f2, .slice B3 kid.f3.length e3, .slice B4 kid.f4.length e4]) := by
       have hv5 := HBV5.out.size
       have hw5 := HW5.out
       have hsr := HSr.out
       refine Reps.snoc (HRp.out.imp_ (fun p c hk => hk.move (fun b hb => ?_))) ⟨B3, e3, B4, e4, rfl, hMF5.move (fun b hb => ?_)⟩ rfl
       ·obtain ⟨b1, b2, b3⟩ := hb
        refine ⟨⟨b1, by omega, hfar b (by omega) b3⟩, (hmove b (by omega) b3 (by omega)).trans (HK5'.out.2 b b2 (by omega) (by simp; omega))⟩
       ·obtain ⟨b1, b2⟩ := hb
        have b3 : (Value.slice A4 n4 c4).ownBlock ≠ some b := fun e => by have := (hl2 b e).2; omega
        exact ⟨⟨by omega, by omega, hfar b (by omega) b3⟩, hmove b b2 b3 (by omega)⟩
      refine Or.inr ⟨h1, p2, l3, ks ++ [kid], _, r4, rfl, by rw [List.length_append, hvi]; rfl, by have := (decM_len _ _ _ _ _ _ h2).2; omega, h4, hp2n, hr4, by rw [h3, hp2I], hO6, hReps, ?_⟩
      rw [HQi.out, decML_step (fun l t => ((⟨6, ⟨#[]⟩, ⟨#[]⟩, [], l⟩ : S25), t)) (by omega) h2, show k - n4 - 1 = k - (n4 + 1) by omega]
    case measure => simp [intOf]; omega
   ·obtain rfl : n4 = k := by omega
    have y0 := blk_cell hXr 0
    have z0 := blk_frozen hXr 0
    have y1 := blk_cell hXr 1
    have z1 := blk_frozen hXr 1
    have y2 := blk_cell hXr 2
    have z2 := blk_frozen hXr 2
    have y3 := blk_cell hXr 3
    have z3 := blk_frozen hXr 3
    have y4 := blk_cell hXr 4
    have z4 := blk_frozen hXr 4
    simp only [List.getElem?_toArray, List.getElem?_cons_zero, List.getElem?_cons_succ] at y0 y1 y2 y3 y4
    have yK0 := blk_cell hPr 0
    have zK0 := blk_frozen hPr 0
    have yK1 := blk_cell hPr 1
    have zK1 := blk_frozen hPr 1
    have yK2 := blk_cell hPr 2
    have zK2 := blk_frozen hPr 2
    have yK3 := blk_cell hPr 3
    have zK3 := blk_frozen hPr 3
    have yK4 := blk_cell hPr 4
    have zK4 := blk_frozen hPr 4
    simp only [List.getElem?_toArray, List.getElem?_cons_zero, List.getElem?_cons_succ] at yK0 yK1 yK2 yK3 yK4
    clear hXr hPr hNr hRr hBr hKr hSr hO3 hQ hpn hpr hvi HST hl2 hnzr hRp
    go_wp2
    obtain ⟨hg1, hg2, hg3, hg4⟩ := HGS.out
    obtain ⟨hpn, hpr, hvi, hl2, hnzr⟩ := HIN.out
    have hO := HO3.out
    have hRQ := HRp.out
    rw [← hvi] at hO hRQ
    obtain ⟨F3, gg3, F4, gg4, ev3, ev4, hMF⟩ := MF.of_rows (m := ⟨6, ⟨#[]⟩, ⟨#[]⟩, [], ks⟩) (lo' := base) (World.ownsRow_nil _ _ _ _) hO hRQ (Nat.le_refl _)
    simp only at ev3 ev4
    cases ev3
    cases ev4
    obtain ⟨t1, t2, t3, t4, t5⟩ := got_tail (w0 := w0) (g := g) (gn := gn) (.int .i64 6) (.string ⟨#[]⟩) (.string ⟨#[]⟩) (.slice none 0 0) (.slice A4 n4 c4) EK.out HPr.out HW.out HBr.out HKr.out
    refine bodyPost_ret (results_single rfl (.cell K 25 _ (0, 0) _ rfl t1 Try.underlying25 rfl (by kernel_rfl) .nil)) rfl ?_
    have hQf : Q = some (⟨6, ⟨#[]⟩, ⟨#[]⟩, [], ks⟩, l2, rr) := by rw [HQi.out, Nat.sub_self, decML]; simp
    rw [hQf]
    have hgood := got_good (w := w) (m := ⟨6, ⟨#[]⟩, ⟨#[]⟩, [], ks⟩) (r := rr) (l := l2) EK.out (show g ≠ K by omega) (show gn ≠ K by omega) t2 t3 t4 t5 (hMF.move (fun b hb => ⟨⟨by have := hb.1; omega, hb.2⟩, rfl⟩)) (by have h := HRr.out; rw [show (p : Int) = (n : Int) - (rr.length : Nat) by have := congrArg List.length hpr; rw [List.length_drop, HN.out] at this; omega] at h; exact h) (by rw [← hnzr]; exact HNr.out)
    simp only [mV, hvi, List.length_nil] at hgood
    exact hgood
set_option maxRecDepth 100000 in
set_option maxHeartbeats 16000000 in
/-- kids. -/
theorem got141g7 (w0 w : World) (g gn : Nat) (A : Option Addr) (n c : Nat) (bs : List UInt8) (at_ : Int) (left d : Nat) (hl : left ≤ 63) (hd8 : d ≤ 7) (r : List UInt8) (j : Nat) (hnc : n ≤ c) (hj : (n : Int) - (r.length : Nat) = (j : Int)) (hr : bs.drop j = r) (hq0 : getW bs at_ = some (7, r)) (hn : bs.length = n) (hnl : n ≤ 1000000000000000) (hg : w0.heap.size ≤ g) (hgn : w0.heap.size ≤ gn) (hne : g ≠ gn) (hB : Below w0.heap.size w0 w) (hS : RB w g A n c at_ false) (nz : Int) (hN : NB w gn nz) (hnz : nz = 63 - (left : Int)) (hC0 : (Kd.int .u8).C w0 A bs.length (bys bs)) (dz : Int) (hdz : dz = 8 - (d : Int)) (ih : IHgot w0 g gn A n c bs d (dz + 1)) :
  Calls Try.prog 141 #[.pointer (some ⟨g, 0, none⟩), .pointer (some ⟨gn, 0, none⟩), .int .i64 dz] w (GotPost w0 w g gn A n c (GotQ false (d + 1) (left + 1) bs at_)) := by
 have IH := Lib.hid ih
 clear ih
 have hQ : GotQ false (d + 1) (left + 1) bs at_ = (decML d left 1 r).map (fun q => ((⟨7, ⟨#[]⟩, ⟨#[]⟩, [], q.1⟩ : S25), q.2)) := by
  unfold getW at hq0
  unfold GotQ
  split
  ·next h =>
   rcases h with h | h
   ·cases h
   ·rw [if_pos h] at hq0; cases hq0
  ·next h =>
   have hi : ¬ at_ < 0 := fun e => h (Or.inr e)
   rw [if_neg hi] at hq0
   rw [decM, hq0]
   simp only
   rw [if_neg (by decide), if_neg (by decide), if_neg (by decide), if_neg (by decide), if_pos (by decide)]
 obtain ⟨Q, eQ⟩ : ∃ Q, GotQ false (d + 1) (left + 1) bs at_ = Q := ⟨_, rfl⟩
 rw [eQ]
 have HQ := Lib.hid (eQ.symm.trans hQ)
 have HN := Lib.hid hn
 have HC0 := Lib.hid hC0
 have HR := Lib.hid hr
 have hgl := hS.lt
 have hgnl := blk_lt hN
 have hne2 := hne.symm
 obtain ⟨nz1, hnz1⟩ : ∃ nz1, nz + 1 = nz1 := ⟨_, rfl⟩
 have hw1 : wrap64 (nz + 1) = nz1 := by unfold wrap64; omega
 have hN2 : NB (w.alloc (.cells Z5 25)) gn nz := (Below.heap_alloc _ _ _ hgnl).trans hN
 have hS2 : RB (w.alloc (.cells Z5 25)) g A n c at_ false := (Below.heap_alloc _ _ _ hgl).trans hS
 have hS3 : RB ((w.alloc (.cells Z5 25)).setCell ⟨gn, 0, none⟩ (.int .i64 nz1)) g A n c at_ false := (Below.heap_setCell _ _ _ _ hne).trans hS2
 have m0 := blk_cell hN2 0
 have mz0 := blk_frozen hN2 0
 simp only [List.getElem?_toArray, List.getElem?_cons_zero] at m0
 have t1 : ¬ (64 : Int) < nz1 := by omega
 have t2 : decide ((64 : Int) < nz1) = false := decide_eq_false t1
 have t3 : ¬ (8 : Int) < dz := by omega
 have t4 : decide ((8 : Int) < dz) = false := decide_eq_false t3
 obtain ⟨V, eV⟩ : ∃ V, V = (w.alloc (.cells Z5 25)).setCell ⟨gn, 0, none⟩ (.int .i64 nz1) := ⟨_, rfl⟩
 have hBV : Below w0.heap.size w0 V := by rw [eV]; exact (below_alloc hB _).setCell hgn _
 have hKV : KeepBut w V g (some gn) := by
  rw [eV]
  refine ⟨by simp, fun i hi h1 h2 => ?_⟩
  have h3 : i ≠ gn := fun e => h2 (by rw [e])
  exact (Below.heap_setCell _ _ _ _ h3).trans (Below.heap_alloc _ _ _ hi)
 have hSV : RB V g A n c at_ false := by rw [eV]; exact hS3
 have hNV : NB V gn nz1 := by rw [eV]; exact (blk_set hN2 0 _).trans (by rfl)
 have hZV : V.heap[w.heap.size]? = some (.cells Z5 25 (0, 0)) := by rw [eV]; exact (Below.heap_setCell _ _ _ _ (by simp; omega)).trans (blk_new w _)
 have hsV : V.heap.size = w.heap.size + 1 := by rw [eV]; simp
 have h1 := num164y w0 V g A n c bs at_ false 7 j r (by unfold numW; rw [if_neg (by decide)]; exact hq0) hj hn hnl hg hBV hSV hC0
 have H1 := Lib.hid h1
 have HK := Lib.hid hKV
 have HNV := Lib.hid hNV
 have HZV := Lib.hid hZV
 have HW := Lib.hid hB.size
 have HG := Lib.hid (And.intro hgl (And.intro hgnl hsV))
 have HNZ := Lib.hid (show nz1 = 64 - (left : Int) by omega)
 have HDZ := Lib.hid hdz
 clear hQ hq0 eQ hr hS hS2 hS3 hN hN2 hgl hgnl hBV hKV hSV hNV hZV h1 hC0 hn hdz hnz hsV hB hnz1
 obtain ⟨K, eK⟩ : ∃ K, w.heap.size = K := ⟨_, rfl⟩
 have EK := Lib.hid eK.symm
 go_enter Try.func141, Try.ntmps141
 go_wp2_with fail
 rw [← eV]
 refine H1.out.mono ?_
 rintro e w1 ⟨rfl, hB1, hK1, hR1⟩
 obtain ⟨hg1, hg2, hg3⟩ := HG.out
 have hZ1 := (hK1.2 _ (blk_lt HZV.out) (by omega) (by simp)).trans HZV.out
 rw [eK] at hZ1
 have hN1 : NB w1 gn nz1 := (hK1.2 gn (blk_lt HNV.out) hne2 (by simp)).trans HNV.out
 have hs1 := hK1.1
 have s2 := hR1.c2
 have hKl := blk_lt hZ1
 obtain ⟨W, eW⟩ : ∃ W, W = w1.alloc (.cells #[.int .i64 7, .string ⟨#[]⟩, .string ⟨#[]⟩, .slice none 0 0, .slice none 0 0] 25) := ⟨_, rfl⟩
 obtain ⟨G, eG⟩ : ∃ G, w1.heap.size = G := ⟨_, rfl⟩
 have b5 : W.heap[G]? = some (.cells #[.int .i64 7, .string ⟨#[]⟩, .string ⟨#[]⟩, .slice none 0 0, .slice none 0 0] 25 (0, 0)) := by rw [eW, ← eG]; exact blk_new w1 _
 have b4 : W.heap[K]? = some (.cells Z5 25 (0, 0)) := by rw [eW]; exact (Below.heap_alloc _ _ _ hKl).trans hZ1
 have hBW : Below w0.heap.size w0 W := by rw [eW]; exact below_alloc hB1 _
 have hKW : KeepBut w W g (some gn) := by rw [eW]; exact keep_two2 HK.out (keep_two2 (keep_wk hK1) (keep_wk (KeepBut.of_below (below_alloc (Below.refl w1.heap.size w1) _) g none)))
 have hRW : RB W g A n c (j : Int) false := by rw [eW]; exact (Below.heap_alloc _ _ _ hR1.lt).trans hR1
 have hNW : NB W gn nz1 := by rw [eW]; exact (Below.heap_alloc _ _ _ (blk_lt hN1)).trans hN1
 have HGW := Lib.hid (show g < K ∧ gn < K ∧ K < G ∧ W.heap.size = G + 1 from ⟨by omega, by omega, by omega, by rw [eW, World.size_alloc, eG]⟩)
 have HGK := Lib.hid (show w0.heap.size ≤ G by have := HW.out; omega)
 clear eK hB1 hK1 hR1 hN1 hZ1 hKl hs1 eV H1 HK HZV HNV HG hg1 hg2 hg3
 have hdw : wrap64 (dz + 1) = dz + 1 := by have := HDZ.out; unfold wrap64; omega
 have hp5 := IH.out W (j : Int) left nz1 (by omega) hBW hRW hNW HNZ.out
 rw [GotQ_at HR.out] at hp5
 have H5 := Lib.hid hp5
 have HXr := Lib.hid b5
 have HPr := Lib.hid b4
 have HKr := Lib.hid hKW
 obtain ⟨base, hbase⟩ : ∃ base, W.heap.size = base := ⟨_, rfl⟩
 obtain ⟨hg1, hg2, hg3, hg4⟩ := HGW.out
 have HGS := Lib.hid (show g < K ∧ gn < K ∧ K < G ∧ G < base from ⟨hg1, hg2, hg3, by omega⟩)
 have HSr := Lib.hid (show base ≤ W.heap.size by omega)
 have HO3 := Lib.hid (World.ownsRow_nil W base 25 5)
 have hGK : G ≠ K := by omega
 have hKG : K ≠ G := by omega
 have hw0b : w0.heap.size ≤ base := by have := HGK.out; omega
 clear hp5 b4 b5 hBW hKW hRW hNW hg1 hg2 hg3 hg4 hbase HGW
 go_wp2_with fail
 rw [← eW]
 clear eG
 refine H5.out.mono ?_
 intro e w5 hp5
 obtain ⟨x0, x1, x2, B3, m3, e3, B4, m4, e4, i5, bb5, nz5, rfl, hB5, hK5, hR5, hN5, HT5⟩ := got_any hp5
 obtain ⟨hg1, hg2, hg3, hg4⟩ := HGS.out
 have hsr := HSr.out
 have f5 := (hK5.2 G (by omega) (by omega) (by simp; omega)).trans HXr.out
 have f4 := (hK5.2 K (by omega) (by omega) (by simp; omega)).trans HPr.out
 have hO5 : w5.ownsRow base 25 5 (.slice none 0 0) 0 [] := own_move HO3.out (fun k hk => hK5.2 k (HO3.out.lt _ hk).2 (by have := (HO3.out.lt _ hk).1; omega) (by have := (HO3.out.lt _ hk).1; simp; omega))
 have hs5 := hK5.1
 obtain ⟨V5, eV5⟩ : ∃ V5, V5 = w5.alloc (.cells #[.int .i64 x0, .string x1, .string x2, .slice B3 m3 e3, .slice B4 m4 e4] 25) := ⟨_, rfl⟩
 have hBV5 : Below w5.heap.size w5 V5 := by rw [eV5]; exact below_alloc (Below.refl _ _) _
 have f5a := (hBV5.block G (blk_lt f5)).trans f5
 have f4a := (hBV5.block K (blk_lt f4)).trans f4
 have HO5 := Lib.hid (pw_own_below hO5 hBV5)
 have HB5 := Lib.hid (below_step hB5 hBV5)
 have HK5 := Lib.hid (keep_two2 HKr.out (keep_two2 hK5 (keep_wk (KeepBut.of_below hBV5 g none))))
 have HR5 := Lib.hid (hR5.below hBV5)
 have HN5 : Hid (NB V5 gn nz5) := Lib.hid ((hBV5.block gn (blk_lt hN5)).trans hN5)
 have F5 := Lib.hid f5a
 have F4 := Lib.hid f4a
 have HBV5 := Lib.hid hBV5
 have HV5S := Lib.hid (show V5.heap.size = w5.heap.size + 1 by rw [eV5, World.size_alloc])
 have HS5 := Lib.hid (show base ≤ V5.heap.size by have := hBV5.size; omega)
 have HK5' := Lib.hid hK5
 have HW5 := Lib.hid (show W.heap.size ≤ w5.heap.size from hs5)
 have HLT := Lib.hid (fun k (hk : (Value.slice none 0 0).ownBlock = some k) => HO3.out.lt _ hk)
 have y0 := blk_cell f5a 0
 have z0 := blk_frozen f5a 0
 have y1 := blk_cell f5a 1
 have z1 := blk_frozen f5a 1
 have y2 := blk_cell f5a 2
 have z2 := blk_frozen f5a 2
 have y3 := blk_cell f5a 3
 have z3 := blk_frozen f5a 3
 have y4 := blk_cell f5a 4
 have z4 := blk_frozen f5a 4
 simp only [List.getElem?_toArray, List.getElem?_cons_zero, List.getElem?_cons_succ] at y0 y1 y2 y3 y4
 rw [eV5] at y0 z0 y1 z1 y2 z2 y3 z3 y4 z4
 clear hB5 hK5 hR5 hN5 hO5 hBV5 f4 f5 f4a f5a hs5 hsr hg1 hg2 hg3 hg4 hp5
 go_wp2_with (at_builtin; rw [← eV5]; refine print_append_cells (w0 := V5) (W := V5) base rfl (.tmp 124) (.tmp 126) 23 25 (.agg Z5) 5 88 rfl Try.underlying23 infoM rfl (by decide) (by decide) (.slice none 0 0) 0 [] [.int .i64 x0, .string x1, .string x2, .slice B3 m3 e3, .slice B4 m4 e4] rfl (by rw [HV5S.out]; rfl) rfl (by intro u hu; simp only [List.mem_cons, List.not_mem_nil, or_false] at hu; rcases hu with rfl | rfl | rfl | rfl | rfl <;> rfl) HO5.out (Below.refl _ _) HS5.out (by omega) ?_; intro v2 w6 hown6 hb6 hg6 hat6; obtain ⟨A2, c2, rfl⟩ := own_slice hown6; have hneG : some G ≠ (Value.slice none 0 0).ownBlock := (fun e => by have := (HLT.out _ e.symm).1; have := HGS.out; omega); have q5 := (hg6.block G (blk_lt F5.out) hneG).trans F5.out; have q53 := blk_cell q5 4; have q5z := blk_frozen q5 4; have Q5 := Lib.hid q5; have HG6 := Lib.hid hg6; have HO6 := Lib.hid hown6; have HAT6 := Lib.hid hat6; clear hown6 hb6 hg6 hat6 q5 hneG; simp only [List.getElem?_toArray, List.getElem?_cons_zero, List.getElem?_cons_succ] at q53; have hneK' : some K ≠ (Value.slice none 0 0).ownBlock := (fun e => by have := (HLT.out _ e.symm).1; have := HGS.out; omega); have qK := (HG6.out.block K (blk_lt F4.out) hneK').trans F4.out; have yK0 := blk_cell qK 0; have zK0 := blk_frozen qK 0; have yK1 := blk_cell qK 1; have zK1 := blk_frozen qK 1; have yK2 := blk_cell qK 2; have zK2 := blk_frozen qK 2; have yK3 := blk_cell qK 3; have zK3 := blk_frozen qK 3; have yK4 := blk_cell qK 4; have zK4 := blk_frozen qK 4; have yG0 := blk_cell Q5.out 0; have yG1 := blk_cell Q5.out 1; have yG2 := blk_cell Q5.out 2; have yG3 := blk_cell Q5.out 3; have yG4 := blk_cell Q5.out 4; simp only [List.getElem?_toArray, List.getElem?_cons_zero, List.getElem?_cons_succ] at yK0 yK1 yK2 yK3 yK4 yG0 yG1 yG2 yG3 yG4; clear hneK' qK)
 obtain ⟨hg1, hg2, hg3, hg4⟩ := HGS.out
 have hl2 := HLT.out
 have hs5 := HS5.out
 have hs6 := HG6.out.size
 have hl5 := (HK5.out).1
 have hneK : some K ≠ (Value.slice none 0 0).ownBlock := fun e => by have := (hl2 _ e.symm).1; omega
 have hneg : some g ≠ (Value.slice none 0 0).ownBlock := fun e => by have := (hl2 _ e.symm).1; omega
 have hnegn : some gn ≠ (Value.slice none 0 0).ownBlock := fun e => by have := (hl2 _ e.symm).1; omega
 have q4 := (HG6.out.block K (blk_lt F4.out) hneK).trans F4.out
 have qn : NB w6 gn nz5 := (HG6.out.block gn (blk_lt HN5.out) hnegn).trans HN5.out
 have qg : RB w6 g A n c i5 bb5 := (HG6.out.block g HR5.out.lt hneg).trans HR5.out
 have hB6 : Below w0.heap.size w0 w6 := HB5.out.grown HG6.out (by omega) (fun k hk => by have := (hl2 k hk).1; omega)
 have hK6 : KeepBut w w6 g (some gn) := ⟨by omega, fun i hi h1 h2 => (HG6.out.block i (by omega) (fun e => by have := (hl2 _ e.symm).1; have := EK.out; omega)).trans (HK5.out.2 i hi h1 h2)⟩
 have hnew : ∀ k, (Value.slice A2 (0 + 1) c2).ownBlock = some k → k ≠ G := fun k hk => by have := (HO6.out.lt _ hk).1; omega
 have hX6 := (blk_set Q5.out 4 (.slice A2 (0 + 1) c2))
 have hP6 : (w6.setCell ⟨G, 4, none⟩ (.slice A2 (0 + 1) c2)).heap[K]? = some (.cells Z5 25 (0, 0)) := (Below.heap_setCell _ _ _ _ (show K ≠ G by omega)).trans q4
 have hN6 : NB (w6.setCell ⟨G, 4, none⟩ (.slice A2 (0 + 1) c2)) gn nz5 := (Below.heap_setCell _ _ _ _ (show gn ≠ G by omega)).trans qn
 have hR6 : RB (w6.setCell ⟨G, 4, none⟩ (.slice A2 (0 + 1) c2)) g A n c i5 bb5 := (Below.heap_setCell _ _ _ _ (show g ≠ G by omega)).trans qg
 have hB6' : Below w0.heap.size w0 (w6.setCell ⟨G, 4, none⟩ (.slice A2 (0 + 1) c2)) := hB6.setCell HGK.out _
 have hK6' : KeepBut w (w6.setCell ⟨G, 4, none⟩ (.slice A2 (0 + 1) c2)) g (some gn) := ⟨by have := hK6.1; simpa using this, fun i hi h1 h2 => (Below.heap_setCell _ _ _ _ (show i ≠ G by have := EK.out; omega)).trans (hK6.2 i hi h1 h2)⟩
 have hO6 : (w6.setCell ⟨G, 4, none⟩ (.slice A2 (0 + 1) c2)).ownsRow base 25 5 (.slice A2 (0 + 1) c2) (0 + 1) _ := own_move HO6.out (fun k hk => Below.heap_setCell _ _ _ _ (hnew k hk))
 have hfar : ∀ b, b < V5.heap.size → (Value.slice none 0 0).ownBlock ≠ some b → (Value.slice A2 (0 + 1) c2).ownBlock ≠ some b := fun b hb hne e => by
  rcases HAT6.out with h | ⟨b', h, hb'⟩
  ·exact hne (h.symm.trans e)
  ·rw [h] at e; cases e; omega
 have hmove : ∀ b, b < w5.heap.size → (Value.slice none 0 0).ownBlock ≠ some b → b ≠ G → (w6.setCell ⟨G, 4, none⟩ (.slice A2 (0 + 1) c2)).heap[b]? = w5.heap[b]? := fun b hb h1 h2 => (Below.heap_setCell _ _ _ _ h2).trans ((HG6.out.block b (by have := HBV5.out.size; omega) (fun e => h1 e.symm)).trans (HBV5.out.block b hb))
 have hs6' : (w6.setCell ⟨G, 4, none⟩ (.slice A2 (0 + 1) c2)).heap.size = w6.heap.size := by simp
 have far7 := hP6
 obtain ⟨t1, t2, t3, t4, t5⟩ := got_tail (w0 := w0) (g := g) (gn := gn) (.int .i64 7) (.string ⟨#[]⟩) (.string ⟨#[]⟩) (.slice none 0 0) (.slice A2 (0 + 1) c2) EK.out hP6 HW.out hB6' hK6'
 refine bodyPost_ret (results_single rfl (.cell K 25 _ (0, 0) _ rfl t1 Try.underlying25 rfl (by kernel_rfl) .nil)) rfl ?_
 rcases HT5.out with ⟨h1, h1b⟩ | ⟨h1, kid, l3, r4, h2, rfl, rfl, rfl, rfl, rfl, hMF5, h3, h4⟩
 ·rw [HQ.out, decML_none1 (by decide) h1b]
  subst h1
  exact got_bad (by omega) (by omega) t2 t3 t4 hR6 hN6
 ·subst h1
  have hReps : Reps (KR (w6.setCell ⟨G, 4, none⟩ (.slice A2 (0 + 1) c2)) (Part base (w6.setCell ⟨G, 4, none⟩ (.slice A2 (0 + 1) c2)) (.slice A2 (0 + 1) c2))) 5 ([] ++ [kid]) ([] ++ [.int .i64 kid.f0, .string kid.f1, .string kid.f2, .slice B3 kid.f3.length e3, .slice B4 kid.f4.length e4]) := by
   have hv5 := HBV5.out.size
   have hw5 := HW5.out
   have hsr := HSr.out
   refine Reps.snoc ((show Reps (KR W (Part base W (.slice none 0 0))) 5 [] [] by simpa using Reps.none _ _).imp_ (fun p c hk => hk.move (fun b hb => ?_))) ⟨B3, e3, B4, e4, rfl, hMF5.move (fun b hb => ?_)⟩ rfl
   ·obtain ⟨b1, b2, b3⟩ := hb
    refine ⟨⟨b1, by omega, hfar b (by omega) b3⟩, (hmove b (by omega) b3 (by omega)).trans (HK5'.out.2 b b2 (by omega) (by simp; omega))⟩
   ·obtain ⟨b1, b2⟩ := hb
    have b3 : (Value.slice none 0 0).ownBlock ≠ some b := fun e => by have := (hl2 b e).2; omega
    exact ⟨⟨by omega, by omega, hfar b (by omega) b3⟩, hmove b b2 b3 (by omega)⟩
  obtain ⟨F3, gg3, F4, gg4, ev3, ev4, hMF⟩ := MF.of_rows (m := ⟨7, ⟨#[]⟩, ⟨#[]⟩, [], [kid]⟩) (lo' := base) (World.ownsRow_nil _ _ _ _) hO6 hReps (Nat.le_refl _)
  simp only at ev3 ev4
  cases ev3
  cases ev4
  have hQf : Q = some (⟨7, ⟨#[]⟩, ⟨#[]⟩, [], [kid]⟩, l3, r4) := by rw [HQ.out, decML, h2]; simp only; rw [decML]; rfl
  rw [hQf]
  rw [h3] at hR6
  rw [h4] at hN6
  exact got_good (w := w) (m := ⟨7, ⟨#[]⟩, ⟨#[]⟩, [], [kid]⟩) (r := r4) (l := l3) EK.out (show g ≠ K by omega) (show gn ≠ K by omega) t2 t3 t4 t5 (hMF.move (fun b hb => ⟨⟨by have := hb.1; omega, hb.2⟩, rfl⟩)) hR6 hN6
end Go.Proofs.Yteafilojjdfllaa
end
section
namespace Go.Proofs.Yteafilojjdfllaa
open Go Go.RowKit Go.Proofs.YteafilojjdfllaaW.PrintWords Go.Proofs.YteafilojjdfllaaW.PrintLast Go.Proofs.YteafilojjdfllaaW.PrintMore Go.Proofs.Yteafilojjdfllaa.PAll
set_option linter.unusedVariables false
set_option linter.unusedSimpArgs false
theorem got141 (w0 : World) (g gn : Nat) (A : Option Addr) (n c : Nat) (bs : List UInt8) (hn : bs.length = n) (hnl : n ≤ 1000000000000000) (hnc : n ≤ c) (hg : w0.heap.size ≤ g) (hgn : w0.heap.size ≤ gn) (hne : g ≠ gn) (hC0 : (Kd.int .u8).C w0 A bs.length (bys bs)) :
  ∀ (d : Nat) (dz : Int), d ≤ 8 → dz = 9 - (d : Int) → IHgot w0 g gn A n c bs d dz := by
 intro d
 induction d with
 | zero =>
  intro dz hd hdz w at_ left nz hl hB hS hN hnz
  cases left with
  | zero => exact got141a w0 w g gn A n c bs at_ false 0 0 rfl hn hnl hg hgn hne hB hS nz hN hnz hC0 dz hdz
  | succ left => exact got141b w0 w g gn A n c bs at_ false (left + 1) 0 hl (by omega) rfl hn hnl hg hgn hne hB hS nz hN hnz hC0 dz hdz
 | succ d ih =>
  intro dz hd hdz w at_ left nz hl hB hS hN hnz
  cases left with
  | zero => exact got141a w0 w g gn A n c bs at_ false 0 (d + 1) rfl hn hnl hg hgn hne hB hS nz hN hnz hC0 dz hdz
  | succ left =>
   cases hq : getW bs at_ with
   | none => exact got141c w0 w g gn A n c bs at_ false (left + 1) (d + 1) hl (by omega) (by omega) hd (by unfold numW; rw [if_neg (by decide)]; exact hq) hn hnl hg hgn hne hB hS nz hN hnz hC0 dz hdz
   | some q =>
    obtain ⟨op, r⟩ := q
    by_cases hv : 7 < op
    ·exact got141d w0 w g gn A n c bs at_ false (left + 1) (d + 1) hl (by omega) (by omega) hd op r hq hv hn hnl hg hgn hne hB hS nz hN hnz hC0 dz hdz
    ·obtain ⟨h1, h2, h3, h4, h5⟩ := getW_place hq
     have hj : (n : Int) - (r.length : Nat) = ((bs.length - r.length : Nat) : Int) := by omega
     have hnz' : nz = 63 - (left : Int) := by omega
     have hdz' : dz = 8 - (d : Int) := by omega
     have hih : IHgot w0 g gn A n c bs d (dz + 1) := ih (dz + 1) (by omega) (by omega)
     obtain rfl | rfl | rfl | rfl | rfl | rfl | rfl | rfl : op = 0 ∨ op = 1 ∨ op = 2 ∨ op = 3 ∨ op = 4 ∨ op = 5 ∨ op = 6 ∨ op = 7 := by omega
     ·exact got141e0 w0 w g gn A n c bs at_ left d (by omega) (by omega) r _ hnc hj h4 hq hn hnl hg hgn hne hB hS nz hN hnz' hC0 dz hdz'
     ·exact got141e1 w0 w g gn A n c bs at_ left d (by omega) (by omega) r _ hnc hj h4 hq hn hnl hg hgn hne hB hS nz hN hnz' hC0 dz hdz'
     ·exact got141e2 w0 w g gn A n c bs at_ left d (by omega) (by omega) r _ hnc hj h4 hq hn hnl hg hgn hne hB hS nz hN hnz' hC0 dz hdz'
     ·exact got141e3 w0 w g gn A n c bs at_ left d (by omega) (by omega) r _ hnc hj h4 hq hn hnl hg hgn hne hB hS nz hN hnz' hC0 dz hdz'
     ·exact got141f w0 w g gn A n c bs at_ left d (by omega) (by omega) r _ hnc hj h4 hq hn hnl hg hgn hne hB hS nz hN hnz' hC0 dz hdz'
     ·exact got141g5 w0 w g gn A n c bs at_ left d (by omega) (by omega) r _ hnc hj h4 hq hn hnl hg hgn hne hB hS nz hN hnz' hC0 dz hdz' hih
     ·exact got141g6 w0 w g gn A n c bs at_ left d (by omega) (by omega) r _ hnc hj h4 hq hn hnl hg hgn hne hB hS nz hN hnz' hC0 dz hdz' hih
     ·exact got141g7 w0 w g gn A n c bs at_ left d (by omega) (by omega) r _ hnc hj h4 hq hn hnl hg hgn hne hB hS nz hN hnz' hC0 dz hdz' hih
/-- whatever the reader's state -/
theorem got141b' (w0 : World) (g gn : Nat) (A : Option Addr) (n c : Nat) (bs : List UInt8) (hn : bs.length = n) (hnl : n ≤ 1000000000000000) (hnc : n ≤ c) (hg : w0.heap.size ≤ g) (hgn : w0.heap.size ≤ gn) (hne : g ≠ gn) (hC0 : (Kd.int .u8).C w0 A bs.length (bys bs)) (b : Bool) (w : World) (at_ : Int) (hB : Below w0.heap.size w0 w) (hS : RB w g A n c at_ b) (hN : NB w gn 0) :
  Calls Try.prog 141 #[.pointer (some ⟨g, 0, none⟩), .pointer (some ⟨gn, 0, none⟩), .int .i64 1] w (GotPost w0 w g gn A n c (GotQ b 8 64 bs at_)) := by
 cases b with
 | false => exact got141 w0 g gn A n c bs hn hnl hnc hg hgn hne hC0 8 1 (by decide) (by decide) w at_ 64 0 (by decide) hB hS hN (by decide)
 | true => exact got141c w0 w g gn A n c bs at_ true 64 8 (by decide) (by decide) (by decide) (by decide) (by unfold numW; simp) hn hnl hg hgn hne hB hS 0 hN (by decide) hC0 1 (by decide)
theorem size_mk (t : List UInt8) : (⟨t.toArray⟩ : ByteArray).size = t.length := by simp [ByteArray.size]
theorem decTs_size : ∀ (k : Nat) (r : List UInt8) (x : List ByteArray) (t : List UInt8), decTs k r = some (x, t) → ∀ u ∈ x, u.size ≤ 64
 | 0, r, x, t, h => by
  rw [decTs] at h
  simp only [Option.some.injEq, Prod.mk.injEq] at h
  obtain ⟨rfl, rfl⟩ := h
  intro u hu
  cases hu
 | k + 1, r, x, t, h => by
  rw [decTs] at h
  split at h
  ·cases h
  ·next v r1 h1 =>
   rw [Option.map_eq_some_iff] at h
   obtain ⟨⟨y, u⟩, hy, e⟩ := h
   simp only [Prod.mk.injEq] at e
   obtain ⟨rfl, rfl⟩ := e
   intro u hu
   rcases List.mem_cons.1 hu with rfl | hu
   ·rw [size_mk]; exact (decT_len h1).2
   ·exact decTs_size k r1 y _ hy u hu
theorem decML_bound (d : Nat) (ih : ∀ (left : Nat) (r : List UInt8) (m : S25) (left' : Nat) (t : List UInt8), decM d left r = some (m, left', t) → boundM m) : ∀ (k left : Nat) (r : List UInt8) (x : List S25) (left' : Nat) (t : List UInt8), decML d left k r = some (x, left', t) → boundL x
 | 0, left, r, x, left', t, h => by
  rw [decML] at h
  simp only [Option.some.injEq, Prod.mk.injEq] at h
  obtain ⟨rfl, rfl, rfl⟩ := h
  exact trivial
 | k + 1, left, r, x, left', t, h => by
  rw [decML] at h
  split at h
  ·cases h
  ·next m left1 r1 h1 =>
   rw [Option.map_eq_some_iff] at h
   obtain ⟨⟨y, l2, u⟩, hy, e⟩ := h
   simp only [Prod.mk.injEq] at e
   obtain ⟨rfl, rfl, rfl⟩ := e
   exact ⟨ih left r m left1 r1 h1, decML_bound d ih k left1 r1 y l2 u hy⟩
theorem decM_bound : ∀ (d left : Nat) (r : List UInt8) (m : S25) (left' : Nat) (t : List UInt8), decM d left r = some (m, left', t) → boundM m
 | 0, left, r, m, left', t, h => by rw [decM] at h; cases h
 | d + 1, 0, r, m, left', t, h => by rw [decM] at h <;> first | cases h | simp
 | d + 1, left + 1, r, m, left', t, h => by
  have hz : (⟨#[]⟩ : ByteArray).size ≤ 140737488351232 := by decide
  have hnil : ∀ u ∈ ([] : List ByteArray), u.size ≤ 140737488351232 := fun u hu => by cases hu
  rw [decM] at h
  split at h
  ·cases h
  ·next op r1 h1 =>
   split at h
   ·simp only [Option.some.injEq, Prod.mk.injEq] at h
    obtain ⟨rfl, rfl, rfl⟩ := h
    exact (boundM_mk _).2 ⟨hz, hz, hnil, trivial⟩
   ·split at h
    ·split at h
     ·cases h
     ·next n r2 h2 =>
      have l2 := (decT_len h2).2
      split at h
      ·cases h
      ·next v r3 h3 =>
       have l3 := (decT_len h3).2
       simp only [Option.some.injEq, Prod.mk.injEq] at h
       obtain ⟨rfl, rfl, rfl⟩ := h
       exact (boundM_mk _).2 ⟨by simp only; rw [size_mk]; omega, by simp only; rw [size_mk]; omega, hnil, trivial⟩
    ·split at h
     ·split at h
      ·cases h
      ·next n r2 h2 =>
       have l2 := (decT_len h2).2
       split at h
       ·cases h
       ·next k r3 h3 =>
        split at h
        ·rw [Option.map_eq_some_iff] at h
         obtain ⟨⟨y, u⟩, hy, e⟩ := h
         simp only [Prod.mk.injEq] at e
         obtain ⟨rfl, rfl, rfl⟩ := e
         exact (boundM_mk _).2 ⟨by simp only; rw [size_mk]; omega, hz, fun x hx => by have := decTs_size k r3 y u hy x hx; omega, trivial⟩
        ·cases h
     ·split at h
      ·split at h
       ·cases h
       ·next k r2 h2 =>
        split at h
        ·rw [Option.map_eq_some_iff] at h
         obtain ⟨⟨y, l5, u⟩, hy, e⟩ := h
         simp only [Prod.mk.injEq] at e
         obtain ⟨rfl, rfl, rfl⟩ := e
         exact (boundM_mk _).2 ⟨hz, hz, hnil, decML_bound d (decM_bound d) k left r2 y l5 u hy⟩
        ·cases h
      ·split at h
       ·rw [Option.map_eq_some_iff] at h
        obtain ⟨⟨y, l5, u⟩, hy, e⟩ := h
        simp only [Prod.mk.injEq] at e
        obtain ⟨rfl, rfl, rfl⟩ := e
        exact (boundM_mk _).2 ⟨hz, hz, hnil, decML_bound d (decM_bound d) 1 left r1 y l5 u hy⟩
       ·cases h
def RMGetPost (w0 w : World) (g : Nat) (A : Option Addr) (n c : Nat) (Q : Option (S25 × List UInt8)) (e : Ending) (w' : World) : Prop :=
 Below w0.heap.size w0 w' ∧ KeepBut w w' g none ∧
  ((Q = none ∧ e = .returned (.agg Z5) ∧ ∃ i, RB w' g A n c i true) ∨ ∃ m r A3 c3 A4 c4, Q = some (m, r) ∧ e = .returned (mV m A3 c3 A4 c4) ∧ MF w' (fun b => w.heap.size ≤ b ∧ b < w'.heap.size) m A3 c3 A4 c4 ∧ RB w' g A n c ((n : Int) - (r.length : Nat)) false)
theorem GotQ_mat {b : Bool} {bs : List UInt8} {i : Int} : (if b = true then none else matW bs i) = ((GotQ b 8 64 bs i).filter (fun q => chkB q.1)).map (fun q => (q.1, q.2.2)) := by
 unfold GotQ matW
 cases b with
 | true => simp
 | false =>
  by_cases h : i < 0
  ·simp [h]
  ·simp [h]
theorem keep_new {w w' : World} {g gn : Nat} (h : KeepBut w w' g (some gn)) (hgn : w.heap.size ≤ gn) : KeepBut w w' g none := ⟨h.1, fun i hi h1 _ => h.2 i hi h1 (by simp; omega)⟩
set_option maxRecDepth 100000 in
set_option maxHeartbeats 16000000 in
/-- the document's Get. -/
theorem rmget91 (w0 w : World) (g : Nat) (A : Option Addr) (n c : Nat) (bs : List UInt8) (at_ : Int) (b : Bool) (hn : bs.length = n) (hnl : n ≤ 1000000000000000) (hnc : n ≤ c) (hg : w0.heap.size ≤ g) (hB : Below w0.heap.size w0 w) (hS : RB w g A n c at_ b) (hC0 : (Kd.int .u8).C w0 A bs.length (bys bs)) :
  Calls Try.prog 91 #[.pointer (some ⟨g, 0, none⟩)] w (RMGetPost w0 w g A n c (if b = true then none else matW bs at_)) := by
 rw [GotQ_mat]
 obtain ⟨Q0, eQ0⟩ : ∃ Q, GotQ b 8 64 bs at_ = Q := ⟨_, rfl⟩
 have hQ0 := eQ0
 obtain ⟨V, eV⟩ : ∃ V, V = (w.alloc (.cells Z5 25)).alloc (.cells #[.int .i64 0] 3) := ⟨_, rfl⟩
 have hBV : Below w.heap.size w V := by rw [eV]; exact below_alloc (below_alloc (Below.refl _ _) _) _
 have hs : V.heap.size = w.heap.size + 2 := by rw [eV]; simp
 have k0 : V.heap[w.heap.size]? = some (.cells Z5 25 (0, 0)) := by rw [eV]; exact (Below.heap_alloc _ _ _ (by simp)).trans (blk_new w _)
 have kn : NB V (w.heap.size + 1) 0 := by
  have := blk_new (w.alloc (.cells Z5 25)) (.cells #[.int .i64 0] 3)
  rw [World.size_alloc] at this
  rw [eV]; exact this
 have hgl := hS.lt
 have hww := hB.size
 have h1 := got141b' w0 g (w.heap.size + 1) A n c bs hn hnl hnc hg (by omega) (by omega) hC0 b V at_ (below_step hB hBV) (hS.below hBV) kn
 rw [eQ0] at h1
 have hbnd : ∀ m l r, Q0 = some (m, l, r) → boundM m := by
  intro m l r e
  rw [e] at eQ0
  unfold GotQ at eQ0
  split at eQ0
  ·cases eQ0
  ·exact decM_bound _ _ _ _ _ _ eQ0
 obtain ⟨M, hM⟩ : ∃ M, (Q0.filter (fun q => chkB q.1)).map (fun q => (q.1, q.2.2)) = M := ⟨_, rfl⟩
 rw [eQ0, hM]
 obtain ⟨K, eK⟩ : ∃ K, w.heap.size = K := ⟨_, rfl⟩
 obtain ⟨gn, egn⟩ : ∃ gn, K + 1 = gn := ⟨_, rfl⟩
 rw [eK] at k0 hs
 rw [eK, egn] at h1
 have H1 := Lib.hid h1
 have HM := Lib.hid hM
 have HBND := Lib.hid hbnd
 have K0 := Lib.hid k0
 have HBV := Lib.hid hBV
 have EK := Lib.hid eK
 have HG := Lib.hid (And.intro hgl (And.intro hs egn))
 have HWW := Lib.hid hww
 clear h1 hM hbnd k0 kn hBV hgl hs hS hC0 hn eQ0 hQ0 hB hww
 go_enter Try.func91, Try.ntmps91
 go_wp2_with fail
 rw [← eV]
 refine H1.out.mono ?_
 intro e w5 hp5
 obtain ⟨x0, x1, x2, B3, m3, e3, B4, m4, e4, i5, bb5, nz5, rfl, hB5, hK5, hR5, hN5, HT5⟩ := got_any hp5
 obtain ⟨hg1, hg2, hg3⟩ := HG.out
 have hs5 := hK5.1
 have f0 := (hK5.2 K (by omega) (by have := EK.out; omega) (by simp; omega)).trans K0.out
 have hK5' : KeepBut w w5 g none := keep_new (keep_two2 (keep_wk (KeepBut.of_below HBV.out g none)) hK5) (by have := EK.out; omega)
 obtain ⟨V5, eV5⟩ : ∃ V5, V5 = w5.alloc (.cells #[.int .i64 x0, .string x1, .string x2, .slice B3 m3 e3, .slice B4 m4 e4] 25) := ⟨_, rfl⟩
 have hBV5 : Below w5.heap.size w5 V5 := by rw [eV5]; exact below_alloc (Below.refl _ _) _
 have f0' := (hBV5.block K (by omega)).trans f0
 have hRV := hR5.below hBV5
 have HK5 := Lib.hid (hK5'.trans (KeepBut.of_below hBV5 g none) (Or.inl rfl))
 have HB5 := Lib.hid (below_step hB5 hBV5)
 have HRV := Lib.hid hRV
 have F0 := Lib.hid f0'
 have HVS := Lib.hid (And.intro (show V5.heap.size = w5.heap.size + 1 by rw [eV5, World.size_alloc]) (show K + 2 ≤ w5.heap.size by omega))
 have hgK : K ≠ g := by have := EK.out; omega
 have hgK2 := hgK.symm
 have r2 := hRV.c2
 have rz := hRV.z2
 have cb : V5.heap[w5.heap.size]? = some (.cells #[.int .i64 x0, .string x1, .string x2, .slice B3 m3 e3, .slice B4 m4 e4] 25 (0, 0)) := by rw [eV5]; exact blk_new w5 _
 have HBV5 := Lib.hid hBV5
 have HS5 := Lib.hid hs5
 have tail : ∀ (W : World) (a0 a1 a2 a3 a4 : Value), W.heap[K]? = some (.cells Z5 25 (0, 0)) → Below w0.heap.size w0 W → KeepBut w W g none → _ := fun W a0 a1 a2 a3 a4 h1 h2 h3 => got_tail (w0 := w0) (w := w) (W := W) (g := g) (gn := gn) (K := K) a0 a1 a2 a3 a4 EK.out.symm h1 HWW.out h2 (keep_wk h3)
 have TL := Lib.hid tail
 clear hp5 hB5 hK5 hR5 hN5 hs5 f0 hK5' hBV5 hRV hg1 hg2 hg3 H1 tail
 cases bb5 with
 | true =>
  have hMn : M = none := by
   rcases HT5.out with ⟨-, h⟩ | ⟨h, -⟩
   ·rw [← HM.out, h]; rfl
   ·cases h
  have HMn := Lib.hid hMn
  have f1 := (Below.heap_setCell V5 ⟨g, 2, none⟩ (.bool true) K hgK).trans f0'
  have F1 := Lib.hid f1
  have y0 := blk_cell f1 0
  have y1 := blk_cell f1 1
  have y2 := blk_cell f1 2
  have y3 := blk_cell f1 3
  have y4 := blk_cell f1 4
  have z0 := blk_frozen f1 0
  have z1 := blk_frozen f1 1
  have z2 := blk_frozen f1 2
  have z3 := blk_frozen f1 3
  have z4 := blk_frozen f1 4
  simp only [List.getElem?_toArray, List.getElem?_cons_zero, List.getElem?_cons_succ] at y0 y1 y2 y3 y4
  rw [eV5] at y0 y1 y2 y3 y4 z0 z1 z2 z3 z4 r2 rz
  clear f1 f0' cb hMn
  go_wp2
  rw [← eV5]
  obtain ⟨t1, t2, t3, t4, t5⟩ := TL.out (V5.setCell ⟨g, 2, none⟩ (.bool true)) (.int .i64 0) (.string ⟨#[]⟩) (.string ⟨#[]⟩) (.slice none 0 0) (.slice none 0 0) F1.out (HB5.out.setCell hg _) (HK5.out.set_ 2 (.bool true))
  rw [HMn.out]
  exact bodyPost_ret (results_single rfl (.cell K 25 _ (0, 0) _ rfl t1 Try.underlying25 rfl (by kernel_rfl) .nil)) rfl ⟨t2, keep_new t3 (by have := EK.out; omega), Or.inl ⟨rfl, rfl, i5, (t4 g hgK2).trans (HRV.out.set2 true)⟩⟩
 | false =>
  obtain ⟨m, l, r, hQm, rfl, rfl, rfl, rfl, rfl, hMF, rfl, -⟩ : ∃ (m : S25) (l : Nat) (r : List UInt8), Q0 = some (m, l, r) ∧ x0 = m.f0 ∧ x1 = m.f1 ∧ x2 = m.f2 ∧ m3 = m.f3.length ∧ m4 = m.f4.length ∧ MF w5 (fun b => V.heap.size ≤ b ∧ b < w5.heap.size) m B3 e3 B4 e4 ∧ i5 = (n : Int) - (r.length : Nat) ∧ nz5 = 64 - (l : Int) := by
   rcases HT5.out with ⟨h, -⟩ | ⟨-, h⟩
   ·cases h
   ·exact h
  have hMF' : MF V5 (fun b => V.heap.size ≤ b ∧ b < w5.heap.size) m B3 e3 B4 e4 := hMF.move (fun b hb => ⟨hb, HBV5.out.block b hb.2⟩)
  have HMF := Lib.hid hMF'
  have HH := Lib.hid (HBND.out m l r hQm)
  obtain ⟨v, hv⟩ : ∃ v, chkB m = v := ⟨_, rfl⟩
  have H36 := Lib.hid (check36v V5 m B3 e3 B4 e4 v hv HH.out hMF'.now)
  have hMv : M = if v = true then some (m, r) else none := by
   rw [← HM.out, hQm]
   cases v <;> simp [Option.filter, hv]
  have HMv := Lib.hid hMv
  have HV := Lib.hid hv
  rw [eV5] at r2 rz
  clear hMF hMF' HM hQm hMv hv f0'
  have c0 := blk_cell cb 0
  have c1 := blk_cell cb 1
  have c2 := blk_cell cb 2
  have c3 := blk_cell cb 3
  have c4 := blk_cell cb 4
  have CB := Lib.hid cb
  simp only [List.getElem?_toArray, List.getElem?_cons_zero, List.getElem?_cons_succ] at c0 c1 c2 c3 c4
  rw [eV5] at c0 c1 c2 c3 c4
  clear cb
  go_wp2_with fail
  rw [← eV5]
  refine H36.out.mono ?_
  rintro e w7 ⟨rfl, hb7⟩
  have HB7 := Lib.hid (below_step HB5.out hb7)
  have HK7 := Lib.hid (HK5.out.trans (KeepBut.of_below hb7 g none) (Or.inl rfl))
  have f7 := (hb7.block K (blk_lt F0.out)).trans F0.out
  have q7 := (hb7.block _ (blk_lt CB.out)).trans CB.out
  have hR7 := HRV.out.below hb7
  have HR7 := Lib.hid hR7
  have F7 := Lib.hid f7
  have HMF7 := Lib.hid (HMF.out.move (T := fun b => V.heap.size ≤ b ∧ b < w5.heap.size) (Y := w7) (fun b hb => ⟨hb, hb7.block b (by have := HVS.out; omega)⟩))
  have HS7 := Lib.hid hb7.size
  clear c0 c1 c2 c3 c4 r2 rz eV5
  cases v with
  | false =>
   have f1 := (Below.heap_setCell w7 ⟨g, 2, none⟩ (.bool true) K hgK).trans f7
   have F1 := Lib.hid f1
   have r2 := hR7.c2
   have rz := hR7.z2
   have y0 := blk_cell f1 0
   have y1 := blk_cell f1 1
   have y2 := blk_cell f1 2
   have y3 := blk_cell f1 3
   have y4 := blk_cell f1 4
   have z0 := blk_frozen f1 0
   have z1 := blk_frozen f1 1
   have z2 := blk_frozen f1 2
   have z3 := blk_frozen f1 3
   have z4 := blk_frozen f1 4
   simp only [List.getElem?_toArray, List.getElem?_cons_zero, List.getElem?_cons_succ] at y0 y1 y2 y3 y4
   clear f1 f7 q7 hb7 hR7
   go_wp2
   obtain ⟨t1, t2, t3, t4, t5⟩ := TL.out (w7.setCell ⟨g, 2, none⟩ (.bool true)) (.int .i64 0) (.string ⟨#[]⟩) (.string ⟨#[]⟩) (.slice none 0 0) (.slice none 0 0) F1.out (HB7.out.setCell hg _) (HK7.out.set_ 2 (.bool true))
   rw [HMv.out]
   exact bodyPost_ret (results_single rfl (.cell K 25 _ (0, 0) _ rfl t1 Try.underlying25 rfl (by kernel_rfl) .nil)) rfl ⟨t2, keep_new t3 (by have := EK.out; omega), Or.inl ⟨rfl, rfl, _, (t4 g hgK2).trans (HR7.out.set2 true)⟩⟩
  | true =>
   have y0 := blk_cell f7 0
   have y1 := blk_cell f7 1
   have y2 := blk_cell f7 2
   have y3 := blk_cell f7 3
   have y4 := blk_cell f7 4
   have z0 := blk_frozen f7 0
   have z1 := blk_frozen f7 1
   have z2 := blk_frozen f7 2
   have z3 := blk_frozen f7 3
   have z4 := blk_frozen f7 4
   have c0 := blk_cell q7 0
   have c1 := blk_cell q7 1
   have c2 := blk_cell q7 2
   have c3 := blk_cell q7 3
   have c4 := blk_cell q7 4
   simp only [List.getElem?_toArray, List.getElem?_cons_zero, List.getElem?_cons_succ] at y0 y1 y2 y3 y4 c0 c1 c2 c3 c4
   clear f7 q7 hb7 hR7
   go_wp2
   obtain ⟨t1, t2, t3, t4, t5⟩ := TL.out w7 (.int .i64 m.f0) (.string m.f1) (.string m.f2) (.slice B3 m.f3.length e3) (.slice B4 m.f4.length e4) F7.out HB7.out HK7.out
   rw [HMv.out]
   refine bodyPost_ret (results_single rfl (.cell K 25 _ (0, 0) _ rfl t1 Try.underlying25 rfl (by kernel_rfl) .nil)) rfl ⟨t2, keep_new t3 (by have := EK.out; omega), Or.inr ⟨m, r, B3, e3, B4, e4, rfl, rfl, HMF7.out.move (fun b hb => ⟨⟨?_, ?_⟩, t4 b ?_⟩), (t4 g hgK2).trans HR7.out⟩⟩
   ·have h1 := hb.1
    have h2 := HBV.out.size
    omega
   ·have h1 := hb.2
    have h2 := HS7.out
    have h3 := HVS.out
    rw [t5]
    omega
   ·have h1 := hb.1
    have h2 := HG.out
    omega
end Go.Proofs.Yteafilojjdfllaa
end
section
namespace Go.Proofs.Yteafilojjdfllaa
open Go Go.RowKit Go.Proofs.YteafilojjdfllaaW.PrintWords Go.Proofs.YteafilojjdfllaaW.PrintLast Go.Proofs.YteafilojjdfllaaW.PrintMore Go.Proofs.Yteafilojjdfllaa.PAll
set_option linter.unusedVariables false
set_option linter.unusedSimpArgs false
theorem next_wide {need old : Nat} (h : old < need) (hb : need ≤ 200000000000000) : Builtin.nextslicecap need old * 1 ≤ 281474976710656 := by
 have : Builtin.nextslicecap need old ≤ need + need / 4 + 512 := by
  unfold Builtin.nextslicecap
  split
  ·omega
  ·split
   ·omega
   ·rw [growBy_four]
    repeat' split
    all_goals omega
 omega
/-- a row of bytes of one's own, with bytes behind it -/
theorem run_wide {w : World} (base : Nat) (ty : TypeId) (v : Value) (n : Nat) (xs : List Value) (hown : w.ownsRow base 5 1 v n xs) (ad : Addr) (m c : Nat) (news : List Value) (hl : news.length = m) (hnews : ∀ j u, news[j]? = some u → w.cell? (ad.add j) = some u) (h1 : ∀ u ∈ news, u.oneCell' = true)
  (hb : n + m ≤ 200000000000000) (hm : m ≤ 140737488355328) (hbase : base ≤ w.heap.size) :
  ∃ v' w', (Builtin.append_ #[85, 85] ty #[v, .slice (some ad) m c]).run Try.prog w = .ok v' w' ∧ w'.ownsRow base 5 1 v' (n + m) (xs ++ news) ∧ w.grownBy w' v.ownBlock := by
 obtain ⟨i, hi, hzz⟩ := Option.map_eq_some_iff.1 infoBy
 simp only [Prod.mk.injEq] at hzz
 obtain ⟨hz, hs, hby⟩ := hzz
 have hmax : maxLen = 9223372036854775807 := by decide
 have hcopy := hown
 have hxl : xs.length = n := by simpa using hown.1
 have hlen : (xs ++ news).length = (n + m) * 1 := by rw [List.length_append, hxl, hl, Nat.mul_one]
 rcases hown.2 with ⟨rfl, rfl⟩ | ⟨g, cap, cur, rfl, hbg, hg, hnc, hcm, hcs, htake⟩
 ·obtain ⟨v', w', h1', h2', h3', -⟩ := run_append_own (P := Try.prog) (w := w) base 85 ty 5 i (.int .u8 0) 1 1 Try.underlying85 hi hz hs hby rfl (by decide) _ 0 xs hcopy ad m c news (by omega) hnews h1 (by omega) (by omega) hbase
  exact ⟨v', w', h1', h2', h3'⟩
 ·by_cases hroom : n + m ≤ cap
  ·have hr := run_append_room (P := Try.prog) (w := w) 85 ty 5 i Try.underlying85 hi g n cap cur hg ad m c news (by rw [hs, hl, Nat.mul_one]) hnews h1 hroom (by rw [hs]; omega)
   rw [hs] at hr
   refine ⟨_, _, hr, ⟨hlen, .inr ⟨g, cap, _, rfl, hbg, setRow_heap w g cur _ 5 _ hg, hroom, hcm, ?_, ?_⟩⟩, ⟨rfl, rfl, rfl, by simp, fun k _ hk => setRow_other w g k _ (fun e => hk (by simp [Value.ownBlock, e]))⟩⟩
   ·simp only [List.size_toArray, List.length_append, List.length_take, List.length_drop, Array.length_toList]
    omega
   ·rw [htake, ← hlen]
    exact List.take_left
  ·have holds : ∀ j u, xs[j]? = some u → w.cell? ((⟨g, 0, none⟩ : Addr).add j) = some u := hcopy.cells (g := g) rfl
   have hr := run_append_grow (P := Try.prog) (w := w) 85 ty 5 i (.int .u8 0) Try.underlying85 hi hz ⟨g, 0, none⟩ n cap xs (by rw [hs]; omega) holds ad m c news (by rw [hs]; omega) hnews (by omega) (by omega) (by rw [hby]; exact next_wide (by omega) hb)
   have hge := grownCap_ge w (n + m) cap 5
   have hcm2 : grownCap w (n + m) cap 5 ≤ maxLen := grownCap_le_maxLen w (n + m) cap 5 (by omega)
   refine ⟨_, _, hr, ⟨hlen, .inr ⟨w.heap.size, _, _, rfl, hbase, heap_alloc_new w.drew _, hge, hcm2, ?_, ?_⟩⟩, ⟨rfl, rfl, rfl, by simp, fun k hk _ => heap_alloc_old w.drew _ hk⟩⟩
   ·simp only [Array.size_append, List.size_toArray, size_zeroCells, hxl, hl, Value.cells]
    simp
    omega
   ·simp only [Array.toList_append, List.append_assoc]
    rw [← List.append_assoc, ← hlen]
    exact List.take_left
/-- .. with a text behind it -/
theorem run_wide_str {w : World} (base : Nat) (ty : TypeId) (v : Value) (n : Nat) (xs : List Value) (hown : w.ownsRow base 5 1 v n xs) (s : ByteArray) (hb : n + s.size ≤ 200000000000000) (hm : s.size ≤ 140737488355328) (hbase : base ≤ w.heap.size) :
  ∃ v' w', (Builtin.append_ #[85, 9] ty #[v, .string s]).run Try.prog w = .ok v' w' ∧ w'.ownsRow base 5 1 v' (n + s.size) (xs ++ Lib.strCells s) ∧ w.grownBy w' v.ownBlock := by
 obtain ⟨i, hi, hzz⟩ := Option.map_eq_some_iff.1 infoBy
 simp only [Prod.mk.injEq] at hzz
 obtain ⟨hz, hs, hby⟩ := hzz
 have hmax : maxLen = 9223372036854775807 := by decide
 have hcopy := hown
 have hxl : xs.length = n := by simpa using hown.1
 have hlen : (xs ++ Lib.strCells s).length = (n + s.size) * 1 := by rw [List.length_append, hxl, Lib.strCells_length, Nat.mul_one]
 rcases hown.2 with ⟨rfl, rfl⟩ | ⟨g, cap, cur, rfl, hbg, hg, hnc, hcm, hcs, htake⟩
 ·obtain ⟨v', w', h1', h2', h3', -⟩ := Lib.run_append_own_string (P := Try.prog) (w := w) base 85 9 ty 5 i Try.underlying85 Try.underlying9 hi hz hs hby _ 0 xs hcopy s (by omega) (by omega) hbase
  exact ⟨v', w', h1', h2', h3'⟩
 ·have hcs' : cur.size = cap := by simpa using hcs
  have ht' : cur.toList.take n = xs := by simpa using htake
  by_cases hroom : n + s.size ≤ cap
  ·have hr := Lib.run_append_room_string (P := Try.prog) (w := w) 85 9 ty 5 i Try.underlying85 Try.underlying9 hi hs g n cap cur hg s hroom (by omega)
   refine ⟨_, _, hr, ⟨hlen, .inr ⟨g, cap, _, rfl, hbg, setRow_heap w g cur _ 5 _ hg, hroom, hcm, ?_, ?_⟩⟩, ⟨rfl, rfl, rfl, by simp, fun k _ hk => setRow_other w g k _ (fun e => hk (by simp [Value.ownBlock, e]))⟩⟩
   ·simp only [List.size_toArray, List.length_append, List.length_take, List.length_drop, Array.length_toList, Lib.strCells_length]
    omega
   ·rw [ht', ← hlen]
    exact List.take_left
  ·have holds : ∀ j u, xs[j]? = some u → w.cell? ((⟨g, 0, none⟩ : Addr).add j) = some u := hcopy.cells (g := g) rfl
   have hr := Lib.run_append_grow_string (P := Try.prog) (w := w) 85 9 ty 5 i (.int .u8 0) Try.underlying85 Try.underlying9 hi hz ⟨g, 0, none⟩ n cap xs (by rw [hs]; omega) holds s (by omega) (by omega) (by rw [hby]; exact next_wide (by omega) hb)
   have hge := grownCap_ge w (n + s.size) cap 5
   have hcm2 : grownCap w (n + s.size) cap 5 ≤ maxLen := grownCap_le_maxLen w (n + s.size) cap 5 (by omega)
   refine ⟨_, _, hr, ⟨hlen, .inr ⟨w.heap.size, _, _, rfl, hbase, heap_alloc_new w.drew _, hge, hcm2, ?_, ?_⟩⟩, ⟨rfl, rfl, rfl, by simp, fun k hk _ => heap_alloc_old w.drew _ hk⟩⟩
   ·simp only [Array.size_append, List.size_toArray, size_zeroCells, hxl, Lib.strCells_length, Value.cells]
    simp
    omega
   ·simp only [Array.toList_append, List.append_assoc]
    rw [← List.append_assoc, ← hlen]
    exact List.take_left
/-- a row of another's with no room behind it, and one byte: a new row -/
theorem run_wide_grow {w : World} (base : Nat) (ty : TypeId) (A : Option Addr) (n : Nat) (xs : List Value) (hxl : xs.length = n) (h0 : A = none → n = 0) (holds : ∀ b, A = some b → ∀ j u, xs[j]? = some u → w.cell? (b.add j) = some u) (ad : Addr) (m c : Nat) (news : List Value) (hl : news.length = m) (hnews : ∀ j u, news[j]? = some u → w.cell? (ad.add j) = some u) (hm0 : 0 < m)
  (hb : n + m ≤ 200000000000000) (hbase : base ≤ w.heap.size) :
  ∃ v' w', (Builtin.append_ #[85, 85] ty #[.slice A n n, .slice (some ad) m c]).run Try.prog w = .ok v' w' ∧ w'.ownsRow base 5 1 v' (n + m) (xs ++ news) ∧ w.grownBy w' none := by
 obtain ⟨i, hi, hzz⟩ := Option.map_eq_some_iff.1 infoBy
 simp only [Prod.mk.injEq] at hzz
 obtain ⟨hz, hs, hby⟩ := hzz
 have hmax : maxLen = 9223372036854775807 := by decide
 have hlen : (xs ++ news).length = (n + m) * 1 := by rw [List.length_append, hxl, hl, Nat.mul_one]
 rcases A with _ | b
 ·obtain rfl := h0 rfl
  obtain rfl : xs = [] := List.eq_nil_of_length_eq_zero hxl
  have hr := run_append_nil (P := Try.prog) (w := w) 85 ty 5 i (.int .u8 0) Try.underlying85 hi hz ad m c news (by rw [hs]; omega) hnews hm0 (by omega) (by rw [hby]; omega)
  have hge := grownCap_ge w m 0 5
  have hcm2 : grownCap w m 0 5 ≤ maxLen := grownCap_le_maxLen w m 0 5 (by omega)
  refine ⟨_, _, hr, ⟨hlen, .inr ⟨w.heap.size, _, _, by rw [Nat.zero_add], hbase, heap_alloc_new w.drew _, by omega, hcm2, ?_, ?_⟩⟩, ⟨rfl, rfl, rfl, by simp, fun k hk _ => heap_alloc_old w.drew _ hk⟩⟩
  ·simp only [Array.size_append, List.size_toArray, size_zeroCells, hl, Value.cells]
   simp
   omega
  ·simp only [Array.toList_append, List.nil_append]
   rw [show (0 + m) * 1 = news.length by omega]
   exact List.take_left
 ·have hr := run_append_grow (P := Try.prog) (w := w) 85 ty 5 i (.int .u8 0) Try.underlying85 hi hz b n n xs (by rw [hs]; omega) (holds b rfl) ad m c news (by rw [hs]; omega) hnews (by omega) (by omega) (by rw [hby]; exact next_wide (by omega) hb)
  have hge := grownCap_ge w (n + m) n 5
  have hcm2 : grownCap w (n + m) n 5 ≤ maxLen := grownCap_le_maxLen w (n + m) n 5 (by omega)
  refine ⟨_, _, hr, ⟨hlen, .inr ⟨w.heap.size, _, _, rfl, hbase, heap_alloc_new w.drew _, hge, hcm2, ?_, ?_⟩⟩, ⟨rfl, rfl, rfl, by simp, fun k hk _ => heap_alloc_old w.drew _ hk⟩⟩
  ·simp only [Array.size_append, List.size_toArray, size_zeroCells, hxl, hl, Value.cells]
   simp
   omega
  ·simp only [Array.toList_append, List.append_assoc]
   rw [← List.append_assoc, ← hlen]
   exact List.take_left
section
variable {ops : Array Oper} {rest : List Oper} {o : Oper} {a : Act} {Q : Exit → Act → World → Prop}
theorem enc_snoc (xs : List UInt8) (p : UInt8) : encs (Value.int .u8) (bys xs) ++ [Value.int .u8 (p.toNat : Int)] = nums .u8 (bys (xs ++ [p])) := by
 simp [encs, nums, bys]
theorem BRw_append {w0 W : World} (base : Nat) (hgd : o.guard = none) (s x : Operand)
  (ho : o.op = .call { callee := .builtin .append, args := #[s, x], argTypes := #[85, 85] })
  (v : Value) (xs : List UInt8) (p : UInt8) (z : Int) (hz : z = (p.toNat : Int)) (hs : a.eval s = v) (hx : a.eval x = .slice (some ⟨W.heap.size, 0, none⟩) 1 1)
  (HV : BR W base v xs) (HB : Below base w0 W) (hbase : base ≤ W.heap.size) (hl : xs.length + 1 ≤ 200000000000000)
  (h : ∀ v1 w1, (Kd.int .u8).R 5 w1 base (fun _ => True) v1 (bys (xs ++ [p])) → Below base w0 w1 → wpList Try.prog ops Q rest (a.put o.dst v1) w1) :
  wpList Try.prog ops Q (o :: rest) a (W.alloc (.cells #[.int .u8 z] 5)) := by
 subst hz
 refine wpList_plain hgd fun K hK => ?_
 have hnews : ∀ j u, [Value.int .u8 (p.toNat : Int)][j]? = some u → (W.alloc (.cells #[.int .u8 (p.toNat : Int)] 5)).cell? ((⟨W.heap.size, 0, none⟩ : Addr).add j) = some u := World.news_of_block (cs := #[.int .u8 (p.toNat : Int)]) (t := 5) (fr := (0, 0)) (heap_alloc_new W _)
 rcases HV with HO | ⟨A, rfl, hC⟩
 ·have hown := Kd.own_of_R HO
  obtain ⟨v', w', hr, h2, h3⟩ := run_wide base o.type v _ _ (own_alloc hown (.cells #[.int .u8 (p.toNat : Int)] 5)) ⟨W.heap.size, 0, none⟩ 1 1 [.int .u8 (p.toNat : Int)] rfl hnews (by simp [Value.oneCell']) (by rw [bys_len]; omega) (by omega) (by simp; omega)
  unfold Oper.wp execOp
  simp only [ho, resolve, invoke, builtin, Sem.run_bind, Sem.run_pure, Result.andThen_ok, List.map_toArray, List.map_cons, List.map_nil, hs, hx, hr]
  refine hK _ _ (h v' w' (own_R (n := (bys xs).length + 1) ?_ ?_) ((HB.alloc hbase _).grown h3 (by simp; omega) (own_base hown)))
  ·rw [← enc_snoc]; exact h2
  ·simp [bys_len]
 ·have hb2 := below_alloc (Below.refl W.heap.size W) (.cells #[.int .u8 (p.toNat : Int)] 5)
  have hR := Kd.reads_of_C (enc := Value.int .u8) (d := (0 : Int)) (h1 := fun _ => rfl) (Kd.C_below hC hb2)
  obtain ⟨v', w', hr, h2, h3⟩ := run_wide_grow (w := W.alloc (.cells #[.int .u8 (p.toNat : Int)] 5)) base o.type A xs.length (encs (Value.int .u8) (bys xs)) (by simp [encs, bys]) (fun e => by
   rcases Nat.eq_zero_or_pos xs.length with h0 | h0
   ·exact h0
   ·obtain ⟨ad, e2, _⟩ := hR.2.2 h0
    rw [e] at e2; cases e2) (fun b e j u hj => by
   have hj' : j < (bys xs).length := by
    rcases Nat.lt_or_ge j (bys xs).length with h | h
    ·exact h
    ·rw [encs, List.getElem?_eq_none (by simpa using h)] at hj; cases hj
   obtain ⟨ad, e2, hc⟩ := hR.2.2 (by rw [bys_len] at hj'; omega)
   rw [e] at e2; cases e2
   rw [hc j (by rw [bys_len] at hj'; exact hj')]
   rw [encs, List.getElem?_map, List.getElem?_eq_getElem hj'] at hj
   cases hj
   rw [List.getD_eq_getElem?_getD, List.getElem?_eq_getElem hj']
   rfl) ⟨W.heap.size, 0, none⟩ 1 1 [.int .u8 (p.toNat : Int)] rfl hnews (by decide) hl (by simp; omega)
  unfold Oper.wp execOp
  simp only [ho, resolve, invoke, builtin, Sem.run_bind, Sem.run_pure, Result.andThen_ok, List.map_toArray, List.map_cons, List.map_nil, hs, hx, hr]
  refine hK _ _ (h v' w' (own_R (n := xs.length + 1) ?_ ?_) ((HB.alloc hbase _).grown h3 (by simp; omega) (fun k hk => by cases hk)))
  ·rw [← enc_snoc]; exact h2
  ·simp [bys_len]
/-- a text behind bytes -/
theorem strw_append {w0 W : World} (base : Nat) (hgd : o.guard = none) (s x : Operand)
  (ho : o.op = .call { callee := .builtin .append, args := #[s, x], argTypes := #[85, 9] })
  (v : Value) (xs : List Int) (y : ByteArray) (hs : a.eval s = v) (hx : a.eval x = .string y)
  (HO : W.ownsRow base 5 1 v xs.length (nums .u8 xs)) (HB : Below base w0 W) (hbase : base ≤ W.heap.size) (hl : xs.length + y.size ≤ 200000000000000) (hy : y.size ≤ 140737488355328)
  (h : ∀ v1 w1, w1.ownsRow base 5 1 v1 (xs ++ bytesOf y).length (nums .u8 (xs ++ bytesOf y)) → Below base w0 w1 → W.grownBy w1 v.ownBlock → wpList Try.prog ops Q rest (a.put o.dst v1) w1) :
  wpList Try.prog ops Q (o :: rest) a W := by
 refine wpList_plain hgd fun K hK => ?_
 obtain ⟨v', w', hr, h2, h3⟩ := run_wide_str base o.type v _ _ HO y hl hy hbase
 have hl2 : (xs ++ bytesOf y).length = xs.length + y.size := by rw [List.length_append, bytesOf_length]
 have hc : nums .u8 (xs ++ bytesOf y) = nums .u8 xs ++ Lib.strCells y := by
  simp [nums, bytesOf, Lib.strCells]
 unfold Oper.wp execOp
 simp only [ho, resolve, invoke, builtin, Sem.run_bind, Sem.run_pure, Result.andThen_ok, List.map_toArray, List.map_cons, List.map_nil, hs, hx, hr]
 exact hK _ _ (h v' w' (by rw [hl2, hc]; exact h2) (HB.grown h3 hbase (own_base HO)) h3)
end
end Go.Proofs.Yteafilojjdfllaa
end
section
namespace Go.Proofs.Yteafilojjdfllaa
open Go Go.RowKit Go.Proofs.YteafilojjdfllaaW.PrintWords Go.Proofs.YteafilojjdfllaaW.PrintLast Go.Proofs.YteafilojjdfllaaW.PrintMore Go.Proofs.Yteafilojjdfllaa.PAll
set_option linter.unusedVariables false
set_option linter.unusedSimpArgs false
set_option maxRecDepth 100000 in
set_option maxHeartbeats 8000000 in
/-- vint.put. -/
theorem putw162 (w : World) (A : Option Addr) (bs : List UInt8) (v : Nat) (hv : v < 18446744073709551616) (hl : bs.length ≤ 199999999999000) (hC : (Kd.int .u8).C w A bs.length (bys bs)) :
  Calls Try.prog 162 #[.slice A bs.length bs.length, .int .u64 v] w fun e w' => ∃ o, e = .returned o ∧ (Kd.int .u8).R 5 w' w.heap.size (fun _ => True) o (bys (bs ++ encV v)) ∧ Below w.heap.size w w' := by
 have HC := Lib.hid hC
 have h10 := encV_ten hv
 clear hC
 go_enter Try.func162, Try.ntmps162
 go_wp2
 go_loopw [0, 1] (fun u0 u1 wr => ∃ (xs : List UInt8) (v' : Nat), u1 = .int .u64 v' ∧ v' < 18446744073709551616 ∧ xs.length ≤ bs.length + 10 ∧ Hid (bs ++ encV v = xs ++ encV v') ∧ Hid (BR wr w.heap.size u0 xs) ∧ Hid (Below w.heap.size w wr)) (fun _ u1 _ => (intOf u1).toNat)
 case atStart => exact ⟨bs, v, rfl, hv, by omega, Lib.hid rfl, Lib.hid (.inr ⟨A, rfl, HC.out⟩), Lib.hid (Below.refl _ _)⟩
 case round =>
  obtain ⟨xs, v', rfl, hv', hxl, HE, HR, HB⟩ := hrel
  by_cases h128 : v' < 128
  ·have t1 : ¬ (128 : Int) ≤ (v' : Int) := by omega
   have hp := put_last h128
   obtain ⟨p, ep⟩ : ∃ p, v'.toUInt8 = p := ⟨_, rfl⟩
   rw [ep] at hp
   have HE2 := Lib.hid (show bs ++ encV v = xs ++ [p] from by rw [HE.out, encV_small h128, ep])
   have HP := Lib.hid hp
   clear ep hp
   go_wp2_with (at_builtin; refine BRw_append (w0 := w) w.heap.size rfl (.tmp 15) (.tmp 18) rfl u0 xs p (v' : Int) HP.out rfl (by first | rfl | simp) HR.out HB.out (below_size HB.out) (by omega) ?_; intro v1 w1 hown1 hbel1; have HR1 := Lib.hid hown1; clear hown1)
   go_ret
   exact ⟨_, rfl, by rw [HE2.out]; exact HR1.out, hbel1⟩
  ·have t1 : (128 : Int) ≤ (v' : Int) := by omega
   have hp := put_more v'
   obtain ⟨p, ep⟩ : ∃ p, (v' % 128 + 128).toUInt8 = p := ⟨_, rfl⟩
   rw [ep] at hp
   obtain ⟨v2, ev2⟩ : ∃ v2, v' / 128 = v2 := ⟨_, rfl⟩
   have hv2 : (v' : Int) / 128 = (v2 : Int) := by omega
   have hv2' : v2 < v' := by omega
   have hlen : (xs ++ [p]).length + (encV v2).length = bs.length + (encV v).length := by
    have := congrArg List.length HE.out
    rw [encV_great h128, ep, ev2] at this
    simp only [List.length_append, List.length_cons] at this ⊢
    simp
    omega
   have HE2 := Lib.hid (show bs ++ encV v = (xs ++ [p]) ++ encV v2 from by rw [HE.out, encV_great h128, ep, ev2]; simp)
   have hlen2 : (xs ++ [p]).length ≤ bs.length + 10 := by omega
   clear ep ev2 h128 hlen
   go_wp2_with (at_builtin; refine BRw_append (w0 := w) w.heap.size rfl (.tmp 7) (.tmp 11) rfl u0 xs p _ rfl rfl (by first | rfl | simp) HR.out HB.out (below_size HB.out) (by omega) ?_; intro v1 w1 hown1 hbel1; have HR1 := Lib.hid hown1; clear hown1)
   go_roundw
   case rel => exact ⟨xs ++ [p], v2, rfl, by omega, hlen2, HE2, Lib.hid (.inl HR1.out), Lib.hid hbel1⟩
   case measure => simp [intOf]; omega
set_option maxRecDepth 100000 in
set_option maxHeartbeats 4000000 in
/-- vint.Put. -/
theorem putw114 (w : World) (A : Option Addr) (n c : Nat) (bs : List UInt8) (v : Nat) (hn : bs.length = n) (hc : n ≤ c) (hv : v < 18446744073709551616) (hl : n ≤ 199999999999000) (hC : (Kd.int .u8).C w A bs.length (bys bs)) :
  Calls Try.prog 114 #[.slice A n c, .int .u64 v] w (PutPost w (bs ++ encV v)) := by
 have h1 := Lib.hid (own163 w A n c hc (by omega))
 have h2 := putw162 w A bs v hv (by omega) hC
 rw [hn] at h2
 have H2 := Lib.hid h2
 clear hC h2 hn
 go_enter Try.func114, Try.ntmps114
 go_wp2_with fail
 (with_reducible refine h1.out.mono ?_)
 rintro e w1 ⟨rfl, rfl⟩
 go_wp2_with fail
 (with_reducible refine H2.out.mono ?_)
 rintro e w2 ⟨o, rfl, hR, hB⟩
 have HP := Lib.hid (PutPost.of hR hB)
 clear hR hB
 go_wp2
 go_ret
 exact HP.out
set_option maxRecDepth 100000 in
set_option maxHeartbeats 8000000 in
/-- vint.PutText. -/
theorem putTextw127 (w : World) (A : Option Addr) (n c : Nat) (bs : List UInt8) (s : ByteArray) (hn : bs.length = n) (hc : n ≤ c) (hs : s.size ≤ 1000000000000) (hl : n + s.size ≤ 199999999998900) (hC : (Kd.int .u8).C w A bs.length (bys bs)) :
  Calls Try.prog 127 #[.slice A n c, .string s] w (PutPost w (bs ++ encT s.data.toList)) := by
 have h1 := putw114 w A n c bs s.size hn hc (by omega) (by omega) hC
 have h10 := encV_ten (v := s.size) (by omega)
 obtain ⟨X, hX⟩ : ∃ X, bs ++ encV s.size = X := ⟨_, rfl⟩
 have hXl : X.length ≤ n + 10 := by rw [← hX, List.length_append]; omega
 rw [hX] at h1
 have HX := Lib.hid hX.symm
 have H1 := Lib.hid h1
 clear hC hX h1 hn
 go_enter Try.func127, Try.ntmps127
 go_wp2_with fail
 (with_reducible refine H1.out.mono ?_)
 rintro e w1 ⟨B, m, d, rfl, HN, hd, HR, hB⟩
 have HO := Lib.hid (Kd.own_of_R HR.out)
 have HB := Lib.hid hB
 clear HR hB
 go_wp2_with (at_builtin; refine strw_append (w0 := w) w.heap.size rfl (.tmp 9) (.tmp 10) rfl (.slice B m d) (bys X) s rfl rfl HO.out HB.out (below_size HB.out) (by rw [bys_len]; omega) (by omega) ?_; intro v2 w2 hown2 hb2 hg2; have HP := Lib.hid (text_post HX.out hown2 hb2); clear hown2 hb2 hg2; obtain ⟨B2, m2, d2, e2⟩ := post_slice HP.out; subst e2)
 go_ret
 exact HP.out
end Go.Proofs.Yteafilojjdfllaa
end
section
namespace Go.Proofs.Yteafilojjdfllaa
open Go Go.RowKit Go.Proofs.YteafilojjdfllaaW.PrintWords Go.Proofs.YteafilojjdfllaaW.PrintLast Go.Proofs.YteafilojjdfllaaW.PrintMore Go.Proofs.Yteafilojjdfllaa.PAll
set_option linter.unusedVariables false
set_option linter.unusedSimpArgs false
/-- bytes that are read -/
def BPo (w : World) (xs : List UInt8) (e : Ending) (w' : World) : Prop :=
 ∃ A n c, e = .returned (.slice A n c) ∧ Hid (xs.length = n) ∧ n ≤ c ∧ Hid ((Kd.int .u8).C w' A xs.length (bys xs)) ∧ Below w.heap.size w w'
theorem encML_app : ∀ (a b : List S25), encML (a ++ b) = encML a ++ encML b
 | [], b => by simp [encML]
 | k :: a, b => by rw [List.cons_append, encML, encML, encML_app a b, List.append_assoc]
theorem encML_take {ks : List S25} {j : Nat} (hj : j < ks.length) : encML (ks.take (j + 1)) = encML (ks.take j) ++ encM (ks.getD j z25) := by
 rw [List.take_succ_eq_append_getElem hj, encML_app, List.getD_eq_getElem?_getD, List.getElem?_eq_getElem hj, Option.getD_some]
 simp [encML]
theorem encML_le {ks : List S25} {j : Nat} (hj : j < ks.length) : (encML (ks.take j)).length + (encM (ks.getD j z25)).length ≤ (encML ks).length := by
 have h1 := encML_take hj
 have h2 := congrArg List.length (show encML ks = encML (ks.take (j + 1)) ++ encML (ks.drop (j + 1)) from by rw [← encML_app, List.take_append_drop])
 rw [h1] at h2
 simp only [List.length_append] at h2
 omega
theorem encM_0 : encM ⟨0, ⟨#[]⟩, ⟨#[]⟩, [], []⟩ = encV 0 ++ encML [] := by rw [encM]; simp [encML]
theorem encM_5 (ks : List S25) : encM ⟨5, ⟨#[]⟩, ⟨#[]⟩, [], ks⟩ = encV 5 ++ (encV ks.length ++ encML ks) := by rw [encM]; simp
theorem encM_6 (ks : List S25) : encM ⟨6, ⟨#[]⟩, ⟨#[]⟩, [], ks⟩ = encV 6 ++ (encV ks.length ++ encML ks) := by rw [encM]; simp
theorem encM_7 (ks : List S25) : encM ⟨7, ⟨#[]⟩, ⟨#[]⟩, [], ks⟩ = encV 7 ++ encML ks := by rw [encM]; simp
theorem encM_1 (n v : ByteArray) : encM ⟨1, n, v, [], []⟩ = encV 1 ++ (encT n.data.toList ++ encT v.data.toList) := by rw [encM]; simp
theorem encM_2 (n v : ByteArray) : encM ⟨2, n, v, [], []⟩ = encV 2 ++ (encT n.data.toList ++ encT v.data.toList) := by rw [encM]; simp
theorem encM_3 (n v : ByteArray) : encM ⟨3, n, v, [], []⟩ = encV 3 ++ (encT n.data.toList ++ encT v.data.toList) := by rw [encM]; simp
theorem encM_4 (n : ByteArray) (vs : List ByteArray) : encM ⟨4, n, ⟨#[]⟩, vs, []⟩ = encV 4 ++ (encT n.data.toList ++ (encV vs.length ++ vs.flatMap (fun x => encT x.data.toList))) := by rw [encM]; simp
set_option maxRecDepth 100000 in
set_option maxHeartbeats 16000000 in
theorem mput137 : ∀ (N : Nat) (m : S25), nodesM m ≤ N → okM m = true → nodesM m ≤ 64 → ∀ (A : Option Addr) (n c : Nat) (bs : List UInt8) (A3 : Option Addr) (c3 : Nat) (A4 : Option Addr) (c4 : Nat) (w : World), bs.length = n → n ≤ c → n + (encM m).length ≤ 199999999990000 → (Kd.int .u8).C w A bs.length (bys bs) → MC w m A3 c3 A4 c4 →
  Calls Try.prog 137 #[.slice A n c, .agg #[.int .i64 m.f0, .string m.f1, .string m.f2, .slice A3 m.f3.length c3, .slice A4 m.f4.length c4]] w (BPo w (bs ++ encM m)) := by
 intro N
 induction N with
 | zero => intro m h; rw [nodesM_mk] at h; omega
 | succ N ih =>
  intro m hN hok h64
  have IH := Lib.hid ih
  clear ih
  intro A n c bs A3 c3 A4 c4 w hn hc hlen hC hM
  rcases shape hok with rfl | ⟨op, nm, v, ho, hnb, rfl⟩ | ⟨nm, vs, hnb, rfl⟩ | ⟨op, ks, ho, hk, rfl⟩
  all_goals simp only at hM ⊢
  ·have hX : BoxM (w.alloc (.cells #[.int .i64 0, .string ⟨#[]⟩, .string ⟨#[]⟩, .slice A3 0 c3, .slice A4 0 c4] 25)) w.heap.size 0 ⟨#[]⟩ ⟨#[]⟩ (.slice A3 0 c3) (.slice A4 0 c4) := blk_new w _
   have hBV := below_alloc (Below.refl w.heap.size w) (.cells #[.int .i64 0, .string ⟨#[]⟩, .string ⟨#[]⟩, .slice A3 0 c3, .slice A4 0 c4] 25)
   have h1 : Calls Try.prog 114 #[.slice A n c, .int .u64 0] (w.alloc (.cells #[.int .i64 0, .string ⟨#[]⟩, .string ⟨#[]⟩, .slice A3 0 c3, .slice A4 0 c4] 25)) (PutPost (w.alloc (.cells #[.int .i64 0, .string ⟨#[]⟩, .string ⟨#[]⟩, .slice A3 0 c3, .slice A4 0 c4] 25)) (bs ++ encV 0)) := putw114 _ A n c bs 0 hn hc (by decide) (by omega) (Kd.C_below hC hBV)
   obtain ⟨V, eV⟩ : ∃ V, V = (w.alloc (.cells #[.int .i64 0, .string ⟨#[]⟩, .string ⟨#[]⟩, .slice A3 0 c3, .slice A4 0 c4] 25)) := ⟨_, rfl⟩
   rw [← eV] at hX hBV h1
   have H1 := Lib.hid h1
   have HN := Lib.hid hn
   have HX := Lib.hid hX
   have HBV := Lib.hid hBV
   have HM := Lib.hid hM
   have c0 := hX.c0
   have hv10 := encV_ten (v := 0) (by decide)
   have hE := encM_0
   have HE := Lib.hid hE
   have hlt : n + (encM ⟨0, ⟨#[]⟩, ⟨#[]⟩, [], []⟩).length ≤ 199999999990000 := hlen
   rw [hE] at hlt
   simp only [List.length_append] at hlt
   clear hM hC h1 hX hBV hn hE
   go_enter Try.func137, Try.ntmps137
   go_wp2_with fail
   rw [← eV]
   (with_reducible refine H1.out.mono ?_)
   rintro e w1 ⟨A1, n1, c1, rfl, HN1, hc1, HR1, hb1⟩
   have HC1 := Lib.hid (R_C HR1.out)
   have HX1 := Lib.hid (HX.out.below hb1)
   have HB1 := Lib.hid (below_step HBV.out hb1)
   have c0 := HX1.out.c0
   have c4 := HX1.out.c4
   have hn1 : n1 ≤ n + (encV 0).length := by have a := HN1.out; have b := HN.out; rw [List.length_append] at a; omega
   clear hb1 HR1 eV
   obtain ⟨X0, eX0⟩ : ∃ X, bs ++ encV 0 = X := ⟨_, rfl⟩
   rw [eX0] at HN1 HC1
   have HX0 := Lib.hid eX0
   clear eX0 H1
   go_wp2
   go_loopw [0, 8, 62] (fun u0 _ u62 wr => ∃ (j : Nat) (xs : List UInt8) (A' : Option Addr) (n' c' : Nat), u62 = .int .i64 j ∧ j ≤ 0 ∧ u0 = .slice A' n' c' ∧ n' ≤ c' ∧ n' ≤ n1 + (encML (([] : List S25).take j)).length ∧ Hid (xs.length = n') ∧ Hid (xs = X0 ++ encML (([] : List S25).take j)) ∧ Hid ((Kd.int .u8).C wr A' xs.length (bys xs)) ∧ Hid (Below w.heap.size w wr)) (fun _ _ u62 _ => 0 - (intOf u62).toNat)
   case atStart => exact ⟨0, X0, A1, n1, c1, rfl, Nat.zero_le _, rfl, hc1, by simp [encML], HN1, Lib.hid (by simp [encML]), HC1, HB1⟩
   case round =>
    clear HB1 HC1 HN1 hc1
    obtain ⟨j, xs, A', n', c', rfl, hj, rfl, hc', hn', HNx, HXx, HCx, HBx⟩ := hrel
    by_cases hlj : j < 0
    ·omega
    ·obtain rfl : j = 0 := by omega
     have HXf := Lib.hid (show xs = bs ++ encM ⟨0, ⟨#[]⟩, ⟨#[]⟩, [], []⟩ from by rw [HXx.out, ← HX0.out, HE.out]; simp [encML])
     rw [HXf.out] at HNx HCx
     go_wp2
     go_ret
     exact ⟨A', n', c', rfl, HNx, hc', HCx, HBx.out⟩
  ·rcases ho with rfl | rfl | rfl
   ·have hX : BoxM (w.alloc (.cells #[.int .i64 1, .string nm, .string v, .slice A3 0 c3, .slice A4 0 c4] 25)) w.heap.size 1 nm v (.slice A3 0 c3) (.slice A4 0 c4) := blk_new w _
    have hBV := below_alloc (Below.refl w.heap.size w) (.cells #[.int .i64 1, .string nm, .string v, .slice A3 0 c3, .slice A4 0 c4] 25)
    have h1 : Calls Try.prog 114 #[.slice A n c, .int .u64 1] (w.alloc (.cells #[.int .i64 1, .string nm, .string v, .slice A3 0 c3, .slice A4 0 c4] 25)) (PutPost (w.alloc (.cells #[.int .i64 1, .string nm, .string v, .slice A3 0 c3, .slice A4 0 c4] 25)) (bs ++ encV 1)) := putw114 _ A n c bs 1 hn hc (by decide) (by omega) (Kd.C_below hC hBV)
    obtain ⟨V, eV⟩ : ∃ V, V = (w.alloc (.cells #[.int .i64 1, .string nm, .string v, .slice A3 0 c3, .slice A4 0 c4] 25)) := ⟨_, rfl⟩
    rw [← eV] at hX hBV h1
    have H1 := Lib.hid h1
    have HN := Lib.hid hn
    have HX := Lib.hid hX
    have HBV := Lib.hid hBV
    have c0 := hX.c0
    have hv10 := encV_ten (v := 1) (by decide)
    have hE := encM_1 nm v
    have hlt : n + (encM ⟨1, nm, v, [], []⟩).length ≤ 199999999990000 := hlen
    rw [hE] at hlt
    simp only [List.length_append] at hlt
    have hz := (leaf_sizes hok).1 (by simp)
    have hz1 : nm.size ≤ 32 := by have := hz.1; simpa using this
    have hz2 : v.size ≤ 64 := by have := hz.2; simpa using this
    have HE := Lib.hid hE
    clear hM hC h1 hX hBV hn hE hz
    go_enter Try.func137, Try.ntmps137
    go_wp2_with fail
    rw [← eV]
    (with_reducible refine H1.out.mono ?_)
    rintro e w1 ⟨A1, n1, c1, rfl, HN1, hc1, HR1, hb1⟩
    have HC1 := Lib.hid (R_C HR1.out)
    have HX1 := Lib.hid (HX.out.below hb1)
    have HB1 := Lib.hid (below_step HBV.out hb1)
    have c0 := HX1.out.c0
    have hn1 : n1 ≤ n + (encV 1).length := by have a := HN1.out; have b := HN.out; rw [List.length_append] at a; omega
    obtain ⟨X0, eX0⟩ : ∃ X, bs ++ encV 1 = X := ⟨_, rfl⟩
    rw [eX0] at HN1 HC1
    have HX0 := Lib.hid eX0
    clear hb1 HR1 eV eX0
    go_wp2_with fail
    have f1 := fun W (hb : Below w1.heap.size w1 W) => pw_cell_below hb HX1.out.c1
    have f2 := fun W (hb : Below w1.heap.size w1 W) => pw_cell_below hb HX1.out.c2
    go_region_held3 (fun W => Below w1.heap.size w1 W)
     (first | exact below_drew (Below.refl _ _) | exact HK6.out | exact HK5.out)
     (first
      | (go_at_call 127; (with_reducible refine (putTextw127 _ A1 n1 c1 X0 nm HN1.out hc1 (by omega) (by omega) (Kd.C_below HC1.out (by assumption))).mono ?_); rintro e w5 ⟨A5, n5, c5, rfl, HN5, hc5, HR5, hb5⟩; have HK5 := Lib.hid (show Below w1.heap.size w1 w5 from below_step (by assumption) hb5); clear hb5)
      | (go_at_call 127; (with_reducible refine (putTextw127 _ A5 n5 c5 (X0 ++ encT nm.data.toList) v HN5.out hc5 (by omega) (by have a := HN5.out; have b := HN1.out; simp only [List.length_append] at a; omega) (Kd.C_below (R_C HR5.out) (by first | assumption | exact Below.refl _ _))).mono ?_); rintro e w6 ⟨A6, n6, c6, rfl, HN6, hc6, HR6, hb6⟩; have HK6 := Lib.hid (show Below w1.heap.size w1 w6 from below_step (by first | assumption | exact HK5.out) hb6); clear hb6))
    have HXf := Lib.hid (show (X0 ++ encT nm.data.toList) ++ encT v.data.toList = bs ++ encM ⟨1, nm, v, [], []⟩ from by rw [← HX0.out, HE.out]; simp)
    have HC6 := Lib.hid (R_C HR6.out)
    rw [HXf.out] at HN6 HC6
    have HBf := Lib.hid (below_step HB1.out HK6.out)
    clear f1 f2
    go_wp2
    go_ret
    exact ⟨A6, n6, c6, rfl, HN6, hc6, HC6, HBf.out⟩
   ·have hX : BoxM (w.alloc (.cells #[.int .i64 2, .string nm, .string v, .slice A3 0 c3, .slice A4 0 c4] 25)) w.heap.size 2 nm v (.slice A3 0 c3) (.slice A4 0 c4) := blk_new w _
    have hBV := below_alloc (Below.refl w.heap.size w) (.cells #[.int .i64 2, .string nm, .string v, .slice A3 0 c3, .slice A4 0 c4] 25)
    have h1 : Calls Try.prog 114 #[.slice A n c, .int .u64 2] (w.alloc (.cells #[.int .i64 2, .string nm, .string v, .slice A3 0 c3, .slice A4 0 c4] 25)) (PutPost (w.alloc (.cells #[.int .i64 2, .string nm, .string v, .slice A3 0 c3, .slice A4 0 c4] 25)) (bs ++ encV 2)) := putw114 _ A n c bs 2 hn hc (by decide) (by omega) (Kd.C_below hC hBV)
    obtain ⟨V, eV⟩ : ∃ V, V = (w.alloc (.cells #[.int .i64 2, .string nm, .string v, .slice A3 0 c3, .slice A4 0 c4] 25)) := ⟨_, rfl⟩
    rw [← eV] at hX hBV h1
    have H1 := Lib.hid h1
    have HN := Lib.hid hn
    have HX := Lib.hid hX
    have HBV := Lib.hid hBV
    have c0 := hX.c0
    have hv10 := encV_ten (v := 2) (by decide)
    have hE := encM_2 nm v
    have hlt : n + (encM ⟨2, nm, v, [], []⟩).length ≤ 199999999990000 := hlen
    rw [hE] at hlt
    simp only [List.length_append] at hlt
    have hz := (leaf_sizes hok).1 (by simp)
    have hz1 : nm.size ≤ 32 := by have := hz.1; simpa using this
    have hz2 : v.size ≤ 64 := by have := hz.2; simpa using this
    have HE := Lib.hid hE
    clear hM hC h1 hX hBV hn hE hz
    go_enter Try.func137, Try.ntmps137
    go_wp2_with fail
    rw [← eV]
    (with_reducible refine H1.out.mono ?_)
    rintro e w1 ⟨A1, n1, c1, rfl, HN1, hc1, HR1, hb1⟩
    have HC1 := Lib.hid (R_C HR1.out)
    have HX1 := Lib.hid (HX.out.below hb1)
    have HB1 := Lib.hid (below_step HBV.out hb1)
    have c0 := HX1.out.c0
    have hn1 : n1 ≤ n + (encV 2).length := by have a := HN1.out; have b := HN.out; rw [List.length_append] at a; omega
    obtain ⟨X0, eX0⟩ : ∃ X, bs ++ encV 2 = X := ⟨_, rfl⟩
    rw [eX0] at HN1 HC1
    have HX0 := Lib.hid eX0
    clear hb1 HR1 eV eX0
    go_wp2_with fail
    have f1 := fun W (hb : Below w1.heap.size w1 W) => pw_cell_below hb HX1.out.c1
    have f2 := fun W (hb : Below w1.heap.size w1 W) => pw_cell_below hb HX1.out.c2
    go_region_held3 (fun W => Below w1.heap.size w1 W)
     (first | exact below_drew (Below.refl _ _) | exact HK6.out | exact HK5.out)
     (first
      | (go_at_call 127; (with_reducible refine (putTextw127 _ A1 n1 c1 X0 nm HN1.out hc1 (by omega) (by omega) (Kd.C_below HC1.out (by assumption))).mono ?_); rintro e w5 ⟨A5, n5, c5, rfl, HN5, hc5, HR5, hb5⟩; have HK5 := Lib.hid (show Below w1.heap.size w1 w5 from below_step (by assumption) hb5); clear hb5)
      | (go_at_call 127; (with_reducible refine (putTextw127 _ A5 n5 c5 (X0 ++ encT nm.data.toList) v HN5.out hc5 (by omega) (by have a := HN5.out; have b := HN1.out; simp only [List.length_append] at a; omega) (Kd.C_below (R_C HR5.out) (by first | assumption | exact Below.refl _ _))).mono ?_); rintro e w6 ⟨A6, n6, c6, rfl, HN6, hc6, HR6, hb6⟩; have HK6 := Lib.hid (show Below w1.heap.size w1 w6 from below_step (by first | assumption | exact HK5.out) hb6); clear hb6))
    have HXf := Lib.hid (show (X0 ++ encT nm.data.toList) ++ encT v.data.toList = bs ++ encM ⟨2, nm, v, [], []⟩ from by rw [← HX0.out, HE.out]; simp)
    have HC6 := Lib.hid (R_C HR6.out)
    rw [HXf.out] at HN6 HC6
    have HBf := Lib.hid (below_step HB1.out HK6.out)
    clear f1 f2
    go_wp2
    go_ret
    exact ⟨A6, n6, c6, rfl, HN6, hc6, HC6, HBf.out⟩
   ·have hX : BoxM (w.alloc (.cells #[.int .i64 3, .string nm, .string v, .slice A3 0 c3, .slice A4 0 c4] 25)) w.heap.size 3 nm v (.slice A3 0 c3) (.slice A4 0 c4) := blk_new w _
    have hBV := below_alloc (Below.refl w.heap.size w) (.cells #[.int .i64 3, .string nm, .string v, .slice A3 0 c3, .slice A4 0 c4] 25)
    have h1 : Calls Try.prog 114 #[.slice A n c, .int .u64 3] (w.alloc (.cells #[.int .i64 3, .string nm, .string v, .slice A3 0 c3, .slice A4 0 c4] 25)) (PutPost (w.alloc (.cells #[.int .i64 3, .string nm, .string v, .slice A3 0 c3, .slice A4 0 c4] 25)) (bs ++ encV 3)) := putw114 _ A n c bs 3 hn hc (by decide) (by omega) (Kd.C_below hC hBV)
    obtain ⟨V, eV⟩ : ∃ V, V = (w.alloc (.cells #[.int .i64 3, .string nm, .string v, .slice A3 0 c3, .slice A4 0 c4] 25)) := ⟨_, rfl⟩
    rw [← eV] at hX hBV h1
    have H1 := Lib.hid h1
    have HN := Lib.hid hn
    have HX := Lib.hid hX
    have HBV := Lib.hid hBV
    have c0 := hX.c0
    have hv10 := encV_ten (v := 3) (by decide)
    have hE := encM_3 nm v
    have hlt : n + (encM ⟨3, nm, v, [], []⟩).length ≤ 199999999990000 := hlen
    rw [hE] at hlt
    simp only [List.length_append] at hlt
    have hz := (leaf_sizes hok).1 (by simp)
    have hz1 : nm.size ≤ 32 := by have := hz.1; simpa using this
    have hz2 : v.size ≤ 64 := by have := hz.2; simpa using this
    have HE := Lib.hid hE
    clear hM hC h1 hX hBV hn hE hz
    go_enter Try.func137, Try.ntmps137
    go_wp2_with fail
    rw [← eV]
    (with_reducible refine H1.out.mono ?_)
    rintro e w1 ⟨A1, n1, c1, rfl, HN1, hc1, HR1, hb1⟩
    have HC1 := Lib.hid (R_C HR1.out)
    have HX1 := Lib.hid (HX.out.below hb1)
    have HB1 := Lib.hid (below_step HBV.out hb1)
    have c0 := HX1.out.c0
    have hn1 : n1 ≤ n + (encV 3).length := by have a := HN1.out; have b := HN.out; rw [List.length_append] at a; omega
    obtain ⟨X0, eX0⟩ : ∃ X, bs ++ encV 3 = X := ⟨_, rfl⟩
    rw [eX0] at HN1 HC1
    have HX0 := Lib.hid eX0
    clear hb1 HR1 eV eX0
    go_wp2_with fail
    have f1 := fun W (hb : Below w1.heap.size w1 W) => pw_cell_below hb HX1.out.c1
    have f2 := fun W (hb : Below w1.heap.size w1 W) => pw_cell_below hb HX1.out.c2
    go_region_held3 (fun W => Below w1.heap.size w1 W)
     (first | exact below_drew (Below.refl _ _) | exact HK6.out | exact HK5.out)
     (first
      | (go_at_call 127; (with_reducible refine (putTextw127 _ A1 n1 c1 X0 nm HN1.out hc1 (by omega) (by omega) (Kd.C_below HC1.out (by assumption))).mono ?_); rintro e w5 ⟨A5, n5, c5, rfl, HN5, hc5, HR5, hb5⟩; have HK5 := Lib.hid (show Below w1.heap.size w1 w5 from below_step (by assumption) hb5); clear hb5)
      | (go_at_call 127; (with_reducible refine (putTextw127 _ A5 n5 c5 (X0 ++ encT nm.data.toList) v HN5.out hc5 (by omega) (by have a := HN5.out; have b := HN1.out; simp only [List.length_append] at a; omega) (Kd.C_below (R_C HR5.out) (by first | assumption | exact Below.refl _ _))).mono ?_); rintro e w6 ⟨A6, n6, c6, rfl, HN6, hc6, HR6, hb6⟩; have HK6 := Lib.hid (show Below w1.heap.size w1 w6 from below_step (by first | assumption | exact HK5.out) hb6); clear hb6))
    have HXf := Lib.hid (show (X0 ++ encT nm.data.toList) ++ encT v.data.toList = bs ++ encM ⟨3, nm, v, [], []⟩ from by rw [← HX0.out, HE.out]; simp)
    have HC6 := Lib.hid (R_C HR6.out)
    rw [HXf.out] at HN6 HC6
    have HBf := Lib.hid (below_step HB1.out HK6.out)
    clear f1 f2
    go_wp2
    go_ret
    exact ⟨A6, n6, c6, rfl, HN6, hc6, HC6, HBf.out⟩
  ·have hX : BoxM (w.alloc (.cells #[.int .i64 4, .string nm, .string ⟨#[]⟩, .slice A3 vs.length c3, .slice A4 0 c4] 25)) w.heap.size 4 nm ⟨#[]⟩ (.slice A3 vs.length c3) (.slice A4 0 c4) := blk_new w _
   have hBV := below_alloc (Below.refl w.heap.size w) (.cells #[.int .i64 4, .string nm, .string ⟨#[]⟩, .slice A3 vs.length c3, .slice A4 0 c4] 25)
   have h1 : Calls Try.prog 114 #[.slice A n c, .int .u64 4] (w.alloc (.cells #[.int .i64 4, .string nm, .string ⟨#[]⟩, .slice A3 vs.length c3, .slice A4 0 c4] 25)) (PutPost (w.alloc (.cells #[.int .i64 4, .string nm, .string ⟨#[]⟩, .slice A3 vs.length c3, .slice A4 0 c4] 25)) (bs ++ encV 4)) := putw114 _ A n c bs 4 hn hc (by decide) (by omega) (Kd.C_below hC hBV)
   obtain ⟨V, eV⟩ : ∃ V, V = (w.alloc (.cells #[.int .i64 4, .string nm, .string ⟨#[]⟩, .slice A3 vs.length c3, .slice A4 0 c4] 25)) := ⟨_, rfl⟩
   rw [← eV] at hX hBV h1
   have H1 := Lib.hid h1
   have HN := Lib.hid hn
   have HX := Lib.hid hX
   have HBV := Lib.hid hBV
   have c0 := hX.c0
   have hv10 := encV_ten (v := 4) (by decide)
   have hE := encM_4 nm vs
   have hlt : n + (encM ⟨4, nm, ⟨#[]⟩, vs, []⟩).length ≤ 199999999990000 := hlen
   rw [hE] at hlt
   simp only [List.length_append] at hlt
   have hz := (leaf_sizes hok).2 rfl
   simp only at hz
   have hz1 : nm.size ≤ 32 := by have := hz.1; simpa using this
   have hvs : vs.length ≤ 16 := hz.2.1
   have HZ := Lib.hid hz.2.2
   have HE := Lib.hid hE
   have HRv := Lib.hid (fun W (h : Below w.heap.size w W) => Kd.reads_of_C (enc := Value.string) (d := ByteArray.empty) (h1 := fun _ => rfl) (Kd.C_below hM.2.1 h))
   clear hM hC h1 hX hBV hn hE hz
   go_enter Try.func137, Try.ntmps137
   go_wp2_with fail
   rw [← eV]
   (with_reducible refine H1.out.mono ?_)
   rintro e w1 ⟨A1, n1, c1, rfl, HN1, hc1, HR1, hb1⟩
   have HC1 := Lib.hid (R_C HR1.out)
   have HX1 := Lib.hid (HX.out.below hb1)
   have HB1 := Lib.hid (below_step HBV.out hb1)
   have c0 := HX1.out.c0
   have hn1 : n1 ≤ n + (encV 4).length := by have a := HN1.out; have b := HN.out; rw [List.length_append] at a; omega
   obtain ⟨X0, eX0⟩ : ∃ X, bs ++ encV 4 = X := ⟨_, rfl⟩
   rw [eX0] at HN1 HC1
   have HX0 := Lib.hid eX0
   clear hb1 HR1 eV eX0
   go_wp2_with fail
   have f1 := fun W (hb : Below w1.heap.size w1 W) => pw_cell_below hb HX1.out.c1
   have f3 := fun W (hb : Below w1.heap.size w1 W) => pw_cell_below hb HX1.out.c3
   have HP4 : Hid (∀ (W : World) (A5 : Option Addr) (n5 c5 : Nat) (xs : List UInt8), xs.length = n5 → n5 ≤ c5 → n5 ≤ 199999999999000 → (Kd.int .u8).C W A5 xs.length (bys xs) → Calls Try.prog 114 #[.slice A5 n5 c5, .int .u64 (IntKind.u64.wrap (vs.length : Int))] W (PutPost W (xs ++ encV vs.length))) := Lib.hid (fun W A5 n5 c5 xs h1 h2 h3 h4 => by
    rw [show IntKind.u64.wrap (vs.length : Int) = (vs.length : Int) by rw [IntKind.wrap_u64]; omega]
    exact putw114 W A5 n5 c5 xs vs.length h1 h2 (by omega) h3 h4)
   go_region_held3 (fun W => Below w1.heap.size w1 W)
    (first | exact below_drew (Below.refl _ _) | exact HK6.out | exact HK5.out)
    (first
     | (go_at_call 127; (with_reducible refine (putTextw127 _ A1 n1 c1 X0 nm HN1.out hc1 (by omega) (by omega) (Kd.C_below HC1.out (by assumption))).mono ?_); rintro e w5 ⟨A5, n5, c5, rfl, HN5, hc5, HR5, hb5⟩; have HK5 := Lib.hid (show Below w1.heap.size w1 w5 from below_step (by assumption) hb5); clear hb5)
     | (go_at_call 114; (with_reducible refine (HP4.out _ A5 n5 c5 (X0 ++ encT nm.data.toList) HN5.out hc5 (by have a := HN5.out; have b := HN1.out; simp only [List.length_append] at a; omega) (Kd.C_below (R_C HR5.out) (by first | assumption | exact Below.refl _ _))).mono ?_); rintro e w6 ⟨A6, n6, c6, rfl, HN6, hc6, HR6, hb6⟩; have HK6 := Lib.hid (show Below w1.heap.size w1 w6 from below_step (by first | assumption | exact HK5.out) hb6); clear hb6))
   obtain ⟨X2, eX2⟩ : ∃ X, (X0 ++ encT nm.data.toList) ++ encV vs.length = X := ⟨_, rfl⟩
   have hn6 : n6 ≤ n1 + (encT nm.data.toList).length + (encV vs.length).length := by have a := HN6.out; have b := HN1.out; simp only [List.length_append] at a; omega
   have HC6 := Lib.hid (R_C HR6.out)
   rw [eX2] at HN6 HC6
   have HX2 := Lib.hid eX2
   have HB6 := Lib.hid (below_step HB1.out HK6.out)
   have c3 := (HX1.out.below HK6.out).c3
   clear f1 f3 eX2 HR6 HR5 HN5 hc5 HK5 HN1 HC1 HB1
   go_wp2
   go_loopw [0, 6, 41] (fun u0 _ u41 wr => ∃ (j : Nat) (xs : List UInt8) (A' : Option Addr) (n' c' : Nat), u41 = .int .i64 j ∧ j ≤ vs.length ∧ u0 = .slice A' n' c' ∧ n' ≤ c' ∧ n' ≤ n6 + ((vs.take j).flatMap (fun x => encT x.data.toList)).length ∧ Hid (xs.length = n') ∧ Hid (xs = X2 ++ (vs.take j).flatMap (fun x => encT x.data.toList)) ∧ Hid ((Kd.int .u8).C wr A' xs.length (bys xs)) ∧ Hid (Below w.heap.size w wr)) (fun _ _ u41 _ => vs.length - (intOf u41).toNat)
   case atStart => exact ⟨0, X2, A6, n6, c6, rfl, Nat.zero_le _, rfl, hc6, by simp, HN6, Lib.hid (by simp), HC6, HB6⟩
   case round =>
    clear HB6 HC6 HN6 hc6
    obtain ⟨j, xs, A', n', c', rfl, hj, rfl, hc', hn', HNx, HXx, HCx, HBx⟩ := hrel
    by_cases hlj : j < vs.length
    ·have hltI : (j : Int) < (vs.length : Int) := by omega
     obtain ⟨ad, rfl, kk⟩ := (HRv.out _ HBx.out).2.2 (by omega)
     have k0 := kk j hlj
     clear kk
     obtain ⟨y, ey⟩ : ∃ y, vs.getD j ByteArray.empty = y := ⟨_, rfl⟩
     rw [ey] at k0
     have hym : y ∈ vs := by rw [← ey, List.getD_eq_getElem?_getD, List.getElem?_eq_getElem hlj]; simp
     have hy := HZ.out y hym
     have HT := Lib.hid (show (vs.take (j + 1)).flatMap (fun x => encT x.data.toList) = (vs.take j).flatMap (fun x => encT x.data.toList) ++ encT y.data.toList from by
      rw [List.take_succ_eq_append_getElem hlj, List.flatMap_append]
      rw [List.getD_eq_getElem?_getD, List.getElem?_eq_getElem hlj, Option.getD_some] at ey
      rw [ey]; simp)
     have hle : ((vs.take (j + 1)).flatMap (fun x => encT x.data.toList)).length ≤ (vs.flatMap (fun x => encT x.data.toList)).length := by
      have h2 := congrArg List.length (show vs.flatMap (fun x => encT x.data.toList) = (vs.take (j + 1)).flatMap (fun x => encT x.data.toList) ++ (vs.drop (j + 1)).flatMap (fun x => encT x.data.toList) from by rw [← List.flatMap_append, List.take_append_drop])
      rw [List.length_append] at h2
      omega
     have HL := Lib.hid (show ((vs.take (j + 1)).flatMap (fun x => encT x.data.toList)).length = ((vs.take j).flatMap (fun x => encT x.data.toList)).length + (encT y.data.toList).length from by rw [HT.out, List.length_append])
     have hnb2 : n' + y.size ≤ 199999999998900 := by have := HL.out; omega
     clear ey hym
     go_wp2_with fail
     (with_reducible refine (putTextw127 _ A' n' c' xs y HNx.out hc' (by omega) hnb2 HCx.out).mono ?_)
     rintro e w7 ⟨A7, n7, c7, rfl, HN7, hc7, HR7, hb7⟩
     have HB7 := Lib.hid (below_step HBx.out hb7)
     have hn7 : n7 ≤ n' + (encT y.data.toList).length := by have a := HN7.out; have b := HNx.out; rw [List.length_append] at a; omega
     have HX7 := Lib.hid (show xs ++ encT y.data.toList = X2 ++ (vs.take (j + 1)).flatMap (fun x => encT x.data.toList) from by rw [HXx.out, HT.out, List.append_assoc])
     have HC7 := Lib.hid (R_C HR7.out)
     clear hb7 HR7 k0
     go_wp2
     go_roundw
     case rel => exact ⟨j + 1, _, A7, n7, c7, by go_num, by omega, rfl, hc7, by have := HL.out; omega, HN7, HX7, HC7, HB7⟩
     case measure => simp [intOf]; omega
    ·obtain rfl : j = vs.length := by omega
     have HXf := Lib.hid (show xs = bs ++ encM ⟨4, nm, ⟨#[]⟩, vs, []⟩ from by rw [HXx.out, ← HX2.out, ← HX0.out, HE.out, List.take_length]; simp)
     rw [HXf.out] at HNx HCx
     go_wp2
     go_ret
     exact ⟨A', n', c', rfl, HNx, hc', HCx, HBx.out⟩
  ·have hks : ks.length ≤ 64 := by have a := len_nodesP ks; rw [nodesM_mk] at h64; simp only at h64; omega
   rcases ho with rfl | rfl | rfl
   ·have hX : BoxM (w.alloc (.cells #[.int .i64 5, .string ⟨#[]⟩, .string ⟨#[]⟩, .slice A3 0 c3, .slice A4 ks.length c4] 25)) w.heap.size 5 ⟨#[]⟩ ⟨#[]⟩ (.slice A3 0 c3) (.slice A4 ks.length c4) := blk_new w _
    have hBV := below_alloc (Below.refl w.heap.size w) (.cells #[.int .i64 5, .string ⟨#[]⟩, .string ⟨#[]⟩, .slice A3 0 c3, .slice A4 ks.length c4] 25)
    have h1 : Calls Try.prog 114 #[.slice A n c, .int .u64 5] (w.alloc (.cells #[.int .i64 5, .string ⟨#[]⟩, .string ⟨#[]⟩, .slice A3 0 c3, .slice A4 ks.length c4] 25)) (PutPost (w.alloc (.cells #[.int .i64 5, .string ⟨#[]⟩, .string ⟨#[]⟩, .slice A3 0 c3, .slice A4 ks.length c4] 25)) (bs ++ encV 5)) := putw114 _ A n c bs 5 hn hc (by decide) (by omega) (Kd.C_below hC hBV)
    obtain ⟨V, eV⟩ : ∃ V, V = (w.alloc (.cells #[.int .i64 5, .string ⟨#[]⟩, .string ⟨#[]⟩, .slice A3 0 c3, .slice A4 ks.length c4] 25)) := ⟨_, rfl⟩
    rw [← eV] at hX hBV h1
    have H1 := Lib.hid h1
    have HN := Lib.hid hn
    have HX := Lib.hid hX
    have HBV := Lib.hid hBV
    have HM := Lib.hid hM
    have c0 := hX.c0
    have hv10 := encV_ten (v := 5) (by decide)
    have hE := encM_5 ks
    have HE := Lib.hid hE
    have hlt : n + (encM ⟨5, ⟨#[]⟩, ⟨#[]⟩, [], ks⟩).length ≤ 199999999990000 := hlen
    rw [hE] at hlt
    simp only [List.length_append] at hlt
    clear hM hC h1 hX hBV hn hE
    go_enter Try.func137, Try.ntmps137
    go_wp2_with fail
    rw [← eV]
    (with_reducible refine H1.out.mono ?_)
    rintro e w1 ⟨A1, n1, c1, rfl, HN1, hc1, HR1, hb1⟩
    have HC1 := Lib.hid (R_C HR1.out)
    have HX1 := Lib.hid (HX.out.below hb1)
    have HB1 := Lib.hid (below_step HBV.out hb1)
    have c0 := HX1.out.c0
    have c4 := HX1.out.c4
    have hn1 : n1 ≤ n + (encV 5).length := by have a := HN1.out; have b := HN.out; rw [List.length_append] at a; omega
    clear hb1 HR1 eV
    have h2 := Lib.hid (putw114 w1 A1 n1 c1 (bs ++ encV 5) ks.length HN1.out hc1 (by omega) (by omega) HC1.out)
    go_wp2_with fail
    (with_reducible refine h2.out.mono ?_)
    rintro e w2 ⟨A2, n2, c2, rfl, HN2, hc2, HR2, hb2⟩
    have HC2 := Lib.hid (R_C HR2.out)
    have HX2 := Lib.hid (HX1.out.below hb2)
    have HB2 := Lib.hid (below_step HB1.out hb2)
    have hn2 : n2 ≤ n1 + (encV ks.length).length := by have a := HN2.out; have b := HN1.out; rw [List.length_append] at a; omega
    have c4 := HX2.out.c4
    clear hb2 HR2
    obtain ⟨X0, eX0⟩ : ∃ X, (bs ++ encV 5) ++ encV ks.length = X := ⟨_, rfl⟩
    rw [eX0] at HN2 HC2
    have HX0 := Lib.hid eX0
    clear eX0 HC1 HB1 HX1 h2 H1
    go_wp2
    go_loopw [0, 8, 62] (fun u0 _ u62 wr => ∃ (j : Nat) (xs : List UInt8) (A' : Option Addr) (n' c' : Nat), u62 = .int .i64 j ∧ j ≤ ks.length ∧ u0 = .slice A' n' c' ∧ n' ≤ c' ∧ n' ≤ n2 + (encML ((ks : List S25).take j)).length ∧ Hid (xs.length = n') ∧ Hid (xs = X0 ++ encML ((ks : List S25).take j)) ∧ Hid ((Kd.int .u8).C wr A' xs.length (bys xs)) ∧ Hid (Below w.heap.size w wr)) (fun _ _ u62 _ => ks.length - (intOf u62).toNat)
    case atStart => exact ⟨0, X0, A2, n2, c2, rfl, Nat.zero_le _, rfl, hc2, by simp [encML], HN2, Lib.hid (by simp [encML]), HC2, HB2⟩
    case round =>
     clear HB2 HC2 HN2 hc2
     obtain ⟨j, xs, A', n', c', rfl, hj, rfl, hc', hn', HNx, HXx, HCx, HBx⟩ := hrel
     by_cases hlj : j < ks.length
     ·have hltI : (j : Int) < (ks.length : Int) := by omega
      obtain ⟨ad, B3, e3, B4, e4, rfl, hMk, k0, k1, k2, k3, k4⟩ := HM.out.kid j hlj
      simp only at k0 k1 k2 k3 k4 hMk
      have k0 := pw_cell_below HBx.out k0
      have k1 := pw_cell_below HBx.out k1
      have k2 := pw_cell_below HBx.out k2
      have k3 := pw_cell_below HBx.out k3
      have k4 := pw_cell_below HBx.out k4
      have hmem : ks.getD j z25 ∈ ks := by simp [List.getD_eq_getElem?_getD, hlj]
      have hsmall : nodesM (ks.getD j z25) < nodesM ⟨5, ⟨#[]⟩, ⟨#[]⟩, [], ks⟩ := nodes_lt ⟨5, ⟨#[]⟩, ⟨#[]⟩, [], ks⟩ _ hmem
      have hokk := okL_mem hk hmem
      have HT := Lib.hid (encML_take hlj)
      have hle := encML_le hlj
      obtain ⟨kid, ek⟩ : ∃ kid, ks.getD j z25 = kid := ⟨_, rfl⟩
      rw [ek] at hMk k0 k1 k2 k3 k4 hsmall hokk HT hle
      have HMk := Lib.hid hMk
      have HOK := Lib.hid hokk
      clear ek hmem hMk hokk
      obtain ⟨V2, eV2⟩ : ∃ V2, V2 = wr.alloc (.cells #[.int .i64 kid.f0, .string kid.f1, .string kid.f2, .slice B3 kid.f3.length e3, .slice B4 kid.f4.length e4] 25) := ⟨_, rfl⟩
      have hBV2 : Below wr.heap.size wr V2 := eV2 ▸ below_alloc (Below.refl _ _) _
      have HBV2 := Lib.hid (below_step HBx.out hBV2)
      have HCV2 := Lib.hid (Kd.C_below HCx.out hBV2)
      clear hBV2
      go_wp2_with fail
      rw [← eV2]
      (with_reducible refine (IH.out kid (by omega) HOK.out (by omega) A' n' c' xs B3 e3 B4 e4 V2 HNx.out hc' (by omega) HCV2.out (HMk.out.below HBV2.out)).mono ?_)
      rintro e w5 ⟨A5, n5, c5, rfl, HN5, hc5, HC5, hb5⟩
      have HB5 := Lib.hid (below_step HBV2.out hb5)
      have hn5 : n5 ≤ n' + (encM kid).length := by have a := HN5.out; have b := HNx.out; rw [List.length_append] at a; omega
      have HX5 := Lib.hid (show xs ++ encM kid = X0 ++ encML (ks.take (j + 1)) from by rw [HXx.out, HT.out, List.append_assoc])
      have HL5 := Lib.hid (show (encML (ks.take (j + 1))).length = (encML (ks.take j)).length + (encM kid).length from by rw [HT.out, List.length_append])
      clear hb5 eV2 k0 k1 k2 k3 k4
      go_wp2
      go_roundw
      case rel => exact ⟨j + 1, _, A5, n5, c5, by go_num, by omega, rfl, hc5, by have := HL5.out; omega, HN5, HX5, HC5, HB5⟩
      case measure => simp [intOf]; omega
     ·obtain rfl : j = ks.length := by omega
      have HXf := Lib.hid (show xs = bs ++ encM ⟨5, ⟨#[]⟩, ⟨#[]⟩, [], ks⟩ from by rw [HXx.out, ← HX0.out, HE.out, List.take_length]; simp)
      rw [HXf.out] at HNx HCx
      go_wp2
      go_ret
      exact ⟨A', n', c', rfl, HNx, hc', HCx, HBx.out⟩
   ·have hX : BoxM (w.alloc (.cells #[.int .i64 6, .string ⟨#[]⟩, .string ⟨#[]⟩, .slice A3 0 c3, .slice A4 ks.length c4] 25)) w.heap.size 6 ⟨#[]⟩ ⟨#[]⟩ (.slice A3 0 c3) (.slice A4 ks.length c4) := blk_new w _
    have hBV := below_alloc (Below.refl w.heap.size w) (.cells #[.int .i64 6, .string ⟨#[]⟩, .string ⟨#[]⟩, .slice A3 0 c3, .slice A4 ks.length c4] 25)
    have h1 : Calls Try.prog 114 #[.slice A n c, .int .u64 6] (w.alloc (.cells #[.int .i64 6, .string ⟨#[]⟩, .string ⟨#[]⟩, .slice A3 0 c3, .slice A4 ks.length c4] 25)) (PutPost (w.alloc (.cells #[.int .i64 6, .string ⟨#[]⟩, .string ⟨#[]⟩, .slice A3 0 c3, .slice A4 ks.length c4] 25)) (bs ++ encV 6)) := putw114 _ A n c bs 6 hn hc (by decide) (by omega) (Kd.C_below hC hBV)
    obtain ⟨V, eV⟩ : ∃ V, V = (w.alloc (.cells #[.int .i64 6, .string ⟨#[]⟩, .string ⟨#[]⟩, .slice A3 0 c3, .slice A4 ks.length c4] 25)) := ⟨_, rfl⟩
    rw [← eV] at hX hBV h1
    have H1 := Lib.hid h1
    have HN := Lib.hid hn
    have HX := Lib.hid hX
    have HBV := Lib.hid hBV
    have HM := Lib.hid hM
    have c0 := hX.c0
    have hv10 := encV_ten (v := 6) (by decide)
    have hE := encM_6 ks
    have HE := Lib.hid hE
    have hlt : n + (encM ⟨6, ⟨#[]⟩, ⟨#[]⟩, [], ks⟩).length ≤ 199999999990000 := hlen
    rw [hE] at hlt
    simp only [List.length_append] at hlt
    clear hM hC h1 hX hBV hn hE
    go_enter Try.func137, Try.ntmps137
    go_wp2_with fail
    rw [← eV]
    (with_reducible refine H1.out.mono ?_)
    rintro e w1 ⟨A1, n1, c1, rfl, HN1, hc1, HR1, hb1⟩
    have HC1 := Lib.hid (R_C HR1.out)
    have HX1 := Lib.hid (HX.out.below hb1)
    have HB1 := Lib.hid (below_step HBV.out hb1)
    have c0 := HX1.out.c0
    have c4 := HX1.out.c4
    have hn1 : n1 ≤ n + (encV 6).length := by have a := HN1.out; have b := HN.out; rw [List.length_append] at a; omega
    clear hb1 HR1 eV
    have h2 := Lib.hid (putw114 w1 A1 n1 c1 (bs ++ encV 6) ks.length HN1.out hc1 (by omega) (by omega) HC1.out)
    go_wp2_with fail
    (with_reducible refine h2.out.mono ?_)
    rintro e w2 ⟨A2, n2, c2, rfl, HN2, hc2, HR2, hb2⟩
    have HC2 := Lib.hid (R_C HR2.out)
    have HX2 := Lib.hid (HX1.out.below hb2)
    have HB2 := Lib.hid (below_step HB1.out hb2)
    have hn2 : n2 ≤ n1 + (encV ks.length).length := by have a := HN2.out; have b := HN1.out; rw [List.length_append] at a; omega
    have c4 := HX2.out.c4
    clear hb2 HR2
    obtain ⟨X0, eX0⟩ : ∃ X, (bs ++ encV 6) ++ encV ks.length = X := ⟨_, rfl⟩
    rw [eX0] at HN2 HC2
    have HX0 := Lib.hid eX0
    clear eX0 HC1 HB1 HX1 h2 H1
    go_wp2
    go_loopw [0, 8, 62] (fun u0 _ u62 wr => ∃ (j : Nat) (xs : List UInt8) (A' : Option Addr) (n' c' : Nat), u62 = .int .i64 j ∧ j ≤ ks.length ∧ u0 = .slice A' n' c' ∧ n' ≤ c' ∧ n' ≤ n2 + (encML ((ks : List S25).take j)).length ∧ Hid (xs.length = n') ∧ Hid (xs = X0 ++ encML ((ks : List S25).take j)) ∧ Hid ((Kd.int .u8).C wr A' xs.length (bys xs)) ∧ Hid (Below w.heap.size w wr)) (fun _ _ u62 _ => ks.length - (intOf u62).toNat)
    case atStart => exact ⟨0, X0, A2, n2, c2, rfl, Nat.zero_le _, rfl, hc2, by simp [encML], HN2, Lib.hid (by simp [encML]), HC2, HB2⟩
    case round =>
     clear HB2 HC2 HN2 hc2
     obtain ⟨j, xs, A', n', c', rfl, hj, rfl, hc', hn', HNx, HXx, HCx, HBx⟩ := hrel
     by_cases hlj : j < ks.length
     ·have hltI : (j : Int) < (ks.length : Int) := by omega
      obtain ⟨ad, B3, e3, B4, e4, rfl, hMk, k0, k1, k2, k3, k4⟩ := HM.out.kid j hlj
      simp only at k0 k1 k2 k3 k4 hMk
      have k0 := pw_cell_below HBx.out k0
      have k1 := pw_cell_below HBx.out k1
      have k2 := pw_cell_below HBx.out k2
      have k3 := pw_cell_below HBx.out k3
      have k4 := pw_cell_below HBx.out k4
      have hmem : ks.getD j z25 ∈ ks := by simp [List.getD_eq_getElem?_getD, hlj]
      have hsmall : nodesM (ks.getD j z25) < nodesM ⟨6, ⟨#[]⟩, ⟨#[]⟩, [], ks⟩ := nodes_lt ⟨6, ⟨#[]⟩, ⟨#[]⟩, [], ks⟩ _ hmem
      have hokk := okL_mem hk hmem
      have HT := Lib.hid (encML_take hlj)
      have hle := encML_le hlj
      obtain ⟨kid, ek⟩ : ∃ kid, ks.getD j z25 = kid := ⟨_, rfl⟩
      rw [ek] at hMk k0 k1 k2 k3 k4 hsmall hokk HT hle
      have HMk := Lib.hid hMk
      have HOK := Lib.hid hokk
      clear ek hmem hMk hokk
      obtain ⟨V2, eV2⟩ : ∃ V2, V2 = wr.alloc (.cells #[.int .i64 kid.f0, .string kid.f1, .string kid.f2, .slice B3 kid.f3.length e3, .slice B4 kid.f4.length e4] 25) := ⟨_, rfl⟩
      have hBV2 : Below wr.heap.size wr V2 := eV2 ▸ below_alloc (Below.refl _ _) _
      have HBV2 := Lib.hid (below_step HBx.out hBV2)
      have HCV2 := Lib.hid (Kd.C_below HCx.out hBV2)
      clear hBV2
      go_wp2_with fail
      rw [← eV2]
      (with_reducible refine (IH.out kid (by omega) HOK.out (by omega) A' n' c' xs B3 e3 B4 e4 V2 HNx.out hc' (by omega) HCV2.out (HMk.out.below HBV2.out)).mono ?_)
      rintro e w5 ⟨A5, n5, c5, rfl, HN5, hc5, HC5, hb5⟩
      have HB5 := Lib.hid (below_step HBV2.out hb5)
      have hn5 : n5 ≤ n' + (encM kid).length := by have a := HN5.out; have b := HNx.out; rw [List.length_append] at a; omega
      have HX5 := Lib.hid (show xs ++ encM kid = X0 ++ encML (ks.take (j + 1)) from by rw [HXx.out, HT.out, List.append_assoc])
      have HL5 := Lib.hid (show (encML (ks.take (j + 1))).length = (encML (ks.take j)).length + (encM kid).length from by rw [HT.out, List.length_append])
      clear hb5 eV2 k0 k1 k2 k3 k4
      go_wp2
      go_roundw
      case rel => exact ⟨j + 1, _, A5, n5, c5, by go_num, by omega, rfl, hc5, by have := HL5.out; omega, HN5, HX5, HC5, HB5⟩
      case measure => simp [intOf]; omega
     ·obtain rfl : j = ks.length := by omega
      have HXf := Lib.hid (show xs = bs ++ encM ⟨6, ⟨#[]⟩, ⟨#[]⟩, [], ks⟩ from by rw [HXx.out, ← HX0.out, HE.out, List.take_length]; simp)
      rw [HXf.out] at HNx HCx
      go_wp2
      go_ret
      exact ⟨A', n', c', rfl, HNx, hc', HCx, HBx.out⟩
   ·have hX : BoxM (w.alloc (.cells #[.int .i64 7, .string ⟨#[]⟩, .string ⟨#[]⟩, .slice A3 0 c3, .slice A4 ks.length c4] 25)) w.heap.size 7 ⟨#[]⟩ ⟨#[]⟩ (.slice A3 0 c3) (.slice A4 ks.length c4) := blk_new w _
    have hBV := below_alloc (Below.refl w.heap.size w) (.cells #[.int .i64 7, .string ⟨#[]⟩, .string ⟨#[]⟩, .slice A3 0 c3, .slice A4 ks.length c4] 25)
    have h1 : Calls Try.prog 114 #[.slice A n c, .int .u64 7] (w.alloc (.cells #[.int .i64 7, .string ⟨#[]⟩, .string ⟨#[]⟩, .slice A3 0 c3, .slice A4 ks.length c4] 25)) (PutPost (w.alloc (.cells #[.int .i64 7, .string ⟨#[]⟩, .string ⟨#[]⟩, .slice A3 0 c3, .slice A4 ks.length c4] 25)) (bs ++ encV 7)) := putw114 _ A n c bs 7 hn hc (by decide) (by omega) (Kd.C_below hC hBV)
    obtain ⟨V, eV⟩ : ∃ V, V = (w.alloc (.cells #[.int .i64 7, .string ⟨#[]⟩, .string ⟨#[]⟩, .slice A3 0 c3, .slice A4 ks.length c4] 25)) := ⟨_, rfl⟩
    rw [← eV] at hX hBV h1
    have H1 := Lib.hid h1
    have HN := Lib.hid hn
    have HX := Lib.hid hX
    have HBV := Lib.hid hBV
    have HM := Lib.hid hM
    have c0 := hX.c0
    have hv10 := encV_ten (v := 7) (by decide)
    have hE := encM_7 ks
    have HE := Lib.hid hE
    have hlt : n + (encM ⟨7, ⟨#[]⟩, ⟨#[]⟩, [], ks⟩).length ≤ 199999999990000 := hlen
    rw [hE] at hlt
    simp only [List.length_append] at hlt
    clear hM hC h1 hX hBV hn hE
    go_enter Try.func137, Try.ntmps137
    go_wp2_with fail
    rw [← eV]
    (with_reducible refine H1.out.mono ?_)
    rintro e w1 ⟨A1, n1, c1, rfl, HN1, hc1, HR1, hb1⟩
    have HC1 := Lib.hid (R_C HR1.out)
    have HX1 := Lib.hid (HX.out.below hb1)
    have HB1 := Lib.hid (below_step HBV.out hb1)
    have c0 := HX1.out.c0
    have c4 := HX1.out.c4
    have hn1 : n1 ≤ n + (encV 7).length := by have a := HN1.out; have b := HN.out; rw [List.length_append] at a; omega
    clear hb1 HR1 eV
    obtain ⟨X0, eX0⟩ : ∃ X, bs ++ encV 7 = X := ⟨_, rfl⟩
    rw [eX0] at HN1 HC1
    have HX0 := Lib.hid eX0
    clear eX0 H1
    go_wp2
    go_loopw [0, 8, 62] (fun u0 _ u62 wr => ∃ (j : Nat) (xs : List UInt8) (A' : Option Addr) (n' c' : Nat), u62 = .int .i64 j ∧ j ≤ ks.length ∧ u0 = .slice A' n' c' ∧ n' ≤ c' ∧ n' ≤ n1 + (encML ((ks : List S25).take j)).length ∧ Hid (xs.length = n') ∧ Hid (xs = X0 ++ encML ((ks : List S25).take j)) ∧ Hid ((Kd.int .u8).C wr A' xs.length (bys xs)) ∧ Hid (Below w.heap.size w wr)) (fun _ _ u62 _ => ks.length - (intOf u62).toNat)
    case atStart => exact ⟨0, X0, A1, n1, c1, rfl, Nat.zero_le _, rfl, hc1, by simp [encML], HN1, Lib.hid (by simp [encML]), HC1, HB1⟩
    case round =>
     clear HB1 HC1 HN1 hc1
     obtain ⟨j, xs, A', n', c', rfl, hj, rfl, hc', hn', HNx, HXx, HCx, HBx⟩ := hrel
     by_cases hlj : j < ks.length
     ·have hltI : (j : Int) < (ks.length : Int) := by omega
      obtain ⟨ad, B3, e3, B4, e4, rfl, hMk, k0, k1, k2, k3, k4⟩ := HM.out.kid j hlj
      simp only at k0 k1 k2 k3 k4 hMk
      have k0 := pw_cell_below HBx.out k0
      have k1 := pw_cell_below HBx.out k1
      have k2 := pw_cell_below HBx.out k2
      have k3 := pw_cell_below HBx.out k3
      have k4 := pw_cell_below HBx.out k4
      have hmem : ks.getD j z25 ∈ ks := by simp [List.getD_eq_getElem?_getD, hlj]
      have hsmall : nodesM (ks.getD j z25) < nodesM ⟨7, ⟨#[]⟩, ⟨#[]⟩, [], ks⟩ := nodes_lt ⟨7, ⟨#[]⟩, ⟨#[]⟩, [], ks⟩ _ hmem
      have hokk := okL_mem hk hmem
      have HT := Lib.hid (encML_take hlj)
      have hle := encML_le hlj
      obtain ⟨kid, ek⟩ : ∃ kid, ks.getD j z25 = kid := ⟨_, rfl⟩
      rw [ek] at hMk k0 k1 k2 k3 k4 hsmall hokk HT hle
      have HMk := Lib.hid hMk
      have HOK := Lib.hid hokk
      clear ek hmem hMk hokk
      obtain ⟨V2, eV2⟩ : ∃ V2, V2 = wr.alloc (.cells #[.int .i64 kid.f0, .string kid.f1, .string kid.f2, .slice B3 kid.f3.length e3, .slice B4 kid.f4.length e4] 25) := ⟨_, rfl⟩
      have hBV2 : Below wr.heap.size wr V2 := eV2 ▸ below_alloc (Below.refl _ _) _
      have HBV2 := Lib.hid (below_step HBx.out hBV2)
      have HCV2 := Lib.hid (Kd.C_below HCx.out hBV2)
      clear hBV2
      go_wp2_with fail
      rw [← eV2]
      (with_reducible refine (IH.out kid (by omega) HOK.out (by omega) A' n' c' xs B3 e3 B4 e4 V2 HNx.out hc' (by omega) HCV2.out (HMk.out.below HBV2.out)).mono ?_)
      rintro e w5 ⟨A5, n5, c5, rfl, HN5, hc5, HC5, hb5⟩
      have HB5 := Lib.hid (below_step HBV2.out hb5)
      have hn5 : n5 ≤ n' + (encM kid).length := by have a := HN5.out; have b := HNx.out; rw [List.length_append] at a; omega
      have HX5 := Lib.hid (show xs ++ encM kid = X0 ++ encML (ks.take (j + 1)) from by rw [HXx.out, HT.out, List.append_assoc])
      have HL5 := Lib.hid (show (encML (ks.take (j + 1))).length = (encML (ks.take j)).length + (encM kid).length from by rw [HT.out, List.length_append])
      clear hb5 eV2 k0 k1 k2 k3 k4
      go_wp2
      go_roundw
      case rel => exact ⟨j + 1, _, A5, n5, c5, by go_num, by omega, rfl, hc5, by have := HL5.out; omega, HN5, HX5, HC5, HB5⟩
      case measure => simp [intOf]; omega
     ·obtain rfl : j = ks.length := by omega
      have HXf := Lib.hid (show xs = bs ++ encM ⟨7, ⟨#[]⟩, ⟨#[]⟩, [], ks⟩ from by rw [HXx.out, ← HX0.out, HE.out, List.take_length]; simp)
      rw [HXf.out] at HNx HCx
      go_wp2
      go_ret
      exact ⟨A', n', c', rfl, HNx, hc', HCx, HBx.out⟩
end Go.Proofs.Yteafilojjdfllaa
end
section
namespace Go.Proofs.Yteafilojjdfllaa
open Go Go.RowKit Go.Proofs.YteafilojjdfllaaW.PrintWords Go.Proofs.YteafilojjdfllaaW.PrintLast Go.Proofs.YteafilojjdfllaaW.PrintMore Go.Proofs.Yteafilojjdfllaa.PAll
set_option linter.unusedVariables false
set_option linter.unusedSimpArgs false
theorem encT_len2 {s : ByteArray} (h : s.size ≤ 64) : (encT s.data.toList).length ≤ 74 := by
 have h1 : s.data.toList.length = s.size := by simp
 have h2 := encV_ten (v := s.size) (by omega)
 unfold encT
 rw [List.length_append, h1]
 omega
section
variable {ops : Array Oper} {o : Oper} {a : Act} {Kc : Act → World → Prop} {Q : Exit → Act → World → Prop}
theorem bapp_step {w0 W : World} (base : Nat) (hw : Region.wanted o (yielded ops a.tmps) = true) (s x : Operand)
  (ho : o.op = .call { callee := .builtin .append, args := #[s, x], argTypes := #[85, 85] })
  (v : Value) (xs ys : List UInt8) (A : Option Addr) (m c : Nat) (hs : a.eval s = v) (hx : a.eval x = .slice A m c)
  (HO : (Kd.int .u8).R 5 W base (fun _ => True) v (bys xs)) (hm : ys.length = m) (HC : (Kd.int .u8).C W A ys.length (bys ys)) (HB : Below base w0 W) (hbase : base ≤ W.heap.size) (hl : xs.length + m ≤ 140737488355328)
  (h : ∀ v1 w1, (Kd.int .u8).R 5 w1 base (fun _ => True) v1 (bys (xs ++ ys)) → Below base w0 w1 → Kc (a.put o.dst v1) w1) :
  if Region.wanted o (yielded ops a.tmps) = true then Oper.wp Try.prog o a W Kc Q else Kc (a.put o.dst undef) W := by
 subst hm
 refine Kd.R_append_rows_step (Kd.int .u8) (Rr := Kd.K (Kd.int .u8) W) (w0 := w0) (W := W) base hw s x 85 5 (.int .u8 0) 1 ho Try.underlying85 infoBy rfl (by decide) (by decide) v (bys xs) (bys ys) A ys.length c (fun _ => True) (fun _ => False) hs hx HO HC (fun x cs h => h) (fun _ hk => hk.elim) (fun _ _ => trivial) HB hbase (by rw [bys_len]; omega) ?_
 intro v1 w1 h1 h2 _ _
 exact h v1 w1 (by rw [bys_app]; exact h1) h2
end
theorem BPo.of {w w1 : World} {base : Nat} {v : Value} {xs : List UInt8} (h : (Kd.int .u8).R 5 w1 base (fun _ => True) v (bys xs)) (hb : Below w.heap.size w w1) : BPo w xs (.returned v) w1 := by
 obtain ⟨A, c, rfl, hc, -⟩ := Kd.R_reads h
 rw [bys_len] at h hc ⊢
 exact ⟨A, _, c, rfl, Lib.hid rfl, hc, Lib.hid (R_C h), hb⟩
theorem R_slice {W : World} {base : Nat} {v : Value} {xs : List UInt8} (h : (Kd.int .u8).R 5 W base (fun _ => True) v (bys xs)) : ∃ A n c, v = .slice A n c ∧ n ≤ c := by
 obtain ⟨A, c, rfl, hc, -⟩ := Kd.R_reads h
 exact ⟨A, _, c, rfl, hc⟩
noncomputable def tabR89_6 : Bool × List (List Nat × List Nat) := rtab .any (opsOf Try.f89 6)
theorem tabR89_6_eq : rtab .any (opsOf Try.f89 6) = tabR89_6 := rfl
noncomputable def tabR89_8 : Bool × List (List Nat × List Nat) := rtab .any (opsOf Try.f89 8)
theorem tabR89_8_eq : rtab .any (opsOf Try.f89 8) = tabR89_8 := rfl
set_option maxRecDepth 100000 in
set_option maxHeartbeats 16000000 in
theorem rput89 : ∀ (N : Nat) (m : S25), nodesM m ≤ N → okM m = true → nodesM m ≤ 64 → (encM m).length ≤ 1000000 → ∀ (A3 : Option Addr) (c3 : Nat) (A4 : Option Addr) (c4 : Nat) (w : World), MC w m A3 c3 A4 c4 →
  Calls Try.prog 89 #[.agg #[.int .i64 m.f0, .string m.f1, .string m.f2, .slice A3 m.f3.length c3, .slice A4 m.f4.length c4]] w (BPo w (encM m)) := by
 intro N
 induction N with
 | zero => intro m h; rw [nodesM_mk] at h; omega
 | succ N ih =>
  intro m hN hok h64 hlen
  have IH := Lib.hid ih
  clear ih
  intro A3 c3 A4 c4 w hM
  rcases shape hok with rfl | ⟨op, nm, v, ho, hnb, rfl⟩ | ⟨nm, vs, hnb, rfl⟩ | ⟨op, ks, ho, hk, rfl⟩
  all_goals simp only at hM ⊢
  ·have hX : BoxM (w.alloc (.cells #[.int .i64 0, .string ⟨#[]⟩, .string ⟨#[]⟩, .slice A3 0 c3, .slice A4 0 c4] 25)) w.heap.size 0 ⟨#[]⟩ ⟨#[]⟩ (.slice A3 0 c3) (.slice A4 0 c4) := blk_new w _
   have hBV := below_alloc (Below.refl w.heap.size w) (.cells #[.int .i64 0, .string ⟨#[]⟩, .string ⟨#[]⟩, .slice A3 0 c3, .slice A4 0 c4] 25)
   obtain ⟨V, eV⟩ : ∃ V, V = (w.alloc (.cells #[.int .i64 0, .string ⟨#[]⟩, .string ⟨#[]⟩, .slice A3 0 c3, .slice A4 0 c4] 25)) := ⟨_, rfl⟩
   rw [← eV] at hX hBV
   have h1 : Calls Try.prog 118 #[.int .u64 0] V (PutPost V (encV 0)) := rput118 V 0 (by decide)
   have H1 := Lib.hid h1
   have HX := Lib.hid hX
   have HBV := Lib.hid hBV
   have HM := Lib.hid hM
   have hc0 := hX.c0
   have hv10 := encV_ten (v := 0) (by decide)
   have hE := encM_0
   have hlt : (encM ⟨0, ⟨#[]⟩, ⟨#[]⟩, [], []⟩).length ≤ 1000000 := hlen
   rw [hE] at hlt
   simp only [List.length_append] at hlt
   have HE := Lib.hid hE
   clear hM hX hBV hE h1
   go_enter Try.func89, Try.ntmps89
   go_wp2_with fail
   rw [← eV]
   (with_reducible refine H1.out.mono ?_)
   rintro e w1 ⟨A1, n1, c1, rfl, HN1, hc1, HR1, hb1⟩
   have HX1 := Lib.hid (HX.out.below hb1)
   have HB1 := Lib.hid hb1
   have hc0 := HX1.out.c0
   obtain ⟨X0, eX0⟩ : ∃ X, encV 0 = X := ⟨_, rfl⟩
   rw [eX0] at HN1 HR1
   have hn1 : X0.length = n1 := HN1.out
   have hX010 : X0.length ≤ 10 := by rw [← eX0]; exact hv10
   have HX0 := Lib.hid eX0
   clear hb1 eV eX0 H1
   have HXf := Lib.hid (show X0 = encM ⟨0, ⟨#[]⟩, ⟨#[]⟩, [], []⟩ from by rw [← HX0.out, HE.out]; simp [encML])
   rw [HXf.out] at HR1
   have HBf := Lib.hid (below_step HBV.out HB1.out)
   go_wp2
   go_ret
   exact BPo.of HR1.out HBf.out
  ·rcases ho with rfl | rfl | rfl
   ·have hX : BoxM (w.alloc (.cells #[.int .i64 1, .string nm, .string v, .slice A3 0 c3, .slice A4 0 c4] 25)) w.heap.size 1 nm v (.slice A3 0 c3) (.slice A4 0 c4) := blk_new w _
    have hBV := below_alloc (Below.refl w.heap.size w) (.cells #[.int .i64 1, .string nm, .string v, .slice A3 0 c3, .slice A4 0 c4] 25)
    obtain ⟨V, eV⟩ : ∃ V, V = (w.alloc (.cells #[.int .i64 1, .string nm, .string v, .slice A3 0 c3, .slice A4 0 c4] 25)) := ⟨_, rfl⟩
    rw [← eV] at hX hBV
    have h1 : Calls Try.prog 118 #[.int .u64 1] V (PutPost V (encV 1)) := rput118 V 1 (by decide)
    have H1 := Lib.hid h1
    have HX := Lib.hid hX
    have HBV := Lib.hid hBV
    have HM := Lib.hid hM
    have hc0 := hX.c0
    have hv10 := encV_ten (v := 1) (by decide)
    have hE := encM_1 nm v
    have hlt : (encM ⟨1, nm, v, [], []⟩).length ≤ 1000000 := hlen
    rw [hE] at hlt
    simp only [List.length_append] at hlt
    have HE := Lib.hid hE
    have hz := (leaf_sizes hok).1 (by simp)
    have hz1 : nm.size ≤ 32 := by have := hz.1; simpa using this
    have hz2 : v.size ≤ 64 := by have := hz.2; simpa using this
    have ht1 := encT_len2 (s := nm) (by omega)
    have ht2 := encT_len2 (s := v) (by omega)
    clear hz
    clear hM hX hBV hE h1
    go_enter Try.func89, Try.ntmps89
    go_wp2_with fail
    rw [← eV]
    (with_reducible refine H1.out.mono ?_)
    rintro e w1 ⟨A1, n1, c1, rfl, HN1, hc1, HR1, hb1⟩
    have HX1 := Lib.hid (HX.out.below hb1)
    have HB1 := Lib.hid hb1
    have hc0 := HX1.out.c0
    obtain ⟨X0, eX0⟩ : ∃ X, encV 1 = X := ⟨_, rfl⟩
    rw [eX0] at HN1 HR1
    have hn1 : X0.length = n1 := HN1.out
    have hX010 : X0.length ≤ 10 := by rw [← eX0]; exact hv10
    have HX0 := Lib.hid eX0
    clear hb1 eV eX0 H1
    go_wp2_with fail
    refine start_ (n := 10) (S := fun W => Below V.heap.size V W) (ds := []) #[false, false, false, false, false, false, false, false, false, false] (by kernel_rfl) rfl rfl (below_drew HB1.out) (fun hHeld => ?_)
    refine with_tab (T := tabR89_6) tabR89_6_eq (fun HT_ => ?_)
    refine pure_ (i := 0) (N := some 17) (v := ?_) (a' := ?_) #[true, false, false, false, false, false, false, false, false, false] rfl rfl (any_of HT_.out (by kernel_rfl)) (fun _ _ _ h => h) (Or.inl ⟨by rfl, ?_⟩) ?_ ?_
    rotate_left
    ·intro w'
     go_simp
     with_reducible rfl
    rotate_left
    ·simp only [Act.put, List.setIfInBounds_toArray, List.set_cons_zero, List.set_cons_succ, i64_w, i32_w]
     rfl
    refine pure_ (i := 1) (N := some 18) (v := ?_) (a' := ?_) #[true, true, false, false, false, false, false, false, false, false] rfl rfl (any_of HT_.out (by kernel_rfl)) (fun _ _ _ h => h) (Or.inl ⟨by rfl, ?_⟩) ?_ ?_
    rotate_left
    ·intro w'
     go_simp
     with_reducible rfl
    rotate_left
    ·simp only [Act.put, List.setIfInBounds_toArray, List.set_cons_zero, List.set_cons_succ, i64_w, i32_w]
     rfl
    refine pure_ (i := 5) (N := some 22) (v := ?_) (a' := ?_) #[true, true, false, false, false, true, false, false, false, false] rfl rfl (any_of HT_.out (by kernel_rfl)) (fun _ _ _ h => h) (Or.inl ⟨by rfl, ?_⟩) ?_ ?_
    rotate_left
    ·intro w'
     go_simp
     with_reducible rfl
    rotate_left
    ·simp only [Act.put, List.setIfInBounds_toArray, List.set_cons_zero, List.set_cons_succ, i64_w, i32_w]
     rfl
    refine take_ (i := 2) (N := some 19) (v := ?_) (a' := ?_) #[true, true, true, false, false, true, false, false, false, false] rfl rfl (take_of HT_.out (by kernel_rfl)) (fun _ _ _ h => h) (Or.inl ⟨by rfl, ?_⟩) hHeld ?_ ?_
    rotate_left
    ·intro w' hh
     have q1 := (HX.out.below hh).c1
     have q2 := (HX.out.below hh).c2
     go_simp
     with_reducible rfl
    rotate_left
    ·simp only [Act.put, List.setIfInBounds_toArray, List.set_cons_zero, List.set_cons_succ, i64_w, i32_w]
     rfl
    refine take_ (i := 6) (N := some 23) (v := ?_) (a' := ?_) #[true, true, true, false, false, true, true, false, false, false] rfl rfl (take_of HT_.out (by kernel_rfl)) (fun _ _ _ h => h) (Or.inl ⟨by rfl, ?_⟩) hHeld ?_ ?_
    rotate_left
    ·intro w' hh
     have q1 := (HX.out.below hh).c1
     have q2 := (HX.out.below hh).c2
     go_simp
     with_reducible rfl
    rotate_left
    ·simp only [Act.put, List.setIfInBounds_toArray, List.set_cons_zero, List.set_cons_succ, i64_w, i32_w]
     rfl
    refine one_ (i := 3) (N := some 20) #[true, true, true, true, false, true, true, false, false, false] rfl rfl (one_of HT_.out (by kernel_rfl)) (by decide) (fun K_ hK_ => ?_)
    refine goes_ Try.func129 (by kernel_rfl) rfl #[.string nm] (by rfl) rfl rfl (by (try simp only [List.map_toArray, List.map_cons, List.map_nil]); first | done | rfl) ?_
    (with_reducible refine (rtext129 _ nm (by omega)).mono ?_)
    rintro e w5 ⟨A5, n5, c5, rfl, HN5, hc5, HR5, hb5⟩
    have HS5 := Lib.hid (Kd.R_below HR1.out (below_step (below_drew (Below.refl w1.heap.size w1)) hb5))
    refine ⟨_, rfl, ?_⟩
    refine hK_.out _ _ (below_step hHeld hb5) (fun hHeld => ?_)
    clear hK_ K_
    try simp only [Act.put, List.setIfInBounds_toArray, List.set_cons_zero, List.set_cons_succ]
    refine one_ (i := 4) (N := some 21) #[true, true, true, true, true, true, true, false, false, false] rfl rfl (one_of HT_.out (by kernel_rfl)) (by decide) (fun K_ hK_ => ?_)
    refine bapp_step (w0 := V) (W := w5) V.heap.size (by rfl) (.tmp 17) (.tmp 20) rfl (.slice A1 n1 c1) X0 (encT nm.data.toList) A5 n5 c5 (by rfl) (by rfl) HS5.out HN5.out (R_C HR5.out) hHeld (below_size hHeld) (by have a := HN5.out; (try simp only [List.length_append]); omega) ?_
    intro v6 w6 hown6 hb6
    have HR6 := Lib.hid hown6
    refine hK_.out _ _ hb6 (fun hHeld => ?_)
    clear hK_ K_ hown6 hb6
    try simp only [Act.put, List.setIfInBounds_toArray, List.set_cons_zero, List.set_cons_succ]
    refine one_ (i := 7) (N := some 24) #[true, true, true, true, true, true, true, true, false, false] rfl rfl (one_of HT_.out (by kernel_rfl)) (by decide) (fun K_ hK_ => ?_)
    refine goes_ Try.func129 (by kernel_rfl) rfl #[.string v] (by rfl) rfl rfl (by (try simp only [List.map_toArray, List.map_cons, List.map_nil]); first | done | rfl) ?_
    (with_reducible refine (rtext129 _ v (by omega)).mono ?_)
    rintro e w7 ⟨A7, n7, c7, rfl, HN7, hc7, HR7, hb7⟩
    have HS7 := Lib.hid (Kd.R_below HR6.out hb7)
    refine ⟨_, rfl, ?_⟩
    refine hK_.out _ _ (below_step hHeld hb7) (fun hHeld => ?_)
    clear hK_ K_
    try simp only [Act.put, List.setIfInBounds_toArray, List.set_cons_zero, List.set_cons_succ]
    refine one_ (i := 8) (N := some 25) #[true, true, true, true, true, true, true, true, true, false] rfl rfl (one_of HT_.out (by kernel_rfl)) (by decide) (fun K_ hK_ => ?_)
    refine bapp_step (w0 := V) (W := w7) V.heap.size (by rfl) (.tmp 21) (.tmp 24) rfl v6 (X0 ++ encT nm.data.toList) (encT v.data.toList) A7 n7 c7 (by rfl) (by rfl) HS7.out HN7.out (R_C HR7.out) hHeld (below_size hHeld) (by have a := HN7.out; (try simp only [List.length_append]); omega) ?_
    intro v8 w8 hown8 hb8
    have HR8 := Lib.hid hown8
    refine hK_.out _ _ hb8 (fun hHeld => ?_)
    clear hK_ K_ hown8 hb8
    try simp only [Act.put, List.setIfInBounds_toArray, List.set_cons_zero, List.set_cons_succ]
    refine pure_ (i := 9) (N := some 3) (v := ?_) (a' := ?_) #[true, true, true, true, true, true, true, true, true, true] rfl rfl (any_of HT_.out (by kernel_rfl)) (fun _ _ _ h => h) (Or.inl ⟨by rfl, ?_⟩) ?_ ?_
    rotate_left
    ·intro w'
     go_simp
     with_reducible rfl
    rotate_left
    ·simp only [Act.put, List.setIfInBounds_toArray, List.set_cons_zero, List.set_cons_succ, i64_w, i32_w]
     rfl
    refine done_ (done_of HT_.out (by kernel_rfl)) ?_
    have HXf := Lib.hid (show (X0 ++ encT nm.data.toList) ++ encT v.data.toList = encM ⟨1, nm, v, [], []⟩ from by rw [← HX0.out, HE.out]; simp)
    rw [HXf.out] at HR8
    have HBf := Lib.hid (below_step HBV.out hHeld)
    clear hHeld
    go_wp2
    go_ret
    exact BPo.of HR8.out HBf.out
   ·have hX : BoxM (w.alloc (.cells #[.int .i64 2, .string nm, .string v, .slice A3 0 c3, .slice A4 0 c4] 25)) w.heap.size 2 nm v (.slice A3 0 c3) (.slice A4 0 c4) := blk_new w _
    have hBV := below_alloc (Below.refl w.heap.size w) (.cells #[.int .i64 2, .string nm, .string v, .slice A3 0 c3, .slice A4 0 c4] 25)
    obtain ⟨V, eV⟩ : ∃ V, V = (w.alloc (.cells #[.int .i64 2, .string nm, .string v, .slice A3 0 c3, .slice A4 0 c4] 25)) := ⟨_, rfl⟩
    rw [← eV] at hX hBV
    have h1 : Calls Try.prog 118 #[.int .u64 2] V (PutPost V (encV 2)) := rput118 V 2 (by decide)
    have H1 := Lib.hid h1
    have HX := Lib.hid hX
    have HBV := Lib.hid hBV
    have HM := Lib.hid hM
    have hc0 := hX.c0
    have hv10 := encV_ten (v := 2) (by decide)
    have hE := encM_2 nm v
    have hlt : (encM ⟨2, nm, v, [], []⟩).length ≤ 1000000 := hlen
    rw [hE] at hlt
    simp only [List.length_append] at hlt
    have HE := Lib.hid hE
    have hz := (leaf_sizes hok).1 (by simp)
    have hz1 : nm.size ≤ 32 := by have := hz.1; simpa using this
    have hz2 : v.size ≤ 64 := by have := hz.2; simpa using this
    have ht1 := encT_len2 (s := nm) (by omega)
    have ht2 := encT_len2 (s := v) (by omega)
    clear hz
    clear hM hX hBV hE h1
    go_enter Try.func89, Try.ntmps89
    go_wp2_with fail
    rw [← eV]
    (with_reducible refine H1.out.mono ?_)
    rintro e w1 ⟨A1, n1, c1, rfl, HN1, hc1, HR1, hb1⟩
    have HX1 := Lib.hid (HX.out.below hb1)
    have HB1 := Lib.hid hb1
    have hc0 := HX1.out.c0
    obtain ⟨X0, eX0⟩ : ∃ X, encV 2 = X := ⟨_, rfl⟩
    rw [eX0] at HN1 HR1
    have hn1 : X0.length = n1 := HN1.out
    have hX010 : X0.length ≤ 10 := by rw [← eX0]; exact hv10
    have HX0 := Lib.hid eX0
    clear hb1 eV eX0 H1
    go_wp2_with fail
    refine start_ (n := 10) (S := fun W => Below V.heap.size V W) (ds := []) #[false, false, false, false, false, false, false, false, false, false] (by kernel_rfl) rfl rfl (below_drew HB1.out) (fun hHeld => ?_)
    refine with_tab (T := tabR89_6) tabR89_6_eq (fun HT_ => ?_)
    refine pure_ (i := 0) (N := some 17) (v := ?_) (a' := ?_) #[true, false, false, false, false, false, false, false, false, false] rfl rfl (any_of HT_.out (by kernel_rfl)) (fun _ _ _ h => h) (Or.inl ⟨by rfl, ?_⟩) ?_ ?_
    rotate_left
    ·intro w'
     go_simp
     with_reducible rfl
    rotate_left
    ·simp only [Act.put, List.setIfInBounds_toArray, List.set_cons_zero, List.set_cons_succ, i64_w, i32_w]
     rfl
    refine pure_ (i := 1) (N := some 18) (v := ?_) (a' := ?_) #[true, true, false, false, false, false, false, false, false, false] rfl rfl (any_of HT_.out (by kernel_rfl)) (fun _ _ _ h => h) (Or.inl ⟨by rfl, ?_⟩) ?_ ?_
    rotate_left
    ·intro w'
     go_simp
     with_reducible rfl
    rotate_left
    ·simp only [Act.put, List.setIfInBounds_toArray, List.set_cons_zero, List.set_cons_succ, i64_w, i32_w]
     rfl
    refine pure_ (i := 5) (N := some 22) (v := ?_) (a' := ?_) #[true, true, false, false, false, true, false, false, false, false] rfl rfl (any_of HT_.out (by kernel_rfl)) (fun _ _ _ h => h) (Or.inl ⟨by rfl, ?_⟩) ?_ ?_
    rotate_left
    ·intro w'
     go_simp
     with_reducible rfl
    rotate_left
    ·simp only [Act.put, List.setIfInBounds_toArray, List.set_cons_zero, List.set_cons_succ, i64_w, i32_w]
     rfl
    refine take_ (i := 2) (N := some 19) (v := ?_) (a' := ?_) #[true, true, true, false, false, true, false, false, false, false] rfl rfl (take_of HT_.out (by kernel_rfl)) (fun _ _ _ h => h) (Or.inl ⟨by rfl, ?_⟩) hHeld ?_ ?_
    rotate_left
    ·intro w' hh
     have q1 := (HX.out.below hh).c1
     have q2 := (HX.out.below hh).c2
     go_simp
     with_reducible rfl
    rotate_left
    ·simp only [Act.put, List.setIfInBounds_toArray, List.set_cons_zero, List.set_cons_succ, i64_w, i32_w]
     rfl
    refine take_ (i := 6) (N := some 23) (v := ?_) (a' := ?_) #[true, true, true, false, false, true, true, false, false, false] rfl rfl (take_of HT_.out (by kernel_rfl)) (fun _ _ _ h => h) (Or.inl ⟨by rfl, ?_⟩) hHeld ?_ ?_
    rotate_left
    ·intro w' hh
     have q1 := (HX.out.below hh).c1
     have q2 := (HX.out.below hh).c2
     go_simp
     with_reducible rfl
    rotate_left
    ·simp only [Act.put, List.setIfInBounds_toArray, List.set_cons_zero, List.set_cons_succ, i64_w, i32_w]
     rfl
    refine one_ (i := 3) (N := some 20) #[true, true, true, true, false, true, true, false, false, false] rfl rfl (one_of HT_.out (by kernel_rfl)) (by decide) (fun K_ hK_ => ?_)
    refine goes_ Try.func129 (by kernel_rfl) rfl #[.string nm] (by rfl) rfl rfl (by (try simp only [List.map_toArray, List.map_cons, List.map_nil]); first | done | rfl) ?_
    (with_reducible refine (rtext129 _ nm (by omega)).mono ?_)
    rintro e w5 ⟨A5, n5, c5, rfl, HN5, hc5, HR5, hb5⟩
    have HS5 := Lib.hid (Kd.R_below HR1.out (below_step (below_drew (Below.refl w1.heap.size w1)) hb5))
    refine ⟨_, rfl, ?_⟩
    refine hK_.out _ _ (below_step hHeld hb5) (fun hHeld => ?_)
    clear hK_ K_
    try simp only [Act.put, List.setIfInBounds_toArray, List.set_cons_zero, List.set_cons_succ]
    refine one_ (i := 4) (N := some 21) #[true, true, true, true, true, true, true, false, false, false] rfl rfl (one_of HT_.out (by kernel_rfl)) (by decide) (fun K_ hK_ => ?_)
    refine bapp_step (w0 := V) (W := w5) V.heap.size (by rfl) (.tmp 17) (.tmp 20) rfl (.slice A1 n1 c1) X0 (encT nm.data.toList) A5 n5 c5 (by rfl) (by rfl) HS5.out HN5.out (R_C HR5.out) hHeld (below_size hHeld) (by have a := HN5.out; (try simp only [List.length_append]); omega) ?_
    intro v6 w6 hown6 hb6
    have HR6 := Lib.hid hown6
    refine hK_.out _ _ hb6 (fun hHeld => ?_)
    clear hK_ K_ hown6 hb6
    try simp only [Act.put, List.setIfInBounds_toArray, List.set_cons_zero, List.set_cons_succ]
    refine one_ (i := 7) (N := some 24) #[true, true, true, true, true, true, true, true, false, false] rfl rfl (one_of HT_.out (by kernel_rfl)) (by decide) (fun K_ hK_ => ?_)
    refine goes_ Try.func129 (by kernel_rfl) rfl #[.string v] (by rfl) rfl rfl (by (try simp only [List.map_toArray, List.map_cons, List.map_nil]); first | done | rfl) ?_
    (with_reducible refine (rtext129 _ v (by omega)).mono ?_)
    rintro e w7 ⟨A7, n7, c7, rfl, HN7, hc7, HR7, hb7⟩
    have HS7 := Lib.hid (Kd.R_below HR6.out hb7)
    refine ⟨_, rfl, ?_⟩
    refine hK_.out _ _ (below_step hHeld hb7) (fun hHeld => ?_)
    clear hK_ K_
    try simp only [Act.put, List.setIfInBounds_toArray, List.set_cons_zero, List.set_cons_succ]
    refine one_ (i := 8) (N := some 25) #[true, true, true, true, true, true, true, true, true, false] rfl rfl (one_of HT_.out (by kernel_rfl)) (by decide) (fun K_ hK_ => ?_)
    refine bapp_step (w0 := V) (W := w7) V.heap.size (by rfl) (.tmp 21) (.tmp 24) rfl v6 (X0 ++ encT nm.data.toList) (encT v.data.toList) A7 n7 c7 (by rfl) (by rfl) HS7.out HN7.out (R_C HR7.out) hHeld (below_size hHeld) (by have a := HN7.out; (try simp only [List.length_append]); omega) ?_
    intro v8 w8 hown8 hb8
    have HR8 := Lib.hid hown8
    refine hK_.out _ _ hb8 (fun hHeld => ?_)
    clear hK_ K_ hown8 hb8
    try simp only [Act.put, List.setIfInBounds_toArray, List.set_cons_zero, List.set_cons_succ]
    refine pure_ (i := 9) (N := some 3) (v := ?_) (a' := ?_) #[true, true, true, true, true, true, true, true, true, true] rfl rfl (any_of HT_.out (by kernel_rfl)) (fun _ _ _ h => h) (Or.inl ⟨by rfl, ?_⟩) ?_ ?_
    rotate_left
    ·intro w'
     go_simp
     with_reducible rfl
    rotate_left
    ·simp only [Act.put, List.setIfInBounds_toArray, List.set_cons_zero, List.set_cons_succ, i64_w, i32_w]
     rfl
    refine done_ (done_of HT_.out (by kernel_rfl)) ?_
    have HXf := Lib.hid (show (X0 ++ encT nm.data.toList) ++ encT v.data.toList = encM ⟨2, nm, v, [], []⟩ from by rw [← HX0.out, HE.out]; simp)
    rw [HXf.out] at HR8
    have HBf := Lib.hid (below_step HBV.out hHeld)
    clear hHeld
    go_wp2
    go_ret
    exact BPo.of HR8.out HBf.out
   ·have hX : BoxM (w.alloc (.cells #[.int .i64 3, .string nm, .string v, .slice A3 0 c3, .slice A4 0 c4] 25)) w.heap.size 3 nm v (.slice A3 0 c3) (.slice A4 0 c4) := blk_new w _
    have hBV := below_alloc (Below.refl w.heap.size w) (.cells #[.int .i64 3, .string nm, .string v, .slice A3 0 c3, .slice A4 0 c4] 25)
    obtain ⟨V, eV⟩ : ∃ V, V = (w.alloc (.cells #[.int .i64 3, .string nm, .string v, .slice A3 0 c3, .slice A4 0 c4] 25)) := ⟨_, rfl⟩
    rw [← eV] at hX hBV
    have h1 : Calls Try.prog 118 #[.int .u64 3] V (PutPost V (encV 3)) := rput118 V 3 (by decide)
    have H1 := Lib.hid h1
    have HX := Lib.hid hX
    have HBV := Lib.hid hBV
    have HM := Lib.hid hM
    have hc0 := hX.c0
    have hv10 := encV_ten (v := 3) (by decide)
    have hE := encM_3 nm v
    have hlt : (encM ⟨3, nm, v, [], []⟩).length ≤ 1000000 := hlen
    rw [hE] at hlt
    simp only [List.length_append] at hlt
    have HE := Lib.hid hE
    have hz := (leaf_sizes hok).1 (by simp)
    have hz1 : nm.size ≤ 32 := by have := hz.1; simpa using this
    have hz2 : v.size ≤ 64 := by have := hz.2; simpa using this
    have ht1 := encT_len2 (s := nm) (by omega)
    have ht2 := encT_len2 (s := v) (by omega)
    clear hz
    clear hM hX hBV hE h1
    go_enter Try.func89, Try.ntmps89
    go_wp2_with fail
    rw [← eV]
    (with_reducible refine H1.out.mono ?_)
    rintro e w1 ⟨A1, n1, c1, rfl, HN1, hc1, HR1, hb1⟩
    have HX1 := Lib.hid (HX.out.below hb1)
    have HB1 := Lib.hid hb1
    have hc0 := HX1.out.c0
    obtain ⟨X0, eX0⟩ : ∃ X, encV 3 = X := ⟨_, rfl⟩
    rw [eX0] at HN1 HR1
    have hn1 : X0.length = n1 := HN1.out
    have hX010 : X0.length ≤ 10 := by rw [← eX0]; exact hv10
    have HX0 := Lib.hid eX0
    clear hb1 eV eX0 H1
    go_wp2_with fail
    refine start_ (n := 10) (S := fun W => Below V.heap.size V W) (ds := []) #[false, false, false, false, false, false, false, false, false, false] (by kernel_rfl) rfl rfl (below_drew HB1.out) (fun hHeld => ?_)
    refine with_tab (T := tabR89_6) tabR89_6_eq (fun HT_ => ?_)
    refine pure_ (i := 0) (N := some 17) (v := ?_) (a' := ?_) #[true, false, false, false, false, false, false, false, false, false] rfl rfl (any_of HT_.out (by kernel_rfl)) (fun _ _ _ h => h) (Or.inl ⟨by rfl, ?_⟩) ?_ ?_
    rotate_left
    ·intro w'
     go_simp
     with_reducible rfl
    rotate_left
    ·simp only [Act.put, List.setIfInBounds_toArray, List.set_cons_zero, List.set_cons_succ, i64_w, i32_w]
     rfl
    refine pure_ (i := 1) (N := some 18) (v := ?_) (a' := ?_) #[true, true, false, false, false, false, false, false, false, false] rfl rfl (any_of HT_.out (by kernel_rfl)) (fun _ _ _ h => h) (Or.inl ⟨by rfl, ?_⟩) ?_ ?_
    rotate_left
    ·intro w'
     go_simp
     with_reducible rfl
    rotate_left
    ·simp only [Act.put, List.setIfInBounds_toArray, List.set_cons_zero, List.set_cons_succ, i64_w, i32_w]
     rfl
    refine pure_ (i := 5) (N := some 22) (v := ?_) (a' := ?_) #[true, true, false, false, false, true, false, false, false, false] rfl rfl (any_of HT_.out (by kernel_rfl)) (fun _ _ _ h => h) (Or.inl ⟨by rfl, ?_⟩) ?_ ?_
    rotate_left
    ·intro w'
     go_simp
     with_reducible rfl
    rotate_left
    ·simp only [Act.put, List.setIfInBounds_toArray, List.set_cons_zero, List.set_cons_succ, i64_w, i32_w]
     rfl
    refine take_ (i := 2) (N := some 19) (v := ?_) (a' := ?_) #[true, true, true, false, false, true, false, false, false, false] rfl rfl (take_of HT_.out (by kernel_rfl)) (fun _ _ _ h => h) (Or.inl ⟨by rfl, ?_⟩) hHeld ?_ ?_
    rotate_left
    ·intro w' hh
     have q1 := (HX.out.below hh).c1
     have q2 := (HX.out.below hh).c2
     go_simp
     with_reducible rfl
    rotate_left
    ·simp only [Act.put, List.setIfInBounds_toArray, List.set_cons_zero, List.set_cons_succ, i64_w, i32_w]
     rfl
    refine take_ (i := 6) (N := some 23) (v := ?_) (a' := ?_) #[true, true, true, false, false, true, true, false, false, false] rfl rfl (take_of HT_.out (by kernel_rfl)) (fun _ _ _ h => h) (Or.inl ⟨by rfl, ?_⟩) hHeld ?_ ?_
    rotate_left
    ·intro w' hh
     have q1 := (HX.out.below hh).c1
     have q2 := (HX.out.below hh).c2
     go_simp
     with_reducible rfl
    rotate_left
    ·simp only [Act.put, List.setIfInBounds_toArray, List.set_cons_zero, List.set_cons_succ, i64_w, i32_w]
     rfl
    refine one_ (i := 3) (N := some 20) #[true, true, true, true, false, true, true, false, false, false] rfl rfl (one_of HT_.out (by kernel_rfl)) (by decide) (fun K_ hK_ => ?_)
    refine goes_ Try.func129 (by kernel_rfl) rfl #[.string nm] (by rfl) rfl rfl (by (try simp only [List.map_toArray, List.map_cons, List.map_nil]); first | done | rfl) ?_
    (with_reducible refine (rtext129 _ nm (by omega)).mono ?_)
    rintro e w5 ⟨A5, n5, c5, rfl, HN5, hc5, HR5, hb5⟩
    have HS5 := Lib.hid (Kd.R_below HR1.out (below_step (below_drew (Below.refl w1.heap.size w1)) hb5))
    refine ⟨_, rfl, ?_⟩
    refine hK_.out _ _ (below_step hHeld hb5) (fun hHeld => ?_)
    clear hK_ K_
    try simp only [Act.put, List.setIfInBounds_toArray, List.set_cons_zero, List.set_cons_succ]
    refine one_ (i := 4) (N := some 21) #[true, true, true, true, true, true, true, false, false, false] rfl rfl (one_of HT_.out (by kernel_rfl)) (by decide) (fun K_ hK_ => ?_)
    refine bapp_step (w0 := V) (W := w5) V.heap.size (by rfl) (.tmp 17) (.tmp 20) rfl (.slice A1 n1 c1) X0 (encT nm.data.toList) A5 n5 c5 (by rfl) (by rfl) HS5.out HN5.out (R_C HR5.out) hHeld (below_size hHeld) (by have a := HN5.out; (try simp only [List.length_append]); omega) ?_
    intro v6 w6 hown6 hb6
    have HR6 := Lib.hid hown6
    refine hK_.out _ _ hb6 (fun hHeld => ?_)
    clear hK_ K_ hown6 hb6
    try simp only [Act.put, List.setIfInBounds_toArray, List.set_cons_zero, List.set_cons_succ]
    refine one_ (i := 7) (N := some 24) #[true, true, true, true, true, true, true, true, false, false] rfl rfl (one_of HT_.out (by kernel_rfl)) (by decide) (fun K_ hK_ => ?_)
    refine goes_ Try.func129 (by kernel_rfl) rfl #[.string v] (by rfl) rfl rfl (by (try simp only [List.map_toArray, List.map_cons, List.map_nil]); first | done | rfl) ?_
    (with_reducible refine (rtext129 _ v (by omega)).mono ?_)
    rintro e w7 ⟨A7, n7, c7, rfl, HN7, hc7, HR7, hb7⟩
    have HS7 := Lib.hid (Kd.R_below HR6.out hb7)
    refine ⟨_, rfl, ?_⟩
    refine hK_.out _ _ (below_step hHeld hb7) (fun hHeld => ?_)
    clear hK_ K_
    try simp only [Act.put, List.setIfInBounds_toArray, List.set_cons_zero, List.set_cons_succ]
    refine one_ (i := 8) (N := some 25) #[true, true, true, true, true, true, true, true, true, false] rfl rfl (one_of HT_.out (by kernel_rfl)) (by decide) (fun K_ hK_ => ?_)
    refine bapp_step (w0 := V) (W := w7) V.heap.size (by rfl) (.tmp 21) (.tmp 24) rfl v6 (X0 ++ encT nm.data.toList) (encT v.data.toList) A7 n7 c7 (by rfl) (by rfl) HS7.out HN7.out (R_C HR7.out) hHeld (below_size hHeld) (by have a := HN7.out; (try simp only [List.length_append]); omega) ?_
    intro v8 w8 hown8 hb8
    have HR8 := Lib.hid hown8
    refine hK_.out _ _ hb8 (fun hHeld => ?_)
    clear hK_ K_ hown8 hb8
    try simp only [Act.put, List.setIfInBounds_toArray, List.set_cons_zero, List.set_cons_succ]
    refine pure_ (i := 9) (N := some 3) (v := ?_) (a' := ?_) #[true, true, true, true, true, true, true, true, true, true] rfl rfl (any_of HT_.out (by kernel_rfl)) (fun _ _ _ h => h) (Or.inl ⟨by rfl, ?_⟩) ?_ ?_
    rotate_left
    ·intro w'
     go_simp
     with_reducible rfl
    rotate_left
    ·simp only [Act.put, List.setIfInBounds_toArray, List.set_cons_zero, List.set_cons_succ, i64_w, i32_w]
     rfl
    refine done_ (done_of HT_.out (by kernel_rfl)) ?_
    have HXf := Lib.hid (show (X0 ++ encT nm.data.toList) ++ encT v.data.toList = encM ⟨3, nm, v, [], []⟩ from by rw [← HX0.out, HE.out]; simp)
    rw [HXf.out] at HR8
    have HBf := Lib.hid (below_step HBV.out hHeld)
    clear hHeld
    go_wp2
    go_ret
    exact BPo.of HR8.out HBf.out
  ·have hX : BoxM (w.alloc (.cells #[.int .i64 4, .string nm, .string ⟨#[]⟩, .slice A3 vs.length c3, .slice A4 0 c4] 25)) w.heap.size 4 nm ⟨#[]⟩ (.slice A3 vs.length c3) (.slice A4 0 c4) := blk_new w _
   have hBV := below_alloc (Below.refl w.heap.size w) (.cells #[.int .i64 4, .string nm, .string ⟨#[]⟩, .slice A3 vs.length c3, .slice A4 0 c4] 25)
   obtain ⟨V, eV⟩ : ∃ V, V = (w.alloc (.cells #[.int .i64 4, .string nm, .string ⟨#[]⟩, .slice A3 vs.length c3, .slice A4 0 c4] 25)) := ⟨_, rfl⟩
   rw [← eV] at hX hBV
   have h1 : Calls Try.prog 118 #[.int .u64 4] V (PutPost V (encV 4)) := rput118 V 4 (by decide)
   have H1 := Lib.hid h1
   have HX := Lib.hid hX
   have HBV := Lib.hid hBV
   have HM := Lib.hid hM
   have hc0 := hX.c0
   have hv10 := encV_ten (v := 4) (by decide)
   have hE := encM_4 nm vs
   have hlt : (encM ⟨4, nm, ⟨#[]⟩, vs, []⟩).length ≤ 1000000 := hlen
   rw [hE] at hlt
   simp only [List.length_append] at hlt
   have HE := Lib.hid hE
   have hz := (leaf_sizes hok).2 rfl
   simp only at hz
   have hz1 : nm.size ≤ 32 := by have := hz.1; simpa using this
   have hvs : vs.length ≤ 16 := hz.2.1
   have HZ := Lib.hid hz.2.2
   have ht1 := encT_len2 (s := nm) (by omega)
   have hv11 := encV_ten (v := vs.length) (by omega)
   have HRv := Lib.hid (fun W (h : Below w.heap.size w W) => Kd.reads_of_C (enc := Value.string) (d := ByteArray.empty) (h1 := fun _ => rfl) (Kd.C_below hM.2.1 h))
   clear hz
   clear hM hX hBV hE h1
   go_enter Try.func89, Try.ntmps89
   go_wp2_with fail
   rw [← eV]
   (with_reducible refine H1.out.mono ?_)
   rintro e w1 ⟨A1, n1, c1, rfl, HN1, hc1, HR1, hb1⟩
   have HX1 := Lib.hid (HX.out.below hb1)
   have HB1 := Lib.hid hb1
   have hc0 := HX1.out.c0
   obtain ⟨X0, eX0⟩ : ∃ X, encV 4 = X := ⟨_, rfl⟩
   rw [eX0] at HN1 HR1
   have hn1 : X0.length = n1 := HN1.out
   have hX010 : X0.length ≤ 10 := by rw [← eX0]; exact hv10
   have HX0 := Lib.hid eX0
   clear hb1 eV eX0 H1
   have HP4 : Hid (∀ W, Calls Try.prog 118 #[.int .u64 (IntKind.u64.wrap (vs.length : Int))] W (PutPost W (encV vs.length))) := Lib.hid (fun W => by
    rw [show IntKind.u64.wrap (vs.length : Int) = (vs.length : Int) by rw [IntKind.wrap_u64]; omega]
    exact rput118 W vs.length (by omega))
   go_wp2_with fail
   refine start_ (n := 12) (S := fun W => Below V.heap.size V W) (ds := []) #[false, false, false, false, false, false, false, false, false, false, false, false] (by kernel_rfl) rfl rfl (below_drew HB1.out) (fun hHeld => ?_)
   refine with_tab (T := tabR89_8) tabR89_8_eq (fun HT_ => ?_)
   refine pure_ (i := 0) (N := some 28) (v := ?_) (a' := ?_) #[true, false, false, false, false, false, false, false, false, false, false, false] rfl rfl (any_of HT_.out (by kernel_rfl)) (fun _ _ _ h => h) (Or.inl ⟨by rfl, ?_⟩) ?_ ?_
   rotate_left
   ·intro w'
    go_simp
    with_reducible rfl
   rotate_left
   ·simp only [Act.put, List.setIfInBounds_toArray, List.set_cons_zero, List.set_cons_succ, i64_w, i32_w]
    rfl
   refine pure_ (i := 1) (N := some 29) (v := ?_) (a' := ?_) #[true, true, false, false, false, false, false, false, false, false, false, false] rfl rfl (any_of HT_.out (by kernel_rfl)) (fun _ _ _ h => h) (Or.inl ⟨by rfl, ?_⟩) ?_ ?_
   rotate_left
   ·intro w'
    go_simp
    with_reducible rfl
   rotate_left
   ·simp only [Act.put, List.setIfInBounds_toArray, List.set_cons_zero, List.set_cons_succ, i64_w, i32_w]
    rfl
   refine pure_ (i := 5) (N := some 33) (v := ?_) (a' := ?_) #[true, true, false, false, false, true, false, false, false, false, false, false] rfl rfl (any_of HT_.out (by kernel_rfl)) (fun _ _ _ h => h) (Or.inl ⟨by rfl, ?_⟩) ?_ ?_
   rotate_left
   ·intro w'
    go_simp
    with_reducible rfl
   rotate_left
   ·simp only [Act.put, List.setIfInBounds_toArray, List.set_cons_zero, List.set_cons_succ, i64_w, i32_w]
    rfl
   refine take_ (i := 2) (N := some 30) (v := ?_) (a' := ?_) #[true, true, true, false, false, true, false, false, false, false, false, false] rfl rfl (take_of HT_.out (by kernel_rfl)) (fun _ _ _ h => h) (Or.inl ⟨by rfl, ?_⟩) hHeld ?_ ?_
   rotate_left
   ·intro w' hh
    have q1 := (HX.out.below hh).c1
    have q3 := (HX.out.below hh).c3
    go_simp
    with_reducible rfl
   rotate_left
   ·simp only [Act.put, List.setIfInBounds_toArray, List.set_cons_zero, List.set_cons_succ, i64_w, i32_w]
    rfl
   refine take_ (i := 6) (N := some 34) (v := ?_) (a' := ?_) #[true, true, true, false, false, true, true, false, false, false, false, false] rfl rfl (take_of HT_.out (by kernel_rfl)) (fun _ _ _ h => h) (Or.inl ⟨by rfl, ?_⟩) hHeld ?_ ?_
   rotate_left
   ·intro w' hh
    have q1 := (HX.out.below hh).c1
    have q3 := (HX.out.below hh).c3
    go_simp
    with_reducible rfl
   rotate_left
   ·simp only [Act.put, List.setIfInBounds_toArray, List.set_cons_zero, List.set_cons_succ, i64_w, i32_w]
    rfl
   refine pure_ (i := 7) (N := some 35) (v := ?_) (a' := ?_) #[true, true, true, false, false, true, true, true, false, false, false, false] rfl rfl (any_of HT_.out (by kernel_rfl)) (fun _ _ _ h => h) (Or.inl ⟨by rfl, ?_⟩) ?_ ?_
   rotate_left
   ·intro w'
    go_simp
    with_reducible rfl
   rotate_left
   ·simp only [Act.put, List.setIfInBounds_toArray, List.set_cons_zero, List.set_cons_succ, i64_w, i32_w]
    rfl
   refine pure_ (i := 8) (N := some 36) (v := ?_) (a' := ?_) #[true, true, true, false, false, true, true, true, true, false, false, false] rfl rfl (any_of HT_.out (by kernel_rfl)) (fun _ _ _ h => h) (Or.inl ⟨by rfl, ?_⟩) ?_ ?_
   rotate_left
   ·intro w'
    go_simp
    with_reducible rfl
   rotate_left
   ·simp only [Act.put, List.setIfInBounds_toArray, List.set_cons_zero, List.set_cons_succ, i64_w, i32_w]
    rfl
   refine one_ (i := 3) (N := some 31) #[true, true, true, true, false, true, true, true, true, false, false, false] rfl rfl (one_of HT_.out (by kernel_rfl)) (by decide) (fun K_ hK_ => ?_)
   refine goes_ Try.func129 (by kernel_rfl) rfl #[.string nm] (by rfl) rfl rfl (by (try simp only [List.map_toArray, List.map_cons, List.map_nil]); first | done | rfl) ?_
   (with_reducible refine (rtext129 _ nm (by omega)).mono ?_)
   rintro e w5 ⟨A5, n5, c5, rfl, HN5, hc5, HR5, hb5⟩
   have HS5 := Lib.hid (Kd.R_below HR1.out (below_step (below_drew (Below.refl w1.heap.size w1)) hb5))
   refine ⟨_, rfl, ?_⟩
   refine hK_.out _ _ (below_step hHeld hb5) (fun hHeld => ?_)
   clear hK_ K_
   try simp only [Act.put, List.setIfInBounds_toArray, List.set_cons_zero, List.set_cons_succ]
   refine one_ (i := 4) (N := some 32) #[true, true, true, true, true, true, true, true, true, false, false, false] rfl rfl (one_of HT_.out (by kernel_rfl)) (by decide) (fun K_ hK_ => ?_)
   refine bapp_step (w0 := V) (W := w5) V.heap.size (by rfl) (.tmp 28) (.tmp 31) rfl (.slice A1 n1 c1) X0 (encT nm.data.toList) A5 n5 c5 (by rfl) (by rfl) HS5.out HN5.out (R_C HR5.out) hHeld (below_size hHeld) (by have a := HN5.out; (try simp only [List.length_append]); omega) ?_
   intro v6 w6 hown6 hb6
   have HR6 := Lib.hid hown6
   refine hK_.out _ _ hb6 (fun hHeld => ?_)
   clear hK_ K_ hown6 hb6
   try simp only [Act.put, List.setIfInBounds_toArray, List.set_cons_zero, List.set_cons_succ]
   refine one_ (i := 9) (N := some 37) #[true, true, true, true, true, true, true, true, true, true, false, false] rfl rfl (one_of HT_.out (by kernel_rfl)) (by decide) (fun K_ hK_ => ?_)
   refine goes_ Try.func118 (by kernel_rfl) rfl #[.int .u64 (IntKind.u64.wrap (vs.length : Int))] (by rfl) rfl rfl (by (try simp only [List.map_toArray, List.map_cons, List.map_nil]); first | done | rfl) ?_
   (with_reducible refine (HP4.out _).mono ?_)
   rintro e w7 ⟨A7, n7, c7, rfl, HN7, hc7, HR7, hb7⟩
   have HS7 := Lib.hid (Kd.R_below HR6.out hb7)
   refine ⟨_, rfl, ?_⟩
   refine hK_.out _ _ (below_step hHeld hb7) (fun hHeld => ?_)
   clear hK_ K_
   try simp only [Act.put, List.setIfInBounds_toArray, List.set_cons_zero, List.set_cons_succ]
   refine one_ (i := 10) (N := some 38) #[true, true, true, true, true, true, true, true, true, true, true, false] rfl rfl (one_of HT_.out (by kernel_rfl)) (by decide) (fun K_ hK_ => ?_)
   refine bapp_step (w0 := V) (W := w7) V.heap.size (by rfl) (.tmp 32) (.tmp 37) rfl v6 (X0 ++ encT nm.data.toList) (encV vs.length) A7 n7 c7 (by rfl) (by rfl) HS7.out HN7.out (R_C HR7.out) hHeld (below_size hHeld) (by have a := HN7.out; (try simp only [List.length_append]); omega) ?_
   intro v8 w8 hown8 hb8
   have HR8 := Lib.hid hown8
   refine hK_.out _ _ hb8 (fun hHeld => ?_)
   clear hK_ K_ hown8 hb8
   try simp only [Act.put, List.setIfInBounds_toArray, List.set_cons_zero, List.set_cons_succ]
   refine pure_ (i := 11) (N := some 3) (v := ?_) (a' := ?_) #[true, true, true, true, true, true, true, true, true, true, true, true] rfl rfl (any_of HT_.out (by kernel_rfl)) (fun _ _ _ h => h) (Or.inl ⟨by rfl, ?_⟩) ?_ ?_
   rotate_left
   ·intro w'
    go_simp
    with_reducible rfl
   rotate_left
   ·simp only [Act.put, List.setIfInBounds_toArray, List.set_cons_zero, List.set_cons_succ, i64_w, i32_w]
    rfl
   refine done_ (done_of HT_.out (by kernel_rfl)) ?_
   obtain ⟨X2, eX2⟩ : ∃ X, (X0 ++ encT nm.data.toList) ++ encV vs.length = X := ⟨_, rfl⟩
   rw [eX2] at HR8
   have hX2 : X2.length ≤ 1000 := by rw [← eX2]; simp only [List.length_append]; omega
   have HX2 := Lib.hid eX2
   have HB8 := Lib.hid hHeld
   clear eX2 hHeld HN5 HN7 hc5 hc7 HR5 HR7 HS5 HS7 HR6
   obtain ⟨A8, n8, c8, rfl, hc8⟩ := R_slice HR8.out
   go_wp2
   go_loopw [3, 4] (fun u3 u4 wr => ∃ (j : Nat) (xs : List UInt8), u4 = .int .i64 j ∧ j ≤ vs.length ∧ xs.length ≤ 1000 + 74 * j ∧ Hid (xs = X2 ++ (vs.take j).flatMap (fun x => encT x.data.toList)) ∧ Hid ((Kd.int .u8).R 5 wr V.heap.size (fun _ => True) u3 (bys xs)) ∧ Hid (Below V.heap.size V wr)) (fun _ u4 _ => vs.length - (intOf u4).toNat)
   case atStart => exact ⟨0, X2, rfl, Nat.zero_le _, by omega, Lib.hid (by simp), HR8, HB8⟩
   case round =>
    clear HB8 HR8
    obtain ⟨j, xs, rfl, hj, hxl, HXx, HRx, HBx⟩ := hrel
    obtain ⟨A9, n9, c9, rfl, hc9⟩ := R_slice HRx.out
    have c3 := (HX.out.below HBx.out).c3
    by_cases hlj : j < vs.length
    ·have hltI : (j : Int) < (vs.length : Int) := by omega
     obtain ⟨ad, rfl, kk⟩ := (HRv.out _ (below_step HBV.out HBx.out)).2.2 (by omega)
     have k0 := kk j hlj
     clear kk
     obtain ⟨y, ey⟩ : ∃ y, vs.getD j ByteArray.empty = y := ⟨_, rfl⟩
     rw [ey] at k0
     have hym : y ∈ vs := by rw [← ey, List.getD_eq_getElem?_getD, List.getElem?_eq_getElem hlj]; simp
     have hy := HZ.out y hym
     have hyt := encT_len2 (s := y) (by omega)
     have HT := Lib.hid (show (vs.take (j + 1)).flatMap (fun x => encT x.data.toList) = (vs.take j).flatMap (fun x => encT x.data.toList) ++ encT y.data.toList from by
      rw [List.take_succ_eq_append_getElem hlj, List.flatMap_append]
      rw [List.getD_eq_getElem?_getD, List.getElem?_eq_getElem hlj, Option.getD_some] at ey
      rw [ey]; simp)
     clear ey hym
     go_wp2_with (first
      | (go_at_call 129; (with_reducible refine (rtext129 _ y (by omega)).mono ?_); rintro e w5 ⟨A5, n5, c5, rfl, HN5, hc5, HR5, hb5⟩; have HS5 := Lib.hid (Kd.R_below HRx.out hb5); have HB5 := Lib.hid (below_step HBx.out hb5); clear hb5)
      | (at_builtin; refine Kd.R_append_row (Value.int .u8) (0 : Int) (h1 := fun _ => rfl) (w0 := V) (W := w5) V.heap.size rfl (.tmp 46) (.tmp 52) 85 5 (.int .u8 0) 1 rfl Try.underlying85 infoBy rfl (by decide) (.slice A9 n9 c9) (bys xs) (bys (encT y.data.toList)) A5 n5 c5 (fun _ => True) rfl rfl (fun _ _ => trivial) HS5.out (by have := R_C HR5.out; rwa [HN5.out] at this) HB5.out (below_size HB5.out) (by rw [bys_len]; have := HN5.out; omega) ?_; intro v6 w6 hown6 hb6 hg6 hat6; rw [← bys_app] at hown6; have HR7 := Lib.hid hown6; have HB7 := Lib.hid hb6; clear hown6 hb6 hg6 hat6))
     go_roundw
     case rel => exact ⟨j + 1, xs ++ encT y.data.toList, by go_num, by omega, by rw [List.length_append]; omega, Lib.hid (by rw [HXx.out, HT.out, List.append_assoc]), HR7, HB7⟩
     case measure => simp [intOf]; omega
    ·obtain rfl : j = vs.length := by omega
     have HXf := Lib.hid (show xs = encM ⟨4, nm, ⟨#[]⟩, vs, []⟩ from by rw [HXx.out, ← HX2.out, ← HX0.out, HE.out, List.take_length]; try simp)
     rw [HXf.out] at HRx
     have HBf := Lib.hid (below_step HBV.out HBx.out)
     go_wp2
     go_ret
     exact BPo.of HRx.out HBf.out
  ·rcases (show op = 5 ∨ op = 6 ∨ op = 7 by omega) with rfl | rfl | rfl
   ·have hX : BoxM (w.alloc (.cells #[.int .i64 5, .string ⟨#[]⟩, .string ⟨#[]⟩, .slice A3 0 c3, .slice A4 ks.length c4] 25)) w.heap.size 5 ⟨#[]⟩ ⟨#[]⟩ (.slice A3 0 c3) (.slice A4 ks.length c4) := blk_new w _
    have hBV := below_alloc (Below.refl w.heap.size w) (.cells #[.int .i64 5, .string ⟨#[]⟩, .string ⟨#[]⟩, .slice A3 0 c3, .slice A4 ks.length c4] 25)
    obtain ⟨V, eV⟩ : ∃ V, V = (w.alloc (.cells #[.int .i64 5, .string ⟨#[]⟩, .string ⟨#[]⟩, .slice A3 0 c3, .slice A4 ks.length c4] 25)) := ⟨_, rfl⟩
    rw [← eV] at hX hBV
    have h1 : Calls Try.prog 118 #[.int .u64 5] V (PutPost V (encV 5)) := rput118 V 5 (by decide)
    have H1 := Lib.hid h1
    have HX := Lib.hid hX
    have HBV := Lib.hid hBV
    have HM := Lib.hid hM
    have hc0 := hX.c0
    have hv10 := encV_ten (v := 5) (by decide)
    have hE := encM_5 ks
    have hlt : (encM ⟨5, ⟨#[]⟩, ⟨#[]⟩, [], ks⟩).length ≤ 1000000 := hlen
    rw [hE] at hlt
    simp only [List.length_append] at hlt
    have HE := Lib.hid hE
    have hv11 := encV_ten (v := ks.length) (by have := len_nodesP ks; rw [nodesM_mk] at h64; simp only at h64; omega)
    have hk64 : ks.length ≤ 64 := by have := len_nodesP ks; rw [nodesM_mk] at h64; simp only at h64; omega
    clear hM hX hBV hE h1
    go_enter Try.func89, Try.ntmps89
    go_wp2_with fail
    rw [← eV]
    (with_reducible refine H1.out.mono ?_)
    rintro e w1 ⟨A1, n1, c1, rfl, HN1, hc1, HR1, hb1⟩
    have HX1 := Lib.hid (HX.out.below hb1)
    have HB1 := Lib.hid hb1
    have hc0 := HX1.out.c0
    obtain ⟨X0, eX0⟩ : ∃ X, encV 5 = X := ⟨_, rfl⟩
    rw [eX0] at HN1 HR1
    have hn1 : X0.length = n1 := HN1.out
    have hX010 : X0.length ≤ 10 := by rw [← eX0]; exact hv10
    have HX0 := Lib.hid eX0
    clear hb1 eV eX0 H1
    have h2 := rput118 w1 ks.length (by omega)
    have H2 := Lib.hid h2
    have c4 := HX1.out.c4
    clear h2
    go_wp2_with (first
     | (go_at_call 118; (with_reducible refine H2.out.mono ?_); rintro e w5 ⟨A5, n5, c5, rfl, HN5, hc5, HR5, hb5⟩; have HS5 := Lib.hid (Kd.R_below HR1.out hb5); have HB5 := Lib.hid (below_step HB1.out hb5); clear hb5)
     | (at_builtin; refine Kd.R_append_row (Value.int .u8) (0 : Int) (h1 := fun _ => rfl) (w0 := V) (W := w5) V.heap.size rfl (.tmp 57) (.tmp 62) 85 5 (.int .u8 0) 1 rfl Try.underlying85 infoBy rfl (by decide) (.slice A1 n1 c1) (bys X0) (bys (encV ks.length)) A5 n5 c5 (fun _ => True) rfl rfl (fun _ _ => trivial) HS5.out (by have := R_C HR5.out; rwa [HN5.out] at this) HB5.out (below_size HB5.out) (by rw [bys_len]; have := HN5.out; omega) ?_; intro v6 w6 hown6 hb6 hg6 hat6; rw [← bys_app] at hown6; have HR8 := Lib.hid hown6; have HB8 := Lib.hid hb6; clear hown6 hb6 hg6 hat6; obtain ⟨A8, n8, c8, rfl, hc8⟩ := R_slice HR8.out))
    obtain ⟨X2, eX2⟩ : ∃ X, X0 ++ encV ks.length = X := ⟨_, rfl⟩
    rw [eX2] at HR8
    have hX2 : X2.length ≤ 1000 := by rw [← eX2]; simp only [List.length_append]; omega
    have HX2 := Lib.hid (show X2 = encV 5 ++ encV ks.length by rw [← eX2, HX0.out])
    clear eX2
    go_loopw [3, 5] (fun u3 u5 wr => ∃ (j : Nat) (xs : List UInt8), u5 = .int .i64 j ∧ j ≤ ks.length ∧ xs.length ≤ 1000 + (encML (ks.take j)).length ∧ Hid (xs = X2 ++ encML (ks.take j)) ∧ Hid ((Kd.int .u8).R 5 wr V.heap.size (fun _ => True) u3 (bys xs)) ∧ Hid (Below V.heap.size V wr)) (fun _ u5 _ => ks.length - (intOf u5).toNat)
    case atStart => exact ⟨0, X2, rfl, Nat.zero_le _, by omega, Lib.hid (by simp [encML]), HR8, HB8⟩
    case round =>
     clear HB8 HR8
     obtain ⟨j, xs, rfl, hj, hxl, HXx, HRx, HBx⟩ := hrel
     obtain ⟨A9, n9, c9, rfl, hc9⟩ := R_slice HRx.out
     have c4 := (HX.out.below HBx.out).c4
     by_cases hlj : j < ks.length
     ·have hltI : (j : Int) < (ks.length : Int) := by omega
      obtain ⟨ad, B3, e3, B4, e4, rfl, hMk, k0, k1, k2, k3, k4⟩ := HM.out.kid j hlj
      have hBw := below_step HBV.out HBx.out
      simp only at k0 k1 k2 k3 k4 hMk
      have k0 := pw_cell_below hBw k0
      have k1 := pw_cell_below hBw k1
      have k2 := pw_cell_below hBw k2
      have k3 := pw_cell_below hBw k3
      have k4 := pw_cell_below hBw k4
      have hmem : ks.getD j z25 ∈ ks := by simp [List.getD_eq_getElem?_getD, hlj]
      have hsmall : nodesM (ks.getD j z25) < nodesM ⟨5, ⟨#[]⟩, ⟨#[]⟩, [], ks⟩ := nodes_lt ⟨5, ⟨#[]⟩, ⟨#[]⟩, [], ks⟩ _ hmem
      have hokk := okL_mem hk hmem
      have HT := Lib.hid (encML_take hlj)
      have hle := encML_le hlj
      obtain ⟨kid, ek⟩ : ∃ kid, ks.getD j z25 = kid := ⟨_, rfl⟩
      rw [ek] at hMk k0 k1 k2 k3 k4 hsmall hokk HT hle
      have HMk := Lib.hid (hMk.below hBw)
      have HOK := Lib.hid hokk
      have hkl : (encM kid).length ≤ 1000000 := by omega
      have HLk := Lib.hid (show (encML (ks.take (j + 1))).length = (encML (ks.take j)).length + (encM kid).length by rw [HT.out, List.length_append])
      have hall : (encML (ks.take j)).length ≤ 1000000 := by omega
      clear ek hmem hMk hokk hBw
      go_wp2_with (first
       | (go_at_call 89; (with_reducible refine (IH.out kid (by omega) HOK.out (by omega) hkl B3 e3 B4 e4 _ HMk.out).mono ?_); rintro e w5 ⟨A5, n5, c5, rfl, HN5, hc5, HC5, hb5⟩; have HS5 := Lib.hid (Kd.R_below HRx.out hb5); have HB5 := Lib.hid (below_step HBx.out hb5); clear hb5)
       | (at_builtin; refine Kd.R_append_row (Value.int .u8) (0 : Int) (h1 := fun _ => rfl) (w0 := V) (W := w5) V.heap.size rfl (.tmp 71) (.tmp 77) 85 5 (.int .u8 0) 1 rfl Try.underlying85 infoBy rfl (by decide) (.slice A9 n9 c9) (bys xs) (bys (encM kid)) A5 n5 c5 (fun _ => True) rfl rfl (fun _ _ => trivial) HS5.out (by have := HC5.out; rwa [HN5.out] at this) HB5.out (below_size HB5.out) (by rw [bys_len]; have := HN5.out; omega) ?_; intro v6 w6 hown6 hb6 hg6 hat6; rw [← bys_app] at hown6; have HR7 := Lib.hid hown6; have HB7 := Lib.hid hb6; clear hown6 hb6 hg6 hat6))
      go_roundw
      case rel => exact ⟨j + 1, xs ++ encM kid, by go_num, by omega, by rw [List.length_append]; have := HLk.out; omega, Lib.hid (by rw [HXx.out, HT.out, List.append_assoc]), HR7, HB7⟩
      case measure => simp [intOf]; omega
     ·obtain rfl : j = ks.length := by omega
      have HXf := Lib.hid (show xs = encM ⟨5, ⟨#[]⟩, ⟨#[]⟩, [], ks⟩ from by rw [HXx.out, HX2.out, HE.out, List.take_length]; try simp)
      rw [HXf.out] at HRx
      have HBf := Lib.hid (below_step HBV.out HBx.out)
      go_wp2
      go_ret
      exact BPo.of HRx.out HBf.out
   ·have hX : BoxM (w.alloc (.cells #[.int .i64 6, .string ⟨#[]⟩, .string ⟨#[]⟩, .slice A3 0 c3, .slice A4 ks.length c4] 25)) w.heap.size 6 ⟨#[]⟩ ⟨#[]⟩ (.slice A3 0 c3) (.slice A4 ks.length c4) := blk_new w _
    have hBV := below_alloc (Below.refl w.heap.size w) (.cells #[.int .i64 6, .string ⟨#[]⟩, .string ⟨#[]⟩, .slice A3 0 c3, .slice A4 ks.length c4] 25)
    obtain ⟨V, eV⟩ : ∃ V, V = (w.alloc (.cells #[.int .i64 6, .string ⟨#[]⟩, .string ⟨#[]⟩, .slice A3 0 c3, .slice A4 ks.length c4] 25)) := ⟨_, rfl⟩
    rw [← eV] at hX hBV
    have h1 : Calls Try.prog 118 #[.int .u64 6] V (PutPost V (encV 6)) := rput118 V 6 (by decide)
    have H1 := Lib.hid h1
    have HX := Lib.hid hX
    have HBV := Lib.hid hBV
    have HM := Lib.hid hM
    have hc0 := hX.c0
    have hv10 := encV_ten (v := 6) (by decide)
    have hE := encM_6 ks
    have hlt : (encM ⟨6, ⟨#[]⟩, ⟨#[]⟩, [], ks⟩).length ≤ 1000000 := hlen
    rw [hE] at hlt
    simp only [List.length_append] at hlt
    have HE := Lib.hid hE
    have hv11 := encV_ten (v := ks.length) (by have := len_nodesP ks; rw [nodesM_mk] at h64; simp only at h64; omega)
    have hk64 : ks.length ≤ 64 := by have := len_nodesP ks; rw [nodesM_mk] at h64; simp only at h64; omega
    clear hM hX hBV hE h1
    go_enter Try.func89, Try.ntmps89
    go_wp2_with fail
    rw [← eV]
    (with_reducible refine H1.out.mono ?_)
    rintro e w1 ⟨A1, n1, c1, rfl, HN1, hc1, HR1, hb1⟩
    have HX1 := Lib.hid (HX.out.below hb1)
    have HB1 := Lib.hid hb1
    have hc0 := HX1.out.c0
    obtain ⟨X0, eX0⟩ : ∃ X, encV 6 = X := ⟨_, rfl⟩
    rw [eX0] at HN1 HR1
    have hn1 : X0.length = n1 := HN1.out
    have hX010 : X0.length ≤ 10 := by rw [← eX0]; exact hv10
    have HX0 := Lib.hid eX0
    clear hb1 eV eX0 H1
    have h2 := rput118 w1 ks.length (by omega)
    have H2 := Lib.hid h2
    have c4 := HX1.out.c4
    clear h2
    go_wp2_with (first
     | (go_at_call 118; (with_reducible refine H2.out.mono ?_); rintro e w5 ⟨A5, n5, c5, rfl, HN5, hc5, HR5, hb5⟩; have HS5 := Lib.hid (Kd.R_below HR1.out hb5); have HB5 := Lib.hid (below_step HB1.out hb5); clear hb5)
     | (at_builtin; refine Kd.R_append_row (Value.int .u8) (0 : Int) (h1 := fun _ => rfl) (w0 := V) (W := w5) V.heap.size rfl (.tmp 57) (.tmp 62) 85 5 (.int .u8 0) 1 rfl Try.underlying85 infoBy rfl (by decide) (.slice A1 n1 c1) (bys X0) (bys (encV ks.length)) A5 n5 c5 (fun _ => True) rfl rfl (fun _ _ => trivial) HS5.out (by have := R_C HR5.out; rwa [HN5.out] at this) HB5.out (below_size HB5.out) (by rw [bys_len]; have := HN5.out; omega) ?_; intro v6 w6 hown6 hb6 hg6 hat6; rw [← bys_app] at hown6; have HR8 := Lib.hid hown6; have HB8 := Lib.hid hb6; clear hown6 hb6 hg6 hat6; obtain ⟨A8, n8, c8, rfl, hc8⟩ := R_slice HR8.out))
    obtain ⟨X2, eX2⟩ : ∃ X, X0 ++ encV ks.length = X := ⟨_, rfl⟩
    rw [eX2] at HR8
    have hX2 : X2.length ≤ 1000 := by rw [← eX2]; simp only [List.length_append]; omega
    have HX2 := Lib.hid (show X2 = encV 6 ++ encV ks.length by rw [← eX2, HX0.out])
    clear eX2
    go_loopw [3, 5] (fun u3 u5 wr => ∃ (j : Nat) (xs : List UInt8), u5 = .int .i64 j ∧ j ≤ ks.length ∧ xs.length ≤ 1000 + (encML (ks.take j)).length ∧ Hid (xs = X2 ++ encML (ks.take j)) ∧ Hid ((Kd.int .u8).R 5 wr V.heap.size (fun _ => True) u3 (bys xs)) ∧ Hid (Below V.heap.size V wr)) (fun _ u5 _ => ks.length - (intOf u5).toNat)
    case atStart => exact ⟨0, X2, rfl, Nat.zero_le _, by omega, Lib.hid (by simp [encML]), HR8, HB8⟩
    case round =>
     clear HB8 HR8
     obtain ⟨j, xs, rfl, hj, hxl, HXx, HRx, HBx⟩ := hrel
     obtain ⟨A9, n9, c9, rfl, hc9⟩ := R_slice HRx.out
     have c4 := (HX.out.below HBx.out).c4
     by_cases hlj : j < ks.length
     ·have hltI : (j : Int) < (ks.length : Int) := by omega
      obtain ⟨ad, B3, e3, B4, e4, rfl, hMk, k0, k1, k2, k3, k4⟩ := HM.out.kid j hlj
      have hBw := below_step HBV.out HBx.out
      simp only at k0 k1 k2 k3 k4 hMk
      have k0 := pw_cell_below hBw k0
      have k1 := pw_cell_below hBw k1
      have k2 := pw_cell_below hBw k2
      have k3 := pw_cell_below hBw k3
      have k4 := pw_cell_below hBw k4
      have hmem : ks.getD j z25 ∈ ks := by simp [List.getD_eq_getElem?_getD, hlj]
      have hsmall : nodesM (ks.getD j z25) < nodesM ⟨6, ⟨#[]⟩, ⟨#[]⟩, [], ks⟩ := nodes_lt ⟨6, ⟨#[]⟩, ⟨#[]⟩, [], ks⟩ _ hmem
      have hokk := okL_mem hk hmem
      have HT := Lib.hid (encML_take hlj)
      have hle := encML_le hlj
      obtain ⟨kid, ek⟩ : ∃ kid, ks.getD j z25 = kid := ⟨_, rfl⟩
      rw [ek] at hMk k0 k1 k2 k3 k4 hsmall hokk HT hle
      have HMk := Lib.hid (hMk.below hBw)
      have HOK := Lib.hid hokk
      have hkl : (encM kid).length ≤ 1000000 := by omega
      have HLk := Lib.hid (show (encML (ks.take (j + 1))).length = (encML (ks.take j)).length + (encM kid).length by rw [HT.out, List.length_append])
      have hall : (encML (ks.take j)).length ≤ 1000000 := by omega
      clear ek hmem hMk hokk hBw
      go_wp2_with (first
       | (go_at_call 89; (with_reducible refine (IH.out kid (by omega) HOK.out (by omega) hkl B3 e3 B4 e4 _ HMk.out).mono ?_); rintro e w5 ⟨A5, n5, c5, rfl, HN5, hc5, HC5, hb5⟩; have HS5 := Lib.hid (Kd.R_below HRx.out hb5); have HB5 := Lib.hid (below_step HBx.out hb5); clear hb5)
       | (at_builtin; refine Kd.R_append_row (Value.int .u8) (0 : Int) (h1 := fun _ => rfl) (w0 := V) (W := w5) V.heap.size rfl (.tmp 71) (.tmp 77) 85 5 (.int .u8 0) 1 rfl Try.underlying85 infoBy rfl (by decide) (.slice A9 n9 c9) (bys xs) (bys (encM kid)) A5 n5 c5 (fun _ => True) rfl rfl (fun _ _ => trivial) HS5.out (by have := HC5.out; rwa [HN5.out] at this) HB5.out (below_size HB5.out) (by rw [bys_len]; have := HN5.out; omega) ?_; intro v6 w6 hown6 hb6 hg6 hat6; rw [← bys_app] at hown6; have HR7 := Lib.hid hown6; have HB7 := Lib.hid hb6; clear hown6 hb6 hg6 hat6))
      go_roundw
      case rel => exact ⟨j + 1, xs ++ encM kid, by go_num, by omega, by rw [List.length_append]; have := HLk.out; omega, Lib.hid (by rw [HXx.out, HT.out, List.append_assoc]), HR7, HB7⟩
      case measure => simp [intOf]; omega
     ·obtain rfl : j = ks.length := by omega
      have HXf := Lib.hid (show xs = encM ⟨6, ⟨#[]⟩, ⟨#[]⟩, [], ks⟩ from by rw [HXx.out, HX2.out, HE.out, List.take_length]; try simp)
      rw [HXf.out] at HRx
      have HBf := Lib.hid (below_step HBV.out HBx.out)
      go_wp2
      go_ret
      exact BPo.of HRx.out HBf.out
   ·have hX : BoxM (w.alloc (.cells #[.int .i64 7, .string ⟨#[]⟩, .string ⟨#[]⟩, .slice A3 0 c3, .slice A4 ks.length c4] 25)) w.heap.size 7 ⟨#[]⟩ ⟨#[]⟩ (.slice A3 0 c3) (.slice A4 ks.length c4) := blk_new w _
    have hBV := below_alloc (Below.refl w.heap.size w) (.cells #[.int .i64 7, .string ⟨#[]⟩, .string ⟨#[]⟩, .slice A3 0 c3, .slice A4 ks.length c4] 25)
    obtain ⟨V, eV⟩ : ∃ V, V = (w.alloc (.cells #[.int .i64 7, .string ⟨#[]⟩, .string ⟨#[]⟩, .slice A3 0 c3, .slice A4 ks.length c4] 25)) := ⟨_, rfl⟩
    rw [← eV] at hX hBV
    have h1 : Calls Try.prog 118 #[.int .u64 7] V (PutPost V (encV 7)) := rput118 V 7 (by decide)
    have H1 := Lib.hid h1
    have HX := Lib.hid hX
    have HBV := Lib.hid hBV
    have HM := Lib.hid hM
    have hc0 := hX.c0
    have hv10 := encV_ten (v := 7) (by decide)
    have hE := encM_7 ks
    have hlt : (encM ⟨7, ⟨#[]⟩, ⟨#[]⟩, [], ks⟩).length ≤ 1000000 := hlen
    rw [hE] at hlt
    simp only [List.length_append] at hlt
    have HE := Lib.hid hE
    have H1K := Lib.hid (show ks.length = 1 by
     rw [okM_mk, Bool.and_eq_true] at hok
     have ha := hok.1
     unfold aloneB at ha
     simp only at ha
     rw [if_neg (by decide), if_neg (by decide), if_neg (by decide), if_neg (by decide), if_pos trivial, Bool.and_eq_true, decide_eq_true_iff] at ha
     exact ha.2)
    clear hM hX hBV hE h1
    go_enter Try.func89, Try.ntmps89
    go_wp2_with fail
    rw [← eV]
    (with_reducible refine H1.out.mono ?_)
    rintro e w1 ⟨A1, n1, c1, rfl, HN1, hc1, HR1, hb1⟩
    have HX1 := Lib.hid (HX.out.below hb1)
    have HB1 := Lib.hid hb1
    have hc0 := HX1.out.c0
    obtain ⟨X0, eX0⟩ : ∃ X, encV 7 = X := ⟨_, rfl⟩
    rw [eX0] at HN1 HR1
    have hn1 : X0.length = n1 := HN1.out
    have hX010 : X0.length ≤ 10 := by rw [← eX0]; exact hv10
    have HX0 := Lib.hid eX0
    clear hb1 eV eX0 H1
    have HR8 := HR1
    have HB8 := HB1
    have hX2 : X0.length ≤ 1000 := by omega
    obtain ⟨X2, eX2⟩ : ∃ X, X0 = X := ⟨_, rfl⟩
    rw [eX2] at HR8 hX2
    have HX2 := Lib.hid (show X2 = encV 7 by rw [← eX2, HX0.out])
    clear eX2
    go_wp2
    go_loopw [3, 6] (fun u3 u6 wr => ∃ (j : Nat) (xs : List UInt8), u6 = .int .i64 j ∧ j ≤ ks.length ∧ xs.length ≤ 1000 + (encML (ks.take j)).length ∧ Hid (xs = X2 ++ encML (ks.take j)) ∧ Hid ((Kd.int .u8).R 5 wr V.heap.size (fun _ => True) u3 (bys xs)) ∧ Hid (Below V.heap.size V wr)) (fun _ u6 _ => ks.length - (intOf u6).toNat)
    case atStart => exact ⟨0, X2, rfl, Nat.zero_le _, by omega, Lib.hid (by simp [encML]), HR8, HB8⟩
    case round =>
     clear HB8 HR8
     obtain ⟨j, xs, rfl, hj, hxl, HXx, HRx, HBx⟩ := hrel
     obtain ⟨A9, n9, c9, rfl, hc9⟩ := R_slice HRx.out
     have c4 := (HX.out.below HBx.out).c4
     by_cases hlj : j < ks.length
     ·have hltI : (j : Int) < (ks.length : Int) := by omega
      have hone : (j : Int) < 1 := by have := H1K.out; omega
      obtain ⟨ad, B3, e3, B4, e4, rfl, hMk, k0, k1, k2, k3, k4⟩ := HM.out.kid j hlj
      have hBw := below_step HBV.out HBx.out
      simp only at k0 k1 k2 k3 k4 hMk
      have k0 := pw_cell_below hBw k0
      have k1 := pw_cell_below hBw k1
      have k2 := pw_cell_below hBw k2
      have k3 := pw_cell_below hBw k3
      have k4 := pw_cell_below hBw k4
      have hmem : ks.getD j z25 ∈ ks := by simp [List.getD_eq_getElem?_getD, hlj]
      have hsmall : nodesM (ks.getD j z25) < nodesM ⟨7, ⟨#[]⟩, ⟨#[]⟩, [], ks⟩ := nodes_lt ⟨7, ⟨#[]⟩, ⟨#[]⟩, [], ks⟩ _ hmem
      have hokk := okL_mem hk hmem
      have HT := Lib.hid (encML_take hlj)
      have hle := encML_le hlj
      obtain ⟨kid, ek⟩ : ∃ kid, ks.getD j z25 = kid := ⟨_, rfl⟩
      rw [ek] at hMk k0 k1 k2 k3 k4 hsmall hokk HT hle
      have HMk := Lib.hid (hMk.below hBw)
      have HOK := Lib.hid hokk
      have hkl : (encM kid).length ≤ 1000000 := by omega
      have HLk := Lib.hid (show (encML (ks.take (j + 1))).length = (encML (ks.take j)).length + (encM kid).length by rw [HT.out, List.length_append])
      have hall : (encML (ks.take j)).length ≤ 1000000 := by omega
      clear ek hmem hMk hokk hBw
      go_wp2_with (first
       | (go_at_call 89; (with_reducible refine (IH.out kid (by omega) HOK.out (by omega) hkl B3 e3 B4 e4 _ HMk.out).mono ?_); rintro e w5 ⟨A5, n5, c5, rfl, HN5, hc5, HC5, hb5⟩; have HS5 := Lib.hid (Kd.R_below HRx.out hb5); have HB5 := Lib.hid (below_step HBx.out hb5); clear hb5)
       | (at_builtin; refine Kd.R_append_row (Value.int .u8) (0 : Int) (h1 := fun _ => rfl) (w0 := V) (W := w5) V.heap.size rfl (.tmp 92) (.tmp 98) 85 5 (.int .u8 0) 1 rfl Try.underlying85 infoBy rfl (by decide) (.slice A9 n9 c9) (bys xs) (bys (encM kid)) A5 n5 c5 (fun _ => True) rfl rfl (fun _ _ => trivial) HS5.out (by have := HC5.out; rwa [HN5.out] at this) HB5.out (below_size HB5.out) (by rw [bys_len]; have := HN5.out; omega) ?_; intro v6 w6 hown6 hb6 hg6 hat6; rw [← bys_app] at hown6; have HR7 := Lib.hid hown6; have HB7 := Lib.hid hb6; clear hown6 hb6 hg6 hat6))
      go_roundw
      case rel => exact ⟨j + 1, xs ++ encM kid, by go_num, by omega, by rw [List.length_append]; have := HLk.out; omega, Lib.hid (by rw [HXx.out, HT.out, List.append_assoc]), HR7, HB7⟩
      case measure => simp [intOf]; omega
     ·obtain rfl : j = ks.length := by omega
      have HXf := Lib.hid (show xs = encM ⟨7, ⟨#[]⟩, ⟨#[]⟩, [], ks⟩ from by rw [HXx.out, HX2.out, HE.out, List.take_length]; try simp)
      rw [HXf.out] at HRx
      have HBf := Lib.hid (below_step HBV.out HBx.out)
      go_wp2
      go_ret
      exact BPo.of HRx.out HBf.out
end Go.Proofs.Yteafilojjdfllaa
end
section
namespace Go.Proofs.Yteafilojjdfllaa
open Go Go.RowKit Go.Proofs.YteafilojjdfllaaW.PrintWords Go.Proofs.YteafilojjdfllaaW.PrintLast Go.Proofs.YteafilojjdfllaaW.PrintMore Go.Proofs.Yteafilojjdfllaa.PAll
set_option linter.unusedVariables false
set_option linter.unusedSimpArgs false
set_option maxRecDepth 100000 in
set_option maxHeartbeats 16000000 in
/-- match.Put, of a matcher that may be. -/
theorem mPut87 (m : S25) (hk : chkB m = true) (A : Option Addr) (n c : Nat) (bs : List UInt8) (A3 : Option Addr) (c3 : Nat) (A4 : Option Addr) (c4 : Nat) (w : World) (hn : bs.length = n) (hc : n ≤ c) (hl : n + (encM m).length ≤ 199999999990000) (hC : (Kd.int .u8).C w A bs.length (bys bs)) (hM : MC w m A3 c3 A4 c4) :
  Calls Try.prog 87 #[.slice A n c, .agg #[.int .i64 m.f0, .string m.f1, .string m.f2, .slice A3 m.f3.length c3, .slice A4 m.f4.length c4]] w (BPo w (bs ++ encM m)) := by
 obtain ⟨V, eV⟩ : ∃ V, V = (w.alloc (.cells #[.int .i64 m.f0, .string m.f1, .string m.f2, .slice A3 m.f3.length c3, .slice A4 m.f4.length c4] 25)) := ⟨_, rfl⟩
 have hX : BoxM V w.heap.size m.f0 m.f1 m.f2 (.slice A3 m.f3.length c3) (.slice A4 m.f4.length c4) := by rw [eV]; exact blk_new w _
 have hBV : Below w.heap.size w V := eV ▸ below_alloc (Below.refl _ _) _
 have H1 := Lib.hid (check53v V m A3 c3 A4 c4 true hk (hM.below hBV))
 have HX := Lib.hid hX
 have HBV := Lib.hid hBV
 have hk2 := chk_def.1 hk
 have h64 : nodesM m ≤ 64 := by have := hk2.2.2.1; omega
 have H2 := Lib.hid (fun W (h : Below w.heap.size w W) => mput137 _ m (Nat.le_refl _) hk2.1 h64 A n c bs A3 c3 A4 c4 W hn hc hl (Kd.C_below hC h) (hM.below h))
 clear hk hk2 hC hM hn hX hBV
 go_enter Try.func87, Try.ntmps87
 go_wp2_with fail
 rw [← eV]
 (with_reducible refine H1.out.mono ?_)
 rintro e w1 ⟨rfl, hb1⟩
 have HB1 := Lib.hid (below_step HBV.out hb1)
 have HX1 := HX.out.below hb1
 have k0 := HX1.c0
 have k1 := HX1.c1
 have k2 := HX1.c2
 have k3 := HX1.c3
 have k4 := HX1.c4
 clear hb1 HX1 eV
 go_wp2_with fail
 (with_reducible refine (H2.out _ HB1.out).mono ?_)
 rintro e w2 ⟨A2, n2, c2, rfl, HN2, hc2, HC2, hb2⟩
 have HB2 := Lib.hid (below_step HB1.out hb2)
 clear hb2
 go_wp2
 go_ret
 exact ⟨A2, n2, c2, rfl, HN2, hc2, HC2, HB2.out⟩
end Go.Proofs.Yteafilojjdfllaa
end
section
namespace Go.Proofs.Yteafilojjdfllaa
open Go Go.Proofs.Yteafilojjdfllaa.PAll
theorem encT_le {s : ByteArray} (h : s.size ≤ 1000000) : (encT s.data.toList).length ≤ 10 + s.size := by
 unfold encT
 have e0 : s.data.toList.length = s.size := by simp
 have h0 := encV_ten (v := s.data.toList.length) (by omega)
 simp only [List.length_append]
 omega
theorem encTs_le : ∀ (vs : List ByteArray), (∀ x ∈ vs, x.size ≤ 64) → (vs.flatMap (fun x => encT x.data.toList)).length ≤ 10 * vs.length + sizes vs
 | [], _ => by simp
 | x :: vs, h => by
  have h1 := encT_le (s := x) (by have := h x (List.mem_cons_self ..); omega)
  have h2 := encTs_le vs (fun y hy => h y (List.mem_cons_of_mem _ hy))
  rw [List.flatMap_cons, List.length_append, List.length_cons, sizes]
  omega
theorem encML_len (N : Nat) (ih : ∀ m : S25, nodesM m ≤ N → okM m = true → (encM m).length ≤ bytesM m + 200 * nodesM m) : ∀ (ks : List S25), nodesL ks ≤ N → okL ks = true → (encML ks).length ≤ bytesL ks + 200 * nodesL ks
 | [], _, _ => by simp [encML]
 | k :: ks, hN, hok => by
  rw [okL, Bool.and_eq_true] at hok
  rw [nodesL] at hN
  have h1 := ih k (by omega) hok.1
  have h2 := encML_len N ih ks (by omega) hok.2
  rw [encML, List.length_append, bytesL, nodesL]
  omega
theorem encM_len : ∀ (N : Nat) (m : S25), nodesM m ≤ N → okM m = true → nodesM m ≤ 1000000 → (encM m).length ≤ bytesM m + 200 * nodesM m
 | 0, m, h, _, _ => by rw [nodesM_mk] at h; omega
 | N + 1, m, hN, hok, hM => by
  have hz := leaf_sizes hok
  have hn := nodesM_mk m
  have hb := bytesM_mk m
  have ten : ∀ v : Nat, v < 1000000 → (encV v).length ≤ 10 := fun v hv => encV_ten (by omega)
  rcases shape hok with rfl | ⟨op, n, v, ho, -, rfl⟩ | ⟨n, vs, -, rfl⟩ | ⟨op, ks, ho, hk, rfl⟩
  ·rw [encM_0, List.length_append]
   have := ten 0 (by omega)
   simp only [encML, List.length_nil]
   omega
  ·have h1 := hz.1 ho
   simp only [Array.length_toList] at h1
   have e1 := encT_le (s := n) (by have := h1.1; simp only [ByteArray.size]; omega)
   have e2 := encT_le (s := v) (by have := h1.2; simp only [ByteArray.size]; omega)
   simp only at hb hn
   rcases ho with rfl | rfl | rfl
   ·rw [encM_1]; simp only [List.length_append]; have := ten 1 (by omega); omega
   ·rw [encM_2]; simp only [List.length_append]; have := ten 2 (by omega); omega
   ·rw [encM_3]; simp only [List.length_append]; have := ten 3 (by omega); omega
  ·have h1 := hz.2 rfl
   simp only [Array.length_toList] at h1
   have e1 := encT_le (s := n) (by have := h1.1; simp only [ByteArray.size]; omega)
   have e2 := encTs_le vs h1.2.2
   have e3 := h1.2.1
   simp only at hb hn
   rw [encM_4]
   simp only [List.length_append]
   have := ten 4 (by omega)
   have := ten vs.length (by omega)
   omega
  ·simp only at hb hn
   have hks := len_nodesP ks
   have e1 := encML_len (min N 1000000) (fun m h1 h2 => encM_len N m (by omega) h2 (by omega)) ks (by omega) hk
   have := ten ks.length (by omega)
   rcases ho with rfl | rfl | rfl
   ·rw [encM_5]; simp only [List.length_append]; have := ten 5 (by omega); omega
   ·rw [encM_6]; simp only [List.length_append]; have := ten 6 (by omega); omega
   ·rw [encM_7]; simp only [List.length_append]; have := ten 7 (by omega); omega
theorem encM_small {m : S25} (h : chkB m = true) : (encM m).length ≤ 17000 := by
 have h2 := chk_def.1 h
 have h3 := encM_len 64 m (by omega) h2.1 (by omega)
 omega
end Go.Proofs.Yteafilojjdfllaa
end
section
namespace Go.Proofs.Yteafilojjdfllaa
open Go Go.RowKit Go.Proofs.YteafilojjdfllaaW.PrintWords Go.Proofs.YteafilojjdfllaaW.PrintLast Go.Proofs.YteafilojjdfllaaW.PrintMore Go.Proofs.Yteafilojjdfllaa.PAll
set_option maxRecDepth 100000 in
set_option maxHeartbeats 8000000 in
theorem same90 : ∀ (N : Nat) (m : S25), nodesM m ≤ N → nodesM m ≤ 1000 → m.f3.length ≤ 1000 → wideM m → ∀ (A3 : Option Addr) (c3 : Nat) (A4 : Option Addr) (c4 : Nat) (B3 : Option Addr) (d3 : Nat) (B4 : Option Addr) (d4 : Nat) (w : World), MC w m A3 c3 A4 c4 → MC w m B3 d3 B4 d4 →
  Calls Try.prog 90 #[.agg #[.int .i64 m.f0, .string m.f1, .string m.f2, .slice A3 m.f3.length c3, .slice A4 m.f4.length c4], .agg #[.int .i64 m.f0, .string m.f1, .string m.f2, .slice B3 m.f3.length d3, .slice B4 m.f4.length d4]] w fun e w' => e = .returned (.bool true) ∧ Below w.heap.size w w' := by
 intro N
 induction N with
 | zero => intro m h; rw [nodesM_mk] at h; omega
 | succ N ih =>
  rintro ⟨op, t1, t2, vs, ks⟩ hN h1000 hv1000 hw
  have IH := Lib.hid ih
  clear ih
  intro A3 c3 A4 c4 B3 d3 B4 d4 w hM hM'
  obtain ⟨hw1, hw2⟩ := (wideM_mk _).1 hw
  simp only at hw1 hv1000 hM hM'
  have Hw2 := Lib.hid hw2
  have hks : ks.length ≤ 1000 := by have := len_nodes ks; rw [nodesM_mk] at h1000; simp only at h1000; omega
  obtain ⟨V0, eV0⟩ : ∃ V0, V0 = w.alloc (.cells #[.int .i64 op, .string t1, .string t2, .slice A3 vs.length c3, .slice A4 ks.length c4] 25) := ⟨_, rfl⟩
  obtain ⟨V, eV⟩ : ∃ V, V = V0.alloc (.cells #[.int .i64 op, .string t1, .string t2, .slice B3 vs.length d3, .slice B4 ks.length d4] 25) := ⟨_, rfl⟩
  have hs0 : V0.heap.size = w.heap.size + 1 := by rw [eV0]; simp
  have hB0 : Below w.heap.size w V := by rw [eV, eV0]; exact below_alloc (below_alloc (Below.refl _ _) _) _
  have hX : BoxM V w.heap.size op t1 t2 (.slice A3 vs.length c3) (.slice A4 ks.length c4) := by rw [eV]; exact blk_alloc (by rw [eV0]; exact blk_new w _) _
  have hY : BoxM V (w.heap.size + 1) op t1 t2 (.slice B3 vs.length d3) (.slice B4 ks.length d4) := by rw [eV, ← hs0]; exact blk_new V0 _
  have HM := Lib.hid hM
  have HM' := Lib.hid hM'
  clear hM hM' hw hw2
  have hq : (op == op) = true := beq_self_eq_true _
  have x0 := hX.c0
  have x1 := hX.c1
  have x2 := hX.c2
  have x3 := hX.c3
  have x4 := hX.c4
  have y0 := hY.c0
  have y1 := hY.c1
  have y2 := hY.c2
  have y3 := hY.c3
  have y4 := hY.c4
  go_enter Try.func90, Try.ntmps90
  go_wp2_with fail
  rw [← eV0, ← eV]
  clear eV eV0 hs0
  go_loopw [5] (fun u5 wr => ∃ (j : Nat), u5 = .int .i64 j ∧ j ≤ vs.length ∧ Below V.heap.size V wr)
   (fun u5 _ => vs.length - (intOf u5).toNat)
  case atStart => exact ⟨0, rfl, Nat.zero_le _, Below.refl _ _⟩
  case round =>
   obtain ⟨j, rfl, hj, hB⟩ := hrel
   clear x0 x1 x2 x3 x4 y0 y1 y2 y3 y4
   have x3 := (hX.below hB).c3
   have x4 := (hX.below hB).c4
   have y3 := (hY.below hB).c3
   have y4 := (hY.below hB).c4
   by_cases hlt : j < vs.length
   ·obtain ⟨ad, rfl, a0⟩ := Kd.at_string (Kd.C_below (Kd.C_below HM.out.2.1 hB0) hB) (j : Int) (by omega) (by show (j : Int) < (vs.length : Int); omega)
    obtain ⟨ad2, rfl, b0⟩ := Kd.at_string (Kd.C_below (Kd.C_below HM'.out.2.1 hB0) hB) (j : Int) (by omega) (by show (j : Int) < (vs.length : Int); omega)
    simp only [Int.toNat_natCast] at a0 b0
    go_wp2
    go_quiet (fail)
    go_wp2
    go_roundw
    case rel => exact ⟨j + 1, by go_num, by omega, by repeat (first | exact hB | apply pw_below_drewN | apply below_drew)⟩
    case measure => simp [intOf]; omega
   ·obtain rfl : j = vs.length := by omega
    rename World => wo
    go_wp2
    go_loopw [6] (fun u6 wr => ∃ (i : Nat), u6 = .int .i64 i ∧ i ≤ ks.length ∧ Below V.heap.size V wr)
     (fun u6 _ => ks.length - (intOf u6).toNat)
    case atStart => exact ⟨0, rfl, Nat.zero_le _, hB⟩
    case round =>
     obtain ⟨i, rfl, hi, hBi⟩ := hrel
     clear x3 x4 y3 y4
     have x4 := (hX.below hBi).c4
     have y4 := (hY.below hBi).c4
     by_cases hlt2 : i < ks.length
     ·obtain ⟨ad, F3, e3, F4, e4, rfl, hMk, k0, k1, k2, k3, k4⟩ := ((HM.out.below hB0).below hBi).kid i hlt2
      obtain ⟨ad2, G3, g3, G4, g4, rfl, hMq, q0, q1, q2, q3, q4⟩ := ((HM'.out.below hB0).below hBi).kid i hlt2
      simp only at hMk hMq k0 k1 k2 k3 k4 q0 q1 q2 q3 q4
      have hmem : ks.getD i z25 ∈ ks := by simp [List.getD_eq_getElem?_getD, hlt2]
      have hsmall := nodes_lt ⟨op, t1, t2, vs, ks⟩ _ hmem
      have Hwk := Lib.hid (wideL_at Hw2.out hlt2)
      obtain ⟨kid, ek⟩ : ∃ kid, ks.getD i z25 = kid := ⟨_, rfl⟩
      rw [ek] at hMk hMq k0 k1 k2 k3 k4 q0 q1 q2 q3 q4 hsmall Hwk
      clear ek hmem
      have HMk := Lib.hid (hMk.below (below_drew (Below.refl _ _)))
      have HMq := Lib.hid (hMq.below (below_drew (Below.refl _ _)))
      clear hMk hMq
      have hv1 : kid.f3.length ≤ 1000 := by have := ((wideM_mk _).1 Hwk.out).1; omega
      go_wp2
      go_region_held3 (fun w' => w'.cell? ⟨w.heap.size, 4, none⟩ = some (.slice (some ad) ks.length c4) ∧ w'.cell? ⟨w.heap.size + 1, 4, none⟩ = some (.slice (some ad2) ks.length d4) ∧ w'.cell? (ad.add (i * 5)) = some (.int .i64 kid.f0) ∧ w'.cell? ⟨(ad.add (i * 5)).block, (ad.add (i * 5)).off + 1, none⟩ = some (.string kid.f1) ∧ w'.cell? ⟨(ad.add (i * 5)).block, (ad.add (i * 5)).off + 2, none⟩ = some (.string kid.f2) ∧ w'.cell? ⟨(ad.add (i * 5)).block, (ad.add (i * 5)).off + 3, none⟩ = some (.slice F3 kid.f3.length e3) ∧ w'.cell? ⟨(ad.add (i * 5)).block, (ad.add (i * 5)).off + 4, none⟩ = some (.slice F4 kid.f4.length e4) ∧ w'.cell? (ad2.add (i * 5)) = some (.int .i64 kid.f0) ∧ w'.cell? ⟨(ad2.add (i * 5)).block, (ad2.add (i * 5)).off + 1, none⟩ = some (.string kid.f1) ∧ w'.cell? ⟨(ad2.add (i * 5)).block, (ad2.add (i * 5)).off + 2, none⟩ = some (.string kid.f2) ∧ w'.cell? ⟨(ad2.add (i * 5)).block, (ad2.add (i * 5)).off + 3, none⟩ = some (.slice G3 kid.f3.length g3) ∧ w'.cell? ⟨(ad2.add (i * 5)).block, (ad2.add (i * 5)).off + 4, none⟩ = some (.slice G4 kid.f4.length g4) ∧ Below V.heap.size V w')
       (first | exact ⟨x4, y4, k0, k1, k2, k3, k4, q0, q1, q2, q3, q4, below_drew hBi⟩ | exact ⟨pw_cell_below hb5 x4, pw_cell_below hb5 y4, pw_cell_below hb5 k0, pw_cell_below hb5 k1, pw_cell_below hb5 k2, pw_cell_below hb5 k3, pw_cell_below hb5 k4, pw_cell_below hb5 q0, pw_cell_below hb5 q1, pw_cell_below hb5 q2, pw_cell_below hb5 q3, pw_cell_below hb5 q4, below_step (below_drew hBi) hb5⟩)
       (first | (go_at_call 90; (with_reducible refine (IH.out kid (by omega) (by omega) hv1 Hwk.out F3 e3 F4 e4 G3 g3 G4 g4 _ HMk.out HMq.out).mono ?_); rintro e w5 ⟨rfl, hb5⟩))
      rename_i hS
      have hbel := hS.2.2.2.2.2.2.2.2.2.2.2.2
      clear hS
      go_wp2
      go_roundw
      case rel => exact ⟨i + 1, by go_num, by omega, hbel⟩
      case measure => simp [intOf]; omega
     ·obtain rfl : i = ks.length := by omega
      go_wp2
      go_ret
      exact ⟨rfl, below_step hB0 hBi⟩
end Go.Proofs.Yteafilojjdfllaa
end
section
namespace Go.Proofs.Yteafilojjdfllaa
open Go Go.Proofs.Yteafilojjdfllaa.PAll
mutual
/-- a matcher as a text -/
def textM : S25 → List UInt8
 | ⟨op, n, v, vs, ks⟩ =>
  if op = 0 then [42] else if op = 1 then n.data.toList ++ 61 :: quoteT v else if op = 2 then n.data.toList ++ 33 :: 61 :: quoteT v
  else if op = 3 then n.data.toList ++ 94 :: 61 :: quoteT v else if op = 4 then n.data.toList ++ 64 :: 40 :: (commas (vs.map quoteT) ++ [41])
  else (if op = 5 then 38 else if op = 6 then 124 else 33) :: 40 :: (commas (textsM ks) ++ [41])
def textsM : List S25 → List (List UInt8)
 | [] => []
 | k :: ks => textM k :: textsM ks
end
theorem textsM_map : ∀ (ks : List S25), textsM ks = ks.map textM
 | [] => rfl
 | k :: ks => by rw [textsM, textsM_map ks, List.map_cons]
theorem textM_mk (m : S25) : textM m = if m.f0 = 0 then [42] else if m.f0 = 1 then m.f1.data.toList ++ 61 :: quoteT m.f2 else if m.f0 = 2 then m.f1.data.toList ++ 33 :: 61 :: quoteT m.f2
  else if m.f0 = 3 then m.f1.data.toList ++ 94 :: 61 :: quoteT m.f2 else if m.f0 = 4 then m.f1.data.toList ++ 64 :: 40 :: (commas (m.f3.map quoteT) ++ [41])
  else (if m.f0 = 5 then 38 else if m.f0 = 6 then 124 else 33) :: 40 :: (commas (m.f4.map textM) ++ [41]) := by
 cases m; simp only [textM, textsM_map]
/-- the sign behind a name, and the rest -/
def textN (op : Int) (v : ByteArray) (vs : List ByteArray) : UInt8 × List UInt8 :=
 if op = 1 then (61, quoteT v) else if op = 2 then (33, 61 :: quoteT v) else if op = 3 then (94, 61 :: quoteT v) else (64, 40 :: (commas (vs.map quoteT) ++ [41]))
theorem text_0 : textM ⟨0, ⟨#[]⟩, ⟨#[]⟩, [], []⟩ = [42] := rfl
theorem text_n {op : Int} {n v : ByteArray} {vs : List ByteArray} (h : op = 1 ∨ op = 2 ∨ op = 3 ∨ op = 4) : textM ⟨op, n, v, vs, []⟩ = n.data.toList ++ (textN op v vs).1 :: (textN op v vs).2 := by
 rcases h with rfl | rfl | rfl | rfl <;> rfl
theorem text_k {op : Int} {ks : List S25} (h : op = 5 ∨ op = 6 ∨ op = 7) : textM ⟨op, ⟨#[]⟩, ⟨#[]⟩, [], ks⟩ = (if op = 5 then 38 else if op = 6 then 124 else 33) :: 40 :: (commas (ks.map textM) ++ [41]) := by
 rw [textM_mk]
 rcases h with rfl | rfl | rfl <;> rfl
theorem values_len : ∀ (vs : List ByteArray), ((vs.map quoteT).map (fun x => x.length + 1)).sum ≤ 4 * sizes vs + 3 * vs.length
 | [] => by simp
 | v :: vs => by
  have := values_len vs
  have := quoteT_len v
  simp only [List.map_cons, List.sum_cons, sizes, List.length_cons]
  omega
theorem ok_vals16 {n v : ByteArray} {vs : List ByteArray} {ks : List S25} (h : okM ⟨4, n, v, vs, ks⟩ = true) : vs.length ≤ 16 := by
 rw [okM_mk, Bool.and_eq_true] at h
 have h1 := h.1
 unfold aloneB at h1
 rw [if_neg (show ¬ (4 : Int) = 0 by decide), if_neg (show ¬ ((4 : Int) = 1 ∨ (4 : Int) = 2 ∨ (4 : Int) = 3) by decide), if_pos rfl, Bool.and_eq_true] at h1
 have h2 := h1.2
 unfold valuesB at h2
 rw [Bool.and_eq_true, Bool.and_eq_true, decide_eq_true_iff] at h2
 exact h2.1.1.2
theorem textM_len : ∀ (N : Nat) (m : S25), nodesM m ≤ N → okM m = true → (textM m).length + 1 ≤ 4 * bytesM m + 60 * nodesM m := by
 intro N
 induction N with
 | zero => intro m h; rw [nodesM_mk] at h; omega
 | succ N ih =>
  intro m hN h
  rcases shape h with rfl | ⟨op, n, v, ho, hn, rfl⟩ | ⟨n, vs, hn, rfl⟩ | ⟨op, ks, ho, hk, rfl⟩
  ·rw [text_0, nodesM_mk]; simp only [List.length_cons, List.length_nil]; omega
  ·rw [text_n (by omega), nodesM_mk, bytesM_mk]
   have e : n.data.toList.length = n.size := by simp
   have q := quoteT_len v
   simp only [List.length_append, List.length_cons]
   have : (textN op v []).2.length ≤ 4 * v.size + 3 := by
    rcases ho with rfl | rfl | rfl <;> simp [textN] <;> omega
   omega
  ·have h16 := ok_vals16 h
   rw [text_n (by omega), nodesM_mk, bytesM_mk]
   have e : n.data.toList.length = n.size := by simp
   have q := values_len vs
   have c := commas_len (vs.map quoteT)
   have : (textN 4 ⟨#[]⟩ vs).2 = 40 :: (commas (vs.map quoteT) ++ [41]) := rfl
   rw [this]
   simp only [List.length_append, List.length_cons, List.length_nil]
   omega
  ·have kids : ∀ (l : List S25), (∀ k ∈ l, okM k = true ∧ nodesM k ≤ N) → ((l.map textM).map (fun x => x.length + 1)).sum ≤ 4 * bytesL l + 60 * nodesL l := by
    intro l
    induction l with
    | nil => intro _; simp
    | cons k l il =>
     intro hl
     have h1 := hl k (List.mem_cons_self ..)
     have := ih k h1.2 h1.1
     have := il (fun x hx => hl x (List.mem_cons_of_mem _ hx))
     simp only [List.map_cons, List.sum_cons, bytesL, nodesL]
     omega
   have := kids ks (fun k hk2 => ⟨okL_mem hk hk2, by have := nodes_lt ⟨op, ⟨#[]⟩, ⟨#[]⟩, [], ks⟩ k hk2; omega⟩)
   have c := commas_len (ks.map textM)
   rw [text_k ho, nodesM_mk, bytesM_mk]
   simp only [List.length_append, List.length_cons, List.length_nil]
   omega
end Go.Proofs.Yteafilojjdfllaa
end
section
namespace Go.Proofs.Yteafilojjdfllaa.PAll
open Go.RowKit Go.Proofs.YteafilojjdfllaaW.PrintWords Go.Proofs.YteafilojjdfllaaW.PrintLast Go.Proofs.YteafilojjdfllaaW.PrintMore
attribute [local go_sem] max2_int min2_int max_two min_two max_three min_three max_four min_four   -- for this text's walks alone
set_option linter.unusedVariables false
set_option linter.unusedSimpArgs false
mutual
def label_Quoted.l0 : Nat → ByteArray → List Int → Int → Int → Option (ByteArray)
 | 0, _, _, _, _ => none
 | k + 1, x0, x3, x8, x9 => if x9 < x8 then (if 0 ≤ x9 then (if x9 < (x0.size : Int) then (if (bt x0 x9) = 34 then (label_Quoted.j1 k x0 x3 (bt x0 x9) x8 x9 true) else (label_Quoted.j1 k x0 x3 (bt x0 x9) x8 x9 ((bt x0 x9) == 92))) else (none)) else (none)) else (if x3.length < 140737488355328 then (some (strOfNums (x3 ++ [34]))) else (none))
def label_Quoted.j1 : Nat → ByteArray → List Int → Int → Int → Int → Bool → Option (ByteArray)
 | 0, _, _, _, _, _, _ => none
 | k + 1, x0, x3, x5, x8, x9, x19 => if x19 = true then ((some (([92, x5] : List Int) : List Int)).bind fun y285 => (if x3.length + y285.length < 140737488355328 then (label_Quoted.l0 k x0 (x3 ++ y285) x8 (wrap64 (x9 + 1))) else (none))) else (if x5 < 32 then (if 0 ≤ (x5 / 16) then (if (x5 / 16) < 16 then (if 0 ≤ (Go.bits .and .u8 x5 15) then (if (Go.bits .and .u8 x5 15) < 16 then ((some (([92, 120, bt (⟨#[48, 49, 50, 51, 52, 53, 54, 55, 56, 57, 97, 98, 99, 100, 101, 102]⟩ : ByteArray) (x5 / 16), bt (⟨#[48, 49, 50, 51, 52, 53, 54, 55, 56, 57, 97, 98, 99, 100, 101, 102]⟩ : ByteArray) (Go.bits .and .u8 x5 15)] : List Int) : List Int)).bind fun y291 => (if x3.length + y291.length < 140737488355328 then (label_Quoted.l0 k x0 (x3 ++ y291) x8 (wrap64 (x9 + 1))) else (none))) else (none)) else (none)) else (none)) else (none)) else (if x5 ≥ 127 then (if 0 ≤ (x5 / 16) then (if (x5 / 16) < 16 then (if 0 ≤ (Go.bits .and .u8 x5 15) then (if (Go.bits .and .u8 x5 15) < 16 then ((some (([92, 120, bt (⟨#[48, 49, 50, 51, 52, 53, 54, 55, 56, 57, 97, 98, 99, 100, 101, 102]⟩ : ByteArray) (x5 / 16), bt (⟨#[48, 49, 50, 51, 52, 53, 54, 55, 56, 57, 97, 98, 99, 100, 101, 102]⟩ : ByteArray) (Go.bits .and .u8 x5 15)] : List Int) : List Int)).bind fun y297 => (if x3.length + y297.length < 140737488355328 then (label_Quoted.l0 k x0 (x3 ++ y297) x8 (wrap64 (x9 + 1))) else (none))) else (none)) else (none)) else (none)) else (none)) else (if x3.length < 140737488355328 then (label_Quoted.l0 k x0 (x3 ++ [x5]) x8 (wrap64 (x9 + 1))) else (none))))
end
def label_Quoted.f (k : Nat) (a0 : ByteArray) : Option (ByteArray) := label_Quoted.l0 k a0 (([34] : List Int)) (a0.size : Int) 0
theorem label_Quoted.mono_l : ∀ k, (∀ y0 y1 y2 y3, LeO (label_Quoted.l0 k y0 y1 y2 y3) (label_Quoted.l0 (k + 1) y0 y1 y2 y3)) ∧ (∀ y0 y1 y2 y3 y4 y5, LeO (label_Quoted.j1 k y0 y1 y2 y3 y4 y5) (label_Quoted.j1 (k + 1) y0 y1 y2 y3 y4 y5))
 | 0 => ⟨fun _ _ _ _ r h => by simp [label_Quoted.l0] at h, fun _ _ _ _ _ _ r h => by simp [label_Quoted.j1] at h⟩
 | k + 1 => by
  obtain ⟨ih0, ih1⟩ := label_Quoted.mono_l k
  refine ⟨?_, ?_⟩
  ·intro y0 y1 y2 y3
   unfold label_Quoted.l0
   repeat' first
   | (with_reducible exact ih0 _ _ _ _)
   | (with_reducible exact ih1 _ _ _ _ _ _)
   | (with_reducible exact LeO.refl _)
   | (with_reducible exact LeO.none _)
   | (with_reducible refine LeO.ite ?_ ?_)
   | (with_reducible refine LeO.bind ?_ (fun _ => ?_))
   | exact ih0 _ _ _ _
   | exact ih1 _ _ _ _ _ _
   | exact LeO.none _
   | refine LeO.ite ?_ ?_
   | refine LeO.bind ?_ (fun _ => ?_)
  ·intro y0 y1 y2 y3 y4 y5
   unfold label_Quoted.j1
   repeat' first
   | (with_reducible exact ih0 _ _ _ _)
   | (with_reducible exact ih1 _ _ _ _ _ _)
   | (with_reducible exact LeO.refl _)
   | (with_reducible exact LeO.none _)
   | (with_reducible refine LeO.ite ?_ ?_)
   | (with_reducible refine LeO.bind ?_ (fun _ => ?_))
   | exact ih0 _ _ _ _
   | exact ih1 _ _ _ _ _ _
   | exact LeO.none _
   | refine LeO.ite ?_ ?_
   | refine LeO.bind ?_ (fun _ => ?_)
theorem label_Quoted.mono : ∀ a0 k, LeO (label_Quoted.f k a0) (label_Quoted.f (k + 1) a0) := by
 intro a0 k
 obtain ⟨ih0, ih1⟩ := label_Quoted.mono_l k
 unfold label_Quoted.f
 repeat' first
   | (with_reducible exact ih0 _ _ _ _)
   | (with_reducible exact ih1 _ _ _ _ _ _)
   | (with_reducible exact LeO.refl _)
   | (with_reducible exact LeO.none _)
   | (with_reducible refine LeO.ite ?_ ?_)
   | (with_reducible refine LeO.bind ?_ (fun _ => ?_))
   | exact ih0 _ _ _ _
   | exact ih1 _ _ _ _ _ _
   | exact LeO.none _
   | refine LeO.ite ?_ ?_
   | refine LeO.bind ?_ (fun _ => ?_)
def label_Quoted.T10 : Bool × List (List Nat × List Nat) := (true, [([], []), ([], []), ([1], [1]), ([2], [2]), ([], []), ([4], [4]), ([5], [5]), ([3, 6], [3, 6]), ([0, 7], [0, 7]), ([8, 8, 0, 1, 2, 3, 4, 5, 6, 7, 8], [0, 8])])
def label_Quoted.B10 : List Nat := [0, 0, 2, 6, 0, 16, 48, 126, 255, 511]
theorem label_Quoted.tab10 : rtab .any (opsOf Try.f125 10) = label_Quoted.T10 := by kernel_rfl
theorem label_Quoted.bits10 : waitsOk label_Quoted.T10.2 label_Quoted.B10 = true := by kernel_rfl
set_option maxHeartbeats 8000000 in
set_option maxRecDepth 100000 in
theorem label_Quoted.calls (k : Nat) (a0 : ByteArray) (r : ByteArray) (w : World) (h : label_Quoted.f k a0 = some r) :
  Calls Try.prog 125 #[.string a0] w fun e w' => e = .returned (.string r) ∧ Below w.heap.size w w' := by
 have HB := Aside0.mk (Below.refl w.heap.size w)
 have H : (label_Quoted.l0 k a0 (([34] : List Int)) (a0.size : Int) 0) = some r := h
 clear h
 obtain ⟨y279, hy279⟩ : ∃ y_ : List Int, y_ = (([34] : List Int)) := ⟨_, rfl⟩
 replace H : (label_Quoted.l0 k a0 y279 (a0.size : Int) 0) = some r := by first | (rw [hy279]; with_reducible exact H) | (have H2_ := (Option.bind_some _ _).symm.trans H; rw [hy279]; with_reducible exact H2_) | (have H2_ := (Option.bind_some _ _).symm.trans H; with_reducible exact H2_) | with_reducible exact H | (rw [hy279]; exact H) | exact H
 have Ny279 := Aside0.mk hy279
 clear hy279
 have H' := Aside0.mk H
 clear H
 go_enter Try.func125, Try.ntmps125
 go_wp2_with (first | ((with_reducible refine gate_dst (N := 6) rfl ?_); refine Kd.R_lit (Kd.int .u8) _ 5 ?hg (N := 6) ?hd (xs := ([34] : List Int)) (inner := [.int .u8 34]) (ok := fun _ => True) (okp := fun _ => True) ?hr ?hp (fun _ hk => hk) trivial (Below.refl _ _) (Nat.le_refl _) (by simp) ?_; (case hd => rfl); (case hg => rfl); (case hr => first | (go_simp; done) | (go_simp; rfl)); (case hp => exact (Reps.one (show Kd.M (Kd.int .u8) _ _ _ 34 [.int .u8 34] from rfl) (Reps.none _ _))); intro v280 w2 ho3 hb hg_ hnew_; clear hg_ hnew_; (first | rw [← Ny279.out] at ho3 | (simp only [Int.reduceToNat] at ho3; rw [← Ny279.out] at ho3)); have n0_ := Aside0.mk (Kd.R_lower ho3 (below_size (by repeat (first | (with_reducible first | exact HB.out | apply below_alloc | apply pw_below_drewN | apply below_drew1) | exact HB.out)))); have n1_ := Aside0.mk (below_step (by repeat (first | (with_reducible first | exact HB.out | apply below_alloc | apply pw_below_drewN | apply below_drew1) | exact HB.out)) hb); clear HB; have HO281 := n0_; have HB := n1_; clear n0_ n1_; clear hb ho3))
 go_loopg [3, 9] k (fun kq v3 v9 w' => ∃ (x3_1 : List Int) (x9_1 : Int), v9 = .int .i64 x9_1 ∧ Aside0 (label_Quoted.l0 kq a0 x3_1 (a0.size : Int) x9_1 = some r) ∧ Aside0 (kq ≤ k) ∧ Aside0 (Kd.R (Kd.int .u8) 5 w' w.heap.size (fun _ => True) v3 x3_1) ∧ Aside0 (Below w.heap.size w w'))
 case atStart => exact ⟨(y279), (0), (by first | rfl | (simp; done) | (simp [*]; done)), H', ⟨Nat.le_refl _⟩, ⟨by (with_reducible repeat (first | apply Kd.R_alloc | apply Kd.R_drewN | apply Kd.R_drew)); exact HO281.out⟩, ⟨by repeat (first | (with_reducible first | exact HB.out | apply below_alloc | apply pw_below_drewN | apply below_drew1) | exact HB.out)⟩⟩
 case round =>
  clear H'
  try clear c1
  try clear p2
  obtain ⟨x3_1, x9_1, rfl, HA, HK1, HO_3, HB⟩ := hrel
  cases gk with
  | zero => exact absurd HA.out (by simp [label_Quoted.l0])
  | succ k1 =>
   have H := HA.out
   clear HA
   simp only [label_Quoted.l0] at H
   by_cases c4 : x9_1 < (a0.size : Int)
   ·rw [if_pos c4] at H
    have c4b0 : decide (x9_1 < (a0.size : Int)) = true := decide_eq_true c4
    clear c4
    by_cases c5 : 0 ≤ x9_1
    ·rw [if_pos c5] at H
     have c5b0 : decide (0 ≤ x9_1) = true := decide_eq_true c5
     clear c5
     by_cases c6 : x9_1 < (a0.size : Int)
     ·rw [if_pos c6] at H
      have c6b0 : decide (x9_1 < (a0.size : Int)) = true := decide_eq_true c6
      clear c6
      have HC8 := Aside0.mk H
      clear H
      have p7 : 0 ≤ (x9_1 : Int) := of_decide_eq_true (by first | (with_reducible assumption) | assumption)
      have q7 : x9_1 < (a0.size : Int) := of_decide_eq_true (by first | (with_reducible assumption) | assumption)
      have hx7 := bt_at a0 x9_1
      replace p7 := eq_true p7
      replace q7 := eq_true q7
      go_upto_region 7 with (fail)
      go_cut [19] (fun v19 wc => ∃ (kq : Nat) (x19_7 : Bool), v19 = .bool x19_7 ∧ Aside0 (label_Quoted.j1 kq a0 x3_1 (bt a0 x9_1) (a0.size : Int) x9_1 x19_7 = some r) ∧ Aside0 (kq ≤ k1) ∧ Aside0 (Kd.R (Kd.int .u8) 5 wc w.heap.size (fun _ => True) u3 x3_1) ∧ Aside0 (Below w.heap.size w wc))
      case first =>
       have H := HC8.out
       clear HC8
       by_cases c9 : (bt a0 x9_1) = 34
       ·rw [if_pos c9] at H
        have c9b0 : ((bt a0 x9_1) == 34) = true := beq_iff_eq.mpr c9
        have c9b1 : ((bt a0 x9_1) != 34) = false := bne_eq_false_iff_eq.mpr c9
        clear c9
        (first | rw [c9b0] | (simp only [i64_w, i32_w]; rw [c9b0]) | skip)
        have H' := Aside0.mk H
        clear H
        go_wp2
        go_meet
        case rel => exact ⟨_, (true), (by first | rfl | (simp; done) | (simp [*]; done)), H', ⟨by have := HK1.out; first | omega | exact Nat.le_refl _⟩, ⟨by (with_reducible repeat (first | apply Kd.R_alloc | apply Kd.R_drewN | apply Kd.R_drew)); exact HO_3.out⟩, ⟨by repeat (first | (with_reducible first | exact HB.out | apply below_alloc | apply pw_below_drewN | apply below_drew1) | exact HB.out)⟩⟩
       ·rw [if_neg c9] at H
        have c9b0 : ((bt a0 x9_1) == 34) = false := beq_eq_false_iff_ne.mpr c9
        have c9b1 : ((bt a0 x9_1) != 34) = true := bne_iff_ne.mpr c9
        (first | rw [c9b0] | (simp only [i64_w, i32_w]; rw [c9b0]) | skip)
        have H' := Aside0.mk H
        clear H
        go_wp2
        go_meet
        case rel => exact ⟨_, (((bt a0 x9_1) == 92)), (by first | rfl | (simp; done) | (simp [*]; done)), H', ⟨by have := HK1.out; first | omega | exact Nat.le_refl _⟩, ⟨by (with_reducible repeat (first | apply Kd.R_alloc | apply Kd.R_drewN | apply Kd.R_drew)); exact HO_3.out⟩, ⟨by repeat (first | (with_reducible first | exact HB.out | apply below_alloc | apply pw_below_drewN | apply below_drew1) | exact HB.out)⟩⟩
      case rest =>
       clear HC8
       try clear c1
       try clear p2
       try clear c4
       try clear c4b0
       try clear c5
       try clear c5b0
       try clear c6
       try clear c6b0
       try clear p7
       try clear q7
       try clear hx7
       try clear c9
       try clear c9b0
       try clear c9b1
       try clear p2
       try clear p7
       try clear q7
       obtain ⟨kq, x19_7, rfl, HA, HJ7, HO_3, HB⟩ := hcut
       cases kq with
       | zero => exact absurd HA.out (by simp [label_Quoted.j1])
       | succ kj7 =>
        have H := HA.out
        clear HA
        simp only [label_Quoted.j1] at H
        by_cases c10 : x19_7 = true
        ·subst c10
         have H1 : ((some (([92, (bt a0 x9_1)] : List Int) : List Int)).bind fun y285 => (if x3_1.length + y285.length < 140737488355328 then (label_Quoted.l0 kj7 a0 (x3_1 ++ y285) (a0.size : Int) (wrap64 (x9_1 + 1))) else (none))) = some r := by rw [if_pos rfl] at H; exact H
         clear H
         have H := H1
         clear H1
         obtain ⟨y285, hy285⟩ : ∃ y_ : List Int, y_ = (([92, (bt a0 x9_1)] : List Int)) := ⟨_, rfl⟩
         replace H : (if x3_1.length + y285.length < 140737488355328 then (label_Quoted.l0 kj7 a0 (x3_1 ++ y285) (a0.size : Int) (wrap64 (x9_1 + 1))) else (none)) = some r := by first | (rw [hy285]; with_reducible exact H) | (have H2_ := (Option.bind_some _ _).symm.trans H; rw [hy285]; with_reducible exact H2_) | (have H2_ := (Option.bind_some _ _).symm.trans H; with_reducible exact H2_) | with_reducible exact H | (rw [hy285]; exact H) | exact H
         have Ny285 := Aside0.mk hy285
         clear hy285
         by_cases c11 : x3_1.length + y285.length < 140737488355328
         ·rw [if_pos c11] at H
          have LMc11 := Aside0.mk c11
          clear c11
          obtain ⟨y288, hy288⟩ : ∃ y_ : List Int, y_ = (x3_1 ++ y285) := ⟨_, rfl⟩
          replace H : (label_Quoted.l0 kj7 a0 y288 (a0.size : Int) (wrap64 (x9_1 + 1))) = some r := by first | (rw [hy288]; with_reducible exact H) | (have H2_ := (Option.bind_some _ _).symm.trans H; rw [hy288]; with_reducible exact H2_) | (have H2_ := (Option.bind_some _ _).symm.trans H; with_reducible exact H2_) | with_reducible exact H | (rw [hy288]; exact H) | exact H
          have Ny288 := Aside0.mk hy288
          clear hy288
          have H' := Aside0.mk H
          clear H
          go_wp2_with (first | ((with_reducible refine gate_dst (N := 28) rfl ?_); refine Kd.R_lit (Kd.int .u8) _ 5 ?hg (N := 28) ?hd (xs := ([92, (bt a0 x9_1)] : List Int)) (inner := [.int .u8 92, .int .u8 (bt a0 x9_1)]) (ok := fun _ => True) (okp := fun _ => True) ?hr ?hp (fun _ hk => hk) trivial (Below.refl _ _) (Nat.le_refl _) (by simp) ?_; (case hd => rfl); (case hg => rfl); (case hr => first | (go_simp; done) | (go_simp; rfl)); (case hp => exact (Reps.one (show Kd.M (Kd.int .u8) _ _ _ 92 [.int .u8 92] from rfl) (Reps.one (show Kd.M (Kd.int .u8) _ _ _ (bt a0 x9_1) [.int .u8 (bt a0 x9_1)] from rfl) (Reps.none _ _)))); intro v286 w12 ho13 hb hg_ hnew_; clear hg_ hnew_; (first | rw [← Ny285.out] at ho13 | (simp only [Int.reduceToNat] at ho13; rw [← Ny285.out] at ho13)); have n0_ := Aside0.mk (Kd.R_elder' (by (with_reducible repeat (first | apply Kd.R_alloc | apply Kd.R_drewN | apply Kd.R_drew)); exact HO_3.out) (Kd.R_base ho13) hb); have n1_ := Aside0.mk (Kd.R_lower (Kd.R_new' ho13 (Kd.R_lt (by (with_reducible repeat (first | apply Kd.R_alloc | apply Kd.R_drewN | apply Kd.R_drew)); exact HO_3.out))) (below_size (by repeat (first | (with_reducible first | exact HB.out | apply below_alloc | apply pw_below_drewN | apply below_drew1) | exact HB.out)))); have n2_ := Aside0.mk (below_step (by repeat (first | (with_reducible first | exact HB.out | apply below_alloc | apply pw_below_drewN | apply below_drew1) | exact HB.out)) hb); clear HO_3; clear HB; have HO_3 := n0_; have HO287 := n1_; have HB := n2_; clear n0_ n1_ n2_; clear hb ho13; obtain ⟨Ao15, co15, eo15⟩ := Kd.R_slice HO287.out; subst eo15) | ((with_reducible refine gate_builtin (b := .append) (xs := #[.tmp 26, .tmp 28]) rfl ?_); at_builtin; refine Kd.R_append_rows (Kd.int .u8) (w0 := w) w.heap.size rfl (.tmp 26) (.tmp 28) 85 5 (.int .u8 0) 1 rfl Try.underlying85 info5 rfl (by decide) (by omega) u3 x3_1 y285 _ _ _ (fun k_ => some k_ ≠ (.slice Ao15 y285.length co15 : Value).ownBlock) (fun _ => False) rfl rfl ?aO ?aR (fun _ _ h => h) (fun _ h => h.elim) ?aF ?aB ?aS ?aL ?_; (case aR => repeat (first | exact (Kd.R_reads' HO287.out).2.2 | (with_reducible refine Kd.C_alloc ?_ _) | (with_reducible refine Kd.C_drewN ?_ _) | (with_reducible refine Kd.C_drew ?_))); (case aB => exact (by repeat (first | (with_reducible first | exact HB.out | apply below_alloc | apply pw_below_drewN | apply below_drew1) | exact HB.out))); (case aF => exact (fun k_ hk => Kd.fresh' (Kd.R_lt (by (with_reducible repeat (first | apply Kd.R_alloc | apply Kd.R_drewN | apply Kd.R_drew)); exact HO287.out)) k_ hk)); (case aO => exact (by (with_reducible repeat (first | apply Kd.R_alloc | apply Kd.R_drewN | apply Kd.R_drew)); exact Kd.R_mono HO_3.out (fun _ hk => hk.2))); (case aS => exact (below_size (by repeat (first | (with_reducible first | exact HB.out | apply below_alloc | apply pw_below_drewN | apply below_drew1) | exact HB.out)))); (case aL => have := LMc11.out; omega); intro v289 w14 ho hb hg hat; rw [← Ny288.out] at ho; have n0_ := Aside0.mk (Kd.R_after (ok := (fun _ => True)) (by (with_reducible repeat (first | apply Kd.R_alloc | apply Kd.R_drewN | apply Kd.R_drew)); exact HO287.out) hg hat); have n1_ := Aside0.mk (hb); have n2_ := Aside0.mk (ho); clear HO287; clear HB; clear HO_3; have HO287 := n0_; have HB := n1_; have HO290 := n2_; clear n0_ n1_ n2_; clear ho hb hg hat))
          go_roundg kj7
          case measure => have := HK1.out; have := HJ7.out; omega
          case rel => exact ⟨(y288), (wrap64 (x9_1 + 1)), (by first | rfl | (simp; done) | (simp [*]; done)), H', ⟨by have := HK1.out; have := HJ7.out; omega⟩, ⟨by (with_reducible repeat (first | apply Kd.R_alloc | apply Kd.R_drewN | apply Kd.R_drew)); exact Kd.R_mono HO290.out (fun _ hk => trivial)⟩, ⟨by repeat (first | (with_reducible first | exact HB.out | apply below_alloc | apply pw_below_drewN | apply below_drew1) | exact HB.out)⟩⟩
         ·rw [if_neg c11] at H
          exact absurd H (by simp)
        ·replace c10 := Bool.eq_false_iff.mpr c10
         subst c10
         have H1 : (if (bt a0 x9_1) < 32 then (if 0 ≤ ((bt a0 x9_1) / 16) then (if ((bt a0 x9_1) / 16) < 16 then (if 0 ≤ (Go.bits .and .u8 (bt a0 x9_1) 15) then (if (Go.bits .and .u8 (bt a0 x9_1) 15) < 16 then ((some (([92, 120, bt (⟨#[48, 49, 50, 51, 52, 53, 54, 55, 56, 57, 97, 98, 99, 100, 101, 102]⟩ : ByteArray) ((bt a0 x9_1) / 16), bt (⟨#[48, 49, 50, 51, 52, 53, 54, 55, 56, 57, 97, 98, 99, 100, 101, 102]⟩ : ByteArray) (Go.bits .and .u8 (bt a0 x9_1) 15)] : List Int) : List Int)).bind fun y291 => (if x3_1.length + y291.length < 140737488355328 then (label_Quoted.l0 kj7 a0 (x3_1 ++ y291) (a0.size : Int) (wrap64 (x9_1 + 1))) else (none))) else (none)) else (none)) else (none)) else (none)) else (if (bt a0 x9_1) ≥ 127 then (if 0 ≤ ((bt a0 x9_1) / 16) then (if ((bt a0 x9_1) / 16) < 16 then (if 0 ≤ (Go.bits .and .u8 (bt a0 x9_1) 15) then (if (Go.bits .and .u8 (bt a0 x9_1) 15) < 16 then ((some (([92, 120, bt (⟨#[48, 49, 50, 51, 52, 53, 54, 55, 56, 57, 97, 98, 99, 100, 101, 102]⟩ : ByteArray) ((bt a0 x9_1) / 16), bt (⟨#[48, 49, 50, 51, 52, 53, 54, 55, 56, 57, 97, 98, 99, 100, 101, 102]⟩ : ByteArray) (Go.bits .and .u8 (bt a0 x9_1) 15)] : List Int) : List Int)).bind fun y297 => (if x3_1.length + y297.length < 140737488355328 then (label_Quoted.l0 kj7 a0 (x3_1 ++ y297) (a0.size : Int) (wrap64 (x9_1 + 1))) else (none))) else (none)) else (none)) else (none)) else (none)) else (if x3_1.length < 140737488355328 then (label_Quoted.l0 kj7 a0 (x3_1 ++ [(bt a0 x9_1)]) (a0.size : Int) (wrap64 (x9_1 + 1))) else (none)))) = some r := by rw [if_neg (show ¬ (false = true) by decide)] at H; exact H
         clear H
         have H := H1
         clear H1
         by_cases c16 : (bt a0 x9_1) < 32
         ·rw [if_pos c16] at H
          have c16b0 : decide ((bt a0 x9_1) < 32) = true := decide_eq_true c16
          clear c16
          obtain ⟨ji17, hji17⟩ : ∃ j_ : Int, ((bt a0 x9_1) / 16) = j_ := ⟨_, rfl⟩
          replace H : (if 0 ≤ (ji17) then (if (ji17) < 16 then (if 0 ≤ (Go.bits .and .u8 (bt a0 x9_1) 15) then (if (Go.bits .and .u8 (bt a0 x9_1) 15) < 16 then ((some (([92, 120, bt (⟨#[48, 49, 50, 51, 52, 53, 54, 55, 56, 57, 97, 98, 99, 100, 101, 102]⟩ : ByteArray) (ji17), bt (⟨#[48, 49, 50, 51, 52, 53, 54, 55, 56, 57, 97, 98, 99, 100, 101, 102]⟩ : ByteArray) (Go.bits .and .u8 (bt a0 x9_1) 15)] : List Int) : List Int)).bind fun y291 => (if x3_1.length + y291.length < 140737488355328 then (label_Quoted.l0 kj7 a0 (x3_1 ++ y291) (a0.size : Int) (wrap64 (x9_1 + 1))) else (none))) else (none)) else (none)) else (none)) else (none)) = some r := by first | (rw [hji17] at H; exact H) | (simp only [hji17] at H ⊢; exact H)
          by_cases c18 : 0 ≤ (ji17)
          ·rw [if_pos c18] at H
           have c18b0 : decide (0 ≤ (ji17)) = true := decide_eq_true c18
           clear c18
           by_cases c19 : (ji17) < 16
           ·rw [if_pos c19] at H
            have c19b0 : decide ((ji17) < 16) = true := decide_eq_true c19
            clear c19
            by_cases c21 : 0 ≤ (Go.bits .and .u8 (bt a0 x9_1) 15)
            ·rw [if_pos c21] at H
             have c21b0 : decide (0 ≤ (Go.bits .and .u8 (bt a0 x9_1) 15)) = true := decide_eq_true c21
             clear c21
             by_cases c22 : (Go.bits .and .u8 (bt a0 x9_1) 15) < 16
             ·rw [if_pos c22] at H
              have c22b0 : decide ((Go.bits .and .u8 (bt a0 x9_1) 15) < 16) = true := decide_eq_true c22
              clear c22
              obtain ⟨y291, hy291⟩ : ∃ y_ : List Int, y_ = (([92, 120, bt (⟨#[48, 49, 50, 51, 52, 53, 54, 55, 56, 57, 97, 98, 99, 100, 101, 102]⟩ : ByteArray) (ji17), bt (⟨#[48, 49, 50, 51, 52, 53, 54, 55, 56, 57, 97, 98, 99, 100, 101, 102]⟩ : ByteArray) (Go.bits .and .u8 (bt a0 x9_1) 15)] : List Int)) := ⟨_, rfl⟩
              replace H : (if x3_1.length + y291.length < 140737488355328 then (label_Quoted.l0 kj7 a0 (x3_1 ++ y291) (a0.size : Int) (wrap64 (x9_1 + 1))) else (none)) = some r := by first | (rw [hy291]; with_reducible exact H) | (have H2_ := (Option.bind_some _ _).symm.trans H; rw [hy291]; with_reducible exact H2_) | (have H2_ := (Option.bind_some _ _).symm.trans H; with_reducible exact H2_) | with_reducible exact H | (rw [hy291]; exact H) | exact H
              have Ny291 := Aside0.mk hy291
              clear hy291
              by_cases c24 : x3_1.length + y291.length < 140737488355328
              ·rw [if_pos c24] at H
               have LMc24 := Aside0.mk c24
               clear c24
               obtain ⟨y294, hy294⟩ : ∃ y_ : List Int, y_ = (x3_1 ++ y291) := ⟨_, rfl⟩
               replace H : (label_Quoted.l0 kj7 a0 y294 (a0.size : Int) (wrap64 (x9_1 + 1))) = some r := by first | (rw [hy294]; with_reducible exact H) | (have H2_ := (Option.bind_some _ _).symm.trans H; rw [hy294]; with_reducible exact H2_) | (have H2_ := (Option.bind_some _ _).symm.trans H; with_reducible exact H2_) | with_reducible exact H | (rw [hy294]; exact H) | exact H
               have Ny294 := Aside0.mk hy294
               clear hy294
               have H' := Aside0.mk H
               clear H
               try go_wp2
               have n0_ := Aside0.mk (Kd.R_drew HO_3.out)
               have n1_ := Aside0.mk (below_drew1 HB.out)
               clear HO_3
               clear HB
               have HO_3 := n0_
               have HB := n1_
               clear n0_ n1_
               have p20 : 0 ≤ ((ji17) : Int) := of_decide_eq_true (by first | (with_reducible assumption) | assumption)
               have q20 : (ji17) < (16 : Int) := of_decide_eq_true (by first | (with_reducible assumption) | assumption)
               have hx20 := bt_at (⟨#[48, 49, 50, 51, 52, 53, 54, 55, 56, 57, 97, 98, 99, 100, 101, 102]⟩ : ByteArray) (ji17)
               replace p20 := eq_true p20
               replace q20 := eq_true q20
               have p23 : 0 ≤ ((Go.bits .and .u8 (bt a0 x9_1) 15) : Int) := of_decide_eq_true (by first | (with_reducible assumption) | assumption)
               have q23 : (Go.bits .and .u8 (bt a0 x9_1) 15) < (16 : Int) := of_decide_eq_true (by first | (with_reducible assumption) | assumption)
               have hx23 := bt_at (⟨#[48, 49, 50, 51, 52, 53, 54, 55, 56, 57, 97, 98, 99, 100, 101, 102]⟩ : ByteArray) (Go.bits .and .u8 (bt a0 x9_1) 15)
               replace p23 := eq_true p23
               replace q23 := eq_true q23
               refine start_ (n := 10) (S := fun w' => True) (ds := []) #[false, false, false, false, false, false, false, false, false, false] (by kernel_rfl) rfl rfl trivial (fun hHeld => ?_); refine with_tabW label_Quoted.tab10 label_Quoted.bits10 (fun HT_ HW_ => ?_)
               generalize wc.drew = w25 at HO_3 HB hHeld ⊢
               refine pure_ (i := 0) (N := some 37) (v := ?_) (a' := ?_) #[true, false, false, false, false, false, false, false, false, false] rfl rfl (any_of HT_.out (by kernel_rfl)) (fun _ _ _ h => h) (Or.inl ⟨by rfl, ?_⟩) ?_ ?_
               rotate_left
               ·intro w'
                go_simp
                with_reducible rfl
               rotate_left
               ·simp only [Act.put, List.setIfInBounds_toArray, List.set_cons_zero, List.set_cons_succ, i64_w, i32_w]
                rfl
               refine pure_ (i := 1) (N := some 38) (v := ?_) (a' := ?_) #[true, true, false, false, false, false, false, false, false, false] rfl rfl (any_of HT_.out (by kernel_rfl)) (fun _ _ _ h => h) (Or.inl ⟨by rfl, ?_⟩) ?_ ?_
               rotate_left
               ·intro w'
                go_simp
                with_reducible rfl
               rotate_left
               ·simp only [Act.put, List.setIfInBounds_toArray, List.set_cons_zero, List.set_cons_succ, i64_w, i32_w]
                rfl
               refine pure_ (i := 2) (N := some 39) (v := ?_) (a' := ?_) #[true, true, true, false, false, false, false, false, false, false] rfl rfl (any_of HT_.out (by kernel_rfl)) (fun _ _ _ h => h) (Or.inl ⟨by rfl, ?_⟩) ?_ ?_
               rotate_left
               ·intro w'
                go_simp
                with_reducible rfl
               rotate_left
               ·simp only [Act.put, List.setIfInBounds_toArray, List.set_cons_zero, List.set_cons_succ, i64_w, i32_w]
                rfl
               refine pure_ (i := 4) (N := some 41) (v := ?_) (a' := ?_) #[true, true, true, false, true, false, false, false, false, false] rfl rfl (any_of HT_.out (by kernel_rfl)) (fun _ _ _ h => h) (Or.inl ⟨by rfl, ?_⟩) ?_ ?_
               rotate_left
               ·intro w'
                go_simp
                with_reducible rfl
               rotate_left
               ·simp only [Act.put, List.setIfInBounds_toArray, List.set_cons_zero, List.set_cons_succ, i64_w, i32_w]
                rfl
               refine pure_ (i := 5) (N := some 42) (v := ?_) (a' := ?_) #[true, true, true, false, true, true, false, false, false, false] rfl rfl (any_of HT_.out (by kernel_rfl)) (fun _ _ _ h => h) (Or.inl ⟨by rfl, ?_⟩) ?_ ?_
               rotate_left
               ·intro w'
                go_simp
                with_reducible rfl
               rotate_left
               ·simp only [Act.put, List.setIfInBounds_toArray, List.set_cons_zero, List.set_cons_succ, i64_w, i32_w]
                rfl
               refine take_ (i := 3) (N := some 40) (v := ?_) (a' := ?_) #[true, true, true, true, true, true, false, false, false, false] rfl rfl (take_ofW HT_.out HW_.out (by kernel_rfl)) (fun _ _ _ h => h) (Or.inl ⟨by rfl, ?_⟩) hHeld ?_ ?_
               rotate_left
               ·intro w' _
                go_simp
                with_reducible rfl
               rotate_left
               ·simp only [Act.put, List.setIfInBounds_toArray, List.set_cons_zero, List.set_cons_succ, i64_w, i32_w]
                rfl
               refine take_ (i := 6) (N := some 43) (v := ?_) (a' := ?_) #[true, true, true, true, true, true, true, false, false, false] rfl rfl (take_ofW HT_.out HW_.out (by kernel_rfl)) (fun _ _ _ h => h) (Or.inl ⟨by rfl, ?_⟩) hHeld ?_ ?_
               rotate_left
               ·intro w' _
                go_simp
                with_reducible rfl
               rotate_left
               ·simp only [Act.put, List.setIfInBounds_toArray, List.set_cons_zero, List.set_cons_succ, i64_w, i32_w]
                rfl
               refine one_ (i := 7) (N := some 44) #[true, true, true, true, true, true, true, true, false, false] rfl rfl (one_of HT_.out (by kernel_rfl)) (by decide) (fun K hK => ?_)
               refine Kd.R_lit_step (Kd.int .u8) _ 5 ?hg (N := 44) ?hd (xs := ([92, 120, bt (⟨#[48, 49, 50, 51, 52, 53, 54, 55, 56, 57, 97, 98, 99, 100, 101, 102]⟩ : ByteArray) (ji17), bt (⟨#[48, 49, 50, 51, 52, 53, 54, 55, 56, 57, 97, 98, 99, 100, 101, 102]⟩ : ByteArray) (Go.bits .and .u8 (bt a0 x9_1) 15)] : List Int)) (inner := [.int .u8 92, .int .u8 120, .int .u8 (bt (⟨#[48, 49, 50, 51, 52, 53, 54, 55, 56, 57, 97, 98, 99, 100, 101, 102]⟩ : ByteArray) (ji17)), .int .u8 (bt (⟨#[48, 49, 50, 51, 52, 53, 54, 55, 56, 57, 97, 98, 99, 100, 101, 102]⟩ : ByteArray) (Go.bits .and .u8 (bt a0 x9_1) 15))]) (ok := fun _ => True) (okp := fun _ => True) ?hr ?hp (fun _ hk => hk) trivial (Below.refl _ _) (Nat.le_refl _) (by simp) ?_; (case hd => rfl); (case hg => rfl); (case hr => first | (go_simp; done) | (go_simp; rfl)); (case hp => exact (Reps.one (show Kd.M (Kd.int .u8) _ _ _ 92 [.int .u8 92] from rfl) (Reps.one (show Kd.M (Kd.int .u8) _ _ _ 120 [.int .u8 120] from rfl) (Reps.one (show Kd.M (Kd.int .u8) _ _ _ (bt (⟨#[48, 49, 50, 51, 52, 53, 54, 55, 56, 57, 97, 98, 99, 100, 101, 102]⟩ : ByteArray) (ji17)) [.int .u8 (bt (⟨#[48, 49, 50, 51, 52, 53, 54, 55, 56, 57, 97, 98, 99, 100, 101, 102]⟩ : ByteArray) (ji17))] from rfl) (Reps.one (show Kd.M (Kd.int .u8) _ _ _ (bt (⟨#[48, 49, 50, 51, 52, 53, 54, 55, 56, 57, 97, 98, 99, 100, 101, 102]⟩ : ByteArray) (Go.bits .and .u8 (bt a0 x9_1) 15)) [.int .u8 (bt (⟨#[48, 49, 50, 51, 52, 53, 54, 55, 56, 57, 97, 98, 99, 100, 101, 102]⟩ : ByteArray) (Go.bits .and .u8 (bt a0 x9_1) 15))] from rfl) (Reps.none _ _))))))
               intro v292 w26 ho27 hb hg_ hnew_
               clear hg_ hnew_
               (first | rw [← Ny291.out] at ho27 | (simp only [Int.reduceToNat] at ho27; rw [← Ny291.out] at ho27))
               have n0_ := Aside0.mk (Kd.R_elder' (by (with_reducible repeat (first | apply Kd.R_alloc | apply Kd.R_drewN | apply Kd.R_drew)); exact HO_3.out) (Kd.R_base ho27) hb)
               have n1_ := Aside0.mk (Kd.R_lower (Kd.R_new' ho27 (Kd.R_lt (by (with_reducible repeat (first | apply Kd.R_alloc | apply Kd.R_drewN | apply Kd.R_drew)); exact HO_3.out))) (below_size (by repeat (first | (with_reducible first | exact HB.out | apply below_alloc | apply pw_below_drewN | apply below_drew1) | exact HB.out))))
               have n2_ := Aside0.mk (below_step (by repeat (first | (with_reducible first | exact HB.out | apply below_alloc | apply pw_below_drewN | apply below_drew1) | exact HB.out)) hb)
               clear HO_3
               clear HB
               have HO_3 := n0_
               have HO293 := n1_
               have HB := n2_
               clear n0_ n1_ n2_
               clear hb ho27
               obtain ⟨Ao29, co29, eo29⟩ := Kd.R_slice HO293.out
               (first | subst eo29 | (injection eo29 with f1_ f2_ f3_; have f4_ := f1_.symm; have f5_ := f3_.symm; clear f1_ f2_ f3_; subst f4_; subst f5_))
               refine hK.out _ _ trivial (fun hHeld => ?_)
               clear hK K
               refine norm_ (a' := ?_) ?_ ?_
               rotate_left
               ·show Act.put _ (some 44) _ = _
                simp only [Act.put, List.setIfInBounds_toArray, List.set_cons_zero, List.set_cons_succ, i64_w, i32_w]
                rfl
               refine one_ (i := 8) (N := some 45) #[true, true, true, true, true, true, true, true, true, false] rfl rfl (one_of HT_.out (by kernel_rfl)) (by decide) (fun K hK => ?_)
               refine Kd.R_append_rows_step (Kd.int .u8) (w0 := w) w.heap.size (by rfl) (.tmp 37) (.tmp 44) 85 5 (.int .u8 0) 1 rfl Try.underlying85 info5 rfl (by decide) (by omega) u3 x3_1 y291 _ _ _ (fun k_ => some k_ ≠ (.slice Ao29 y291.length co29 : Value).ownBlock) (fun _ => False) rfl rfl ?aO ?aR (fun _ _ h => h) (fun _ h => h.elim) ?aF ?aB ?aS ?aL ?_
               (case aR => repeat (first | exact (Kd.R_reads' HO293.out).2.2 | (with_reducible refine Kd.C_alloc ?_ _) | (with_reducible refine Kd.C_drewN ?_ _) | (with_reducible refine Kd.C_drew ?_)))
               (case aB => exact (by repeat (first | (with_reducible first | exact HB.out | apply below_alloc | apply pw_below_drewN | apply below_drew1) | exact HB.out)))
               (case aF => exact (fun k_ hk => Kd.fresh' (Kd.R_lt (by (with_reducible repeat (first | apply Kd.R_alloc | apply Kd.R_drewN | apply Kd.R_drew)); exact HO293.out)) k_ hk))
               (case aO => exact (by (with_reducible repeat (first | apply Kd.R_alloc | apply Kd.R_drewN | apply Kd.R_drew)); exact Kd.R_mono HO_3.out (fun _ hk => hk.2)))
               (case aS => exact (below_size (by repeat (first | (with_reducible first | exact HB.out | apply below_alloc | apply pw_below_drewN | apply below_drew1) | exact HB.out))))
               (case aL => have := LMc24.out; omega)
               intro v295 w28 ho hb hg hat
               rw [← Ny294.out] at ho
               have n0_ := Aside0.mk (Kd.R_after (ok := (fun _ => True)) (by (with_reducible repeat (first | apply Kd.R_alloc | apply Kd.R_drewN | apply Kd.R_drew)); exact HO293.out) hg hat)
               have n1_ := Aside0.mk (hb)
               have n2_ := Aside0.mk (ho)
               clear HO293
               clear HB
               clear HO_3
               have HO293 := n0_
               have HB := n1_
               have HO296 := n2_
               clear n0_ n1_ n2_
               clear ho hb hg hat
               refine hK.out _ _ trivial (fun hHeld => ?_)
               clear hK K
               refine norm_ (a' := ?_) ?_ ?_
               rotate_left
               ·show Act.put _ (some 45) _ = _
                simp only [Act.put, List.setIfInBounds_toArray, List.set_cons_zero, List.set_cons_succ, i64_w, i32_w]
                rfl
               refine pure_ (i := 9) (N := some 3) (v := ?_) (a' := ?_) #[true, true, true, true, true, true, true, true, true, true] rfl rfl (any_of HT_.out (by kernel_rfl)) (fun _ _ _ h => h) (Or.inl ⟨by rfl, ?_⟩) ?_ ?_
               rotate_left
               ·intro w'
                go_simp
                with_reducible rfl
               rotate_left
               ·simp only [Act.put, List.setIfInBounds_toArray, List.set_cons_zero, List.set_cons_succ, i64_w, i32_w]
                rfl
               refine done_ (done_of HT_.out (by kernel_rfl)) ?_
               try go_wp2
               go_roundg kj7
               case measure => have := HK1.out; have := HJ7.out; omega
               case rel => exact ⟨(y294), (wrap64 (x9_1 + 1)), (by first | rfl | (simp; done) | (simp [*]; done)), H', ⟨by have := HK1.out; have := HJ7.out; omega⟩, ⟨by (with_reducible repeat (first | apply Kd.R_alloc | apply Kd.R_drewN | apply Kd.R_drew)); exact Kd.R_mono HO296.out (fun _ hk => trivial)⟩, ⟨by repeat (first | (with_reducible first | exact HB.out | apply below_alloc | apply pw_below_drewN | apply below_drew1) | exact HB.out)⟩⟩
              ·rw [if_neg c24] at H
               exact absurd H (by simp)
             ·rw [if_neg c22] at H
              exact absurd H (by simp)
            ·rw [if_neg c21] at H
             exact absurd H (by simp)
           ·rw [if_neg c19] at H
            exact absurd H (by simp)
          ·rw [if_neg c18] at H
           exact absurd H (by simp)
         ·rw [if_neg c16] at H
          have c16b0 : decide ((bt a0 x9_1) < 32) = false := decide_eq_false c16
          clear c16
          by_cases c30 : (bt a0 x9_1) ≥ 127
          ·rw [if_pos c30] at H
           have c30b0 : decide (127 ≤ (bt a0 x9_1)) = true := decide_eq_true c30
           clear c30
           obtain ⟨ji31, hji31⟩ : ∃ j_ : Int, ((bt a0 x9_1) / 16) = j_ := ⟨_, rfl⟩
           replace H : (if 0 ≤ (ji31) then (if (ji31) < 16 then (if 0 ≤ (Go.bits .and .u8 (bt a0 x9_1) 15) then (if (Go.bits .and .u8 (bt a0 x9_1) 15) < 16 then ((some (([92, 120, bt (⟨#[48, 49, 50, 51, 52, 53, 54, 55, 56, 57, 97, 98, 99, 100, 101, 102]⟩ : ByteArray) (ji31), bt (⟨#[48, 49, 50, 51, 52, 53, 54, 55, 56, 57, 97, 98, 99, 100, 101, 102]⟩ : ByteArray) (Go.bits .and .u8 (bt a0 x9_1) 15)] : List Int) : List Int)).bind fun y297 => (if x3_1.length + y297.length < 140737488355328 then (label_Quoted.l0 kj7 a0 (x3_1 ++ y297) (a0.size : Int) (wrap64 (x9_1 + 1))) else (none))) else (none)) else (none)) else (none)) else (none)) = some r := by first | (rw [hji31] at H; exact H) | (simp only [hji31] at H ⊢; exact H)
           by_cases c32 : 0 ≤ (ji31)
           ·rw [if_pos c32] at H
            have c32b0 : decide (0 ≤ (ji31)) = true := decide_eq_true c32
            clear c32
            by_cases c33 : (ji31) < 16
            ·rw [if_pos c33] at H
             have c33b0 : decide ((ji31) < 16) = true := decide_eq_true c33
             clear c33
             by_cases c35 : 0 ≤ (Go.bits .and .u8 (bt a0 x9_1) 15)
             ·rw [if_pos c35] at H
              have c35b0 : decide (0 ≤ (Go.bits .and .u8 (bt a0 x9_1) 15)) = true := decide_eq_true c35
              clear c35
              by_cases c36 : (Go.bits .and .u8 (bt a0 x9_1) 15) < 16
              ·rw [if_pos c36] at H
               have c36b0 : decide ((Go.bits .and .u8 (bt a0 x9_1) 15) < 16) = true := decide_eq_true c36
               clear c36
               obtain ⟨y297, hy297⟩ : ∃ y_ : List Int, y_ = (([92, 120, bt (⟨#[48, 49, 50, 51, 52, 53, 54, 55, 56, 57, 97, 98, 99, 100, 101, 102]⟩ : ByteArray) (ji31), bt (⟨#[48, 49, 50, 51, 52, 53, 54, 55, 56, 57, 97, 98, 99, 100, 101, 102]⟩ : ByteArray) (Go.bits .and .u8 (bt a0 x9_1) 15)] : List Int)) := ⟨_, rfl⟩
               replace H : (if x3_1.length + y297.length < 140737488355328 then (label_Quoted.l0 kj7 a0 (x3_1 ++ y297) (a0.size : Int) (wrap64 (x9_1 + 1))) else (none)) = some r := by first | (rw [hy297]; with_reducible exact H) | (have H2_ := (Option.bind_some _ _).symm.trans H; rw [hy297]; with_reducible exact H2_) | (have H2_ := (Option.bind_some _ _).symm.trans H; with_reducible exact H2_) | with_reducible exact H | (rw [hy297]; exact H) | exact H
               have Ny297 := Aside0.mk hy297
               clear hy297
               by_cases c38 : x3_1.length + y297.length < 140737488355328
               ·rw [if_pos c38] at H
                have LMc38 := Aside0.mk c38
                clear c38
                obtain ⟨y300, hy300⟩ : ∃ y_ : List Int, y_ = (x3_1 ++ y297) := ⟨_, rfl⟩
                replace H : (label_Quoted.l0 kj7 a0 y300 (a0.size : Int) (wrap64 (x9_1 + 1))) = some r := by first | (rw [hy300]; with_reducible exact H) | (have H2_ := (Option.bind_some _ _).symm.trans H; rw [hy300]; with_reducible exact H2_) | (have H2_ := (Option.bind_some _ _).symm.trans H; with_reducible exact H2_) | with_reducible exact H | (rw [hy300]; exact H) | exact H
                have Ny300 := Aside0.mk hy300
                clear hy300
                have H' := Aside0.mk H
                clear H
                try go_wp2
                have n0_ := Aside0.mk (Kd.R_drew HO_3.out)
                have n1_ := Aside0.mk (below_drew1 HB.out)
                clear HO_3
                clear HB
                have HO_3 := n0_
                have HB := n1_
                clear n0_ n1_
                have p34 : 0 ≤ ((ji31) : Int) := of_decide_eq_true (by first | (with_reducible assumption) | assumption)
                have q34 : (ji31) < (16 : Int) := of_decide_eq_true (by first | (with_reducible assumption) | assumption)
                have hx34 := bt_at (⟨#[48, 49, 50, 51, 52, 53, 54, 55, 56, 57, 97, 98, 99, 100, 101, 102]⟩ : ByteArray) (ji31)
                replace p34 := eq_true p34
                replace q34 := eq_true q34
                have p37 : 0 ≤ ((Go.bits .and .u8 (bt a0 x9_1) 15) : Int) := of_decide_eq_true (by first | (with_reducible assumption) | assumption)
                have q37 : (Go.bits .and .u8 (bt a0 x9_1) 15) < (16 : Int) := of_decide_eq_true (by first | (with_reducible assumption) | assumption)
                have hx37 := bt_at (⟨#[48, 49, 50, 51, 52, 53, 54, 55, 56, 57, 97, 98, 99, 100, 101, 102]⟩ : ByteArray) (Go.bits .and .u8 (bt a0 x9_1) 15)
                replace p37 := eq_true p37
                replace q37 := eq_true q37
                refine start_ (n := 10) (S := fun w' => True) (ds := []) #[false, false, false, false, false, false, false, false, false, false] (by kernel_rfl) rfl rfl trivial (fun hHeld => ?_); refine with_tabW label_Quoted.tab10 label_Quoted.bits10 (fun HT_ HW_ => ?_)
                generalize wc.drew = w39 at HO_3 HB hHeld ⊢
                refine pure_ (i := 0) (N := some 37) (v := ?_) (a' := ?_) #[true, false, false, false, false, false, false, false, false, false] rfl rfl (any_of HT_.out (by kernel_rfl)) (fun _ _ _ h => h) (Or.inl ⟨by rfl, ?_⟩) ?_ ?_
                rotate_left
                ·intro w'
                 go_simp
                 with_reducible rfl
                rotate_left
                ·simp only [Act.put, List.setIfInBounds_toArray, List.set_cons_zero, List.set_cons_succ, i64_w, i32_w]
                 rfl
                refine pure_ (i := 1) (N := some 38) (v := ?_) (a' := ?_) #[true, true, false, false, false, false, false, false, false, false] rfl rfl (any_of HT_.out (by kernel_rfl)) (fun _ _ _ h => h) (Or.inl ⟨by rfl, ?_⟩) ?_ ?_
                rotate_left
                ·intro w'
                 go_simp
                 with_reducible rfl
                rotate_left
                ·simp only [Act.put, List.setIfInBounds_toArray, List.set_cons_zero, List.set_cons_succ, i64_w, i32_w]
                 rfl
                refine pure_ (i := 2) (N := some 39) (v := ?_) (a' := ?_) #[true, true, true, false, false, false, false, false, false, false] rfl rfl (any_of HT_.out (by kernel_rfl)) (fun _ _ _ h => h) (Or.inl ⟨by rfl, ?_⟩) ?_ ?_
                rotate_left
                ·intro w'
                 go_simp
                 with_reducible rfl
                rotate_left
                ·simp only [Act.put, List.setIfInBounds_toArray, List.set_cons_zero, List.set_cons_succ, i64_w, i32_w]
                 rfl
                refine pure_ (i := 4) (N := some 41) (v := ?_) (a' := ?_) #[true, true, true, false, true, false, false, false, false, false] rfl rfl (any_of HT_.out (by kernel_rfl)) (fun _ _ _ h => h) (Or.inl ⟨by rfl, ?_⟩) ?_ ?_
                rotate_left
                ·intro w'
                 go_simp
                 with_reducible rfl
                rotate_left
                ·simp only [Act.put, List.setIfInBounds_toArray, List.set_cons_zero, List.set_cons_succ, i64_w, i32_w]
                 rfl
                refine pure_ (i := 5) (N := some 42) (v := ?_) (a' := ?_) #[true, true, true, false, true, true, false, false, false, false] rfl rfl (any_of HT_.out (by kernel_rfl)) (fun _ _ _ h => h) (Or.inl ⟨by rfl, ?_⟩) ?_ ?_
                rotate_left
                ·intro w'
                 go_simp
                 with_reducible rfl
                rotate_left
                ·simp only [Act.put, List.setIfInBounds_toArray, List.set_cons_zero, List.set_cons_succ, i64_w, i32_w]
                 rfl
                refine take_ (i := 3) (N := some 40) (v := ?_) (a' := ?_) #[true, true, true, true, true, true, false, false, false, false] rfl rfl (take_ofW HT_.out HW_.out (by kernel_rfl)) (fun _ _ _ h => h) (Or.inl ⟨by rfl, ?_⟩) hHeld ?_ ?_
                rotate_left
                ·intro w' _
                 go_simp
                 with_reducible rfl
                rotate_left
                ·simp only [Act.put, List.setIfInBounds_toArray, List.set_cons_zero, List.set_cons_succ, i64_w, i32_w]
                 rfl
                refine take_ (i := 6) (N := some 43) (v := ?_) (a' := ?_) #[true, true, true, true, true, true, true, false, false, false] rfl rfl (take_ofW HT_.out HW_.out (by kernel_rfl)) (fun _ _ _ h => h) (Or.inl ⟨by rfl, ?_⟩) hHeld ?_ ?_
                rotate_left
                ·intro w' _
                 go_simp
                 with_reducible rfl
                rotate_left
                ·simp only [Act.put, List.setIfInBounds_toArray, List.set_cons_zero, List.set_cons_succ, i64_w, i32_w]
                 rfl
                refine one_ (i := 7) (N := some 44) #[true, true, true, true, true, true, true, true, false, false] rfl rfl (one_of HT_.out (by kernel_rfl)) (by decide) (fun K hK => ?_)
                refine Kd.R_lit_step (Kd.int .u8) _ 5 ?hg (N := 44) ?hd (xs := ([92, 120, bt (⟨#[48, 49, 50, 51, 52, 53, 54, 55, 56, 57, 97, 98, 99, 100, 101, 102]⟩ : ByteArray) (ji31), bt (⟨#[48, 49, 50, 51, 52, 53, 54, 55, 56, 57, 97, 98, 99, 100, 101, 102]⟩ : ByteArray) (Go.bits .and .u8 (bt a0 x9_1) 15)] : List Int)) (inner := [.int .u8 92, .int .u8 120, .int .u8 (bt (⟨#[48, 49, 50, 51, 52, 53, 54, 55, 56, 57, 97, 98, 99, 100, 101, 102]⟩ : ByteArray) (ji31)), .int .u8 (bt (⟨#[48, 49, 50, 51, 52, 53, 54, 55, 56, 57, 97, 98, 99, 100, 101, 102]⟩ : ByteArray) (Go.bits .and .u8 (bt a0 x9_1) 15))]) (ok := fun _ => True) (okp := fun _ => True) ?hr ?hp (fun _ hk => hk) trivial (Below.refl _ _) (Nat.le_refl _) (by simp) ?_; (case hd => rfl); (case hg => rfl); (case hr => first | (go_simp; done) | (go_simp; rfl)); (case hp => exact (Reps.one (show Kd.M (Kd.int .u8) _ _ _ 92 [.int .u8 92] from rfl) (Reps.one (show Kd.M (Kd.int .u8) _ _ _ 120 [.int .u8 120] from rfl) (Reps.one (show Kd.M (Kd.int .u8) _ _ _ (bt (⟨#[48, 49, 50, 51, 52, 53, 54, 55, 56, 57, 97, 98, 99, 100, 101, 102]⟩ : ByteArray) (ji31)) [.int .u8 (bt (⟨#[48, 49, 50, 51, 52, 53, 54, 55, 56, 57, 97, 98, 99, 100, 101, 102]⟩ : ByteArray) (ji31))] from rfl) (Reps.one (show Kd.M (Kd.int .u8) _ _ _ (bt (⟨#[48, 49, 50, 51, 52, 53, 54, 55, 56, 57, 97, 98, 99, 100, 101, 102]⟩ : ByteArray) (Go.bits .and .u8 (bt a0 x9_1) 15)) [.int .u8 (bt (⟨#[48, 49, 50, 51, 52, 53, 54, 55, 56, 57, 97, 98, 99, 100, 101, 102]⟩ : ByteArray) (Go.bits .and .u8 (bt a0 x9_1) 15))] from rfl) (Reps.none _ _))))))
                intro v298 w40 ho41 hb hg_ hnew_
                clear hg_ hnew_
                (first | rw [← Ny297.out] at ho41 | (simp only [Int.reduceToNat] at ho41; rw [← Ny297.out] at ho41))
                have n0_ := Aside0.mk (Kd.R_elder' (by (with_reducible repeat (first | apply Kd.R_alloc | apply Kd.R_drewN | apply Kd.R_drew)); exact HO_3.out) (Kd.R_base ho41) hb)
                have n1_ := Aside0.mk (Kd.R_lower (Kd.R_new' ho41 (Kd.R_lt (by (with_reducible repeat (first | apply Kd.R_alloc | apply Kd.R_drewN | apply Kd.R_drew)); exact HO_3.out))) (below_size (by repeat (first | (with_reducible first | exact HB.out | apply below_alloc | apply pw_below_drewN | apply below_drew1) | exact HB.out))))
                have n2_ := Aside0.mk (below_step (by repeat (first | (with_reducible first | exact HB.out | apply below_alloc | apply pw_below_drewN | apply below_drew1) | exact HB.out)) hb)
                clear HO_3
                clear HB
                have HO_3 := n0_
                have HO299 := n1_
                have HB := n2_
                clear n0_ n1_ n2_
                clear hb ho41
                obtain ⟨Ao43, co43, eo43⟩ := Kd.R_slice HO299.out
                (first | subst eo43 | (injection eo43 with f1_ f2_ f3_; have f4_ := f1_.symm; have f5_ := f3_.symm; clear f1_ f2_ f3_; subst f4_; subst f5_))
                refine hK.out _ _ trivial (fun hHeld => ?_)
                clear hK K
                refine norm_ (a' := ?_) ?_ ?_
                rotate_left
                ·show Act.put _ (some 44) _ = _
                 simp only [Act.put, List.setIfInBounds_toArray, List.set_cons_zero, List.set_cons_succ, i64_w, i32_w]
                 rfl
                refine one_ (i := 8) (N := some 45) #[true, true, true, true, true, true, true, true, true, false] rfl rfl (one_of HT_.out (by kernel_rfl)) (by decide) (fun K hK => ?_)
                refine Kd.R_append_rows_step (Kd.int .u8) (w0 := w) w.heap.size (by rfl) (.tmp 37) (.tmp 44) 85 5 (.int .u8 0) 1 rfl Try.underlying85 info5 rfl (by decide) (by omega) u3 x3_1 y297 _ _ _ (fun k_ => some k_ ≠ (.slice Ao43 y297.length co43 : Value).ownBlock) (fun _ => False) rfl rfl ?aO ?aR (fun _ _ h => h) (fun _ h => h.elim) ?aF ?aB ?aS ?aL ?_
                (case aR => repeat (first | exact (Kd.R_reads' HO299.out).2.2 | (with_reducible refine Kd.C_alloc ?_ _) | (with_reducible refine Kd.C_drewN ?_ _) | (with_reducible refine Kd.C_drew ?_)))
                (case aB => exact (by repeat (first | (with_reducible first | exact HB.out | apply below_alloc | apply pw_below_drewN | apply below_drew1) | exact HB.out)))
                (case aF => exact (fun k_ hk => Kd.fresh' (Kd.R_lt (by (with_reducible repeat (first | apply Kd.R_alloc | apply Kd.R_drewN | apply Kd.R_drew)); exact HO299.out)) k_ hk))
                (case aO => exact (by (with_reducible repeat (first | apply Kd.R_alloc | apply Kd.R_drewN | apply Kd.R_drew)); exact Kd.R_mono HO_3.out (fun _ hk => hk.2)))
                (case aS => exact (below_size (by repeat (first | (with_reducible first | exact HB.out | apply below_alloc | apply pw_below_drewN | apply below_drew1) | exact HB.out))))
                (case aL => have := LMc38.out; omega)
                intro v301 w42 ho hb hg hat
                rw [← Ny300.out] at ho
                have n0_ := Aside0.mk (Kd.R_after (ok := (fun _ => True)) (by (with_reducible repeat (first | apply Kd.R_alloc | apply Kd.R_drewN | apply Kd.R_drew)); exact HO299.out) hg hat)
                have n1_ := Aside0.mk (hb)
                have n2_ := Aside0.mk (ho)
                clear HO299
                clear HB
                clear HO_3
                have HO299 := n0_
                have HB := n1_
                have HO302 := n2_
                clear n0_ n1_ n2_
                clear ho hb hg hat
                refine hK.out _ _ trivial (fun hHeld => ?_)
                clear hK K
                refine norm_ (a' := ?_) ?_ ?_
                rotate_left
                ·show Act.put _ (some 45) _ = _
                 simp only [Act.put, List.setIfInBounds_toArray, List.set_cons_zero, List.set_cons_succ, i64_w, i32_w]
                 rfl
                refine pure_ (i := 9) (N := some 3) (v := ?_) (a' := ?_) #[true, true, true, true, true, true, true, true, true, true] rfl rfl (any_of HT_.out (by kernel_rfl)) (fun _ _ _ h => h) (Or.inl ⟨by rfl, ?_⟩) ?_ ?_
                rotate_left
                ·intro w'
                 go_simp
                 with_reducible rfl
                rotate_left
                ·simp only [Act.put, List.setIfInBounds_toArray, List.set_cons_zero, List.set_cons_succ, i64_w, i32_w]
                 rfl
                refine done_ (done_of HT_.out (by kernel_rfl)) ?_
                try go_wp2
                go_roundg kj7
                case measure => have := HK1.out; have := HJ7.out; omega
                case rel => exact ⟨(y300), (wrap64 (x9_1 + 1)), (by first | rfl | (simp; done) | (simp [*]; done)), H', ⟨by have := HK1.out; have := HJ7.out; omega⟩, ⟨by (with_reducible repeat (first | apply Kd.R_alloc | apply Kd.R_drewN | apply Kd.R_drew)); exact Kd.R_mono HO302.out (fun _ hk => trivial)⟩, ⟨by repeat (first | (with_reducible first | exact HB.out | apply below_alloc | apply pw_below_drewN | apply below_drew1) | exact HB.out)⟩⟩
               ·rw [if_neg c38] at H
                exact absurd H (by simp)
              ·rw [if_neg c36] at H
               exact absurd H (by simp)
             ·rw [if_neg c35] at H
              exact absurd H (by simp)
            ·rw [if_neg c33] at H
             exact absurd H (by simp)
           ·rw [if_neg c32] at H
            exact absurd H (by simp)
          ·rw [if_neg c30] at H
           have c30b0 : decide (127 ≤ (bt a0 x9_1)) = false := decide_eq_false c30
           clear c30
           by_cases c44 : x3_1.length < 140737488355328
           ·rw [if_pos c44] at H
            have LMc44 := Aside0.mk c44
            clear c44
            obtain ⟨y303, hy303⟩ : ∃ y_ : List Int, y_ = (x3_1 ++ [(bt a0 x9_1)]) := ⟨_, rfl⟩
            replace H : (label_Quoted.l0 kj7 a0 y303 (a0.size : Int) (wrap64 (x9_1 + 1))) = some r := by first | (rw [hy303]; with_reducible exact H) | (have H2_ := (Option.bind_some _ _).symm.trans H; rw [hy303]; with_reducible exact H2_) | (have H2_ := (Option.bind_some _ _).symm.trans H; with_reducible exact H2_) | with_reducible exact H | (rw [hy303]; exact H) | exact H
            have Ny303 := Aside0.mk hy303
            clear hy303
            have H' := Aside0.mk H
            clear H
            go_wp2_with (first | ((with_reducible refine gate_builtin (b := .append) (xs := #[.tmp 15, .tmp 17]) rfl ?_); at_builtin; refine Kd.R_append (Kd.int .u8) (w0 := w) w.heap.size rfl (.tmp 15) (.tmp 17) 85 5 (.int .u8 0) 1 rfl Try.underlying85 info5 rfl (by decide) (by omega) u3 x3_1 (bt a0 x9_1) [.int .u8 (bt a0 x9_1)] (fun _ => True) (fun _ => False) rfl rfl ?aP (fun _ hk => hk.elim) ?aF ?aO ?aB ?aS ?aL ?_; (case aP => exact rfl); (case aB => exact (by repeat (first | (with_reducible first | exact HB.out | apply below_alloc | apply pw_below_drewN | apply below_drew1) | exact HB.out))); (case aF => exact (fun _ _ => trivial)); (case aO => exact (by (with_reducible repeat (first | apply Kd.R_alloc | apply Kd.R_drewN | apply Kd.R_drew)); exact HO_3.out)); (case aS => exact (below_size (by repeat (first | (with_reducible first | exact HB.out | apply below_alloc | apply pw_below_drewN | apply below_drew1) | exact HB.out)))); (case aL => have := LMc44.out; omega); intro v304 w45 ho hb hg hat; rw [← Ny303.out] at ho; have n0_ := Aside0.mk (hb); have n1_ := Aside0.mk (ho); clear HB; clear HO_3; have HB := n0_; have HO305 := n1_; clear n0_ n1_; clear ho hb hg hat))
            go_roundg kj7
            case measure => have := HK1.out; have := HJ7.out; omega
            case rel => exact ⟨(y303), (wrap64 (x9_1 + 1)), (by first | rfl | (simp; done) | (simp [*]; done)), H', ⟨by have := HK1.out; have := HJ7.out; omega⟩, ⟨by (with_reducible repeat (first | apply Kd.R_alloc | apply Kd.R_drewN | apply Kd.R_drew)); exact HO305.out⟩, ⟨by repeat (first | (with_reducible first | exact HB.out | apply below_alloc | apply pw_below_drewN | apply below_drew1) | exact HB.out)⟩⟩
           ·rw [if_neg c44] at H
            exact absurd H (by simp)
     ·rw [if_neg c6] at H
      exact absurd H (by simp)
    ·rw [if_neg c5] at H
     exact absurd H (by simp)
   ·rw [if_neg c4] at H
    have c4b0 : decide (x9_1 < (a0.size : Int)) = false := decide_eq_false c4
    clear c4
    by_cases c46 : x3_1.length < 140737488355328
    ·rw [if_pos c46] at H
     have LMc46 := Aside0.mk c46
     clear c46
     obtain ⟨y282, hy282⟩ : ∃ y_ : List Int, y_ = (x3_1 ++ [34]) := ⟨_, rfl⟩
     replace H : (some (strOfNums y282)) = some r := by first | (rw [hy282]; with_reducible exact H) | (have H2_ := (Option.bind_some _ _).symm.trans H; rw [hy282]; with_reducible exact H2_) | (have H2_ := (Option.bind_some _ _).symm.trans H; with_reducible exact H2_) | with_reducible exact H | (rw [hy282]; exact H) | exact H
     have Ny282 := Aside0.mk hy282
     clear hy282
     obtain rfl := Option.some.inj H
     go_wp2_with (first | ((with_reducible refine gate_builtin (b := .append) (xs := #[.tmp 47, .tmp 48]) rfl ?_); at_builtin; refine Kd.R_append (Kd.int .u8) (w0 := w) w.heap.size rfl (.tmp 47) (.tmp 48) 85 5 (.int .u8 0) 1 rfl Try.underlying85 info5 rfl (by decide) (by omega) u3 x3_1 34 [.int .u8 34] (fun _ => True) (fun _ => False) rfl rfl ?aP (fun _ hk => hk.elim) ?aF ?aO ?aB ?aS ?aL ?_; (case aP => exact rfl); (case aB => exact (by repeat (first | (with_reducible first | exact HB.out | apply below_alloc | apply pw_below_drewN | apply below_drew1) | exact HB.out))); (case aF => exact (fun _ _ => trivial)); (case aO => exact (by (with_reducible repeat (first | apply Kd.R_alloc | apply Kd.R_drewN | apply Kd.R_drew)); exact HO_3.out)); (case aS => exact (below_size (by repeat (first | (with_reducible first | exact HB.out | apply below_alloc | apply pw_below_drewN | apply below_drew1) | exact HB.out)))); (case aL => have := LMc46.out; omega); intro v283 w47 ho hb hg hat; rw [← Ny282.out] at ho; have n0_ := Aside0.mk (hb); have n1_ := Aside0.mk (ho); clear HB; clear HO_3; have HB := n0_; have HO284 := n1_; clear n0_ n1_; clear ho hb hg hat; have hcv48 := own_string (P := Try.prog) Try.underlying85 Try.underlying5 Try.underlying9 (Kd.own_of_R HO284.out)))
     go_ret
     exact ⟨by first | rfl | (simp [errW_none, errW_some] <;> rfl) | (simp [*, errW_none, errW_some] <;> rfl), by repeat (first | (with_reducible first | exact HB.out | apply below_alloc | apply pw_below_drewN | apply below_drew1) | exact HB.out)⟩
    ·rw [if_neg c46] at H
     exact absurd H (by simp)

-- NOT PRINTED: function 191 (abi_NoEscape)

-- NOT PRINTED: function 183 (strings_Builder_copyCheck)

-- NOT PRINTED: function 192 (bytealg_MakeNoZero)

-- NOT PRINTED: function 184 (strings_Builder_grow)

-- NOT PRINTED: function 165 (strings_Builder_Grow)

-- NOT PRINTED: function 166 (strings_Builder_WriteString)

-- NOT PRINTED: function 167 (strings_Builder_String)

-- NOT PRINTED: function 126 (strings_Join)
def match_sign.f (a0 : Int) : Option (ByteArray) := if a0 = 5 then (some (⟨#[38]⟩ : ByteArray)) else (if a0 = 6 then (some (⟨#[124]⟩ : ByteArray)) else (some (⟨#[33]⟩ : ByteArray)))
set_option maxHeartbeats 8000000 in
set_option maxRecDepth 100000 in
theorem match_sign.calls (a0 : Int) (r : ByteArray) (w : World) (h : match_sign.f a0 = some r) :
  Calls Try.prog 159 #[.int .i64 a0] w fun e w' => e = .returned (.string r) ∧ Drawn0 w w' := by
 have H : (if a0 = 5 then (some (⟨#[38]⟩ : ByteArray)) else (if a0 = 6 then (some (⟨#[124]⟩ : ByteArray)) else (some (⟨#[33]⟩ : ByteArray)))) = some r := h
 clear h
 by_cases c2 : a0 = 5
 ·rw [if_pos c2] at H
  have c2b0 : (a0 == 5) = true := beq_iff_eq.mpr c2
  have c2b1 : (a0 != 5) = false := bne_eq_false_iff_eq.mpr c2
  clear c2
  obtain rfl := Option.some.inj H
  go_enter Try.func159, Try.ntmps159
  go_wp2
  go_ret
  exact ⟨by first | rfl | (simp; done) | (simp [*]; done), by repeat (first | exact Drawn0.refl _ | apply Drawn0.step)⟩
 ·rw [if_neg c2] at H
  have c2b0 : (a0 == 5) = false := beq_eq_false_iff_ne.mpr c2
  have c2b1 : (a0 != 5) = true := bne_iff_ne.mpr c2
  by_cases c3 : a0 = 6
  ·rw [if_pos c3] at H
   have c3b0 : (a0 == 6) = true := beq_iff_eq.mpr c3
   have c3b1 : (a0 != 6) = false := bne_eq_false_iff_eq.mpr c3
   clear c3
   obtain rfl := Option.some.inj H
   go_enter Try.func159, Try.ntmps159
   go_wp2
   go_ret
   exact ⟨by first | rfl | (simp; done) | (simp [*]; done), by repeat (first | exact Drawn0.refl _ | apply Drawn0.step)⟩
  ·rw [if_neg c3] at H
   have c3b0 : (a0 == 6) = false := beq_eq_false_iff_ne.mpr c3
   have c3b1 : (a0 != 6) = true := bne_iff_ne.mpr c3
   obtain rfl := Option.some.inj H
   go_enter Try.func159, Try.ntmps159
   go_wp2
   go_ret
   exact ⟨by first | rfl | (simp; done) | (simp [*]; done), by repeat (first | exact Drawn0.refl _ | apply Drawn0.step)⟩

-- NOT PRINTED: function 110 (match_text)

-- NOT PRINTED: function 61 (match_Text)

-- NOT PRINTED: function 52 (varvelaw12_awake)

-- NOT PRINTED: function 9 (varvelaw12_MatchChecks)

-- NOT PRINTED: function 10 (varvelaw12_MatchEvals)

-- NOT PRINTED: function 11 (varvelaw12_MatchLaws)
end Go.Proofs.Yteafilojjdfllaa.PAll
end
