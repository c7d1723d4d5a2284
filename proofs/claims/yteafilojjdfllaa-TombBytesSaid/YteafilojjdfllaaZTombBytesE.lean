/- A part of the proof of TombBytes. No condition. -/
import Derived.Lib.AppendStr
import Derived.Laws.BitsAllLaws
import Derived.Laws.DeepNot64
import Derived.Test.YteafilojjdfllaaZTombBytesD
set_option linter.unusedVariables false
set_option linter.unusedSimpArgs false
set_option maxRecDepth 100000
set_option maxHeartbeats 200000000
section
namespace Go.Proofs.Yteafilojjdfllaa
open Go Go.RowKit Go.Proofs.YteafilojjdfllaaW.PrintWords Go.Proofs.YteafilojjdfllaaW.PrintLast Go.Proofs.YteafilojjdfllaaW.PrintMore Go.Proofs.Yteafilojjdfllaa.PAll
def IHgot (w0 : World) (g gn : Nat) (A : Option Addr) (n c : Nat) (bs : List UInt8) (d : Nat) (dz : Int) : Prop :=
 ∀ (w : World) (at_ : Int) (left : Nat) (nz : Int), left ≤ 64 → Below w0.heap.size w0 w → RB w g A n c at_ false → NB w gn nz → nz = 64 - (left : Int) → Calls Try.prog 141 #[.pointer (some ⟨g, 0, none⟩), .pointer (some ⟨gn, 0, none⟩), .int .i64 dz] w (zCl w0 w g gn A n c (GotQ false d left bs at_))
theorem got_any {w0 w w' : World} {g gn n c : Nat} {A : Option Addr} {Q : Option (S25 × Nat × List UInt8)} {e : Ending} (h : zCl w0 w g gn A n c Q e w') : ∃ x0 x1 x2 B3 m3 e3 B4 m4 e4 i5 bb5 nz5, e = .returned (.agg #[.int .i64 x0, .string x1, .string x2, .slice B3 m3 e3, .slice B4 m4 e4]) ∧ Below w0.heap.size w0 w' ∧ KeepBut w w' g (some gn) ∧ RB w' g A n c i5 bb5 ∧ NB w' gn nz5 ∧ Hid ((bb5 = true ∧ Q = none) ∨ (bb5 = false ∧ ∃ (m : S25) (l : Nat) (r : List UInt8), Q = some (m, l, r) ∧ x0 = m.f0 ∧ x1 = m.f1 ∧ x2 = m.f2 ∧ m3 = m.f3.length ∧ m4 = m.f4.length ∧ MF w' (fun b => w.heap.size ≤ b ∧ b < w'.heap.size) m B3 e3 B4 e4 ∧ i5 = (n : Int) - (r.length : Nat) ∧ nz5 = 64 - (l : Int))) := by
 obtain ⟨h1, h2, ⟨h3, ⟨x0, x1, x2, A3, n3, c3, A4, n4, c4, rfl⟩, ⟨i, h4⟩, k, h5⟩ | ⟨m, l, r, A3, c3, A4, c4, h3, rfl, h4, h5, h6⟩⟩ := h
 ·exact ⟨x0, x1, x2, A3, n3, c3, A4, n4, c4, i, true, k, rfl, h1, h2, h4, h5, zH (Or.inl ⟨rfl, h3⟩)⟩
 exact ⟨_, _, _, A3, _, c3, A4, _, c4, _, false, _, rfl, h1, h2, h5, h6, zH (Or.inr ⟨rfl, m, l, r, h3, rfl, rfl, rfl, rfl, rfl, h4, rfl, rfl⟩)⟩
theorem GotQ_at {bs r : List UInt8} {j d left : Nat} (hr : bs.drop j = r) : GotQ false d left bs (j : Int) = decM d left r := by
 unfold GotQ
 rw [if_neg (by simp), Int.toNat_natCast, hr]
theorem got141g5 (w0 w : World) (g gn : Nat) (A : Option Addr) (n c : Nat) (bs : List UInt8) (at_ : Int) (left d : Nat) (hl : left ≤ 63) (hd8 : d ≤ 7) (r : List UInt8) (j : Nat) (hnc : n ≤ c) (hj : (n : Int) - (r.length : Nat) = (j : Int)) (hr : bs.drop j = r) (hq0 : getW bs at_ = some (5, r)) (hn : bs.length = n) (hnl : n ≤ 1000000000000000) (hg : w0.heap.size ≤ g) (hgn : w0.heap.size ≤ gn) (hne : g ≠ gn) (hB : Below w0.heap.size w0 w) (hS : RB w g A n c at_ false) (nz : Int) (hN : NB w gn nz) (hnz : nz = 63 - (left : Int)) (hC0 : (Kd.int .u8).C w0 A bs.length (bys bs)) (dz : Int) (hdz : dz = 8 - (d : Int)) (ih : IHgot w0 g gn A n c bs d (dz + 1)) :
  Calls Try.prog 141 #[.pointer (some ⟨g, 0, none⟩), .pointer (some ⟨gn, 0, none⟩), .int .i64 dz] w (zCl w0 w g gn A n c (GotQ false (d + 1) (left + 1) bs at_)) := by
 have IH := zH ih
 clear ih
 have hQ : GotQ false (d + 1) (left + 1) bs at_ = (match decV 0 0 r with | none => none | some (k, r3) => if k ≤ 64 then (zBn d left k r3).map (fun q => ((⟨5, ⟨#[]⟩, ⟨#[]⟩, [], q.1⟩ : S25), q.2)) else none) := by
  unfold getW at hq0
  unfold GotQ
  split
  ·next h =>
   rcases h with h | h
   ·cases h
   rw [if_pos h] at hq0; cases hq0
  next h =>
  have hi : ¬ at_ < 0 := fun e => h (Or.inr e)
  rw [if_neg hi] at hq0
  rw [decM, hq0]
  simp only
  rw [if_neg (by decide), if_neg (by decide), if_neg (by decide), if_pos (by decide)]
  all_goals
   cases decV 0 0 r with
   | none => rfl
   | some q2 => rfl
 obtain ⟨Q, eQ⟩ : ∃ Q, GotQ false (d + 1) (left + 1) bs at_ = Q := ⟨_, rfl⟩
 rw [eQ]
 have HQ := zH (eQ.symm.trans hQ)
 have HN := zH hn
 have HC0 := zH hC0
 have HR := zH hr
 have hgl := hS.lt
 have hgnl := zAp hN
 have hne2 := hne.symm
 obtain ⟨nz1, hnz1⟩ : ∃ nz1, nz + 1 = nz1 := ⟨_, rfl⟩
 have hw1 : wrap64 (nz + 1) = nz1 := by unfold wrap64; omega
 have hN2 : NB (w.alloc (.cells Z5 25)) gn nz := (Below.heap_alloc _ _ _ hgnl).trans hN
 have hS2 : RB (w.alloc (.cells Z5 25)) g A n c at_ false := (Below.heap_alloc _ _ _ hgl).trans hS
 have hS3 : RB ((w.alloc (.cells Z5 25)).setCell ⟨gn, 0, none⟩ (.int .i64 nz1)) g A n c at_ false := (Below.heap_setCell _ _ _ _ hne).trans hS2
 have m0 := zAb hN2 0
 have mz0 := zAa hN2 0
 simp only [zC, zA] at m0
 have t1 : ¬ (64 : Int) < nz1 := by omega
 have t2 : decide ((64 : Int) < nz1) = false := zF t1
 have t3 : ¬ (8 : Int) < dz := by omega
 have t4 : decide ((8 : Int) < dz) = false := zF t3
 obtain ⟨V, eV⟩ : ∃ V, V = (w.alloc (.cells Z5 25)).setCell ⟨gn, 0, none⟩ (.int .i64 nz1) := ⟨_, rfl⟩
 have hBV : Below w0.heap.size w0 V := by rw [eV]; exact (zAc hB _).setCell hgn _
 have hKV : KeepBut w V g (some gn) := by
  rw [eV]
  refine ⟨by simp, fun i hi h1 h2 => ?_⟩
  have h3 : i ≠ gn := fun e => h2 (by rw [e])
  exact (Below.heap_setCell _ _ _ _ h3).trans (Below.heap_alloc _ _ _ hi)
 have hSV : RB V g A n c at_ false := by rw [eV]; exact hS3
 have hNV : NB V gn nz1 := by rw [eV]; exact (zAn hN2 0 _).trans (by rfl)
 have hZV : V.heap[w.heap.size]? = some (.cells Z5 25 (0, 0)) := by rw [eV]; exact (Below.heap_setCell _ _ _ _ (by simp; omega)).trans (zAs w _)
 have hsV : V.heap.size = w.heap.size + 1 := by rw [eV]; simp
 have h1 := zEd w0 V g A n c bs at_ false 5 j r (by unfold numW; rw [if_neg (by decide)]; exact hq0) hj hn hnl hg hBV hSV hC0
 have H1 := zH h1
 have HK := zH hKV
 have HNV := zH hNV
 have HZV := zH hZV
 have HW := zH hB.size
 have HG := zH (And.intro hgl (And.intro hgnl hsV))
 have HNZ := zH (show nz1 = 64 - (left : Int) by omega)
 have HDZ := zH hdz
 clear hQ hq0 eQ hr hS hS2 hS3 hN hN2 hgl hgnl hBV hKV hSV hNV hZV h1 hC0 hn hdz hnz hsV hB hnz1
 obtain ⟨K, eK⟩ : ∃ K, w.heap.size = K := ⟨_, rfl⟩
 have EK := zH eK.symm
 go_enter Try.func141, Try.ntmps141
 go_wp2_with fail
 rw [← eV]
 refine H1.out.mono ?_
 rintro e w1 ⟨rfl, hB1, hK1, hR1⟩
 obtain ⟨hg1, hg2, hg3⟩ := HG.out
 have hZ1 := (hK1.2 _ (zAp HZV.out) (by omega) (by simp)).trans HZV.out
 rw [eK] at hZ1
 have hN1 : NB w1 gn nz1 := (hK1.2 gn (zAp HNV.out) hne2 (by simp)).trans HNV.out
 have hs1 := hK1.1
 have s2 := hR1.c2
 have hKl := zAp hZ1
 obtain ⟨W, eW⟩ : ∃ W, W = w1.alloc (.cells #[.int .i64 5, .string ⟨#[]⟩, .string ⟨#[]⟩, .slice none 0 0, .slice none 0 0] 25) := ⟨_, rfl⟩
 obtain ⟨G, eG⟩ : ∃ G, w1.heap.size = G := ⟨_, rfl⟩
 have b5 : W.heap[G]? = some (.cells #[.int .i64 5, .string ⟨#[]⟩, .string ⟨#[]⟩, .slice none 0 0, .slice none 0 0] 25 (0, 0)) := by rw [eW, ← eG]; exact zAs w1 _
 have b4 : W.heap[K]? = some (.cells Z5 25 (0, 0)) := by rw [eW]; exact (Below.heap_alloc _ _ _ hKl).trans hZ1
 have hBW : Below w0.heap.size w0 W := by rw [eW]; exact zAc hB1 _
 have hKW : KeepBut w W g (some gn) := by rw [eW]; exact zAw HK.out (zAw (zBf hK1) (zBf (KeepBut.of_below (zAc (Below.refl w1.heap.size w1) _) g none)))
 have hRW : RB W g A n c (j : Int) false := by rw [eW]; exact (Below.heap_alloc _ _ _ hR1.lt).trans hR1
 have hNW : NB W gn nz1 := by rw [eW]; exact (Below.heap_alloc _ _ _ (zAp hN1)).trans hN1
 have HGW := zH (show g < K ∧ gn < K ∧ K < G ∧ W.heap.size = G + 1 from ⟨by omega, by omega, by omega, by rw [eW, World.size_alloc, eG]⟩)
 have HGK := zH (show w0.heap.size ≤ G by have := HW.out; omega)
 clear eK hB1 hK1 hR1 hN1 hZ1 hKl hs1 eV H1 HK HZV HNV HG hg1 hg2 hg3
 have hdw : wrap64 (dz + 1) = dz + 1 := by have := HDZ.out; unfold wrap64; omega
 have h3 := cnt120 w0 W g A n c bs (j : Int) false 64 64 rfl (by decide) HN.out hnl hg hBW hRW HC0.out
 have H3 := zH h3
 have E5 := zH b5
 have E4 := zH b4
 have HKW := zH hKW
 have HNW := zH hNW
 have HRr := zH (show j ≤ n by omega)
 clear b5 b4 hKW hBW hRW hNW hj h3
 go_wp2_with fail
 rw [← eW]
 refine H3.out.mono ?_
 rintro e w4 ⟨k, i2, bb2, rfl, hB4, hK4, hR4, hk64, HT2⟩
 obtain ⟨hg1, hg2, hg3, hg4⟩ := HGW.out
 have d5 := (hK4.2 G (by omega) (by omega) (by simp)).trans E5.out
 have d4 := (hK4.2 K (by omega) (by omega) (by simp)).trans E4.out
 have dn : NB w4 gn nz1 := (hK4.2 gn (by omega) hne2 (by simp)).trans HNW.out
 have hK4' := zAw HKW.out (zBf hK4)
 obtain ⟨base, hbase⟩ : ∃ base, w4.heap.size = base := ⟨_, rfl⟩
 have hs4 := hK4.1
 have HGS := zH (show g < K ∧ gn < K ∧ K < G ∧ G < base from ⟨hg1, hg2, hg3, by omega⟩)
 have HS0 : Hid ((bb2 = true ∧ Q = none) ∨ (bb2 = false ∧ ∃ (p : Nat) (rr : List UInt8), p ≤ n ∧ bs.drop p = rr ∧ i2 = (p : Int) ∧ Q = (zBn d left k rr).map (fun q => ((⟨5, ⟨#[]⟩, ⟨#[]⟩, [], [] ++ q.1⟩ : S25), q.2)))) := by
  refine zH ?_
  rcases HT2.out with ⟨h2, h2b⟩ | ⟨r3, h2, h2i, h2b⟩
  ·refine Or.inl ⟨h2b, ?_⟩
   rw [zFe HR.out] at h2
   rw [HQ.out]
   cases hv : decV 0 0 r with
   | none => rfl
   | some q =>
   rw [hv] at h2
   simp only at h2 ⊢
   split
   ·next hk =>
    rw [zJl (by
     rcases Nat.lt_or_ge q.2.length q.1 with h | h
     ·exact h
     ·rw [if_pos ⟨hk, h⟩] at h2; cases h2)]
    rfl
   rfl
  rw [zFe HR.out] at h2
  cases hv : decV 0 0 r with
  | none => rw [hv] at h2; cases h2
  | some q =>
  rw [hv] at h2
  simp only at h2
  split at h2
  ·next hk =>
   simp only [Option.some.injEq, Prod.mk.injEq] at h2
   obtain ⟨h3, h4⟩ := h2
   obtain ⟨p, hp1, hp2, hp3, hp4⟩ := zHw HN.out HRr.out (by rw [HR.out]; exact hv)
   rw [h4] at hp3 hp4
   refine Or.inr ⟨h2b, p, r3, hp2, hp4, by rw [h2i, hp3], ?_⟩
   rw [HQ.out]
   simp only [hv]
   rw [if_pos hk.1, h3, h4]
   rfl
  cases h2
 have hw0b : w0.heap.size ≤ base := by have := HGK.out; omega
 clear hs4 hg1 hg2 hg3 hg4 H3 E4 E5 eW HT2 HQ HKW HNW HRr HR hK4 eG
 go_wp2
 go_loopw [13, 14] (fun u13 u14 wr => ∃ (i : Nat) (at2 : Int) (bb : Bool) (A4 : Option Addr) (n4 c4 : Nat) (nzr : Int), u13 = .int .i64 (i : Nat) ∧ i ≤ k ∧ wr.heap[G]? = some (.cells #[.int .i64 5, .string ⟨#[]⟩, .string ⟨#[]⟩, .slice none 0 0, .slice A4 n4 c4] 25 (0, 0)) ∧ wr.heap[K]? = some (.cells Z5 25 (0, 0)) ∧ NB wr gn nzr ∧ RB wr g A n c at2 bb ∧ Below w0.heap.size w0 wr ∧ KeepBut w wr g (some gn) ∧ base ≤ wr.heap.size ∧ Hid ((bb = true ∧ Q = none) ∨ (bb = false ∧ ∃ (p l2 : Nat) (ks : List S25) (cells : List Value) (rr : List UInt8), n4 = i ∧ ks.length = i ∧ l2 ≤ left ∧ nzr = 64 - (l2 : Int) ∧ p ≤ n ∧ bs.drop p = rr ∧ at2 = (p : Int) ∧ wr.ownsRow base 25 5 (.slice A4 i c4) i cells ∧ Reps (KR wr (Part base wr (.slice A4 i c4))) 5 ks cells ∧ Q = (zBn d l2 (k - i) rr).map (fun q => ((⟨5, ⟨#[]⟩, ⟨#[]⟩, [], ks ++ q.1⟩ : S25), q.2)))))
  (fun u13 _ _ => k - (intOf u13).toNat)
 case atStart => exact ⟨0, i2, bb2, none, 0, 0, nz1, rfl, Nat.zero_le _, d5, d4, dn, hR4, hB4, hK4', Nat.le_of_eq hbase.symm, zH (HS0.out.imp id (fun ⟨h, p, rr, h1, h2, h3, h4⟩ => ⟨h, p, left, [], [], rr, rfl, rfl, Nat.le_refl _, HNZ.out, h1, h2, h3, World.ownsRow_nil _ _ _ _, by simpa using Reps.none _ _, h4⟩))⟩
 case round =>
  clear d5 d4 dn hR4 hB4 hK4' HS0 hbase
  obtain ⟨i, at2, bb, A4, n4, c4, nzr, rfl, hik, hXr, hPr, hNr, hRr, hBr, hKr, hSr, HST⟩ := hrel
  have HXr := zH hXr
  have HPr := zH hPr
  have HNr := zH hNr
  have HRr := zH hRr
  have HBr := zH hBr
  have HKr := zH hKr
  have HSr := zH hSr
  have r2 := hRr.c2
  obtain ⟨hg1, hg2, hg3, hg4⟩ := HGS.out
  have hGK : G ≠ K := by omega
  have hKG : K ≠ G := by omega
  clear hg1 hg2 hg3 hg4
  cases bb with
  | true =>
   have y0 := zAb hXr 0
   have z0 := zAa hXr 0
   have y1 := zAb hXr 1
   have z1 := zAa hXr 1
   have y2 := zAb hXr 2
   have z2 := zAa hXr 2
   have y3 := zAb hXr 3
   have z3 := zAa hXr 3
   have y4 := zAb hXr 4
   have z4 := zAa hXr 4
   simp only [zC, zA, zB] at y0 y1 y2 y3 y4
   have yK0 := zAb hPr 0
   have zK0 := zAa hPr 0
   have yK1 := zAb hPr 1
   have zK1 := zAa hPr 1
   have yK2 := zAb hPr 2
   have zK2 := zAa hPr 2
   have yK3 := zAb hPr 3
   have zK3 := zAa hPr 3
   have yK4 := zAb hPr 4
   have zK4 := zAa hPr 4
   simp only [zC, zA, zB] at yK0 yK1 yK2 yK3 yK4
   clear hXr hPr hNr hRr hBr hKr hSr
   have HQn := zH (show Q = none by
    rcases HST.out with ⟨-, h⟩ | ⟨h, -⟩
    ·exact h
    ·cases h)
   by_cases hlt : i < k
   all_goals (go_wp2; obtain ⟨hg1, hg2, hg3, hg4⟩ := HGS.out)
   all_goals
    obtain ⟨t1, t2, t3, t4, t5⟩ := zCg (w0 := w0) (g := g) (gn := gn) (.int .i64 5) (.string ⟨#[]⟩) (.string ⟨#[]⟩) (.slice none 0 0) (.slice A4 n4 c4) EK.out HPr.out HW.out HBr.out HKr.out
    refine bodyPost_ret (zAt rfl (.cell K 25 _ (0, 0) _ rfl t1 Try.underlying25 rfl (by kernel_rfl) .nil)) rfl ?_
    rw [HQn.out]
    exact zEo (by omega) (by omega) t2 t3 t4 HRr.out HNr.out
  | false =>
  obtain ⟨p, l2, ks, cells, rr, rfl, hvi, hl2, hnzr, hpn, hpr, rfl, hO3, hRp, hQ⟩ : ∃ (p l2 : Nat) (ks : List S25) (cells : List Value) (rr : List UInt8), n4 = i ∧ ks.length = i ∧ l2 ≤ left ∧ nzr = 64 - (l2 : Int) ∧ p ≤ n ∧ bs.drop p = rr ∧ at2 = (p : Int) ∧ wr.ownsRow base 25 5 (.slice A4 i c4) i cells ∧ Reps (KR wr (Part base wr (.slice A4 i c4))) 5 ks cells ∧ Q = (zBn d l2 (k - i) rr).map (fun q => ((⟨5, ⟨#[]⟩, ⟨#[]⟩, [], ks ++ q.1⟩ : S25), q.2)) := by
   rcases HST.out with ⟨h, -⟩ | ⟨-, h⟩
   ·cases h
   exact h
  have HO3 := zH hO3
  have HQi := zH hQ
  have HRp := zH hRp
  have HIN := zH (And.intro hpn (And.intro hpr (And.intro hvi (And.intro hl2 hnzr))))
  by_cases hlt : n4 < k
  ·have h7 := IH.out wr (p : Int) l2 nzr (by omega) hBr hRr hNr hnzr
   rw [GotQ_at hpr] at h7
   have H7 := zH h7
   clear hXr hPr hNr hRr hBr hKr hSr hO3 hQ hpn hpr hvi HST h7 hl2 hnzr hRp
   go_wp2_with fail
   refine H7.out.mono ?_
   intro e w5 hp5
   clear H7
   obtain ⟨x0, x1, x2, B3, m3, e3, B4, m4, e4, i5, bb5, nz5, rfl, hB5, hK5, hR5, hN5, HT5⟩ := got_any hp5
   obtain ⟨hg1, hg2, hg3, hg4⟩ := HGS.out
   have hsr := HSr.out
   have f5 := (hK5.2 G (by omega) (by omega) (by simp; omega)).trans HXr.out
   have f4 := (hK5.2 K (by omega) (by omega) (by simp; omega)).trans HPr.out
   have hO5 : w5.ownsRow base 25 5 (.slice A4 n4 c4) n4 cells := zBt HO3.out (fun k hk => hK5.2 k (HO3.out.lt _ hk).2 (by have := (HO3.out.lt _ hk).1; omega) (by have := (HO3.out.lt _ hk).1; simp; omega))
   have hs5 := hK5.1
   obtain ⟨V5, eV5⟩ : ∃ V5, V5 = w5.alloc (.cells #[.int .i64 x0, .string x1, .string x2, .slice B3 m3 e3, .slice B4 m4 e4] 25) := ⟨_, rfl⟩
   have hBV5 : Below w5.heap.size w5 V5 := by rw [eV5]; exact zAc (Below.refl _ _) _
   have f5a := (hBV5.block G (zAp f5)).trans f5
   have f4a := (hBV5.block K (zAp f4)).trans f4
   have HO5 := zH (zCm hO5 hBV5)
   have HB5 := zH (zAe hB5 hBV5)
   have HK5 := zH (zAw HKr.out (zAw hK5 (zBf (KeepBut.of_below hBV5 g none))))
   have HR5 := zH (hR5.below hBV5)
   have HN5 : Hid (NB V5 gn nz5) := zH ((hBV5.block gn (zAp hN5)).trans hN5)
   have F5 := zH f5a
   have F4 := zH f4a
   have HBV5 := zH hBV5
   have HV5S := zH (show V5.heap.size = w5.heap.size + 1 by rw [eV5, World.size_alloc])
   have HS5 := zH (show base ≤ V5.heap.size by have := hBV5.size; omega)
   have HK5' := zH hK5
   have HW5 := zH (show wr.heap.size ≤ w5.heap.size from hs5)
   have HLT := zH (fun k (hk : (Value.slice A4 n4 c4).ownBlock = some k) => HO3.out.lt _ hk)
   have y0 := zAb f5a 0
   have z0 := zAa f5a 0
   have y1 := zAb f5a 1
   have z1 := zAa f5a 1
   have y2 := zAb f5a 2
   have z2 := zAa f5a 2
   have y3 := zAb f5a 3
   have z3 := zAa f5a 3
   have y4 := zAb f5a 4
   have z4 := zAa f5a 4
   simp only [zC, zA, zB] at y0 y1 y2 y3 y4
   rw [eV5] at y0 z0 y1 z1 y2 z2 y3 z3 y4 z4
   clear hB5 hK5 hR5 hN5 hO5 hBV5 f4 f5 f4a f5a hs5 hsr hg1 hg2 hg3 hg4 hp5
   go_wp2_with (at_builtin; rw [← eV5]; refine zBq (w0 := V5) (W := V5) base rfl (.tmp 111) (.tmp 113) 23 25 (.agg Z5) 5 88 rfl Try.underlying23 infoM rfl (by decide) (by decide) (.slice A4 n4 c4) n4 cells [.int .i64 x0, .string x1, .string x2, .slice B3 m3 e3, .slice B4 m4 e4] rfl (by rw [HV5S.out]; rfl) rfl (by intro u hu; simp only [List.mem_cons, List.not_mem_nil, or_false] at hu; rcases hu with rfl | rfl | rfl | rfl | rfl <;> rfl) HO5.out (Below.refl _ _) HS5.out (by omega) ?_; intro v2 w6 hown6 hb6 hg6 hat6; obtain ⟨A2, c2, rfl⟩ := zCh hown6; have hneG : some G ≠ (Value.slice A4 n4 c4).ownBlock := (fun e => by have := (HLT.out _ e.symm).1; have := HGS.out; omega); have q5 := (hg6.block G (zAp F5.out) hneG).trans F5.out; have q53 := zAb q5 4; have q5z := zAa q5 4; have Q5 := zH q5; have HG6 := zH hg6; have HO6 := zH hown6; have HAT6 := zH hat6; clear hown6 hb6 hg6 hat6 q5 hneG; simp only [zC, zA, zB] at q53)
   go_roundw
   case rel =>
    obtain ⟨hg1, hg2, hg3, hg4⟩ := HGS.out
    have hl2 := HLT.out
    have hs5 := HS5.out
    have hs6 := HG6.out.size
    have hl5 := (HK5.out).1
    have hneK : some K ≠ (Value.slice A4 n4 c4).ownBlock := fun e => by have := (hl2 _ e.symm).1; omega
    have hneg : some g ≠ (Value.slice A4 n4 c4).ownBlock := fun e => by have := (hl2 _ e.symm).1; omega
    have hnegn : some gn ≠ (Value.slice A4 n4 c4).ownBlock := fun e => by have := (hl2 _ e.symm).1; omega
    have q4 := (HG6.out.block K (zAp F4.out) hneK).trans F4.out
    have qn : NB w6 gn nz5 := (HG6.out.block gn (zAp HN5.out) hnegn).trans HN5.out
    have qg : RB w6 g A n c i5 bb5 := (HG6.out.block g HR5.out.lt hneg).trans HR5.out
    have hB6 : Below w0.heap.size w0 w6 := HB5.out.grown HG6.out (by omega) (fun k hk => by have := (hl2 k hk).1; omega)
    have hK6 : KeepBut w w6 g (some gn) := ⟨by omega, fun i hi h1 h2 => (HG6.out.block i (by omega) (fun e => by have := (hl2 _ e.symm).1; have := EK.out; omega)).trans (HK5.out.2 i hi h1 h2)⟩
    have hnew : ∀ k, (Value.slice A2 (n4 + 1) c2).ownBlock = some k → k ≠ G := fun k hk => by have := (HO6.out.lt _ hk).1; omega
    have hX6 := (zAn Q5.out 4 (.slice A2 (n4 + 1) c2))
    have hP6 : (w6.setCell ⟨G, 4, none⟩ (.slice A2 (n4 + 1) c2)).heap[K]? = some (.cells Z5 25 (0, 0)) := (Below.heap_setCell _ _ _ _ (show K ≠ G by omega)).trans q4
    have hN6 : NB (w6.setCell ⟨G, 4, none⟩ (.slice A2 (n4 + 1) c2)) gn nz5 := (Below.heap_setCell _ _ _ _ (show gn ≠ G by omega)).trans qn
    have hR6 : RB (w6.setCell ⟨G, 4, none⟩ (.slice A2 (n4 + 1) c2)) g A n c i5 bb5 := (Below.heap_setCell _ _ _ _ (show g ≠ G by omega)).trans qg
    have hB6' : Below w0.heap.size w0 (w6.setCell ⟨G, 4, none⟩ (.slice A2 (n4 + 1) c2)) := hB6.setCell HGK.out _
    have hK6' : KeepBut w (w6.setCell ⟨G, 4, none⟩ (.slice A2 (n4 + 1) c2)) g (some gn) := ⟨by have := hK6.1; simpa using this, fun i hi h1 h2 => (Below.heap_setCell _ _ _ _ (show i ≠ G by have := EK.out; omega)).trans (hK6.2 i hi h1 h2)⟩
    have hO6 : (w6.setCell ⟨G, 4, none⟩ (.slice A2 (n4 + 1) c2)).ownsRow base 25 5 (.slice A2 (n4 + 1) c2) (n4 + 1) _ := zBt HO6.out (fun k hk => Below.heap_setCell _ _ _ _ (hnew k hk))
    have hfar : ∀ b, b < V5.heap.size → (Value.slice A4 n4 c4).ownBlock ≠ some b → (Value.slice A2 (n4 + 1) c2).ownBlock ≠ some b := fun b hb hne e => by
     rcases HAT6.out with h | ⟨b', h, hb'⟩
     ·exact hne (h.symm.trans e)
     ·rw [h] at e; cases e; omega
    have hmove : ∀ b, b < w5.heap.size → (Value.slice A4 n4 c4).ownBlock ≠ some b → b ≠ G → (w6.setCell ⟨G, 4, none⟩ (.slice A2 (n4 + 1) c2)).heap[b]? = w5.heap[b]? := fun b hb h1 h2 => (Below.heap_setCell _ _ _ _ h2).trans ((HG6.out.block b (by have := HBV5.out.size; omega) (fun e => h1 e.symm)).trans (HBV5.out.block b hb))
    have hs6' : (w6.setCell ⟨G, 4, none⟩ (.slice A2 (n4 + 1) c2)).heap.size = w6.heap.size := by simp
    obtain ⟨hpn, hpr, hvi, hl2', hnzr⟩ := HIN.out
    refine ⟨n4 + 1, i5, bb5, A2, n4 + 1, c2, nz5, by go_num, by omega, hX6.trans (by rfl), hP6, hN6, hR6, hB6', hK6', by omega, zH ?_⟩
    rcases HT5.out with ⟨h1, h1b⟩ | ⟨h1, kid, l3, r4, h2, rfl, rfl, rfl, rfl, rfl, hMF5, h3, h4⟩
    ·exact Or.inl ⟨h1, by rw [HQi.out, zGr (by omega) h1b]; rfl⟩
    obtain ⟨p2, hp2n, hp2I, hr4⟩ := zCz (d := d) (l := l2) (m := kid) (l' := l3) (by rw [hpr]; exact zEv _ _ _ _ _ _ h2) HN.out hpn
    have hReps : Reps (KR (w6.setCell ⟨G, 4, none⟩ (.slice A2 (n4 + 1) c2)) (Part base (w6.setCell ⟨G, 4, none⟩ (.slice A2 (n4 + 1) c2)) (.slice A2 (n4 + 1) c2))) 5 (ks ++ [kid]) (cells ++ [.int .i64 kid.f0, .string kid.f1, .string kid.f2, .slice B3 kid.f3.length e3, .slice B4 kid.f4.length e4]) := by
     have hv5 := HBV5.out.size
     have hw5 := HW5.out
     have hsr := HSr.out
     refine Reps.snoc (HRp.out.imp_ (fun p c hk => hk.move (fun b hb => ?_))) ⟨B3, e3, B4, e4, rfl, hMF5.move (fun b hb => ?_)⟩ rfl
     ·obtain ⟨b1, b2, b3⟩ := hb
      refine ⟨⟨b1, by omega, hfar b (by omega) b3⟩, (hmove b (by omega) b3 (by omega)).trans (HK5'.out.2 b b2 (by omega) (by simp; omega))⟩
     obtain ⟨b1, b2⟩ := hb
     have b3 : (Value.slice A4 n4 c4).ownBlock ≠ some b := fun e => by have := (hl2 b e).2; omega
     exact ⟨⟨by omega, by omega, hfar b (by omega) b3⟩, hmove b b2 b3 (by omega)⟩
    refine Or.inr ⟨h1, p2, l3, ks ++ [kid], _, r4, rfl, by rw [List.length_append, hvi]; rfl, by have := (zEi _ _ _ _ _ _ h2).2; omega, h4, hp2n, hr4, by rw [h3, hp2I], hO6, hReps, ?_⟩
    rw [HQi.out, decML_step (fun l t => ((⟨5, ⟨#[]⟩, ⟨#[]⟩, [], l⟩ : S25), t)) (by omega) h2, show k - n4 - 1 = k - (n4 + 1) by omega]
   case measure => simp [intOf]; omega
  obtain rfl : n4 = k := by omega
  have y0 := zAb hXr 0
  have z0 := zAa hXr 0
  have y1 := zAb hXr 1
  have z1 := zAa hXr 1
  have y2 := zAb hXr 2
  have z2 := zAa hXr 2
  have y3 := zAb hXr 3
  have z3 := zAa hXr 3
  have y4 := zAb hXr 4
  have z4 := zAa hXr 4
  simp only [zC, zA, zB] at y0 y1 y2 y3 y4
  have yK0 := zAb hPr 0
  have zK0 := zAa hPr 0
  have yK1 := zAb hPr 1
  have zK1 := zAa hPr 1
  have yK2 := zAb hPr 2
  have zK2 := zAa hPr 2
  have yK3 := zAb hPr 3
  have zK3 := zAa hPr 3
  have yK4 := zAb hPr 4
  have zK4 := zAa hPr 4
  simp only [zC, zA, zB] at yK0 yK1 yK2 yK3 yK4
  clear hXr hPr hNr hRr hBr hKr hSr hO3 hQ hpn hpr hvi HST hl2 hnzr hRp
  go_wp2
  obtain ⟨hg1, hg2, hg3, hg4⟩ := HGS.out
  obtain ⟨hpn, hpr, hvi, hl2, hnzr⟩ := HIN.out
  have hO := HO3.out
  have hRQ := HRp.out
  rw [← hvi] at hO hRQ
  obtain ⟨F3, gg3, F4, gg4, ev3, ev4, hMF⟩ := MF.of_rows (m := ⟨5, ⟨#[]⟩, ⟨#[]⟩, [], ks⟩) (lo' := base) (World.ownsRow_nil _ _ _ _) hO hRQ (Nat.le_refl _)
  simp only at ev3 ev4
  cases ev3
  cases ev4
  obtain ⟨t1, t2, t3, t4, t5⟩ := zCg (w0 := w0) (g := g) (gn := gn) (.int .i64 5) (.string ⟨#[]⟩) (.string ⟨#[]⟩) (.slice none 0 0) (.slice A4 n4 c4) EK.out HPr.out HW.out HBr.out HKr.out
  refine bodyPost_ret (zAt rfl (.cell K 25 _ (0, 0) _ rfl t1 Try.underlying25 rfl (by kernel_rfl) .nil)) rfl ?_
  have hQf : Q = some (⟨5, ⟨#[]⟩, ⟨#[]⟩, [], ks⟩, l2, rr) := by rw [HQi.out, Nat.sub_self, zBn]; simp
  rw [hQf]
  have hgood := zEu (w := w) (m := ⟨5, ⟨#[]⟩, ⟨#[]⟩, [], ks⟩) (r := rr) (l := l2) EK.out (show g ≠ K by omega) (show gn ≠ K by omega) t2 t3 t4 t5 (hMF.move (fun b hb => ⟨⟨by have := hb.1; omega, hb.2⟩, rfl⟩)) (by have h := HRr.out; rw [show (p : Int) = (n : Int) - (rr.length : Nat) by have := congrArg List.length hpr; rw [List.length_drop, HN.out] at this; omega] at h; exact h) (by rw [← hnzr]; exact HNr.out)
  simp only [mV, hvi, List.length_nil] at hgood
  exact hgood
theorem got141g6 (w0 w : World) (g gn : Nat) (A : Option Addr) (n c : Nat) (bs : List UInt8) (at_ : Int) (left d : Nat) (hl : left ≤ 63) (hd8 : d ≤ 7) (r : List UInt8) (j : Nat) (hnc : n ≤ c) (hj : (n : Int) - (r.length : Nat) = (j : Int)) (hr : bs.drop j = r) (hq0 : getW bs at_ = some (6, r)) (hn : bs.length = n) (hnl : n ≤ 1000000000000000) (hg : w0.heap.size ≤ g) (hgn : w0.heap.size ≤ gn) (hne : g ≠ gn) (hB : Below w0.heap.size w0 w) (hS : RB w g A n c at_ false) (nz : Int) (hN : NB w gn nz) (hnz : nz = 63 - (left : Int)) (hC0 : (Kd.int .u8).C w0 A bs.length (bys bs)) (dz : Int) (hdz : dz = 8 - (d : Int)) (ih : IHgot w0 g gn A n c bs d (dz + 1)) :
  Calls Try.prog 141 #[.pointer (some ⟨g, 0, none⟩), .pointer (some ⟨gn, 0, none⟩), .int .i64 dz] w (zCl w0 w g gn A n c (GotQ false (d + 1) (left + 1) bs at_)) := by
 have IH := zH ih
 clear ih
 have hQ : GotQ false (d + 1) (left + 1) bs at_ = (match decV 0 0 r with | none => none | some (k, r3) => if k ≤ 64 then (zBn d left k r3).map (fun q => ((⟨6, ⟨#[]⟩, ⟨#[]⟩, [], q.1⟩ : S25), q.2)) else none) := by
  unfold getW at hq0
  unfold GotQ
  split
  ·next h =>
   rcases h with h | h
   ·cases h
   rw [if_pos h] at hq0; cases hq0
  next h =>
  have hi : ¬ at_ < 0 := fun e => h (Or.inr e)
  rw [if_neg hi] at hq0
  rw [decM, hq0]
  simp only
  rw [if_neg (by decide), if_neg (by decide), if_neg (by decide), if_pos (by decide)]
  all_goals
   cases decV 0 0 r with
   | none => rfl
   | some q2 => rfl
 obtain ⟨Q, eQ⟩ : ∃ Q, GotQ false (d + 1) (left + 1) bs at_ = Q := ⟨_, rfl⟩
 rw [eQ]
 have HQ := zH (eQ.symm.trans hQ)
 have HN := zH hn
 have HC0 := zH hC0
 have HR := zH hr
 have hgl := hS.lt
 have hgnl := zAp hN
 have hne2 := hne.symm
 obtain ⟨nz1, hnz1⟩ : ∃ nz1, nz + 1 = nz1 := ⟨_, rfl⟩
 have hw1 : wrap64 (nz + 1) = nz1 := by unfold wrap64; omega
 have hN2 : NB (w.alloc (.cells Z5 25)) gn nz := (Below.heap_alloc _ _ _ hgnl).trans hN
 have hS2 : RB (w.alloc (.cells Z5 25)) g A n c at_ false := (Below.heap_alloc _ _ _ hgl).trans hS
 have hS3 : RB ((w.alloc (.cells Z5 25)).setCell ⟨gn, 0, none⟩ (.int .i64 nz1)) g A n c at_ false := (Below.heap_setCell _ _ _ _ hne).trans hS2
 have m0 := zAb hN2 0
 have mz0 := zAa hN2 0
 simp only [zC, zA] at m0
 have t1 : ¬ (64 : Int) < nz1 := by omega
 have t2 : decide ((64 : Int) < nz1) = false := zF t1
 have t3 : ¬ (8 : Int) < dz := by omega
 have t4 : decide ((8 : Int) < dz) = false := zF t3
 obtain ⟨V, eV⟩ : ∃ V, V = (w.alloc (.cells Z5 25)).setCell ⟨gn, 0, none⟩ (.int .i64 nz1) := ⟨_, rfl⟩
 have hBV : Below w0.heap.size w0 V := by rw [eV]; exact (zAc hB _).setCell hgn _
 have hKV : KeepBut w V g (some gn) := by
  rw [eV]
  refine ⟨by simp, fun i hi h1 h2 => ?_⟩
  have h3 : i ≠ gn := fun e => h2 (by rw [e])
  exact (Below.heap_setCell _ _ _ _ h3).trans (Below.heap_alloc _ _ _ hi)
 have hSV : RB V g A n c at_ false := by rw [eV]; exact hS3
 have hNV : NB V gn nz1 := by rw [eV]; exact (zAn hN2 0 _).trans (by rfl)
 have hZV : V.heap[w.heap.size]? = some (.cells Z5 25 (0, 0)) := by rw [eV]; exact (Below.heap_setCell _ _ _ _ (by simp; omega)).trans (zAs w _)
 have hsV : V.heap.size = w.heap.size + 1 := by rw [eV]; simp
 have h1 := zEd w0 V g A n c bs at_ false 6 j r (by unfold numW; rw [if_neg (by decide)]; exact hq0) hj hn hnl hg hBV hSV hC0
 have H1 := zH h1
 have HK := zH hKV
 have HNV := zH hNV
 have HZV := zH hZV
 have HW := zH hB.size
 have HG := zH (And.intro hgl (And.intro hgnl hsV))
 have HNZ := zH (show nz1 = 64 - (left : Int) by omega)
 have HDZ := zH hdz
 clear hQ hq0 eQ hr hS hS2 hS3 hN hN2 hgl hgnl hBV hKV hSV hNV hZV h1 hC0 hn hdz hnz hsV hB hnz1
 obtain ⟨K, eK⟩ : ∃ K, w.heap.size = K := ⟨_, rfl⟩
 have EK := zH eK.symm
 go_enter Try.func141, Try.ntmps141
 go_wp2_with fail
 rw [← eV]
 refine H1.out.mono ?_
 rintro e w1 ⟨rfl, hB1, hK1, hR1⟩
 obtain ⟨hg1, hg2, hg3⟩ := HG.out
 have hZ1 := (hK1.2 _ (zAp HZV.out) (by omega) (by simp)).trans HZV.out
 rw [eK] at hZ1
 have hN1 : NB w1 gn nz1 := (hK1.2 gn (zAp HNV.out) hne2 (by simp)).trans HNV.out
 have hs1 := hK1.1
 have s2 := hR1.c2
 have hKl := zAp hZ1
 obtain ⟨W, eW⟩ : ∃ W, W = w1.alloc (.cells #[.int .i64 6, .string ⟨#[]⟩, .string ⟨#[]⟩, .slice none 0 0, .slice none 0 0] 25) := ⟨_, rfl⟩
 obtain ⟨G, eG⟩ : ∃ G, w1.heap.size = G := ⟨_, rfl⟩
 have b5 : W.heap[G]? = some (.cells #[.int .i64 6, .string ⟨#[]⟩, .string ⟨#[]⟩, .slice none 0 0, .slice none 0 0] 25 (0, 0)) := by rw [eW, ← eG]; exact zAs w1 _
 have b4 : W.heap[K]? = some (.cells Z5 25 (0, 0)) := by rw [eW]; exact (Below.heap_alloc _ _ _ hKl).trans hZ1
 have hBW : Below w0.heap.size w0 W := by rw [eW]; exact zAc hB1 _
 have hKW : KeepBut w W g (some gn) := by rw [eW]; exact zAw HK.out (zAw (zBf hK1) (zBf (KeepBut.of_below (zAc (Below.refl w1.heap.size w1) _) g none)))
 have hRW : RB W g A n c (j : Int) false := by rw [eW]; exact (Below.heap_alloc _ _ _ hR1.lt).trans hR1
 have hNW : NB W gn nz1 := by rw [eW]; exact (Below.heap_alloc _ _ _ (zAp hN1)).trans hN1
 have HGW := zH (show g < K ∧ gn < K ∧ K < G ∧ W.heap.size = G + 1 from ⟨by omega, by omega, by omega, by rw [eW, World.size_alloc, eG]⟩)
 have HGK := zH (show w0.heap.size ≤ G by have := HW.out; omega)
 clear eK hB1 hK1 hR1 hN1 hZ1 hKl hs1 eV H1 HK HZV HNV HG hg1 hg2 hg3
 have hdw : wrap64 (dz + 1) = dz + 1 := by have := HDZ.out; unfold wrap64; omega
 have h3 := cnt120 w0 W g A n c bs (j : Int) false 64 64 rfl (by decide) HN.out hnl hg hBW hRW HC0.out
 have H3 := zH h3
 have E5 := zH b5
 have E4 := zH b4
 have HKW := zH hKW
 have HNW := zH hNW
 have HRr := zH (show j ≤ n by omega)
 clear b5 b4 hKW hBW hRW hNW hj h3
 go_wp2_with fail
 rw [← eW]
 refine H3.out.mono ?_
 rintro e w4 ⟨k, i2, bb2, rfl, hB4, hK4, hR4, hk64, HT2⟩
 obtain ⟨hg1, hg2, hg3, hg4⟩ := HGW.out
 have d5 := (hK4.2 G (by omega) (by omega) (by simp)).trans E5.out
 have d4 := (hK4.2 K (by omega) (by omega) (by simp)).trans E4.out
 have dn : NB w4 gn nz1 := (hK4.2 gn (by omega) hne2 (by simp)).trans HNW.out
 have hK4' := zAw HKW.out (zBf hK4)
 obtain ⟨base, hbase⟩ : ∃ base, w4.heap.size = base := ⟨_, rfl⟩
 have hs4 := hK4.1
 have HGS := zH (show g < K ∧ gn < K ∧ K < G ∧ G < base from ⟨hg1, hg2, hg3, by omega⟩)
 have HS0 : Hid ((bb2 = true ∧ Q = none) ∨ (bb2 = false ∧ ∃ (p : Nat) (rr : List UInt8), p ≤ n ∧ bs.drop p = rr ∧ i2 = (p : Int) ∧ Q = (zBn d left k rr).map (fun q => ((⟨6, ⟨#[]⟩, ⟨#[]⟩, [], [] ++ q.1⟩ : S25), q.2)))) := by
  refine zH ?_
  rcases HT2.out with ⟨h2, h2b⟩ | ⟨r3, h2, h2i, h2b⟩
  ·refine Or.inl ⟨h2b, ?_⟩
   rw [zFe HR.out] at h2
   rw [HQ.out]
   cases hv : decV 0 0 r with
   | none => rfl
   | some q =>
   rw [hv] at h2
   simp only at h2 ⊢
   split
   ·next hk =>
    rw [zJl (by
     rcases Nat.lt_or_ge q.2.length q.1 with h | h
     ·exact h
     ·rw [if_pos ⟨hk, h⟩] at h2; cases h2)]
    rfl
   rfl
  rw [zFe HR.out] at h2
  cases hv : decV 0 0 r with
  | none => rw [hv] at h2; cases h2
  | some q =>
  rw [hv] at h2
  simp only at h2
  split at h2
  ·next hk =>
   simp only [Option.some.injEq, Prod.mk.injEq] at h2
   obtain ⟨h3, h4⟩ := h2
   obtain ⟨p, hp1, hp2, hp3, hp4⟩ := zHw HN.out HRr.out (by rw [HR.out]; exact hv)
   rw [h4] at hp3 hp4
   refine Or.inr ⟨h2b, p, r3, hp2, hp4, by rw [h2i, hp3], ?_⟩
   rw [HQ.out]
   simp only [hv]
   rw [if_pos hk.1, h3, h4]
   rfl
  cases h2
 have hw0b : w0.heap.size ≤ base := by have := HGK.out; omega
 clear hs4 hg1 hg2 hg3 hg4 H3 E4 E5 eW HT2 HQ HKW HNW HRr HR hK4 eG
 go_wp2
 go_loopw [13, 14] (fun u13 u14 wr => ∃ (i : Nat) (at2 : Int) (bb : Bool) (A4 : Option Addr) (n4 c4 : Nat) (nzr : Int), u13 = .int .i64 (i : Nat) ∧ i ≤ k ∧ wr.heap[G]? = some (.cells #[.int .i64 6, .string ⟨#[]⟩, .string ⟨#[]⟩, .slice none 0 0, .slice A4 n4 c4] 25 (0, 0)) ∧ wr.heap[K]? = some (.cells Z5 25 (0, 0)) ∧ NB wr gn nzr ∧ RB wr g A n c at2 bb ∧ Below w0.heap.size w0 wr ∧ KeepBut w wr g (some gn) ∧ base ≤ wr.heap.size ∧ Hid ((bb = true ∧ Q = none) ∨ (bb = false ∧ ∃ (p l2 : Nat) (ks : List S25) (cells : List Value) (rr : List UInt8), n4 = i ∧ ks.length = i ∧ l2 ≤ left ∧ nzr = 64 - (l2 : Int) ∧ p ≤ n ∧ bs.drop p = rr ∧ at2 = (p : Int) ∧ wr.ownsRow base 25 5 (.slice A4 i c4) i cells ∧ Reps (KR wr (Part base wr (.slice A4 i c4))) 5 ks cells ∧ Q = (zBn d l2 (k - i) rr).map (fun q => ((⟨6, ⟨#[]⟩, ⟨#[]⟩, [], ks ++ q.1⟩ : S25), q.2)))))
  (fun u13 _ _ => k - (intOf u13).toNat)
 case atStart => exact ⟨0, i2, bb2, none, 0, 0, nz1, rfl, Nat.zero_le _, d5, d4, dn, hR4, hB4, hK4', Nat.le_of_eq hbase.symm, zH (HS0.out.imp id (fun ⟨h, p, rr, h1, h2, h3, h4⟩ => ⟨h, p, left, [], [], rr, rfl, rfl, Nat.le_refl _, HNZ.out, h1, h2, h3, World.ownsRow_nil _ _ _ _, by simpa using Reps.none _ _, h4⟩))⟩
 case round =>
  clear d5 d4 dn hR4 hB4 hK4' HS0 hbase
  obtain ⟨i, at2, bb, A4, n4, c4, nzr, rfl, hik, hXr, hPr, hNr, hRr, hBr, hKr, hSr, HST⟩ := hrel
  have HXr := zH hXr
  have HPr := zH hPr
  have HNr := zH hNr
  have HRr := zH hRr
  have HBr := zH hBr
  have HKr := zH hKr
  have HSr := zH hSr
  have r2 := hRr.c2
  obtain ⟨hg1, hg2, hg3, hg4⟩ := HGS.out
  have hGK : G ≠ K := by omega
  have hKG : K ≠ G := by omega
  clear hg1 hg2 hg3 hg4
  cases bb with
  | true =>
   have y0 := zAb hXr 0
   have z0 := zAa hXr 0
   have y1 := zAb hXr 1
   have z1 := zAa hXr 1
   have y2 := zAb hXr 2
   have z2 := zAa hXr 2
   have y3 := zAb hXr 3
   have z3 := zAa hXr 3
   have y4 := zAb hXr 4
   have z4 := zAa hXr 4
   simp only [zC, zA, zB] at y0 y1 y2 y3 y4
   have yK0 := zAb hPr 0
   have zK0 := zAa hPr 0
   have yK1 := zAb hPr 1
   have zK1 := zAa hPr 1
   have yK2 := zAb hPr 2
   have zK2 := zAa hPr 2
   have yK3 := zAb hPr 3
   have zK3 := zAa hPr 3
   have yK4 := zAb hPr 4
   have zK4 := zAa hPr 4
   simp only [zC, zA, zB] at yK0 yK1 yK2 yK3 yK4
   clear hXr hPr hNr hRr hBr hKr hSr
   have HQn := zH (show Q = none by
    rcases HST.out with ⟨-, h⟩ | ⟨h, -⟩
    ·exact h
    ·cases h)
   by_cases hlt : i < k
   all_goals (go_wp2; obtain ⟨hg1, hg2, hg3, hg4⟩ := HGS.out)
   all_goals
    obtain ⟨t1, t2, t3, t4, t5⟩ := zCg (w0 := w0) (g := g) (gn := gn) (.int .i64 6) (.string ⟨#[]⟩) (.string ⟨#[]⟩) (.slice none 0 0) (.slice A4 n4 c4) EK.out HPr.out HW.out HBr.out HKr.out
    refine bodyPost_ret (zAt rfl (.cell K 25 _ (0, 0) _ rfl t1 Try.underlying25 rfl (by kernel_rfl) .nil)) rfl ?_
    rw [HQn.out]
    exact zEo (by omega) (by omega) t2 t3 t4 HRr.out HNr.out
  | false =>
  obtain ⟨p, l2, ks, cells, rr, rfl, hvi, hl2, hnzr, hpn, hpr, rfl, hO3, hRp, hQ⟩ : ∃ (p l2 : Nat) (ks : List S25) (cells : List Value) (rr : List UInt8), n4 = i ∧ ks.length = i ∧ l2 ≤ left ∧ nzr = 64 - (l2 : Int) ∧ p ≤ n ∧ bs.drop p = rr ∧ at2 = (p : Int) ∧ wr.ownsRow base 25 5 (.slice A4 i c4) i cells ∧ Reps (KR wr (Part base wr (.slice A4 i c4))) 5 ks cells ∧ Q = (zBn d l2 (k - i) rr).map (fun q => ((⟨6, ⟨#[]⟩, ⟨#[]⟩, [], ks ++ q.1⟩ : S25), q.2)) := by
   rcases HST.out with ⟨h, -⟩ | ⟨-, h⟩
   ·cases h
   exact h
  have HO3 := zH hO3
  have HQi := zH hQ
  have HRp := zH hRp
  have HIN := zH (And.intro hpn (And.intro hpr (And.intro hvi (And.intro hl2 hnzr))))
  by_cases hlt : n4 < k
  ·have h7 := IH.out wr (p : Int) l2 nzr (by omega) hBr hRr hNr hnzr
   rw [GotQ_at hpr] at h7
   have H7 := zH h7
   clear hXr hPr hNr hRr hBr hKr hSr hO3 hQ hpn hpr hvi HST h7 hl2 hnzr hRp
   go_wp2_with fail
   refine H7.out.mono ?_
   intro e w5 hp5
   clear H7
   obtain ⟨x0, x1, x2, B3, m3, e3, B4, m4, e4, i5, bb5, nz5, rfl, hB5, hK5, hR5, hN5, HT5⟩ := got_any hp5
   obtain ⟨hg1, hg2, hg3, hg4⟩ := HGS.out
   have hsr := HSr.out
   have f5 := (hK5.2 G (by omega) (by omega) (by simp; omega)).trans HXr.out
   have f4 := (hK5.2 K (by omega) (by omega) (by simp; omega)).trans HPr.out
   have hO5 : w5.ownsRow base 25 5 (.slice A4 n4 c4) n4 cells := zBt HO3.out (fun k hk => hK5.2 k (HO3.out.lt _ hk).2 (by have := (HO3.out.lt _ hk).1; omega) (by have := (HO3.out.lt _ hk).1; simp; omega))
   have hs5 := hK5.1
   obtain ⟨V5, eV5⟩ : ∃ V5, V5 = w5.alloc (.cells #[.int .i64 x0, .string x1, .string x2, .slice B3 m3 e3, .slice B4 m4 e4] 25) := ⟨_, rfl⟩
   have hBV5 : Below w5.heap.size w5 V5 := by rw [eV5]; exact zAc (Below.refl _ _) _
   have f5a := (hBV5.block G (zAp f5)).trans f5
   have f4a := (hBV5.block K (zAp f4)).trans f4
   have HO5 := zH (zCm hO5 hBV5)
   have HB5 := zH (zAe hB5 hBV5)
   have HK5 := zH (zAw HKr.out (zAw hK5 (zBf (KeepBut.of_below hBV5 g none))))
   have HR5 := zH (hR5.below hBV5)
   have HN5 : Hid (NB V5 gn nz5) := zH ((hBV5.block gn (zAp hN5)).trans hN5)
   have F5 := zH f5a
   have F4 := zH f4a
   have HBV5 := zH hBV5
   have HV5S := zH (show V5.heap.size = w5.heap.size + 1 by rw [eV5, World.size_alloc])
   have HS5 := zH (show base ≤ V5.heap.size by have := hBV5.size; omega)
   have HK5' := zH hK5
   have HW5 := zH (show wr.heap.size ≤ w5.heap.size from hs5)
   have HLT := zH (fun k (hk : (Value.slice A4 n4 c4).ownBlock = some k) => HO3.out.lt _ hk)
   have y0 := zAb f5a 0
   have z0 := zAa f5a 0
   have y1 := zAb f5a 1
   have z1 := zAa f5a 1
   have y2 := zAb f5a 2
   have z2 := zAa f5a 2
   have y3 := zAb f5a 3
   have z3 := zAa f5a 3
   have y4 := zAb f5a 4
   have z4 := zAa f5a 4
   simp only [zC, zA, zB] at y0 y1 y2 y3 y4
   rw [eV5] at y0 z0 y1 z1 y2 z2 y3 z3 y4 z4
   clear hB5 hK5 hR5 hN5 hO5 hBV5 f4 f5 f4a f5a hs5 hsr hg1 hg2 hg3 hg4 hp5
   go_wp2_with (at_builtin; rw [← eV5]; refine zBq (w0 := V5) (W := V5) base rfl (.tmp 111) (.tmp 113) 23 25 (.agg Z5) 5 88 rfl Try.underlying23 infoM rfl (by decide) (by decide) (.slice A4 n4 c4) n4 cells [.int .i64 x0, .string x1, .string x2, .slice B3 m3 e3, .slice B4 m4 e4] rfl (by rw [HV5S.out]; rfl) rfl (by intro u hu; simp only [List.mem_cons, List.not_mem_nil, or_false] at hu; rcases hu with rfl | rfl | rfl | rfl | rfl <;> rfl) HO5.out (Below.refl _ _) HS5.out (by omega) ?_; intro v2 w6 hown6 hb6 hg6 hat6; obtain ⟨A2, c2, rfl⟩ := zCh hown6; have hneG : some G ≠ (Value.slice A4 n4 c4).ownBlock := (fun e => by have := (HLT.out _ e.symm).1; have := HGS.out; omega); have q5 := (hg6.block G (zAp F5.out) hneG).trans F5.out; have q53 := zAb q5 4; have q5z := zAa q5 4; have Q5 := zH q5; have HG6 := zH hg6; have HO6 := zH hown6; have HAT6 := zH hat6; clear hown6 hb6 hg6 hat6 q5 hneG; simp only [zC, zA, zB] at q53)
   go_roundw
   case rel =>
    obtain ⟨hg1, hg2, hg3, hg4⟩ := HGS.out
    have hl2 := HLT.out
    have hs5 := HS5.out
    have hs6 := HG6.out.size
    have hl5 := (HK5.out).1
    have hneK : some K ≠ (Value.slice A4 n4 c4).ownBlock := fun e => by have := (hl2 _ e.symm).1; omega
    have hneg : some g ≠ (Value.slice A4 n4 c4).ownBlock := fun e => by have := (hl2 _ e.symm).1; omega
    have hnegn : some gn ≠ (Value.slice A4 n4 c4).ownBlock := fun e => by have := (hl2 _ e.symm).1; omega
    have q4 := (HG6.out.block K (zAp F4.out) hneK).trans F4.out
    have qn : NB w6 gn nz5 := (HG6.out.block gn (zAp HN5.out) hnegn).trans HN5.out
    have qg : RB w6 g A n c i5 bb5 := (HG6.out.block g HR5.out.lt hneg).trans HR5.out
    have hB6 : Below w0.heap.size w0 w6 := HB5.out.grown HG6.out (by omega) (fun k hk => by have := (hl2 k hk).1; omega)
    have hK6 : KeepBut w w6 g (some gn) := ⟨by omega, fun i hi h1 h2 => (HG6.out.block i (by omega) (fun e => by have := (hl2 _ e.symm).1; have := EK.out; omega)).trans (HK5.out.2 i hi h1 h2)⟩
    have hnew : ∀ k, (Value.slice A2 (n4 + 1) c2).ownBlock = some k → k ≠ G := fun k hk => by have := (HO6.out.lt _ hk).1; omega
    have hX6 := (zAn Q5.out 4 (.slice A2 (n4 + 1) c2))
    have hP6 : (w6.setCell ⟨G, 4, none⟩ (.slice A2 (n4 + 1) c2)).heap[K]? = some (.cells Z5 25 (0, 0)) := (Below.heap_setCell _ _ _ _ (show K ≠ G by omega)).trans q4
    have hN6 : NB (w6.setCell ⟨G, 4, none⟩ (.slice A2 (n4 + 1) c2)) gn nz5 := (Below.heap_setCell _ _ _ _ (show gn ≠ G by omega)).trans qn
    have hR6 : RB (w6.setCell ⟨G, 4, none⟩ (.slice A2 (n4 + 1) c2)) g A n c i5 bb5 := (Below.heap_setCell _ _ _ _ (show g ≠ G by omega)).trans qg
    have hB6' : Below w0.heap.size w0 (w6.setCell ⟨G, 4, none⟩ (.slice A2 (n4 + 1) c2)) := hB6.setCell HGK.out _
    have hK6' : KeepBut w (w6.setCell ⟨G, 4, none⟩ (.slice A2 (n4 + 1) c2)) g (some gn) := ⟨by have := hK6.1; simpa using this, fun i hi h1 h2 => (Below.heap_setCell _ _ _ _ (show i ≠ G by have := EK.out; omega)).trans (hK6.2 i hi h1 h2)⟩
    have hO6 : (w6.setCell ⟨G, 4, none⟩ (.slice A2 (n4 + 1) c2)).ownsRow base 25 5 (.slice A2 (n4 + 1) c2) (n4 + 1) _ := zBt HO6.out (fun k hk => Below.heap_setCell _ _ _ _ (hnew k hk))
    have hfar : ∀ b, b < V5.heap.size → (Value.slice A4 n4 c4).ownBlock ≠ some b → (Value.slice A2 (n4 + 1) c2).ownBlock ≠ some b := fun b hb hne e => by
     rcases HAT6.out with h | ⟨b', h, hb'⟩
     ·exact hne (h.symm.trans e)
     ·rw [h] at e; cases e; omega
    have hmove : ∀ b, b < w5.heap.size → (Value.slice A4 n4 c4).ownBlock ≠ some b → b ≠ G → (w6.setCell ⟨G, 4, none⟩ (.slice A2 (n4 + 1) c2)).heap[b]? = w5.heap[b]? := fun b hb h1 h2 => (Below.heap_setCell _ _ _ _ h2).trans ((HG6.out.block b (by have := HBV5.out.size; omega) (fun e => h1 e.symm)).trans (HBV5.out.block b hb))
    have hs6' : (w6.setCell ⟨G, 4, none⟩ (.slice A2 (n4 + 1) c2)).heap.size = w6.heap.size := by simp
    obtain ⟨hpn, hpr, hvi, hl2', hnzr⟩ := HIN.out
    refine ⟨n4 + 1, i5, bb5, A2, n4 + 1, c2, nz5, by go_num, by omega, hX6.trans (by rfl), hP6, hN6, hR6, hB6', hK6', by omega, zH ?_⟩
    rcases HT5.out with ⟨h1, h1b⟩ | ⟨h1, kid, l3, r4, h2, rfl, rfl, rfl, rfl, rfl, hMF5, h3, h4⟩
    ·exact Or.inl ⟨h1, by rw [HQi.out, zGr (by omega) h1b]; rfl⟩
    obtain ⟨p2, hp2n, hp2I, hr4⟩ := zCz (d := d) (l := l2) (m := kid) (l' := l3) (by rw [hpr]; exact zEv _ _ _ _ _ _ h2) HN.out hpn
    have hReps : Reps (KR (w6.setCell ⟨G, 4, none⟩ (.slice A2 (n4 + 1) c2)) (Part base (w6.setCell ⟨G, 4, none⟩ (.slice A2 (n4 + 1) c2)) (.slice A2 (n4 + 1) c2))) 5 (ks ++ [kid]) (cells ++ [.int .i64 kid.f0, .string kid.f1, .string kid.f2, .slice B3 kid.f3.length e3, .slice B4 kid.f4.length e4]) := by
     have hv5 := HBV5.out.size
     have hw5 := HW5.out
     have hsr := HSr.out
     refine Reps.snoc (HRp.out.imp_ (fun p c hk => hk.move (fun b hb => ?_))) ⟨B3, e3, B4, e4, rfl, hMF5.move (fun b hb => ?_)⟩ rfl
     ·obtain ⟨b1, b2, b3⟩ := hb
      refine ⟨⟨b1, by omega, hfar b (by omega) b3⟩, (hmove b (by omega) b3 (by omega)).trans (HK5'.out.2 b b2 (by omega) (by simp; omega))⟩
     obtain ⟨b1, b2⟩ := hb
     have b3 : (Value.slice A4 n4 c4).ownBlock ≠ some b := fun e => by have := (hl2 b e).2; omega
     exact ⟨⟨by omega, by omega, hfar b (by omega) b3⟩, hmove b b2 b3 (by omega)⟩
    refine Or.inr ⟨h1, p2, l3, ks ++ [kid], _, r4, rfl, by rw [List.length_append, hvi]; rfl, by have := (zEi _ _ _ _ _ _ h2).2; omega, h4, hp2n, hr4, by rw [h3, hp2I], hO6, hReps, ?_⟩
    rw [HQi.out, decML_step (fun l t => ((⟨6, ⟨#[]⟩, ⟨#[]⟩, [], l⟩ : S25), t)) (by omega) h2, show k - n4 - 1 = k - (n4 + 1) by omega]
   case measure => simp [intOf]; omega
  obtain rfl : n4 = k := by omega
  have y0 := zAb hXr 0
  have z0 := zAa hXr 0
  have y1 := zAb hXr 1
  have z1 := zAa hXr 1
  have y2 := zAb hXr 2
  have z2 := zAa hXr 2
  have y3 := zAb hXr 3
  have z3 := zAa hXr 3
  have y4 := zAb hXr 4
  have z4 := zAa hXr 4
  simp only [zC, zA, zB] at y0 y1 y2 y3 y4
  have yK0 := zAb hPr 0
  have zK0 := zAa hPr 0
  have yK1 := zAb hPr 1
  have zK1 := zAa hPr 1
  have yK2 := zAb hPr 2
  have zK2 := zAa hPr 2
  have yK3 := zAb hPr 3
  have zK3 := zAa hPr 3
  have yK4 := zAb hPr 4
  have zK4 := zAa hPr 4
  simp only [zC, zA, zB] at yK0 yK1 yK2 yK3 yK4
  clear hXr hPr hNr hRr hBr hKr hSr hO3 hQ hpn hpr hvi HST hl2 hnzr hRp
  go_wp2
  obtain ⟨hg1, hg2, hg3, hg4⟩ := HGS.out
  obtain ⟨hpn, hpr, hvi, hl2, hnzr⟩ := HIN.out
  have hO := HO3.out
  have hRQ := HRp.out
  rw [← hvi] at hO hRQ
  obtain ⟨F3, gg3, F4, gg4, ev3, ev4, hMF⟩ := MF.of_rows (m := ⟨6, ⟨#[]⟩, ⟨#[]⟩, [], ks⟩) (lo' := base) (World.ownsRow_nil _ _ _ _) hO hRQ (Nat.le_refl _)
  simp only at ev3 ev4
  cases ev3
  cases ev4
  obtain ⟨t1, t2, t3, t4, t5⟩ := zCg (w0 := w0) (g := g) (gn := gn) (.int .i64 6) (.string ⟨#[]⟩) (.string ⟨#[]⟩) (.slice none 0 0) (.slice A4 n4 c4) EK.out HPr.out HW.out HBr.out HKr.out
  refine bodyPost_ret (zAt rfl (.cell K 25 _ (0, 0) _ rfl t1 Try.underlying25 rfl (by kernel_rfl) .nil)) rfl ?_
  have hQf : Q = some (⟨6, ⟨#[]⟩, ⟨#[]⟩, [], ks⟩, l2, rr) := by rw [HQi.out, Nat.sub_self, zBn]; simp
  rw [hQf]
  have hgood := zEu (w := w) (m := ⟨6, ⟨#[]⟩, ⟨#[]⟩, [], ks⟩) (r := rr) (l := l2) EK.out (show g ≠ K by omega) (show gn ≠ K by omega) t2 t3 t4 t5 (hMF.move (fun b hb => ⟨⟨by have := hb.1; omega, hb.2⟩, rfl⟩)) (by have h := HRr.out; rw [show (p : Int) = (n : Int) - (rr.length : Nat) by have := congrArg List.length hpr; rw [List.length_drop, HN.out] at this; omega] at h; exact h) (by rw [← hnzr]; exact HNr.out)
  simp only [mV, hvi, List.length_nil] at hgood
  exact hgood
theorem got141g7 (w0 w : World) (g gn : Nat) (A : Option Addr) (n c : Nat) (bs : List UInt8) (at_ : Int) (left d : Nat) (hl : left ≤ 63) (hd8 : d ≤ 7) (r : List UInt8) (j : Nat) (hnc : n ≤ c) (hj : (n : Int) - (r.length : Nat) = (j : Int)) (hr : bs.drop j = r) (hq0 : getW bs at_ = some (7, r)) (hn : bs.length = n) (hnl : n ≤ 1000000000000000) (hg : w0.heap.size ≤ g) (hgn : w0.heap.size ≤ gn) (hne : g ≠ gn) (hB : Below w0.heap.size w0 w) (hS : RB w g A n c at_ false) (nz : Int) (hN : NB w gn nz) (hnz : nz = 63 - (left : Int)) (hC0 : (Kd.int .u8).C w0 A bs.length (bys bs)) (dz : Int) (hdz : dz = 8 - (d : Int)) (ih : IHgot w0 g gn A n c bs d (dz + 1)) :
  Calls Try.prog 141 #[.pointer (some ⟨g, 0, none⟩), .pointer (some ⟨gn, 0, none⟩), .int .i64 dz] w (zCl w0 w g gn A n c (GotQ false (d + 1) (left + 1) bs at_)) := by
 have IH := zH ih
 clear ih
 have hQ : GotQ false (d + 1) (left + 1) bs at_ = (zBn d left 1 r).map (fun q => ((⟨7, ⟨#[]⟩, ⟨#[]⟩, [], q.1⟩ : S25), q.2)) := by
  unfold getW at hq0
  unfold GotQ
  split
  ·next h =>
   rcases h with h | h
   ·cases h
   rw [if_pos h] at hq0; cases hq0
  next h =>
  have hi : ¬ at_ < 0 := fun e => h (Or.inr e)
  rw [if_neg hi] at hq0
  rw [decM, hq0]
  simp only
  rw [if_neg (by decide), if_neg (by decide), if_neg (by decide), if_neg (by decide), if_pos (by decide)]
 obtain ⟨Q, eQ⟩ : ∃ Q, GotQ false (d + 1) (left + 1) bs at_ = Q := ⟨_, rfl⟩
 rw [eQ]
 have HQ := zH (eQ.symm.trans hQ)
 have HN := zH hn
 have HC0 := zH hC0
 have HR := zH hr
 have hgl := hS.lt
 have hgnl := zAp hN
 have hne2 := hne.symm
 obtain ⟨nz1, hnz1⟩ : ∃ nz1, nz + 1 = nz1 := ⟨_, rfl⟩
 have hw1 : wrap64 (nz + 1) = nz1 := by unfold wrap64; omega
 have hN2 : NB (w.alloc (.cells Z5 25)) gn nz := (Below.heap_alloc _ _ _ hgnl).trans hN
 have hS2 : RB (w.alloc (.cells Z5 25)) g A n c at_ false := (Below.heap_alloc _ _ _ hgl).trans hS
 have hS3 : RB ((w.alloc (.cells Z5 25)).setCell ⟨gn, 0, none⟩ (.int .i64 nz1)) g A n c at_ false := (Below.heap_setCell _ _ _ _ hne).trans hS2
 have m0 := zAb hN2 0
 have mz0 := zAa hN2 0
 simp only [zC, zA] at m0
 have t1 : ¬ (64 : Int) < nz1 := by omega
 have t2 : decide ((64 : Int) < nz1) = false := zF t1
 have t3 : ¬ (8 : Int) < dz := by omega
 have t4 : decide ((8 : Int) < dz) = false := zF t3
 obtain ⟨V, eV⟩ : ∃ V, V = (w.alloc (.cells Z5 25)).setCell ⟨gn, 0, none⟩ (.int .i64 nz1) := ⟨_, rfl⟩
 have hBV : Below w0.heap.size w0 V := by rw [eV]; exact (zAc hB _).setCell hgn _
 have hKV : KeepBut w V g (some gn) := by
  rw [eV]
  refine ⟨by simp, fun i hi h1 h2 => ?_⟩
  have h3 : i ≠ gn := fun e => h2 (by rw [e])
  exact (Below.heap_setCell _ _ _ _ h3).trans (Below.heap_alloc _ _ _ hi)
 have hSV : RB V g A n c at_ false := by rw [eV]; exact hS3
 have hNV : NB V gn nz1 := by rw [eV]; exact (zAn hN2 0 _).trans (by rfl)
 have hZV : V.heap[w.heap.size]? = some (.cells Z5 25 (0, 0)) := by rw [eV]; exact (Below.heap_setCell _ _ _ _ (by simp; omega)).trans (zAs w _)
 have hsV : V.heap.size = w.heap.size + 1 := by rw [eV]; simp
 have h1 := zEd w0 V g A n c bs at_ false 7 j r (by unfold numW; rw [if_neg (by decide)]; exact hq0) hj hn hnl hg hBV hSV hC0
 have H1 := zH h1
 have HK := zH hKV
 have HNV := zH hNV
 have HZV := zH hZV
 have HW := zH hB.size
 have HG := zH (And.intro hgl (And.intro hgnl hsV))
 have HNZ := zH (show nz1 = 64 - (left : Int) by omega)
 have HDZ := zH hdz
 clear hQ hq0 eQ hr hS hS2 hS3 hN hN2 hgl hgnl hBV hKV hSV hNV hZV h1 hC0 hn hdz hnz hsV hB hnz1
 obtain ⟨K, eK⟩ : ∃ K, w.heap.size = K := ⟨_, rfl⟩
 have EK := zH eK.symm
 go_enter Try.func141, Try.ntmps141
 go_wp2_with fail
 rw [← eV]
 refine H1.out.mono ?_
 rintro e w1 ⟨rfl, hB1, hK1, hR1⟩
 obtain ⟨hg1, hg2, hg3⟩ := HG.out
 have hZ1 := (hK1.2 _ (zAp HZV.out) (by omega) (by simp)).trans HZV.out
 rw [eK] at hZ1
 have hN1 : NB w1 gn nz1 := (hK1.2 gn (zAp HNV.out) hne2 (by simp)).trans HNV.out
 have hs1 := hK1.1
 have s2 := hR1.c2
 have hKl := zAp hZ1
 obtain ⟨W, eW⟩ : ∃ W, W = w1.alloc (.cells #[.int .i64 7, .string ⟨#[]⟩, .string ⟨#[]⟩, .slice none 0 0, .slice none 0 0] 25) := ⟨_, rfl⟩
 obtain ⟨G, eG⟩ : ∃ G, w1.heap.size = G := ⟨_, rfl⟩
 have b5 : W.heap[G]? = some (.cells #[.int .i64 7, .string ⟨#[]⟩, .string ⟨#[]⟩, .slice none 0 0, .slice none 0 0] 25 (0, 0)) := by rw [eW, ← eG]; exact zAs w1 _
 have b4 : W.heap[K]? = some (.cells Z5 25 (0, 0)) := by rw [eW]; exact (Below.heap_alloc _ _ _ hKl).trans hZ1
 have hBW : Below w0.heap.size w0 W := by rw [eW]; exact zAc hB1 _
 have hKW : KeepBut w W g (some gn) := by rw [eW]; exact zAw HK.out (zAw (zBf hK1) (zBf (KeepBut.of_below (zAc (Below.refl w1.heap.size w1) _) g none)))
 have hRW : RB W g A n c (j : Int) false := by rw [eW]; exact (Below.heap_alloc _ _ _ hR1.lt).trans hR1
 have hNW : NB W gn nz1 := by rw [eW]; exact (Below.heap_alloc _ _ _ (zAp hN1)).trans hN1
 have HGW := zH (show g < K ∧ gn < K ∧ K < G ∧ W.heap.size = G + 1 from ⟨by omega, by omega, by omega, by rw [eW, World.size_alloc, eG]⟩)
 have HGK := zH (show w0.heap.size ≤ G by have := HW.out; omega)
 clear eK hB1 hK1 hR1 hN1 hZ1 hKl hs1 eV H1 HK HZV HNV HG hg1 hg2 hg3
 have hdw : wrap64 (dz + 1) = dz + 1 := by have := HDZ.out; unfold wrap64; omega
 have hp5 := IH.out W (j : Int) left nz1 (by omega) hBW hRW hNW HNZ.out
 rw [GotQ_at HR.out] at hp5
 have H5 := zH hp5
 have HXr := zH b5
 have HPr := zH b4
 have HKr := zH hKW
 obtain ⟨base, hbase⟩ : ∃ base, W.heap.size = base := ⟨_, rfl⟩
 obtain ⟨hg1, hg2, hg3, hg4⟩ := HGW.out
 have HGS := zH (show g < K ∧ gn < K ∧ K < G ∧ G < base from ⟨hg1, hg2, hg3, by omega⟩)
 have HSr := zH (show base ≤ W.heap.size by omega)
 have HO3 := zH (World.ownsRow_nil W base 25 5)
 have hGK : G ≠ K := by omega
 have hKG : K ≠ G := by omega
 have hw0b : w0.heap.size ≤ base := by have := HGK.out; omega
 clear hp5 b4 b5 hBW hKW hRW hNW hg1 hg2 hg3 hg4 hbase HGW
 go_wp2_with fail
 rw [← eW]
 clear eG
 refine H5.out.mono ?_
 intro e w5 hp5
 obtain ⟨x0, x1, x2, B3, m3, e3, B4, m4, e4, i5, bb5, nz5, rfl, hB5, hK5, hR5, hN5, HT5⟩ := got_any hp5
 obtain ⟨hg1, hg2, hg3, hg4⟩ := HGS.out
 have hsr := HSr.out
 have f5 := (hK5.2 G (by omega) (by omega) (by simp; omega)).trans HXr.out
 have f4 := (hK5.2 K (by omega) (by omega) (by simp; omega)).trans HPr.out
 have hO5 : w5.ownsRow base 25 5 (.slice none 0 0) 0 [] := zBt HO3.out (fun k hk => hK5.2 k (HO3.out.lt _ hk).2 (by have := (HO3.out.lt _ hk).1; omega) (by have := (HO3.out.lt _ hk).1; simp; omega))
 have hs5 := hK5.1
 obtain ⟨V5, eV5⟩ : ∃ V5, V5 = w5.alloc (.cells #[.int .i64 x0, .string x1, .string x2, .slice B3 m3 e3, .slice B4 m4 e4] 25) := ⟨_, rfl⟩
 have hBV5 : Below w5.heap.size w5 V5 := by rw [eV5]; exact zAc (Below.refl _ _) _
 have f5a := (hBV5.block G (zAp f5)).trans f5
 have f4a := (hBV5.block K (zAp f4)).trans f4
 have HO5 := zH (zCm hO5 hBV5)
 have HB5 := zH (zAe hB5 hBV5)
 have HK5 := zH (zAw HKr.out (zAw hK5 (zBf (KeepBut.of_below hBV5 g none))))
 have HR5 := zH (hR5.below hBV5)
 have HN5 : Hid (NB V5 gn nz5) := zH ((hBV5.block gn (zAp hN5)).trans hN5)
 have F5 := zH f5a
 have F4 := zH f4a
 have HBV5 := zH hBV5
 have HV5S := zH (show V5.heap.size = w5.heap.size + 1 by rw [eV5, World.size_alloc])
 have HS5 := zH (show base ≤ V5.heap.size by have := hBV5.size; omega)
 have HK5' := zH hK5
 have HW5 := zH (show W.heap.size ≤ w5.heap.size from hs5)
 have HLT := zH (fun k (hk : (Value.slice none 0 0).ownBlock = some k) => HO3.out.lt _ hk)
 have y0 := zAb f5a 0
 have z0 := zAa f5a 0
 have y1 := zAb f5a 1
 have z1 := zAa f5a 1
 have y2 := zAb f5a 2
 have z2 := zAa f5a 2
 have y3 := zAb f5a 3
 have z3 := zAa f5a 3
 have y4 := zAb f5a 4
 have z4 := zAa f5a 4
 simp only [zC, zA, zB] at y0 y1 y2 y3 y4
 rw [eV5] at y0 z0 y1 z1 y2 z2 y3 z3 y4 z4
 clear hB5 hK5 hR5 hN5 hO5 hBV5 f4 f5 f4a f5a hs5 hsr hg1 hg2 hg3 hg4 hp5
 go_wp2_with (at_builtin; rw [← eV5]; refine zBq (w0 := V5) (W := V5) base rfl (.tmp 124) (.tmp 126) 23 25 (.agg Z5) 5 88 rfl Try.underlying23 infoM rfl (by decide) (by decide) (.slice none 0 0) 0 [] [.int .i64 x0, .string x1, .string x2, .slice B3 m3 e3, .slice B4 m4 e4] rfl (by rw [HV5S.out]; rfl) rfl (by intro u hu; simp only [List.mem_cons, List.not_mem_nil, or_false] at hu; rcases hu with rfl | rfl | rfl | rfl | rfl <;> rfl) HO5.out (Below.refl _ _) HS5.out (by omega) ?_; intro v2 w6 hown6 hb6 hg6 hat6; obtain ⟨A2, c2, rfl⟩ := zCh hown6; have hneG : some G ≠ (Value.slice none 0 0).ownBlock := (fun e => by have := (HLT.out _ e.symm).1; have := HGS.out; omega); have q5 := (hg6.block G (zAp F5.out) hneG).trans F5.out; have q53 := zAb q5 4; have q5z := zAa q5 4; have Q5 := zH q5; have HG6 := zH hg6; have HO6 := zH hown6; have HAT6 := zH hat6; clear hown6 hb6 hg6 hat6 q5 hneG; simp only [zC, zA, zB] at q53; have hneK' : some K ≠ (Value.slice none 0 0).ownBlock := (fun e => by have := (HLT.out _ e.symm).1; have := HGS.out; omega); have qK := (HG6.out.block K (zAp F4.out) hneK').trans F4.out; have yK0 := zAb qK 0; have zK0 := zAa qK 0; have yK1 := zAb qK 1; have zK1 := zAa qK 1; have yK2 := zAb qK 2; have zK2 := zAa qK 2; have yK3 := zAb qK 3; have zK3 := zAa qK 3; have yK4 := zAb qK 4; have zK4 := zAa qK 4; have yG0 := zAb Q5.out 0; have yG1 := zAb Q5.out 1; have yG2 := zAb Q5.out 2; have yG3 := zAb Q5.out 3; have yG4 := zAb Q5.out 4; simp only [zC, zA, zB] at yK0 yK1 yK2 yK3 yK4 yG0 yG1 yG2 yG3 yG4; clear hneK' qK)
 obtain ⟨hg1, hg2, hg3, hg4⟩ := HGS.out
 have hl2 := HLT.out
 have hs5 := HS5.out
 have hs6 := HG6.out.size
 have hl5 := (HK5.out).1
 have hneK : some K ≠ (Value.slice none 0 0).ownBlock := fun e => by have := (hl2 _ e.symm).1; omega
 have hneg : some g ≠ (Value.slice none 0 0).ownBlock := fun e => by have := (hl2 _ e.symm).1; omega
 have hnegn : some gn ≠ (Value.slice none 0 0).ownBlock := fun e => by have := (hl2 _ e.symm).1; omega
 have q4 := (HG6.out.block K (zAp F4.out) hneK).trans F4.out
 have qn : NB w6 gn nz5 := (HG6.out.block gn (zAp HN5.out) hnegn).trans HN5.out
 have qg : RB w6 g A n c i5 bb5 := (HG6.out.block g HR5.out.lt hneg).trans HR5.out
 have hB6 : Below w0.heap.size w0 w6 := HB5.out.grown HG6.out (by omega) (fun k hk => by have := (hl2 k hk).1; omega)
 have hK6 : KeepBut w w6 g (some gn) := ⟨by omega, fun i hi h1 h2 => (HG6.out.block i (by omega) (fun e => by have := (hl2 _ e.symm).1; have := EK.out; omega)).trans (HK5.out.2 i hi h1 h2)⟩
 have hnew : ∀ k, (Value.slice A2 (0 + 1) c2).ownBlock = some k → k ≠ G := fun k hk => by have := (HO6.out.lt _ hk).1; omega
 have hX6 := (zAn Q5.out 4 (.slice A2 (0 + 1) c2))
 have hP6 : (w6.setCell ⟨G, 4, none⟩ (.slice A2 (0 + 1) c2)).heap[K]? = some (.cells Z5 25 (0, 0)) := (Below.heap_setCell _ _ _ _ (show K ≠ G by omega)).trans q4
 have hN6 : NB (w6.setCell ⟨G, 4, none⟩ (.slice A2 (0 + 1) c2)) gn nz5 := (Below.heap_setCell _ _ _ _ (show gn ≠ G by omega)).trans qn
 have hR6 : RB (w6.setCell ⟨G, 4, none⟩ (.slice A2 (0 + 1) c2)) g A n c i5 bb5 := (Below.heap_setCell _ _ _ _ (show g ≠ G by omega)).trans qg
 have hB6' : Below w0.heap.size w0 (w6.setCell ⟨G, 4, none⟩ (.slice A2 (0 + 1) c2)) := hB6.setCell HGK.out _
 have hK6' : KeepBut w (w6.setCell ⟨G, 4, none⟩ (.slice A2 (0 + 1) c2)) g (some gn) := ⟨by have := hK6.1; simpa using this, fun i hi h1 h2 => (Below.heap_setCell _ _ _ _ (show i ≠ G by have := EK.out; omega)).trans (hK6.2 i hi h1 h2)⟩
 have hO6 : (w6.setCell ⟨G, 4, none⟩ (.slice A2 (0 + 1) c2)).ownsRow base 25 5 (.slice A2 (0 + 1) c2) (0 + 1) _ := zBt HO6.out (fun k hk => Below.heap_setCell _ _ _ _ (hnew k hk))
 have hfar : ∀ b, b < V5.heap.size → (Value.slice none 0 0).ownBlock ≠ some b → (Value.slice A2 (0 + 1) c2).ownBlock ≠ some b := fun b hb hne e => by
  rcases HAT6.out with h | ⟨b', h, hb'⟩
  ·exact hne (h.symm.trans e)
  ·rw [h] at e; cases e; omega
 have hmove : ∀ b, b < w5.heap.size → (Value.slice none 0 0).ownBlock ≠ some b → b ≠ G → (w6.setCell ⟨G, 4, none⟩ (.slice A2 (0 + 1) c2)).heap[b]? = w5.heap[b]? := fun b hb h1 h2 => (Below.heap_setCell _ _ _ _ h2).trans ((HG6.out.block b (by have := HBV5.out.size; omega) (fun e => h1 e.symm)).trans (HBV5.out.block b hb))
 have hs6' : (w6.setCell ⟨G, 4, none⟩ (.slice A2 (0 + 1) c2)).heap.size = w6.heap.size := by simp
 have far7 := hP6
 obtain ⟨t1, t2, t3, t4, t5⟩ := zCg (w0 := w0) (g := g) (gn := gn) (.int .i64 7) (.string ⟨#[]⟩) (.string ⟨#[]⟩) (.slice none 0 0) (.slice A2 (0 + 1) c2) EK.out hP6 HW.out hB6' hK6'
 refine bodyPost_ret (zAt rfl (.cell K 25 _ (0, 0) _ rfl t1 Try.underlying25 rfl (by kernel_rfl) .nil)) rfl ?_
 rcases HT5.out with ⟨h1, h1b⟩ | ⟨h1, kid, l3, r4, h2, rfl, rfl, rfl, rfl, rfl, hMF5, h3, h4⟩
 ·rw [HQ.out, zGr (by decide) h1b]
  subst h1
  exact zEo (by omega) (by omega) t2 t3 t4 hR6 hN6
 subst h1
 have hReps : Reps (KR (w6.setCell ⟨G, 4, none⟩ (.slice A2 (0 + 1) c2)) (Part base (w6.setCell ⟨G, 4, none⟩ (.slice A2 (0 + 1) c2)) (.slice A2 (0 + 1) c2))) 5 ([] ++ [kid]) ([] ++ [.int .i64 kid.f0, .string kid.f1, .string kid.f2, .slice B3 kid.f3.length e3, .slice B4 kid.f4.length e4]) := by
  have hv5 := HBV5.out.size
  have hw5 := HW5.out
  have hsr := HSr.out
  refine Reps.snoc ((show Reps (KR W (Part base W (.slice none 0 0))) 5 [] [] by simpa using Reps.none _ _).imp_ (fun p c hk => hk.move (fun b hb => ?_))) ⟨B3, e3, B4, e4, rfl, hMF5.move (fun b hb => ?_)⟩ rfl
  ·obtain ⟨b1, b2, b3⟩ := hb
   refine ⟨⟨b1, by omega, hfar b (by omega) b3⟩, (hmove b (by omega) b3 (by omega)).trans (HK5'.out.2 b b2 (by omega) (by simp; omega))⟩
  obtain ⟨b1, b2⟩ := hb
  have b3 : (Value.slice none 0 0).ownBlock ≠ some b := fun e => by have := (hl2 b e).2; omega
  exact ⟨⟨by omega, by omega, hfar b (by omega) b3⟩, hmove b b2 b3 (by omega)⟩
 obtain ⟨F3, gg3, F4, gg4, ev3, ev4, hMF⟩ := MF.of_rows (m := ⟨7, ⟨#[]⟩, ⟨#[]⟩, [], [kid]⟩) (lo' := base) (World.ownsRow_nil _ _ _ _) hO6 hReps (Nat.le_refl _)
 simp only at ev3 ev4
 cases ev3
 cases ev4
 have hQf : Q = some (⟨7, ⟨#[]⟩, ⟨#[]⟩, [], [kid]⟩, l3, r4) := by rw [HQ.out, zBn, h2]; simp only; rw [zBn]; rfl
 rw [hQf]
 rw [h3] at hR6
 rw [h4] at hN6
 exact zEu (w := w) (m := ⟨7, ⟨#[]⟩, ⟨#[]⟩, [], [kid]⟩) (r := r4) (l := l3) EK.out (show g ≠ K by omega) (show gn ≠ K by omega) t2 t3 t4 t5 (hMF.move (fun b hb => ⟨⟨by have := hb.1; omega, hb.2⟩, rfl⟩)) hR6 hN6
theorem got141 (w0 : World) (g gn : Nat) (A : Option Addr) (n c : Nat) (bs : List UInt8) (hn : bs.length = n) (hnl : n ≤ 1000000000000000) (hnc : n ≤ c) (hg : w0.heap.size ≤ g) (hgn : w0.heap.size ≤ gn) (hne : g ≠ gn) (hC0 : (Kd.int .u8).C w0 A bs.length (bys bs)) :
  ∀ (d : Nat) (dz : Int), d ≤ 8 → dz = 9 - (d : Int) → IHgot w0 g gn A n c bs d dz := by
 intro d
 induction d with
 | zero =>
  intro dz hd hdz w at_ left nz hl hB hS hN hnz
  cases left with
  | zero => exact got141a w0 w g gn A n c bs at_ false 0 0 rfl hn hnl hg hgn hne hB hS nz hN hnz hC0 dz hdz
  | succ left => exact got141b w0 w g gn A n c bs at_ false (left + 1) 0 hl (by omega) rfl hn hnl hg hgn hne hB hS nz hN hnz hC0 dz hdz
 | succ d ih =>
 intro dz hd hdz w at_ left nz hl hB hS hN hnz
 cases left with
 | zero => exact got141a w0 w g gn A n c bs at_ false 0 (d + 1) rfl hn hnl hg hgn hne hB hS nz hN hnz hC0 dz hdz
 | succ left =>
 cases hq : getW bs at_ with
 | none => exact got141c w0 w g gn A n c bs at_ false (left + 1) (d + 1) hl (by omega) (by omega) hd (by unfold numW; rw [if_neg (by decide)]; exact hq) hn hnl hg hgn hne hB hS nz hN hnz hC0 dz hdz
 | some q =>
 obtain ⟨op, r⟩ := q
 by_cases hv : 7 < op
 ·exact got141d w0 w g gn A n c bs at_ false (left + 1) (d + 1) hl (by omega) (by omega) hd op r hq hv hn hnl hg hgn hne hB hS nz hN hnz hC0 dz hdz
 obtain ⟨h1, h2, h3, h4, h5⟩ := zCk hq
 have hj : (n : Int) - (r.length : Nat) = ((bs.length - r.length : Nat) : Int) := by omega
 have hnz' : nz = 63 - (left : Int) := by omega
 have hdz' : dz = 8 - (d : Int) := by omega
 have hih : IHgot w0 g gn A n c bs d (dz + 1) := ih (dz + 1) (by omega) (by omega)
 obtain rfl | rfl | rfl | rfl | rfl | rfl | rfl | rfl : op = 0 ∨ op = 1 ∨ op = 2 ∨ op = 3 ∨ op = 4 ∨ op = 5 ∨ op = 6 ∨ op = 7 := by omega
 ·exact got141e0 w0 w g gn A n c bs at_ left d (by omega) (by omega) r _ hnc hj h4 hq hn hnl hg hgn hne hB hS nz hN hnz' hC0 dz hdz'
 ·exact got141e1 w0 w g gn A n c bs at_ left d (by omega) (by omega) r _ hnc hj h4 hq hn hnl hg hgn hne hB hS nz hN hnz' hC0 dz hdz'
 ·exact got141e2 w0 w g gn A n c bs at_ left d (by omega) (by omega) r _ hnc hj h4 hq hn hnl hg hgn hne hB hS nz hN hnz' hC0 dz hdz'
 ·exact got141e3 w0 w g gn A n c bs at_ left d (by omega) (by omega) r _ hnc hj h4 hq hn hnl hg hgn hne hB hS nz hN hnz' hC0 dz hdz'
 ·exact got141f w0 w g gn A n c bs at_ left d (by omega) (by omega) r _ hnc hj h4 hq hn hnl hg hgn hne hB hS nz hN hnz' hC0 dz hdz'
 ·exact got141g5 w0 w g gn A n c bs at_ left d (by omega) (by omega) r _ hnc hj h4 hq hn hnl hg hgn hne hB hS nz hN hnz' hC0 dz hdz' hih
 ·exact got141g6 w0 w g gn A n c bs at_ left d (by omega) (by omega) r _ hnc hj h4 hq hn hnl hg hgn hne hB hS nz hN hnz' hC0 dz hdz' hih
 exact got141g7 w0 w g gn A n c bs at_ left d (by omega) (by omega) r _ hnc hj h4 hq hn hnl hg hgn hne hB hS nz hN hnz' hC0 dz hdz' hih
theorem got141b' (w0 : World) (g gn : Nat) (A : Option Addr) (n c : Nat) (bs : List UInt8) (hn : bs.length = n) (hnl : n ≤ 1000000000000000) (hnc : n ≤ c) (hg : w0.heap.size ≤ g) (hgn : w0.heap.size ≤ gn) (hne : g ≠ gn) (hC0 : (Kd.int .u8).C w0 A bs.length (bys bs)) (b : Bool) (w : World) (at_ : Int) (hB : Below w0.heap.size w0 w) (hS : RB w g A n c at_ b) (hN : NB w gn 0) :
  Calls Try.prog 141 #[.pointer (some ⟨g, 0, none⟩), .pointer (some ⟨gn, 0, none⟩), .int .i64 1] w (zCl w0 w g gn A n c (GotQ b 8 64 bs at_)) := by
 cases b with
 | false => exact got141 w0 g gn A n c bs hn hnl hnc hg hgn hne hC0 8 1 (by decide) (by decide) w at_ 64 0 (by decide) hB hS hN (by decide)
 | true => exact got141c w0 w g gn A n c bs at_ true 64 8 (by decide) (by decide) (by decide) (by decide) (by unfold numW; simp) hn hnl hg hgn hne hB hS 0 hN (by decide) hC0 1 (by decide)
theorem size_mk (t : List UInt8) : (⟨t.toArray⟩ : ByteArray).size = t.length := by simp [ByteArray.size]
theorem decTs_size : ∀ (k : Nat) (r : List UInt8) (x : List ByteArray) (t : List UInt8), decTs k r = some (x, t) → ∀ u ∈ x, u.size ≤ 64
 | 0, r, x, t, h => by
  rw [decTs] at h
  simp only [Option.some.injEq, Prod.mk.injEq] at h
  obtain ⟨rfl, rfl⟩ := h
  intro u hu
  cases hu
 | k + 1, r, x, t, h => by
  rw [decTs] at h
  split at h
  ·cases h
  ·next v r1 h1 =>
   rw [Option.map_eq_some_iff] at h
   obtain ⟨⟨y, u⟩, hy, e⟩ := h
   simp only [Prod.mk.injEq] at e
   obtain ⟨rfl, rfl⟩ := e
   intro u hu
   rcases List.mem_cons.1 hu with rfl | hu
   ·rw [size_mk]; exact (zEh h1).2
   ·exact decTs_size k r1 y _ hy u hu
theorem zGs (d : Nat) (ih : ∀ (left : Nat) (r : List UInt8) (m : S25) (left' : Nat) (t : List UInt8), decM d left r = some (m, left', t) → boundM m) : ∀ (k left : Nat) (r : List UInt8) (x : List S25) (left' : Nat) (t : List UInt8), zBn d left k r = some (x, left', t) → boundL x
 | 0, left, r, x, left', t, h => by
  rw [zBn] at h
  simp only [Option.some.injEq, Prod.mk.injEq] at h
  obtain ⟨rfl, rfl, rfl⟩ := h
  exact trivial
 | k + 1, left, r, x, left', t, h => by
  rw [zBn] at h
  split at h
  ·cases h
  ·next m left1 r1 h1 =>
   rw [Option.map_eq_some_iff] at h
   obtain ⟨⟨y, l2, u⟩, hy, e⟩ := h
   simp only [Prod.mk.injEq] at e
   obtain ⟨rfl, rfl, rfl⟩ := e
   exact ⟨ih left r m left1 r1 h1, zGs d ih k left1 r1 y l2 u hy⟩
theorem zGh : ∀ (d left : Nat) (r : List UInt8) (m : S25) (left' : Nat) (t : List UInt8), decM d left r = some (m, left', t) → boundM m
 | 0, left, r, m, left', t, h => by rw [decM] at h; cases h
 | d + 1, 0, r, m, left', t, h => by rw [decM] at h <;> first | cases h | simp
 | d + 1, left + 1, r, m, left', t, h => by
  have hz : (⟨#[]⟩ : ByteArray).size ≤ 140737488351232 := by decide
  have hnil : ∀ u ∈ ([] : List ByteArray), u.size ≤ 140737488351232 := fun u hu => by cases hu
  rw [decM] at h
  split at h
  ·cases h
  ·next op r1 h1 =>
   split at h
   ·simp only [Option.some.injEq, Prod.mk.injEq] at h
    obtain ⟨rfl, rfl, rfl⟩ := h
    exact (boundM_mk _).2 ⟨hz, hz, hnil, trivial⟩
   ·split at h
    ·split at h
     ·cases h
     ·next n r2 h2 =>
      have l2 := (zEh h2).2
      split at h
      ·cases h
      ·next v r3 h3 =>
       have l3 := (zEh h3).2
       simp only [Option.some.injEq, Prod.mk.injEq] at h
       obtain ⟨rfl, rfl, rfl⟩ := h
       exact (boundM_mk _).2 ⟨by simp only; rw [size_mk]; omega, by simp only; rw [size_mk]; omega, hnil, trivial⟩
    ·split at h
     ·split at h
      ·cases h
      ·next n r2 h2 =>
       have l2 := (zEh h2).2
       split at h
       ·cases h
       ·next k r3 h3 =>
        split at h
        ·rw [Option.map_eq_some_iff] at h
         obtain ⟨⟨y, u⟩, hy, e⟩ := h
         simp only [Prod.mk.injEq] at e
         obtain ⟨rfl, rfl, rfl⟩ := e
         exact (boundM_mk _).2 ⟨by simp only; rw [size_mk]; omega, hz, fun x hx => by have := decTs_size k r3 y u hy x hx; omega, trivial⟩
        ·cases h
     ·split at h
      ·split at h
       ·cases h
       ·next k r2 h2 =>
        split at h
        ·rw [Option.map_eq_some_iff] at h
         obtain ⟨⟨y, l5, u⟩, hy, e⟩ := h
         simp only [Prod.mk.injEq] at e
         obtain ⟨rfl, rfl, rfl⟩ := e
         exact (boundM_mk _).2 ⟨hz, hz, hnil, zGs d (zGh d) k left r2 y l5 u hy⟩
        ·cases h
      ·split at h
       ·rw [Option.map_eq_some_iff] at h
        obtain ⟨⟨y, l5, u⟩, hy, e⟩ := h
        simp only [Prod.mk.injEq] at e
        obtain ⟨rfl, rfl, rfl⟩ := e
        exact (boundM_mk _).2 ⟨hz, hz, hnil, zGs d (zGh d) 1 left r1 y l5 u hy⟩
       ·cases h
def RMGetPost (w0 w : World) (g : Nat) (A : Option Addr) (n c : Nat) (Q : Option (S25 × List UInt8)) (e : Ending) (w' : World) : Prop :=
 Below w0.heap.size w0 w' ∧ KeepBut w w' g none ∧
  ((Q = none ∧ e = .returned (.agg Z5) ∧ ∃ i, RB w' g A n c i true) ∨ ∃ m r A3 c3 A4 c4, Q = some (m, r) ∧ e = .returned (mV m A3 c3 A4 c4) ∧ MF w' (fun b => w.heap.size ≤ b ∧ b < w'.heap.size) m A3 c3 A4 c4 ∧ RB w' g A n c ((n : Int) - (r.length : Nat)) false)
theorem GotQ_mat {b : Bool} {bs : List UInt8} {i : Int} : (if b = true then none else matW bs i) = ((GotQ b 8 64 bs i).filter (fun q => chkB q.1)).map (fun q => (q.1, q.2.2)) := by
 unfold GotQ matW
 cases b with
 | true => simp
 | false =>
 by_cases h : i < 0
 ·simp [h]
 simp [h]
theorem zIi {w w' : World} {g gn : Nat} (h : KeepBut w w' g (some gn)) (hgn : w.heap.size ≤ gn) : KeepBut w w' g none := ⟨h.1, fun i hi h1 _ => h.2 i hi h1 (by simp; omega)⟩
theorem rmget91 (w0 w : World) (g : Nat) (A : Option Addr) (n c : Nat) (bs : List UInt8) (at_ : Int) (b : Bool) (hn : bs.length = n) (hnl : n ≤ 1000000000000000) (hnc : n ≤ c) (hg : w0.heap.size ≤ g) (hB : Below w0.heap.size w0 w) (hS : RB w g A n c at_ b) (hC0 : (Kd.int .u8).C w0 A bs.length (bys bs)) :
  Calls Try.prog 91 #[.pointer (some ⟨g, 0, none⟩)] w (RMGetPost w0 w g A n c (if b = true then none else matW bs at_)) := by
 rw [GotQ_mat]
 obtain ⟨Q0, eQ0⟩ : ∃ Q, GotQ b 8 64 bs at_ = Q := ⟨_, rfl⟩
 have hQ0 := eQ0
 obtain ⟨V, eV⟩ : ∃ V, V = (w.alloc (.cells Z5 25)).alloc (.cells #[.int .i64 0] 3) := ⟨_, rfl⟩
 have hBV : Below w.heap.size w V := by rw [eV]; exact zAc (zAc (Below.refl _ _) _) _
 have hs : V.heap.size = w.heap.size + 2 := by rw [eV]; simp
 have k0 : V.heap[w.heap.size]? = some (.cells Z5 25 (0, 0)) := by rw [eV]; exact (Below.heap_alloc _ _ _ (by simp)).trans (zAs w _)
 have kn : NB V (w.heap.size + 1) 0 := by
  have := zAs (w.alloc (.cells Z5 25)) (.cells #[.int .i64 0] 3)
  rw [World.size_alloc] at this
  rw [eV]; exact this
 have hgl := hS.lt
 have hww := hB.size
 have h1 := got141b' w0 g (w.heap.size + 1) A n c bs hn hnl hnc hg (by omega) (by omega) hC0 b V at_ (zAe hB hBV) (hS.below hBV) kn
 rw [eQ0] at h1
 have hbnd : ∀ m l r, Q0 = some (m, l, r) → boundM m := by
  intro m l r e
  rw [e] at eQ0
  unfold GotQ at eQ0
  split at eQ0
  ·cases eQ0
  exact zGh _ _ _ _ _ _ eQ0
 obtain ⟨M, hM⟩ : ∃ M, (Q0.filter (fun q => chkB q.1)).map (fun q => (q.1, q.2.2)) = M := ⟨_, rfl⟩
 rw [eQ0, hM]
 obtain ⟨K, eK⟩ : ∃ K, w.heap.size = K := ⟨_, rfl⟩
 obtain ⟨gn, egn⟩ : ∃ gn, K + 1 = gn := ⟨_, rfl⟩
 rw [eK] at k0 hs
 rw [eK, egn] at h1
 have H1 := zH h1
 have HM := zH hM
 have HBND := zH hbnd
 have K0 := zH k0
 have HBV := zH hBV
 have EK := zH eK
 have HG := zH (And.intro hgl (And.intro hs egn))
 have HWW := zH hww
 clear h1 hM hbnd k0 kn hBV hgl hs hS hC0 hn eQ0 hQ0 hB hww
 go_enter Try.func91, Try.ntmps91
 go_wp2_with fail
 rw [← eV]
 refine H1.out.mono ?_
 intro e w5 hp5
 obtain ⟨x0, x1, x2, B3, m3, e3, B4, m4, e4, i5, bb5, nz5, rfl, hB5, hK5, hR5, hN5, HT5⟩ := got_any hp5
 obtain ⟨hg1, hg2, hg3⟩ := HG.out
 have hs5 := hK5.1
 have f0 := (hK5.2 K (by omega) (by have := EK.out; omega) (by simp; omega)).trans K0.out
 have hK5' : KeepBut w w5 g none := zIi (zAw (zBf (KeepBut.of_below HBV.out g none)) hK5) (by have := EK.out; omega)
 obtain ⟨V5, eV5⟩ : ∃ V5, V5 = w5.alloc (.cells #[.int .i64 x0, .string x1, .string x2, .slice B3 m3 e3, .slice B4 m4 e4] 25) := ⟨_, rfl⟩
 have hBV5 : Below w5.heap.size w5 V5 := by rw [eV5]; exact zAc (Below.refl _ _) _
 have f0' := (hBV5.block K (by omega)).trans f0
 have hRV := hR5.below hBV5
 have HK5 := zH (hK5'.trans (KeepBut.of_below hBV5 g none) (Or.inl rfl))
 have HB5 := zH (zAe hB5 hBV5)
 have HRV := zH hRV
 have F0 := zH f0'
 have HVS := zH (And.intro (show V5.heap.size = w5.heap.size + 1 by rw [eV5, World.size_alloc]) (show K + 2 ≤ w5.heap.size by omega))
 have hgK : K ≠ g := by have := EK.out; omega
 have hgK2 := hgK.symm
 have r2 := hRV.c2
 have rz := hRV.z2
 have cb : V5.heap[w5.heap.size]? = some (.cells #[.int .i64 x0, .string x1, .string x2, .slice B3 m3 e3, .slice B4 m4 e4] 25 (0, 0)) := by rw [eV5]; exact zAs w5 _
 have HBV5 := zH hBV5
 have HS5 := zH hs5
 have tail : ∀ (W : World) (a0 a1 a2 a3 a4 : Value), W.heap[K]? = some (.cells Z5 25 (0, 0)) → Below w0.heap.size w0 W → KeepBut w W g none → _ := fun W a0 a1 a2 a3 a4 h1 h2 h3 => zCg (w0 := w0) (w := w) (W := W) (g := g) (gn := gn) (K := K) a0 a1 a2 a3 a4 EK.out.symm h1 HWW.out h2 (zBf h3)
 have TL := zH tail
 clear hp5 hB5 hK5 hR5 hN5 hs5 f0 hK5' hBV5 hRV hg1 hg2 hg3 H1 tail
 cases bb5 with
 | true =>
  have hMn : M = none := by
   rcases HT5.out with ⟨-, h⟩ | ⟨h, -⟩
   ·rw [← HM.out, h]; rfl
   cases h
  have HMn := zH hMn
  have f1 := (Below.heap_setCell V5 ⟨g, 2, none⟩ (.bool true) K hgK).trans f0'
  have F1 := zH f1
  have y0 := zAb f1 0
  have y1 := zAb f1 1
  have y2 := zAb f1 2
  have y3 := zAb f1 3
  have y4 := zAb f1 4
  have z0 := zAa f1 0
  have z1 := zAa f1 1
  have z2 := zAa f1 2
  have z3 := zAa f1 3
  have z4 := zAa f1 4
  simp only [zC, zA, zB] at y0 y1 y2 y3 y4
  rw [eV5] at y0 y1 y2 y3 y4 z0 z1 z2 z3 z4 r2 rz
  clear f1 f0' cb hMn
  go_wp2
  rw [← eV5]
  obtain ⟨t1, t2, t3, t4, t5⟩ := TL.out (V5.setCell ⟨g, 2, none⟩ (.bool true)) (.int .i64 0) (.string ⟨#[]⟩) (.string ⟨#[]⟩) (.slice none 0 0) (.slice none 0 0) F1.out (HB5.out.setCell hg _) (HK5.out.set_ 2 (.bool true))
  rw [HMn.out]
  exact bodyPost_ret (zAt rfl (.cell K 25 _ (0, 0) _ rfl t1 Try.underlying25 rfl (by kernel_rfl) .nil)) rfl ⟨t2, zIi t3 (by have := EK.out; omega), Or.inl ⟨rfl, rfl, i5, (t4 g hgK2).trans (HRV.out.set2 true)⟩⟩
 | false =>
 obtain ⟨m, l, r, hQm, rfl, rfl, rfl, rfl, rfl, hMF, rfl, -⟩ : ∃ (m : S25) (l : Nat) (r : List UInt8), Q0 = some (m, l, r) ∧ x0 = m.f0 ∧ x1 = m.f1 ∧ x2 = m.f2 ∧ m3 = m.f3.length ∧ m4 = m.f4.length ∧ MF w5 (fun b => V.heap.size ≤ b ∧ b < w5.heap.size) m B3 e3 B4 e4 ∧ i5 = (n : Int) - (r.length : Nat) ∧ nz5 = 64 - (l : Int) := by
  rcases HT5.out with ⟨h, -⟩ | ⟨-, h⟩
  ·cases h
  exact h
 have hMF' : MF V5 (fun b => V.heap.size ≤ b ∧ b < w5.heap.size) m B3 e3 B4 e4 := hMF.move (fun b hb => ⟨hb, HBV5.out.block b hb.2⟩)
 have HMF := zH hMF'
 have HH := zH (HBND.out m l r hQm)
 obtain ⟨v, hv⟩ : ∃ v, chkB m = v := ⟨_, rfl⟩
 have H36 := zH (zFp V5 m B3 e3 B4 e4 v hv HH.out hMF'.now)
 have hMv : M = if v = true then some (m, r) else none := by
  rw [← HM.out, hQm]
  cases v <;> simp [Option.filter, hv]
 have HMv := zH hMv
 have HV := zH hv
 rw [eV5] at r2 rz
 clear hMF hMF' HM hQm hMv hv f0'
 have c0 := zAb cb 0
 have c1 := zAb cb 1
 have c2 := zAb cb 2
 have c3 := zAb cb 3
 have c4 := zAb cb 4
 have CB := zH cb
 simp only [zC, zA, zB] at c0 c1 c2 c3 c4
 rw [eV5] at c0 c1 c2 c3 c4
 clear cb
 go_wp2_with fail
 rw [← eV5]
 refine H36.out.mono ?_
 rintro e w7 ⟨rfl, hb7⟩
 have HB7 := zH (zAe HB5.out hb7)
 have HK7 := zH (HK5.out.trans (KeepBut.of_below hb7 g none) (Or.inl rfl))
 have f7 := (hb7.block K (zAp F0.out)).trans F0.out
 have q7 := (hb7.block _ (zAp CB.out)).trans CB.out
 have hR7 := HRV.out.below hb7
 have HR7 := zH hR7
 have F7 := zH f7
 have HMF7 := zH (HMF.out.move (T := fun b => V.heap.size ≤ b ∧ b < w5.heap.size) (Y := w7) (fun b hb => ⟨hb, hb7.block b (by have := HVS.out; omega)⟩))
 have HS7 := zH hb7.size
 clear c0 c1 c2 c3 c4 r2 rz eV5
 cases v with
 | false =>
  have f1 := (Below.heap_setCell w7 ⟨g, 2, none⟩ (.bool true) K hgK).trans f7
  have F1 := zH f1
  have r2 := hR7.c2
  have rz := hR7.z2
  have y0 := zAb f1 0
  have y1 := zAb f1 1
  have y2 := zAb f1 2
  have y3 := zAb f1 3
  have y4 := zAb f1 4
  have z0 := zAa f1 0
  have z1 := zAa f1 1
  have z2 := zAa f1 2
  have z3 := zAa f1 3
  have z4 := zAa f1 4
  simp only [zC, zA, zB] at y0 y1 y2 y3 y4
  clear f1 f7 q7 hb7 hR7
  go_wp2
  obtain ⟨t1, t2, t3, t4, t5⟩ := TL.out (w7.setCell ⟨g, 2, none⟩ (.bool true)) (.int .i64 0) (.string ⟨#[]⟩) (.string ⟨#[]⟩) (.slice none 0 0) (.slice none 0 0) F1.out (HB7.out.setCell hg _) (HK7.out.set_ 2 (.bool true))
  rw [HMv.out]
  exact bodyPost_ret (zAt rfl (.cell K 25 _ (0, 0) _ rfl t1 Try.underlying25 rfl (by kernel_rfl) .nil)) rfl ⟨t2, zIi t3 (by have := EK.out; omega), Or.inl ⟨rfl, rfl, _, (t4 g hgK2).trans (HR7.out.set2 true)⟩⟩
 | true =>
 have y0 := zAb f7 0
 have y1 := zAb f7 1
 have y2 := zAb f7 2
 have y3 := zAb f7 3
 have y4 := zAb f7 4
 have z0 := zAa f7 0
 have z1 := zAa f7 1
 have z2 := zAa f7 2
 have z3 := zAa f7 3
 have z4 := zAa f7 4
 have c0 := zAb q7 0
 have c1 := zAb q7 1
 have c2 := zAb q7 2
 have c3 := zAb q7 3
 have c4 := zAb q7 4
 simp only [zC, zA, zB] at y0 y1 y2 y3 y4 c0 c1 c2 c3 c4
 clear f7 q7 hb7 hR7
 go_wp2
 obtain ⟨t1, t2, t3, t4, t5⟩ := TL.out w7 (.int .i64 m.f0) (.string m.f1) (.string m.f2) (.slice B3 m.f3.length e3) (.slice B4 m.f4.length e4) F7.out HB7.out HK7.out
 rw [HMv.out]
 refine bodyPost_ret (zAt rfl (.cell K 25 _ (0, 0) _ rfl t1 Try.underlying25 rfl (by kernel_rfl) .nil)) rfl ⟨t2, zIi t3 (by have := EK.out; omega), Or.inr ⟨m, r, B3, e3, B4, e4, rfl, rfl, HMF7.out.move (fun b hb => ⟨⟨?_, ?_⟩, t4 b ?_⟩), (t4 g hgK2).trans HR7.out⟩⟩
 ·have h1 := hb.1
  have h2 := HBV.out.size
  omega
 ·have h1 := hb.2
  have h2 := HS7.out
  have h3 := HVS.out
  rw [t5]
  omega
 have h1 := hb.1
 have h2 := HG.out
 omega
section
theorem zIy {need old : Nat} (h : old < need) (hb : need ≤ 200000000000000) : Builtin.nextslicecap need old * 1 ≤ 281474976710656 := by
 have : Builtin.nextslicecap need old ≤ need + need / 4 + 512 := by
  unfold Builtin.nextslicecap
  split
  ·omega
  split
  ·omega
  rw [growBy_four]
  repeat' split
  all_goals omega
 omega
theorem run_wide {w : World} (base : Nat) (ty : TypeId) (v : Value) (n : Nat) (xs : List Value) (hown : w.ownsRow base 5 1 v n xs) (ad : Addr) (m c : Nat) (news : List Value) (hl : news.length = m) (hnews : ∀ j u, news[j]? = some u → w.cell? (ad.add j) = some u) (h1 : ∀ u ∈ news, u.oneCell' = true)
  (hb : n + m ≤ 200000000000000) (hm : m ≤ 140737488355328) (hbase : base ≤ w.heap.size) :
  ∃ v' w', (Builtin.append_ #[85, 85] ty #[v, .slice (some ad) m c]).run Try.prog w = .ok v' w' ∧ w'.ownsRow base 5 1 v' (n + m) (xs ++ news) ∧ w.grownBy w' v.ownBlock := by
 obtain ⟨i, hi, hzz⟩ := Option.map_eq_some_iff.1 zDe
 simp only [Prod.mk.injEq] at hzz
 obtain ⟨hz, hs, hby⟩ := hzz
 have hmax : maxLen = 9223372036854775807 := by decide
 have hcopy := hown
 have hxl : xs.length = n := by simpa using hown.1
 have hlen : (xs ++ news).length = (n + m) * 1 := by rw [List.length_append, hxl, hl, Nat.mul_one]
 rcases hown.2 with ⟨rfl, rfl⟩ | ⟨g, cap, cur, rfl, hbg, hg, hnc, hcm, hcs, htake⟩
 ·obtain ⟨v', w', h1', h2', h3', -⟩ := run_append_own (P := Try.prog) (w := w) base 85 ty 5 i (.int .u8 0) 1 1 Try.underlying85 hi hz hs hby rfl (by decide) _ 0 xs hcopy ad m c news (by omega) hnews h1 (by omega) (by omega) hbase
  exact ⟨v', w', h1', h2', h3'⟩
 by_cases hroom : n + m ≤ cap
 ·have hr := run_append_room (P := Try.prog) (w := w) 85 ty 5 i Try.underlying85 hi g n cap cur hg ad m c news (by rw [hs, hl, Nat.mul_one]) hnews h1 hroom (by rw [hs]; omega)
  rw [hs] at hr
  refine ⟨_, _, hr, ⟨hlen, .inr ⟨g, cap, _, rfl, hbg, setRow_heap w g cur _ 5 _ hg, hroom, hcm, ?_, ?_⟩⟩, ⟨rfl, rfl, rfl, by simp, fun k _ hk => setRow_other w g k _ (fun e => hk (by simp [Value.ownBlock, e]))⟩⟩
  ·simp only [List.size_toArray, List.length_append, List.length_take, List.length_drop, Array.length_toList]
   omega
  rw [htake, ← hlen]
  exact List.take_left
 have holds : ∀ j u, xs[j]? = some u → w.cell? ((⟨g, 0, none⟩ : Addr).add j) = some u := hcopy.cells (g := g) rfl
 have hr := run_append_grow (P := Try.prog) (w := w) 85 ty 5 i (.int .u8 0) Try.underlying85 hi hz ⟨g, 0, none⟩ n cap xs (by rw [hs]; omega) holds ad m c news (by rw [hs]; omega) hnews (by omega) (by omega) (by rw [hby]; exact zIy (by omega) hb)
 have hge := grownCap_ge w (n + m) cap 5
 have hcm2 : grownCap w (n + m) cap 5 ≤ maxLen := grownCap_le_maxLen w (n + m) cap 5 (by omega)
 refine ⟨_, _, hr, ⟨hlen, .inr ⟨w.heap.size, _, _, rfl, hbase, heap_alloc_new w.drew _, hge, hcm2, ?_, ?_⟩⟩, ⟨rfl, rfl, rfl, by simp, fun k hk _ => heap_alloc_old w.drew _ hk⟩⟩
 ·simp only [Array.size_append, List.size_toArray, size_zeroCells, hxl, hl, Value.cells]
  simp
  omega
 simp only [Array.toList_append, List.append_assoc]
 rw [← List.append_assoc, ← hlen]
 exact List.take_left
theorem run_wide_str {w : World} (base : Nat) (ty : TypeId) (v : Value) (n : Nat) (xs : List Value) (hown : w.ownsRow base 5 1 v n xs) (s : ByteArray) (hb : n + s.size ≤ 200000000000000) (hm : s.size ≤ 140737488355328) (hbase : base ≤ w.heap.size) :
  ∃ v' w', (Builtin.append_ #[85, 9] ty #[v, .string s]).run Try.prog w = .ok v' w' ∧ w'.ownsRow base 5 1 v' (n + s.size) (xs ++ Lib.strCells s) ∧ w.grownBy w' v.ownBlock := by
 obtain ⟨i, hi, hzz⟩ := Option.map_eq_some_iff.1 zDe
 simp only [Prod.mk.injEq] at hzz
 obtain ⟨hz, hs, hby⟩ := hzz
 have hmax : maxLen = 9223372036854775807 := by decide
 have hcopy := hown
 have hxl : xs.length = n := by simpa using hown.1
 have hlen : (xs ++ Lib.strCells s).length = (n + s.size) * 1 := by rw [List.length_append, hxl, Lib.strCells_length, Nat.mul_one]
 rcases hown.2 with ⟨rfl, rfl⟩ | ⟨g, cap, cur, rfl, hbg, hg, hnc, hcm, hcs, htake⟩
 ·obtain ⟨v', w', h1', h2', h3', -⟩ := Lib.run_append_own_string (P := Try.prog) (w := w) base 85 9 ty 5 i Try.underlying85 Try.underlying9 hi hz hs hby _ 0 xs hcopy s (by omega) (by omega) hbase
  exact ⟨v', w', h1', h2', h3'⟩
 have hcs' : cur.size = cap := by simpa using hcs
 have ht' : cur.toList.take n = xs := by simpa using htake
 by_cases hroom : n + s.size ≤ cap
 ·have hr := Lib.run_append_room_string (P := Try.prog) (w := w) 85 9 ty 5 i Try.underlying85 Try.underlying9 hi hs g n cap cur hg s hroom (by omega)
  refine ⟨_, _, hr, ⟨hlen, .inr ⟨g, cap, _, rfl, hbg, setRow_heap w g cur _ 5 _ hg, hroom, hcm, ?_, ?_⟩⟩, ⟨rfl, rfl, rfl, by simp, fun k _ hk => setRow_other w g k _ (fun e => hk (by simp [Value.ownBlock, e]))⟩⟩
  ·simp only [List.size_toArray, List.length_append, List.length_take, List.length_drop, Array.length_toList, Lib.strCells_length]
   omega
  rw [ht', ← hlen]
  exact List.take_left
 have holds : ∀ j u, xs[j]? = some u → w.cell? ((⟨g, 0, none⟩ : Addr).add j) = some u := hcopy.cells (g := g) rfl
 have hr := Lib.run_append_grow_string (P := Try.prog) (w := w) 85 9 ty 5 i (.int .u8 0) Try.underlying85 Try.underlying9 hi hz ⟨g, 0, none⟩ n cap xs (by rw [hs]; omega) holds s (by omega) (by omega) (by rw [hby]; exact zIy (by omega) hb)
 have hge := grownCap_ge w (n + s.size) cap 5
 have hcm2 : grownCap w (n + s.size) cap 5 ≤ maxLen := grownCap_le_maxLen w (n + s.size) cap 5 (by omega)
 refine ⟨_, _, hr, ⟨hlen, .inr ⟨w.heap.size, _, _, rfl, hbase, heap_alloc_new w.drew _, hge, hcm2, ?_, ?_⟩⟩, ⟨rfl, rfl, rfl, by simp, fun k hk _ => heap_alloc_old w.drew _ hk⟩⟩
 ·simp only [Array.size_append, List.size_toArray, size_zeroCells, hxl, Lib.strCells_length, Value.cells]
  simp
  omega
 simp only [Array.toList_append, List.append_assoc]
 rw [← List.append_assoc, ← hlen]
 exact List.take_left
theorem run_wide_grow {w : World} (base : Nat) (ty : TypeId) (A : Option Addr) (n : Nat) (xs : List Value) (hxl : xs.length = n) (h0 : A = none → n = 0) (holds : ∀ b, A = some b → ∀ j u, xs[j]? = some u → w.cell? (b.add j) = some u) (ad : Addr) (m c : Nat) (news : List Value) (hl : news.length = m) (hnews : ∀ j u, news[j]? = some u → w.cell? (ad.add j) = some u) (hm0 : 0 < m)
  (hb : n + m ≤ 200000000000000) (hbase : base ≤ w.heap.size) :
  ∃ v' w', (Builtin.append_ #[85, 85] ty #[.slice A n n, .slice (some ad) m c]).run Try.prog w = .ok v' w' ∧ w'.ownsRow base 5 1 v' (n + m) (xs ++ news) ∧ w.grownBy w' none := by
 obtain ⟨i, hi, hzz⟩ := Option.map_eq_some_iff.1 zDe
 simp only [Prod.mk.injEq] at hzz
 obtain ⟨hz, hs, hby⟩ := hzz
 have hmax : maxLen = 9223372036854775807 := by decide
 have hlen : (xs ++ news).length = (n + m) * 1 := by rw [List.length_append, hxl, hl, Nat.mul_one]
 rcases A with _ | b
 ·obtain rfl := h0 rfl
  obtain rfl : xs = [] := List.eq_nil_of_length_eq_zero hxl
  have hr := run_append_nil (P := Try.prog) (w := w) 85 ty 5 i (.int .u8 0) Try.underlying85 hi hz ad m c news (by rw [hs]; omega) hnews hm0 (by omega) (by rw [hby]; omega)
  have hge := grownCap_ge w m 0 5
  have hcm2 : grownCap w m 0 5 ≤ maxLen := grownCap_le_maxLen w m 0 5 (by omega)
  refine ⟨_, _, hr, ⟨hlen, .inr ⟨w.heap.size, _, _, by rw [Nat.zero_add], hbase, heap_alloc_new w.drew _, by omega, hcm2, ?_, ?_⟩⟩, ⟨rfl, rfl, rfl, by simp, fun k hk _ => heap_alloc_old w.drew _ hk⟩⟩
  ·simp only [Array.size_append, List.size_toArray, size_zeroCells, hl, Value.cells]
   simp
   omega
  simp only [Array.toList_append, List.nil_append]
  rw [show (0 + m) * 1 = news.length by omega]
  exact List.take_left
 have hr := run_append_grow (P := Try.prog) (w := w) 85 ty 5 i (.int .u8 0) Try.underlying85 hi hz b n n xs (by rw [hs]; omega) (holds b rfl) ad m c news (by rw [hs]; omega) hnews (by omega) (by omega) (by rw [hby]; exact zIy (by omega) hb)
 have hge := grownCap_ge w (n + m) n 5
 have hcm2 : grownCap w (n + m) n 5 ≤ maxLen := grownCap_le_maxLen w (n + m) n 5 (by omega)
 refine ⟨_, _, hr, ⟨hlen, .inr ⟨w.heap.size, _, _, rfl, hbase, heap_alloc_new w.drew _, hge, hcm2, ?_, ?_⟩⟩, ⟨rfl, rfl, rfl, by simp, fun k hk _ => heap_alloc_old w.drew _ hk⟩⟩
 ·simp only [Array.size_append, List.size_toArray, size_zeroCells, hxl, hl, Value.cells]
  simp
  omega
 simp only [Array.toList_append, List.append_assoc]
 rw [← List.append_assoc, ← hlen]
 exact List.take_left
section
variable {ops : Array Oper} {rest : List Oper} {o : Oper} {a : Act} {Q : Exit → Act → World → Prop}
theorem enc_snoc (xs : List UInt8) (p : UInt8) : encs (Value.int .u8) (bys xs) ++ [Value.int .u8 (p.toNat : Int)] = nums .u8 (bys (xs ++ [p])) := by
 simp [encs, nums, bys]
theorem BRw_append {w0 W : World} (base : Nat) (hgd : o.guard = none) (s x : Operand)
  (ho : o.op = .call { callee := .builtin .append, args := #[s, x], argTypes := #[85, 85] })
  (v : Value) (xs : List UInt8) (p : UInt8) (z : Int) (hz : z = (p.toNat : Int)) (hs : a.eval s = v) (hx : a.eval x = .slice (some ⟨W.heap.size, 0, none⟩) 1 1)
  (HV : BR W base v xs) (HB : Below base w0 W) (hbase : base ≤ W.heap.size) (hl : xs.length + 1 ≤ 200000000000000)
  (h : ∀ v1 w1, (Kd.int .u8).R 5 w1 base (fun _ => True) v1 (bys (xs ++ [p])) → Below base w0 w1 → wpList Try.prog ops Q rest (a.put o.dst v1) w1) :
  wpList Try.prog ops Q (o :: rest) a (W.alloc (.cells #[.int .u8 z] 5)) := by
 subst hz
 refine wpList_plain hgd fun K hK => ?_
 have hnews : ∀ j u, [Value.int .u8 (p.toNat : Int)][j]? = some u → (W.alloc (.cells #[.int .u8 (p.toNat : Int)] 5)).cell? ((⟨W.heap.size, 0, none⟩ : Addr).add j) = some u := World.news_of_block (cs := #[.int .u8 (p.toNat : Int)]) (t := 5) (fr := (0, 0)) (heap_alloc_new W _)
 rcases HV with HO | ⟨A, rfl, hC⟩
 ·have hown := Kd.own_of_R HO
  obtain ⟨v', w', hr, h2, h3⟩ := run_wide base o.type v _ _ (own_alloc hown (.cells #[.int .u8 (p.toNat : Int)] 5)) ⟨W.heap.size, 0, none⟩ 1 1 [.int .u8 (p.toNat : Int)] rfl hnews (by simp [Value.oneCell']) (by rw [zBm]; omega) (by omega) (by simp; omega)
  unfold Oper.wp execOp
  simp only [ho, resolve, invoke, builtin, Sem.run_bind, Sem.run_pure, Result.andThen_ok, List.map_toArray, List.map_cons, List.map_nil, hs, hx, hr]
  refine hK _ _ (h v' w' (own_R (n := (bys xs).length + 1) ?_ ?_) ((HB.alloc hbase _).grown h3 (by simp; omega) (zDr hown)))
  ·rw [← enc_snoc]; exact h2
  simp [zBm]
 have hb2 := zAc (Below.refl W.heap.size W) (.cells #[.int .u8 (p.toNat : Int)] 5)
 have hR := Kd.reads_of_C (enc := Value.int .u8) (d := (0 : Int)) (h1 := fun _ => rfl) (Kd.C_below hC hb2)
 obtain ⟨v', w', hr, h2, h3⟩ := run_wide_grow (w := W.alloc (.cells #[.int .u8 (p.toNat : Int)] 5)) base o.type A xs.length (encs (Value.int .u8) (bys xs)) (by simp [encs, bys]) (fun e => by
  rcases Nat.eq_zero_or_pos xs.length with h0 | h0
  ·exact h0
  ·obtain ⟨ad, e2, _⟩ := hR.2.2 h0
   rw [e] at e2; cases e2) (fun b e j u hj => by
  have hj' : j < (bys xs).length := by
   rcases Nat.lt_or_ge j (bys xs).length with h | h
   ·exact h
   ·rw [encs, List.getElem?_eq_none (by simpa using h)] at hj; cases hj
  obtain ⟨ad, e2, hc⟩ := hR.2.2 (by rw [zBm] at hj'; omega)
  rw [e] at e2; cases e2
  rw [hc j (by rw [zBm] at hj'; exact hj')]
  rw [encs, List.getElem?_map, List.getElem?_eq_getElem hj'] at hj
  cases hj
  rw [List.getD_eq_getElem?_getD, List.getElem?_eq_getElem hj']
  rfl) ⟨W.heap.size, 0, none⟩ 1 1 [.int .u8 (p.toNat : Int)] rfl hnews (by decide) hl (by simp; omega)
 unfold Oper.wp execOp
 simp only [ho, resolve, invoke, builtin, Sem.run_bind, Sem.run_pure, Result.andThen_ok, List.map_toArray, List.map_cons, List.map_nil, hs, hx, hr]
 refine hK _ _ (h v' w' (own_R (n := xs.length + 1) ?_ ?_) ((HB.alloc hbase _).grown h3 (by simp; omega) (fun k hk => by cases hk)))
 ·rw [← enc_snoc]; exact h2
 simp [zBm]
theorem strw_append {w0 W : World} (base : Nat) (hgd : o.guard = none) (s x : Operand)
  (ho : o.op = .call { callee := .builtin .append, args := #[s, x], argTypes := #[85, 9] })
  (v : Value) (xs : List Int) (y : ByteArray) (hs : a.eval s = v) (hx : a.eval x = .string y)
  (HO : W.ownsRow base 5 1 v xs.length (nums .u8 xs)) (HB : Below base w0 W) (hbase : base ≤ W.heap.size) (hl : xs.length + y.size ≤ 200000000000000) (hy : y.size ≤ 140737488355328)
  (h : ∀ v1 w1, w1.ownsRow base 5 1 v1 (xs ++ bytesOf y).length (nums .u8 (xs ++ bytesOf y)) → Below base w0 w1 → W.grownBy w1 v.ownBlock → wpList Try.prog ops Q rest (a.put o.dst v1) w1) :
  wpList Try.prog ops Q (o :: rest) a W := by
 refine wpList_plain hgd fun K hK => ?_
 obtain ⟨v', w', hr, h2, h3⟩ := run_wide_str base o.type v _ _ HO y hl hy hbase
 have hl2 : (xs ++ bytesOf y).length = xs.length + y.size := by rw [List.length_append, zGl]
 have hc : nums .u8 (xs ++ bytesOf y) = nums .u8 xs ++ Lib.strCells y := by
  simp [nums, bytesOf, Lib.strCells]
 unfold Oper.wp execOp
 simp only [ho, resolve, invoke, builtin, Sem.run_bind, Sem.run_pure, Result.andThen_ok, List.map_toArray, List.map_cons, List.map_nil, hs, hx, hr]
 exact hK _ _ (h v' w' (by rw [hl2, hc]; exact h2) (HB.grown h3 hbase (zDr HO)) h3)
end
end
theorem putw162 (w : World) (A : Option Addr) (bs : List UInt8) (v : Nat) (hv : v < 18446744073709551616) (hl : bs.length ≤ 199999999999000) (hC : (Kd.int .u8).C w A bs.length (bys bs)) :
  Calls Try.prog 162 #[.slice A bs.length bs.length, .int .u64 v] w fun e w' => ∃ o, e = .returned o ∧ (Kd.int .u8).R 5 w' w.heap.size (fun _ => True) o (bys (bs ++ encV v)) ∧ Below w.heap.size w w' := by
 have HC := zH hC
 have h10 := zBc hv
 clear hC
 go_enter Try.func162, Try.ntmps162
 go_wp2
 go_loopw [0, 1] (fun u0 u1 wr => ∃ (xs : List UInt8) (v' : Nat), u1 = .int .u64 v' ∧ v' < 18446744073709551616 ∧ xs.length ≤ bs.length + 10 ∧ Hid (bs ++ encV v = xs ++ encV v') ∧ Hid (BR wr w.heap.size u0 xs) ∧ Hid (Below w.heap.size w wr)) (fun _ u1 _ => (intOf u1).toNat)
 case atStart => exact ⟨bs, v, rfl, hv, by omega, zH rfl, zH (.inr ⟨A, rfl, HC.out⟩), zH (Below.refl _ _)⟩
 case round =>
  obtain ⟨xs, v', rfl, hv', hxl, HE, HR, HB⟩ := hrel
  by_cases h128 : v' < 128
  ·have t1 : ¬ (128 : Int) ≤ (v' : Int) := by omega
   have hp := put_last h128
   obtain ⟨p, ep⟩ : ∃ p, v'.toUInt8 = p := ⟨_, rfl⟩
   rw [ep] at hp
   have HE2 := zH (show bs ++ encV v = xs ++ [p] from by rw [HE.out, zFc h128, ep])
   have HP := zH hp
   clear ep hp
   go_wp2_with (at_builtin; refine BRw_append (w0 := w) w.heap.size rfl (.tmp 15) (.tmp 18) rfl u0 xs p (v' : Int) HP.out rfl (by first | rfl | simp) HR.out HB.out (zAi HB.out) (by omega) ?_; intro v1 w1 hown1 hbel1; have HR1 := zH hown1; clear hown1)
   go_ret
   exact ⟨_, rfl, by rw [HE2.out]; exact HR1.out, hbel1⟩
  have t1 : (128 : Int) ≤ (v' : Int) := by omega
  have hp := put_more v'
  obtain ⟨p, ep⟩ : ∃ p, (v' % 128 + 128).toUInt8 = p := ⟨_, rfl⟩
  rw [ep] at hp
  obtain ⟨v2, ev2⟩ : ∃ v2, v' / 128 = v2 := ⟨_, rfl⟩
  have hv2 : (v' : Int) / 128 = (v2 : Int) := by omega
  have hv2' : v2 < v' := by omega
  have hlen : (xs ++ [p]).length + (encV v2).length = bs.length + (encV v).length := by
   have := congrArg List.length HE.out
   rw [zDf h128, ep, ev2] at this
   simp only [List.length_append, List.length_cons] at this ⊢
   simp
   omega
  have HE2 := zH (show bs ++ encV v = (xs ++ [p]) ++ encV v2 from by rw [HE.out, zDf h128, ep, ev2]; simp)
  have hlen2 : (xs ++ [p]).length ≤ bs.length + 10 := by omega
  clear ep ev2 h128 hlen
  go_wp2_with (at_builtin; refine BRw_append (w0 := w) w.heap.size rfl (.tmp 7) (.tmp 11) rfl u0 xs p _ rfl rfl (by first | rfl | simp) HR.out HB.out (zAi HB.out) (by omega) ?_; intro v1 w1 hown1 hbel1; have HR1 := zH hown1; clear hown1)
  go_roundw
  case rel => exact ⟨xs ++ [p], v2, rfl, by omega, hlen2, HE2, zH (.inl HR1.out), zH hbel1⟩
  case measure => simp [intOf]; omega
theorem zDh (w : World) (A : Option Addr) (n c : Nat) (bs : List UInt8) (v : Nat) (hn : bs.length = n) (hc : n ≤ c) (hv : v < 18446744073709551616) (hl : n ≤ 199999999999000) (hC : (Kd.int .u8).C w A bs.length (bys bs)) :
  Calls Try.prog 114 #[.slice A n c, .int .u64 v] w (PutPost w (bs ++ encV v)) := by
 have h1 := zH (own163 w A n c hc (by omega))
 have h2 := putw162 w A bs v hv (by omega) hC
 rw [hn] at h2
 have H2 := zH h2
 clear hC h2 hn
 go_enter Try.func114, Try.ntmps114
 go_wp2_with fail
 (with_reducible refine h1.out.mono ?_)
 rintro e w1 ⟨rfl, rfl⟩
 go_wp2_with fail
 (with_reducible refine H2.out.mono ?_)
 rintro e w2 ⟨o, rfl, hR, hB⟩
 have HP := zH (PutPost.of hR hB)
 clear hR hB
 go_wp2
 go_ret
 exact HP.out
theorem zCs (w : World) (A : Option Addr) (n c : Nat) (bs : List UInt8) (s : ByteArray) (hn : bs.length = n) (hc : n ≤ c) (hs : s.size ≤ 1000000000000) (hl : n + s.size ≤ 199999999998900) (hC : (Kd.int .u8).C w A bs.length (bys bs)) :
  Calls Try.prog 127 #[.slice A n c, .string s] w (PutPost w (bs ++ encT s.data.toList)) := by
 have h1 := zDh w A n c bs s.size hn hc (by omega) (by omega) hC
 have h10 := zBc (v := s.size) (by omega)
 obtain ⟨X, hX⟩ : ∃ X, bs ++ encV s.size = X := ⟨_, rfl⟩
 have hXl : X.length ≤ n + 10 := by rw [← hX, List.length_append]; omega
 rw [hX] at h1
 have HX := zH hX.symm
 have H1 := zH h1
 clear hC hX h1 hn
 go_enter Try.func127, Try.ntmps127
 go_wp2_with fail
 (with_reducible refine H1.out.mono ?_)
 rintro e w1 ⟨B, m, d, rfl, HN, hd, HR, hB⟩
 have HO := zH (Kd.own_of_R HR.out)
 have HB := zH hB
 clear HR hB
 go_wp2_with (at_builtin; refine strw_append (w0 := w) w.heap.size rfl (.tmp 9) (.tmp 10) rfl (.slice B m d) (bys X) s rfl rfl HO.out HB.out (zAi HB.out) (by rw [zBm]; omega) (by omega) ?_; intro v2 w2 hown2 hb2 hg2; have HP := zH (text_post HX.out hown2 hb2); clear hown2 hb2 hg2; obtain ⟨B2, m2, d2, e2⟩ := zGe HP.out; subst e2)
 go_ret
 exact HP.out
def BPo (w : World) (xs : List UInt8) (e : Ending) (w' : World) : Prop :=
 ∃ A n c, e = .returned (.slice A n c) ∧ Hid (xs.length = n) ∧ n ≤ c ∧ Hid ((Kd.int .u8).C w' A xs.length (bys xs)) ∧ Below w.heap.size w w'
theorem zJf : ∀ (a b : List S25), zBg (a ++ b) = zBg a ++ zBg b
 | [], b => by simp [zBg]
 | k :: a, b => by rw [List.cons_append, zBg, zBg, zJf a b, List.append_assoc]
theorem zDo {ks : List S25} {j : Nat} (hj : j < ks.length) : zBg (ks.take (j + 1)) = zBg (ks.take j) ++ encM (ks.getD j z25) := by
 rw [List.take_succ_eq_append_getElem hj, zJf, List.getD_eq_getElem?_getD, List.getElem?_eq_getElem hj, Option.getD_some]
 simp [zBg]
theorem zGf {ks : List S25} {j : Nat} (hj : j < ks.length) : (zBg (ks.take j)).length + (encM (ks.getD j z25)).length ≤ (zBg ks).length := by
 have h1 := zDo hj
 have h2 := congrArg List.length (show zBg ks = zBg (ks.take (j + 1)) ++ zBg (ks.drop (j + 1)) from by rw [← zJf, List.take_append_drop])
 rw [h1] at h2
 simp only [List.length_append] at h2
 omega
theorem encM_0 : encM ⟨0, ⟨#[]⟩, ⟨#[]⟩, [], []⟩ = encV 0 ++ zBg [] := by rw [encM]; simp [zBg]
theorem encM_5 (ks : List S25) : encM ⟨5, ⟨#[]⟩, ⟨#[]⟩, [], ks⟩ = encV 5 ++ (encV ks.length ++ zBg ks) := by rw [encM]; simp
theorem encM_6 (ks : List S25) : encM ⟨6, ⟨#[]⟩, ⟨#[]⟩, [], ks⟩ = encV 6 ++ (encV ks.length ++ zBg ks) := by rw [encM]; simp
theorem encM_7 (ks : List S25) : encM ⟨7, ⟨#[]⟩, ⟨#[]⟩, [], ks⟩ = encV 7 ++ zBg ks := by rw [encM]; simp
theorem encM_1 (n v : ByteArray) : encM ⟨1, n, v, [], []⟩ = encV 1 ++ (encT n.data.toList ++ encT v.data.toList) := by rw [encM]; simp
theorem encM_2 (n v : ByteArray) : encM ⟨2, n, v, [], []⟩ = encV 2 ++ (encT n.data.toList ++ encT v.data.toList) := by rw [encM]; simp
theorem encM_3 (n v : ByteArray) : encM ⟨3, n, v, [], []⟩ = encV 3 ++ (encT n.data.toList ++ encT v.data.toList) := by rw [encM]; simp
theorem encM_4 (n : ByteArray) (vs : List ByteArray) : encM ⟨4, n, ⟨#[]⟩, vs, []⟩ = encV 4 ++ (encT n.data.toList ++ (encV vs.length ++ vs.flatMap (fun x => encT x.data.toList))) := by rw [encM]; simp
theorem mput137 : ∀ (N : Nat) (m : S25), zAv m ≤ N → okM m = true → zAv m ≤ 64 → ∀ (A : Option Addr) (n c : Nat) (bs : List UInt8) (A3 : Option Addr) (c3 : Nat) (A4 : Option Addr) (c4 : Nat) (w : World), bs.length = n → n ≤ c → n + (encM m).length ≤ 199999999990000 → (Kd.int .u8).C w A bs.length (bys bs) → MC w m A3 c3 A4 c4 →
  Calls Try.prog 137 #[.slice A n c, .agg #[.int .i64 m.f0, .string m.f1, .string m.f2, .slice A3 m.f3.length c3, .slice A4 m.f4.length c4]] w (BPo w (bs ++ encM m)) := by
 intro N
 induction N with
 | zero => intro m h; rw [zAz] at h; omega
 | succ N ih =>
 intro m hN hok h64
 have IH := zH ih
 clear ih
 intro A n c bs A3 c3 A4 c4 w hn hc hlen hC hM
 rcases shape hok with rfl | ⟨op, nm, v, ho, hnb, rfl⟩ | ⟨nm, vs, hnb, rfl⟩ | ⟨op, ks, ho, hk, rfl⟩
 all_goals simp only at hM ⊢
 ·have hX : BoxM (w.alloc (.cells #[.int .i64 0, .string ⟨#[]⟩, .string ⟨#[]⟩, .slice A3 0 c3, .slice A4 0 c4] 25)) w.heap.size 0 ⟨#[]⟩ ⟨#[]⟩ (.slice A3 0 c3) (.slice A4 0 c4) := zAs w _
  have hBV := zAc (Below.refl w.heap.size w) (.cells #[.int .i64 0, .string ⟨#[]⟩, .string ⟨#[]⟩, .slice A3 0 c3, .slice A4 0 c4] 25)
  have h1 : Calls Try.prog 114 #[.slice A n c, .int .u64 0] (w.alloc (.cells #[.int .i64 0, .string ⟨#[]⟩, .string ⟨#[]⟩, .slice A3 0 c3, .slice A4 0 c4] 25)) (PutPost (w.alloc (.cells #[.int .i64 0, .string ⟨#[]⟩, .string ⟨#[]⟩, .slice A3 0 c3, .slice A4 0 c4] 25)) (bs ++ encV 0)) := zDh _ A n c bs 0 hn hc (by decide) (by omega) (Kd.C_below hC hBV)
  obtain ⟨V, eV⟩ : ∃ V, V = (w.alloc (.cells #[.int .i64 0, .string ⟨#[]⟩, .string ⟨#[]⟩, .slice A3 0 c3, .slice A4 0 c4] 25)) := ⟨_, rfl⟩
  rw [← eV] at hX hBV h1
  have H1 := zH h1
  have HN := zH hn
  have HX := zH hX
  have HBV := zH hBV
  have HM := zH hM
  have c0 := hX.c0
  have hv10 := zBc (v := 0) (by decide)
  have hE := encM_0
  have HE := zH hE
  have hlt : n + (encM ⟨0, ⟨#[]⟩, ⟨#[]⟩, [], []⟩).length ≤ 199999999990000 := hlen
  rw [hE] at hlt
  simp only [List.length_append] at hlt
  clear hM hC h1 hX hBV hn hE
  go_enter Try.func137, Try.ntmps137
  go_wp2_with fail
  rw [← eV]
  (with_reducible refine H1.out.mono ?_)
  rintro e w1 ⟨A1, n1, c1, rfl, HN1, hc1, HR1, hb1⟩
  have HC1 := zH (R_C HR1.out)
  have HX1 := zH (HX.out.below hb1)
  have HB1 := zH (zAe HBV.out hb1)
  have c0 := HX1.out.c0
  have c4 := HX1.out.c4
  have hn1 : n1 ≤ n + (encV 0).length := by have a := HN1.out; have b := HN.out; rw [List.length_append] at a; omega
  clear hb1 HR1 eV
  obtain ⟨X0, eX0⟩ : ∃ X, bs ++ encV 0 = X := ⟨_, rfl⟩
  rw [eX0] at HN1 HC1
  have HX0 := zH eX0
  clear eX0 H1
  go_wp2
  go_loopw [0, 8, 62] (fun u0 _ u62 wr => ∃ (j : Nat) (xs : List UInt8) (A' : Option Addr) (n' c' : Nat), u62 = .int .i64 j ∧ j ≤ 0 ∧ u0 = .slice A' n' c' ∧ n' ≤ c' ∧ n' ≤ n1 + (zBg (([] : List S25).take j)).length ∧ Hid (xs.length = n') ∧ Hid (xs = X0 ++ zBg (([] : List S25).take j)) ∧ Hid ((Kd.int .u8).C wr A' xs.length (bys xs)) ∧ Hid (Below w.heap.size w wr)) (fun _ _ u62 _ => 0 - (intOf u62).toNat)
  case atStart => exact ⟨0, X0, A1, n1, c1, rfl, Nat.zero_le _, rfl, hc1, by simp [zBg], HN1, zH (by simp [zBg]), HC1, HB1⟩
  case round =>
   clear HB1 HC1 HN1 hc1
   obtain ⟨j, xs, A', n', c', rfl, hj, rfl, hc', hn', HNx, HXx, HCx, HBx⟩ := hrel
   by_cases hlj : j < 0
   ·omega
   obtain rfl : j = 0 := by omega
   have HXf := zH (show xs = bs ++ encM ⟨0, ⟨#[]⟩, ⟨#[]⟩, [], []⟩ from by rw [HXx.out, ← HX0.out, HE.out]; simp [zBg])
   rw [HXf.out] at HNx HCx
   go_wp2
   go_ret
   exact ⟨A', n', c', rfl, HNx, hc', HCx, HBx.out⟩
 ·rcases ho with rfl | rfl | rfl
  ·have hX : BoxM (w.alloc (.cells #[.int .i64 1, .string nm, .string v, .slice A3 0 c3, .slice A4 0 c4] 25)) w.heap.size 1 nm v (.slice A3 0 c3) (.slice A4 0 c4) := zAs w _
   have hBV := zAc (Below.refl w.heap.size w) (.cells #[.int .i64 1, .string nm, .string v, .slice A3 0 c3, .slice A4 0 c4] 25)
   have h1 : Calls Try.prog 114 #[.slice A n c, .int .u64 1] (w.alloc (.cells #[.int .i64 1, .string nm, .string v, .slice A3 0 c3, .slice A4 0 c4] 25)) (PutPost (w.alloc (.cells #[.int .i64 1, .string nm, .string v, .slice A3 0 c3, .slice A4 0 c4] 25)) (bs ++ encV 1)) := zDh _ A n c bs 1 hn hc (by decide) (by omega) (Kd.C_below hC hBV)
   obtain ⟨V, eV⟩ : ∃ V, V = (w.alloc (.cells #[.int .i64 1, .string nm, .string v, .slice A3 0 c3, .slice A4 0 c4] 25)) := ⟨_, rfl⟩
   rw [← eV] at hX hBV h1
   have H1 := zH h1
   have HN := zH hn
   have HX := zH hX
   have HBV := zH hBV
   have c0 := hX.c0
   have hv10 := zBc (v := 1) (by decide)
   have hE := encM_1 nm v
   have hlt : n + (encM ⟨1, nm, v, [], []⟩).length ≤ 199999999990000 := hlen
   rw [hE] at hlt
   simp only [List.length_append] at hlt
   have hz := (zCc hok).1 (by simp)
   have hz1 : nm.size ≤ 32 := by have := hz.1; simpa using this
   have hz2 : v.size ≤ 64 := by have := hz.2; simpa using this
   have HE := zH hE
   clear hM hC h1 hX hBV hn hE hz
   go_enter Try.func137, Try.ntmps137
   go_wp2_with fail
   rw [← eV]
   (with_reducible refine H1.out.mono ?_)
   rintro e w1 ⟨A1, n1, c1, rfl, HN1, hc1, HR1, hb1⟩
   have HC1 := zH (R_C HR1.out)
   have HX1 := zH (HX.out.below hb1)
   have HB1 := zH (zAe HBV.out hb1)
   have c0 := HX1.out.c0
   have hn1 : n1 ≤ n + (encV 1).length := by have a := HN1.out; have b := HN.out; rw [List.length_append] at a; omega
   obtain ⟨X0, eX0⟩ : ∃ X, bs ++ encV 1 = X := ⟨_, rfl⟩
   rw [eX0] at HN1 HC1
   have HX0 := zH eX0
   clear hb1 HR1 eV eX0
   go_wp2_with fail
   have f1 := fun W (hb : Below w1.heap.size w1 W) => zAf hb HX1.out.c1
   have f2 := fun W (hb : Below w1.heap.size w1 W) => zAf hb HX1.out.c2
   go_region_held3 (fun W => Below w1.heap.size w1 W)
    (first | exact zAr (Below.refl _ _) | exact HK6.out | exact HK5.out)
    (first
     | (go_at_call 127; (with_reducible refine (zCs _ A1 n1 c1 X0 nm HN1.out hc1 (by omega) (by omega) (Kd.C_below HC1.out (by assumption))).mono ?_); rintro e w5 ⟨A5, n5, c5, rfl, HN5, hc5, HR5, hb5⟩; have HK5 := zH (show Below w1.heap.size w1 w5 from zAe (by assumption) hb5); clear hb5)
     | (go_at_call 127; (with_reducible refine (zCs _ A5 n5 c5 (X0 ++ encT nm.data.toList) v HN5.out hc5 (by omega) (by have a := HN5.out; have b := HN1.out; simp only [List.length_append] at a; omega) (Kd.C_below (R_C HR5.out) (by first | assumption | exact Below.refl _ _))).mono ?_); rintro e w6 ⟨A6, n6, c6, rfl, HN6, hc6, HR6, hb6⟩; have HK6 := zH (show Below w1.heap.size w1 w6 from zAe (by first | assumption | exact HK5.out) hb6); clear hb6))
   have HXf := zH (show (X0 ++ encT nm.data.toList) ++ encT v.data.toList = bs ++ encM ⟨1, nm, v, [], []⟩ from by rw [← HX0.out, HE.out]; simp)
   have HC6 := zH (R_C HR6.out)
   rw [HXf.out] at HN6 HC6
   have HBf := zH (zAe HB1.out HK6.out)
   clear f1 f2
   go_wp2
   go_ret
   exact ⟨A6, n6, c6, rfl, HN6, hc6, HC6, HBf.out⟩
  ·have hX : BoxM (w.alloc (.cells #[.int .i64 2, .string nm, .string v, .slice A3 0 c3, .slice A4 0 c4] 25)) w.heap.size 2 nm v (.slice A3 0 c3) (.slice A4 0 c4) := zAs w _
   have hBV := zAc (Below.refl w.heap.size w) (.cells #[.int .i64 2, .string nm, .string v, .slice A3 0 c3, .slice A4 0 c4] 25)
   have h1 : Calls Try.prog 114 #[.slice A n c, .int .u64 2] (w.alloc (.cells #[.int .i64 2, .string nm, .string v, .slice A3 0 c3, .slice A4 0 c4] 25)) (PutPost (w.alloc (.cells #[.int .i64 2, .string nm, .string v, .slice A3 0 c3, .slice A4 0 c4] 25)) (bs ++ encV 2)) := zDh _ A n c bs 2 hn hc (by decide) (by omega) (Kd.C_below hC hBV)
   obtain ⟨V, eV⟩ : ∃ V, V = (w.alloc (.cells #[.int .i64 2, .string nm, .string v, .slice A3 0 c3, .slice A4 0 c4] 25)) := ⟨_, rfl⟩
   rw [← eV] at hX hBV h1
   have H1 := zH h1
   have HN := zH hn
   have HX := zH hX
   have HBV := zH hBV
   have c0 := hX.c0
   have hv10 := zBc (v := 2) (by decide)
   have hE := encM_2 nm v
   have hlt : n + (encM ⟨2, nm, v, [], []⟩).length ≤ 199999999990000 := hlen
   rw [hE] at hlt
   simp only [List.length_append] at hlt
   have hz := (zCc hok).1 (by simp)
   have hz1 : nm.size ≤ 32 := by have := hz.1; simpa using this
   have hz2 : v.size ≤ 64 := by have := hz.2; simpa using this
   have HE := zH hE
   clear hM hC h1 hX hBV hn hE hz
   go_enter Try.func137, Try.ntmps137
   go_wp2_with fail
   rw [← eV]
   (with_reducible refine H1.out.mono ?_)
   rintro e w1 ⟨A1, n1, c1, rfl, HN1, hc1, HR1, hb1⟩
   have HC1 := zH (R_C HR1.out)
   have HX1 := zH (HX.out.below hb1)
   have HB1 := zH (zAe HBV.out hb1)
   have c0 := HX1.out.c0
   have hn1 : n1 ≤ n + (encV 2).length := by have a := HN1.out; have b := HN.out; rw [List.length_append] at a; omega
   obtain ⟨X0, eX0⟩ : ∃ X, bs ++ encV 2 = X := ⟨_, rfl⟩
   rw [eX0] at HN1 HC1
   have HX0 := zH eX0
   clear hb1 HR1 eV eX0
   go_wp2_with fail
   have f1 := fun W (hb : Below w1.heap.size w1 W) => zAf hb HX1.out.c1
   have f2 := fun W (hb : Below w1.heap.size w1 W) => zAf hb HX1.out.c2
   go_region_held3 (fun W => Below w1.heap.size w1 W)
    (first | exact zAr (Below.refl _ _) | exact HK6.out | exact HK5.out)
    (first
     | (go_at_call 127; (with_reducible refine (zCs _ A1 n1 c1 X0 nm HN1.out hc1 (by omega) (by omega) (Kd.C_below HC1.out (by assumption))).mono ?_); rintro e w5 ⟨A5, n5, c5, rfl, HN5, hc5, HR5, hb5⟩; have HK5 := zH (show Below w1.heap.size w1 w5 from zAe (by assumption) hb5); clear hb5)
     | (go_at_call 127; (with_reducible refine (zCs _ A5 n5 c5 (X0 ++ encT nm.data.toList) v HN5.out hc5 (by omega) (by have a := HN5.out; have b := HN1.out; simp only [List.length_append] at a; omega) (Kd.C_below (R_C HR5.out) (by first | assumption | exact Below.refl _ _))).mono ?_); rintro e w6 ⟨A6, n6, c6, rfl, HN6, hc6, HR6, hb6⟩; have HK6 := zH (show Below w1.heap.size w1 w6 from zAe (by first | assumption | exact HK5.out) hb6); clear hb6))
   have HXf := zH (show (X0 ++ encT nm.data.toList) ++ encT v.data.toList = bs ++ encM ⟨2, nm, v, [], []⟩ from by rw [← HX0.out, HE.out]; simp)
   have HC6 := zH (R_C HR6.out)
   rw [HXf.out] at HN6 HC6
   have HBf := zH (zAe HB1.out HK6.out)
   clear f1 f2
   go_wp2
   go_ret
   exact ⟨A6, n6, c6, rfl, HN6, hc6, HC6, HBf.out⟩
  have hX : BoxM (w.alloc (.cells #[.int .i64 3, .string nm, .string v, .slice A3 0 c3, .slice A4 0 c4] 25)) w.heap.size 3 nm v (.slice A3 0 c3) (.slice A4 0 c4) := zAs w _
  have hBV := zAc (Below.refl w.heap.size w) (.cells #[.int .i64 3, .string nm, .string v, .slice A3 0 c3, .slice A4 0 c4] 25)
  have h1 : Calls Try.prog 114 #[.slice A n c, .int .u64 3] (w.alloc (.cells #[.int .i64 3, .string nm, .string v, .slice A3 0 c3, .slice A4 0 c4] 25)) (PutPost (w.alloc (.cells #[.int .i64 3, .string nm, .string v, .slice A3 0 c3, .slice A4 0 c4] 25)) (bs ++ encV 3)) := zDh _ A n c bs 3 hn hc (by decide) (by omega) (Kd.C_below hC hBV)
  obtain ⟨V, eV⟩ : ∃ V, V = (w.alloc (.cells #[.int .i64 3, .string nm, .string v, .slice A3 0 c3, .slice A4 0 c4] 25)) := ⟨_, rfl⟩
  rw [← eV] at hX hBV h1
  have H1 := zH h1
  have HN := zH hn
  have HX := zH hX
  have HBV := zH hBV
  have c0 := hX.c0
  have hv10 := zBc (v := 3) (by decide)
  have hE := encM_3 nm v
  have hlt : n + (encM ⟨3, nm, v, [], []⟩).length ≤ 199999999990000 := hlen
  rw [hE] at hlt
  simp only [List.length_append] at hlt
  have hz := (zCc hok).1 (by simp)
  have hz1 : nm.size ≤ 32 := by have := hz.1; simpa using this
  have hz2 : v.size ≤ 64 := by have := hz.2; simpa using this
  have HE := zH hE
  clear hM hC h1 hX hBV hn hE hz
  go_enter Try.func137, Try.ntmps137
  go_wp2_with fail
  rw [← eV]
  (with_reducible refine H1.out.mono ?_)
  rintro e w1 ⟨A1, n1, c1, rfl, HN1, hc1, HR1, hb1⟩
  have HC1 := zH (R_C HR1.out)
  have HX1 := zH (HX.out.below hb1)
  have HB1 := zH (zAe HBV.out hb1)
  have c0 := HX1.out.c0
  have hn1 : n1 ≤ n + (encV 3).length := by have a := HN1.out; have b := HN.out; rw [List.length_append] at a; omega
  obtain ⟨X0, eX0⟩ : ∃ X, bs ++ encV 3 = X := ⟨_, rfl⟩
  rw [eX0] at HN1 HC1
  have HX0 := zH eX0
  clear hb1 HR1 eV eX0
  go_wp2_with fail
  have f1 := fun W (hb : Below w1.heap.size w1 W) => zAf hb HX1.out.c1
  have f2 := fun W (hb : Below w1.heap.size w1 W) => zAf hb HX1.out.c2
  go_region_held3 (fun W => Below w1.heap.size w1 W)
   (first | exact zAr (Below.refl _ _) | exact HK6.out | exact HK5.out)
   (first
    | (go_at_call 127; (with_reducible refine (zCs _ A1 n1 c1 X0 nm HN1.out hc1 (by omega) (by omega) (Kd.C_below HC1.out (by assumption))).mono ?_); rintro e w5 ⟨A5, n5, c5, rfl, HN5, hc5, HR5, hb5⟩; have HK5 := zH (show Below w1.heap.size w1 w5 from zAe (by assumption) hb5); clear hb5)
    | (go_at_call 127; (with_reducible refine (zCs _ A5 n5 c5 (X0 ++ encT nm.data.toList) v HN5.out hc5 (by omega) (by have a := HN5.out; have b := HN1.out; simp only [List.length_append] at a; omega) (Kd.C_below (R_C HR5.out) (by first | assumption | exact Below.refl _ _))).mono ?_); rintro e w6 ⟨A6, n6, c6, rfl, HN6, hc6, HR6, hb6⟩; have HK6 := zH (show Below w1.heap.size w1 w6 from zAe (by first | assumption | exact HK5.out) hb6); clear hb6))
  have HXf := zH (show (X0 ++ encT nm.data.toList) ++ encT v.data.toList = bs ++ encM ⟨3, nm, v, [], []⟩ from by rw [← HX0.out, HE.out]; simp)
  have HC6 := zH (R_C HR6.out)
  rw [HXf.out] at HN6 HC6
  have HBf := zH (zAe HB1.out HK6.out)
  clear f1 f2
  go_wp2
  go_ret
  exact ⟨A6, n6, c6, rfl, HN6, hc6, HC6, HBf.out⟩
 ·have hX : BoxM (w.alloc (.cells #[.int .i64 4, .string nm, .string ⟨#[]⟩, .slice A3 vs.length c3, .slice A4 0 c4] 25)) w.heap.size 4 nm ⟨#[]⟩ (.slice A3 vs.length c3) (.slice A4 0 c4) := zAs w _
  have hBV := zAc (Below.refl w.heap.size w) (.cells #[.int .i64 4, .string nm, .string ⟨#[]⟩, .slice A3 vs.length c3, .slice A4 0 c4] 25)
  have h1 : Calls Try.prog 114 #[.slice A n c, .int .u64 4] (w.alloc (.cells #[.int .i64 4, .string nm, .string ⟨#[]⟩, .slice A3 vs.length c3, .slice A4 0 c4] 25)) (PutPost (w.alloc (.cells #[.int .i64 4, .string nm, .string ⟨#[]⟩, .slice A3 vs.length c3, .slice A4 0 c4] 25)) (bs ++ encV 4)) := zDh _ A n c bs 4 hn hc (by decide) (by omega) (Kd.C_below hC hBV)
  obtain ⟨V, eV⟩ : ∃ V, V = (w.alloc (.cells #[.int .i64 4, .string nm, .string ⟨#[]⟩, .slice A3 vs.length c3, .slice A4 0 c4] 25)) := ⟨_, rfl⟩
  rw [← eV] at hX hBV h1
  have H1 := zH h1
  have HN := zH hn
  have HX := zH hX
  have HBV := zH hBV
  have c0 := hX.c0
  have hv10 := zBc (v := 4) (by decide)
  have hE := encM_4 nm vs
  have hlt : n + (encM ⟨4, nm, ⟨#[]⟩, vs, []⟩).length ≤ 199999999990000 := hlen
  rw [hE] at hlt
  simp only [List.length_append] at hlt
  have hz := (zCc hok).2 rfl
  simp only at hz
  have hz1 : nm.size ≤ 32 := by have := hz.1; simpa using this
  have hvs : vs.length ≤ 16 := hz.2.1
  have HZ := zH hz.2.2
  have HE := zH hE
  have HRv := zH (fun W (h : Below w.heap.size w W) => Kd.reads_of_C (enc := Value.string) (d := ByteArray.empty) (h1 := fun _ => rfl) (Kd.C_below hM.2.1 h))
  clear hM hC h1 hX hBV hn hE hz
  go_enter Try.func137, Try.ntmps137
  go_wp2_with fail
  rw [← eV]
  (with_reducible refine H1.out.mono ?_)
  rintro e w1 ⟨A1, n1, c1, rfl, HN1, hc1, HR1, hb1⟩
  have HC1 := zH (R_C HR1.out)
  have HX1 := zH (HX.out.below hb1)
  have HB1 := zH (zAe HBV.out hb1)
  have c0 := HX1.out.c0
  have hn1 : n1 ≤ n + (encV 4).length := by have a := HN1.out; have b := HN.out; rw [List.length_append] at a; omega
  obtain ⟨X0, eX0⟩ : ∃ X, bs ++ encV 4 = X := ⟨_, rfl⟩
  rw [eX0] at HN1 HC1
  have HX0 := zH eX0
  clear hb1 HR1 eV eX0
  go_wp2_with fail
  have f1 := fun W (hb : Below w1.heap.size w1 W) => zAf hb HX1.out.c1
  have f3 := fun W (hb : Below w1.heap.size w1 W) => zAf hb HX1.out.c3
  have HP4 : Hid (∀ (W : World) (A5 : Option Addr) (n5 c5 : Nat) (xs : List UInt8), xs.length = n5 → n5 ≤ c5 → n5 ≤ 199999999999000 → (Kd.int .u8).C W A5 xs.length (bys xs) → Calls Try.prog 114 #[.slice A5 n5 c5, .int .u64 (IntKind.u64.wrap (vs.length : Int))] W (PutPost W (xs ++ encV vs.length))) := zH (fun W A5 n5 c5 xs h1 h2 h3 h4 => by
   rw [show IntKind.u64.wrap (vs.length : Int) = (vs.length : Int) by rw [IntKind.wrap_u64]; omega]
   exact zDh W A5 n5 c5 xs vs.length h1 h2 (by omega) h3 h4)
  go_region_held3 (fun W => Below w1.heap.size w1 W)
   (first | exact zAr (Below.refl _ _) | exact HK6.out | exact HK5.out)
   (first
    | (go_at_call 127; (with_reducible refine (zCs _ A1 n1 c1 X0 nm HN1.out hc1 (by omega) (by omega) (Kd.C_below HC1.out (by assumption))).mono ?_); rintro e w5 ⟨A5, n5, c5, rfl, HN5, hc5, HR5, hb5⟩; have HK5 := zH (show Below w1.heap.size w1 w5 from zAe (by assumption) hb5); clear hb5)
    | (go_at_call 114; (with_reducible refine (HP4.out _ A5 n5 c5 (X0 ++ encT nm.data.toList) HN5.out hc5 (by have a := HN5.out; have b := HN1.out; simp only [List.length_append] at a; omega) (Kd.C_below (R_C HR5.out) (by first | assumption | exact Below.refl _ _))).mono ?_); rintro e w6 ⟨A6, n6, c6, rfl, HN6, hc6, HR6, hb6⟩; have HK6 := zH (show Below w1.heap.size w1 w6 from zAe (by first | assumption | exact HK5.out) hb6); clear hb6))
  obtain ⟨X2, eX2⟩ : ∃ X, (X0 ++ encT nm.data.toList) ++ encV vs.length = X := ⟨_, rfl⟩
  have hn6 : n6 ≤ n1 + (encT nm.data.toList).length + (encV vs.length).length := by have a := HN6.out; have b := HN1.out; simp only [List.length_append] at a; omega
  have HC6 := zH (R_C HR6.out)
  rw [eX2] at HN6 HC6
  have HX2 := zH eX2
  have HB6 := zH (zAe HB1.out HK6.out)
  have c3 := (HX1.out.below HK6.out).c3
  clear f1 f3 eX2 HR6 HR5 HN5 hc5 HK5 HN1 HC1 HB1
  go_wp2
  go_loopw [0, 6, 41] (fun u0 _ u41 wr => ∃ (j : Nat) (xs : List UInt8) (A' : Option Addr) (n' c' : Nat), u41 = .int .i64 j ∧ j ≤ vs.length ∧ u0 = .slice A' n' c' ∧ n' ≤ c' ∧ n' ≤ n6 + ((vs.take j).flatMap (fun x => encT x.data.toList)).length ∧ Hid (xs.length = n') ∧ Hid (xs = X2 ++ (vs.take j).flatMap (fun x => encT x.data.toList)) ∧ Hid ((Kd.int .u8).C wr A' xs.length (bys xs)) ∧ Hid (Below w.heap.size w wr)) (fun _ _ u41 _ => vs.length - (intOf u41).toNat)
  case atStart => exact ⟨0, X2, A6, n6, c6, rfl, Nat.zero_le _, rfl, hc6, by simp, HN6, zH (by simp), HC6, HB6⟩
  case round =>
   clear HB6 HC6 HN6 hc6
   obtain ⟨j, xs, A', n', c', rfl, hj, rfl, hc', hn', HNx, HXx, HCx, HBx⟩ := hrel
   by_cases hlj : j < vs.length
   ·have hltI : (j : Int) < (vs.length : Int) := by omega
    obtain ⟨ad, rfl, kk⟩ := (HRv.out _ HBx.out).2.2 (by omega)
    have k0 := kk j hlj
    clear kk
    obtain ⟨y, ey⟩ : ∃ y, vs.getD j ByteArray.empty = y := ⟨_, rfl⟩
    rw [ey] at k0
    have hym : y ∈ vs := by rw [← ey, List.getD_eq_getElem?_getD, List.getElem?_eq_getElem hlj]; simp
    have hy := HZ.out y hym
    have HT := zH (show (vs.take (j + 1)).flatMap (fun x => encT x.data.toList) = (vs.take j).flatMap (fun x => encT x.data.toList) ++ encT y.data.toList from by
     rw [List.take_succ_eq_append_getElem hlj, List.flatMap_append]
     rw [List.getD_eq_getElem?_getD, List.getElem?_eq_getElem hlj, Option.getD_some] at ey
     rw [ey]; simp)
    have hle : ((vs.take (j + 1)).flatMap (fun x => encT x.data.toList)).length ≤ (vs.flatMap (fun x => encT x.data.toList)).length := by
     have h2 := congrArg List.length (show vs.flatMap (fun x => encT x.data.toList) = (vs.take (j + 1)).flatMap (fun x => encT x.data.toList) ++ (vs.drop (j + 1)).flatMap (fun x => encT x.data.toList) from by rw [← List.flatMap_append, List.take_append_drop])
     rw [List.length_append] at h2
     omega
    have HL := zH (show ((vs.take (j + 1)).flatMap (fun x => encT x.data.toList)).length = ((vs.take j).flatMap (fun x => encT x.data.toList)).length + (encT y.data.toList).length from by rw [HT.out, List.length_append])
    have hnb2 : n' + y.size ≤ 199999999998900 := by have := HL.out; omega
    clear ey hym
    go_wp2_with fail
    (with_reducible refine (zCs _ A' n' c' xs y HNx.out hc' (by omega) hnb2 HCx.out).mono ?_)
    rintro e w7 ⟨A7, n7, c7, rfl, HN7, hc7, HR7, hb7⟩
    have HB7 := zH (zAe HBx.out hb7)
    have hn7 : n7 ≤ n' + (encT y.data.toList).length := by have a := HN7.out; have b := HNx.out; rw [List.length_append] at a; omega
    have HX7 := zH (show xs ++ encT y.data.toList = X2 ++ (vs.take (j + 1)).flatMap (fun x => encT x.data.toList) from by rw [HXx.out, HT.out, List.append_assoc])
    have HC7 := zH (R_C HR7.out)
    clear hb7 HR7 k0
    go_wp2
    go_roundw
    case rel => exact ⟨j + 1, _, A7, n7, c7, by go_num, by omega, rfl, hc7, by have := HL.out; omega, HN7, HX7, HC7, HB7⟩
    case measure => simp [intOf]; omega
   obtain rfl : j = vs.length := by omega
   have HXf := zH (show xs = bs ++ encM ⟨4, nm, ⟨#[]⟩, vs, []⟩ from by rw [HXx.out, ← HX2.out, ← HX0.out, HE.out, List.take_length]; simp)
   rw [HXf.out] at HNx HCx
   go_wp2
   go_ret
   exact ⟨A', n', c', rfl, HNx, hc', HCx, HBx.out⟩
 have hks : ks.length ≤ 64 := by have a := zDd ks; rw [zAz] at h64; simp only at h64; omega
 rcases ho with rfl | rfl | rfl
 ·have hX : BoxM (w.alloc (.cells #[.int .i64 5, .string ⟨#[]⟩, .string ⟨#[]⟩, .slice A3 0 c3, .slice A4 ks.length c4] 25)) w.heap.size 5 ⟨#[]⟩ ⟨#[]⟩ (.slice A3 0 c3) (.slice A4 ks.length c4) := zAs w _
  have hBV := zAc (Below.refl w.heap.size w) (.cells #[.int .i64 5, .string ⟨#[]⟩, .string ⟨#[]⟩, .slice A3 0 c3, .slice A4 ks.length c4] 25)
  have h1 : Calls Try.prog 114 #[.slice A n c, .int .u64 5] (w.alloc (.cells #[.int .i64 5, .string ⟨#[]⟩, .string ⟨#[]⟩, .slice A3 0 c3, .slice A4 ks.length c4] 25)) (PutPost (w.alloc (.cells #[.int .i64 5, .string ⟨#[]⟩, .string ⟨#[]⟩, .slice A3 0 c3, .slice A4 ks.length c4] 25)) (bs ++ encV 5)) := zDh _ A n c bs 5 hn hc (by decide) (by omega) (Kd.C_below hC hBV)
  obtain ⟨V, eV⟩ : ∃ V, V = (w.alloc (.cells #[.int .i64 5, .string ⟨#[]⟩, .string ⟨#[]⟩, .slice A3 0 c3, .slice A4 ks.length c4] 25)) := ⟨_, rfl⟩
  rw [← eV] at hX hBV h1
  have H1 := zH h1
  have HN := zH hn
  have HX := zH hX
  have HBV := zH hBV
  have HM := zH hM
  have c0 := hX.c0
  have hv10 := zBc (v := 5) (by decide)
  have hE := encM_5 ks
  have HE := zH hE
  have hlt : n + (encM ⟨5, ⟨#[]⟩, ⟨#[]⟩, [], ks⟩).length ≤ 199999999990000 := hlen
  rw [hE] at hlt
  simp only [List.length_append] at hlt
  clear hM hC h1 hX hBV hn hE
  go_enter Try.func137, Try.ntmps137
  go_wp2_with fail
  rw [← eV]
  (with_reducible refine H1.out.mono ?_)
  rintro e w1 ⟨A1, n1, c1, rfl, HN1, hc1, HR1, hb1⟩
  have HC1 := zH (R_C HR1.out)
  have HX1 := zH (HX.out.below hb1)
  have HB1 := zH (zAe HBV.out hb1)
  have c0 := HX1.out.c0
  have c4 := HX1.out.c4
  have hn1 : n1 ≤ n + (encV 5).length := by have a := HN1.out; have b := HN.out; rw [List.length_append] at a; omega
  clear hb1 HR1 eV
  have h2 := zH (zDh w1 A1 n1 c1 (bs ++ encV 5) ks.length HN1.out hc1 (by omega) (by omega) HC1.out)
  go_wp2_with fail
  (with_reducible refine h2.out.mono ?_)
  rintro e w2 ⟨A2, n2, c2, rfl, HN2, hc2, HR2, hb2⟩
  have HC2 := zH (R_C HR2.out)
  have HX2 := zH (HX1.out.below hb2)
  have HB2 := zH (zAe HB1.out hb2)
  have hn2 : n2 ≤ n1 + (encV ks.length).length := by have a := HN2.out; have b := HN1.out; rw [List.length_append] at a; omega
  have c4 := HX2.out.c4
  clear hb2 HR2
  obtain ⟨X0, eX0⟩ : ∃ X, (bs ++ encV 5) ++ encV ks.length = X := ⟨_, rfl⟩
  rw [eX0] at HN2 HC2
  have HX0 := zH eX0
  clear eX0 HC1 HB1 HX1 h2 H1
  go_wp2
  go_loopw [0, 8, 62] (fun u0 _ u62 wr => ∃ (j : Nat) (xs : List UInt8) (A' : Option Addr) (n' c' : Nat), u62 = .int .i64 j ∧ j ≤ ks.length ∧ u0 = .slice A' n' c' ∧ n' ≤ c' ∧ n' ≤ n2 + (zBg ((ks : List S25).take j)).length ∧ Hid (xs.length = n') ∧ Hid (xs = X0 ++ zBg ((ks : List S25).take j)) ∧ Hid ((Kd.int .u8).C wr A' xs.length (bys xs)) ∧ Hid (Below w.heap.size w wr)) (fun _ _ u62 _ => ks.length - (intOf u62).toNat)
  case atStart => exact ⟨0, X0, A2, n2, c2, rfl, Nat.zero_le _, rfl, hc2, by simp [zBg], HN2, zH (by simp [zBg]), HC2, HB2⟩
  case round =>
   clear HB2 HC2 HN2 hc2
   obtain ⟨j, xs, A', n', c', rfl, hj, rfl, hc', hn', HNx, HXx, HCx, HBx⟩ := hrel
   by_cases hlj : j < ks.length
   ·have hltI : (j : Int) < (ks.length : Int) := by omega
    obtain ⟨ad, B3, e3, B4, e4, rfl, hMk, k0, k1, k2, k3, k4⟩ := HM.out.kid j hlj
    simp only at k0 k1 k2 k3 k4 hMk
    have k0 := zAf HBx.out k0
    have k1 := zAf HBx.out k1
    have k2 := zAf HBx.out k2
    have k3 := zAf HBx.out k3
    have k4 := zAf HBx.out k4
    have hmem : ks.getD j z25 ∈ ks := by simp [List.getD_eq_getElem?_getD, hlj]
    have hsmall : zAv (ks.getD j z25) < zAv ⟨5, ⟨#[]⟩, ⟨#[]⟩, [], ks⟩ := zCf ⟨5, ⟨#[]⟩, ⟨#[]⟩, [], ks⟩ _ hmem
    have hokk := zFn hk hmem
    have HT := zH (zDo hlj)
    have hle := zGf hlj
    obtain ⟨kid, ek⟩ : ∃ kid, ks.getD j z25 = kid := ⟨_, rfl⟩
    rw [ek] at hMk k0 k1 k2 k3 k4 hsmall hokk HT hle
    have HMk := zH hMk
    have HOK := zH hokk
    clear ek hmem hMk hokk
    obtain ⟨V2, eV2⟩ : ∃ V2, V2 = wr.alloc (.cells #[.int .i64 kid.f0, .string kid.f1, .string kid.f2, .slice B3 kid.f3.length e3, .slice B4 kid.f4.length e4] 25) := ⟨_, rfl⟩
    have hBV2 : Below wr.heap.size wr V2 := eV2 ▸ zAc (Below.refl _ _) _
    have HBV2 := zH (zAe HBx.out hBV2)
    have HCV2 := zH (Kd.C_below HCx.out hBV2)
    clear hBV2
    go_wp2_with fail
    rw [← eV2]
    (with_reducible refine (IH.out kid (by omega) HOK.out (by omega) A' n' c' xs B3 e3 B4 e4 V2 HNx.out hc' (by omega) HCV2.out (HMk.out.below HBV2.out)).mono ?_)
    rintro e w5 ⟨A5, n5, c5, rfl, HN5, hc5, HC5, hb5⟩
    have HB5 := zH (zAe HBV2.out hb5)
    have hn5 : n5 ≤ n' + (encM kid).length := by have a := HN5.out; have b := HNx.out; rw [List.length_append] at a; omega
    have HX5 := zH (show xs ++ encM kid = X0 ++ zBg (ks.take (j + 1)) from by rw [HXx.out, HT.out, List.append_assoc])
    have HL5 := zH (show (zBg (ks.take (j + 1))).length = (zBg (ks.take j)).length + (encM kid).length from by rw [HT.out, List.length_append])
    clear hb5 eV2 k0 k1 k2 k3 k4
    go_wp2
    go_roundw
    case rel => exact ⟨j + 1, _, A5, n5, c5, by go_num, by omega, rfl, hc5, by have := HL5.out; omega, HN5, HX5, HC5, HB5⟩
    case measure => simp [intOf]; omega
   obtain rfl : j = ks.length := by omega
   have HXf := zH (show xs = bs ++ encM ⟨5, ⟨#[]⟩, ⟨#[]⟩, [], ks⟩ from by rw [HXx.out, ← HX0.out, HE.out, List.take_length]; simp)
   rw [HXf.out] at HNx HCx
   go_wp2
   go_ret
   exact ⟨A', n', c', rfl, HNx, hc', HCx, HBx.out⟩
 ·have hX : BoxM (w.alloc (.cells #[.int .i64 6, .string ⟨#[]⟩, .string ⟨#[]⟩, .slice A3 0 c3, .slice A4 ks.length c4] 25)) w.heap.size 6 ⟨#[]⟩ ⟨#[]⟩ (.slice A3 0 c3) (.slice A4 ks.length c4) := zAs w _
  have hBV := zAc (Below.refl w.heap.size w) (.cells #[.int .i64 6, .string ⟨#[]⟩, .string ⟨#[]⟩, .slice A3 0 c3, .slice A4 ks.length c4] 25)
  have h1 : Calls Try.prog 114 #[.slice A n c, .int .u64 6] (w.alloc (.cells #[.int .i64 6, .string ⟨#[]⟩, .string ⟨#[]⟩, .slice A3 0 c3, .slice A4 ks.length c4] 25)) (PutPost (w.alloc (.cells #[.int .i64 6, .string ⟨#[]⟩, .string ⟨#[]⟩, .slice A3 0 c3, .slice A4 ks.length c4] 25)) (bs ++ encV 6)) := zDh _ A n c bs 6 hn hc (by decide) (by omega) (Kd.C_below hC hBV)
  obtain ⟨V, eV⟩ : ∃ V, V = (w.alloc (.cells #[.int .i64 6, .string ⟨#[]⟩, .string ⟨#[]⟩, .slice A3 0 c3, .slice A4 ks.length c4] 25)) := ⟨_, rfl⟩
  rw [← eV] at hX hBV h1
  have H1 := zH h1
  have HN := zH hn
  have HX := zH hX
  have HBV := zH hBV
  have HM := zH hM
  have c0 := hX.c0
  have hv10 := zBc (v := 6) (by decide)
  have hE := encM_6 ks
  have HE := zH hE
  have hlt : n + (encM ⟨6, ⟨#[]⟩, ⟨#[]⟩, [], ks⟩).length ≤ 199999999990000 := hlen
  rw [hE] at hlt
  simp only [List.length_append] at hlt
  clear hM hC h1 hX hBV hn hE
  go_enter Try.func137, Try.ntmps137
  go_wp2_with fail
  rw [← eV]
  (with_reducible refine H1.out.mono ?_)
  rintro e w1 ⟨A1, n1, c1, rfl, HN1, hc1, HR1, hb1⟩
  have HC1 := zH (R_C HR1.out)
  have HX1 := zH (HX.out.below hb1)
  have HB1 := zH (zAe HBV.out hb1)
  have c0 := HX1.out.c0
  have c4 := HX1.out.c4
  have hn1 : n1 ≤ n + (encV 6).length := by have a := HN1.out; have b := HN.out; rw [List.length_append] at a; omega
  clear hb1 HR1 eV
  have h2 := zH (zDh w1 A1 n1 c1 (bs ++ encV 6) ks.length HN1.out hc1 (by omega) (by omega) HC1.out)
  go_wp2_with fail
  (with_reducible refine h2.out.mono ?_)
  rintro e w2 ⟨A2, n2, c2, rfl, HN2, hc2, HR2, hb2⟩
  have HC2 := zH (R_C HR2.out)
  have HX2 := zH (HX1.out.below hb2)
  have HB2 := zH (zAe HB1.out hb2)
  have hn2 : n2 ≤ n1 + (encV ks.length).length := by have a := HN2.out; have b := HN1.out; rw [List.length_append] at a; omega
  have c4 := HX2.out.c4
  clear hb2 HR2
  obtain ⟨X0, eX0⟩ : ∃ X, (bs ++ encV 6) ++ encV ks.length = X := ⟨_, rfl⟩
  rw [eX0] at HN2 HC2
  have HX0 := zH eX0
  clear eX0 HC1 HB1 HX1 h2 H1
  go_wp2
  go_loopw [0, 8, 62] (fun u0 _ u62 wr => ∃ (j : Nat) (xs : List UInt8) (A' : Option Addr) (n' c' : Nat), u62 = .int .i64 j ∧ j ≤ ks.length ∧ u0 = .slice A' n' c' ∧ n' ≤ c' ∧ n' ≤ n2 + (zBg ((ks : List S25).take j)).length ∧ Hid (xs.length = n') ∧ Hid (xs = X0 ++ zBg ((ks : List S25).take j)) ∧ Hid ((Kd.int .u8).C wr A' xs.length (bys xs)) ∧ Hid (Below w.heap.size w wr)) (fun _ _ u62 _ => ks.length - (intOf u62).toNat)
  case atStart => exact ⟨0, X0, A2, n2, c2, rfl, Nat.zero_le _, rfl, hc2, by simp [zBg], HN2, zH (by simp [zBg]), HC2, HB2⟩
  case round =>
   clear HB2 HC2 HN2 hc2
   obtain ⟨j, xs, A', n', c', rfl, hj, rfl, hc', hn', HNx, HXx, HCx, HBx⟩ := hrel
   by_cases hlj : j < ks.length
   ·have hltI : (j : Int) < (ks.length : Int) := by omega
    obtain ⟨ad, B3, e3, B4, e4, rfl, hMk, k0, k1, k2, k3, k4⟩ := HM.out.kid j hlj
    simp only at k0 k1 k2 k3 k4 hMk
    have k0 := zAf HBx.out k0
    have k1 := zAf HBx.out k1
    have k2 := zAf HBx.out k2
    have k3 := zAf HBx.out k3
    have k4 := zAf HBx.out k4
    have hmem : ks.getD j z25 ∈ ks := by simp [List.getD_eq_getElem?_getD, hlj]
    have hsmall : zAv (ks.getD j z25) < zAv ⟨6, ⟨#[]⟩, ⟨#[]⟩, [], ks⟩ := zCf ⟨6, ⟨#[]⟩, ⟨#[]⟩, [], ks⟩ _ hmem
    have hokk := zFn hk hmem
    have HT := zH (zDo hlj)
    have hle := zGf hlj
    obtain ⟨kid, ek⟩ : ∃ kid, ks.getD j z25 = kid := ⟨_, rfl⟩
    rw [ek] at hMk k0 k1 k2 k3 k4 hsmall hokk HT hle
    have HMk := zH hMk
    have HOK := zH hokk
    clear ek hmem hMk hokk
    obtain ⟨V2, eV2⟩ : ∃ V2, V2 = wr.alloc (.cells #[.int .i64 kid.f0, .string kid.f1, .string kid.f2, .slice B3 kid.f3.length e3, .slice B4 kid.f4.length e4] 25) := ⟨_, rfl⟩
    have hBV2 : Below wr.heap.size wr V2 := eV2 ▸ zAc (Below.refl _ _) _
    have HBV2 := zH (zAe HBx.out hBV2)
    have HCV2 := zH (Kd.C_below HCx.out hBV2)
    clear hBV2
    go_wp2_with fail
    rw [← eV2]
    (with_reducible refine (IH.out kid (by omega) HOK.out (by omega) A' n' c' xs B3 e3 B4 e4 V2 HNx.out hc' (by omega) HCV2.out (HMk.out.below HBV2.out)).mono ?_)
    rintro e w5 ⟨A5, n5, c5, rfl, HN5, hc5, HC5, hb5⟩
    have HB5 := zH (zAe HBV2.out hb5)
    have hn5 : n5 ≤ n' + (encM kid).length := by have a := HN5.out; have b := HNx.out; rw [List.length_append] at a; omega
    have HX5 := zH (show xs ++ encM kid = X0 ++ zBg (ks.take (j + 1)) from by rw [HXx.out, HT.out, List.append_assoc])
    have HL5 := zH (show (zBg (ks.take (j + 1))).length = (zBg (ks.take j)).length + (encM kid).length from by rw [HT.out, List.length_append])
    clear hb5 eV2 k0 k1 k2 k3 k4
    go_wp2
    go_roundw
    case rel => exact ⟨j + 1, _, A5, n5, c5, by go_num, by omega, rfl, hc5, by have := HL5.out; omega, HN5, HX5, HC5, HB5⟩
    case measure => simp [intOf]; omega
   obtain rfl : j = ks.length := by omega
   have HXf := zH (show xs = bs ++ encM ⟨6, ⟨#[]⟩, ⟨#[]⟩, [], ks⟩ from by rw [HXx.out, ← HX0.out, HE.out, List.take_length]; simp)
   rw [HXf.out] at HNx HCx
   go_wp2
   go_ret
   exact ⟨A', n', c', rfl, HNx, hc', HCx, HBx.out⟩
 have hX : BoxM (w.alloc (.cells #[.int .i64 7, .string ⟨#[]⟩, .string ⟨#[]⟩, .slice A3 0 c3, .slice A4 ks.length c4] 25)) w.heap.size 7 ⟨#[]⟩ ⟨#[]⟩ (.slice A3 0 c3) (.slice A4 ks.length c4) := zAs w _
 have hBV := zAc (Below.refl w.heap.size w) (.cells #[.int .i64 7, .string ⟨#[]⟩, .string ⟨#[]⟩, .slice A3 0 c3, .slice A4 ks.length c4] 25)
 have h1 : Calls Try.prog 114 #[.slice A n c, .int .u64 7] (w.alloc (.cells #[.int .i64 7, .string ⟨#[]⟩, .string ⟨#[]⟩, .slice A3 0 c3, .slice A4 ks.length c4] 25)) (PutPost (w.alloc (.cells #[.int .i64 7, .string ⟨#[]⟩, .string ⟨#[]⟩, .slice A3 0 c3, .slice A4 ks.length c4] 25)) (bs ++ encV 7)) := zDh _ A n c bs 7 hn hc (by decide) (by omega) (Kd.C_below hC hBV)
 obtain ⟨V, eV⟩ : ∃ V, V = (w.alloc (.cells #[.int .i64 7, .string ⟨#[]⟩, .string ⟨#[]⟩, .slice A3 0 c3, .slice A4 ks.length c4] 25)) := ⟨_, rfl⟩
 rw [← eV] at hX hBV h1
 have H1 := zH h1
 have HN := zH hn
 have HX := zH hX
 have HBV := zH hBV
 have HM := zH hM
 have c0 := hX.c0
 have hv10 := zBc (v := 7) (by decide)
 have hE := encM_7 ks
 have HE := zH hE
 have hlt : n + (encM ⟨7, ⟨#[]⟩, ⟨#[]⟩, [], ks⟩).length ≤ 199999999990000 := hlen
 rw [hE] at hlt
 simp only [List.length_append] at hlt
 clear hM hC h1 hX hBV hn hE
 go_enter Try.func137, Try.ntmps137
 go_wp2_with fail
 rw [← eV]
 (with_reducible refine H1.out.mono ?_)
 rintro e w1 ⟨A1, n1, c1, rfl, HN1, hc1, HR1, hb1⟩
 have HC1 := zH (R_C HR1.out)
 have HX1 := zH (HX.out.below hb1)
 have HB1 := zH (zAe HBV.out hb1)
 have c0 := HX1.out.c0
 have c4 := HX1.out.c4
 have hn1 : n1 ≤ n + (encV 7).length := by have a := HN1.out; have b := HN.out; rw [List.length_append] at a; omega
 clear hb1 HR1 eV
 obtain ⟨X0, eX0⟩ : ∃ X, bs ++ encV 7 = X := ⟨_, rfl⟩
 rw [eX0] at HN1 HC1
 have HX0 := zH eX0
 clear eX0 H1
 go_wp2
 go_loopw [0, 8, 62] (fun u0 _ u62 wr => ∃ (j : Nat) (xs : List UInt8) (A' : Option Addr) (n' c' : Nat), u62 = .int .i64 j ∧ j ≤ ks.length ∧ u0 = .slice A' n' c' ∧ n' ≤ c' ∧ n' ≤ n1 + (zBg ((ks : List S25).take j)).length ∧ Hid (xs.length = n') ∧ Hid (xs = X0 ++ zBg ((ks : List S25).take j)) ∧ Hid ((Kd.int .u8).C wr A' xs.length (bys xs)) ∧ Hid (Below w.heap.size w wr)) (fun _ _ u62 _ => ks.length - (intOf u62).toNat)
 case atStart => exact ⟨0, X0, A1, n1, c1, rfl, Nat.zero_le _, rfl, hc1, by simp [zBg], HN1, zH (by simp [zBg]), HC1, HB1⟩
 case round =>
  clear HB1 HC1 HN1 hc1
  obtain ⟨j, xs, A', n', c', rfl, hj, rfl, hc', hn', HNx, HXx, HCx, HBx⟩ := hrel
  by_cases hlj : j < ks.length
  ·have hltI : (j : Int) < (ks.length : Int) := by omega
   obtain ⟨ad, B3, e3, B4, e4, rfl, hMk, k0, k1, k2, k3, k4⟩ := HM.out.kid j hlj
   simp only at k0 k1 k2 k3 k4 hMk
   have k0 := zAf HBx.out k0
   have k1 := zAf HBx.out k1
   have k2 := zAf HBx.out k2
   have k3 := zAf HBx.out k3
   have k4 := zAf HBx.out k4
   have hmem : ks.getD j z25 ∈ ks := by simp [List.getD_eq_getElem?_getD, hlj]
   have hsmall : zAv (ks.getD j z25) < zAv ⟨7, ⟨#[]⟩, ⟨#[]⟩, [], ks⟩ := zCf ⟨7, ⟨#[]⟩, ⟨#[]⟩, [], ks⟩ _ hmem
   have hokk := zFn hk hmem
   have HT := zH (zDo hlj)
   have hle := zGf hlj
   obtain ⟨kid, ek⟩ : ∃ kid, ks.getD j z25 = kid := ⟨_, rfl⟩
   rw [ek] at hMk k0 k1 k2 k3 k4 hsmall hokk HT hle
   have HMk := zH hMk
   have HOK := zH hokk
   clear ek hmem hMk hokk
   obtain ⟨V2, eV2⟩ : ∃ V2, V2 = wr.alloc (.cells #[.int .i64 kid.f0, .string kid.f1, .string kid.f2, .slice B3 kid.f3.length e3, .slice B4 kid.f4.length e4] 25) := ⟨_, rfl⟩
   have hBV2 : Below wr.heap.size wr V2 := eV2 ▸ zAc (Below.refl _ _) _
   have HBV2 := zH (zAe HBx.out hBV2)
   have HCV2 := zH (Kd.C_below HCx.out hBV2)
   clear hBV2
   go_wp2_with fail
   rw [← eV2]
   (with_reducible refine (IH.out kid (by omega) HOK.out (by omega) A' n' c' xs B3 e3 B4 e4 V2 HNx.out hc' (by omega) HCV2.out (HMk.out.below HBV2.out)).mono ?_)
   rintro e w5 ⟨A5, n5, c5, rfl, HN5, hc5, HC5, hb5⟩
   have HB5 := zH (zAe HBV2.out hb5)
   have hn5 : n5 ≤ n' + (encM kid).length := by have a := HN5.out; have b := HNx.out; rw [List.length_append] at a; omega
   have HX5 := zH (show xs ++ encM kid = X0 ++ zBg (ks.take (j + 1)) from by rw [HXx.out, HT.out, List.append_assoc])
   have HL5 := zH (show (zBg (ks.take (j + 1))).length = (zBg (ks.take j)).length + (encM kid).length from by rw [HT.out, List.length_append])
   clear hb5 eV2 k0 k1 k2 k3 k4
   go_wp2
   go_roundw
   case rel => exact ⟨j + 1, _, A5, n5, c5, by go_num, by omega, rfl, hc5, by have := HL5.out; omega, HN5, HX5, HC5, HB5⟩
   case measure => simp [intOf]; omega
  obtain rfl : j = ks.length := by omega
  have HXf := zH (show xs = bs ++ encM ⟨7, ⟨#[]⟩, ⟨#[]⟩, [], ks⟩ from by rw [HXx.out, ← HX0.out, HE.out, List.take_length]; simp)
  rw [HXf.out] at HNx HCx
  go_wp2
  go_ret
  exact ⟨A', n', c', rfl, HNx, hc', HCx, HBx.out⟩
end Go.Proofs.Yteafilojjdfllaa
end
section
namespace Go.Proofs.Yteafilojjdfllaa
open Go Go.Proofs.Yteafilojjdfllaa.PAll
theorem encT_le {s : ByteArray} (h : s.size ≤ 1000000) : (encT s.data.toList).length ≤ 10 + s.size := by
 unfold encT
 have e0 : s.data.toList.length = s.size := by simp
 have h0 := zBc (v := s.data.toList.length) (by omega)
 simp only [List.length_append]
 omega
theorem encTs_le : ∀ (vs : List ByteArray), (∀ x ∈ vs, x.size ≤ 64) → (vs.flatMap (fun x => encT x.data.toList)).length ≤ 10 * vs.length + sizes vs
 | [], _ => by simp
 | x :: vs, h => by
  have h1 := encT_le (s := x) (by have := h x (List.mem_cons_self ..); omega)
  have h2 := encTs_le vs (fun y hy => h y (List.mem_cons_of_mem _ hy))
  rw [List.flatMap_cons, List.length_append, List.length_cons, sizes]
  omega
theorem encML_len (N : Nat) (ih : ∀ m : S25, zAv m ≤ N → okM m = true → (encM m).length ≤ zBy m + 200 * zAv m) : ∀ (ks : List S25), zBd ks ≤ N → okL ks = true → (zBg ks).length ≤ zBr ks + 200 * zBd ks
 | [], _, _ => by simp [zBg]
 | k :: ks, hN, hok => by
  rw [okL, Bool.and_eq_true] at hok
  rw [zBd] at hN
  have h1 := ih k (by omega) hok.1
  have h2 := encML_len N ih ks (by omega) hok.2
  rw [zBg, List.length_append, zBr, zBd]
  omega
theorem encM_len : ∀ (N : Nat) (m : S25), zAv m ≤ N → okM m = true → zAv m ≤ 1000000 → (encM m).length ≤ zBy m + 200 * zAv m
 | 0, m, h, _, _ => by rw [zAz] at h; omega
 | N + 1, m, hN, hok, hM => by
  have hz := zCc hok
  have hn := zAz m
  have hb := zFh m
  have ten : ∀ v : Nat, v < 1000000 → (encV v).length ≤ 10 := fun v hv => zBc (by omega)
  rcases shape hok with rfl | ⟨op, n, v, ho, -, rfl⟩ | ⟨n, vs, -, rfl⟩ | ⟨op, ks, ho, hk, rfl⟩
  ·rw [encM_0, List.length_append]
   have := ten 0 (by omega)
   simp only [zBg, List.length_nil]
   omega
  ·have h1 := hz.1 ho
   simp only [Array.length_toList] at h1
   have e1 := encT_le (s := n) (by have := h1.1; simp only [ByteArray.size]; omega)
   have e2 := encT_le (s := v) (by have := h1.2; simp only [ByteArray.size]; omega)
   simp only at hb hn
   rcases ho with rfl | rfl | rfl
   ·rw [encM_1]; simp only [List.length_append]; have := ten 1 (by omega); omega
   ·rw [encM_2]; simp only [List.length_append]; have := ten 2 (by omega); omega
   ·rw [encM_3]; simp only [List.length_append]; have := ten 3 (by omega); omega
  ·have h1 := hz.2 rfl
   simp only [Array.length_toList] at h1
   have e1 := encT_le (s := n) (by have := h1.1; simp only [ByteArray.size]; omega)
   have e2 := encTs_le vs h1.2.2
   have e3 := h1.2.1
   simp only at hb hn
   rw [encM_4]
   simp only [List.length_append]
   have := ten 4 (by omega)
   have := ten vs.length (by omega)
   omega
  ·simp only at hb hn
   have hks := zDd ks
   have e1 := encML_len (min N 1000000) (fun m h1 h2 => encM_len N m (by omega) h2 (by omega)) ks (by omega) hk
   have := ten ks.length (by omega)
   rcases ho with rfl | rfl | rfl
   ·rw [encM_5]; simp only [List.length_append]; have := ten 5 (by omega); omega
   ·rw [encM_6]; simp only [List.length_append]; have := ten 6 (by omega); omega
   ·rw [encM_7]; simp only [List.length_append]; have := ten 7 (by omega); omega
theorem zFd {m : S25} (h : chkB m = true) : (encM m).length ≤ 17000 := by
 have h2 := chk_def.1 h
 have h3 := encM_len 64 m (by omega) h2.1 (by omega)
 omega
end Go.Proofs.Yteafilojjdfllaa
end
section
namespace Go.Proofs.Yteafilojjdfllaa.PAll
open Go.RowKit Go.Proofs.YteafilojjdfllaaW.PrintWords Go.Proofs.YteafilojjdfllaaW.PrintLast Go.Proofs.YteafilojjdfllaaW.PrintMore
section
attribute [local go_sem] zCx zCv zDm zDl zCj zCi zCw zCu   -- for this text's walks alone
set_option linter.unusedVariables false
set_option linter.unusedSimpArgs false
-- NOT PRINTED: function 106 (match_room_holds)
-- NOT PRINTED: function 53 (match_Check)
def tomb_Aligned.f (a0 : Int) (a1 : Int) : Option (Bool) := if a0 ≥ 0 then (if a0 < a1 then (if a1 ≤ 1099511634240 then (if (Int.tmod a0 8640) = 0 then (some ((Int.tmod a1 8640) == 0)) else (some false)) else (some false)) else (some false)) else (some false)
theorem tomb_Aligned.calls (a0 : Int) (a1 : Int) (r : Bool) (w : World) (h : tomb_Aligned.f a0 a1 = some r) :
  Calls Try.prog 97 #[.int .i64 a0, .int .i64 a1] w fun e w' => e = .returned (.bool r) ∧ Drawn0 w w' := by
 have H : (if a0 ≥ 0 then (if a0 < a1 then (if a1 ≤ 1099511634240 then (if (Int.tmod a0 8640) = 0 then (some ((Int.tmod a1 8640) == 0)) else (some false)) else (some false)) else (some false)) else (some false)) = some r := h
 clear h
 by_cases c3 : a0 ≥ 0
 ·rw [if_pos c3] at H
  have c3b0 : decide (0 ≤ a0) = true := zT c3
  clear c3
  by_cases c4 : a0 < a1
  ·rw [if_pos c4] at H
   have c4b0 : decide (a0 < a1) = true := zT c4
   clear c4
   by_cases c5 : a1 ≤ 1099511634240
   ·rw [if_pos c5] at H
    have c5b0 : decide (a1 ≤ 1099511634240) = true := zT c5
    clear c5
    by_cases c6 : (Int.tmod a0 8640) = 0
    ·rw [if_pos c6] at H
     have c6b0 : ((Int.tmod a0 8640) == 0) = true := beq_iff_eq.mpr c6
     have c6b1 : ((Int.tmod a0 8640) != 0) = false := bne_eq_false_iff_eq.mpr c6
     clear c6
     obtain rfl := Option.some.inj H
     go_enter Try.func97, Try.ntmps97
     go_wp2
     go_ret
     exact ⟨by first | rfl | (simp; done) | (simp [*]; done), by repeat (first | exact Drawn0.refl _ | apply Drawn0.step)⟩
    rw [if_neg c6] at H
    have c6b0 : ((Int.tmod a0 8640) == 0) = false := beq_eq_false_iff_ne.mpr c6
    have c6b1 : ((Int.tmod a0 8640) != 0) = true := bne_iff_ne.mpr c6
    obtain rfl := Option.some.inj H
    go_enter Try.func97, Try.ntmps97
    go_wp2
    go_ret
    exact ⟨by first | rfl | (simp; done) | (simp [*]; done), by repeat (first | exact Drawn0.refl _ | apply Drawn0.step)⟩
   rw [if_neg c5] at H
   have c5b0 : decide (a1 ≤ 1099511634240) = false := zF c5
   clear c5
   obtain rfl := Option.some.inj H
   go_enter Try.func97, Try.ntmps97
   go_wp2
   go_ret
   exact ⟨by first | rfl | (simp; done) | (simp [*]; done), by repeat (first | exact Drawn0.refl _ | apply Drawn0.step)⟩
  rw [if_neg c4] at H
  have c4b0 : decide (a0 < a1) = false := zF c4
  clear c4
  obtain rfl := Option.some.inj H
  go_enter Try.func97, Try.ntmps97
  go_wp2
  go_ret
  exact ⟨by first | rfl | (simp; done) | (simp [*]; done), by repeat (first | exact Drawn0.refl _ | apply Drawn0.step)⟩
 rw [if_neg c3] at H
 have c3b0 : decide (0 ≤ a0) = false := zF c3
 clear c3
 obtain rfl := Option.some.inj H
 go_enter Try.func97, Try.ntmps97
 go_wp2
 go_ret
 exact ⟨by first | rfl | (simp; done) | (simp [*]; done), by repeat (first | exact Drawn0.refl _ | apply Drawn0.step)⟩
-- NOT PRINTED: function 33 (tomb_Check)
end
end Go.Proofs.Yteafilojjdfllaa.PAll
end
section
namespace Go.Proofs.Yteafilojjdfllaa
open Go Go.RowKit Go.Proofs.YteafilojjdfllaaW.PrintWords Go.Proofs.YteafilojjdfllaaW.PrintLast Go.Proofs.YteafilojjdfllaaW.PrintMore Go.Proofs.Yteafilojjdfllaa.PAll
def alignB (a b : Int) : Bool := decide (0 ≤ a ∧ a < b ∧ b ≤ 1099511634240 ∧ Int.tmod a 8640 = 0 ∧ Int.tmod b 8640 = 0)
theorem aligned97 (w : World) (a b : Int) (v : Bool) (hv : alignB a b = v) : Calls Try.prog 97 #[.int .i64 a, .int .i64 b] w fun e w' => e = .returned (.bool v) ∧ Below w.heap.size w w' := by
 refine (tomb_Aligned.calls a b v w ?_).mono fun _ _ h => ⟨h.1, h.2.below⟩
 rw [← hv]
 unfold tomb_Aligned.f alignB
 by_cases h1 : 0 ≤ a
 ·rw [if_pos h1]
  by_cases h2 : a < b
  ·rw [if_pos h2]
   by_cases h3 : b ≤ 1099511634240
   ·rw [if_pos h3]
    by_cases h4 : Int.tmod a 8640 = 0
    ·rw [if_pos h4]
     congr 1
     rw [Bool.eq_iff_iff, beq_iff_eq, decide_eq_true_iff]
     exact ⟨fun h => ⟨h1, h2, h3, h4, h⟩, fun h => h.2.2.2.2⟩
    rw [if_neg h4, zF (fun h => h4 h.2.2.2.1)]
   rw [if_neg h3, zF (fun h => h3 h.2.2.1)]
  rw [if_neg h2, zF (fun h => h2 h.2.1)]
 rw [if_neg h1, zF (fun h => h1 h.1)]
def zCr (s a b : Int) (m : S25) : Bool := decide (1 ≤ s ∧ s ≤ 1099511627776) && alignB a b && chkB m
theorem zIo (w : World) (s a b : Int) (m : S25) (A3 : Option Addr) (c3 : Nat) (A4 : Option Addr) (c4 : Nat) (hM : MC w m A3 c3 A4 c4) :
  Calls Try.prog 33 #[.agg #[.int .i64 s, .int .i64 m.f0, .string m.f1, .string m.f2, .slice A3 m.f3.length c3, .slice A4 m.f4.length c4, .int .i64 a, .int .i64 b]] w fun e w' => e = .returned (.bool (zCr s a b m)) ∧ Below w.heap.size w w' := by
 have hB0 : Below w.heap.size w (w.alloc (.cells #[.int .i64 s, .int .i64 m.f0, .string m.f1, .string m.f2, .slice A3 m.f3.length c3, .slice A4 m.f4.length c4, .int .i64 a, .int .i64 b] 27)) := zAc (Below.refl _ _) _
 have hX0 := zAs w (.cells #[.int .i64 s, .int .i64 m.f0, .string m.f1, .string m.f2, .slice A3 m.f3.length c3, .slice A4 m.f4.length c4, .int .i64 a, .int .i64 b] 27)
 by_cases h1 : 1 ≤ s
 ·by_cases h2 : s ≤ 1099511627776
  ·cases h3 : alignB a b with
   | false =>
    have hr : zCr s a b m = false := by unfold zCr; rw [h3, Bool.and_false, Bool.false_and]
    have H3 := zH h3
    rw [hr]
    clear h3 hr
    go_enter Try.func33, Try.ntmps33
    go_wp2_with fail
    (with_reducible refine (aligned97 _ a b false H3.out).mono ?_)
    rintro e w1 ⟨rfl, hb1⟩
    go_wp2_with fail
    go_ret
    exact ⟨rfl, zAe hB0 hb1⟩
   | true =>
   have hr : zCr s a b m = chkB m := by unfold zCr; rw [h3, zT (And.intro h1 h2)]; simp
   have H3 := zH h3
   have Hr := zH hr
   clear h3 hr
   go_enter Try.func33, Try.ntmps33
   go_wp2_with fail
   (with_reducible refine (aligned97 _ a b true H3.out).mono ?_)
   rintro e w1 ⟨rfl, hb1⟩
   have hX1 := (hb1.block w.heap.size (by simp)).trans hX0
   have x1 := zAb hX1 1
   have x2 := zAb hX1 2
   have x3 := zAb hX1 3
   have x4 := zAb hX1 4
   have x5 := zAb hX1 5
   simp only [zC, zA, zB] at x1 x2 x3 x4 x5
   go_wp2_with fail
   (with_reducible refine (check53 _ m A3 c3 A4 c4 (hM.below (zAe hB0 hb1))).mono ?_)
   rintro e w2 ⟨rfl, hb2⟩
   go_wp2_with fail
   go_ret
   exact ⟨by rw [Hr.out]; rfl, zAe (zAe hB0 hb1) hb2⟩
  have hr : zCr s a b m = false := by unfold zCr; rw [zF (fun h => h2 h.2)]; simp
  rw [hr]
  go_enter Try.func33, Try.ntmps33
  go_wp2_with fail
  go_ret
  exact ⟨rfl, hB0⟩
 have hr : zCr s a b m = false := by unfold zCr; rw [zF (fun h => h1 h.1)]; simp
 rw [hr]
 go_enter Try.func33, Try.ntmps33
 go_wp2_with fail
 go_ret
 exact ⟨rfl, hB0⟩
end Go.Proofs.Yteafilojjdfllaa
end
section
namespace Go.Proofs.Yteafilojjdfllaa
open Go Go.Proofs.Yteafilojjdfllaa.PAll
def zFz (t : S27) : List UInt8 := encV (zig t.f0) ++ (encV (zig t.f2) ++ (encV (zig t.f3) ++ encM t.f1))
def zHv (l : List S27) : List UInt8 := encV l.length ++ l.flatMap zFz
def decI (r : List UInt8) : Option (Int × List UInt8) := (decV 0 0 r).map (fun q => (zag q.1, q.2))
def zGb (r : List UInt8) : Option (S25 × List UInt8) := ((decM 8 64 r).filter (fun q => chkB q.1)).map (fun q => (q.1, q.2.2))
def zFo (r : List UInt8) : Option (S27 × List UInt8) := match decI r with
 | none => none
 | some (s, r1) => match decI r1 with
  | none => none
  | some (a, r2) => match decI r2 with
   | none => none
   | some (b, r3) => match zGb r3 with
    | none => none
    | some (m, r4) => if zCr s a b m = true then some (⟨s, m, a, b⟩, r4) else none
def behind (l : List S27) (s : Int) : Bool := match l.getLast? with
 | none => true
 | some t => decide (t.f0 < s)
def zDz : Nat → List S27 → List UInt8 → Option (List S27 × List UInt8)
 | 0, l, r => some (l, r)
 | k + 1, l, r => match zFo r with
  | none => none
  | some (t, r1) => if behind l t.f0 = true then zDz k (l ++ [t]) r1 else none
def decTL (r : List UInt8) : Option (List S27 × List UInt8) := match decV 0 0 r with
 | none => none
 | some (k, r1) => if k ≤ 64 then zDz k [] r1 else none
def zFq (bs : List UInt8) (i : Int) : Option (List S27 × List UInt8) := if i < 0 then none else decTL (bs.drop i.toNat)
def zIf : List S27 → List S27 → Bool
 | _, [] => true
 | l, t :: r => zCr t.f0 t.f2 t.f3 t.f1 && (behind l t.f0 && zIf (l ++ [t]) r)
def mayB (l : List S27) : Bool := decide (l.length ≤ 64) && zIf [] l
theorem zFt {v : Int} (h0 : -9223372036854775808 ≤ v) (h1 : v ≤ 9223372036854775807) : zig v < 2 ^ 64 := by unfold zig; split <;> omega
theorem tombB_iff {s a b : Int} {m : S25} : zCr s a b m = true ↔ (1 ≤ s ∧ s ≤ 1099511627776) ∧ (0 ≤ a ∧ a < b ∧ b ≤ 1099511634240 ∧ Int.tmod a 8640 = 0 ∧ Int.tmod b 8640 = 0) ∧ chkB m = true := by
 unfold zCr alignB
 rw [Bool.and_eq_true, Bool.and_eq_true, decide_eq_true_iff, decide_eq_true_iff]
 exact ⟨fun ⟨⟨h1, h2⟩, h3⟩ => ⟨h1, h2, h3⟩, fun ⟨h1, h2, h3⟩ => ⟨⟨h1, h2⟩, h3⟩⟩
theorem decI_enc (v : Int) (h0 : -9223372036854775808 ≤ v) (h1 : v ≤ 9223372036854775807) (t : List UInt8) : decI (encV (zig v) ++ t) = some (v, t) := by
 unfold decI
 rw [zDs _ (zFt h0 h1), Option.map_some, zag_zig]
theorem decMt_enc {m : S25} (h : chkB m = true) (t : List UInt8) : zGb (encM m ++ t) = some (m, t) := by
 obtain ⟨h1, h2, h3, h4⟩ := chk_def.1 h
 unfold zGb
 rw [decM_enc (zAv m) m 8 64 t (Nat.le_refl _) h1 (by omega) (by omega) (by omega)]
 simp [Option.filter, h]
theorem decT1_enc {x : S27} (h : zCr x.f0 x.f2 x.f3 x.f1 = true) (t : List UInt8) : zFo (zFz x ++ t) = some (x, t) := by
 obtain ⟨⟨h1, h2⟩, ⟨h3, h4, h5, -, -⟩, h6⟩ := tombB_iff.1 h
 unfold zFo zFz
 rw [List.append_assoc, decI_enc _ (by omega) (by omega)]
 simp only
 rw [List.append_assoc, decI_enc _ (by omega) (by omega)]
 simp only
 rw [List.append_assoc, decI_enc _ (by omega) (by omega)]
 simp only
 rw [decMt_enc h6]
 simp only
 rw [if_pos h]
theorem decTn_enc (t : List UInt8) : ∀ (r l : List S27), zIf l r = true → zDz r.length l (r.flatMap zFz ++ t) = some (l ++ r, t)
 | [], l, _ => by simp [zDz]
 | x :: r, l, h => by
  rw [zIf, Bool.and_eq_true, Bool.and_eq_true] at h
  rw [List.length_cons, zDz, List.flatMap_cons, List.append_assoc, decT1_enc h.1]
  simp only
  rw [if_pos h.2.1, decTn_enc t r (l ++ [x]) h.2.2]
  simp
theorem decTL_enc {l : List S27} (h : mayB l = true) (t : List UInt8) : decTL (zHv l ++ t) = some (l, t) := by
 unfold mayB at h
 rw [Bool.and_eq_true, decide_eq_true_iff] at h
 unfold decTL zHv
 rw [List.append_assoc, zDs _ (by omega)]
 simp only
 rw [if_pos h.1, decTn_enc t l [] h.2]
 simp
theorem tombs_back {bs : List UInt8} {l : List S27} {n : Nat} (hn : bs.length = n) (h : mayB l = true) : zFq (bs ++ zHv l) (n : Int) = some (l, []) := by
 unfold zFq
 rw [if_neg (by omega), Int.toNat_natCast, ← hn, List.drop_left]
 have := decTL_enc h []
 rwa [List.append_nil] at this
theorem rise_mem : ∀ (r l : List S27), zIf l r = true → ∀ x ∈ r, zCr x.f0 x.f2 x.f3 x.f1 = true
 | x :: r, l, h, y, hy => by
  rw [zIf, Bool.and_eq_true, Bool.and_eq_true] at h
  rcases List.mem_cons.1 hy with rfl | hy
  ·exact h.1
  ·exact rise_mem r _ h.2.2 y hy
theorem zJe {x : S27} (h : zCr x.f0 x.f2 x.f3 x.f1 = true) : (zFz x).length ≤ 17030 := by
 obtain ⟨⟨h1, h2⟩, ⟨h3, h4, h5, -, -⟩, h6⟩ := tombB_iff.1 h
 have a := zBc (v := zig x.f0) (zFt (by omega) (by omega))
 have b := zBc (v := zig x.f2) (zFt (by omega) (by omega))
 have c := zBc (v := zig x.f3) (zFt (by omega) (by omega))
 have d := zFd h6
 unfold zFz
 simp only [List.length_append]
 omega
theorem encTLs_len : ∀ (l : List S27), (∀ x ∈ l, zCr x.f0 x.f2 x.f3 x.f1 = true) → (l.flatMap zFz).length ≤ 17030 * l.length
 | [], _ => by simp
 | x :: l, h => by
  have h1 := zJe (h x (List.mem_cons_self ..))
  have h2 := encTLs_len l (fun y hy => h y (List.mem_cons_of_mem _ hy))
  rw [List.flatMap_cons, List.length_append, List.length_cons]
  omega
theorem encTL_len {l : List S27} (h : mayB l = true) : (zHv l).length ≤ 1100000 := by
 unfold mayB at h
 rw [Bool.and_eq_true, decide_eq_true_iff] at h
 have h1 := encTLs_len l (rise_mem l [] h.2)
 have h2 := zBc (v := l.length) (by omega)
 unfold zHv
 rw [List.length_append]
 omega
theorem take_tb {l : List S27} {j : Nat} (hj : j < l.length) (x : S27) (ex : l.getD j z27 = x) : (l.take (j + 1)).flatMap zFz = (l.take j).flatMap zFz ++ zFz x := by
 rw [List.take_succ_eq_append_getElem hj, List.flatMap_append]
 rw [List.getD_eq_getElem?_getD, List.getElem?_eq_getElem hj, Option.getD_some] at ex
 rw [ex]
 simp
theorem decT1_ok {r t : List UInt8} {x : S27} (h : zFo r = some (x, t)) : zCr x.f0 x.f2 x.f3 x.f1 = true := by
 unfold zFo at h
 split at h
 ·cases h
 split at h
 ·cases h
 split at h
 ·cases h
 split at h
 ·cases h
 split at h
 ·next hb => simp only [Option.some.injEq, Prod.mk.injEq] at h; obtain ⟨rfl, rfl⟩ := h; exact hb
 cases h
theorem decTn_all : ∀ (k : Nat) (l : List S27) (r : List UInt8) (x : List S27) (t : List UInt8), zDz k l r = some (x, t) → (∀ y ∈ l, zCr y.f0 y.f2 y.f3 y.f1 = true) → (∀ y ∈ x, zCr y.f0 y.f2 y.f3 y.f1 = true) ∧ x.length = l.length + k
 | 0, l, r, x, t, h, hl => by
  rw [zDz] at h
  simp only [Option.some.injEq, Prod.mk.injEq] at h
  obtain ⟨rfl, rfl⟩ := h
  exact ⟨hl, rfl⟩
 | k + 1, l, r, x, t, h, hl => by
  rw [zDz] at h
  split at h
  ·cases h
  ·next y r1 h1 =>
   split at h
   ·have := decTn_all k _ _ _ _ h (fun z hz => by
     rcases List.mem_append.1 hz with hz | hz
     ·exact hl z hz
     ·rw [List.mem_singleton] at hz; subst hz; exact decT1_ok h1)
    refine ⟨this.1, ?_⟩
    have h2 := this.2
    rw [List.length_append, List.length_singleton] at h2
    omega
   ·cases h
theorem zGc {bs t : List UInt8} {i : Int} {x : List S27} (h : zFq bs i = some (x, t)) : (∀ y ∈ x, zCr y.f0 y.f2 y.f3 y.f1 = true) ∧ x.length ≤ 64 := by
 unfold zFq decTL at h
 split at h
 ·cases h
 split at h
 ·cases h
 split at h
 ·next hk =>
  have := decTn_all _ _ _ _ _ h (fun y hy => by cases hy)
  simp only [List.length_nil] at this
  exact ⟨this.1, by omega⟩
 cases h
theorem zEj {r t : List UInt8} {v : Int} (h : decI r = some (v, t)) : t <:+ r := by
 unfold decI at h
 rw [Option.map_eq_some_iff] at h
 obtain ⟨q, hq, e⟩ := h
 simp only [Prod.mk.injEq] at e
 rw [← e.2]
 exact zCo _ _ _ hq
theorem decI_len {r t : List UInt8} {v : Int} (h : decI r = some (v, t)) : t.length < r.length := by
 unfold decI at h
 rw [Option.map_eq_some_iff] at h
 obtain ⟨q, hq, e⟩ := h
 simp only [Prod.mk.injEq] at e
 rw [← e.2]
 exact (zHc hq).2
theorem zJj {r t : List UInt8} {m : S25} (h : zGb r = some (m, t)) : t <:+ r := by
 unfold zGb at h
 rw [Option.map_eq_some_iff] at h
 obtain ⟨q, hq, e⟩ := h
 simp only [Prod.mk.injEq] at e
 rw [← e.2]
 exact zEv _ _ _ _ _ _ (Option.filter_eq_some_iff.1 hq).1
theorem decMt_len {r t : List UInt8} {m : S25} (h : zGb r = some (m, t)) : t.length < r.length := by
 unfold zGb at h
 rw [Option.map_eq_some_iff] at h
 obtain ⟨q, hq, e⟩ := h
 simp only [Prod.mk.injEq] at e
 rw [← e.2]
 exact (zEi _ _ _ _ _ _ (Option.filter_eq_some_iff.1 hq).1).1
theorem decT1_len {r t : List UInt8} {x : S27} (h : zFo r = some (x, t)) : t.length < r.length ∧ t <:+ r := by
 unfold zFo at h
 split at h
 ·cases h
 next s r1 h1 =>
 split at h
 ·cases h
 next a r2 h2 =>
 split at h
 ·cases h
 next b r3 h3 =>
 split at h
 ·cases h
 next m r4 h4 =>
 split at h
 ·simp only [Option.some.injEq, Prod.mk.injEq] at h
  obtain ⟨rfl, rfl⟩ := h
  have a1 := decI_len h1
  have a2 := decI_len h2
  have a3 := decI_len h3
  have a4 := decMt_len h4
  exact ⟨by omega, (((zJj h4).trans (zEj h3)).trans (zEj h2)).trans (zEj h1)⟩
 cases h
theorem zJi : ∀ (k : Nat) (l : List S27) (r : List UInt8), r.length < k → zDz k l r = none
 | 0, _, _, h => absurd h (Nat.not_lt_zero _)
 | k + 1, l, r, h => by
  rw [zDz]
  cases h1 : zFo r with
  | none => rfl
  | some q =>
   have := (decT1_len (x := q.1) (t := q.2) h1).1
   simp only
   split
   ·exact zJi k _ _ (by omega)
   ·rfl
theorem mat_at {bs r : List UInt8} {j : Nat} (hr : bs.drop j = r) : matW bs (j : Int) = zGb r := by
 unfold matW zGb
 rw [if_neg (by omega), Int.toNat_natCast, hr]
end Go.Proofs.Yteafilojjdfllaa
end
section
namespace Go.Proofs.Yteafilojjdfllaa
open Go Go.RowKit Go.Proofs.YteafilojjdfllaaW.PrintWords Go.Proofs.YteafilojjdfllaaW.PrintLast Go.Proofs.YteafilojjdfllaaW.PrintMore Go.Proofs.Yteafilojjdfllaa.PAll
theorem nat_xor_ones (a : Nat) (h : a < 18446744073709551616) : a ^^^ 18446744073709551615 = 18446744073709551615 - a := by
 have := congrArg BitVec.toNat (BitVec.xor_allOnes (x := BitVec.ofNat 64 a))
 simpa [BitVec.toNat_not, Nat.mod_eq_of_lt h] using this
theorem zig_neg {v : Int} (hv0 : -9223372036854775808 ≤ v) (hv : v < 0) : bits BinOp.xor IntKind.u64 (IntKind.u64.wrap (IntKind.u64.wrap v * 2)) (IntKind.u64.wrap (v / 9223372036854775808)) = ((zig v : Nat) : Int) := by
 have e1 : IntKind.u64.wrap (IntKind.u64.wrap v * 2) = 2 * v + 18446744073709551616 := by rw [IntKind.wrap_u64, IntKind.wrap_u64]; omega
 have e2 : IntKind.u64.wrap (v / 9223372036854775808) = 18446744073709551615 := by rw [IntKind.wrap_u64]; omega
 rw [e1, e2, u64_xor _ _ (by omega) (by omega) (by omega) (by omega)]
 rw [show (18446744073709551615 : Int).toNat = 18446744073709551615 from rfl, nat_xor_ones _ (by omega)]
 unfold zig
 rw [if_pos hv]
 omega
theorem zig_pos {v : Int} (hv1 : v ≤ 9223372036854775807) (hv : ¬ v < 0) : bits BinOp.xor IntKind.u64 (v * 2) (v / 9223372036854775808) = ((zig v : Nat) : Int) := by
 have e2 : v / 9223372036854775808 = 0 := by omega
 rw [e2, u64_xor _ _ (by omega) (by omega) (by omega) (by omega)]
 unfold zig
 rw [if_neg hv]
 simp
theorem i64_xor_comm (a b : Int) : bits .xor .i64 a b = bits .xor .i64 b a := by
 show IntKind.i64.wrap ((BitVec.ofInt 64 a ^^^ BitVec.ofInt 64 b).toNat : Int) = IntKind.i64.wrap ((BitVec.ofInt 64 b ^^^ BitVec.ofInt 64 a).toNat : Int)
 rw [BitVec.xor_comm]
theorem i64_xor_zero (h : Nat) (hh : h < 9223372036854775808) : bits .xor .i64 (h : Int) 0 = (h : Int) := by
 show IntKind.i64.wrap ((BitVec.ofInt 64 (h : Int) ^^^ BitVec.ofInt 64 0).toNat : Int) = _
 have h0 : BitVec.ofInt 64 0 = 0#64 := by decide
 rw [h0, BitVec.xor_zero, ofInt_u64 h (by omega)]
 simp [IntKind.wrap, IntKind.bits, IntKind.signed]
 omega
theorem zag_bits {v : Nat} (hv : v < 18446744073709551616) : bits BinOp.xor IntKind.i64 ((v : Int) / 2) (wrap64 (-wrap64 (bits BinOp.and IntKind.u64 (v : Int) 1))) = zag v := by
 have e1 : bits BinOp.and IntKind.u64 (v : Int) 1 = ((v % 2 : Nat) : Int) := by
  rw [u64_and _ _ (by omega) (by omega) (by omega) (by omega)]
  simp [Nat.and_one_is_mod]
 have e2 : (v : Int) / 2 = ((v / 2 : Nat) : Int) := by omega
 rw [e1, e2]
 unfold zag
 by_cases h : v % 2 = 1
 ·rw [h, if_pos rfl, show wrap64 (-wrap64 ((1 : Nat) : Int)) = -1 by unfold wrap64; omega, i64_xor_comm, i64_not _ (by omega)]
  omega
 rw [show v % 2 = 0 by omega, if_neg (by decide), show wrap64 (-wrap64 ((0 : Nat) : Int)) = 0 by unfold wrap64; omega, i64_xor_zero _ (by omega)]
def getIntW (bs : List UInt8) (i : Int) : Option (Int × List UInt8) := (getW bs i).map fun q => (zag q.1, q.2)
def zJc (n : Nat) : Option (Int × List UInt8) → Value
 | none => .tuple #[.int .i64 0, .int .i64 0, .bool false]
 | some (v, r) => .tuple #[.int .i64 v, .int .i64 ((n : Int) - (r.length : Nat)), .bool true]
theorem getInt117 (w : World) (A : Option Addr) (n c : Nat) (bs : List UInt8) (at_ : Int) (hn : bs.length = n) (hl : n ≤ 1000000000000000) (hC : (Kd.int .u8).C w A bs.length (bys bs)) :
  Calls Try.prog 117 #[.slice A n c, .int .i64 at_] w fun e w' => e = .returned (zJc n (getIntW bs at_)) ∧ w' = w := by
 unfold getIntW
 cases hq : getW bs at_ with
 | none =>
  have h1 := zH (get116n w A n c bs at_ hq hn hl hC)
  have e1 : bits BinOp.xor IntKind.i64 0 (wrap64 (-wrap64 (bits BinOp.and IntKind.u64 0 1))) = 0 := zag_bits (v := 0) (by decide)
  go_enter Try.func117, Try.ntmps117
  go_wp2_with fail
  (with_reducible refine h1.out.mono ?_)
  rintro e w1 ⟨rfl, rfl⟩
  go_wp2
  go_ret3
  exact ⟨rfl, rfl⟩
 | some q =>
 obtain ⟨v, r⟩ := q
 obtain ⟨hp0, hp1, hp2, hp3, hp4⟩ := zCk hq
 obtain ⟨j, hj⟩ : ∃ j : Nat, (n : Int) - (r.length : Nat) = (j : Int) := ⟨n - r.length, by omega⟩
 have h1 := zH (get116y w A n c bs at_ v j r hq hj hn hl hC)
 have e1 := zag_bits hp4
 rw [show zJc n (Option.map (fun q => (zag q.1, q.2)) (some (v, r))) = .tuple #[.int .i64 (zag v), .int .i64 j, .bool true] from by simp only [Option.map_some, zJc, hj]]
 go_enter Try.func117, Try.ntmps117
 go_wp2_with fail
 (with_reducible refine h1.out.mono ?_)
 rintro e w1 ⟨rfl, rfl⟩
 go_wp2
 go_ret3
 exact ⟨rfl, rfl⟩
theorem rput119 (w : World) (v : Int) (hv0 : -9223372036854775808 ≤ v) (hv1 : v ≤ 9223372036854775807) : Calls Try.prog 119 #[.int .i64 v] w (PutPost w (encV (zig v))) := by
 have hz : zig v < 18446744073709551616 := by unfold zig; split <;> omega
 have h1 := zH (zDg w (zig v) hz)
 by_cases hv : v < 0
 ·have hw1 : wrap64 (v + 1) = v + 1 := by unfold wrap64; omega
  have hw2 : wrap64 (-(v + 1)) = -(v + 1) := by unfold wrap64; omega
  have hw3 : IntKind.u64.wrap (-(v + 1)) = -(v + 1) := by rw [IntKind.wrap_u64]; omega
  have hw4 : IntKind.u64.wrap (-(v + 1) * 2) = -(v + 1) * 2 := by rw [IntKind.wrap_u64]; omega
  have hw5 : IntKind.u64.wrap (-(v + 1) * 2 + 1) = ((zig v : Nat) : Int) := by
   rw [IntKind.wrap_u64]; unfold zig; rw [if_pos hv]; omega
  go_enter Try.func119, Try.ntmps119
  go_wp2_with fail
  (with_reducible refine h1.out.mono ?_)
  rintro e w1 ⟨A1, n1, c1, rfl, H⟩
  go_wp2
  go_ret
  exact ⟨A1, n1, c1, rfl, H⟩
 have hw4 : v * 2 = ((zig v : Nat) : Int) := by unfold zig; rw [if_neg hv]; omega
 go_enter Try.func119, Try.ntmps119
 go_wp2_with fail
 (with_reducible refine h1.out.mono ?_)
 rintro e w1 ⟨A1, n1, c1, rfl, H⟩
 go_wp2
 go_ret
 exact ⟨A1, n1, c1, rfl, H⟩
def BoxT (W : World) (g : Nat) (s o : Int) (t1 t2 : ByteArray) (v3 v4 : Value) (a b : Int) : Prop := W.heap[g]? = some (.cells #[.int .i64 s, .int .i64 o, .string t1, .string t2, v3, v4, .int .i64 a, .int .i64 b] 27 (0, 0))
theorem BoxT.below {w W : World} {g : Nat} {s o : Int} {t1 t2 : ByteArray} {v3 v4 : Value} {a b : Int} (h : BoxT w g s o t1 t2 v3 v4 a b) (hb : Below w.heap.size w W) : BoxT W g s o t1 t2 v3 v4 a b := by
 refine (hb.block g ?_).trans h
 have := Array.getElem?_eq_some_iff.1 h
 exact this.1
theorem BoxT.all {W : World} {g : Nat} {s o : Int} {t1 t2 : ByteArray} {v3 v4 : Value} {a b : Int} (h : BoxT W g s o t1 t2 v3 v4 a b) :
  W.cell? ⟨g, 0, none⟩ = some (.int .i64 s) ∧ W.cell? ⟨g, 1, none⟩ = some (.int .i64 o) ∧ W.cell? ⟨g, 2, none⟩ = some (.string t1) ∧ W.cell? ⟨g, 3, none⟩ = some (.string t2) ∧ W.cell? ⟨g, 4, none⟩ = some v3 ∧ W.cell? ⟨g, 5, none⟩ = some v4 ∧ W.cell? ⟨g, 6, none⟩ = some (.int .i64 a) ∧ W.cell? ⟨g, 7, none⟩ = some (.int .i64 b) :=
 ⟨(zAb h 0).trans rfl, (zAb h 1).trans rfl, (zAb h 2).trans rfl, (zAb h 3).trans rfl, (zAb h 4).trans rfl, (zAb h 5).trans rfl, (zAb h 6).trans rfl, (zAb h 7).trans rfl⟩
def BoxR (W : World) (g : Nat) (v0 : Value) (at_ : Int) (v2 v3 : Value) (u0 u1 u2 u3 : Int) : Prop := W.heap[g]? = some (.cells #[v0, .int .i64 at_, v2, v3, .int .u64 u0, .int .u64 u1, .int .u64 u2, .int .u64 u3] 37 (0, 0))
theorem BoxR.below {w W : World} {g : Nat} {v0 : Value} {at_ : Int} {v2 v3 : Value} {u0 u1 u2 u3 : Int} (h : BoxR w g v0 at_ v2 v3 u0 u1 u2 u3) (hb : Below w.heap.size w W) : BoxR W g v0 at_ v2 v3 u0 u1 u2 u3 := by
 refine (hb.block g ?_).trans h
 have := Array.getElem?_eq_some_iff.1 h
 exact this.1
theorem BoxR.all {W : World} {g : Nat} {v0 : Value} {at_ : Int} {v2 v3 : Value} {u0 u1 u2 u3 : Int} (h : BoxR W g v0 at_ v2 v3 u0 u1 u2 u3) :
  W.cell? ⟨g, 0, none⟩ = some v0 ∧ W.cell? ⟨g, 1, none⟩ = some (.int .i64 at_) ∧ W.cell? ⟨g, 2, none⟩ = some v2 ∧ W.cell? ⟨g, 3, none⟩ = some v3 ∧ W.cell? ⟨g, 4, none⟩ = some (.int .u64 u0) ∧ W.cell? ⟨g, 5, none⟩ = some (.int .u64 u1) ∧ W.cell? ⟨g, 6, none⟩ = some (.int .u64 u2) ∧ W.cell? ⟨g, 7, none⟩ = some (.int .u64 u3) :=
 ⟨(zAb h 0).trans rfl, (zAb h 1).trans rfl, (zAb h 2).trans rfl, (zAb h 3).trans rfl, (zAb h 4).trans rfl, (zAb h 5).trans rfl, (zAb h 6).trans rfl, (zAb h 7).trans rfl⟩
def coverB (t : S27) (r : S37) : Bool := decide (t.f2 ≤ r.f1) && decide (r.f1 < t.f3) && evalB r.f0 t.f1
theorem Covers37 (w : World) (t : S27) (r : S37) (A3 : Option Addr) (c3 : Nat) (A4 : Option Addr) (c4 : Nat) (A1 : Option Addr) (c1 : Nat) (A5 : Option Addr) (n5 c5 : Nat) (A6 : Option Addr) (n6 c6 : Nat) (v : Bool) (hv : coverB t r = v) (h1000 : zAv t.f1 ≤ 1000) (hM : MC w t.f1 A3 c3 A4 c4) (hl : r.f0.length ≤ 4000000000000000000) (h1 : r.f0.length ≤ c1) (g1 : Kd.C k68 w A1 r.f0.length r.f0) :
  Calls Try.prog 37 #[.agg #[.int .i64 t.f0, .int .i64 t.f1.f0, .string t.f1.f1, .string t.f1.f2, .slice A3 t.f1.f3.length c3, .slice A4 t.f1.f4.length c4, .int .i64 t.f2, .int .i64 t.f3], .agg #[.slice A1 r.f0.length c1, .int .i64 r.f1, .slice A5 n5 c5, .slice A6 n6 c6, .int .u64 r.f2.f2.f0, .int .u64 r.f2.f2.f1, .int .u64 r.f2.f2.f2, .int .u64 r.f2.f2.f3]] w fun e w' => e = .returned (.bool v) ∧ Below w.heap.size w w' := by
 obtain ⟨s, m, a, b⟩ := t
 obtain ⟨l, at_, ⟨bs, hs, ⟨u0, u1, u2, u3⟩⟩⟩ := r
 simp only at h1000 hM hl h1 g1 ⊢
 unfold coverB at hv
 simp only at hv
 have hB0 : Below w.heap.size w ((w.alloc (.cells #[.int .i64 s, .int .i64 m.f0, .string m.f1, .string m.f2, .slice A3 m.f3.length c3, .slice A4 m.f4.length c4, .int .i64 a, .int .i64 b] 27)).alloc (.cells #[.slice A1 l.length c1, .int .i64 at_, .slice A5 n5 c5, .slice A6 n6 c6, .int .u64 u0, .int .u64 u1, .int .u64 u2, .int .u64 u3] 37)) := zAc (zAc (Below.refl _ _) _) _
 have hM0 := hM.below hB0
 have G1 := zH (Kd.C_below g1 hB0)
 clear g1
 by_cases h2 : a ≤ at_
 ·by_cases h3 : at_ < b
  ·rw [zT h2, zT h3, Bool.true_and, Bool.true_and] at hv
   have Hv := zH hv
   clear hv
   go_enter Try.func37, Try.ntmps37
   go_wp2_with fail
   (with_reducible refine (Eval55 _ m A3 c3 A4 c4 A1 c1 l v Hv.out h1000 hM0 hl h1 G1.out).mono ?_)
   rintro e w1 ⟨rfl, hb1⟩
   go_wp2_with fail
   go_ret
   exact ⟨rfl, zAe hB0 hb1⟩
  rw [zF h3, Bool.and_false, Bool.false_and] at hv
  subst hv
  go_enter Try.func37, Try.ntmps37
  go_wp2_with fail
  go_ret
  exact ⟨rfl, hB0⟩
 rw [zF h2, Bool.false_and, Bool.false_and] at hv
 subst hv
 go_enter Try.func37, Try.ntmps37
 go_wp2_with fail
 go_ret
 exact ⟨rfl, hB0⟩
def AggPost {α : Type} (d : Kd α) (w : World) (x : α) (e : Ending) (w' : World) : Prop :=
 ∃ cs, e = .returned (.agg ⟨cs⟩) ∧ Kd.FK d w' (fun b => w.heap.size ≤ b ∧ b < w'.heap.size) x cs ∧ Below w.heap.size w w'
def sets (W : World) (g : Nat) (l : List (Nat × Value)) : World := l.foldl (fun W p => W.setCell ⟨g, p.1, none⟩ p.2) W
theorem heap_set (W : World) (i : Nat) (u : Value) {b g : Nat} (h : b ≠ g) : (W.setCell ⟨g, i, none⟩ u).heap[b]? = W.heap[b]? := Below.heap_setCell W ⟨g, i, none⟩ u b h
theorem heap_sets (g : Nat) : ∀ (l : List (Nat × Value)) (W : World) (b : Nat), b ≠ g → (sets W g l).heap[b]? = W.heap[b]?
 | [], _, _, _ => rfl
 | p :: l, W, b, h => (heap_sets g l (W.setCell ⟨g, p.1, none⟩ p.2) b h).trans (Below.heap_setCell W ⟨g, p.1, none⟩ p.2 b h)
theorem tomb34 (w : World) (s a b : Int) (m : S25) (A3 : Option Addr) (c3 : Nat) (A4 : Option Addr) (c4 : Nat) (ht : tinyP 0 m) (hM : MC w m A3 c3 A4 c4) :
  Calls Try.prog 34 #[.agg #[.int .i64 s, .int .i64 m.f0, .string m.f1, .string m.f2, .slice A3 m.f3.length c3, .slice A4 m.f4.length c4, .int .i64 a, .int .i64 b]] w (AggPost k27 w ⟨s, m, a, b⟩) := by
 have hB0 : Below w.heap.size w ((w.alloc (.cells #[.int .i64 s, .int .i64 m.f0, .string m.f1, .string m.f2, .slice A3 m.f3.length c3, .slice A4 m.f4.length c4, .int .i64 a, .int .i64 b] 27)).alloc (.cells #[.int .i64 0, .int .i64 0, .string ⟨#[]⟩, .string ⟨#[]⟩, .slice none 0 0, .slice none 0 0, .int .i64 0, .int .i64 0] 27)) := zAc (zAc (Below.refl _ _) _) _
 have hP0 := zAs (w.alloc (.cells #[.int .i64 s, .int .i64 m.f0, .string m.f1, .string m.f2, .slice A3 m.f3.length c3, .slice A4 m.f4.length c4, .int .i64 a, .int .i64 b] 27)) (.cells #[.int .i64 0, .int .i64 0, .string ⟨#[]⟩, .string ⟨#[]⟩, .slice none 0 0, .slice none 0 0, .int .i64 0, .int .i64 0] 27)
 rw [World.size_alloc] at hP0
 have hX0 : BoxT ((w.alloc (.cells #[.int .i64 s, .int .i64 m.f0, .string m.f1, .string m.f2, .slice A3 m.f3.length c3, .slice A4 m.f4.length c4, .int .i64 a, .int .i64 b] 27)).alloc (.cells #[.int .i64 0, .int .i64 0, .string ⟨#[]⟩, .string ⟨#[]⟩, .slice none 0 0, .slice none 0 0, .int .i64 0, .int .i64 0] 27)) w.heap.size s m.f0 m.f1 m.f2 (.slice A3 m.f3.length c3) (.slice A4 m.f4.length c4) a b :=
  (Below.heap_alloc _ _ _ (by simp)).trans (zAs w _)
 have hM0 := hM.below hB0
 go_enter Try.func34, Try.ntmps34
 go_wp2_with fail
 (with_reducible refine (matcher54 _ m A3 c3 A4 c4 ht hM0).mono ?_)
 rintro e w5 ⟨D3, f3, D4, f4, rfl, hMF, hB5⟩
 have hs5 := hB5.size
 simp only [World.size_alloc] at hs5
 have hP5 := (hB5.block (w.heap.size + 1) (by simp)).trans hP0
 have hX5 := hX0.below hB5
 have HMF := zH hMF
 have HB5 := zH (zAe hB0 hB5)
 obtain ⟨x0, x1, x2, x3, x4, x5, x6, x7⟩ := hX5.all
 have z1 := zAa hX5 1
 have z2 := zAa hX5 2
 have z3 := zAa hX5 3
 have z4 := zAa hX5 4
 have z5 := zAa hX5 5
 have d0 := zAb hP5 0
 have d1 := zAb hP5 1
 have d2 := zAb hP5 2
 have d3 := zAb hP5 3
 have d4 := zAb hP5 4
 have d5 := zAb hP5 5
 have d6 := zAb hP5 6
 have d7 := zAb hP5 7
 simp only [zC, zA, zB] at d0 d1 d2 d3 d4 d5 d6 d7
 have q0 := zAa hP5 0
 have q1 := zAa hP5 1
 have q2 := zAa hP5 2
 have q3 := zAa hP5 3
 have q4 := zAa hP5 4
 have q5 := zAa hP5 5
 have q6 := zAa hP5 6
 have q7 := zAa hP5 7
 clear hMF hB5 hP0 hX0 hB0 hM0
 go_wp2
 have f4' := zAn (zAn (zAn (zAn (zAn (zAn (zAn (zAn ((heap_sets w.heap.size [(1, .int .i64 m.f0), (2, .string m.f1), (3, .string m.f2), (4, .slice D3 m.f3.length f3), (5, .slice D4 m.f4.length f4)] w5 (w.heap.size + 1) (by omega)).trans hP5) 0 (.int .i64 s)) 1 (.int .i64 m.f0)) 2 (.string m.f1)) 3 (.string m.f2)) 4 (.slice D3 m.f3.length f3)) 5 (.slice D4 m.f4.length f4)) 6 (.int .i64 a)) 7 (.int .i64 b)
 simp [sets] at f4'
 refine bodyPost_ret (zAt rfl (.cell (w.heap.size + 1) 27 _ (0, 0) _ rfl f4' Try.underlying27 rfl (by kernel_rfl) .nil)) rfl ⟨_, rfl, fun X hX => ?_, ?_⟩
 ·obtain ⟨l4, g4, l5, g5⟩ := HMF.out X (fun b hb => by
   rw [hX b ⟨by have := hb.1; simp at this; omega, by simpa using hb.2⟩ (by simpa using hb.2)]
   have hb1 : b ≠ w.heap.size := by have := hb.1; simp at this; omega
   have hb2 : b ≠ w.heap.size + 1 := by have := hb.1; simp at this; omega
   repeat rw [heap_set _ _ _ hb2]
   repeat rw [heap_set _ _ _ hb1])
  exact k27_mk X ⟨s, m, a, b⟩ l4 g4 l5 g5
 (repeat refine Below.setCell ?_ (by simp) _); exact HB5.out
end Go.Proofs.Yteafilojjdfllaa
end
section
namespace Go.Proofs.Yteafilojjdfllaa
section
section
open Go Go.RowKit Go.Proofs.YteafilojjdfllaaW.PrintWords Go.Proofs.YteafilojjdfllaaW.PrintLast Go.Proofs.YteafilojjdfllaaW.PrintMore Go.Proofs.Yteafilojjdfllaa.PAll
theorem take_snoc {α : Type} (xs : List α) (z : α) (j : Nat) (h : j < xs.length) : xs.take (j + 1) = xs.take j ++ [xs.getD j z] := by
 rw [List.take_succ_eq_append_getElem h]; simp [List.getD_eq_getElem?_getD, h]
theorem zHb {α : Type} (xs : List α) (z : α) (j : Nat) (h : j < xs.length) : xs.getD j z ∈ xs := by simp [List.getD_eq_getElem?_getD, h]
def Made {α : Type} (d : Kd α) (xs : List α) (w : World) (e : Ending) (w' : World) : Prop :=
 (∃ D c, e = .returned (.slice D xs.length c) ∧ xs.length ≤ c ∧ d.C w' D xs.length xs) ∧ Below w.heap.size w w'
theorem zJb : (Try.prog.info? 27).map (fun i => (i.zero, i.size, i.bytes)) = some (some (.agg #[.int .i64 0, .int .i64 0, .string ⟨#[]⟩, .string ⟨#[]⟩, .slice none 0 0, .slice none 0 0, .int .i64 0, .int .i64 0]), 8, 112) := by kernel_rfl
theorem tombs42 (w : World) (xs : List S27) (A : Option Addr) (c : Nat) (hp : ∀ x ∈ xs, tinyP 0 x.f1) (hl : xs.length ≤ 1000) (hC : Kd.C k27 w A xs.length xs) :
  Calls Try.prog 42 #[.slice A xs.length c] w (Made k27 xs w) := by
 have HC := zH hC
 have HP := zH hp
 clear hC hp
 go_enter Try.func42, Try.ntmps42
 go_wp2
 go_loopw [3, 4] (fun u3 u4 wr => ∃ (j : Nat), u4 = .int .i64 j ∧ j ≤ xs.length ∧ Kd.N k27 27 wr w.heap.size (fun k => w.heap.size ≤ k) u3 (xs.take j) ∧ Below w.heap.size w wr)
  (fun _ u4 _ => xs.length - (intOf u4).toNat)
 case atStart => exact ⟨0, rfl, Nat.zero_le _, by simpa using Kd.N_nil k27 27 w w.heap.size (fun k => w.heap.size ≤ k), Below.refl _ _⟩
 case round =>
  obtain ⟨j, rfl, hj, hN, hB⟩ := hrel
  have hjl : (xs.take j).length = j := by simp; omega
  by_cases hlt : j < xs.length
  ·obtain ⟨ad, B3, e3, B4, e4, rfl, k0, k1, k2, k3, k4, k5, k6, k7, l3, g3, l4, g4⟩ := zFi (Kd.C_below HC.out hB) (j : Int) (by omega) (by omega)
   simp only [Int.toNat_natCast, show zAo xs (j : Int) = xs.getD j z27 by simp [zAo]] at k0 k1 k2 k3 k4 k5 k6 k7 l3 g3 l4 g4
   have Htake := zH (take_snoc xs z27 j hlt)
   have Hx := zH (HP.out _ (zHb xs z27 j hlt))
   obtain ⟨x, ex⟩ : ∃ x, xs.getD j z27 = x := ⟨_, rfl⟩
   rw [ex] at k0 k1 k2 k3 k4 k5 k6 k7 l3 g3 l4 g4 Htake Hx
   clear ex
   have hMC : MC wr x.f1 B3 e3 B4 e4 := ⟨l3, g3, l4, g4⟩
   obtain ⟨Au, cu, rfl⟩ := Kd.N_slice hN
   rw [hjl] at hN ⊢
   have HN := zH hN
   have hNlt := Kd.N_lt hN
   have HNlt := zH hNlt
   clear hN hNlt
   go_wp2_with (first | (go_at_call 34; (with_reducible refine (tomb34 _ x.f0 x.f2 x.f3 x.f1 B3 e3 B4 e4 Hx.out hMC).mono ?_); rintro e w5 ⟨cs, rfl, hFK, hB5⟩; obtain ⟨D3, d3, D4, d4, rfl, -, -, -, -⟩ := k27_open (Kd.FK_now hFK); have HFK := zH hFK; clear hFK) | (at_builtin; refine Kd.N_append k27 (w0 := w) (W := w5) w.heap.size rfl (.tmp 11) (.tmp 17) 45 27 (.agg #[.int .i64 0, .int .i64 0, .string ⟨#[]⟩, .string ⟨#[]⟩, .slice none 0 0, .slice none 0 0, .int .i64 0, .int .i64 0]) 112 rfl Try.underlying45 zJb rfl (by decide) (by decide) (.slice Au j cu) (xs.take j) x [.int .i64 x.f0, .int .i64 x.f1.f0, .string x.f1.f1, .string x.f1.f2, .slice D3 x.f1.f3.length d3, .slice D4 x.f1.f4.length d4, .int .i64 x.f2, .int .i64 x.f3] (fun k => w.heap.size ≤ k) (fun b => wr.heap.size ≤ b ∧ b < w5.heap.size) rfl rfl HFK.out (fun k hk => ⟨by have := hB.size; omega, fun e => by have := HNlt.out k e.symm; omega⟩) (fun k hk => by have := hB.size; have := hB5.size; omega) (Kd.N_below HN.out hB5) (zAe hB hB5) (by have := hB.size; have := hB5.size; omega) (by omega) ?_; intro v1 w2 hN2 hB2 hg2 hat2))
   go_roundw
   case rel => exact ⟨j + 1, by go_num, by omega, by rw [Htake.out]; exact hN2, hB2⟩
   case measure => simp [intOf]; omega
  obtain rfl : j = xs.length := by omega
  rw [List.take_length] at hN
  obtain ⟨D, d, rfl, hd, hD⟩ := Kd.N_reads hN
  go_wp2
  go_ret
  exact ⟨⟨D, d, rfl, hd, hD⟩, hB⟩
end
section
open Go Go.RowKit Go.Proofs.YteafilojjdfllaaW.PrintWords Go.Proofs.YteafilojjdfllaaW.PrintLast Go.Proofs.YteafilojjdfllaaW.PrintMore Go.Proofs.Yteafilojjdfllaa.PAll
def okT (l : List S27) : Prop := ∀ t ∈ l, tinyP 0 t.f1 ∧ chkB t.f1 = true
theorem small40 (w : World) (xs : List S27) (A : Option Addr) (c : Nat) (hC : Kd.C k27 w A xs.length xs) :
  Calls Try.prog 40 #[.slice A xs.length c] w fun e w' => (∃ v : Bool, e = .returned (.bool v) ∧ (v = true → xs.length ≤ 40 ∧ okT xs)) ∧ Below w.heap.size w w' := by
 have HC := zH hC
 clear hC
 by_cases hlen : (xs.length : Int) > 40
 ·go_enter Try.func40, Try.ntmps40
  go_wp2
  go_ret
  exact ⟨⟨false, rfl, fun h => by cases h⟩, Below.refl _ _⟩
 have hl : xs.length ≤ 40 := by omega
 go_enter Try.func40, Try.ntmps40
 go_wp2
 go_loopw [3] (fun u3 wr => ∃ (j : Nat), u3 = .int .i64 j ∧ j ≤ xs.length ∧ (∀ i, i < j → tinyP 0 (xs.getD i z27).f1 ∧ chkB (xs.getD i z27).f1 = true) ∧ Below w.heap.size w wr)
  (fun u3 _ => xs.length - (intOf u3).toNat)
 case atStart => exact ⟨0, rfl, Nat.zero_le _, fun i hi => absurd hi (Nat.not_lt_zero i), Below.refl _ _⟩
 case round =>
  obtain ⟨j, rfl, hj, hdone, hB⟩ := hrel
  have Hdone := zH hdone
  clear hdone
  by_cases hlt : j < xs.length
  ·obtain ⟨ad, B3, e3, B4, e4, rfl, k0, k1, k2, k3, k4, k5, k6, k7, l3, g3, l4, g4⟩ := zFi HC.out (j : Int) (by omega) (by omega)
   simp only [Int.toNat_natCast, show zAo xs (j : Int) = xs.getD j z27 by simp [zAo]] at k0 k1 k2 k3 k4 k5 k6 k7 l3 g3 l4 g4
   have hMC : MC w (xs.getD j z27).f1 B3 e3 B4 e4 := ⟨l3, g3, l4, g4⟩
   obtain ⟨x, ex⟩ : ∃ x, xs.getD j z27 = x := ⟨_, rfl⟩
   have Hex := zH ex
   rw [ex] at k1 k2 k3 k4 k5 hMC
   clear ex k0 k6 k7 l3 g3 l4 g4
   have k1 := zAf hB k1
   have k2 := zAf hB k2
   have k3 := zAf hB k3
   have k4 := zAf hB k4
   have k5 := zAf hB k5
   go_wp2_with fail
   (with_reducible refine (tiny31 _ x.f1 B3 e3 B4 e4 (hMC.below hB)).mono ?_)
   rintro e w1 ⟨v, rfl, hb1, htn⟩
   cases v with
   | false =>
    go_wp2_with fail
    go_ret
    exact ⟨⟨false, rfl, fun h => by cases h⟩, zAe hB hb1⟩
   | true =>
   have HT := zH (htn rfl)
   have hbd := HT.out.2.1
   have k1 := zAf hb1 k1
   have k2 := zAf hb1 k2
   have k3 := zAf hb1 k3
   have k4 := zAf hb1 k4
   have k5 := zAf hb1 k5
   cases hc : chkB x.f1 with
   | false =>
    have Hc := zH hc
    clear hc htn
    go_wp2_with fail
    (with_reducible refine (zFp _ x.f1 B3 e3 B4 e4 false Hc.out hbd (hMC.below (zAe hB hb1))).mono ?_)
    rintro e w2 ⟨rfl, hb2⟩
    go_wp2_with fail
    go_ret
    exact ⟨⟨false, rfl, fun h => by cases h⟩, zAe (zAe hB hb1) hb2⟩
   | true =>
   have Hc := zH hc
   clear hc htn
   go_wp2_with fail
   (with_reducible refine (zFp _ x.f1 B3 e3 B4 e4 true Hc.out hbd (hMC.below (zAe hB hb1))).mono ?_)
   rintro e w2 ⟨rfl, hb2⟩
   go_wp2_with fail
   go_roundw
   case rel =>
    refine ⟨j + 1, by go_num, by omega, fun i hi => ?_, zAe (zAe hB hb1) hb2⟩
    rcases Nat.lt_or_ge i j with h | h
    ·exact Hdone.out i h
    obtain rfl : i = j := by omega
    rw [Hex.out]
    exact ⟨HT.out, Hc.out⟩
   case measure => simp [intOf]; omega
  obtain rfl : j = xs.length := by omega
  go_wp2
  go_ret
  refine ⟨⟨true, rfl, fun _ => ⟨hl, fun t ht => ?_⟩⟩, hB⟩
  obtain ⟨i, hi, rfl⟩ := List.mem_iff_getElem.1 ht
  have := Hdone.out i hi
  simpa [List.getD_eq_getElem?_getD, hi] using this
end
end
end Go.Proofs.Yteafilojjdfllaa
end
section
namespace Go.Proofs.Yteafilojjdfllaa
open Go Go.RowKit Go.Proofs.YteafilojjdfllaaW.PrintWords Go.Proofs.YteafilojjdfllaaW.PrintLast Go.Proofs.YteafilojjdfllaaW.PrintMore Go.Proofs.Yteafilojjdfllaa.PAll
abbrev Z8 : Array Value := #[.int .i64 0, .int .i64 0, .string ⟨#[]⟩, .string ⟨#[]⟩, .slice none 0 0, .slice none 0 0, .int .i64 0, .int .i64 0]
def TGetPost (w : World) (n : Nat) (Q : Option (List S27 × List UInt8)) (e : Ending) (w' : World) : Prop :=
 Below w.heap.size w w' ∧ ((Q = none ∧ e = .returned (.tuple #[.slice none 0 0, .int .i64 0, .bool false])) ∨ ∃ l r D d, Q = some (l, r) ∧ e = .returned (.tuple #[.slice D l.length d, .int .i64 ((n : Int) - (r.length : Nat)), .bool true]) ∧ l.length ≤ d ∧ Kd.C k27 w' D l.length l)
theorem getIntW_at {bs r : List UInt8} {j : Nat} (hr : bs.drop j = r) : getIntW bs (j : Int) = decI r := by
 unfold getIntW decI
 rw [getW_at hr]
theorem zHu (w : World) (A : Option Addr) (n c : Nat) (bs r : List UInt8) (j : Nat) (hr : bs.drop j = r) (hq : decI r = none) (hn : bs.length = n) (hl : n ≤ 1000000000000000) (hC : (Kd.int .u8).C w A bs.length (bys bs)) :
  Calls Try.prog 117 #[.slice A n c, .int .i64 (j : Int)] w fun e w' => e = .returned (.tuple #[.int .i64 0, .int .i64 0, .bool false]) ∧ w' = w := by
 have h := getInt117 w A n c bs (j : Int) hn hl hC
 rw [getIntW_at hr, hq] at h
 exact h
theorem zHt (w : World) (A : Option Addr) (n c : Nat) (bs r t : List UInt8) (j k : Nat) (v : Int) (hr : bs.drop j = r) (hq : decI r = some (v, t)) (hk : (n : Int) - (t.length : Nat) = (k : Int)) (hn : bs.length = n) (hl : n ≤ 1000000000000000) (hC : (Kd.int .u8).C w A bs.length (bys bs)) :
  Calls Try.prog 117 #[.slice A n c, .int .i64 (j : Int)] w fun e w' => e = .returned (.tuple #[.int .i64 v, .int .i64 (k : Int), .bool true]) ∧ w' = w := by
 have h := getInt117 w A n c bs (j : Int) hn hl hC
 rw [getIntW_at hr, hq] at h
 rw [← hk]
 exact h
theorem zIc {k n : Nat} {bs t : List UInt8} (hsuf : t <:+ bs.drop k) (hn : bs.length = n) (hk : k ≤ n) : ∃ k1 : Nat, k1 ≤ n ∧ (n : Int) - (t.length : Nat) = (k1 : Int) ∧ bs.drop k1 = t := by
 have h1 := hsuf.trans (List.drop_suffix k bs)
 have h5 := h1.length_le
 refine ⟨n - t.length, by omega, by omega, ?_⟩
 rw [← hn]
 exact (List.suffix_iff_eq_drop.1 h1).symm
theorem zGt {ls : List S27} {i : Nat} (hi : ls.length = i) (h0 : 0 < i) (s : Int) : behind ls s = decide ((ls.getD (i - 1) z27).f0 < s) := by
 unfold behind
 rw [List.getLast?_eq_getElem?, hi, List.getD_eq_getElem?_getD]
 rw [List.getElem?_eq_getElem (by omega)]
 rfl
theorem MF_FK27 {W : World} {S : Nat → Prop} {t : S27} {A3 : Option Addr} {c3 : Nat} {A4 : Option Addr} {c4 : Nat} (h : MF W S t.f1 A3 c3 A4 c4) (hS : ∀ b, S b → b < W.heap.size) : Kd.FK k27 W S t [.int .i64 t.f0, .int .i64 t.f1.f0, .string t.f1.f1, .string t.f1.f2, .slice A3 t.f1.f3.length c3, .slice A4 t.f1.f4.length c4, .int .i64 t.f2, .int .i64 t.f3] := by
 intro X hX
 obtain ⟨h1, h2, h3, h4⟩ := h X (fun b hb => hX b hb (hS b hb))
 exact k27_mk X t h1 h2 h3 h4
theorem mGet88n (w : World) (A : Option Addr) (n c : Nat) (bs r : List UInt8) (j : Nat) (hr : bs.drop j = r) (hq : zGb r = none) (hn : bs.length = n) (hnl : n ≤ 1000000000000000) (hnc : n ≤ c) (hC : (Kd.int .u8).C w A bs.length (bys bs)) :
  Calls Try.prog 88 #[.slice A n c, .int .i64 (j : Int)] w fun e w' => e = .returned (.tuple #[.agg Z5, .int .i64 0, .bool false]) ∧ Below w.heap.size w w' := by
 refine (mGet88 w A n c bs (j : Int) hn hnl hnc hC).mono ?_
 rw [mat_at hr, hq]
 rintro e w' ⟨h1, ⟨-, h2⟩ | ⟨m, r, _, _, _, _, h, -⟩⟩
 ·exact ⟨h2, h1⟩
 cases h
theorem mGet88y (w : World) (A : Option Addr) (n c : Nat) (bs r t : List UInt8) (j k : Nat) (m : S25) (hr : bs.drop j = r) (hq : zGb r = some (m, t)) (hk : (n : Int) - (t.length : Nat) = (k : Int)) (hn : bs.length = n) (hnl : n ≤ 1000000000000000) (hnc : n ≤ c) (hC : (Kd.int .u8).C w A bs.length (bys bs)) :
  Calls Try.prog 88 #[.slice A n c, .int .i64 (j : Int)] w fun e w' => ∃ A3 c3 A4 c4, e = .returned (.tuple #[mV m A3 c3 A4 c4, .int .i64 (k : Int), .bool true]) ∧ Below w.heap.size w w' ∧ MF w' (fun b => w.heap.size ≤ b ∧ b < w'.heap.size) m A3 c3 A4 c4 := by
 refine (mGet88 w A n c bs (j : Int) hn hnl hnc hC).mono ?_
 rw [mat_at hr, hq]
 rintro e w' ⟨h1, ⟨h, -⟩ | ⟨m', r', A3, c3, A4, c4, h, h2, h3⟩⟩
 ·cases h
 simp only [Option.some.injEq, Prod.mk.injEq] at h
 obtain ⟨rfl, rfl⟩ := h
 rw [hk] at h2
 exact ⟨A3, c3, A4, c4, h2, h1, h3⟩
theorem idx140_0 (a b c : Addr) (w : World) : (Instr.index 140 (.agg #[.pointer (some a), .pointer (some b), .pointer (some c)]) (.int .i64 0)).run Try.prog w = .ok (.pointer (some a)) w := by kernel_rfl
theorem idx140_1 (a b c : Addr) (w : World) : (Instr.index 140 (.agg #[.pointer (some a), .pointer (some b), .pointer (some c)]) (.int .i64 1)).run Try.prog w = .ok (.pointer (some b)) w := by kernel_rfl
theorem idx140_2 (a b c : Addr) (w : World) : (Instr.index 140 (.agg #[.pointer (some a), .pointer (some b), .pointer (some c)]) (.int .i64 2)).run Try.prog w = .ok (.pointer (some c)) w := by kernel_rfl
noncomputable def zEz : Bool × List (List Nat × List Nat) := rtab .any (zFs Try.f74 17)
theorem zDv : rtab .any (zFs Try.f74 17) = zEz := rfl
theorem tget74 (w : World) (A : Option Addr) (n c : Nat) (bs : List UInt8) (at_ : Int) (hn : bs.length = n) (hnl : n ≤ 1000000000000000) (hnc : n ≤ c) (hC : (Kd.int .u8).C w A bs.length (bys bs)) :
  Calls Try.prog 74 #[.slice A n c, .int .i64 at_] w (TGetPost w n (zFq bs at_)) := by
 have HN := zH hn
 have HC := zH hC
 obtain ⟨Q, eQ⟩ : ∃ Q, zFq bs at_ = Q := ⟨_, rfl⟩
 rw [eQ]
 have HQ : Hid (Q = match getW bs at_ with
   | none => none
   | some (k, r1) => if k ≤ 64 then zDz k [] r1 else none) := zH (by
  rw [← eQ]
  unfold zFq getW decTL
  split
  ·rfl
  ·cases decV 0 0 (bs.drop at_.toNat) <;> rfl)
 cases hq : getW bs at_ with
 | none =>
  have h1 := zH (get116n w A n c bs at_ hq hn hnl hC)
  have HQn := zH (show Q = none by rw [HQ.out, hq])
  clear hC hn hq eQ HQ
  go_enter Try.func74, Try.ntmps74
  go_wp2_with fail
  (with_reducible refine h1.out.mono ?_)
  rintro e w1 ⟨rfl, rfl⟩
  go_wp2
  go_ret3
  exact ⟨Below.refl _ _, Or.inl ⟨HQn.out, rfl⟩⟩
 | some q =>
 obtain ⟨k, r1⟩ := q
 obtain ⟨hp0, hp1, hp2, hp3, hp4⟩ := zCk hq
 obtain ⟨j1, hj1⟩ : ∃ j1 : Nat, bs.length - r1.length = j1 := ⟨_, rfl⟩
 rw [hj1] at hp2 hp3
 have hj1I : (n : Int) - (r1.length : Nat) = (j1 : Int) := by omega
 have h1 := zH (get116y w A n c bs at_ k j1 r1 hq hj1I hn hnl hC)
 by_cases hk : k ≤ 64
 ·have HQ1 := zH (show Q = zDz (k - 0) [] r1 by rw [HQ.out, hq]; exact if_pos hk)
  have t1 : ¬ (64 : Int) < (k : Int) := by omega
  have t2 : decide ((64 : Int) < (k : Int)) = false := zF t1
  have HP := zH (And.intro hp3 (show j1 ≤ n by omega))
  have hwk : IntKind.i64.wrap (k : Int) = (k : Int) := by rw [IntKind.wrap_i64]; omega
  clear hC hn hq eQ HQ hp0 hp1 hp2 hp3 hp4 hj1 hj1I
  go_enter Try.func74, Try.ntmps74
  go_wp2_with fail
  (with_reducible refine h1.out.mono ?_)
  rintro e w1 ⟨rfl, rfl⟩
  clear h1
  go_wp2
  go_loopw [1, 8, 9, 10, 11, 13, 29] (fun u1 u8 u9 _ _ _ u29 wr => ∃ (i p : Nat) (ls : List S27) (rr : List UInt8), u29 = .int .i64 (i : Nat) ∧ i ≤ k ∧ ls.length = i ∧ p ≤ n ∧ u1 = .int .i64 (p : Nat) ∧ u8 = .bool true ∧ bs.drop p = rr ∧ Hid (Q = zDz (k - i) ls rr) ∧ Hid (Kd.N k27 27 wr w1.heap.size (fun b => w1.heap.size ≤ b) u9 ls) ∧ Hid (Below w1.heap.size w1 wr))
   (fun _ _ _ _ _ _ u29 _ => k - (intOf u29).toNat)
  case atStart => exact ⟨0, j1, [], r1, rfl, Nat.zero_le _, rfl, HP.out.2, rfl, rfl, HP.out.1, HQ1, zH (Kd.N_nil k27 27 w1 w1.heap.size _), zH (Below.refl _ _)⟩
  case round =>
   obtain ⟨i, p, ls, rr, rfl, hik, hli, hpn, rfl, rfl, hpr, HQi, HL, HB⟩ := hrel
   obtain ⟨Au, cu, rfl⟩ := Kd.N_slice HL.out
   have HPR := zH (And.intro hpr (And.intro hpn hli))
   rw [hli]
   clear hpr hli HQ1
   by_cases hlt : i < k
   ·obtain ⟨k', hk'⟩ : ∃ k', k - i = k' + 1 := ⟨k - i - 1, by omega⟩
    have HQ0 : Hid (Q = match zFo rr with
     | none => none
     | some (t, r1) => if behind ls t.f0 = true then zDz k' (ls ++ [t]) r1 else none) := zH (by rw [HQi.out, hk', zDz]; all_goals (cases zFo rr <;> rfl))
    have HK' := zH hk'
    clear hk' HQi
    obtain ⟨W0, eW0⟩ : ∃ W0, W0 = wr.alloc (.cells Z8 27) := ⟨_, rfl⟩
    obtain ⟨T, eT⟩ : ∃ T, wr.heap.size = T := ⟨_, rfl⟩
    have hb0 : W0.heap[T]? = some (.cells Z8 27 (0, 0)) := by rw [eW0, ← eT]; exact zAs wr _
    have hBW0 : Below wr.heap.size wr W0 := by rw [eW0]; exact zAc (Below.refl _ _) _
    have HT0 := zH hb0
    have HBW0 := zH hBW0
    have HTT := zH (show wr.heap.size ≤ T from Nat.le_of_eq eT)
    have HTS := zH (show w1.heap.size ≤ T from Nat.le_trans HB.out.size (Nat.le_of_eq eT))
    have HCW := zH (fun W (h : Below wr.heap.size wr W) => Kd.C_below HC.out (zAe HB.out h))
    have i0 := fun W => idx140_0 ⟨T, 0, none⟩ ⟨T, 6, none⟩ ⟨T, 7, none⟩ W
    have i1 := fun W => idx140_1 ⟨T, 0, none⟩ ⟨T, 6, none⟩ ⟨T, 7, none⟩ W
    have i2 := fun W => idx140_2 ⟨T, 0, none⟩ ⟨T, 6, none⟩ ⟨T, 7, none⟩ W
    clear hb0 hBW0
    go_wp2
    refine wp_loop_rounds 4 ?_
    rw [rounds_succ]
    go_wp2_with fail
    rw [← eW0]
    clear eW0
    have x := zAb HT0.out 0
    have v := zAa HT0.out 0
    simp only [zC, zA, zB] at x
    cases hq1 : decI rr with
    | none =>
     have HQn := zH (show Q = none by rw [HQ0.out]; unfold zFo; rw [hq1])
     (with_reducible refine (zHu W0 A n c bs rr p HPR.out.1 hq1 HN.out hnl (HCW.out _ HBW0.out)).mono ?_)
     rintro e w2 ⟨rfl, hw2⟩
     replace hw2 := hw2.symm
     subst hw2
     clear hq1
     go_wp2
     go_ret3
     exact ⟨(zAe HB.out HBW0.out).setCell HTS.out _, Or.inl ⟨HQn.out, rfl⟩⟩
    | some q1 =>
    obtain ⟨s, ra⟩ := q1
    obtain ⟨pa, hpa, hpaI, hra⟩ := zIc (by rw [HPR.out.1]; exact zEj hq1) HN.out HPR.out.2.1
    (with_reducible refine (zHt W0 A n c bs rr ra p pa s HPR.out.1 hq1 hpaI HN.out hnl (HCW.out _ HBW0.out)).mono ?_)
    rintro e w2 ⟨rfl, hw2⟩
    replace hw2 := hw2.symm
    subst hw2
    have HQ1 := zH (HQ0.out.trans (by unfold zFo; rw [hq1]))
    have HP1 := zH (And.intro hra hpa)
    obtain ⟨W1, eW1⟩ : ∃ W', W' = W0.setCell ⟨T, 0, none⟩ (.int .i64 s) := ⟨_, rfl⟩
    have HT1 : Hid (W1.heap[T]? = some (.cells #[.int .i64 s, .int .i64 0, .string ⟨#[]⟩, .string ⟨#[]⟩, .slice none 0 0, .slice none 0 0, .int .i64 0, .int .i64 0] 27 (0, 0))) := zH (by rw [eW1]; exact (zAn HT0.out 0 _).trans (by rfl))
    have HBW1 : Hid (Below wr.heap.size wr W1) := zH (by rw [eW1]; exact HBW0.out.setCell HTT.out _)
    clear hq1 hra hpa hpaI HQ0
    go_wp2_with fail
    rw [rounds_succ]
    go_wp2_with fail
    rw [← eW1]
    clear x v eW1 HT0
    have x := zAb HT1.out 6
    have v := zAa HT1.out 6
    simp only [zC, zA, zB] at x
    cases hq2 : decI ra with
    | none =>
     have HQn := zH (show Q = none by rw [HQ1.out]; simp only [hq2])
     (with_reducible refine (zHu W1 A n c bs ra pa HP1.out.1 hq2 HN.out hnl (HCW.out _ HBW1.out)).mono ?_)
     rintro e w2 ⟨rfl, hw2⟩
     replace hw2 := hw2.symm
     subst hw2
     clear hq2
     go_wp2
     go_ret3
     exact ⟨(zAe HB.out HBW1.out).setCell HTS.out _, Or.inl ⟨HQn.out, rfl⟩⟩
    | some q2 =>
    obtain ⟨a, rb⟩ := q2
    obtain ⟨pb, hpb, hpbI, hrb⟩ := zIc (by rw [HP1.out.1]; exact zEj hq2) HN.out HP1.out.2
    (with_reducible refine (zHt W1 A n c bs ra rb pa pb a HP1.out.1 hq2 hpbI HN.out hnl (HCW.out _ HBW1.out)).mono ?_)
    rintro e w2 ⟨rfl, hw2⟩
    replace hw2 := hw2.symm
    subst hw2
    have HQ2 := zH (HQ1.out.trans (by simp only [hq2]; rfl))
    have HP2 := zH (And.intro hrb hpb)
    obtain ⟨W2, eW2⟩ : ∃ W', W' = W1.setCell ⟨T, 6, none⟩ (.int .i64 a) := ⟨_, rfl⟩
    have HT2 : Hid (W2.heap[T]? = some (.cells #[.int .i64 s, .int .i64 0, .string ⟨#[]⟩, .string ⟨#[]⟩, .slice none 0 0, .slice none 0 0, .int .i64 a, .int .i64 0] 27 (0, 0))) := zH (by rw [eW2]; exact (zAn HT1.out 6 _).trans (by rfl))
    have HBW2 : Hid (Below wr.heap.size wr W2) := zH (by rw [eW2]; exact HBW1.out.setCell HTT.out _)
    clear hq2 hrb hpb hpbI HQ1
    go_wp2_with fail
    rw [rounds_succ]
    go_wp2_with fail
    rw [← eW2]
    clear x v eW2 HT1
    have x := zAb HT2.out 7
    have v := zAa HT2.out 7
    simp only [zC, zA, zB] at x
    cases hq3 : decI rb with
    | none =>
     have HQn := zH (show Q = none by rw [HQ2.out]; simp only [hq3])
     (with_reducible refine (zHu W2 A n c bs rb pb HP2.out.1 hq3 HN.out hnl (HCW.out _ HBW2.out)).mono ?_)
     rintro e w2 ⟨rfl, hw2⟩
     replace hw2 := hw2.symm
     subst hw2
     clear hq3
     go_wp2
     go_ret3
     exact ⟨(zAe HB.out HBW2.out).setCell HTS.out _, Or.inl ⟨HQn.out, rfl⟩⟩
    | some q3 =>
    obtain ⟨b, rc⟩ := q3
    obtain ⟨pc, hpc, hpcI, hrc⟩ := zIc (by rw [HP2.out.1]; exact zEj hq3) HN.out HP2.out.2
    (with_reducible refine (zHt W2 A n c bs rb rc pb pc b HP2.out.1 hq3 hpcI HN.out hnl (HCW.out _ HBW2.out)).mono ?_)
    rintro e w2 ⟨rfl, hw2⟩
    replace hw2 := hw2.symm
    subst hw2
    have HQ3 := zH (HQ2.out.trans (by simp only [hq3]; rfl))
    have HP3 := zH (And.intro hrc hpc)
    obtain ⟨W3, eW3⟩ : ∃ W', W' = W2.setCell ⟨T, 7, none⟩ (.int .i64 b) := ⟨_, rfl⟩
    have HT3 : Hid (W3.heap[T]? = some (.cells #[.int .i64 s, .int .i64 0, .string ⟨#[]⟩, .string ⟨#[]⟩, .slice none 0 0, .slice none 0 0, .int .i64 a, .int .i64 b] 27 (0, 0))) := zH (by rw [eW3]; exact (zAn HT2.out 7 _).trans (by rfl))
    have HBW3 : Hid (Below wr.heap.size wr W3) := zH (by rw [eW3]; exact HBW2.out.setCell HTT.out _)
    clear hq3 hrc hpc hpcI HQ2
    go_wp2_with fail
    rw [rounds_succ]
    go_wp2_with fail
    rw [← eW3]
    clear x v eW3 HT2
    cases hq4 : zGb rc with
    | none =>
     have HQn := zH (show Q = none by rw [HQ3.out]; simp only [hq4])
     (with_reducible refine (mGet88n W3 A n c bs rc pc HP3.out.1 hq4 HN.out hnl hnc (HCW.out _ HBW3.out)).mono ?_)
     rintro e w5 ⟨rfl, hb5⟩
     have b5 := (hb5.block T (zAp HT3.out)).trans HT3.out
     obtain ⟨V, eV⟩ : ∃ V, V = ((((w5.setCell ⟨T, 1, none⟩ (.int .i64 0)).setCell ⟨T, 2, none⟩ (.string ⟨#[]⟩)).setCell ⟨T, 3, none⟩ (.string ⟨#[]⟩)).setCell ⟨T, 4, none⟩ (.slice none 0 0)).setCell ⟨T, 5, none⟩ (.slice none 0 0) := ⟨_, rfl⟩
     have HT : Hid (V.heap[T]? = some (.cells #[.int .i64 s, .int .i64 0, .string ⟨#[]⟩, .string ⟨#[]⟩, .slice none 0 0, .slice none 0 0, .int .i64 a, .int .i64 b] 27 (0, 0))) := zH (by rw [eV]; exact (zAn (zAn (zAn (zAn (zAn b5 1 _) 2 _) 3 _) 4 _) 5 _).trans (by rfl))
     have HBV : Hid (Below wr.heap.size wr V) := zH (by rw [eV]; exact (((((zAe HBW3.out hb5).setCell HTT.out _).setCell HTT.out _).setCell HTT.out _).setCell HTT.out _).setCell HTT.out _)
     have x1 := zAb b5 1
     have v1 := zAa b5 1
     have x2 := zAb b5 2
     have v2 := zAa b5 2
     have x3 := zAb b5 3
     have v3 := zAa b5 3
     have x4 := zAb b5 4
     have v4 := zAa b5 4
     have x5 := zAb b5 5
     have v5 := zAa b5 5
     simp only [zC, zA, zB] at x1 x2 x3 x4 x5
     clear b5 hb5 hq4
     go_wp2_with fail
     rw [← eV]
     clear x1 x2 x3 x4 x5 v1 v2 v3 v4 v5 eV
     refine zCe (n := 22) (S := fun W => Below V.heap.size V W) (ds := []) (msk 22 [0, 1, 2, 3, 4, 5, 6, 7, 8, 9, 10, 11, 12, 13, 14, 15, 16, 17, 18, 19, 20, 21] 0).toArray (by kernel_rfl) rfl rfl (zAr (Below.refl _ _)) (fun hHeld => ?_)
     refine zBh (T := zEz) zDv (fun HT_ => ?_)
     iterate 22 (first | (refine zBi HT_.out (N := some _) (v := ?_) (a' := ?_) rfl rfl (by kernel_rfl) (fun _ _ _ h => h) (Or.inl ⟨by rfl, ?_⟩) ?_ ?_; rotate_left; intro w'; go_simp; (with_reducible rfl); rotate_left; simp only [Act.put, zI, zZ, zS, zAx, zAy]; rfl) | (refine zBi HT_.out (N := some _) (v := undef) (a' := ?_) rfl rfl (by kernel_rfl) (fun _ _ _ h => h) (Or.inr ⟨by rfl, by rfl⟩) ?_ ?_; rotate_left; simp only [Act.put, zI, zZ, zS]; rfl))
     refine zEg (zBz HT_.out (by kernel_rfl)) ?_
     have HBF := zH (zAe (zAe HB.out HBV.out) hHeld)
     clear hHeld
     go_wp2
     go_ret3
     exact ⟨HBF.out, Or.inl ⟨HQn.out, rfl⟩⟩
    | some q4 =>
    obtain ⟨m, rd⟩ := q4
    obtain ⟨pd, hpd, hpdI, hrd⟩ := zIc (by rw [HP3.out.1]; exact zJj hq4) HN.out HP3.out.2
    (with_reducible refine (mGet88y W3 A n c bs rc rd pc pd m HP3.out.1 hq4 hpdI HN.out hnl hnc (HCW.out _ HBW3.out)).mono ?_)
    rintro e w5 ⟨D3, f3, D4, f4, rfl, hb5, hMF⟩
    have b5 := (hb5.block T (zAp HT3.out)).trans HT3.out
    obtain ⟨V, eV⟩ : ∃ V, V = ((((w5.setCell ⟨T, 1, none⟩ (.int .i64 m.f0)).setCell ⟨T, 2, none⟩ (.string m.f1)).setCell ⟨T, 3, none⟩ (.string m.f2)).setCell ⟨T, 4, none⟩ (.slice D3 m.f3.length f3)).setCell ⟨T, 5, none⟩ (.slice D4 m.f4.length f4) := ⟨_, rfl⟩
    have HT : Hid (V.heap[T]? = some (.cells #[.int .i64 s, .int .i64 m.f0, .string m.f1, .string m.f2, .slice D3 m.f3.length f3, .slice D4 m.f4.length f4, .int .i64 a, .int .i64 b] 27 (0, 0))) := zH (by rw [eV]; exact (zAn (zAn (zAn (zAn (zAn b5 1 _) 2 _) 3 _) 4 _) 5 _).trans (by rfl))
    have HBV : Hid (Below wr.heap.size wr V) := zH (by rw [eV]; exact (((((zAe HBW3.out hb5).setCell HTT.out _).setCell HTT.out _).setCell HTT.out _).setCell HTT.out _).setCell HTT.out _)
    have x1 := zAb b5 1
    have v1 := zAa b5 1
    have x2 := zAb b5 2
    have v2 := zAa b5 2
    have x3 := zAb b5 3
    have v3 := zAa b5 3
    have x4 := zAb b5 4
    have v4 := zAa b5 4
    have x5 := zAb b5 5
    have v5 := zAa b5 5
    simp only [zC, zA, zB] at x1 x2 x3 x4 x5
    have HMF : Hid (MF V (fun b => W3.heap.size ≤ b ∧ b < w5.heap.size) m D3 f3 D4 f4) := zH (hMF.move (fun b hb => ⟨hb, by
     have hne : b ≠ T := by have := hb.1; have := zAp HT3.out; omega
     rw [eV]
     exact (Below.heap_setCell _ _ _ _ hne).trans ((Below.heap_setCell _ _ _ _ hne).trans ((Below.heap_setCell _ _ _ _ hne).trans ((Below.heap_setCell _ _ _ _ hne).trans (Below.heap_setCell _ _ _ _ hne))))⟩))
    have HV5 : Hid (w5.heap.size = V.heap.size ∧ W3.heap.size ≤ w5.heap.size) := zH ⟨by rw [eV]; simp, hb5.size⟩
    have HQ4 := zH (HQ3.out.trans (by simp only [hq4]; rfl))
    have HP4 := zH (And.intro hrd hpd)
    clear b5 hb5 hq4 hMF hrd hpd hpdI HQ3
    go_wp2_with fail
    rw [← eV]
    clear x1 x2 x3 x4 x5 v1 v2 v3 v4 v5 eV
    have H33 := zH (fun W (h : Below V.heap.size V W) => zIo W s a b m D3 f3 D4 f4 ((HMF.out.now).below h))
    cases htb : zCr s a b m with
    | false =>
     rw [htb] at H33
     have HQn := zH (show Q = none by rw [HQ4.out]; simp [htb])
     clear htb
     refine zCe (n := 22) (S := fun W => Below V.heap.size V W) (ds := []) (msk 22 [0, 1, 2, 3, 4, 5, 6, 7, 8, 9, 10, 11, 12, 13, 14, 15, 16, 17, 18, 19, 20, 21] 0).toArray (by kernel_rfl) rfl rfl (zAr (Below.refl _ _)) (fun hHeld => ?_)
     refine zBh (T := zEz) zDv (fun HT_ => ?_)
     iterate 4 (first | (refine zBi HT_.out (N := some _) (v := ?_) (a' := ?_) rfl rfl (by kernel_rfl) (fun _ _ _ h => h) (Or.inl ⟨by rfl, ?_⟩) ?_ ?_; rotate_left; intro w'; go_simp; (with_reducible rfl); rotate_left; simp only [Act.put, zI, zZ, zS, zAx, zAy]; rfl) | (refine zCd HT_.out (N := some _) (v := ?_) (a' := ?_) rfl rfl (by kernel_rfl) (fun _ _ _ h => h) (Or.inl ⟨by rfl, ?_⟩) hHeld ?_ ?_; rotate_left; intro w' hh; have q := (hh.block _ (zAp HT.out)).trans HT.out; have q0 := zAb q 0; have q1 := zAb q 1; have q2 := zAb q 2; have q3 := zAb q 3; have q4 := zAb q 4; have q5 := zAb q 5; have q6 := zAb q 6; have q7 := zAb q 7; simp only [zC, zA, zB] at q0 q1 q2 q3 q4 q5 q6 q7; go_simp; (with_reducible rfl); rotate_left; simp only [Act.put, zI, zZ, zS, zAx, zAy]; rfl))
     refine oneO (i := 4) (N := some 64) HT_.out rfl rfl (by kernel_rfl) (by decide) (fun K_ hK_ => ?_)
     refine zDn Try.func33 (by kernel_rfl) rfl #[.agg #[.int .i64 s, .int .i64 m.f0, .string m.f1, .string m.f2, .slice D3 m.f3.length f3, .slice D4 m.f4.length f4, .int .i64 a, .int .i64 b]] (by rfl) rfl rfl (by (try simp only [List.map_toArray, List.map_cons, List.map_nil]); first | done | rfl) ?_
     (with_reducible refine (H33.out _ hHeld).mono ?_)
     rintro e w9 ⟨rfl, hb9⟩
     refine ⟨_, rfl, ?_⟩
     refine hK_.out _ _ (zAe hHeld hb9) (fun hHeld => ?_)
     clear hK_ K_
     try simp only [Act.put, zI, zZ, zS]
     iterate 17 (first | (refine zBi HT_.out (N := some _) (v := ?_) (a' := ?_) rfl rfl (by kernel_rfl) (fun _ _ _ h => h) (Or.inl ⟨by rfl, ?_⟩) ?_ ?_; rotate_left; intro w'; go_simp; (with_reducible rfl); rotate_left; simp only [Act.put, zI, zZ, zS, zAx, zAy]; rfl) | (refine zBi HT_.out (N := some _) (v := undef) (a' := ?_) rfl rfl (by kernel_rfl) (fun _ _ _ h => h) (Or.inr ⟨by rfl, by rfl⟩) ?_ ?_; rotate_left; simp only [Act.put, zI, zZ, zS]; rfl))
     refine zEg (zBz HT_.out (by kernel_rfl)) ?_
     have HBF := zH (zAe (zAe HB.out HBV.out) hHeld)
     clear hHeld
     go_wp2
     go_ret3
     exact ⟨HBF.out, Or.inl ⟨HQn.out, rfl⟩⟩
    | true =>
    rw [htb] at H33
    have HQ5 := zH (show Q = if behind ls s = true then zDz k' (ls ++ [⟨s, m, a, b⟩]) rd else none by rw [HQ4.out]; simp [htb])
    clear htb HQ4
    by_cases hi0 : i = 0
    ·have u1 : ¬ (0 : Int) < (i : Int) := by omega
     have u2 : decide (0 < i) = false := zF (by omega)
     have HBH := zH (show behind ls s = true by
      have : ls = [] := List.length_eq_zero_iff.1 (by rw [HPR.out.2.2]; exact hi0)
      rw [this]; rfl)
     clear hi0
     refine zCe (n := 22) (S := fun W => Below V.heap.size V W) (ds := []) (msk 22 [0, 1, 2, 3, 4, 5, 6, 7, 8, 9, 10, 11, 12, 13, 14, 15, 16, 17, 18, 19, 20, 21] 0).toArray (by kernel_rfl) rfl rfl (zAr (Below.refl _ _)) (fun hHeld => ?_)
     refine zBh (T := zEz) zDv (fun HT_ => ?_)
     iterate 4 (first | (refine zBi HT_.out (N := some _) (v := ?_) (a' := ?_) rfl rfl (by kernel_rfl) (fun _ _ _ h => h) (Or.inl ⟨by rfl, ?_⟩) ?_ ?_; rotate_left; intro w'; go_simp; (with_reducible rfl); rotate_left; simp only [Act.put, zI, zZ, zS, zAx, zAy, u2]; rfl) | (refine zCd HT_.out (N := some _) (v := ?_) (a' := ?_) rfl rfl (by kernel_rfl) (fun _ _ _ h => h) (Or.inl ⟨by rfl, ?_⟩) hHeld ?_ ?_; rotate_left; intro w' hh; have q := (hh.block _ (zAp HT.out)).trans HT.out; have q0 := zAb q 0; have q1 := zAb q 1; have q2 := zAb q 2; have q3 := zAb q 3; have q4 := zAb q 4; have q5 := zAb q 5; have q6 := zAb q 6; have q7 := zAb q 7; simp only [zC, zA, zB] at q0 q1 q2 q3 q4 q5 q6 q7; go_simp; (with_reducible rfl); rotate_left; simp only [Act.put, zI, zZ, zS, zAx, zAy, u2]; rfl))
     refine oneO (i := 4) (N := some 64) HT_.out rfl rfl (by kernel_rfl) (by decide) (fun K_ hK_ => ?_)
     refine zDn Try.func33 (by kernel_rfl) rfl #[.agg #[.int .i64 s, .int .i64 m.f0, .string m.f1, .string m.f2, .slice D3 m.f3.length f3, .slice D4 m.f4.length f4, .int .i64 a, .int .i64 b]] (by rfl) rfl rfl (by (try simp only [List.map_toArray, List.map_cons, List.map_nil]); first | done | rfl) ?_
     (with_reducible refine (H33.out _ hHeld).mono ?_)
     rintro e w9 ⟨rfl, hb9⟩
     refine ⟨_, rfl, ?_⟩
     refine hK_.out _ _ (zAe hHeld hb9) (fun hHeld => ?_)
     clear hK_ K_
     try simp only [Act.put, zI, zZ, zS]
     iterate 17 (first | (refine zBi HT_.out (N := some _) (v := ?_) (a' := ?_) rfl rfl (by kernel_rfl) (fun _ _ _ h => h) (Or.inl ⟨by rfl, ?_⟩) ?_ ?_; rotate_left; intro w'; go_simp; (with_reducible rfl); rotate_left; simp only [Act.put, zI, zZ, zS, zAx, zAy, u2]; rfl) | (refine zBi HT_.out (N := some _) (v := undef) (a' := ?_) rfl rfl (by kernel_rfl) (fun _ _ _ h => h) (Or.inr ⟨by rfl, by rfl⟩) ?_ ?_; rotate_left; simp only [Act.put, zI, zZ, zS]; rfl))
     refine zEg (zBz HT_.out (by kernel_rfl)) ?_
     rename World => X9
     have HBX := zH hHeld
     have b9 := (hHeld.block T (zAp HT.out)).trans HT.out
     have y0 := zAb b9 0
     have y1 := zAb b9 1
     have y2 := zAb b9 2
     have y3 := zAb b9 3
     have y4 := zAb b9 4
     have y5 := zAb b9 5
     have y6 := zAb b9 6
     have y7 := zAb b9 7
     simp only [zC, zA, zB] at y0 y1 y2 y3 y4 y5 y6 y7
     have HFK := zH (MF_FK27 (t := ⟨s, m, a, b⟩) (HMF.out.move (T := fun b => W3.heap.size ≤ b ∧ b < w5.heap.size) (Y := X9) (fun b hb => ⟨hb, hHeld.block b (by have := HV5.out; omega)⟩)) (fun b hb => by have := hHeld.size; have := HV5.out; omega))
     have HLX := zH (Kd.N_below HL.out (zAe HBV.out hHeld))
     have HNL := zH (Kd.N_lt HL.out)
     have HBL := zH (zAe (zAe HB.out HBV.out) hHeld)
     have HW3 := zH (show wr.heap.size ≤ W3.heap.size from HBW3.out.size)
     clear hHeld b9
     go_wp2_with (at_builtin; refine Kd.N_append k27 (w0 := w1) (W := X9) w1.heap.size rfl (.tmp 82) (.tmp 84) 45 27 (.agg Z8) 112 rfl Try.underlying45 zJb rfl (by decide) (by decide) (.slice Au i cu) ls ⟨s, m, a, b⟩ [.int .i64 s, .int .i64 m.f0, .string m.f1, .string m.f2, .slice D3 m.f3.length f3, .slice D4 m.f4.length f4, .int .i64 a, .int .i64 b] (fun k => w1.heap.size ≤ k) (fun b => W3.heap.size ≤ b ∧ b < w5.heap.size) rfl rfl HFK.out (fun k hk => ⟨by have := HW3.out; have := HB.out.size; omega, fun e => by have h1 := HNL.out k (by rw [HPR.out.2.2]; exact e.symm); have := HW3.out; omega⟩) (fun k hk => by have := HBL.out.size; omega) (by have h := HLX.out; rw [HPR.out.2.2] at h; exact h) HBL.out (by have := HBL.out.size; omega) (by rw [HPR.out.2.2]; omega) ?_; intro v1 w2 hN2 hB2 hg2 hat2; have HN2 := zH hN2; have HB2 := zH hB2; clear hN2 hB2 hg2 hat2)
     go_roundw
     case rel =>
      have hk' := HK'.out
      exact ⟨i + 1, pd, ls ++ [⟨s, m, a, b⟩], rd, by go_num, by omega, by rw [List.length_append, HPR.out.2.2]; rfl, HP4.out.2, rfl, rfl, HP4.out.1, zH (by rw [HQ5.out, if_pos HBH.out, show k - (i + 1) = k' by omega]), HN2, HB2⟩
     case measure => simp [intOf]; omega
    have hi1 : 1 ≤ i := by omega
    have hi1I : (1 : Int) ≤ (i : Int) := by omega
    have u1 : (0 : Int) < (i : Int) := by omega
    have u2 : decide (0 < i) = true := zT (by omega)
    have hsub : wrap64 ((i : Int) - 1) = (i : Int) - 1 := by unfold wrap64; omega
    have hge : (0 : Int) ≤ (i : Int) - 1 := by omega
    have hlt1 : (i : Int) - 1 < (i : Int) := by omega
    obtain ⟨hN1, hN2, hN3⟩ := Kd.N_reads' HL.out
    rw [HPR.out.2.2] at hN3
    obtain ⟨ad, B3, e3, B4, e4, rfl, k0, -, -, -, -, -, -, -, -, -, -, -⟩ := zFi (Kd.C_below hN3 HBV.out) ((i : Int) - 1) hge (by omega)
    simp only [show ((i : Int) - 1).toNat = i - 1 by omega, show zAo ls ((i : Int) - 1) = ls.getD (i - 1) z27 by simp [zAo, show ((i : Int) - 1).toNat = i - 1 by omega]] at k0
    have hbl := zGt HPR.out.2.2 hi1 s
    obtain ⟨y, ey⟩ : ∃ y, (ls.getD (i - 1) z27).f0 = y := ⟨_, rfl⟩
    rw [ey] at k0 hbl
    have KL := zH k0
    have hN1 := ()
    clear ey k0 hN3 hN2 hi0
    by_cases hc : y < s
    ·have c1 : ¬ s ≤ y := by omega
     have c2 : decide (s ≤ y) = false := zF c1
     have HBH := zH (show behind ls s = true by rw [hbl]; exact zT hc)
     clear hbl hc
     refine zCe (n := 22) (S := fun W => Below V.heap.size V W) (ds := []) (msk 22 [0, 1, 2, 3, 4, 5, 6, 7, 8, 9, 10, 11, 13, 14, 15, 16, 17, 12, 18, 19, 20, 21] 0).toArray (by kernel_rfl) rfl rfl (zAr (Below.refl _ _)) (fun hHeld => ?_)
     refine zBh (T := zEz) zDv (fun HT_ => ?_)
     iterate 4 (first | (refine zBi HT_.out (N := some _) (v := ?_) (a' := ?_) rfl rfl (by kernel_rfl) (fun _ _ _ h => h) (Or.inl ⟨by rfl, ?_⟩) ?_ ?_; rotate_left; intro w'; go_simp; (with_reducible rfl); rotate_left; simp only [Act.put, zI, zZ, zS, zAx, zAy, hsub, u2, c2]; rfl) | (refine zCd HT_.out (N := some _) (v := ?_) (a' := ?_) rfl rfl (by kernel_rfl) (fun _ _ _ h => h) (Or.inl ⟨by rfl, ?_⟩) hHeld ?_ ?_; rotate_left; intro w' hh; have q := (hh.block _ (zAp HT.out)).trans HT.out; have q0 := zAb q 0; have q1 := zAb q 1; have q2 := zAb q 2; have q3 := zAb q 3; have q4 := zAb q 4; have q5 := zAb q 5; have q6 := zAb q 6; have q7 := zAb q 7; simp only [zC, zA, zB] at q0 q1 q2 q3 q4 q5 q6 q7; go_simp; (with_reducible rfl); rotate_left; simp only [Act.put, zI, zZ, zS, zAx, zAy, hsub, u2, c2]; rfl))
     refine oneO (i := 4) (N := some 64) HT_.out rfl rfl (by kernel_rfl) (by decide) (fun K_ hK_ => ?_)
     refine zDn Try.func33 (by kernel_rfl) rfl #[.agg #[.int .i64 s, .int .i64 m.f0, .string m.f1, .string m.f2, .slice D3 m.f3.length f3, .slice D4 m.f4.length f4, .int .i64 a, .int .i64 b]] (by rfl) rfl rfl (by (try simp only [List.map_toArray, List.map_cons, List.map_nil]); first | done | rfl) ?_
     (with_reducible refine (H33.out _ hHeld).mono ?_)
     rintro e w9 ⟨rfl, hb9⟩
     refine ⟨_, rfl, ?_⟩
     refine hK_.out _ _ (zAe hHeld hb9) (fun hHeld => ?_)
     clear hK_ K_
     try simp only [Act.put, zI, zZ, zS]
     iterate 13 (first | (refine zBi HT_.out (N := some _) (v := ?_) (a' := ?_) rfl rfl (by kernel_rfl) (fun _ _ _ h => h) (Or.inl ⟨by rfl, ?_⟩) ?_ ?_; rotate_left; intro w'; go_simp; (with_reducible rfl); rotate_left; simp only [Act.put, zI, zZ, zS, zAx, zAy, hsub, u2, c2]; rfl) | (refine zCd HT_.out (N := some _) (v := ?_) (a' := ?_) rfl rfl (by kernel_rfl) (fun _ _ _ h => h) (Or.inl ⟨by rfl, ?_⟩) hHeld ?_ ?_; rotate_left; intro w' hh; have q := (hh.block _ (zAp HT.out)).trans HT.out; have q0 := zAb q 0; have q1 := zAb q 1; have q2 := zAb q 2; have q3 := zAb q 3; have q4 := zAb q 4; have q5 := zAb q 5; have q6 := zAb q 6; have q7 := zAb q 7; simp only [zC, zA, zB] at q0 q1 q2 q3 q4 q5 q6 q7; go_simp; (with_reducible rfl); rotate_left; simp only [Act.put, zI, zZ, zS, zAx, zAy, hsub, u2, c2]; rfl))
     iterate 4 (first | (refine zBi HT_.out (N := some _) (v := ?_) (a' := ?_) rfl rfl (by kernel_rfl) (fun _ _ _ h => h) (Or.inl ⟨by rfl, ?_⟩) ?_ ?_; rotate_left; intro w'; go_simp; (with_reducible rfl); rotate_left; simp only [Act.put, zI, zZ, zS, zAx, zAy, hsub, u2, c2]; rfl) | (refine zCd HT_.out (N := some _) (v := ?_) (a' := ?_) rfl rfl (by kernel_rfl) (fun _ _ _ h => h) (Or.inl ⟨by rfl, ?_⟩) hHeld ?_ ?_; rotate_left; intro w' hh; have q := zAf hh KL.out; go_simp; (with_reducible rfl); rotate_left; simp only [Act.put, zI, zZ, zS, zAx, zAy, hsub, u2, c2]; rfl))
     refine zEg (zBz HT_.out (by kernel_rfl)) ?_
     rename World => X9
     have HBX := zH hHeld
     have b9 := (hHeld.block T (zAp HT.out)).trans HT.out
     have y0 := zAb b9 0
     have y1 := zAb b9 1
     have y2 := zAb b9 2
     have y3 := zAb b9 3
     have y4 := zAb b9 4
     have y5 := zAb b9 5
     have y6 := zAb b9 6
     have y7 := zAb b9 7
     simp only [zC, zA, zB] at y0 y1 y2 y3 y4 y5 y6 y7
     have HFK := zH (MF_FK27 (t := ⟨s, m, a, b⟩) (HMF.out.move (T := fun b => W3.heap.size ≤ b ∧ b < w5.heap.size) (Y := X9) (fun b hb => ⟨hb, hHeld.block b (by have := HV5.out; omega)⟩)) (fun b hb => by have := hHeld.size; have := HV5.out; omega))
     have HLX := zH (Kd.N_below HL.out (zAe HBV.out hHeld))
     have HNL := zH (Kd.N_lt HL.out)
     have HBL := zH (zAe (zAe HB.out HBV.out) hHeld)
     have HW3 := zH (show wr.heap.size ≤ W3.heap.size from HBW3.out.size)
     clear hHeld b9
     go_wp2_with (at_builtin; refine Kd.N_append k27 (w0 := w1) (W := X9) w1.heap.size rfl (.tmp 82) (.tmp 84) 45 27 (.agg Z8) 112 rfl Try.underlying45 zJb rfl (by decide) (by decide) (.slice (some ad) i cu) ls ⟨s, m, a, b⟩ [.int .i64 s, .int .i64 m.f0, .string m.f1, .string m.f2, .slice D3 m.f3.length f3, .slice D4 m.f4.length f4, .int .i64 a, .int .i64 b] (fun k => w1.heap.size ≤ k) (fun b => W3.heap.size ≤ b ∧ b < w5.heap.size) rfl rfl HFK.out (fun k hk => ⟨by have := HW3.out; have := HB.out.size; omega, fun e => by have h1 := HNL.out k (by rw [HPR.out.2.2]; exact e.symm); have := HW3.out; omega⟩) (fun k hk => by have := HBL.out.size; omega) (by have h := HLX.out; rw [HPR.out.2.2] at h; exact h) HBL.out (by have := HBL.out.size; omega) (by rw [HPR.out.2.2]; omega) ?_; intro v1 w2 hN2 hB2 hg2 hat2; have HN2 := zH hN2; have HB2 := zH hB2; clear hN2 hB2 hg2 hat2)
     go_roundw
     case rel =>
      have hk' := HK'.out
      exact ⟨i + 1, pd, ls ++ [⟨s, m, a, b⟩], rd, by go_num, by omega, by rw [List.length_append, HPR.out.2.2]; rfl, HP4.out.2, rfl, rfl, HP4.out.1, zH (by rw [HQ5.out, if_pos HBH.out, show k - (i + 1) = k' by omega]), HN2, HB2⟩
     case measure => simp [intOf]; omega
    have c1 : s ≤ y := by omega
    have c2 : decide (s ≤ y) = true := zT c1
    have HQn := zH (show Q = none by rw [HQ5.out, hbl, zF hc]; rfl)
    clear hbl hc
    refine zCe (n := 22) (S := fun W => Below V.heap.size V W) (ds := []) (msk 22 [0, 1, 2, 3, 4, 5, 6, 7, 8, 9, 10, 11, 13, 14, 15, 16, 17, 12, 18, 19, 20, 21] 0).toArray (by kernel_rfl) rfl rfl (zAr (Below.refl _ _)) (fun hHeld => ?_)
    refine zBh (T := zEz) zDv (fun HT_ => ?_)
    iterate 4 (first | (refine zBi HT_.out (N := some _) (v := ?_) (a' := ?_) rfl rfl (by kernel_rfl) (fun _ _ _ h => h) (Or.inl ⟨by rfl, ?_⟩) ?_ ?_; rotate_left; intro w'; go_simp; (with_reducible rfl); rotate_left; simp only [Act.put, zI, zZ, zS, zAx, zAy, hsub, u2, c2]; rfl) | (refine zCd HT_.out (N := some _) (v := ?_) (a' := ?_) rfl rfl (by kernel_rfl) (fun _ _ _ h => h) (Or.inl ⟨by rfl, ?_⟩) hHeld ?_ ?_; rotate_left; intro w' hh; have q := (hh.block _ (zAp HT.out)).trans HT.out; have q0 := zAb q 0; have q1 := zAb q 1; have q2 := zAb q 2; have q3 := zAb q 3; have q4 := zAb q 4; have q5 := zAb q 5; have q6 := zAb q 6; have q7 := zAb q 7; simp only [zC, zA, zB] at q0 q1 q2 q3 q4 q5 q6 q7; go_simp; (with_reducible rfl); rotate_left; simp only [Act.put, zI, zZ, zS, zAx, zAy, hsub, u2, c2]; rfl))
    refine oneO (i := 4) (N := some 64) HT_.out rfl rfl (by kernel_rfl) (by decide) (fun K_ hK_ => ?_)
    refine zDn Try.func33 (by kernel_rfl) rfl #[.agg #[.int .i64 s, .int .i64 m.f0, .string m.f1, .string m.f2, .slice D3 m.f3.length f3, .slice D4 m.f4.length f4, .int .i64 a, .int .i64 b]] (by rfl) rfl rfl (by (try simp only [List.map_toArray, List.map_cons, List.map_nil]); first | done | rfl) ?_
    (with_reducible refine (H33.out _ hHeld).mono ?_)
    rintro e w9 ⟨rfl, hb9⟩
    refine ⟨_, rfl, ?_⟩
    refine hK_.out _ _ (zAe hHeld hb9) (fun hHeld => ?_)
    clear hK_ K_
    try simp only [Act.put, zI, zZ, zS]
    iterate 13 (first | (refine zBi HT_.out (N := some _) (v := ?_) (a' := ?_) rfl rfl (by kernel_rfl) (fun _ _ _ h => h) (Or.inl ⟨by rfl, ?_⟩) ?_ ?_; rotate_left; intro w'; go_simp; (with_reducible rfl); rotate_left; simp only [Act.put, zI, zZ, zS, zAx, zAy, hsub, u2, c2]; rfl) | (refine zCd HT_.out (N := some _) (v := ?_) (a' := ?_) rfl rfl (by kernel_rfl) (fun _ _ _ h => h) (Or.inl ⟨by rfl, ?_⟩) hHeld ?_ ?_; rotate_left; intro w' hh; have q := (hh.block _ (zAp HT.out)).trans HT.out; have q0 := zAb q 0; have q1 := zAb q 1; have q2 := zAb q 2; have q3 := zAb q 3; have q4 := zAb q 4; have q5 := zAb q 5; have q6 := zAb q 6; have q7 := zAb q 7; simp only [zC, zA, zB] at q0 q1 q2 q3 q4 q5 q6 q7; go_simp; (with_reducible rfl); rotate_left; simp only [Act.put, zI, zZ, zS, zAx, zAy, hsub, u2, c2]; rfl))
    iterate 4 (first | (refine zBi HT_.out (N := some _) (v := ?_) (a' := ?_) rfl rfl (by kernel_rfl) (fun _ _ _ h => h) (Or.inl ⟨by rfl, ?_⟩) ?_ ?_; rotate_left; intro w'; go_simp; (with_reducible rfl); rotate_left; simp only [Act.put, zI, zZ, zS, zAx, zAy, hsub, u2, c2]; rfl) | (refine zCd HT_.out (N := some _) (v := ?_) (a' := ?_) rfl rfl (by kernel_rfl) (fun _ _ _ h => h) (Or.inl ⟨by rfl, ?_⟩) hHeld ?_ ?_; rotate_left; intro w' hh; have q := zAf hh KL.out; go_simp; (with_reducible rfl); rotate_left; simp only [Act.put, zI, zZ, zS, zAx, zAy, hsub, u2, c2]; rfl))
    refine zEg (zBz HT_.out (by kernel_rfl)) ?_
    have HBF := zH (zAe (zAe HB.out HBV.out) hHeld)
    clear hHeld
    go_wp2
    go_ret3
    exact ⟨HBF.out, Or.inl ⟨HQn.out, rfl⟩⟩
   obtain rfl : i = k := by omega
   have hQf := zH (show Q = some (ls, rr) by rw [HQi.out, Nat.sub_self, zDz])
   obtain ⟨hN1, hN2, hN3⟩ := Kd.N_reads' HL.out
   have HN3 := zH hN3
   have HN2 := zH hN2
   clear hN3 hN1 hN2 HQi
   go_wp2
   go_ret3
   have hli := HPR.out.2.2
   exact ⟨HB.out, Or.inr ⟨ls, rr, Au, cu, hQf.out, by rw [hli, show (p : Int) = (n : Int) - (rr.length : Nat) by have := congrArg List.length HPR.out.1; rw [List.length_drop, HN.out] at this; omega]; rfl, HN2.out, HN3.out⟩⟩
 have HQn := zH (show Q = none by rw [HQ.out, hq]; exact if_neg hk)
 have t1 : (64 : Int) < (k : Int) := by omega
 have t2 : decide ((64 : Int) < (k : Int)) = true := zT t1
 clear hC hn hq eQ HQ hp0 hp1 hp2 hp3 hp4 hj1 hj1I
 go_enter Try.func74, Try.ntmps74
 go_wp2_with fail
 (with_reducible refine h1.out.mono ?_)
 rintro e w1 ⟨rfl, rfl⟩
 go_wp2
 go_ret3
 exact ⟨Below.refl _ _, Or.inl ⟨HQn.out, rfl⟩⟩
def raB (a : Int) : Bool := decide (0 ≤ a ∧ a ≤ 1099511634240 ∧ Int.tmod a 8640 = 0)
theorem zHn (w : World) (a : Int) (v : Bool) (hv : raB a = v) : Calls Try.prog 98 #[.int .i64 a] w fun e w' => e = .returned (.bool v) ∧ Below w.heap.size w w' := by
 refine (varveref19_Aligned.calls a v w ?_).mono fun _ _ h => ⟨h.1, h.2.below⟩
 rw [← hv]
 unfold varveref19_Aligned.f raB
 by_cases h1 : 0 ≤ a
 ·rw [if_pos h1]
  by_cases h3 : a ≤ 1099511634240
  ·rw [if_pos h3]
   congr 1
   rw [Bool.eq_iff_iff, beq_iff_eq, decide_eq_true_iff]
   exact ⟨fun h => ⟨h1, h3, h⟩, fun h => h.2.2⟩
  rw [if_neg h3, zF (fun h => h3 h.2.1)]
 rw [if_neg h1, zF (fun h => h1 h.1)]
theorem tombB_ref (s a b : Int) (m : S25) : zCr s a b m = (decide (1 ≤ s) && decide (s ≤ 1099511627776) && chkB m && decide (a < b) && raB a && raB b) := by
 unfold zCr alignB raB
 rw [Bool.eq_iff_iff]
 simp only [Bool.and_eq_true, decide_eq_true_iff]
 constructor
 ·rintro ⟨⟨⟨h1, h2⟩, h3, h4, h5, h6, h7⟩, h8⟩
  exact ⟨⟨⟨⟨⟨h1, h2⟩, h8⟩, h4⟩, h3, by omega, h6⟩, by omega, h5, h7⟩
 rintro ⟨⟨⟨⟨⟨h1, h2⟩, h8⟩, h4⟩, h3, _, h6⟩, _, h5, h7⟩
 exact ⟨⟨⟨h1, h2⟩, h3, h4, h5, h6, h7⟩, h8⟩
theorem refCheck35 (w : World) (s a b : Int) (m : S25) (A3 : Option Addr) (c3 : Nat) (A4 : Option Addr) (c4 : Nat) (hbd : boundM m) (hM : MC w m A3 c3 A4 c4) :
  Calls Try.prog 35 #[.agg #[.int .i64 s, .int .i64 m.f0, .string m.f1, .string m.f2, .slice A3 m.f3.length c3, .slice A4 m.f4.length c4, .int .i64 a, .int .i64 b]] w fun e w' => e = .returned (.bool (zCr s a b m)) ∧ Below w.heap.size w w' := by
 have hB0 : Below w.heap.size w (w.alloc (.cells #[.int .i64 s, .int .i64 m.f0, .string m.f1, .string m.f2, .slice A3 m.f3.length c3, .slice A4 m.f4.length c4, .int .i64 a, .int .i64 b] 27)) := zAc (Below.refl _ _) _
 have hX0 : BoxT (w.alloc (.cells #[.int .i64 s, .int .i64 m.f0, .string m.f1, .string m.f2, .slice A3 m.f3.length c3, .slice A4 m.f4.length c4, .int .i64 a, .int .i64 b] 27)) w.heap.size s m.f0 m.f1 m.f2 (.slice A3 m.f3.length c3) (.slice A4 m.f4.length c4) a b := zAs w _
 have hr := tombB_ref s a b m
 by_cases h1 : 1 ≤ s
 ·by_cases h2 : s ≤ 1099511627776
  ·rw [zT h1, zT h2, Bool.true_and, Bool.true_and] at hr
   cases h3 : chkB m with
   | false =>
    rw [h3] at hr
    rw [hr, Bool.false_and, Bool.false_and, Bool.false_and]
    have H3 := zH h3
    clear h3 hr
    go_enter Try.func35, Try.ntmps35
    go_wp2_with fail
    (with_reducible refine (zFp _ m A3 c3 A4 c4 false H3.out hbd (hM.below hB0)).mono ?_)
    rintro e w1 ⟨rfl, hb1⟩
    go_wp2_with fail
    go_ret
    exact ⟨rfl, zAe hB0 hb1⟩
   | true =>
   rw [h3, Bool.true_and] at hr
   have H3 := zH h3
   by_cases h4 : a < b
   ·rw [zT h4, Bool.true_and] at hr
    cases h5 : raB a with
    | false =>
     rw [h5] at hr
     rw [hr, Bool.false_and]
     have H5 := zH h5
     clear h3 hr h5
     go_enter Try.func35, Try.ntmps35
     go_wp2_with fail
     (with_reducible refine (zFp _ m A3 c3 A4 c4 true H3.out hbd (hM.below hB0)).mono ?_)
     rintro e w1 ⟨rfl, hb1⟩
     obtain ⟨-, -, -, -, -, -, x6, x7⟩ := (hX0.below hb1).all
     go_wp2_with fail
     (with_reducible refine (zHn _ a false H5.out).mono ?_)
     rintro e w2 ⟨rfl, hb2⟩
     go_wp2_with fail
     go_ret
     exact ⟨rfl, zAe (zAe hB0 hb1) hb2⟩
    | true =>
    rw [h5, Bool.true_and] at hr
    rw [hr]
    have H5 := zH h5
    clear h3 hr h5
    go_enter Try.func35, Try.ntmps35
    go_wp2_with fail
    (with_reducible refine (zFp _ m A3 c3 A4 c4 true H3.out hbd (hM.below hB0)).mono ?_)
    rintro e w1 ⟨rfl, hb1⟩
    have hX1 := hX0.below hb1
    obtain ⟨-, -, -, -, -, -, x6, x7⟩ := hX1.all
    go_wp2_with fail
    (with_reducible refine (zHn _ a true H5.out).mono ?_)
    rintro e w2 ⟨rfl, hb2⟩
    obtain ⟨-, -, -, -, -, -, -, y7⟩ := (hX1.below hb2).all
    go_wp2_with fail
    (with_reducible refine (zHn _ b _ rfl).mono ?_)
    rintro e w3 ⟨rfl, hb3⟩
    go_wp2_with fail
    go_ret
    exact ⟨rfl, zAe (zAe (zAe hB0 hb1) hb2) hb3⟩
   rw [zF h4, Bool.false_and, Bool.false_and] at hr
   rw [hr]
   clear h3 hr
   go_enter Try.func35, Try.ntmps35
   go_wp2_with fail
   (with_reducible refine (zFp _ m A3 c3 A4 c4 true H3.out hbd (hM.below hB0)).mono ?_)
   rintro e w1 ⟨rfl, hb1⟩
   obtain ⟨-, -, -, -, -, -, x6, x7⟩ := (hX0.below hb1).all
   go_wp2_with fail
   go_ret
   exact ⟨rfl, zAe hB0 hb1⟩
  rw [zT h1, zF h2] at hr
  simp only [Bool.true_and, Bool.false_and] at hr
  rw [hr]
  clear hr
  go_enter Try.func35, Try.ntmps35
  go_wp2_with fail
  go_ret
  exact ⟨rfl, hB0⟩
 rw [zF h1] at hr
 simp only [Bool.false_and] at hr
 rw [hr]
 clear hr
 go_enter Try.func35, Try.ntmps35
 go_wp2_with fail
 go_ret
 exact ⟨rfl, hB0⟩
theorem decMt_bound {r t : List UInt8} {m : S25} (h : zGb r = some (m, t)) : boundM m := by
 unfold zGb at h
 rw [Option.map_eq_some_iff] at h
 obtain ⟨q, hq, e⟩ := h
 simp only [Prod.mk.injEq] at e
 rw [← e.1]
 exact zGh _ _ _ _ _ _ (Option.filter_eq_some_iff.1 hq).1
def RTGetPost (w0 w : World) (g : Nat) (A : Option Addr) (n c : Nat) (Q : Option (List S27 × List UInt8)) (e : Ending) (w' : World) : Prop :=
 Below w0.heap.size w0 w' ∧ KeepBut w w' g none ∧ ((Q = none ∧ e = .returned (.slice none 0 0) ∧ ∃ i, RB w' g A n c i true) ∨ ∃ l r D d, Q = some (l, r) ∧ e = .returned (.slice D l.length d) ∧ l.length ≤ d ∧ Kd.C k27 w' D l.length l ∧ RB w' g A n c ((n : Int) - (r.length : Nat)) false)
theorem zEt {w W : World} {g T o : Nat} {u : Value} (h : KeepBut w W g none) (hT : w.heap.size ≤ T) : KeepBut w (W.setCell ⟨T, o, none⟩ u) g none :=
 ⟨by simpa [World.setCell] using h.1, fun i hi h1 h2 => (Below.heap_setCell W ⟨T, o, none⟩ u i (show i ≠ T by omega)).trans (h.2 i hi h1 h2)⟩
def IntAny (b : Bool) (n : Nat) (r : List UInt8) (v i' : Int) (b' : Bool) : Prop := ((b = true ∨ decI r = none) ∧ b' = true) ∨ (b = false ∧ ∃ t, decI r = some (v, t) ∧ i' = (n : Int) - (t.length : Nat) ∧ b' = false)
theorem int121 (w0 w : World) (g : Nat) (A : Option Addr) (n c : Nat) (bs : List UInt8) (at_ : Int) (b : Bool) (hn : bs.length = n) (hl : n ≤ 1000000000000000) (hg : w0.heap.size ≤ g) (hB : Below w0.heap.size w0 w) (hS : RB w g A n c at_ b) (hC0 : (Kd.int .u8).C w0 A bs.length (bys bs)) :
  Calls Try.prog 121 #[.pointer (some ⟨g, 0, none⟩)] w fun e w' => ∃ v i' b', e = .returned (.int .i64 v) ∧ Below w0.heap.size w0 w' ∧ KeepBut w w' g none ∧ RB w' g A n c i' b' ∧ Hid (∀ (j : Nat) (r : List UInt8), (b = false → at_ = (j : Int) ∧ bs.drop j = r) → IntAny b n r v i' b') := by
 refine (rint121 w0 w g A n c bs at_ b hn hl hg hB hS hC0).mono ?_
 rintro e w' ⟨h1, h2, ⟨h3, h4, i, h5⟩ | ⟨u, r, h3, h4, h5⟩⟩
 ·refine ⟨0, i, true, h4, h1, h2, h5, zH (fun j r hr => Or.inl ⟨?_, rfl⟩)⟩
  cases b with
  | true => exact Or.inl rfl
  | false =>
  obtain ⟨rfl, hr'⟩ := hr rfl
  right
  unfold numW at h3
  rw [if_neg (by decide), getW_at hr'] at h3
  unfold decI
  rw [h3]
  rfl
 refine ⟨zag u, _, false, h4, h1, h2, h5, zH (fun j r' hr => Or.inr ?_)⟩
 cases b with
 | true => unfold numW at h3; simp at h3
 | false =>
 obtain ⟨rfl, hr'⟩ := hr rfl
 unfold numW at h3
 rw [if_neg (by decide), getW_at hr'] at h3
 refine ⟨rfl, r, ?_, rfl, rfl⟩
 unfold decI
 rw [h3]
 rfl
theorem mat91 (w0 w : World) (g : Nat) (A : Option Addr) (n c : Nat) (bs : List UInt8) (at_ : Int) (b : Bool) (hn : bs.length = n) (hnl : n ≤ 1000000000000000) (hnc : n ≤ c) (hg : w0.heap.size ≤ g) (hB : Below w0.heap.size w0 w) (hS : RB w g A n c at_ b) (hC0 : (Kd.int .u8).C w0 A bs.length (bys bs)) :
  Calls Try.prog 91 #[.pointer (some ⟨g, 0, none⟩)] w fun e w' => ∃ x0 x1 x2 D3 m3 f3 D4 m4 f4 i' b', e = .returned (.agg #[.int .i64 x0, .string x1, .string x2, .slice D3 m3 f3, .slice D4 m4 f4]) ∧ Below w0.heap.size w0 w' ∧ KeepBut w w' g none ∧ RB w' g A n c i' b' ∧ Hid (∀ (j : Nat) (r : List UInt8), (b = false → at_ = (j : Int) ∧ bs.drop j = r) → ((b = true ∨ zGb r = none) ∧ b' = true) ∨ (b = false ∧ b' = false ∧ ∃ (m : S25) (t : List UInt8), zGb r = some (m, t) ∧ x0 = m.f0 ∧ x1 = m.f1 ∧ x2 = m.f2 ∧ m3 = m.f3.length ∧ m4 = m.f4.length ∧ i' = (n : Int) - (t.length : Nat) ∧ MF w' (fun k => w.heap.size ≤ k ∧ k < w'.heap.size) m D3 f3 D4 f4)) := by
 refine (rmget91 w0 w g A n c bs at_ b hn hnl hnc hg hB hS hC0).mono ?_
 rintro e w' ⟨h1, h2, ⟨h3, h4, i, h5⟩ | ⟨m, r, D3, f3, D4, f4, h3, h4, h5, h6⟩⟩
 ·refine ⟨_, _, _, _, _, _, _, _, _, i, true, h4, h1, h2, h5, zH (fun j r hr => Or.inl ⟨?_, rfl⟩)⟩
  cases b with
  | true => exact Or.inl rfl
  | false =>
  obtain ⟨rfl, hr'⟩ := hr rfl
  right
  rw [if_neg (by decide), mat_at hr'] at h3
  exact h3
 refine ⟨_, _, _, D3, _, f3, D4, _, f4, _, false, h4, h1, h2, h6, zH (fun j r' hr => Or.inr ?_)⟩
 cases b with
 | true => simp at h3
 | false =>
 obtain ⟨rfl, hr'⟩ := hr rfl
 rw [if_neg (by decide), mat_at hr'] at h3
 exact ⟨rfl, rfl, m, r, h3, rfl, rfl, rfl, rfl, rfl, rfl, h5⟩
noncomputable def zEy : Bool × List (List Nat × List Nat) := rtab .any (zFs Try.f76 11)
theorem zDu : rtab .any (zFs Try.f76 11) = zEy := rfl
theorem rtget76 (w0 w : World) (g : Nat) (A : Option Addr) (n c : Nat) (bs : List UInt8) (at_ : Int) (hn : bs.length = n) (hnl : n ≤ 1000000000000000) (hnc : n ≤ c) (hg : w0.heap.size ≤ g) (hB : Below w0.heap.size w0 w) (hS : RB w g A n c at_ false) (hC0 : (Kd.int .u8).C w0 A bs.length (bys bs)) :
  Calls Try.prog 76 #[.pointer (some ⟨g, 0, none⟩)] w (RTGetPost w0 w g A n c (zFq bs at_)) := by
 have HN := zH hn
 have HC := zH hC0
 have HGL := zH hS.lt
 have HWW := zH hB.size
 obtain ⟨Q, eQ⟩ : ∃ Q, zFq bs at_ = Q := ⟨_, rfl⟩
 rw [eQ]
 have h1 := zH (cnt120 w0 w g A n c bs at_ false 64 64 rfl (by decide) hn hnl hg hB hS hC0)
 have HQ : Hid (Q = match getW bs at_ with
   | none => none
   | some (k, r1) => if k ≤ 64 then zDz k [] r1 else none) := zH (by
  rw [← eQ]
  unfold zFq getW decTL
  split
  ·rfl
  ·cases decV 0 0 (bs.drop at_.toNat) <;> rfl)
 have HB0 := zH hB
 clear hn hS hC0 eQ hB
 go_enter Try.func76, Try.ntmps76
 go_wp2_with fail
 refine h1.out.mono ?_
 rintro e w1 ⟨k, i1, bb, rfl, hB1, hK1, hR1, hk64, HT1⟩
 clear h1
 cases bb with
 | true =>
  have HQn : Hid (Q = none ∧ k = 0 ∨ Q = none) := zH (Or.inr (by
   rcases HT1.out with ⟨h, -⟩ | ⟨r, -, -, h⟩
   ·rw [HQ.out]
    unfold zFf numW at h
    rw [if_neg (by decide)] at h
    cases hq : getW bs at_ with
    | none => rfl
    | some q =>
    rw [hq] at h
    simp only at h ⊢
    split
    ·next hk => exact zJi _ _ _ (by
      rcases Nat.lt_or_ge q.2.length q.1 with h2 | h2
      ·exact h2
      ·rw [if_pos ⟨hk, h2⟩] at h; cases h)
    rfl
   cases h))
  have HB1 := zH hB1
  have HK1 := zH hK1
  have HR1 := zH hR1
  have g2 := hR1.c2
  clear hB1 hK1 hR1 HT1 HQ
  go_wp2
  refine wp_loop_rounds 1 ?_
  rw [rounds_succ]
  by_cases h0 : 0 < k
  ·have h0I : (0 : Int) < (k : Int) := by omega
   go_wp2
   go_ret
   exact ⟨HB1.out, HK1.out, Or.inl ⟨by rcases HQn.out with ⟨h, -⟩ | h <;> exact h, rfl, _, HR1.out⟩⟩
  have h0I : ¬ (0 : Int) < (k : Int) := by omega
  go_wp2
  go_ret
  exact ⟨HB1.out, HK1.out, Or.inl ⟨by rcases HQn.out with ⟨h, -⟩ | h <;> exact h, rfl, _, HR1.out⟩⟩
 | false =>
 obtain ⟨r1, hcq, rfl, -⟩ : ∃ r, zFf false 64 bs at_ = some (k, r) ∧ i1 = (n : Int) - (r.length : Nat) ∧ false = false := by
  rcases HT1.out with ⟨-, h⟩ | ⟨r, h1, h2, h3⟩
  ·cases h
  exact ⟨r, h1, h2, h3⟩
 have hgq : getW bs at_ = some (k, r1) := by
  unfold zFf numW at hcq
  rw [if_neg (by decide)] at hcq
  split at hcq
  ·cases hcq
  next m r h =>
  split at hcq
  ·simp only [Option.some.injEq, Prod.mk.injEq] at hcq
   obtain ⟨rfl, rfl⟩ := hcq
   exact h
  cases hcq
 obtain ⟨hp0, hp1, hp2, hp3, hp4⟩ := zCk hgq
 obtain ⟨j1, hj1⟩ : ∃ j1 : Nat, bs.length - r1.length = j1 := ⟨_, rfl⟩
 rw [hj1] at hp2 hp3
 have hnn := HN.out
 have hj1I : (n : Int) - (r1.length : Nat) = (j1 : Int) := by omega
 rw [hj1I] at hR1
 have HQ1 := zH (show Q = zDz (k - 0) [] r1 by rw [HQ.out, hgq]; exact if_pos hk64)
 have HP := zH (And.intro hp3 (show j1 ≤ n by omega))
 have HK1 := zH hK1
 have HB1 := zH hB1
 clear hgq hcq hp0 hp1 hp2 hp3 hp4 hj1 hj1I HT1 HQ hK1 hB1 hnn
 go_wp2
 go_loopw [4, 5, 6] (fun u4 u5 _ wr => ∃ (i p : Nat) (ls : List S27) (rr : List UInt8), u5 = .int .i64 (i : Nat) ∧ i ≤ k ∧ ls.length = i ∧ p ≤ n ∧ bs.drop p = rr ∧ RB wr g A n c (p : Int) false ∧ Hid (Q = zDz (k - i) ls rr) ∧ Hid (Kd.N k27 27 wr w.heap.size (fun b => w.heap.size ≤ b) u4 ls) ∧ Hid (Below w0.heap.size w0 wr) ∧ Hid (KeepBut w wr g none))
  (fun _ u5 _ _ => k - (intOf u5).toNat)
 case atStart => exact ⟨0, j1, [], r1, rfl, Nat.zero_le _, rfl, HP.out.2, HP.out.1, hR1, HQ1, zH (Kd.N_nil k27 27 w1 w.heap.size _), HB1, HK1⟩
 case round =>
  clear hR1 HQ1 HB1 HK1
  obtain ⟨i, p, ls, rr, rfl, hik, hli, hpn, hpr, hRr, HQi, HL, HB, HKr⟩ := hrel
  obtain ⟨Au, cu, rfl⟩ := Kd.N_slice HL.out
  have HPR := zH (And.intro hpr (And.intro hpn hli))
  have HRr := zH hRr
  have g2 := hRr.c2
  rw [hli]
  clear hpr hli
  by_cases hlt : i < k
  ·obtain ⟨k', hk'⟩ : ∃ k', k - i = k' + 1 := ⟨k - i - 1, by omega⟩
   have HQ0 : Hid (Q = match zFo rr with
    | none => none
    | some (t, r1) => if behind ls t.f0 = true then zDz k' (ls ++ [t]) r1 else none) := zH (by rw [HQi.out, hk', zDz]; all_goals (cases zFo rr <;> rfl))
   have HK' := zH hk'
   obtain ⟨W0, eW0⟩ : ∃ W0, W0 = wr.alloc (.cells Z8 27) := ⟨_, rfl⟩
   obtain ⟨T, eT⟩ : ∃ T, wr.heap.size = T := ⟨_, rfl⟩
   have hbW : Below wr.heap.size wr W0 := by rw [eW0]; exact zAc (Below.refl _ _) _
   have HT0 : Hid (W0.heap[T]? = some (.cells Z8 27 (0, 0))) := zH (by rw [eW0, ← eT]; exact zAs wr _)
   have HBW0 : Hid (Below w0.heap.size w0 W0) := zH (HB.out.trans (hbW.mono HB.out.size))
   have HKW0 : Hid (KeepBut wr W0 g none) := zH (KeepBut.of_below hbW g none)
   have hr0 : RB W0 g A n c (p : Int) false := hRr.below hbW
   have HTT := zH (show wr.heap.size ≤ T ∧ w0.heap.size ≤ T ∧ g < T from ⟨Nat.le_of_eq eT, by have := HB.out.size; omega, by have := HKr.out.1; have := HGL.out; omega⟩)
   clear hk' HQi hbW hRr
   have h2 := int121 w0 W0 g A n c bs (p : Int) false HN.out hnl hg HBW0.out hr0 HC.out
   have H2 := zH h2
   clear h2 hr0
   go_wp2_with fail
   rw [← eW0]
   clear eW0
   refine H2.out.mono ?_
   rintro e w2 ⟨s, i2, b2, rfl, hB2, hK2, hR2, HI2⟩
   have hb2 := (hK2.2 T (zAp HT0.out) (by have := HTT.out; omega) (by simp)).trans HT0.out
   obtain ⟨W1, eW1⟩ : ∃ W', W' = w2.setCell ⟨T, 0, none⟩ (.int .i64 s) := ⟨_, rfl⟩
   have HT1 : Hid (W1.heap[T]? = some (.cells #[.int .i64 s, .int .i64 0, .string ⟨#[]⟩, .string ⟨#[]⟩, .slice none 0 0, .slice none 0 0, .int .i64 0, .int .i64 0] 27 (0, 0))) := zH (by rw [eW1]; exact (zAn hb2 0 _).trans (by rfl))
   have HBW1 : Hid (Below w0.heap.size w0 W1) := zH (by rw [eW1]; exact hB2.setCell HTT.out.2.1 _)
   have HKW1 : Hid (KeepBut wr W1 g none) := zH (by rw [eW1]; exact zEt (HKW0.out.trans hK2 (Or.inl rfl)) HTT.out.1)
   have hr1 : RB W1 g A n c i2 b2 := by rw [eW1]; exact (Below.heap_setCell _ _ _ _ (show g ≠ T by have := HTT.out; omega)).trans hR2
   have x := zAb hb2 0
   have v := zAa hb2 0
   simp only [zC, zA, zB] at x
   have H3 := zH (int121 w0 W1 g A n c bs i2 b2 HN.out hnl hg HBW1.out hr1 HC.out)
   clear hb2 hB2 hK2 hR2 hr1 HT0 HBW0 HKW0 H2
   go_wp2_with fail
   rw [← eW1]
   clear x v eW1
   refine H3.out.mono ?_
   clear H3
   rintro e w3 ⟨a, i3, b3, rfl, hB3, hK3, hR3, HI3⟩
   have hb3 := (hK3.2 T (zAp HT1.out) (by have := HTT.out; omega) (by simp)).trans HT1.out
   obtain ⟨W2, eW2⟩ : ∃ W', W' = w3.setCell ⟨T, 6, none⟩ (.int .i64 a) := ⟨_, rfl⟩
   have HT2 : Hid (W2.heap[T]? = some (.cells #[.int .i64 s, .int .i64 0, .string ⟨#[]⟩, .string ⟨#[]⟩, .slice none 0 0, .slice none 0 0, .int .i64 a, .int .i64 0] 27 (0, 0))) := zH (by rw [eW2]; exact (zAn hb3 6 _).trans (by rfl))
   have HBW2 : Hid (Below w0.heap.size w0 W2) := zH (by rw [eW2]; exact hB3.setCell HTT.out.2.1 _)
   have HKW2 : Hid (KeepBut wr W2 g none) := zH (by rw [eW2]; exact zEt (HKW1.out.trans hK3 (Or.inl rfl)) HTT.out.1)
   have hr2 : RB W2 g A n c i3 b3 := by rw [eW2]; exact (Below.heap_setCell _ _ _ _ (show g ≠ T by have := HTT.out; omega)).trans hR3
   have x := zAb hb3 6
   have v := zAa hb3 6
   simp only [zC, zA, zB] at x
   have H3 := zH (int121 w0 W2 g A n c bs i3 b3 HN.out hnl hg HBW2.out hr2 HC.out)
   clear hb3 hB3 hK3 hR3 hr2 HT1 HBW1 HKW1 
   go_wp2_with fail
   rw [← eW2]
   clear x v eW2
   refine H3.out.mono ?_
   clear H3
   rintro e w4 ⟨b, i4, b4, rfl, hB4, hK4, hR4, HI4⟩
   have hb4 := (hK4.2 T (zAp HT2.out) (by have := HTT.out; omega) (by simp)).trans HT2.out
   obtain ⟨W3, eW3⟩ : ∃ W', W' = w4.setCell ⟨T, 7, none⟩ (.int .i64 b) := ⟨_, rfl⟩
   have HT3 : Hid (W3.heap[T]? = some (.cells #[.int .i64 s, .int .i64 0, .string ⟨#[]⟩, .string ⟨#[]⟩, .slice none 0 0, .slice none 0 0, .int .i64 a, .int .i64 b] 27 (0, 0))) := zH (by rw [eW3]; exact (zAn hb4 7 _).trans (by rfl))
   have HBW3 : Hid (Below w0.heap.size w0 W3) := zH (by rw [eW3]; exact hB4.setCell HTT.out.2.1 _)
   have HKW3 : Hid (KeepBut wr W3 g none) := zH (by rw [eW3]; exact zEt (HKW2.out.trans hK4 (Or.inl rfl)) HTT.out.1)
   have hr3 : RB W3 g A n c i4 b4 := by rw [eW3]; exact (Below.heap_setCell _ _ _ _ (show g ≠ T by have := HTT.out; omega)).trans hR4
   have x := zAb hb4 7
   have v := zAa hb4 7
   simp only [zC, zA, zB] at x
   have H3 := zH (mat91 w0 W3 g A n c bs i4 b4 HN.out hnl hnc hg HBW3.out hr3 HC.out)
   clear hb4 hB4 hK4 hR4 hr3 HT2 HBW2 HKW2 
   go_wp2_with fail
   rw [← eW3]
   clear x v eW3
   refine H3.out.mono ?_
   clear H3
   rintro e w5 ⟨x0, x1, x2, D3, m3, f3, D4, m4, f4, i5, b5, rfl, hB5, hK5, hR5, HI5⟩
   have hb5 := (hK5.2 T (zAp HT3.out) (by have := HTT.out; omega) (by simp)).trans HT3.out
   obtain ⟨V, eV⟩ : ∃ V, V = ((((w5.setCell ⟨T, 1, none⟩ (.int .i64 x0)).setCell ⟨T, 2, none⟩ (.string x1)).setCell ⟨T, 3, none⟩ (.string x2)).setCell ⟨T, 4, none⟩ (.slice D3 m3 f3)).setCell ⟨T, 5, none⟩ (.slice D4 m4 f4) := ⟨_, rfl⟩
   have HT : Hid (V.heap[T]? = some (.cells #[.int .i64 s, .int .i64 x0, .string x1, .string x2, .slice D3 m3 f3, .slice D4 m4 f4, .int .i64 a, .int .i64 b] 27 (0, 0))) := zH (by rw [eV]; exact (zAn (zAn (zAn (zAn (zAn hb5 1 _) 2 _) 3 _) 4 _) 5 _).trans (by rfl))
   have HBV : Hid (Below w0.heap.size w0 V) := zH (by rw [eV]; exact ((((hB5.setCell HTT.out.2.1 _).setCell HTT.out.2.1 _).setCell HTT.out.2.1 _).setCell HTT.out.2.1 _).setCell HTT.out.2.1 _)
   have HKV : Hid (KeepBut wr V g none) := zH (by rw [eV]; exact zEt (zEt (zEt (zEt (zEt (HKW3.out.trans hK5 (Or.inl rfl)) HTT.out.1) HTT.out.1) HTT.out.1) HTT.out.1) HTT.out.1)
   have hne : g ≠ T := by have := HTT.out; omega
   have HRV : Hid (RB V g A n c i5 b5) := zH (by rw [eV]; exact (Below.heap_setCell _ _ _ _ hne).trans ((Below.heap_setCell _ _ _ _ hne).trans ((Below.heap_setCell _ _ _ _ hne).trans ((Below.heap_setCell _ _ _ _ hne).trans ((Below.heap_setCell _ _ _ _ hne).trans hR5)))))
   have HFAR : Hid (∀ j, j ≠ T → V.heap[j]? = w5.heap[j]?) := zH (fun j hj => by rw [eV]; exact (Below.heap_setCell _ _ _ _ hj).trans ((Below.heap_setCell _ _ _ _ hj).trans ((Below.heap_setCell _ _ _ _ hj).trans ((Below.heap_setCell _ _ _ _ hj).trans (Below.heap_setCell _ _ _ _ hj)))))
   obtain ⟨WS, eWS⟩ : ∃ WS, W3.heap.size = WS := ⟨_, rfl⟩
   obtain ⟨w5S, ew5S⟩ : ∃ w5S, w5.heap.size = w5S := ⟨_, rfl⟩
   have HV5 : Hid (w5S = V.heap.size ∧ WS ≤ w5S ∧ T < WS ∧ wr.heap.size ≤ T) := zH ⟨by rw [eV, ← ew5S]; simp, by rw [← eWS, ← ew5S]; exact hK5.1, by rw [← eWS]; exact zAp HT3.out, HTT.out.1⟩
   have xq1 := zAb hb5 1
   have vq1 := zAa hb5 1
   have xq2 := zAb hb5 2
   have vq2 := zAa hb5 2
   have xq3 := zAb hb5 3
   have vq3 := zAa hb5 3
   have xq4 := zAb hb5 4
   have vq4 := zAa hb5 4
   have xq5 := zAb hb5 5
   have vq5 := zAa hb5 5
   simp only [zC, zA, zB] at xq1 xq2 xq3 xq4 xq5
   have HCH : Hid ((b5 = true ∧ Q = none) ∨ (b5 = false ∧ ∃ (m : S25) (rd : List UInt8) (pd : Nat), x0 = m.f0 ∧ x1 = m.f1 ∧ x2 = m.f2 ∧ m3 = m.f3.length ∧ m4 = m.f4.length ∧ MF w5 (fun k => WS ≤ k ∧ k < w5S) m D3 f3 D4 f4 ∧ i5 = (pd : Int) ∧ pd ≤ n ∧ bs.drop pd = rd ∧ (Q = if zCr s a b m = true then (if behind ls s = true then zDz k' (ls ++ [⟨s, m, a, b⟩]) rd else none) else none) ∧ boundM m)) := by
    refine zH ?_
    rcases HI2.out p rr (fun _ => ⟨rfl, HPR.out.1⟩) with ⟨h1, h1b⟩ | ⟨-, ra, h1, h1i, h1b⟩
    ·subst h1b
     have hn1 : decI rr = none := by rcases h1 with h | h; cases h; exact h
     have hQn : Q = none := by rw [HQ0.out]; unfold zFo; rw [hn1]
     rcases HI3.out 0 [] (fun h => by cases h) with ⟨-, h2b⟩ | ⟨h, -⟩
     ·subst h2b
      rcases HI4.out 0 [] (fun h => by cases h) with ⟨-, h3b⟩ | ⟨h, -⟩
      ·subst h3b
       rcases HI5.out 0 [] (fun h => by cases h) with ⟨-, h4b⟩ | ⟨h, -⟩
       ·exact Or.inl ⟨h4b, hQn⟩
       cases h
      cases h
     cases h
    subst h1b
    obtain ⟨pa, hpa, hpaI, hra⟩ := zIc (by rw [HPR.out.1]; exact zEj h1) HN.out HPR.out.2.1
    rcases HI3.out pa ra (fun _ => ⟨by rw [h1i, hpaI], hra⟩) with ⟨h2, h2b⟩ | ⟨-, rb, h2, h2i, h2b⟩
    ·subst h2b
     have hn2 : decI ra = none := by rcases h2 with h | h; cases h; exact h
     have hQn : Q = none := by rw [HQ0.out]; unfold zFo; rw [h1]; simp only [hn2]
     rcases HI4.out 0 [] (fun h => by cases h) with ⟨-, h3b⟩ | ⟨h, -⟩
     ·subst h3b
      rcases HI5.out 0 [] (fun h => by cases h) with ⟨-, h4b⟩ | ⟨h, -⟩
      ·exact Or.inl ⟨h4b, hQn⟩
      cases h
     cases h
    subst h2b
    obtain ⟨pb, hpb, hpbI, hrb⟩ := zIc (by rw [hra]; exact zEj h2) HN.out hpa
    rcases HI4.out pb rb (fun _ => ⟨by rw [h2i, hpbI], hrb⟩) with ⟨h3, h3b⟩ | ⟨-, rc, h3, h3i, h3b⟩
    ·subst h3b
     have hn3 : decI rb = none := by rcases h3 with h | h; cases h; exact h
     have hQn : Q = none := by rw [HQ0.out]; unfold zFo; rw [h1]; simp only [h2, hn3]
     rcases HI5.out 0 [] (fun h => by cases h) with ⟨-, h4b⟩ | ⟨h, -⟩
     ·exact Or.inl ⟨h4b, hQn⟩
     cases h
    subst h3b
    obtain ⟨pc, hpc, hpcI, hrc⟩ := zIc (by rw [hrb]; exact zEj h3) HN.out hpb
    rcases HI5.out pc rc (fun _ => ⟨by rw [h3i, hpcI], hrc⟩) with ⟨h4, h4b⟩ | ⟨-, h4b, m, rd, h4, e0, e1, e2, e3, e4, e5, hMF⟩
    ·have hn4 : zGb rc = none := by rcases h4 with h | h; cases h; exact h
     exact Or.inl ⟨h4b, by rw [HQ0.out]; unfold zFo; rw [h1]; simp only [h2, h3, hn4]⟩
    obtain ⟨pd, hpd, hpdI, hrd⟩ := zIc (by rw [hrc]; exact zJj h4) HN.out hpc
    rw [eWS, ew5S] at hMF
    refine Or.inr ⟨h4b, m, rd, pd, e0, e1, e2, e3, e4, hMF, by rw [e5, hpdI], hpd, hrd, ?_, decMt_bound h4⟩
    rw [HQ0.out]
    unfold zFo
    rw [h1]
    simp only [h2, h3, h4]
    cases zCr s a b m <;> simp
   clear hb5 hB5 hK5 hR5 HI2 HI3 HI4 HI5 HT3 HBW3 HKW3 eWS ew5S HQ0
   go_wp2_with fail
   rw [← eV]
   clear eV
   clear xq1 xq2 xq3 xq4 xq5 vq1 vq2 vq3 vq4 vq5
   cases b5 with
   | true =>
    have HQn := zH (show Q = none by
     rcases HCH.out with ⟨-, h⟩ | ⟨h, -⟩
     ·exact h
     ·cases h)
    refine zCe (n := 24) (S := fun W => Below V.heap.size V W) (ds := []) (msk 24 [0, 1, 2, 3, 4, 5, 6, 7, 8, 9, 10, 11, 12, 13, 14, 15, 16, 17, 18, 19, 20, 21, 22, 23] 0).toArray (by kernel_rfl) rfl rfl (zAr (Below.refl _ _)) (fun hHeld => ?_)
    refine zBh (T := zEy) zDu (fun HT_ => ?_)
    iterate 24 (first | (refine zBi HT_.out (N := some _) (v := ?_) (a' := ?_) rfl rfl (by kernel_rfl) (fun _ _ _ h => h) (Or.inl ⟨by rfl, ?_⟩) ?_ ?_; rotate_left; intro w'; go_simp; (with_reducible rfl); rotate_left; simp only [Act.put, zI, zZ, zS, zAx, zAy]; rfl) | (refine zBi HT_.out (N := some _) (v := undef) (a' := ?_) rfl rfl (by kernel_rfl) (fun _ _ _ h => h) (Or.inr ⟨by rfl, by rfl⟩) ?_ ?_; rotate_left; simp only [Act.put, zI, zZ, zS]; rfl) | (refine zCd HT_.out (N := some _) (v := ?_) (a' := ?_) rfl rfl (by kernel_rfl) (fun _ _ _ h => h) (Or.inl ⟨by rfl, ?_⟩) hHeld ?_ ?_; rotate_left; intro w' hh; have q := (HRV.out.below hh).c2; go_simp; (with_reducible rfl); rotate_left; simp only [Act.put, zI, zZ, zS, zAx, zAy]; rfl))
    refine zEg (zBz HT_.out (by kernel_rfl)) ?_
    have HBF := zH hHeld
    have r9 := HRV.out.below hHeld
    have HR9 := zH r9
    have g2 := r9.c2
    have gz2 := r9.z2
    clear hHeld r9
    go_wp2
    go_ret
    exact ⟨((HBV.out.trans (HBF.out.mono HBV.out.size))).setCell hg _, ((HKr.out.trans HKV.out (Or.inl rfl)).trans (KeepBut.of_below HBF.out g none) (Or.inl rfl)).set_ 2 (.bool true), Or.inl ⟨HQn.out, rfl, _, HR9.out.set2 true⟩⟩
   | false =>
   obtain ⟨m, rd, pd, rfl, rfl, rfl, rfl, rfl, hMF, rfl, hpd, hrd, hQm, hbd⟩ : ∃ (m : S25) (rd : List UInt8) (pd : Nat), x0 = m.f0 ∧ x1 = m.f1 ∧ x2 = m.f2 ∧ m3 = m.f3.length ∧ m4 = m.f4.length ∧ MF w5 (fun k => WS ≤ k ∧ k < w5S) m D3 f3 D4 f4 ∧ i5 = (pd : Int) ∧ pd ≤ n ∧ bs.drop pd = rd ∧ (Q = if zCr s a b m = true then (if behind ls s = true then zDz k' (ls ++ [⟨s, m, a, b⟩]) rd else none) else none) ∧ boundM m := by
    rcases HCH.out with ⟨h, -⟩ | ⟨-, h⟩
    ·cases h
    exact h
   have HMF : Hid (MF V (fun b => WS ≤ b ∧ b < w5S) m D3 f3 D4 f4) := zH (hMF.move (fun b hb => ⟨hb, HFAR.out b (by have := HV5.out; omega)⟩))
   have HQ4 := zH hQm
   have HP4 := zH (And.intro hrd hpd)
   clear hMF hQm hrd hpd HCH HFAR
   have HBD := zH hbd
   have H35 := zH (fun W (h : Below V.heap.size V W) => refCheck35 W s a b m D3 f3 D4 f4 HBD.out ((HMF.out.now).below h))
   cases htb : zCr s a b m with
   | false =>
    rw [htb] at H35
    have HQn := zH (show Q = none by rw [HQ4.out]; simp [htb])
    clear htb
    refine zCe (n := 24) (S := fun W => Below V.heap.size V W) (ds := []) (msk 24 [0, 1, 2, 3, 4, 5, 6, 7, 8, 9, 10, 11, 12, 13, 14, 15, 16, 17, 18, 19, 20, 21, 22, 23] 0).toArray (by kernel_rfl) rfl rfl (zAr (Below.refl _ _)) (fun hHeld => ?_)
    refine zBh (T := zEy) zDu (fun HT_ => ?_)
    iterate 5 (first | (refine zBi HT_.out (N := some _) (v := ?_) (a' := ?_) rfl rfl (by kernel_rfl) (fun _ _ _ h => h) (Or.inl ⟨by rfl, ?_⟩) ?_ ?_; rotate_left; intro w'; go_simp; (with_reducible rfl); rotate_left; simp only [Act.put, zI, zZ, zS, zAx, zAy]; rfl) | (refine zCd HT_.out (N := some _) (v := ?_) (a' := ?_) rfl rfl (by kernel_rfl) (fun _ _ _ h => h) (Or.inl ⟨by rfl, ?_⟩) hHeld ?_ ?_; rotate_left; intro w' hh; have q := (HRV.out.below hh).c2; go_simp; (with_reducible rfl); rotate_left; simp only [Act.put, zI, zZ, zS, zAx, zAy]; rfl))
    (refine zCd HT_.out (N := some _) (v := ?_) (a' := ?_) rfl rfl (by kernel_rfl) (fun _ _ _ h => h) (Or.inl ⟨by rfl, ?_⟩) hHeld ?_ ?_; rotate_left; intro w' hh; have q := (hh.block _ (zAp HT.out)).trans HT.out; have q0 := zAb q 0; have q1 := zAb q 1; have q2 := zAb q 2; have q3 := zAb q 3; have q4 := zAb q 4; have q5 := zAb q 5; have q6 := zAb q 6; have q7 := zAb q 7; simp only [zC, zA, zB] at q0 q1 q2 q3 q4 q5 q6 q7; go_simp; (with_reducible rfl); rotate_left; simp only [Act.put, zI, zZ, zS, zAx, zAy]; rfl)
    refine oneO (i := 6) (N := some 40) HT_.out rfl rfl (by kernel_rfl) (by decide) (fun K_ hK_ => ?_)
    refine zDn Try.func35 (by kernel_rfl) rfl #[.agg #[.int .i64 s, .int .i64 m.f0, .string m.f1, .string m.f2, .slice D3 m.f3.length f3, .slice D4 m.f4.length f4, .int .i64 a, .int .i64 b]] (by rfl) rfl rfl (by (try simp only [List.map_toArray, List.map_cons, List.map_nil]); first | done | rfl) ?_
    (with_reducible refine (H35.out _ hHeld).mono ?_)
    rintro e w9 ⟨rfl, hb9⟩
    refine ⟨_, rfl, ?_⟩
    refine hK_.out _ _ (zAe hHeld hb9) (fun hHeld => ?_)
    clear hK_ K_
    try simp only [Act.put, zI, zZ, zS]
    iterate 17 (first | (refine zBi HT_.out (N := some _) (v := ?_) (a' := ?_) rfl rfl (by kernel_rfl) (fun _ _ _ h => h) (Or.inl ⟨by rfl, ?_⟩) ?_ ?_; rotate_left; intro w'; go_simp; (with_reducible rfl); rotate_left; simp only [Act.put, zI, zZ, zS, zAx, zAy]; rfl) | (refine zBi HT_.out (N := some _) (v := undef) (a' := ?_) rfl rfl (by kernel_rfl) (fun _ _ _ h => h) (Or.inr ⟨by rfl, by rfl⟩) ?_ ?_; rotate_left; simp only [Act.put, zI, zZ, zS]; rfl))
    refine zEg (zBz HT_.out (by kernel_rfl)) ?_
    have HBF := zH hHeld
    have r9 := HRV.out.below hHeld
    have HR9 := zH r9
    have g2 := r9.c2
    have gz2 := r9.z2
    clear hHeld r9
    go_wp2
    go_ret
    exact ⟨((HBV.out.trans (HBF.out.mono HBV.out.size))).setCell hg _, ((HKr.out.trans HKV.out (Or.inl rfl)).trans (KeepBut.of_below HBF.out g none) (Or.inl rfl)).set_ 2 (.bool true), Or.inl ⟨HQn.out, rfl, _, HR9.out.set2 true⟩⟩
   | true =>
   rw [htb] at H35
   have HQ5 := zH (show Q = if behind ls s = true then zDz k' (ls ++ [⟨s, m, a, b⟩]) rd else none by rw [HQ4.out]; simp [htb])
   clear htb HQ4
   by_cases hi0 : i = 0
   ·have u1 : ¬ (0 : Int) < (i : Int) := by omega
    have u2 : decide (0 < i) = false := zF (by omega)
    have HBH := zH (show behind ls s = true by
     have : ls = [] := List.length_eq_zero_iff.1 (by rw [HPR.out.2.2]; exact hi0)
     rw [this]; rfl)
    clear hi0
    refine zCe (n := 24) (S := fun W => Below V.heap.size V W) (ds := []) (msk 24 [0, 1, 2, 3, 4, 5, 6, 7, 8, 9, 10, 11, 12, 13, 14, 15, 16, 17, 18, 19, 20, 21, 22, 23] 0).toArray (by kernel_rfl) rfl rfl (zAr (Below.refl _ _)) (fun hHeld => ?_)
    refine zBh (T := zEy) zDu (fun HT_ => ?_)
    iterate 5 (first | (refine zBi HT_.out (N := some _) (v := ?_) (a' := ?_) rfl rfl (by kernel_rfl) (fun _ _ _ h => h) (Or.inl ⟨by rfl, ?_⟩) ?_ ?_; rotate_left; intro w'; go_simp; (with_reducible rfl); rotate_left; simp only [Act.put, zI, zZ, zS, zAx, zAy, u2]; rfl) | (refine zCd HT_.out (N := some _) (v := ?_) (a' := ?_) rfl rfl (by kernel_rfl) (fun _ _ _ h => h) (Or.inl ⟨by rfl, ?_⟩) hHeld ?_ ?_; rotate_left; intro w' hh; have q := (HRV.out.below hh).c2; go_simp; (with_reducible rfl); rotate_left; simp only [Act.put, zI, zZ, zS, zAx, zAy, u2]; rfl))
    (refine zCd HT_.out (N := some _) (v := ?_) (a' := ?_) rfl rfl (by kernel_rfl) (fun _ _ _ h => h) (Or.inl ⟨by rfl, ?_⟩) hHeld ?_ ?_; rotate_left; intro w' hh; have q := (hh.block _ (zAp HT.out)).trans HT.out; have q0 := zAb q 0; have q1 := zAb q 1; have q2 := zAb q 2; have q3 := zAb q 3; have q4 := zAb q 4; have q5 := zAb q 5; have q6 := zAb q 6; have q7 := zAb q 7; simp only [zC, zA, zB] at q0 q1 q2 q3 q4 q5 q6 q7; go_simp; (with_reducible rfl); rotate_left; simp only [Act.put, zI, zZ, zS, zAx, zAy, u2]; rfl)
    refine oneO (i := 6) (N := some 40) HT_.out rfl rfl (by kernel_rfl) (by decide) (fun K_ hK_ => ?_)
    refine zDn Try.func35 (by kernel_rfl) rfl #[.agg #[.int .i64 s, .int .i64 m.f0, .string m.f1, .string m.f2, .slice D3 m.f3.length f3, .slice D4 m.f4.length f4, .int .i64 a, .int .i64 b]] (by rfl) rfl rfl (by (try simp only [List.map_toArray, List.map_cons, List.map_nil]); first | done | rfl) ?_
    (with_reducible refine (H35.out _ hHeld).mono ?_)
    rintro e w9 ⟨rfl, hb9⟩
    refine ⟨_, rfl, ?_⟩
    refine hK_.out _ _ (zAe hHeld hb9) (fun hHeld => ?_)
    clear hK_ K_
    try simp only [Act.put, zI, zZ, zS]
    iterate 17 (first | (refine zBi HT_.out (N := some _) (v := ?_) (a' := ?_) rfl rfl (by kernel_rfl) (fun _ _ _ h => h) (Or.inl ⟨by rfl, ?_⟩) ?_ ?_; rotate_left; intro w'; go_simp; (with_reducible rfl); rotate_left; simp only [Act.put, zI, zZ, zS, zAx, zAy, u2]; rfl) | (refine zBi HT_.out (N := some _) (v := undef) (a' := ?_) rfl rfl (by kernel_rfl) (fun _ _ _ h => h) (Or.inr ⟨by rfl, by rfl⟩) ?_ ?_; rotate_left; simp only [Act.put, zI, zZ, zS]; rfl))
    refine zEg (zBz HT_.out (by kernel_rfl)) ?_
    rename World => X9
    have b9 := (hHeld.block T (zAp HT.out)).trans HT.out
    have y0 := zAb b9 0
    have y1 := zAb b9 1
    have y2 := zAb b9 2
    have y3 := zAb b9 3
    have y4 := zAb b9 4
    have y5 := zAb b9 5
    have y6 := zAb b9 6
    have y7 := zAb b9 7
    simp only [zC, zA, zB] at y0 y1 y2 y3 y4 y5 y6 y7
    have HFK := zH (MF_FK27 (t := ⟨s, m, a, b⟩) (HMF.out.move (T := fun b => WS ≤ b ∧ b < w5S) (Y := X9) (fun b hb => ⟨hb, hHeld.block b (by have := HV5.out; omega)⟩)) (fun b hb => by have := hHeld.size; have := HV5.out; omega))
    have HLX := zH (Kd.N_below (Kd.N_keep HL.out HKV.out (fun k hk => by have := HGL.out; omega)) hHeld)
    have HNL := zH (Kd.N_lt HL.out)
    have HRX := zH (HRV.out.below hHeld)
    have HBL := zH (HBV.out.trans (hHeld.mono HBV.out.size))
    have HKX := zH ((HKr.out.trans HKV.out (Or.inl rfl)).trans (KeepBut.of_below hHeld g none) (Or.inl rfl))
    clear hHeld b9
    go_wp2_with (at_builtin; refine Kd.N_append k27 (w0 := X9) (W := X9) w.heap.size rfl (.tmp 61) (.tmp 63) 45 27 (.agg Z8) 112 rfl Try.underlying45 zJb rfl (by decide) (by decide) (.slice Au i cu) ls ⟨s, m, a, b⟩ [.int .i64 s, .int .i64 m.f0, .string m.f1, .string m.f2, .slice D3 m.f3.length f3, .slice D4 m.f4.length f4, .int .i64 a, .int .i64 b] (fun k => w.heap.size ≤ k) (fun b => WS ≤ b ∧ b < w5S) rfl rfl HFK.out (fun k hk => ⟨by have := HV5.out; have := HKr.out.1; omega, fun e => by have h1 := HNL.out k (by rw [HPR.out.2.2]; exact e.symm); have := HV5.out; omega⟩) (fun k hk => by have := HKX.out.1; omega) (by have h := HLX.out; rw [HPR.out.2.2] at h; exact h) (Below.refl _ _) HKX.out.1 (by rw [HPR.out.2.2]; omega) ?_; intro v1 w7 hN7 hB7 hg7 hat7; have HN7 := zH hN7; have HG7 := zH hg7; clear hN7 hB7 hg7 hat7)
    go_roundw
    case rel =>
     have hk' := HK'.out
     have hown : ∀ k, (Value.slice Au i cu).ownBlock = some k → w.heap.size ≤ k := fun k hk => by
      have h := HLX.out
      rw [HPR.out.2.2] at h
      exact h.1 k hk
     have hgl := HGL.out
     have hww := HWW.out
     have hne : some g ≠ (Value.slice Au i cu).ownBlock := fun e => by have := hown _ e.symm; omega
     refine ⟨i + 1, pd, ls ++ [⟨s, m, a, b⟩], rd, by go_num, by omega, by rw [List.length_append, HPR.out.2.2]; rfl, HP4.out.2, HP4.out.1, (HG7.out.block g HRX.out.lt hne).trans HRX.out, zH (by rw [HQ5.out, if_pos HBH.out, show k - (i + 1) = k' by omega]), HN7, zH (HBL.out.grown HG7.out (by have := HKX.out.1; omega) (fun k hk => by have := hown k hk; omega)), zH ⟨by have := HKX.out.1; have := HG7.out.size; omega, fun j hj h1 h2 => (HG7.out.block j (by have := HKX.out.1; omega) (fun e => by have := hown _ e.symm; omega)).trans (HKX.out.2 j hj h1 h2)⟩⟩
    case measure => simp [intOf]; omega
   have hi1 : 1 ≤ i := by omega
   have hi1I : (1 : Int) ≤ (i : Int) := by omega
   have u1 : (0 : Int) < (i : Int) := by omega
   have u2 : decide (0 < i) = true := zT (by omega)
   have hsub : wrap64 ((i : Int) - 1) = (i : Int) - 1 := by unfold wrap64; omega
   have hge : (0 : Int) ≤ (i : Int) - 1 := by omega
   have hlt1 : (i : Int) - 1 < (i : Int) := by omega
   obtain ⟨hN1, hN2, hN3⟩ := Kd.N_reads' (Kd.N_keep HL.out HKV.out (fun k hk => by have := HGL.out; omega))
   rw [HPR.out.2.2] at hN3
   obtain ⟨ad, B3, e3, B4, e4, rfl, k0, -, -, -, -, -, -, -, -, -, -, -⟩ := zFi hN3 ((i : Int) - 1) hge (by omega)
   simp only [show ((i : Int) - 1).toNat = i - 1 by omega, show zAo ls ((i : Int) - 1) = ls.getD (i - 1) z27 by simp [zAo, show ((i : Int) - 1).toNat = i - 1 by omega]] at k0
   have hbl := zGt HPR.out.2.2 hi1 s
   obtain ⟨y, ey⟩ : ∃ y, (ls.getD (i - 1) z27).f0 = y := ⟨_, rfl⟩
   rw [ey] at k0 hbl
   have KL := zH k0
   have hN1 := ()
   clear ey k0 hN3 hN2 hi0
   by_cases hc : y < s
   ·have c1 : ¬ s ≤ y := by omega
    have c2 : decide (s ≤ y) = false := zF c1
    have HBH := zH (show behind ls s = true by rw [hbl]; exact zT hc)
    clear hbl hc
    refine zCe (n := 24) (S := fun W => Below V.heap.size V W) (ds := []) (msk 24 [0, 1, 2, 3, 4, 5, 6, 7, 8, 9, 10, 11, 12, 13, 15, 16, 17, 18, 19, 14, 20, 21, 22, 23] 0).toArray (by kernel_rfl) rfl rfl (zAr (Below.refl _ _)) (fun hHeld => ?_)
    refine zBh (T := zEy) zDu (fun HT_ => ?_)
    iterate 5 (first | (refine zBi HT_.out (N := some _) (v := ?_) (a' := ?_) rfl rfl (by kernel_rfl) (fun _ _ _ h => h) (Or.inl ⟨by rfl, ?_⟩) ?_ ?_; rotate_left; intro w'; go_simp; (with_reducible rfl); rotate_left; simp only [Act.put, zI, zZ, zS, zAx, zAy, hsub, u2, c2]; rfl) | (refine zCd HT_.out (N := some _) (v := ?_) (a' := ?_) rfl rfl (by kernel_rfl) (fun _ _ _ h => h) (Or.inl ⟨by rfl, ?_⟩) hHeld ?_ ?_; rotate_left; intro w' hh; have q := (HRV.out.below hh).c2; go_simp; (with_reducible rfl); rotate_left; simp only [Act.put, zI, zZ, zS, zAx, zAy, hsub, u2, c2]; rfl))
    (refine zCd HT_.out (N := some _) (v := ?_) (a' := ?_) rfl rfl (by kernel_rfl) (fun _ _ _ h => h) (Or.inl ⟨by rfl, ?_⟩) hHeld ?_ ?_; rotate_left; intro w' hh; have q := (hh.block _ (zAp HT.out)).trans HT.out; have q0 := zAb q 0; have q1 := zAb q 1; have q2 := zAb q 2; have q3 := zAb q 3; have q4 := zAb q 4; have q5 := zAb q 5; have q6 := zAb q 6; have q7 := zAb q 7; simp only [zC, zA, zB] at q0 q1 q2 q3 q4 q5 q6 q7; go_simp; (with_reducible rfl); rotate_left; simp only [Act.put, zI, zZ, zS, zAx, zAy, hsub, u2, c2]; rfl)
    refine oneO (i := 6) (N := some 40) HT_.out rfl rfl (by kernel_rfl) (by decide) (fun K_ hK_ => ?_)
    refine zDn Try.func35 (by kernel_rfl) rfl #[.agg #[.int .i64 s, .int .i64 m.f0, .string m.f1, .string m.f2, .slice D3 m.f3.length f3, .slice D4 m.f4.length f4, .int .i64 a, .int .i64 b]] (by rfl) rfl rfl (by (try simp only [List.map_toArray, List.map_cons, List.map_nil]); first | done | rfl) ?_
    (with_reducible refine (H35.out _ hHeld).mono ?_)
    rintro e w9 ⟨rfl, hb9⟩
    refine ⟨_, rfl, ?_⟩
    refine hK_.out _ _ (zAe hHeld hb9) (fun hHeld => ?_)
    clear hK_ K_
    try simp only [Act.put, zI, zZ, zS]
    iterate 13 (first | (refine zBi HT_.out (N := some _) (v := ?_) (a' := ?_) rfl rfl (by kernel_rfl) (fun _ _ _ h => h) (Or.inl ⟨by rfl, ?_⟩) ?_ ?_; rotate_left; intro w'; go_simp; (with_reducible rfl); rotate_left; simp only [Act.put, zI, zZ, zS, zAx, zAy, hsub, u2, c2]; rfl) | (refine zCd HT_.out (N := some _) (v := ?_) (a' := ?_) rfl rfl (by kernel_rfl) (fun _ _ _ h => h) (Or.inl ⟨by rfl, ?_⟩) hHeld ?_ ?_; rotate_left; intro w' hh; have q := (hh.block _ (zAp HT.out)).trans HT.out; have q0 := zAb q 0; have q1 := zAb q 1; have q2 := zAb q 2; have q3 := zAb q 3; have q4 := zAb q 4; have q5 := zAb q 5; have q6 := zAb q 6; have q7 := zAb q 7; simp only [zC, zA, zB] at q0 q1 q2 q3 q4 q5 q6 q7; go_simp; (with_reducible rfl); rotate_left; simp only [Act.put, zI, zZ, zS, zAx, zAy, hsub, u2, c2]; rfl))
    iterate 4 (first | (refine zBi HT_.out (N := some _) (v := ?_) (a' := ?_) rfl rfl (by kernel_rfl) (fun _ _ _ h => h) (Or.inl ⟨by rfl, ?_⟩) ?_ ?_; rotate_left; intro w'; go_simp; (with_reducible rfl); rotate_left; simp only [Act.put, zI, zZ, zS, zAx, zAy, hsub, u2, c2]; rfl) | (refine zCd HT_.out (N := some _) (v := ?_) (a' := ?_) rfl rfl (by kernel_rfl) (fun _ _ _ h => h) (Or.inl ⟨by rfl, ?_⟩) hHeld ?_ ?_; rotate_left; intro w' hh; have q := zAf hh KL.out; go_simp; (with_reducible rfl); rotate_left; simp only [Act.put, zI, zZ, zS, zAx, zAy, hsub, u2, c2]; rfl))
    refine zEg (zBz HT_.out (by kernel_rfl)) ?_
    rename World => X9
    have b9 := (hHeld.block T (zAp HT.out)).trans HT.out
    have y0 := zAb b9 0
    have y1 := zAb b9 1
    have y2 := zAb b9 2
    have y3 := zAb b9 3
    have y4 := zAb b9 4
    have y5 := zAb b9 5
    have y6 := zAb b9 6
    have y7 := zAb b9 7
    simp only [zC, zA, zB] at y0 y1 y2 y3 y4 y5 y6 y7
    have HFK := zH (MF_FK27 (t := ⟨s, m, a, b⟩) (HMF.out.move (T := fun b => WS ≤ b ∧ b < w5S) (Y := X9) (fun b hb => ⟨hb, hHeld.block b (by have := HV5.out; omega)⟩)) (fun b hb => by have := hHeld.size; have := HV5.out; omega))
    have HLX := zH (Kd.N_below (Kd.N_keep HL.out HKV.out (fun k hk => by have := HGL.out; omega)) hHeld)
    have HNL := zH (Kd.N_lt HL.out)
    have HRX := zH (HRV.out.below hHeld)
    have HBL := zH (HBV.out.trans (hHeld.mono HBV.out.size))
    have HKX := zH ((HKr.out.trans HKV.out (Or.inl rfl)).trans (KeepBut.of_below hHeld g none) (Or.inl rfl))
    clear hHeld b9
    go_wp2_with (at_builtin; refine Kd.N_append k27 (w0 := X9) (W := X9) w.heap.size rfl (.tmp 61) (.tmp 63) 45 27 (.agg Z8) 112 rfl Try.underlying45 zJb rfl (by decide) (by decide) (.slice (some ad) i cu) ls ⟨s, m, a, b⟩ [.int .i64 s, .int .i64 m.f0, .string m.f1, .string m.f2, .slice D3 m.f3.length f3, .slice D4 m.f4.length f4, .int .i64 a, .int .i64 b] (fun k => w.heap.size ≤ k) (fun b => WS ≤ b ∧ b < w5S) rfl rfl HFK.out (fun k hk => ⟨by have := HV5.out; have := HKr.out.1; omega, fun e => by have h1 := HNL.out k (by rw [HPR.out.2.2]; exact e.symm); have := HV5.out; omega⟩) (fun k hk => by have := HKX.out.1; omega) (by have h := HLX.out; rw [HPR.out.2.2] at h; exact h) (Below.refl _ _) HKX.out.1 (by rw [HPR.out.2.2]; omega) ?_; intro v1 w7 hN7 hB7 hg7 hat7; have HN7 := zH hN7; have HG7 := zH hg7; clear hN7 hB7 hg7 hat7)
    go_roundw
    case rel =>
     have hk' := HK'.out
     have hown : ∀ k, (Value.slice (some ad) i cu).ownBlock = some k → w.heap.size ≤ k := fun k hk => by
      have h := HLX.out
      rw [HPR.out.2.2] at h
      exact h.1 k hk
     have hgl := HGL.out
     have hww := HWW.out
     have hne : some g ≠ (Value.slice (some ad) i cu).ownBlock := fun e => by have := hown _ e.symm; omega
     refine ⟨i + 1, pd, ls ++ [⟨s, m, a, b⟩], rd, by go_num, by omega, by rw [List.length_append, HPR.out.2.2]; rfl, HP4.out.2, HP4.out.1, (HG7.out.block g HRX.out.lt hne).trans HRX.out, zH (by rw [HQ5.out, if_pos HBH.out, show k - (i + 1) = k' by omega]), HN7, zH (HBL.out.grown HG7.out (by have := HKX.out.1; omega) (fun k hk => by have := hown k hk; omega)), zH ⟨by have := HKX.out.1; have := HG7.out.size; omega, fun j hj h1 h2 => (HG7.out.block j (by have := HKX.out.1; omega) (fun e => by have := hown _ e.symm; omega)).trans (HKX.out.2 j hj h1 h2)⟩⟩
    case measure => simp [intOf]; omega
   have c1 : s ≤ y := by omega
   have c2 : decide (s ≤ y) = true := zT c1
   have HQn := zH (show Q = none by rw [HQ5.out, hbl, zF hc]; rfl)
   clear hbl hc
   refine zCe (n := 24) (S := fun W => Below V.heap.size V W) (ds := []) (msk 24 [0, 1, 2, 3, 4, 5, 6, 7, 8, 9, 10, 11, 12, 13, 15, 16, 17, 18, 19, 14, 20, 21, 22, 23] 0).toArray (by kernel_rfl) rfl rfl (zAr (Below.refl _ _)) (fun hHeld => ?_)
   refine zBh (T := zEy) zDu (fun HT_ => ?_)
   iterate 5 (first | (refine zBi HT_.out (N := some _) (v := ?_) (a' := ?_) rfl rfl (by kernel_rfl) (fun _ _ _ h => h) (Or.inl ⟨by rfl, ?_⟩) ?_ ?_; rotate_left; intro w'; go_simp; (with_reducible rfl); rotate_left; simp only [Act.put, zI, zZ, zS, zAx, zAy, hsub, u2, c2]; rfl) | (refine zCd HT_.out (N := some _) (v := ?_) (a' := ?_) rfl rfl (by kernel_rfl) (fun _ _ _ h => h) (Or.inl ⟨by rfl, ?_⟩) hHeld ?_ ?_; rotate_left; intro w' hh; have q := (HRV.out.below hh).c2; go_simp; (with_reducible rfl); rotate_left; simp only [Act.put, zI, zZ, zS, zAx, zAy, hsub, u2, c2]; rfl))
   (refine zCd HT_.out (N := some _) (v := ?_) (a' := ?_) rfl rfl (by kernel_rfl) (fun _ _ _ h => h) (Or.inl ⟨by rfl, ?_⟩) hHeld ?_ ?_; rotate_left; intro w' hh; have q := (hh.block _ (zAp HT.out)).trans HT.out; have q0 := zAb q 0; have q1 := zAb q 1; have q2 := zAb q 2; have q3 := zAb q 3; have q4 := zAb q 4; have q5 := zAb q 5; have q6 := zAb q 6; have q7 := zAb q 7; simp only [zC, zA, zB] at q0 q1 q2 q3 q4 q5 q6 q7; go_simp; (with_reducible rfl); rotate_left; simp only [Act.put, zI, zZ, zS, zAx, zAy, hsub, u2, c2]; rfl)
   refine oneO (i := 6) (N := some 40) HT_.out rfl rfl (by kernel_rfl) (by decide) (fun K_ hK_ => ?_)
   refine zDn Try.func35 (by kernel_rfl) rfl #[.agg #[.int .i64 s, .int .i64 m.f0, .string m.f1, .string m.f2, .slice D3 m.f3.length f3, .slice D4 m.f4.length f4, .int .i64 a, .int .i64 b]] (by rfl) rfl rfl (by (try simp only [List.map_toArray, List.map_cons, List.map_nil]); first | done | rfl) ?_
   (with_reducible refine (H35.out _ hHeld).mono ?_)
   rintro e w9 ⟨rfl, hb9⟩
   refine ⟨_, rfl, ?_⟩
   refine hK_.out _ _ (zAe hHeld hb9) (fun hHeld => ?_)
   clear hK_ K_
   try simp only [Act.put, zI, zZ, zS]
   iterate 13 (first | (refine zBi HT_.out (N := some _) (v := ?_) (a' := ?_) rfl rfl (by kernel_rfl) (fun _ _ _ h => h) (Or.inl ⟨by rfl, ?_⟩) ?_ ?_; rotate_left; intro w'; go_simp; (with_reducible rfl); rotate_left; simp only [Act.put, zI, zZ, zS, zAx, zAy, hsub, u2, c2]; rfl) | (refine zCd HT_.out (N := some _) (v := ?_) (a' := ?_) rfl rfl (by kernel_rfl) (fun _ _ _ h => h) (Or.inl ⟨by rfl, ?_⟩) hHeld ?_ ?_; rotate_left; intro w' hh; have q := (hh.block _ (zAp HT.out)).trans HT.out; have q0 := zAb q 0; have q1 := zAb q 1; have q2 := zAb q 2; have q3 := zAb q 3; have q4 := zAb q 4; have q5 := zAb q 5; have q6 := zAb q 6; have q7 := zAb q 7; simp only [zC, zA, zB] at q0 q1 q2 q3 q4 q5 q6 q7; go_simp; (with_reducible rfl); rotate_left; simp only [Act.put, zI, zZ, zS, zAx, zAy, hsub, u2, c2]; rfl))
   iterate 4 (first | (refine zBi HT_.out (N := some _) (v := ?_) (a' := ?_) rfl rfl (by kernel_rfl) (fun _ _ _ h => h) (Or.inl ⟨by rfl, ?_⟩) ?_ ?_; rotate_left; intro w'; go_simp; (with_reducible rfl); rotate_left; simp only [Act.put, zI, zZ, zS, zAx, zAy, hsub, u2, c2]; rfl) | (refine zCd HT_.out (N := some _) (v := ?_) (a' := ?_) rfl rfl (by kernel_rfl) (fun _ _ _ h => h) (Or.inl ⟨by rfl, ?_⟩) hHeld ?_ ?_; rotate_left; intro w' hh; have q := zAf hh KL.out; go_simp; (with_reducible rfl); rotate_left; simp only [Act.put, zI, zZ, zS, zAx, zAy, hsub, u2, c2]; rfl))
   refine zEg (zBz HT_.out (by kernel_rfl)) ?_
   have HBF := zH hHeld
   have r9 := HRV.out.below hHeld
   have HR9 := zH r9
   have g2 := r9.c2
   have gz2 := r9.z2
   clear hHeld r9
   go_wp2
   go_ret
   exact ⟨((HBV.out.trans (HBF.out.mono HBV.out.size))).setCell hg _, ((HKr.out.trans HKV.out (Or.inl rfl)).trans (KeepBut.of_below HBF.out g none) (Or.inl rfl)).set_ 2 (.bool true), Or.inl ⟨HQn.out, rfl, _, HR9.out.set2 true⟩⟩
  obtain rfl : i = k := by omega
  have hQf := zH (show Q = some (ls, rr) by rw [HQi.out, Nat.sub_self, zDz])
  obtain ⟨hN1, hN2, hN3⟩ := Kd.N_reads' HL.out
  have HN3 := zH hN3
  have HN2 := zH hN2
  clear hN3 hN1 hN2 HQi hRr
  go_wp2
  go_ret
  have hli := HPR.out.2.2
  have h := HRr.out
  rw [show (p : Int) = (n : Int) - (rr.length : Nat) by have := congrArg List.length HPR.out.1; rw [List.length_drop, HN.out] at this; omega] at h
  exact ⟨HB.out, HKr.out, Or.inr ⟨ls, rr, Au, cu, hQf.out, by rw [hli]; rfl, HN2.out, HN3.out, h⟩⟩
theorem mPut87 (m : S25) (hk : chkB m = true) (A : Option Addr) (n c : Nat) (bs : List UInt8) (A3 : Option Addr) (c3 : Nat) (A4 : Option Addr) (c4 : Nat) (w : World) (hn : bs.length = n) (hc : n ≤ c) (hl : n + (encM m).length ≤ 199999999990000) (hC : (Kd.int .u8).C w A bs.length (bys bs)) (hM : MC w m A3 c3 A4 c4) :
  Calls Try.prog 87 #[.slice A n c, .agg #[.int .i64 m.f0, .string m.f1, .string m.f2, .slice A3 m.f3.length c3, .slice A4 m.f4.length c4]] w (BPo w (bs ++ encM m)) := by
 obtain ⟨V, eV⟩ : ∃ V, V = (w.alloc (.cells #[.int .i64 m.f0, .string m.f1, .string m.f2, .slice A3 m.f3.length c3, .slice A4 m.f4.length c4] 25)) := ⟨_, rfl⟩
 have hX : BoxM V w.heap.size m.f0 m.f1 m.f2 (.slice A3 m.f3.length c3) (.slice A4 m.f4.length c4) := by rw [eV]; exact zAs w _
 have hBV : Below w.heap.size w V := eV ▸ zAc (Below.refl _ _) _
 have H1 := zH (zHh V m A3 c3 A4 c4 true hk (hM.below hBV))
 have HX := zH hX
 have HBV := zH hBV
 have hk2 := chk_def.1 hk
 have h64 : zAv m ≤ 64 := by have := hk2.2.2.1; omega
 have H2 := zH (fun W (h : Below w.heap.size w W) => mput137 _ m (Nat.le_refl _) hk2.1 h64 A n c bs A3 c3 A4 c4 W hn hc hl (Kd.C_below hC h) (hM.below h))
 clear hk hk2 hC hM hn hX hBV
 go_enter Try.func87, Try.ntmps87
 go_wp2_with fail
 rw [← eV]
 (with_reducible refine H1.out.mono ?_)
 rintro e w1 ⟨rfl, hb1⟩
 have HB1 := zH (zAe HBV.out hb1)
 have HX1 := HX.out.below hb1
 have k0 := HX1.c0
 have k1 := HX1.c1
 have k2 := HX1.c2
 have k3 := HX1.c3
 have k4 := HX1.c4
 clear hb1 HX1 eV
 go_wp2_with fail
 (with_reducible refine (H2.out _ HB1.out).mono ?_)
 rintro e w2 ⟨A2, n2, c2, rfl, HN2, hc2, HC2, hb2⟩
 have HB2 := zH (zAe HB1.out hb2)
 clear hb2
 go_wp2
 go_ret
 exact ⟨A2, n2, c2, rfl, HN2, hc2, HC2, HB2.out⟩
end Go.Proofs.Yteafilojjdfllaa
end
