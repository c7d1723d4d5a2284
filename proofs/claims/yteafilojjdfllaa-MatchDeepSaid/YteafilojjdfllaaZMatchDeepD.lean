/- A matcher may be nested just so deep, and have just so many parts; the text of one that is nested too deep is refused with the error that belongs to it. No condition. -/
import Derived.Lib.Join
import Derived.Lib.LazyBuf
import Derived.Deep.CutBlock
import Derived.Test.YteafilojjdfllaaZMatchDeepC
section
namespace Go.Proofs.Yteafilojjdfllaa
open Go Go.RowKit Go.Proofs.YteafilojjdfllaaW.PrintWords Go.Proofs.YteafilojjdfllaaW.PrintLast Go.Proofs.YteafilojjdfllaaW.PrintMore Go.Proofs.Yteafilojjdfllaa.PAll
set_option linter.unusedVariables false
set_option linter.unusedSimpArgs false
/-- how a list of kids ends -/
def LPostK (w0 wn : World) (g B D G base : Nat) (s : ByteArray) (op dz : Int) (Q : Option (List S25 × Nat × List UInt8)) (e : Ending) (w' : World) : Prop :=
 (Q = none ∧ e = .panicked badP ∧ Below w0.heap.size w0 w' ∧ KeepBut wn w' g none) ∨ ∃ ks l1 r j cells A c, Q = some (ks, l1, r) ∧ s.data.toList.drop j = r ∧ j ≤ s.size ∧ e = .returned (.tuple #[]) ∧ VK w0 wn w' g B D G base s op dz j ((l1 : Nat) : Int) ks cells ks.length A c
set_option maxRecDepth 100000 in
set_option maxHeartbeats 32000000 in
/-- list, of kids. -/
theorem list176k (w0 wn w : World) (g B D G base : Nat) (s : ByteArray) (op dz : Int) (i left d : Nat) (HL : VM w0 wn g B D G base) (hV : VK w0 wn w g B D G base s op dz i (left : Int) [] [] 0 none 0) (hi : i ≤ s.size) (hs : s.size ≤ 1000000000) (hl : left ≤ 63) (hdz : wrap64 (dz + 1) = dz + 1) (ih : IHp w0 g s d (dz + 1)) (Q : Option (List S25 × Nat × List UInt8)) (hQ : listK (cutM 33) stepP true d left (s.data.toList.drop i) = Q) :
  Calls Try.prog 176 #[.pointer (some ⟨g, 0, none⟩), .func (.func 177) #[] #[.pointer (some ⟨G, 0, none⟩), .pointer (some ⟨B, 0, none⟩), .pointer (some ⟨D, 0, none⟩)]] w (LPostK w0 wn g B D G base s op dz Q) := by
 have IH := Lib.hid ih
 have HDZ := Lib.hid hdz
 clear ih hdz
 have HV := Lib.hid hV
 have L1 := HL.g0
 have HLL := Lib.hid HL
 obtain ⟨b1, e1⟩ : ∃ b, nextB 40 (s.data.toList.drop i) = b := ⟨_, rfl⟩
 have H1 := Lib.hid (must187 w0 w g s i (left : Int) ⟨#[40]⟩ b1 hi hs (by decide) ((pref_one s i 40 hi).trans e1) L1 hV.below hV.par)
 have HQ := Lib.hid hQ
 have E1 := Lib.hid e1
 clear hV hQ e1 HL
 go_enter Try.func176, Try.ntmps176
 go_wp2_with fail
 cases b1 with
 | false =>
  (with_reducible refine H1.out.mono ?_)
  rintro e w1 ⟨hb1, hk1, ⟨-, rfl⟩ | ⟨h, -⟩⟩
  ·exact ⟨rfl, Or.inl ⟨by rw [← HQ.out]; unfold listK; rw [E1.out]; rfl, rfl, hb1, HV.out.keep.trans hk1 (Or.inl rfl)⟩⟩
  ·cases h
 | true =>
  (with_reducible refine H1.out.mono ?_)
  rintro e w1 ⟨hb1, hk1, ⟨h, -⟩ | ⟨-, rfl, hp1⟩⟩
  ·cases h
  have HV1 := Lib.hid (HV.out.moved HLL.out hb1 hk1 hp1)
  have hi1 : i + 1 ≤ s.size := next_lt E1.out
  have HQ1 := Lib.hid (show (if nextB 41 (s.data.toList.drop (i + 1)) = true then some ([], left, s.data.toList.drop (i + 2)) else readML (cutM 33) stepP true d 65 left (s.data.toList.drop (i + 1))) = Q by rw [← HQ.out]; unfold listK; rw [E1.out, if_pos rfl, List.drop_drop, List.drop_drop])
  obtain ⟨b2, e2⟩ : ∃ b, nextB 41 (s.data.toList.drop (i + 1)) = b := ⟨_, rfl⟩
  have H2 := Lib.hid (takes174 w0 w1 g s (i + 1) (left : Int) ⟨#[41]⟩ b2 hi1 hs (by decide) ((pref_one s (i + 1) 41 hi1).trans e2) L1 HV1.out.below HV1.out.par)
  have E2 := Lib.hid e2
  clear hb1 hk1 hp1 H1 e2 HQ HV
  go_wp2_with fail
  (with_reducible refine H2.out.mono ?_)
  rintro e w2 ⟨rfl, hb2, hk2, hp2⟩
  cases b2 with
  | true =>
   have HV2 := Lib.hid (HV1.out.moved HLL.out hb2 hk2 hp2)
   clear hb2 hk2 hp2 H2
   go_wp2
   have hx : LPostK w0 wn g B D G base s op dz Q (.returned (.tuple #[])) w2 := Or.inr ⟨[], left, _, i + 2, [], _, _, by rw [← HQ1.out, if_pos E2.out], rfl, next_lt E2.out, rfl, HV2.out⟩
   first | exact bodyPost_ret (results_none rfl _ _ _) rfl hx | (simp only [Exit.inBlock, Exit.then]; exact bodyPost_ret (results_none rfl _ _ _) rfl hx) | exact ⟨rfl, .tuple #[], results_none rfl _ _ _, hx⟩
  | false =>
   have HV2 := Lib.hid (HV1.out.moved HLL.out hb2 hk2 hp2)
   have HQ2 := Lib.hid (show readML (cutM 33) stepP true d 65 left (s.data.toList.drop (i + 1)) = Q by rw [← HQ1.out, if_neg (by rw [E2.out]; decide)])
   clear hb2 hk2 hp2 H2 HQ1 HV1
   cases hq : readM (cutM 33) stepP true d left (s.data.toList.drop (i + 1)) with
   | none =>
    have H3 := Lib.hid (kid177n w0 wn w2 g B D G base s op dz (i + 1) left d [] [] 0 none 0 HLL.out HV2.out hi1 hs (by omega) (by decide) HDZ.out IH.out hq)
    have HQ3 := Lib.hid (show Q = none by rw [← HQ2.out, readML_rest, hq])
    clear hq
    go_wp2_with fail
    (with_reducible refine H3.out.mono ?_)
    rintro e w3 ⟨rfl, hb3, hk3⟩
    exact ⟨rfl, Or.inl ⟨HQ3.out, rfl, hb3, hk3⟩⟩
   | some q =>
    obtain ⟨m, l1, t⟩ := q
    obtain ⟨j, hj, hjs, hjt, hll, hij⟩ := read_place hi1 hq
    have H3 := Lib.hid (kid177y w0 wn w2 g B D G base s op dz (i + 1) left d [] [] 0 none 0 HLL.out HV2.out hi1 hs (by omega) (by decide) HDZ.out IH.out m l1 j t hq hj)
    have HQ3 := Lib.hid (show Q = (restK (cutM 33) stepP true d 64 l1 t).map (fun q => ([m] ++ q.1, q.2)) by rw [← HQ2.out, readML_rest, hq]; rfl)
    have HR := Lib.hid (And.intro hjt (And.intro hjs hll))
    clear hq hj hjs hjt hll hij
    go_wp2_with fail
    (with_reducible refine H3.out.mono ?_)
    rintro e w3 ⟨A3, c3, cs3, rfl, hv3⟩
    have HV3 := Lib.hid hv3
    clear hv3 H3
    go_wp2
    go_loopw [] (fun wr => ∃ (n p l2 : Nat) (ks : List S25) (cells : List Value) (rr : List UInt8) (A : Option Addr) (c : Nat), 1 ≤ n ∧ n + l2 ≤ 63 ∧ p ≤ s.size ∧ Hid (s.data.toList.drop p = rr) ∧ Hid (Q = (restK (cutM 33) stepP true d (65 - n) l2 rr).map (fun q => (ks ++ q.1, q.2))) ∧ Hid (VK w0 wn wr g B D G base s op dz p ((l2 : Nat) : Int) ks cells n A c))
     (fun wr => s.size - (intOf ((wr.cell? ⟨g, 1, none⟩).getD undef)).toNat)
    case atStart => exact ⟨1, j, l1, [m], cs3, t, A3, c3, by decide, by have := HR.out.2.2; omega, HR.out.2.1, Lib.hid HR.out.1, HQ3, HV3⟩
    case round =>
     obtain ⟨n, p, l2, ks, cells, rr, A, c, hn1, hn17, hp, HRR, HQr, HVr⟩ := hrel
     clear HV3 HQ3 HR HV2 HQ2
     obtain ⟨b3, e3⟩ : ∃ b, nextB 41 (s.data.toList.drop p) = b := ⟨_, rfl⟩
     have H4 := Lib.hid (takes174 w0 wr g s p ((l2 : Nat) : Int) ⟨#[41]⟩ b3 hp hs (by decide) ((pref_one s p 41 hp).trans e3) L1 HVr.out.below HVr.out.par)
     have E3 := Lib.hid e3
     clear e3
     go_wp2_with fail
     (with_reducible refine H4.out.mono ?_)
     rintro e w4 ⟨rfl, hb4, hk4, hp4⟩
     have HV4 := Lib.hid (HVr.out.moved HLL.out hb4 hk4 hp4)
     clear hb4 hk4 hp4 H4
     cases b3 with
     | true =>
      have HQ4 := Lib.hid (show Q = some (ks, l2, rr.drop 1) by rw [HQr.out]; unfold restK; rw [← HRR.out, if_pos E3.out]; simp)
      have hlen : ks.length = n := HV4.out.len
      subst hlen
      have hx : LPostK w0 wn g B D G base s op dz Q (.returned (.tuple #[])) w4 := Or.inr ⟨ks, l2, _, p + 1, cells, _, _, HQ4.out, by rw [← HRR.out, List.drop_drop], next_lt E3.out, rfl, HV4.out⟩
      go_wp2
      first | exact bodyPost_ret (results_none rfl _ _ _) rfl hx | (simp only [Exit.inBlock, Exit.then]; exact bodyPost_ret (results_none rfl _ _ _) rfl hx) | exact ⟨rfl, .tuple #[], results_none rfl _ _ _, hx⟩
     | false =>
      obtain ⟨b4, e4⟩ : ∃ b, nextB 44 (s.data.toList.drop p) = b := ⟨_, rfl⟩
      have H5 := Lib.hid (must187 w0 w4 g s p ((l2 : Nat) : Int) ⟨#[44]⟩ b4 hp hs (by decide) ((pref_one s p 44 hp).trans e4) L1 HV4.out.below HV4.out.par)
      have E4 := Lib.hid e4
      clear e4
      go_wp2_with fail
      cases b4 with
      | false =>
       (with_reducible refine H5.out.mono ?_)
       rintro e w5 ⟨hb5, hk5, ⟨-, rfl⟩ | ⟨h, -⟩⟩
       ·exact ⟨rfl, Or.inl ⟨by rw [HQr.out]; unfold restK; rw [← HRR.out, if_neg (by rw [E3.out]; decide), if_neg (by rw [E4.out]; decide)]; rfl, rfl, hb5, HV4.out.keep.trans hk5 (Or.inl rfl)⟩⟩
       ·cases h
      | true =>
       (with_reducible refine H5.out.mono ?_)
       rintro e w5 ⟨hb5, hk5, ⟨h, -⟩ | ⟨-, rfl, hp5⟩⟩
       ·cases h
       have HV5 := Lib.hid (HV4.out.moved HLL.out hb5 hk5 hp5)
       have hp1 : p + 1 ≤ s.size := next_lt E4.out
       have HQ5 := Lib.hid (show Q = (readML (cutM 33) stepP true d (65 - n) l2 (s.data.toList.drop (p + 1))).map (fun q => (ks ++ q.1, q.2)) by rw [HQr.out]; unfold restK; rw [← HRR.out, if_neg (by rw [E3.out]; decide), if_pos E4.out, List.drop_drop])
       clear hb5 hk5 hp5 H5 HV4
       cases hq : readM (cutM 33) stepP true d l2 (s.data.toList.drop (p + 1)) with
       | none =>
        have H6 := Lib.hid (kid177n w0 wn w5 g B D G base s op dz (p + 1) l2 d ks cells n A c HLL.out HV5.out hp1 hs (by omega) (by omega) HDZ.out IH.out hq)
        have HQ6 := Lib.hid (show Q = none by rw [HQ5.out, show 65 - n = (64 - n) + 1 by omega, readML_rest, hq]; rfl)
        clear hq
        go_wp2_with fail
        (with_reducible refine H6.out.mono ?_)
        rintro e w6 ⟨rfl, hb6, hk6⟩
        exact ⟨rfl, Or.inl ⟨HQ6.out, rfl, hb6, hk6⟩⟩
       | some q =>
        obtain ⟨m2, l3, t2⟩ := q
        obtain ⟨j2, hj2, hjs2, hjt2, hll2, hij2⟩ := read_place hp1 hq
        have H6 := Lib.hid (kid177y w0 wn w5 g B D G base s op dz (p + 1) l2 d ks cells n A c HLL.out HV5.out hp1 hs (by omega) (by omega) HDZ.out IH.out m2 l3 j2 t2 hq hj2)
        have HQ6 := Lib.hid (show Q = (restK (cutM 33) stepP true d (65 - (n + 1)) l3 t2).map (fun q => ((ks ++ [m2]) ++ q.1, q.2)) by
         rw [HQ5.out, show 65 - n = (65 - (n + 1)) + 1 by omega, readML_rest, hq]
         simp only [Option.map_map]
         congr 1
         funext q
         simp)
        have HR2 := Lib.hid (And.intro hjt2 (And.intro hjs2 (And.intro hll2 hij2)))
        clear hq hj2 hjs2 hjt2 hll2 hij2
        go_wp2_with fail
        (with_reducible refine H6.out.mono ?_)
        rintro e w6 ⟨A6, c6, cs6, rfl, hv6⟩
        have HV6 := Lib.hid hv6
        clear hv6 H6
        go_wp2
        go_roundw
        case rel => exact ⟨n + 1, j2, l3, ks ++ [m2], cs6, t2, A6, c6, by omega, by have := HR2.out.2.2.1; omega, HR2.out.2.1, Lib.hid HR2.out.1, HQ6, HV6⟩
        case measure =>
         have h1 := HVr.out.par.c1
         have h2 := HV6.out.par.c1
         have h3 := HR2.out.2.1
         have h4 := HR2.out.2.2.2
         rw [h1, h2]
         simp [intOf]
         omega
end Go.Proofs.Yteafilojjdfllaa
end
section
namespace Go.Proofs.Yteafilojjdfllaa
open Go Go.RowKit Go.Proofs.YteafilojjdfllaaW.PrintWords Go.Proofs.YteafilojjdfllaaW.PrintLast Go.Proofs.YteafilojjdfllaaW.PrintMore Go.Proofs.Yteafilojjdfllaa.PAll
set_option linter.unusedVariables false
set_option linter.unusedSimpArgs false
/-- the world while a matcher is read -/
structure MS (w0 wn W : World) (g B D K G : Nat) (s : ByteArray) (dz : Int) (j : Nat) (l op : Int) : Prop where
 below : Below w0.heap.size w0 W
 keep : KeepBut wn W g none
 size : G < W.heap.size
 box : W.heap[B]? = some (.cells #[.pointer (some ⟨g, 0, none⟩)] 170 (0, 0))
 dbox : W.heap[D]? = some (.cells #[.int .i64 dz] 3 (0, 0))
 res : W.heap[K]? = some (.cells Z5 25 (0, 0))
 blk : W.heap[G]? = some (.cells #[.int .i64 op, .string ⟨#[]⟩, .string ⟨#[]⟩, .slice none 0 0, .slice none 0 0] 25 (0, 0))
 par : PB W g s j l
/-- where these lie -/
structure ML (w0 w wn : World) (g B D K G : Nat) : Prop where
 g0 : w0.heap.size ≤ g
 gl : g < w.heap.size
 w0l : w0.heap.size ≤ w.heap.size
 eB : w.heap.size = B
 eD : B + 1 = D
 eK : D + 1 = K
 eG : K + 1 = G
 wG : wn.heap.size = G
section
variable {w0 w wn W W' : World} {g B D K G : Nat} {s : ByteArray} {dz : Int} {i j : Nat} {l op : Int}
theorem MS.moved (h : MS w0 wn W g B D K G s dz i l op) (L : ML w0 w wn g B D K G) (hB : Below w0.heap.size w0 W') (hK : KeepBut W W' g none) (hP : PB W' g s j l) : MS w0 wn W' g B D K G s dz j l op := by
 obtain ⟨L1, L2, L0, L3, L4, L5, L6, L7⟩ := L
 have hs := h.size
 have hs2 := hK.1
 exact ⟨hB, h.keep.trans hK (Or.inl rfl), by omega, (hK.2 B (by omega) (by omega) (by simp)).trans h.box, (hK.2 D (by omega) (by omega) (by simp)).trans h.dbox, (hK.2 K (by omega) (by omega) (by simp)).trans h.res, (hK.2 G (by omega) (by omega) (by simp)).trans h.blk, hP⟩
theorem MS.setop (h : MS w0 wn W g B D K G s dz i l op) (L : ML w0 w wn g B D K G) (o : Int) : MS w0 wn (W.setCell ⟨G, 0, none⟩ (.int .i64 o)) g B D K G s dz i l o := by
 obtain ⟨L1, L2, L0, L3, L4, L5, L6, L7⟩ := L
 have hk := h.keep
 exact ⟨h.below.setCell (show w0.heap.size ≤ G by omega) _, ⟨by simpa using hk.1, fun i hi h1 h2 => (Below.heap_setCell _ _ _ _ (show i ≠ G by omega)).trans (hk.2 i hi h1 h2)⟩, by simpa using h.size,
  (Below.heap_setCell _ _ _ _ (show B ≠ G by omega)).trans h.box, (Below.heap_setCell _ _ _ _ (show D ≠ G by omega)).trans h.dbox, (Below.heap_setCell _ _ _ _ (show K ≠ G by omega)).trans h.res, (blk_set h.blk 0 _).trans (by rfl), (Below.heap_setCell _ _ _ _ (show g ≠ G by omega)).trans h.par⟩
theorem MS.cB (h : MS w0 wn W g B D K G s dz i l op) : W.cell? ⟨B, 0, none⟩ = some (.pointer (some ⟨g, 0, none⟩)) := (blk_cell h.box 0).trans rfl
theorem MS.zG (h : MS w0 wn W g B D K G s dz i l op) (k : Nat) : W.frozen? ⟨G, k, none⟩ = false := blk_frozen h.blk k
theorem MS.zK (h : MS w0 wn W g B D K G s dz i l op) (k : Nat) : W.frozen? ⟨K, k, none⟩ = false := blk_frozen h.res k
theorem MS.c0 (h : MS w0 wn W g B D K G s dz i l op) : W.cell? ⟨G, 0, none⟩ = some (.int .i64 op) := (blk_cell h.blk 0).trans rfl
theorem MS.c1 (h : MS w0 wn W g B D K G s dz i l op) : W.cell? ⟨G, 1, none⟩ = some (.string ⟨#[]⟩) := (blk_cell h.blk 1).trans rfl
theorem MS.c2 (h : MS w0 wn W g B D K G s dz i l op) : W.cell? ⟨G, 2, none⟩ = some (.string ⟨#[]⟩) := (blk_cell h.blk 2).trans rfl
theorem MS.c3 (h : MS w0 wn W g B D K G s dz i l op) : W.cell? ⟨G, 3, none⟩ = some (.slice none 0 0) := (blk_cell h.blk 3).trans rfl
theorem MS.c4 (h : MS w0 wn W g B D K G s dz i l op) : W.cell? ⟨G, 4, none⟩ = some (.slice none 0 0) := (blk_cell h.blk 4).trans rfl
theorem MS.k0 (h : MS w0 wn W g B D K G s dz i l op) : W.cell? ⟨K, 0, none⟩ = some (.int .i64 0) := (blk_cell h.res 0).trans rfl
theorem MS.k1 (h : MS w0 wn W g B D K G s dz i l op) : W.cell? ⟨K, 1, none⟩ = some (.string ⟨#[]⟩) := (blk_cell h.res 1).trans rfl
theorem MS.k2 (h : MS w0 wn W g B D K G s dz i l op) : W.cell? ⟨K, 2, none⟩ = some (.string ⟨#[]⟩) := (blk_cell h.res 2).trans rfl
theorem MS.k3 (h : MS w0 wn W g B D K G s dz i l op) : W.cell? ⟨K, 3, none⟩ = some (.slice none 0 0) := (blk_cell h.res 3).trans rfl
theorem MS.k4 (h : MS w0 wn W g B D K G s dz i l op) : W.cell? ⟨K, 4, none⟩ = some (.slice none 0 0) := (blk_cell h.res 4).trans rfl
end
set_option maxRecDepth 100000 in
set_option maxHeartbeats 16000000 in
/-- so many are read. -/
theorem mat144a (w0 w : World) (g : Nat) (s : ByteArray) (i d : Nat) (dz : Int) (hg : w0.heap.size ≤ g) (hB : Below w0.heap.size w0 w) (hP : PB w g s i 0) :
  Calls Try.prog 144 #[.pointer (some ⟨g, 0, none⟩), .int .i64 dz] w (RedPost w0 w g none) := by
 have hgl := hP.lt
 obtain ⟨V0, eV0⟩ : ∃ V0, V0 = ((w.alloc (.cells #[.pointer (some ⟨g, 0, none⟩)] 170)).alloc (.cells #[.int .i64 dz] 3)).alloc (.cells Z5 25) := ⟨_, rfl⟩
 have hB0 : Below w.heap.size w V0 := by rw [eV0]; exact below_alloc (below_alloc (below_alloc (Below.refl _ _) _) _) _
 have hP0 := hP.below hB0
 have hc2 := hP0.c2
 have hz2 := hP0.z2
 rw [eV0] at hc2 hz2
 have HB := Lib.hid (below_step hB hB0)
 have HK := Lib.hid (KeepBut.of_below hB0 g none)
 clear hP hB hP0 hB0 hgl
 go_enter Try.func144, Try.ntmps144
 go_wp2
 rw [← eV0]
 exact ⟨rfl, HB.out.setCell hg _, HK.out.set_ _ _, Or.inl ⟨rfl, rfl⟩⟩
set_option maxRecDepth 100000 in
set_option maxHeartbeats 16000000 in
/-- too deep. -/
theorem mat144b (w0 w : World) (g : Nat) (s : ByteArray) (i left : Nat) (hl : left ≤ 1000) (dz : Int) (hdz : dz = 9) (hg : w0.heap.size ≤ g) (hB : Below w0.heap.size w0 w) (hP : PB w g s i ((left + 1 : Nat) : Int)) :
  Calls Try.prog 144 #[.pointer (some ⟨g, 0, none⟩), .int .i64 dz] w (RedPost w0 w g none) := by
 have hgl := hP.lt
 obtain ⟨V0, eV0⟩ : ∃ V0, V0 = ((w.alloc (.cells #[.pointer (some ⟨g, 0, none⟩)] 170)).alloc (.cells #[.int .i64 dz] 3)).alloc (.cells Z5 25) := ⟨_, rfl⟩
 have hB0 : Below w.heap.size w V0 := by rw [eV0]; exact below_alloc (below_alloc (below_alloc (Below.refl _ _) _) _) _
 have hP0 := hP.below hB0
 have hc2 := hP0.c2
 have hz2 := hP0.z2
 rw [eV0] at hc2 hz2
 have hw1 : wrap64 (((left + 1 : Nat) : Int) - 1) = (left : Int) := by unfold wrap64; omega
 have hd : decide ((left : Int) < 0) = false := decide_eq_false (by omega)
 have hd2 : decide ((8 : Int) < dz) = true := decide_eq_true (by omega)
 have ht2 : (8 : Int) < dz := by omega
 have HB := Lib.hid (below_step hB hB0)
 have HK := Lib.hid (KeepBut.of_below hB0 g none)
 have hgB : w.heap.size + 1 ≠ g := by omega
 have hgD : g ≠ w.heap.size + 1 := by omega
 have hgB2 : w.heap.size ≠ g := by omega
 have hgD2 : g ≠ w.heap.size := by omega
 clear hP hB hP0 hB0 hgl hdz
 go_enter Try.func144, Try.ntmps144
 go_wp2
 rw [← eV0]
 exact ⟨rfl, HB.out.setCell hg _, HK.out.set_ _ _, Or.inl ⟨rfl, rfl⟩⟩
set_option maxRecDepth 100000 in
set_option maxHeartbeats 64000000 in
/-- a matcher. -/
theorem mat144c (w0 w : World) (g : Nat) (s : ByteArray) (i left d : Nat) (hl : left ≤ 63) (hd7 : d ≤ 7) (dz : Int) (hdz : dz = 8 - (d : Int)) (hi : i ≤ s.size) (hs : s.size ≤ 1000000000) (hg : w0.heap.size ≤ g) (hB : Below w0.heap.size w0 w) (hP : PB w g s i ((left + 1 : Nat) : Int)) (ih : IHp w0 g s d (dz + 1)) :
  Calls Try.prog 144 #[.pointer (some ⟨g, 0, none⟩), .int .i64 dz] w (RedPost w0 w g ((readM (cutM 33) stepP true (d + 1) (left + 1) (s.data.toList.drop i)).map fun q => (q.1, pObj s (s.size - q.2.2.length) (q.2.1 : Nat)))) := by
 obtain ⟨Q, hQ⟩ : ∃ Q, readM (cutM 33) stepP true (d + 1) (left + 1) (s.data.toList.drop i) = Q := ⟨_, rfl⟩
 rw [hQ]
 rw [readM_step _ _ _ _ _ _ rfl] at hQ
 have HQ := Lib.hid hQ
 have IH := Lib.hid ih
 clear hQ ih
 have hgl := hP.lt
 obtain ⟨V0, eV0⟩ : ∃ V0, V0 = ((w.alloc (.cells #[.pointer (some ⟨g, 0, none⟩)] 170)).alloc (.cells #[.int .i64 dz] 3)).alloc (.cells Z5 25) := ⟨_, rfl⟩
 have hB0 : Below w.heap.size w V0 := by rw [eV0]; exact below_alloc (below_alloc (below_alloc (Below.refl _ _) _) _) _
 have hP0 := hP.below hB0
 have hc2 := hP0.c2
 have hz2 := hP0.z2
 rw [eV0] at hc2 hz2
 have hw1 : wrap64 (((left + 1 : Nat) : Int) - 1) = (left : Int) := by unfold wrap64; omega
 have hd : decide ((left : Int) < 0) = false := decide_eq_false (by omega)
 have ht : ¬ (left : Int) < 0 := by omega
 have hd2 : decide ((8 : Int) < dz) = false := decide_eq_false (by omega)
 have ht2 : ¬ (8 : Int) < dz := by omega
 have HDZ := Lib.hid (show wrap64 (dz + 1) = dz + 1 by unfold wrap64; omega)
 have hgB : w.heap.size + 1 ≠ g := by omega
 have hgD : g ≠ w.heap.size + 1 := by omega
 have hgB2 : w.heap.size ≠ g := by omega
 have hgD2 : g ≠ w.heap.size := by omega
 obtain ⟨V, eV⟩ : ∃ V, V = V0.setCell ⟨g, 2, none⟩ (.int .i64 (left : Int)) := ⟨_, rfl⟩
 obtain ⟨B, eB⟩ : ∃ B, w.heap.size = B := ⟨_, rfl⟩
 obtain ⟨D, eD⟩ : ∃ D, B + 1 = D := ⟨_, rfl⟩
 obtain ⟨K, eK⟩ : ∃ K, D + 1 = K := ⟨_, rfl⟩
 obtain ⟨G, eG⟩ : ∃ G, K + 1 = G := ⟨_, rfl⟩
 have hVs : V.heap.size = G := by rw [eV, World.size_setCell, eV0]; simp; omega
 have HL := Lib.hid (show ML w0 w V g B D K G from ⟨hg, hgl, hB.size, eB, eD, eK, eG, hVs⟩)
 have HK0 := Lib.hid (show KeepBut w V g none from by rw [eV]; exact (KeepBut.of_below hB0 g none).set_ _ _)
 have v1 : V0.heap[B]? = some (.cells #[.pointer (some ⟨g, 0, none⟩)] 170 (0, 0)) := by
  rw [eV0, ← eB]
  exact (Below.heap_alloc _ _ _ (by simp; omega)).trans ((Below.heap_alloc _ _ _ (by simp)).trans (blk_new w _))
 have v2 : V0.heap[D]? = some (.cells #[.int .i64 dz] 3 (0, 0)) := by
  rw [eV0, ← eD, ← eB]
  have h := blk_new (w.alloc (.cells #[.pointer (some ⟨g, 0, none⟩)] 170)) (.cells #[.int .i64 dz] 3)
  rw [World.size_alloc] at h
  exact (Below.heap_alloc _ _ _ (by simp)).trans h
 have v3 : V0.heap[K]? = some (.cells Z5 25 (0, 0)) := by
  rw [eV0, ← eK, ← eD, ← eB]
  have h := blk_new ((w.alloc (.cells #[.pointer (some ⟨g, 0, none⟩)] 170)).alloc (.cells #[.int .i64 dz] 3)) (.cells Z5 25)
  rw [World.size_alloc, World.size_alloc] at h
  exact h
 have HKV : Hid (V.heap[K]? = some (.cells Z5 25 (0, 0))) := Lib.hid (by rw [eV]; exact (Below.heap_setCell _ _ _ _ (show K ≠ g by omega)).trans v3)
 have HV : Hid (MS w0 V (V.alloc (.cells Z5 25)) g B D K G s dz i (left : Int) 0) := Lib.hid (by
  have f : ∀ k, k ≠ g → k < V0.heap.size → (V.alloc (.cells Z5 25)).heap[k]? = V0.heap[k]? := fun k h1 h2 => by
   rw [eV]
   exact (Below.heap_alloc _ _ _ (by simpa using h2)).trans (Below.heap_setCell _ _ _ _ h1)
  have hs0 : V0.heap.size = G := by rw [← hVs, eV, World.size_setCell]
  refine ⟨below_alloc (by rw [eV]; exact (below_step hB hB0).setCell hg _) _, KeepBut.of_below (below_alloc (Below.refl _ _) _) g none, by rw [World.size_alloc]; omega, (f B (by omega) (by omega)).trans v1, (f D (by omega) (by omega)).trans v2, (f K (by omega) (by omega)).trans v3, by rw [← hVs]; exact blk_new V _, ?_⟩
  exact PB.below (by rw [eV]; exact hP0.set2 _) (below_alloc (Below.refl _ _) _))
 have cb0 := blk_cell v1 0
 have cd0 := blk_cell v2 0
 simp only [List.getElem?_toArray, List.getElem?_cons_zero] at cb0 cd0
 rw [eV0] at cb0 cd0
 have hBg : B ≠ g := by omega
 have hgB' : g ≠ B := by omega
 have hDg : D ≠ g := by omega
 have hgD' : g ≠ D := by omega
 rw [eV0] at eV
 clear hP hB hP0 hB0 hgl hdz v1 v2 v3
 go_enter Try.func144, Try.ntmps144
 go_upto_block 0 with fail
 rw [← eV]
 obtain ⟨W4, eW4⟩ : ∃ W4, W4 = V.alloc (.cells Z5 25) := ⟨_, rfl⟩
 rw [← eW4] at HV ⊢
 clear eW4 eV hc2 hz2 cb0 cd0 hBg hgB' hDg hgD' hgB hgD hgB2 hgD2 hw1 hd ht hd2 ht2 eB eD eK eG hVs eV0
 have HNE := Lib.hid (show K ≠ G by have := HL.out.eG; omega)
 have hKG : K ≠ G := HNE.out
 have hGK : G ≠ K := HNE.out.symm
 have cB0 := HV.out.cB
 obtain ⟨b0, e0⟩ : ∃ b, nextB 42 (s.data.toList.drop i) = b := ⟨_, rfl⟩
 have H0 := Lib.hid (takes174 w0 W4 g s i (left : Int) ⟨#[42]⟩ b0 hi hs (by decide) ((pref_one s i 42 hi).trans e0) hg HV.out.below HV.out.par)
 have E0 := Lib.hid e0
 clear e0
 go_wp2_with fail
 (with_reducible refine H0.out.mono ?_)
 rintro ee w5 ⟨rfl, hb5, hk5, hp5⟩
 cases b0 with
 | true =>
  have HM5 : Hid (MS w0 V w5 g B D K G s dz (i + 1) (left : Int) 0) := Lib.hid (HV.out.moved HL.out hb5 hk5 hp5)
  have hi1 : i + 1 ≤ s.size := next_lt E0.out
  clear hb5 hk5 hp5 H0 cB0
  have y0 := HM5.out.c0
  have y1 := HM5.out.c1
  have y2 := HM5.out.c2
  have y3 := HM5.out.c3
  have y4 := HM5.out.c4
  have xk0 := HM5.out.k0
  have xk1 := HM5.out.k1
  have xk2 := HM5.out.k2
  have xk3 := HM5.out.k3
  have xk4 := HM5.out.k4
  have xz0 := HM5.out.zK 0
  have xz1 := HM5.out.zK 1
  have xz2 := HM5.out.zK 2
  have xz3 := HM5.out.zK 3
  have xz4 := HM5.out.zK 4
  go_wp2
  have h5 := HM5.out
  obtain ⟨L1, L2, L0, L3, L4, L5, L6, L7⟩ := HL.out
  have hQ : Q = some (⟨0, ⟨#[]⟩, ⟨#[]⟩, [], []⟩, left, s.data.toList.drop (i + 1)) := by rw [← HQ.out, if_pos E0.out, List.drop_drop]
  have hT := nam_tail (m := ⟨0, ⟨#[]⟩, ⟨#[]⟩, [], []⟩) (A3 := none) (c3 := 0) (A4 := none) (c4 := 0) (W := w5) (w := w) (w0 := w0) (g := g) (K := K) (o := pObj s (i + 1) (left : Int)) (by omega) h5.res hg L2 L0 h5.below (HK0.out.trans h5.keep (Or.inl rfl)) h5.par (fun X _ => ⟨Nat.le_refl _, Kd.C_nil _ _, Nat.le_refl _, Kd.C_nil _ _⟩)
  rw [hQ]
  simp only [Option.map_some, List.length_drop, show s.size - (s.data.toList.length - (i + 1)) = i + 1 by simp; omega]
  exact bodyPost_ret (results_single rfl (.cell K 25 _ (0, 0) _ rfl hT.1 Try.underlying25 rfl (by kernel_rfl) .nil)) rfl hT.2
 | false =>
  have HM5 : Hid (MS w0 V w5 g B D K G s dz i (left : Int) 0) := Lib.hid (HV.out.moved HL.out hb5 hk5 hp5)
  clear hb5 hk5 hp5 H0 cB0
  have cB1 := HM5.out.cB
  obtain ⟨b1, e1⟩ : ∃ b, nextB 38 (s.data.toList.drop i) = b := ⟨_, rfl⟩
  have H1 := Lib.hid (takes174 w0 w5 g s i (left : Int) ⟨#[38]⟩ b1 hi hs (by decide) ((pref_one s i 38 hi).trans e1) hg HM5.out.below HM5.out.par)
  have E1 := Lib.hid e1
  clear e1
  go_wp2_with fail
  (with_reducible refine H1.out.mono ?_)
  rintro ee w6 ⟨rfl, hb5, hk5, hp5⟩
  cases b1 with
  | true =>
   have HM5 : Hid (MS w0 V w6 g B D K G s dz (i + 1) (left : Int) 0) := Lib.hid (HM5.out.moved HL.out hb5 hk5 hp5)
   have hi1 : i + 1 ≤ s.size := next_lt E1.out
   clear hb5 hk5 hp5 H1 cB1
   have HM6 := Lib.hid (HM5.out.setop HL.out 5)
   have c50 := HM5.out.c0
   have z50 := HM5.out.zG 0
   have cB6 := HM6.out.cB
   obtain ⟨w9, ew9⟩ : ∃ w9, w9 = w6.setCell ⟨G, 0, none⟩ (.int .i64 5) := ⟨_, rfl⟩
   have hmf : ∀ (fn : Fn) (first cap : Array Value) (w : World), (Instr.makeFunc fn first cap).run Try.prog w = .ok (.func fn first cap) w := fun _ _ _ _ => rfl
   obtain ⟨base, hbase⟩ : ∃ base, w9.heap.size = base := ⟨_, rfl⟩
   rw [← ew9] at HM6
   obtain ⟨L1, L2, L0, L3, L4, L5, L6, L7⟩ := HL.out
   have h9 := HM6.out
   have H9 := Lib.hid (list176k w0 V w9 g B D G base s 5 dz (i + 1) left d ⟨hg, by omega, by omega, by omega, by omega, by have := h9.size; omega, by have := h9.size; omega, by have := h9.size; omega, by omega, by omega, by omega⟩ ⟨h9.below, h9.keep, by omega, h9.box, h9.dbox, h9.blk, h9.par, World.ownsRow_nil _ _ _ _, by simpa using Reps.none _ _, rfl, rfl⟩ hi1 hs hl HDZ.out IH.out _ rfl)
   have HBS := Lib.hid (show K < base by have := h9.size; omega)
   clear h9 hbase L1 L2 L0 L3 L4 L5 L6 L7
   go_wp2_with fail
   rw [← ew9]
   refine H9.out.mono ?_
   intro ee w10 hp10
   rcases hp10 with ⟨hq, rfl, hb10, hk10⟩ | ⟨ks, l1, r, j2, cs, A, c, hq, hr, hj, rfl, hv10⟩
   ·have hQ : Q = none := by rw [← HQ.out, if_neg (by rw [E0.out]; decide), if_pos E1.out, List.drop_drop, hq]; rfl
    exact ⟨rfl, hb10, HK0.out.trans hk10 (Or.inl rfl), Or.inl ⟨by rw [hQ]; rfl, rfl⟩⟩
   ·have HQ6 := Lib.hid (show Q = some (⟨5, ⟨#[]⟩, ⟨#[]⟩, [], ks⟩, l1, r) by rw [← HQ.out, if_neg (by rw [E0.out]; decide), if_pos E1.out, List.drop_drop, hq]; rfl)
    have HJ2 := Lib.hid (show s.size - r.length = j2 by rw [← hr]; simp; omega)
    have HVV := Lib.hid hv10
    have y0 := (blk_cell hv10.blk 0).trans rfl
    have y1 := (blk_cell hv10.blk 1).trans rfl
    have y2 := (blk_cell hv10.blk 2).trans rfl
    have y3 := (blk_cell hv10.blk 3).trans rfl
    have y4 := (blk_cell hv10.blk 4).trans rfl
    have hKg : K ≠ g := by obtain ⟨L1, L2, L0, L3, L4, L5, L6, L7⟩ := HL.out; omega
    have hK10 := (hv10.keep.2 K (by obtain ⟨L1, L2, L0, L3, L4, L5, L6, L7⟩ := HL.out; omega) hKg (by simp)).trans HKV.out
    have HK10 := Lib.hid hK10
    have x0 := (blk_cell hK10 0).trans rfl
    have x1 := (blk_cell hK10 1).trans rfl
    have x2 := (blk_cell hK10 2).trans rfl
    have x3 := (blk_cell hK10 3).trans rfl
    have x4 := (blk_cell hK10 4).trans rfl
    have xz0 := blk_frozen hK10 0
    have xz1 := blk_frozen hK10 1
    have xz2 := blk_frozen hK10 2
    have xz3 := blk_frozen hK10 3
    have xz4 := blk_frozen hK10 4
    simp only [List.getElem?_toArray, List.getElem?_cons_zero, List.getElem?_cons_succ] at y0 y1 y2 y3 y4 x0 x1 x2 x3 x4
    clear hv10 hK10 hq hr H9 ew9 c50 z50 cB6 HM6 HM5
    go_wp2
    have hv := HVV.out
    obtain ⟨L1, L2, L0, L3, L4, L5, L6, L7⟩ := HL.out
    have hk7 := HK0.out.trans hv.keep (Or.inl rfl)
    obtain ⟨F3, gg3, F4, gg4, ev3, ev4, hMF⟩ := MF.of_rows (m := ⟨5, ⟨#[]⟩, ⟨#[]⟩, [], ks⟩) (lo' := base) (World.ownsRow_nil _ _ _ _) hv.own hv.reps (Nat.le_refl _)
    simp only at ev3 ev4
    cases ev3
    cases ev4
    have hT := nam_tail (m := ⟨5, ⟨#[]⟩, ⟨#[]⟩, [], ks⟩) (W := w10) (w := w) (w0 := w0) (g := g) (K := K) (o := pObj s j2 ((l1 : Nat) : Int)) (by omega) HK10.out hg L2 L0 hv.below hk7 hv.par (hMF.move (fun b hb => ⟨⟨by have := hb.1; have := HBS.out; omega, hb.2⟩, rfl⟩))
    rw [HQ6.out]
    simp only [Option.map_some, HJ2.out]
    exact bodyPost_ret (results_single rfl (.cell K 25 _ (0, 0) _ rfl hT.1 Try.underlying25 rfl (by kernel_rfl) .nil)) rfl hT.2
  | false =>
   have HM6 : Hid (MS w0 V w6 g B D K G s dz i (left : Int) 0) := Lib.hid (HM5.out.moved HL.out hb5 hk5 hp5)
   clear hb5 hk5 hp5 H1 cB1
   have cB2 := HM6.out.cB
   obtain ⟨b2, e2⟩ : ∃ b, nextB 124 (s.data.toList.drop i) = b := ⟨_, rfl⟩
   have H2 := Lib.hid (takes174 w0 w6 g s i (left : Int) ⟨#[124]⟩ b2 hi hs (by decide) ((pref_one s i 124 hi).trans e2) hg HM6.out.below HM6.out.par)
   have E2 := Lib.hid e2
   clear e2
   go_wp2_with fail
   (with_reducible refine H2.out.mono ?_)
   rintro ee w7 ⟨rfl, hb5, hk5, hp5⟩
   cases b2 with
   | true =>
    have HM5 : Hid (MS w0 V w7 g B D K G s dz (i + 1) (left : Int) 0) := Lib.hid (HM6.out.moved HL.out hb5 hk5 hp5)
    have hi1 : i + 1 ≤ s.size := next_lt E2.out
    clear hb5 hk5 hp5 H2 cB2
    have HM6 := Lib.hid (HM5.out.setop HL.out 6)
    have c50 := HM5.out.c0
    have z50 := HM5.out.zG 0
    have cB6 := HM6.out.cB
    obtain ⟨w9, ew9⟩ : ∃ w9, w9 = w7.setCell ⟨G, 0, none⟩ (.int .i64 6) := ⟨_, rfl⟩
    have hmf : ∀ (fn : Fn) (first cap : Array Value) (w : World), (Instr.makeFunc fn first cap).run Try.prog w = .ok (.func fn first cap) w := fun _ _ _ _ => rfl
    obtain ⟨base, hbase⟩ : ∃ base, w9.heap.size = base := ⟨_, rfl⟩
    rw [← ew9] at HM6
    obtain ⟨L1, L2, L0, L3, L4, L5, L6, L7⟩ := HL.out
    have h9 := HM6.out
    have H9 := Lib.hid (list176k w0 V w9 g B D G base s 6 dz (i + 1) left d ⟨hg, by omega, by omega, by omega, by omega, by have := h9.size; omega, by have := h9.size; omega, by have := h9.size; omega, by omega, by omega, by omega⟩ ⟨h9.below, h9.keep, by omega, h9.box, h9.dbox, h9.blk, h9.par, World.ownsRow_nil _ _ _ _, by simpa using Reps.none _ _, rfl, rfl⟩ hi1 hs hl HDZ.out IH.out _ rfl)
    have HBS := Lib.hid (show K < base by have := h9.size; omega)
    clear h9 hbase L1 L2 L0 L3 L4 L5 L6 L7
    go_wp2_with fail
    rw [← ew9]
    refine H9.out.mono ?_
    intro ee w10 hp10
    rcases hp10 with ⟨hq, rfl, hb10, hk10⟩ | ⟨ks, l1, r, j2, cs, A, c, hq, hr, hj, rfl, hv10⟩
    ·have hQ : Q = none := by rw [← HQ.out, if_neg (by rw [E0.out]; decide), if_neg (by rw [E1.out]; decide), if_pos E2.out, List.drop_drop, hq]; rfl
     exact ⟨rfl, hb10, HK0.out.trans hk10 (Or.inl rfl), Or.inl ⟨by rw [hQ]; rfl, rfl⟩⟩
    ·have HQ6 := Lib.hid (show Q = some (⟨6, ⟨#[]⟩, ⟨#[]⟩, [], ks⟩, l1, r) by rw [← HQ.out, if_neg (by rw [E0.out]; decide), if_neg (by rw [E1.out]; decide), if_pos E2.out, List.drop_drop, hq]; rfl)
     have HJ2 := Lib.hid (show s.size - r.length = j2 by rw [← hr]; simp; omega)
     have HVV := Lib.hid hv10
     have y0 := (blk_cell hv10.blk 0).trans rfl
     have y1 := (blk_cell hv10.blk 1).trans rfl
     have y2 := (blk_cell hv10.blk 2).trans rfl
     have y3 := (blk_cell hv10.blk 3).trans rfl
     have y4 := (blk_cell hv10.blk 4).trans rfl
     have hKg : K ≠ g := by obtain ⟨L1, L2, L0, L3, L4, L5, L6, L7⟩ := HL.out; omega
     have hK10 := (hv10.keep.2 K (by obtain ⟨L1, L2, L0, L3, L4, L5, L6, L7⟩ := HL.out; omega) hKg (by simp)).trans HKV.out
     have HK10 := Lib.hid hK10
     have x0 := (blk_cell hK10 0).trans rfl
     have x1 := (blk_cell hK10 1).trans rfl
     have x2 := (blk_cell hK10 2).trans rfl
     have x3 := (blk_cell hK10 3).trans rfl
     have x4 := (blk_cell hK10 4).trans rfl
     have xz0 := blk_frozen hK10 0
     have xz1 := blk_frozen hK10 1
     have xz2 := blk_frozen hK10 2
     have xz3 := blk_frozen hK10 3
     have xz4 := blk_frozen hK10 4
     simp only [List.getElem?_toArray, List.getElem?_cons_zero, List.getElem?_cons_succ] at y0 y1 y2 y3 y4 x0 x1 x2 x3 x4
     clear hv10 hK10 hq hr H9 ew9 c50 z50 cB6 HM6 HM5
     go_wp2
     have hv := HVV.out
     obtain ⟨L1, L2, L0, L3, L4, L5, L6, L7⟩ := HL.out
     have hk7 := HK0.out.trans hv.keep (Or.inl rfl)
     obtain ⟨F3, gg3, F4, gg4, ev3, ev4, hMF⟩ := MF.of_rows (m := ⟨6, ⟨#[]⟩, ⟨#[]⟩, [], ks⟩) (lo' := base) (World.ownsRow_nil _ _ _ _) hv.own hv.reps (Nat.le_refl _)
     simp only at ev3 ev4
     cases ev3
     cases ev4
     have hT := nam_tail (m := ⟨6, ⟨#[]⟩, ⟨#[]⟩, [], ks⟩) (W := w10) (w := w) (w0 := w0) (g := g) (K := K) (o := pObj s j2 ((l1 : Nat) : Int)) (by omega) HK10.out hg L2 L0 hv.below hk7 hv.par (hMF.move (fun b hb => ⟨⟨by have := hb.1; have := HBS.out; omega, hb.2⟩, rfl⟩))
     rw [HQ6.out]
     simp only [Option.map_some, HJ2.out]
     exact bodyPost_ret (results_single rfl (.cell K 25 _ (0, 0) _ rfl hT.1 Try.underlying25 rfl (by kernel_rfl) .nil)) rfl hT.2
   | false =>
    have HM7 : Hid (MS w0 V w7 g B D K G s dz i (left : Int) 0) := Lib.hid (HM6.out.moved HL.out hb5 hk5 hp5)
    clear hb5 hk5 hp5 H2 cB2
    have cB3 := HM7.out.cB
    obtain ⟨b3, e3⟩ : ∃ b, nextB 33 (s.data.toList.drop i) = b := ⟨_, rfl⟩
    have H3 := Lib.hid (takes174 w0 w7 g s i (left : Int) ⟨#[33]⟩ b3 hi hs (by decide) ((pref_one s i 33 hi).trans e3) hg HM7.out.below HM7.out.par)
    have E3 := Lib.hid e3
    clear e3
    go_wp2_with fail
    (with_reducible refine H3.out.mono ?_)
    rintro ee w8 ⟨rfl, hb5, hk5, hp5⟩
    cases b3 with
    | true =>
     have HM5 : Hid (MS w0 V w8 g B D K G s dz (i + 1) (left : Int) 0) := Lib.hid (HM7.out.moved HL.out hb5 hk5 hp5)
     have hi1 : i + 1 ≤ s.size := next_lt E3.out
     clear hb5 hk5 hp5 H3 cB3
     have HM6 := Lib.hid (HM5.out.setop HL.out 7)
     have c50 := HM5.out.c0
     have z50 := HM5.out.zG 0
     have cB6 := HM6.out.cB
     obtain ⟨w9, ew9⟩ : ∃ w9, w9 = w8.setCell ⟨G, 0, none⟩ (.int .i64 7) := ⟨_, rfl⟩
     have hmf : ∀ (fn : Fn) (first cap : Array Value) (w : World), (Instr.makeFunc fn first cap).run Try.prog w = .ok (.func fn first cap) w := fun _ _ _ _ => rfl
     obtain ⟨base, hbase⟩ : ∃ base, w9.heap.size = base := ⟨_, rfl⟩
     rw [← ew9] at HM6
     obtain ⟨L1, L2, L0, L3, L4, L5, L6, L7⟩ := HL.out
     have h9 := HM6.out
     have H9 := Lib.hid (list176k w0 V w9 g B D G base s 7 dz (i + 1) left d ⟨hg, by omega, by omega, by omega, by omega, by have := h9.size; omega, by have := h9.size; omega, by have := h9.size; omega, by omega, by omega, by omega⟩ ⟨h9.below, h9.keep, by omega, h9.box, h9.dbox, h9.blk, h9.par, World.ownsRow_nil _ _ _ _, by simpa using Reps.none _ _, rfl, rfl⟩ hi1 hs hl HDZ.out IH.out _ rfl)
     have HBS := Lib.hid (show K < base by have := h9.size; omega)
     clear h9 hbase L1 L2 L0 L3 L4 L5 L6 L7
     go_wp2_with fail
     rw [← ew9]
     refine H9.out.mono ?_
     intro ee w10 hp10
     rcases hp10 with ⟨hq, rfl, hb10, hk10⟩ | ⟨ks, l1, r, j2, cs, A, c, hq, hr, hj, rfl, hv10⟩
     ·have hQ : Q = none := by rw [← HQ.out, if_neg (by rw [E0.out]; decide), if_neg (by rw [E1.out]; decide), if_neg (by rw [E2.out]; decide), if_pos E3.out, List.drop_drop, hq]; rfl
      exact ⟨rfl, hb10, HK0.out.trans hk10 (Or.inl rfl), Or.inl ⟨by rw [hQ]; rfl, rfl⟩⟩
     ·have HQ6 := Lib.hid (show Q = some (⟨7, ⟨#[]⟩, ⟨#[]⟩, [], ks⟩, l1, r) by rw [← HQ.out, if_neg (by rw [E0.out]; decide), if_neg (by rw [E1.out]; decide), if_neg (by rw [E2.out]; decide), if_pos E3.out, List.drop_drop, hq]; rfl)
      have HJ2 := Lib.hid (show s.size - r.length = j2 by rw [← hr]; simp; omega)
      have HVV := Lib.hid hv10
      have y0 := (blk_cell hv10.blk 0).trans rfl
      have y1 := (blk_cell hv10.blk 1).trans rfl
      have y2 := (blk_cell hv10.blk 2).trans rfl
      have y3 := (blk_cell hv10.blk 3).trans rfl
      have y4 := (blk_cell hv10.blk 4).trans rfl
      have hKg : K ≠ g := by obtain ⟨L1, L2, L0, L3, L4, L5, L6, L7⟩ := HL.out; omega
      have hK10 := (hv10.keep.2 K (by obtain ⟨L1, L2, L0, L3, L4, L5, L6, L7⟩ := HL.out; omega) hKg (by simp)).trans HKV.out
      have HK10 := Lib.hid hK10
      have x0 := (blk_cell hK10 0).trans rfl
      have x1 := (blk_cell hK10 1).trans rfl
      have x2 := (blk_cell hK10 2).trans rfl
      have x3 := (blk_cell hK10 3).trans rfl
      have x4 := (blk_cell hK10 4).trans rfl
      have xz0 := blk_frozen hK10 0
      have xz1 := blk_frozen hK10 1
      have xz2 := blk_frozen hK10 2
      have xz3 := blk_frozen hK10 3
      have xz4 := blk_frozen hK10 4
      simp only [List.getElem?_toArray, List.getElem?_cons_zero, List.getElem?_cons_succ] at y0 y1 y2 y3 y4 x0 x1 x2 x3 x4
      clear hv10 hK10 hq hr H9 ew9 c50 z50 cB6 HM6 HM5
      go_wp2
      have hv := HVV.out
      obtain ⟨L1, L2, L0, L3, L4, L5, L6, L7⟩ := HL.out
      have hk7 := HK0.out.trans hv.keep (Or.inl rfl)
      obtain ⟨F3, gg3, F4, gg4, ev3, ev4, hMF⟩ := MF.of_rows (m := ⟨7, ⟨#[]⟩, ⟨#[]⟩, [], ks⟩) (lo' := base) (World.ownsRow_nil _ _ _ _) hv.own hv.reps (Nat.le_refl _)
      simp only at ev3 ev4
      cases ev3
      cases ev4
      have hT := nam_tail (m := ⟨7, ⟨#[]⟩, ⟨#[]⟩, [], ks⟩) (W := w10) (w := w) (w0 := w0) (g := g) (K := K) (o := pObj s j2 ((l1 : Nat) : Int)) (by omega) HK10.out hg L2 L0 hv.below hk7 hv.par (hMF.move (fun b hb => ⟨⟨by have := hb.1; have := HBS.out; omega, hb.2⟩, rfl⟩))
      rw [HQ6.out]
      simp only [Option.map_some, HJ2.out]
      exact bodyPost_ret (results_single rfl (.cell K 25 _ (0, 0) _ rfl hT.1 Try.underlying25 rfl (by kernel_rfl) .nil)) rfl hT.2
    | false =>
     have HM8 : Hid (MS w0 V w8 g B D K G s dz i (left : Int) 0) := Lib.hid (HM7.out.moved HL.out hb5 hk5 hp5)
     clear hb5 hk5 hp5 H3 cB3
     have cB := HM8.out.cB
     have H9 := Lib.hid (named175 w0 w8 g s i (left : Int) hi hs hg HM8.out.below HM8.out.par)
     have hQ : Hid (Q = (namedW (cutM 33) stepP true (s.data.toList.drop i)).map (fun p => (p.1, left, p.2))) := Lib.hid (by rw [← HQ.out, if_neg (by rw [E0.out]; decide), if_neg (by rw [E1.out]; decide), if_neg (by rw [E2.out]; decide), if_neg (by rw [E3.out]; decide)])
     go_wp2_with fail
     refine H9.out.mono ?_
     intro ee w9 hp9
     cases hq : namedW (cutM 33) stepP true (s.data.toList.drop i) with
     | none =>
      rw [hq] at hp9
      obtain ⟨rfl, hB9, hK9⟩ := hp9.none_
      have hQ2 := hQ.out
      rw [hq] at hQ2
      exact ⟨rfl, hB9, HK0.out.trans (HM8.out.keep.trans hK9 (Or.inl rfl)) (Or.inl rfl), Or.inl ⟨by rw [hQ2]; rfl, rfl⟩⟩
     | some q =>
      obtain ⟨m, r⟩ := q
      rw [hq] at hp9
      obtain ⟨A3, c3, A4, c4, rfl, hB9, hK9, hMF9, ho⟩ := hp9.some_
      have HQ6 := Lib.hid (show Q = some (m, left, r) by have h := hQ.out; rw [hq] at h; exact h)
      have hs8 := HM8.out.size
      have hKg : K ≠ g := by obtain ⟨L1, L2, L0, L3, L4, L5, L6, L7⟩ := HL.out; omega
      have hK10 := (hK9.2 K (by obtain ⟨L1, L2, L0, L3, L4, L5, L6, L7⟩ := HL.out; omega) hKg (by simp)).trans HM8.out.res
      have HK10 := Lib.hid hK10
      have x0 := (blk_cell hK10 0).trans rfl
      have x1 := (blk_cell hK10 1).trans rfl
      have x2 := (blk_cell hK10 2).trans rfl
      have x3 := (blk_cell hK10 3).trans rfl
      have x4 := (blk_cell hK10 4).trans rfl
      have xz0 := blk_frozen hK10 0
      have xz1 := blk_frozen hK10 1
      have xz2 := blk_frozen hK10 2
      have xz3 := blk_frozen hK10 3
      have xz4 := blk_frozen hK10 4
      simp only [List.getElem?_toArray, List.getElem?_cons_zero, List.getElem?_cons_succ] at x0 x1 x2 x3 x4
      have HB9 := Lib.hid hB9
      have HK9 := Lib.hid hK9
      have HMF := Lib.hid hMF9
      have HO := Lib.hid ho
      have HS8 := Lib.hid hs8
      clear hB9 hK9 hMF9 ho hK10 hp9 hq H9 cB hs8
      go_wp2
      obtain ⟨L1, L2, L0, L3, L4, L5, L6, L7⟩ := HL.out
      have hT := nam_tail (m := m) (A3 := A3) (c3 := c3) (A4 := A4) (c4 := c4) (W := w9) (w := w) (w0 := w0) (g := g) (K := K) (o := pObj s (s.size - r.length) (left : Int)) (by omega) HK10.out hg L2 L0 HB9.out (HK0.out.trans (HM8.out.keep.trans HK9.out (Or.inl rfl)) (Or.inl rfl)) HO.out (HMF.out.move (fun b hb => ⟨⟨by have := hb.1; have := HS8.out; omega, hb.2⟩, rfl⟩))
      rw [HQ6.out]
      simp only [Option.map_some]
      exact bodyPost_ret (results_single rfl (.cell K 25 _ (0, 0) _ rfl hT.1 Try.underlying25 rfl (by kernel_rfl) .nil)) rfl hT.2
end Go.Proofs.Yteafilojjdfllaa
end
section
namespace Go.Proofs.Yteafilojjdfllaa
open Go Go.RowKit Go.Proofs.YteafilojjdfllaaW.PrintWords Go.Proofs.Yteafilojjdfllaa.PAll
theorem toList_iff {a b : ByteArray} : a.toList = b.toList ↔ a = b := by
 rw [ByteArray.toList_eq, ByteArray.toList_eq]
 constructor
 ·intro h
  cases a; cases b
  simp only at h
  rw [Array.toList_inj.1 h]
 ·intro h; rw [h]
end Go.Proofs.Yteafilojjdfllaa
end
section
namespace Go.Proofs.Yteafilojjdfllaa
open Go Go.RowKit Go.Proofs.YteafilojjdfllaaW.PrintWords Go.Proofs.YteafilojjdfllaaW.PrintLast Go.Proofs.YteafilojjdfllaaW.PrintMore Go.Proofs.Yteafilojjdfllaa.PAll
/-- a matcher's text -/
def tB (m : S25) : ByteArray := ⟨(textM m).toArray⟩
theorem sign159 (w : World) (op : Int) (s : ByteArray) (h : match_sign.f op = some s) : Calls Try.prog 159 #[.int .i64 op] w fun e w' => e = .returned (.string s) ∧ Below w.heap.size w w' :=
 (match_sign.calls op s w h).mono fun _ _ h => ⟨h.1, h.2.below⟩
theorem sizes_mem : ∀ {vs : List ByteArray} {x : ByteArray}, x ∈ vs → x.size ≤ sizes vs
 | v :: vs, x, h => by
  simp only [sizes]
  rcases List.mem_cons.1 h with rfl | h
  ·omega
  ·have := sizes_mem h; omega
theorem bytesL_mem : ∀ {ks : List S25} {x : S25}, x ∈ ks → bytesM x ≤ bytesL ks
 | v :: vs, x, h => by
  simp only [bytesL]
  rcases List.mem_cons.1 h with rfl | h
  ·omega
  ·have := bytesL_mem h; omega
theorem tB_map (ks : List S25) : (ks.map tB).map (·.data.toList) = ks.map textM := by simp [tB, Function.comp_def]
set_option maxRecDepth 100000 in
set_option maxHeartbeats 8000000 in
theorem text110 : ∀ (N : Nat) (m : S25), nodesM m ≤ N → okM m = true → nodesM m ≤ 1000 → bytesM m ≤ 1000000 → ∀ (A3 : Option Addr) (c3 : Nat) (A4 : Option Addr) (c4 : Nat) (w : World), MC w m A3 c3 A4 c4 →
  Calls Try.prog 110 #[.agg #[.int .i64 m.f0, .string m.f1, .string m.f2, .slice A3 m.f3.length c3, .slice A4 m.f4.length c4]] w fun e w' => e = .returned (.string (tB m)) ∧ Below w.heap.size w w' := by
 intro N
 induction N with
 | zero => intro m h; rw [nodesM_mk] at h; omega
 | succ N ih =>
  intro m hN hok h1000 hbytes A3 c3 A4 c4 w hM
  have IH := Lib.hid ih
  clear ih
  have hlen := textM_len _ m (Nat.le_refl _) hok
  have hB0 : Below w.heap.size w (w.alloc (.cells #[.int .i64 m.f0, .string m.f1, .string m.f2, .slice A3 m.f3.length c3, .slice A4 m.f4.length c4] 25)) := below_alloc (Below.refl _ _) _
  have hX0 : BoxM (w.alloc (.cells #[.int .i64 m.f0, .string m.f1, .string m.f2, .slice A3 m.f3.length c3, .slice A4 m.f4.length c4] 25)) w.heap.size m.f0 m.f1 m.f2 (.slice A3 m.f3.length c3) (.slice A4 m.f4.length c4) := blk_new w _
  have hb := bytesM_mk m
  have hnd := nodesM_mk m
  rcases shape hok with rfl | ⟨op, n, v, ho, hn, rfl⟩ | ⟨n, vs, hn, rfl⟩ | ⟨op, ks, ho, hk, rfl⟩
  ·simp only at hX0 hB0 ⊢
   go_enter Try.func110, Try.ntmps110
   go_wp2
   go_ret
   exact ⟨rfl, hB0⟩
  ·simp only at hX0 hB0 hb ⊢
   have hv : v.size ≤ 1000000 := by omega
   have hT := text_n (n := n) (v := v) (vs := []) (show op = 1 ∨ op = 2 ∨ op = 3 ∨ op = 4 by omega)
   have hn2 : n.data.toList.length ≤ 1000000 := by rw [show n.data.toList.length = n.size by simp]; omega
   have hq := quoteT_len v
   rcases ho with rfl | rfl | rfl
   ·obtain ⟨s1, e1⟩ : ∃ s1 : ByteArray, s1.data.toList = n.data.toList ++ [61] := ⟨⟨(n.data.toList ++ [61]).toArray⟩, rfl⟩
    have a1 : Op.stringOp .add n ⟨#[61]⟩ = pure (.string s1) := add_to (by rw [e1]) (by rw [e1, List.length_append]; simp only [List.length_cons, List.length_nil]; omega)
    have eT : ∀ t, t = tB ⟨1, n, v, [], []⟩ → s1.data.toList ++ (qB v).data.toList = t.data.toList := fun t ht => by rw [ht, e1]; unfold tB; rw [hT]; simp [textN, qB]
    obtain ⟨t, et⟩ : ∃ t, t = tB ⟨1, n, v, [], []⟩ := ⟨_, rfl⟩
    have a2 : Op.stringOp .add s1 (qB v) = pure (.string t) := add_to (eT t et) (by rw [← eT t et, List.length_append, e1, List.length_append]; simp only [qB, List.length_cons, List.length_nil]; omega)
    rw [← et]
    have hXd := hX0.below (below_drew (Below.refl _ _))
    have hBd := below_drew hB0
    clear hT hM hok hlen hN h1000 hbytes hb IH hnd eT e1 et hq hn2
    have f1 := hXd.c1
    have f2 := hXd.c2
    go_enter Try.func110, Try.ntmps110
    go_wp2_with fail
    go_region_held3 (fun w' => w'.cell? ⟨w.heap.size, 1, none⟩ = some (.string n) ∧ w'.cell? ⟨w.heap.size, 2, none⟩ = some (.string v) ∧ Below w.heap.size w w')
     (first | exact ⟨by assumption, by assumption, by assumption⟩)
     (first | (go_at_call 125; (with_reducible refine (quoted125 _ v hv).mono ?_); rintro e w1 ⟨rfl, hb1⟩; have hX1 := hXd.below hb1; have f1 := hX1.c1; have f2 := hX1.c2; have hB1 := below_step hBd hb1))
    rename_i hS
    have hBe := hS.2.2
    clear hS
    go_wp2_with fail
    go_ret
    exact ⟨rfl, hBe⟩
   ·obtain ⟨s1, e1⟩ : ∃ s1 : ByteArray, s1.data.toList = n.data.toList ++ [33, 61] := ⟨⟨(n.data.toList ++ [33, 61]).toArray⟩, rfl⟩
    have a1 : Op.stringOp .add n ⟨#[33, 61]⟩ = pure (.string s1) := add_to (by rw [e1]) (by rw [e1, List.length_append]; simp only [List.length_cons, List.length_nil]; omega)
    have eT : ∀ t, t = tB ⟨2, n, v, [], []⟩ → s1.data.toList ++ (qB v).data.toList = t.data.toList := fun t ht => by rw [ht, e1]; unfold tB; rw [hT]; simp [textN, qB]
    obtain ⟨t, et⟩ : ∃ t, t = tB ⟨2, n, v, [], []⟩ := ⟨_, rfl⟩
    have a2 : Op.stringOp .add s1 (qB v) = pure (.string t) := add_to (eT t et) (by rw [← eT t et, List.length_append, e1, List.length_append]; simp only [qB, List.length_cons, List.length_nil]; omega)
    rw [← et]
    have hXd := hX0.below (below_drew (Below.refl _ _))
    have hBd := below_drew hB0
    clear hT hM hok hlen hN h1000 hbytes hb IH hnd eT e1 et hq hn2
    have f1 := hXd.c1
    have f2 := hXd.c2
    go_enter Try.func110, Try.ntmps110
    go_wp2_with fail
    go_region_held3 (fun w' => w'.cell? ⟨w.heap.size, 1, none⟩ = some (.string n) ∧ w'.cell? ⟨w.heap.size, 2, none⟩ = some (.string v) ∧ Below w.heap.size w w')
     (first | exact ⟨by assumption, by assumption, by assumption⟩)
     (first | (go_at_call 125; (with_reducible refine (quoted125 _ v hv).mono ?_); rintro e w1 ⟨rfl, hb1⟩; have hX1 := hXd.below hb1; have f1 := hX1.c1; have f2 := hX1.c2; have hB1 := below_step hBd hb1))
    rename_i hS
    have hBe := hS.2.2
    clear hS
    go_wp2_with fail
    go_ret
    exact ⟨rfl, hBe⟩
   ·obtain ⟨s1, e1⟩ : ∃ s1 : ByteArray, s1.data.toList = n.data.toList ++ [94, 61] := ⟨⟨(n.data.toList ++ [94, 61]).toArray⟩, rfl⟩
    have a1 : Op.stringOp .add n ⟨#[94, 61]⟩ = pure (.string s1) := add_to (by rw [e1]) (by rw [e1, List.length_append]; simp only [List.length_cons, List.length_nil]; omega)
    have eT : ∀ t, t = tB ⟨3, n, v, [], []⟩ → s1.data.toList ++ (qB v).data.toList = t.data.toList := fun t ht => by rw [ht, e1]; unfold tB; rw [hT]; simp [textN, qB]
    obtain ⟨t, et⟩ : ∃ t, t = tB ⟨3, n, v, [], []⟩ := ⟨_, rfl⟩
    have a2 : Op.stringOp .add s1 (qB v) = pure (.string t) := add_to (eT t et) (by rw [← eT t et, List.length_append, e1, List.length_append]; simp only [qB, List.length_cons, List.length_nil]; omega)
    rw [← et]
    have hXd := hX0.below (below_drew (Below.refl _ _))
    have hBd := below_drew hB0
    clear hT hM hok hlen hN h1000 hbytes hb IH hnd eT e1 et hq hn2
    have f1 := hXd.c1
    have f2 := hXd.c2
    go_enter Try.func110, Try.ntmps110
    go_wp2_with fail
    go_region_held3 (fun w' => w'.cell? ⟨w.heap.size, 1, none⟩ = some (.string n) ∧ w'.cell? ⟨w.heap.size, 2, none⟩ = some (.string v) ∧ Below w.heap.size w w')
     (first | exact ⟨by assumption, by assumption, by assumption⟩)
     (first | (go_at_call 125; (with_reducible refine (quoted125 _ v hv).mono ?_); rintro e w1 ⟨rfl, hb1⟩; have hX1 := hXd.below hb1; have f1 := hX1.c1; have f2 := hX1.c2; have hB1 := below_step hBd hb1))
    rename_i hS
    have hBe := hS.2.2
    clear hS
    go_wp2_with fail
    go_ret
    exact ⟨rfl, hBe⟩
  ·simp only [List.length_nil] at hX0 hB0 hb hlen ⊢
   have h16 := ok_vals16 hok
   have hT := text_n (op := 4) (n := n) (v := ⟨#[]⟩) (vs := vs) (by omega)
   have HT := Lib.hid hT
   have HM := Lib.hid (fun j hj => hM.value j hj)
   simp only at HM
   have Hsz := Lib.hid (fun (x : ByteArray) (hx : x ∈ vs) => sizes_mem hx)
   have Hl := Lib.hid (show (commas (vs.map quoteT)).length ≤ 140737488355328 from by
    rw [hT] at hlen
    simp only [textN, List.length_append, List.length_cons, if_neg (show ¬ (4 : Int) = 1 by decide), if_neg (show ¬ (4 : Int) = 2 by decide), if_neg (show ¬ (4 : Int) = 3 by decide)] at hlen
    omega)
   have hsv : sizes vs ≤ 1000000 := by omega
   have hn2 : n.data.toList.length ≤ 1000000 := by rw [show n.data.toList.length = n.size by simp]; omega
   obtain ⟨t, et⟩ : ∃ t, t = tB ⟨4, n, ⟨#[]⟩, vs, []⟩ := ⟨_, rfl⟩
   have eT : t.data.toList = n.data.toList ++ [64, 40] ++ commas (vs.map quoteT) ++ [41] := by rw [et]; unfold tB; rw [hT]; simp [textN]
   have eL : t.data.toList.length ≤ 1000000000 := by rw [et]; unfold tB; simp only; omega
   obtain ⟨s1, e1⟩ : ∃ s1 : ByteArray, s1.data.toList = n.data.toList ++ [64, 40] := ⟨⟨(n.data.toList ++ [64, 40]).toArray⟩, rfl⟩
   obtain ⟨s2, e2⟩ : ∃ s2 : ByteArray, s2.data.toList = n.data.toList ++ [64, 40] ++ commas (vs.map quoteT) := ⟨⟨(n.data.toList ++ [64, 40] ++ commas (vs.map quoteT)).toArray⟩, rfl⟩
   have a1 : Op.stringOp .add n ⟨#[64, 40]⟩ = pure (.string s1) := add_to (by rw [e1]) (by rw [e1]; rw [eT, List.length_append, List.length_append] at eL; omega)
   have a2 : Op.stringOp .add s1 ⟨(commas (vs.map quoteT)).toArray⟩ = pure (.string s2) := add_to (by rw [e1, e2]) (by rw [e2]; rw [eT, List.length_append] at eL; omega)
   have a3 : Op.stringOp .add s2 ⟨#[41]⟩ = pure (.string t) := add_to (by rw [e2, eT]) eL
   rw [← et]
   obtain ⟨W0, e0⟩ : ∃ W0, w.alloc (.cells #[.int .i64 4, .string n, .string ⟨#[]⟩, .slice A3 vs.length c3, .slice A4 0 c4] 25) = W0 := ⟨_, rfl⟩
   have hsz : W0.heap.size = w.heap.size + 1 := by rw [← e0]; simp
   rw [e0] at hX0 hB0
   have x1 := hX0.c1
   have x3 := hX0.c3
   have E0 := Lib.hid e0
   clear hT hM hok hlen hN h1000 hbytes hb IH hnd e0 eT eL e1 e2 et hn2
   go_enter Try.func110, Try.ntmps110
   go_wp2
   rw [E0.out]
   go_loopw [3, 44] (fun u3 u44 wr => ∃ (j : Nat), u44 = .int .i64 j ∧ j ≤ vs.length ∧ wr.ownsRow W0.heap.size 9 1 u3 j (encs Value.string ((vs.take j).map qB)) ∧ Below W0.heap.size W0 wr)
    (fun _ u44 _ => vs.length - (intOf u44).toNat)
   case atStart => exact ⟨0, rfl, Nat.zero_le _, by simpa [encs] using World.ownsRow_nil _ _ _ _, Below.refl _ _⟩
   case round =>
    obtain ⟨j, rfl, hj, hO, hB⟩ := hrel
    have hle := hB.size
    by_cases hlt : j < vs.length
    ·obtain ⟨ad, rfl, hcell⟩ := HM.out j hlt
     have hcell := pw_cell_below (below_step hB0 hB) hcell
     have Htake := Lib.hid (takeD vs ByteArray.empty j hlt)
     have hxs := Hsz.out (vs.getD j ByteArray.empty) (by simp [List.getD_eq_getElem?_getD, hlt])
     obtain ⟨x, ex⟩ : ∃ x, vs.getD j ByteArray.empty = x := ⟨_, rfl⟩
     rw [ex] at hcell Htake hxs
     clear ex
     have hlj : ((vs.take j).map qB).length = j := by simp; omega
     obtain ⟨Au, cu, rfl⟩ := own_slice hO
     have HO := Lib.hid hO
     clear hO
     go_wp2_with (first | (go_at_call 125; (with_reducible refine (quoted125 _ x (by omega)).mono ?_); rintro e w5 ⟨rfl, hB5⟩) | (at_builtin; refine print_append_of (w0 := W0) (W := w5) Value.string W0.heap.size rfl (.tmp 48) (.tmp 51) 22 9 (.string ByteArray.empty) 16 rfl Try.underlying22 infoSt rfl (by decide) (.slice Au j cu) ((vs.take j).map qB) (qB x) rfl rfl rfl (by rw [hlj]; exact pw_own_below HO.out hB5) (below_step hB hB5) (by have := hB5.size; omega) (by rw [hlj]; omega) ?_; intro v1 w2 hown2 hb2 hg2 hat2))
     go_roundw
     case rel => exact ⟨j + 1, by go_num, by omega, by rw [Htake.out, List.map_append]; rw [List.length_append, hlj] at hown2; exact hown2, hb2⟩
     case measure => simp [intOf]; omega
    ·obtain rfl : j = vs.length := by omega
     rw [List.take_length] at hO
     have hXr := (hX0.below hB).below (below_drew (Below.refl _ _))
     have hBr := below_drew (below_step hB0 hB)
     have f1 := hXr.c1
     obtain ⟨Au, cu, rfl⟩ := own_slice hO
     have HO := Lib.hid hO
     clear hO x1 x3
     go_wp2_with fail
     go_region_held3 (fun w' => w'.cell? ⟨w.heap.size, 1, none⟩ = some (.string n) ∧ Below w.heap.size w w')
      (first | exact ⟨by assumption, by assumption⟩)
      (first | (go_at_call 126; (with_reducible refine (join126 _ W0.heap.size (.slice Au vs.length cu) (vs.map qB) (by rw [List.length_map]; exact pw_own_below HO.out (below_drew (Below.refl _ _))) (by simp; omega) (by rw [qB_map]; exact Hl.out)).mono ?_); rintro e w1 ⟨rfl, hb1⟩; rw [qB_map]; have hX1 := hXr.below hb1; have f1 := hX1.c1; have hB1 := below_step hBr hb1))
     rename_i hS
     have hBe := hS.2
     clear hS
     go_wp2_with fail
     go_ret
     exact ⟨rfl, hBe⟩
  ·have hT := text_k (ks := ks) ho
   rcases ho with rfl | rfl | rfl
   ·simp only [List.length_nil] at hX0 hB0 hb hlen hnd ⊢
    have HT := Lib.hid hT
    have HM := Lib.hid (fun j hj => hM.kid j hj)
    simp only at HM
    have hln := lenL_nodes ks
    have Hl := Lib.hid (show (commas (ks.map textM)).length ≤ 140737488355328 from by
     rw [hT] at hlen
     simp only [List.length_append, List.length_cons] at hlen
     omega)
    have Hkid := Lib.hid (fun (x : S25) (hx : x ∈ ks) => (⟨by have := nodes_lt ⟨5, ⟨#[]⟩, ⟨#[]⟩, [], ks⟩ x hx; omega, okL_mem hk hx, by have := nodes_lt ⟨5, ⟨#[]⟩, ⟨#[]⟩, [], ks⟩ x hx; omega, by have := bytesL_mem hx; omega⟩ : nodesM x ≤ N ∧ okM x = true ∧ nodesM x ≤ 1000 ∧ bytesM x ≤ 1000000))
    obtain ⟨sg, esg⟩ : ∃ sg : ByteArray, sg = ⟨#[38]⟩ := ⟨_, rfl⟩
    have hsg : match_sign.f 5 = some sg := by rw [esg]; rfl
    have Hsg := Lib.hid hsg
    obtain ⟨t, et⟩ : ∃ t, t = tB ⟨5, ⟨#[]⟩, ⟨#[]⟩, [], ks⟩ := ⟨_, rfl⟩
    have eT : t.data.toList = sg.data.toList ++ [40] ++ commas (ks.map textM) ++ [41] := by rw [et, esg]; unfold tB; rw [hT]; simp
    have eL : t.data.toList.length ≤ 1000000000 := by rw [et]; unfold tB; simp only; omega
    obtain ⟨s1, e1⟩ : ∃ s1 : ByteArray, s1.data.toList = sg.data.toList ++ [40] := ⟨⟨(sg.data.toList ++ [40]).toArray⟩, rfl⟩
    obtain ⟨s2, e2⟩ : ∃ s2 : ByteArray, s2.data.toList = sg.data.toList ++ [40] ++ commas (ks.map textM) := ⟨⟨(sg.data.toList ++ [40] ++ commas (ks.map textM)).toArray⟩, rfl⟩
    have a1 : Op.stringOp .add sg ⟨#[40]⟩ = pure (.string s1) := add_to (by rw [e1]) (by rw [e1]; rw [eT, List.length_append, List.length_append] at eL; omega)
    have a2 : Op.stringOp .add s1 ⟨(commas (ks.map textM)).toArray⟩ = pure (.string s2) := add_to (by rw [e1, e2]) (by rw [e2]; rw [eT, List.length_append] at eL; omega)
    have a3 : Op.stringOp .add s2 ⟨#[41]⟩ = pure (.string t) := add_to (by rw [e2, eT]) eL
    rw [← et]
    obtain ⟨W0, e0⟩ : ∃ W0, w.alloc (.cells #[.int .i64 5, .string ⟨#[]⟩, .string ⟨#[]⟩, .slice A3 0 c3, .slice A4 ks.length c4] 25) = W0 := ⟨_, rfl⟩
    have hsz : W0.heap.size = w.heap.size + 1 := by rw [← e0]; simp
    rw [e0] at hX0 hB0
    have x0 := hX0.c0
    have x4 := hX0.c4
    have hk1000 : ks.length ≤ 1000 := by omega
    have E0 := Lib.hid e0
    clear hT hM hok hlen hN h1000 hbytes hb hnd e0 hln eT eL e1 e2 et hsg esg
    go_enter Try.func110, Try.ntmps110
    go_wp2
    rw [E0.out]
    clear x0 x4
    go_loopw [3, 7, 64] (fun u3 _ u64 wr => ∃ (j : Nat), u64 = .int .i64 j ∧ j ≤ ks.length ∧ wr.ownsRow W0.heap.size 9 1 u3 j (encs Value.string ((ks.take j).map tB)) ∧ Below W0.heap.size W0 wr)
     (fun _ _ u64 _ => ks.length - (intOf u64).toNat)
    case atStart => exact ⟨0, rfl, Nat.zero_le _, by simpa [encs] using World.ownsRow_nil _ _ _ _, Below.refl _ _⟩
    case round =>
     obtain ⟨j, rfl, hj, hO, hB⟩ := hrel
     have hle := hB.size
     by_cases hlt : j < ks.length
     ·obtain ⟨ad, B3, e3, B4, e4, rfl, hMk, k0, k1, k2, k3, k4⟩ := HM.out j hlt
      have k0 := pw_cell_below (below_step hB0 hB) k0
      have k1 := pw_cell_below (below_step hB0 hB) k1
      have k2 := pw_cell_below (below_step hB0 hB) k2
      have k3 := pw_cell_below (below_step hB0 hB) k3
      have k4 := pw_cell_below (below_step hB0 hB) k4
      have Htake := Lib.hid (takeD ks z25 j hlt)
      have hxs := Lib.hid (Hkid.out (ks.getD j z25) (by simp [List.getD_eq_getElem?_getD, hlt]))
      obtain ⟨x, ex⟩ : ∃ x, ks.getD j z25 = x := ⟨_, rfl⟩
      rw [ex] at hMk k0 k1 k2 k3 k4 Htake hxs
      clear ex
      have hlj : ((ks.take j).map tB).length = j := by simp; omega
      obtain ⟨Au, cu, rfl⟩ := own_slice hO
      have HO := Lib.hid hO
      clear hO
      go_wp2_with (first | (go_at_call 110; (with_reducible refine (IH.out x hxs.out.1 hxs.out.2.1 hxs.out.2.2.1 hxs.out.2.2.2 B3 e3 B4 e4 _ (hMk.below (below_step hB0 (below_alloc hB _)))).mono ?_); rintro e w5 ⟨rfl, hB5⟩; have hBa := below_step (below_alloc hB _) hB5) | (at_builtin; refine print_append_of (w0 := W0) (W := w5) Value.string W0.heap.size rfl (.tmp 68) (.tmp 71) 22 9 (.string ByteArray.empty) 16 rfl Try.underlying22 infoSt rfl (by decide) (.slice Au j cu) ((ks.take j).map tB) (tB x) rfl rfl rfl (by rw [hlj]; exact pw_own_below HO.out (below_step (below_alloc (Below.refl _ _) _) hB5)) hBa (by have := hBa.size; omega) (by rw [hlj]; omega) ?_; intro v1 w2 hown2 hb2 hg2 hat2))
      go_roundw
      case rel => exact ⟨j + 1, by go_num, by omega, by rw [Htake.out, List.map_append]; rw [List.length_append, hlj] at hown2; exact hown2, hb2⟩
      case measure => simp [intOf]; omega
     ·obtain rfl : j = ks.length := by omega
      rw [List.take_length] at hO
      have hXr := hX0.below hB
      have f0 := hXr.c0
      obtain ⟨Au, cu, rfl⟩ := own_slice hO
      have HO := Lib.hid hO
      clear hO
      go_wp2_with (first | (go_at_call 159; (with_reducible refine (sign159 _ 5 _ Hsg.out).mono ?_); rintro e w1 ⟨rfl, hb1⟩; have hB1 := below_step (below_step hB0 hB) hb1) | (go_at_call 126; (with_reducible refine (join126 _ W0.heap.size (.slice Au ks.length cu) (ks.map tB) (by rw [List.length_map]; exact pw_own_below HO.out hb1) (by simp; omega) (by rw [tB_map]; exact Hl.out)).mono ?_); rintro e w2 ⟨rfl, hb2⟩; rw [tB_map]; have hB2 := below_step hB1 hb2))
      go_ret
      exact ⟨rfl, hB2⟩
   ·simp only [List.length_nil] at hX0 hB0 hb hlen hnd ⊢
    have HT := Lib.hid hT
    have HM := Lib.hid (fun j hj => hM.kid j hj)
    simp only at HM
    have hln := lenL_nodes ks
    have Hl := Lib.hid (show (commas (ks.map textM)).length ≤ 140737488355328 from by
     rw [hT] at hlen
     simp only [List.length_append, List.length_cons] at hlen
     omega)
    have Hkid := Lib.hid (fun (x : S25) (hx : x ∈ ks) => (⟨by have := nodes_lt ⟨6, ⟨#[]⟩, ⟨#[]⟩, [], ks⟩ x hx; omega, okL_mem hk hx, by have := nodes_lt ⟨6, ⟨#[]⟩, ⟨#[]⟩, [], ks⟩ x hx; omega, by have := bytesL_mem hx; omega⟩ : nodesM x ≤ N ∧ okM x = true ∧ nodesM x ≤ 1000 ∧ bytesM x ≤ 1000000))
    obtain ⟨sg, esg⟩ : ∃ sg : ByteArray, sg = ⟨#[124]⟩ := ⟨_, rfl⟩
    have hsg : match_sign.f 6 = some sg := by rw [esg]; rfl
    have Hsg := Lib.hid hsg
    obtain ⟨t, et⟩ : ∃ t, t = tB ⟨6, ⟨#[]⟩, ⟨#[]⟩, [], ks⟩ := ⟨_, rfl⟩
    have eT : t.data.toList = sg.data.toList ++ [40] ++ commas (ks.map textM) ++ [41] := by rw [et, esg]; unfold tB; rw [hT]; simp
    have eL : t.data.toList.length ≤ 1000000000 := by rw [et]; unfold tB; simp only; omega
    obtain ⟨s1, e1⟩ : ∃ s1 : ByteArray, s1.data.toList = sg.data.toList ++ [40] := ⟨⟨(sg.data.toList ++ [40]).toArray⟩, rfl⟩
    obtain ⟨s2, e2⟩ : ∃ s2 : ByteArray, s2.data.toList = sg.data.toList ++ [40] ++ commas (ks.map textM) := ⟨⟨(sg.data.toList ++ [40] ++ commas (ks.map textM)).toArray⟩, rfl⟩
    have a1 : Op.stringOp .add sg ⟨#[40]⟩ = pure (.string s1) := add_to (by rw [e1]) (by rw [e1]; rw [eT, List.length_append, List.length_append] at eL; omega)
    have a2 : Op.stringOp .add s1 ⟨(commas (ks.map textM)).toArray⟩ = pure (.string s2) := add_to (by rw [e1, e2]) (by rw [e2]; rw [eT, List.length_append] at eL; omega)
    have a3 : Op.stringOp .add s2 ⟨#[41]⟩ = pure (.string t) := add_to (by rw [e2, eT]) eL
    rw [← et]
    obtain ⟨W0, e0⟩ : ∃ W0, w.alloc (.cells #[.int .i64 6, .string ⟨#[]⟩, .string ⟨#[]⟩, .slice A3 0 c3, .slice A4 ks.length c4] 25) = W0 := ⟨_, rfl⟩
    have hsz : W0.heap.size = w.heap.size + 1 := by rw [← e0]; simp
    rw [e0] at hX0 hB0
    have x0 := hX0.c0
    have x4 := hX0.c4
    have hk1000 : ks.length ≤ 1000 := by omega
    have E0 := Lib.hid e0
    clear hT hM hok hlen hN h1000 hbytes hb hnd e0 hln eT eL e1 e2 et hsg esg
    go_enter Try.func110, Try.ntmps110
    go_wp2
    rw [E0.out]
    clear x0 x4
    go_loopw [3, 7, 64] (fun u3 _ u64 wr => ∃ (j : Nat), u64 = .int .i64 j ∧ j ≤ ks.length ∧ wr.ownsRow W0.heap.size 9 1 u3 j (encs Value.string ((ks.take j).map tB)) ∧ Below W0.heap.size W0 wr)
     (fun _ _ u64 _ => ks.length - (intOf u64).toNat)
    case atStart => exact ⟨0, rfl, Nat.zero_le _, by simpa [encs] using World.ownsRow_nil _ _ _ _, Below.refl _ _⟩
    case round =>
     obtain ⟨j, rfl, hj, hO, hB⟩ := hrel
     have hle := hB.size
     by_cases hlt : j < ks.length
     ·obtain ⟨ad, B3, e3, B4, e4, rfl, hMk, k0, k1, k2, k3, k4⟩ := HM.out j hlt
      have k0 := pw_cell_below (below_step hB0 hB) k0
      have k1 := pw_cell_below (below_step hB0 hB) k1
      have k2 := pw_cell_below (below_step hB0 hB) k2
      have k3 := pw_cell_below (below_step hB0 hB) k3
      have k4 := pw_cell_below (below_step hB0 hB) k4
      have Htake := Lib.hid (takeD ks z25 j hlt)
      have hxs := Lib.hid (Hkid.out (ks.getD j z25) (by simp [List.getD_eq_getElem?_getD, hlt]))
      obtain ⟨x, ex⟩ : ∃ x, ks.getD j z25 = x := ⟨_, rfl⟩
      rw [ex] at hMk k0 k1 k2 k3 k4 Htake hxs
      clear ex
      have hlj : ((ks.take j).map tB).length = j := by simp; omega
      obtain ⟨Au, cu, rfl⟩ := own_slice hO
      have HO := Lib.hid hO
      clear hO
      go_wp2_with (first | (go_at_call 110; (with_reducible refine (IH.out x hxs.out.1 hxs.out.2.1 hxs.out.2.2.1 hxs.out.2.2.2 B3 e3 B4 e4 _ (hMk.below (below_step hB0 (below_alloc hB _)))).mono ?_); rintro e w5 ⟨rfl, hB5⟩; have hBa := below_step (below_alloc hB _) hB5) | (at_builtin; refine print_append_of (w0 := W0) (W := w5) Value.string W0.heap.size rfl (.tmp 68) (.tmp 71) 22 9 (.string ByteArray.empty) 16 rfl Try.underlying22 infoSt rfl (by decide) (.slice Au j cu) ((ks.take j).map tB) (tB x) rfl rfl rfl (by rw [hlj]; exact pw_own_below HO.out (below_step (below_alloc (Below.refl _ _) _) hB5)) hBa (by have := hBa.size; omega) (by rw [hlj]; omega) ?_; intro v1 w2 hown2 hb2 hg2 hat2))
      go_roundw
      case rel => exact ⟨j + 1, by go_num, by omega, by rw [Htake.out, List.map_append]; rw [List.length_append, hlj] at hown2; exact hown2, hb2⟩
      case measure => simp [intOf]; omega
     ·obtain rfl : j = ks.length := by omega
      rw [List.take_length] at hO
      have hXr := hX0.below hB
      have f0 := hXr.c0
      obtain ⟨Au, cu, rfl⟩ := own_slice hO
      have HO := Lib.hid hO
      clear hO
      go_wp2_with (first | (go_at_call 159; (with_reducible refine (sign159 _ 6 _ Hsg.out).mono ?_); rintro e w1 ⟨rfl, hb1⟩; have hB1 := below_step (below_step hB0 hB) hb1) | (go_at_call 126; (with_reducible refine (join126 _ W0.heap.size (.slice Au ks.length cu) (ks.map tB) (by rw [List.length_map]; exact pw_own_below HO.out hb1) (by simp; omega) (by rw [tB_map]; exact Hl.out)).mono ?_); rintro e w2 ⟨rfl, hb2⟩; rw [tB_map]; have hB2 := below_step hB1 hb2))
      go_ret
      exact ⟨rfl, hB2⟩
   ·simp only [List.length_nil] at hX0 hB0 hb hlen hnd ⊢
    have HT := Lib.hid hT
    have HM := Lib.hid (fun j hj => hM.kid j hj)
    simp only at HM
    have hln := lenL_nodes ks
    have Hl := Lib.hid (show (commas (ks.map textM)).length ≤ 140737488355328 from by
     rw [hT] at hlen
     simp only [List.length_append, List.length_cons] at hlen
     omega)
    have Hkid := Lib.hid (fun (x : S25) (hx : x ∈ ks) => (⟨by have := nodes_lt ⟨7, ⟨#[]⟩, ⟨#[]⟩, [], ks⟩ x hx; omega, okL_mem hk hx, by have := nodes_lt ⟨7, ⟨#[]⟩, ⟨#[]⟩, [], ks⟩ x hx; omega, by have := bytesL_mem hx; omega⟩ : nodesM x ≤ N ∧ okM x = true ∧ nodesM x ≤ 1000 ∧ bytesM x ≤ 1000000))
    obtain ⟨sg, esg⟩ : ∃ sg : ByteArray, sg = ⟨#[33]⟩ := ⟨_, rfl⟩
    have hsg : match_sign.f 7 = some sg := by rw [esg]; rfl
    have Hsg := Lib.hid hsg
    obtain ⟨t, et⟩ : ∃ t, t = tB ⟨7, ⟨#[]⟩, ⟨#[]⟩, [], ks⟩ := ⟨_, rfl⟩
    have eT : t.data.toList = sg.data.toList ++ [40] ++ commas (ks.map textM) ++ [41] := by rw [et, esg]; unfold tB; rw [hT]; simp
    have eL : t.data.toList.length ≤ 1000000000 := by rw [et]; unfold tB; simp only; omega
    obtain ⟨s1, e1⟩ : ∃ s1 : ByteArray, s1.data.toList = sg.data.toList ++ [40] := ⟨⟨(sg.data.toList ++ [40]).toArray⟩, rfl⟩
    obtain ⟨s2, e2⟩ : ∃ s2 : ByteArray, s2.data.toList = sg.data.toList ++ [40] ++ commas (ks.map textM) := ⟨⟨(sg.data.toList ++ [40] ++ commas (ks.map textM)).toArray⟩, rfl⟩
    have a1 : Op.stringOp .add sg ⟨#[40]⟩ = pure (.string s1) := add_to (by rw [e1]) (by rw [e1]; rw [eT, List.length_append, List.length_append] at eL; omega)
    have a2 : Op.stringOp .add s1 ⟨(commas (ks.map textM)).toArray⟩ = pure (.string s2) := add_to (by rw [e1, e2]) (by rw [e2]; rw [eT, List.length_append] at eL; omega)
    have a3 : Op.stringOp .add s2 ⟨#[41]⟩ = pure (.string t) := add_to (by rw [e2, eT]) eL
    rw [← et]
    obtain ⟨W0, e0⟩ : ∃ W0, w.alloc (.cells #[.int .i64 7, .string ⟨#[]⟩, .string ⟨#[]⟩, .slice A3 0 c3, .slice A4 ks.length c4] 25) = W0 := ⟨_, rfl⟩
    have hsz : W0.heap.size = w.heap.size + 1 := by rw [← e0]; simp
    rw [e0] at hX0 hB0
    have x0 := hX0.c0
    have x4 := hX0.c4
    have hk1000 : ks.length ≤ 1000 := by omega
    have E0 := Lib.hid e0
    clear hT hM hok hlen hN h1000 hbytes hb hnd e0 hln eT eL e1 e2 et hsg esg
    go_enter Try.func110, Try.ntmps110
    go_wp2
    rw [E0.out]
    clear x0 x4
    go_loopw [3, 7, 64] (fun u3 _ u64 wr => ∃ (j : Nat), u64 = .int .i64 j ∧ j ≤ ks.length ∧ wr.ownsRow W0.heap.size 9 1 u3 j (encs Value.string ((ks.take j).map tB)) ∧ Below W0.heap.size W0 wr)
     (fun _ _ u64 _ => ks.length - (intOf u64).toNat)
    case atStart => exact ⟨0, rfl, Nat.zero_le _, by simpa [encs] using World.ownsRow_nil _ _ _ _, Below.refl _ _⟩
    case round =>
     obtain ⟨j, rfl, hj, hO, hB⟩ := hrel
     have hle := hB.size
     by_cases hlt : j < ks.length
     ·obtain ⟨ad, B3, e3, B4, e4, rfl, hMk, k0, k1, k2, k3, k4⟩ := HM.out j hlt
      have k0 := pw_cell_below (below_step hB0 hB) k0
      have k1 := pw_cell_below (below_step hB0 hB) k1
      have k2 := pw_cell_below (below_step hB0 hB) k2
      have k3 := pw_cell_below (below_step hB0 hB) k3
      have k4 := pw_cell_below (below_step hB0 hB) k4
      have Htake := Lib.hid (takeD ks z25 j hlt)
      have hxs := Lib.hid (Hkid.out (ks.getD j z25) (by simp [List.getD_eq_getElem?_getD, hlt]))
      obtain ⟨x, ex⟩ : ∃ x, ks.getD j z25 = x := ⟨_, rfl⟩
      rw [ex] at hMk k0 k1 k2 k3 k4 Htake hxs
      clear ex
      have hlj : ((ks.take j).map tB).length = j := by simp; omega
      obtain ⟨Au, cu, rfl⟩ := own_slice hO
      have HO := Lib.hid hO
      clear hO
      go_wp2_with (first | (go_at_call 110; (with_reducible refine (IH.out x hxs.out.1 hxs.out.2.1 hxs.out.2.2.1 hxs.out.2.2.2 B3 e3 B4 e4 _ (hMk.below (below_step hB0 (below_alloc hB _)))).mono ?_); rintro e w5 ⟨rfl, hB5⟩; have hBa := below_step (below_alloc hB _) hB5) | (at_builtin; refine print_append_of (w0 := W0) (W := w5) Value.string W0.heap.size rfl (.tmp 68) (.tmp 71) 22 9 (.string ByteArray.empty) 16 rfl Try.underlying22 infoSt rfl (by decide) (.slice Au j cu) ((ks.take j).map tB) (tB x) rfl rfl rfl (by rw [hlj]; exact pw_own_below HO.out (below_step (below_alloc (Below.refl _ _) _) hB5)) hBa (by have := hBa.size; omega) (by rw [hlj]; omega) ?_; intro v1 w2 hown2 hb2 hg2 hat2))
      go_roundw
      case rel => exact ⟨j + 1, by go_num, by omega, by rw [Htake.out, List.map_append]; rw [List.length_append, hlj] at hown2; exact hown2, hb2⟩
      case measure => simp [intOf]; omega
     ·obtain rfl : j = ks.length := by omega
      rw [List.take_length] at hO
      have hXr := hX0.below hB
      have f0 := hXr.c0
      obtain ⟨Au, cu, rfl⟩ := own_slice hO
      have HO := Lib.hid hO
      clear hO
      go_wp2_with (first | (go_at_call 159; (with_reducible refine (sign159 _ 7 _ Hsg.out).mono ?_); rintro e w1 ⟨rfl, hb1⟩; have hB1 := below_step (below_step hB0 hB) hb1) | (go_at_call 126; (with_reducible refine (join126 _ W0.heap.size (.slice Au ks.length cu) (ks.map tB) (by rw [List.length_map]; exact pw_own_below HO.out hb1) (by simp; omega) (by rw [tB_map]; exact Hl.out)).mono ?_); rintro e w2 ⟨rfl, hb2⟩; rw [tB_map]; have hB2 := below_step hB1 hb2))
      go_ret
      exact ⟨rfl, hB2⟩
set_option maxRecDepth 100000 in
set_option maxHeartbeats 4000000 in
/-- match.Text of a matcher that may be. -/
theorem Text61 (w : World) (m : S25) (A3 : Option Addr) (c3 : Nat) (A4 : Option Addr) (c4 : Nat) (hok : chkB m = true) (hM : MC w m A3 c3 A4 c4) :
  Calls Try.prog 61 #[.agg #[.int .i64 m.f0, .string m.f1, .string m.f2, .slice A3 m.f3.length c3, .slice A4 m.f4.length c4]] w fun e w' => e = .returned (.string (tB m)) ∧ Below w.heap.size w w' := by
 have hB0 : Below w.heap.size w (w.alloc (.cells #[.int .i64 m.f0, .string m.f1, .string m.f2, .slice A3 m.f3.length c3, .slice A4 m.f4.length c4] 25)) := below_alloc (Below.refl _ _) _
 have hX0 : BoxM (w.alloc (.cells #[.int .i64 m.f0, .string m.f1, .string m.f2, .slice A3 m.f3.length c3, .slice A4 m.f4.length c4] 25)) w.heap.size m.f0 m.f1 m.f2 (.slice A3 m.f3.length c3) (.slice A4 m.f4.length c4) := blk_new w _
 obtain ⟨q1, q2, q3, q4⟩ := chk_def.1 hok
 have Hok := Lib.hid hok
 have Hq := Lib.hid (show okM m = true ∧ nodesM m ≤ 1000 ∧ bytesM m ≤ 1000000 from ⟨q1, by omega, by omega⟩)
 clear hok q1 q2 q3 q4
 go_enter Try.func61, Try.ntmps61
 go_wp2_with fail
 (with_reducible refine (check53v _ m A3 c3 A4 c4 true Hok.out (hM.below hB0)).mono ?_)
 rintro e w1 ⟨rfl, hb1⟩
 have hX1 := hX0.below hb1
 have x0 := hX1.c0
 have x1 := hX1.c1
 have x2 := hX1.c2
 have x3 := hX1.c3
 have x4 := hX1.c4
 have hB1 := below_step hB0 hb1
 go_wp2_with fail
 (with_reducible refine (text110 _ m (Nat.le_refl _) Hq.out.1 Hq.out.2.1 Hq.out.2.2 A3 c3 A4 c4 _ (hM.below hB1)).mono ?_)
 rintro e w2 ⟨rfl, hb2⟩
 go_wp2_with fail
 go_ret
 exact ⟨rfl, below_step hB1 hb2⟩
end Go.Proofs.Yteafilojjdfllaa
end
section
namespace Go.Proofs.Yteafilojjdfllaa
open Go Go.RowKit Go.Proofs.YteafilojjdfllaaW.PrintWords Go.Proofs.YteafilojjdfllaaW.PrintLast Go.Proofs.YteafilojjdfllaaW.PrintMore Go.Proofs.Yteafilojjdfllaa.PAll
set_option linter.unusedVariables false
set_option linter.unusedSimpArgs false
set_option maxRecDepth 100000 in
set_option maxHeartbeats 16000000 in
theorem reads138p (cap : Value) (w0 w : World) (g : Nat) (Q : Option (S25 × Obj)) (hB : Below w0.heap.size w0 w) (hg : g < w.heap.size)
  (H : ∀ W, Below w.heap.size w W → Calls Try.prog 143 #[cap] W (RedPost w0 W g Q)) :
  Calls Try.prog 138 #[.func (.func 143) #[] #[cap]] w (ReadsPost w0 w g (Q.filter fun q => chkB q.1)) := by
 have hmf : ∀ (fn : Fn) (first cap : Array Value) (w : World), (Instr.makeFunc fn first cap).run Try.prog w = .ok (.func fn first cap) w := fun _ _ _ _ => rfl
 obtain ⟨V, eV⟩ : ∃ V, V = (w.alloc (.cells Z5 25)).alloc (.cells #[.bool false] 4) := ⟨_, rfl⟩
 have hBV : Below w.heap.size w V := eV ▸ below_alloc (below_alloc (Below.refl _ _) _) _
 have hs : V.heap.size = w.heap.size + 2 := by rw [eV, World.size_alloc, World.size_alloc]
 have k1 : V.heap[w.heap.size]? = some (.cells Z5 25 (0, 0)) := by rw [eV]; exact (Below.heap_alloc _ _ _ (by simp)).trans (blk_new w _)
 have k2 : V.heap[w.heap.size + 1]? = some (.cells #[.bool false] 4 (0, 0)) := by
  have := blk_new (w.alloc (.cells Z5 25)) (.cells #[.bool false] 4)
  rw [World.size_alloc] at this
  rw [eV]; exact this
 have HV := Lib.hid (H V hBV)
 have HB := Lib.hid (below_step hB hBV)
 have HBV := Lib.hid hBV
 clear H
 have hw0 := hB.size
 cases Q with
 | none =>
  go_enter_defers Try.func138, Try.ntmps138
  go_wp2_with fail
  rw [← eV]
  refine HV.out.mono ?_
  rintro e w5 ⟨hB5, hK5, hres⟩
  obtain rfl : e = .panicked badP := by
   rcases hres with ⟨-, h⟩ | ⟨m, o, A3, c3, A4, c4, h, -⟩
   ·exact h
   ·cases h
  have b1 := (hK5.2 w.heap.size (by omega) (by omega) (by simp)).trans k1
  have b2 := (hK5.2 (w.heap.size + 1) (by omega) (by omega) (by simp)).trans k2
  refine leaves_cons (f := 171) (args := #[.pointer (some ⟨w.heap.size, 0, none⟩), .pointer (some ⟨w.heap.size + 1, 0, none⟩)]) (by simp) (by simp [go_sem]) ?_
  refine (catch171 w0 w.heap.size (w.heap.size + 1) _ _ _ _ _ _ [] w5 hB5 hw0 (by omega) b1 b2 (by omega)).mono ?_
  rintro e u' w'' ⟨rfl, rfl, hB6, d1, d2, hs6, hk6⟩
  have y0 := blk_cell d1 0
  have y1 := blk_cell d1 1
  have y2 := blk_cell d1 2
  have y3 := blk_cell d1 3
  have y4 := blk_cell d1 4
  have x0 := blk_cell d2 0
  simp only [List.getElem?_toArray, List.getElem?_cons_zero, List.getElem?_cons_succ] at y0 y1 y2 y3 y4 x0
  simp [Leaves, settle, results, Try.results138, go_sem, y0, y1, y2, y3, y4, x0]
  exact ⟨hB6, keep_two HBV.out (Nat.le_refl _) (by omega) hK5 hs6 hk6, Or.inl ⟨rfl, rfl⟩⟩
 | some q =>
  obtain ⟨m, o⟩ := q
  go_enter_defers Try.func138, Try.ntmps138
  go_wp2_with fail
  rw [← eV]
  refine HV.out.mono ?_
  rintro e w5 ⟨hB5, hK5, hres⟩
  obtain ⟨A3, c3, A4, c4, rfl, hF, ho⟩ : ∃ A3 c3 A4 c4, e = .returned (mV m A3 c3 A4 c4) ∧ MF w5 (fun b => V.heap.size ≤ b ∧ b < w5.heap.size) m A3 c3 A4 c4 ∧ w5.heap[g]? = some o := by
   rcases hres with ⟨h, -⟩ | ⟨m', o', A3, c3, A4, c4, h, he, hF, ho⟩
   ·cases h
   ·simp only [Option.some.injEq, Prod.mk.injEq] at h
    obtain ⟨rfl, rfl⟩ := h
    exact ⟨A3, c3, A4, c4, he, hF, ho⟩
  have b1 := (hK5.2 w.heap.size (by omega) (by omega) (by simp)).trans k1
  have b2 := (hK5.2 (w.heap.size + 1) (by omega) (by omega) (by simp)).trans k2
  obtain ⟨g1, eg1⟩ : ∃ g1, w.heap.size = g1 := ⟨_, rfl⟩
  rw [eg1] at b1 b2 ⊢
  obtain ⟨g2, eg2⟩ : ∃ g2, g1 + 1 = g2 := ⟨_, rfl⟩
  rw [eg2] at b2 ⊢
  have hne : g1 ≠ g2 := by omega
  have y0 := blk_cell b1 0
  have y1 := blk_cell b1 1
  have y2 := blk_cell b1 2
  have y3 := blk_cell b1 3
  have y4 := blk_cell b1 4
  have z0 := blk_frozen b1 0
  have z1 := blk_frozen b1 1
  have z2 := blk_frozen b1 2
  have z3 := blk_frozen b1 3
  have z4 := blk_frozen b1 4
  simp only [List.getElem?_toArray, List.getElem?_cons_zero, List.getElem?_cons_succ] at y0 y1 y2 y3 y4
  obtain ⟨w6, e6⟩ : ∃ w6, w6 = ((((w5.setCell ⟨g1, 0, none⟩ (.int .i64 m.f0)).setCell ⟨g1, 1, none⟩ (.string m.f1)).setCell ⟨g1, 2, none⟩ (.string m.f2)).setCell ⟨g1, 3, none⟩ (.slice A3 m.f3.length c3)).setCell ⟨g1, 4, none⟩ (.slice A4 m.f4.length c4) := ⟨_, rfl⟩
  have HE := Lib.hid e6
  have HF := Lib.hid hF
  have HO := Lib.hid ho
  have HB5 := Lib.hid hB5
  have HK5 := Lib.hid hK5
  have HG := Lib.hid (show V.heap.size = g1 + 2 by omega)
  have HS := Lib.hid (show g < g1 by omega)
  have HW := Lib.hid (show w0.heap.size ≤ g1 by omega)
  have B1 := Lib.hid b1
  have B2 := Lib.hid b2
  have HBV1 := Lib.hid (show Below w.heap.size w V from HBV.out)
  have EG1 := Lib.hid eg1
  have EG2 := Lib.hid eg2
  clear e6 hF ho hB5 hK5 hs hg hw0 b1 b2 hres k1 k2 eg1 eg2 hBV hB eV HV HB HBV
  have D1 := Lib.hid (show w6.heap[g1]? = some (.cells #[.int .i64 m.f0, .string m.f1, .string m.f2, .slice A3 m.f3.length c3, .slice A4 m.f4.length c4] 25 (0, 0)) from by
   rw [HE.out]; exact (blk_set (blk_set (blk_set (blk_set (blk_set B1.out 0 _) 1 _) 2 _) 3 _) 4 _).trans (by rfl))
  have HOLD := Lib.hid (show ∀ i, i ≠ g1 → w6.heap[i]? = w5.heap[i]? from by
   intro i h1
   rw [HE.out]
   exact (Below.heap_setCell _ _ _ _ h1).trans ((Below.heap_setCell _ _ _ _ h1).trans ((Below.heap_setCell _ _ _ _ h1).trans ((Below.heap_setCell _ _ _ _ h1).trans (Below.heap_setCell _ _ _ _ h1)))))
  have D2 := Lib.hid ((HOLD.out g2 hne.symm).trans B2.out)
  have HM6 := Lib.hid (show MC w6 m A3 c3 A4 c4 from HF.out w6 (fun b hb => HOLD.out b (by have := HG.out; omega)))
  have HB6 := Lib.hid (show Below w0.heap.size w0 w6 from by rw [HE.out]; exact ((((HB5.out.setCell HW.out _).setCell HW.out _).setCell HW.out _).setCell HW.out _).setCell HW.out _)
  have hs6 : w6.heap.size = w5.heap.size := by rw [HE.out]; simp
  have hg1l := blk_lt D1.out
  have hg2l := blk_lt D2.out
  have hg2e : g1 < g2 := by have := EG2.out; omega
  have hggl : g < g1 := HS.out
  cases hv : chkB m with
  | false =>
   have HVV := Lib.hid hv
   clear hv
   go_wp2_with fail
   rw [← HE.out]
   (with_reducible refine (check53v w6 m A3 c3 A4 c4 false HVV.out HM6.out).mono ?_)
   rintro e w7 ⟨rfl, hb7⟩
   have c1 := (hb7.block g1 (by omega)).trans D1.out
   have c2 := (hb7.block g2 (by omega)).trans D2.out
   have y0 := blk_cell c1 0
   have y1 := blk_cell c1 1
   have y2 := blk_cell c1 2
   have y3 := blk_cell c1 3
   have y4 := blk_cell c1 4
   have z0 := blk_frozen c1 0
   have z1 := blk_frozen c1 1
   have z2 := blk_frozen c1 2
   have z3 := blk_frozen c1 3
   have z4 := blk_frozen c1 4
   have x0 := blk_cell c2 0
   have v0 := blk_frozen c2 0
   have C1 := Lib.hid c1
   have C2 := Lib.hid c2
   have HB7 := Lib.hid hb7
   simp only [List.getElem?_toArray, List.getElem?_cons_zero, List.getElem?_cons_succ] at y0 y1 y2 y3 y4 x0
   clear c1 c2 hb7
   go_wp2
   refine leaves_cons (f := 171) (args := #[.pointer (some ⟨g1, 0, none⟩), .pointer (some ⟨g2, 0, none⟩)]) (by simp) (by simp [go_sem]) ?_
   refine (idle171 _ _ _).mono ?_
   rintro e u' w8 ⟨rfl, rfl, e8⟩
   clear y0 y1 y2 y3 y4 z0 z1 z2 z3 z4 x0 v0
   have hne2 := hne.symm
   have d1 : w8.heap[g1]? = some (.cells Z5 25 (0, 0)) := by
    rw [e8]
    exact (Below.heap_setCell _ _ _ _ hne).trans ((blk_set (blk_set (blk_set (blk_set (blk_set C1.out 0 _) 1 _) 2 _) 3 _) 4 _).trans (by rfl))
   have d2 : w8.heap[g2]? = some (.cells #[.bool false] 4 (0, 0)) := by
    rw [e8]
    refine (blk_set (cs := #[.bool false]) ?_ 0 _).trans (by rfl)
    exact (Below.heap_setCell _ _ _ _ hne2).trans ((Below.heap_setCell _ _ _ _ hne2).trans ((Below.heap_setCell _ _ _ _ hne2).trans ((Below.heap_setCell _ _ _ _ hne2).trans ((Below.heap_setCell _ _ _ _ hne2).trans C2.out))))
   have hs8 : w5.heap.size ≤ w8.heap.size := by
    have := HB7.out.size
    rw [e8]; simp; omega
   have hk8 : ∀ i, i < w5.heap.size → i ≠ g1 → i ≠ g2 → w8.heap[i]? = w5.heap[i]? := by
    intro i hi h1 h2
    rw [e8]
    exact (Below.heap_setCell _ _ _ _ h2).trans ((Below.heap_setCell _ _ _ _ h1).trans ((Below.heap_setCell _ _ _ _ h1).trans ((Below.heap_setCell _ _ _ _ h1).trans ((Below.heap_setCell _ _ _ _ h1).trans ((Below.heap_setCell _ _ _ _ h1).trans ((HB7.out.block i (by omega)).trans (HOLD.out i h1)))))))
   have hB8 : Below w0.heap.size w0 w8 := by
    rw [e8]
    exact ((((((below_step HB6.out HB7.out).setCell HW.out _).setCell HW.out _).setCell HW.out _).setCell HW.out _).setCell HW.out _).setCell (Nat.le_trans HW.out (Nat.le_of_lt hg2e)) _
   clear e8
   have y0 := blk_cell d1 0
   have y1 := blk_cell d1 1
   have y2 := blk_cell d1 2
   have y3 := blk_cell d1 3
   have y4 := blk_cell d1 4
   have x0 := blk_cell d2 0
   simp only [List.getElem?_toArray, List.getElem?_cons_zero, List.getElem?_cons_succ] at y0 y1 y2 y3 y4 x0
   simp [Leaves, settle, results, Try.results138, go_sem, y0, y1, y2, y3, y4, x0]
   refine ⟨hB8, keep_two HBV1.out (by have := EG1.out; omega) (by have := EG1.out; omega) HK5.out hs8 hk8, Or.inl ⟨by simp [HVV.out], rfl⟩⟩
  | true =>
   have HVV := Lib.hid hv
   clear hv
   go_wp2_with fail
   rw [← HE.out]
   (with_reducible refine (check53v w6 m A3 c3 A4 c4 true HVV.out HM6.out).mono ?_)
   rintro e w7 ⟨rfl, hb7⟩
   have c1 := (hb7.block g1 (by omega)).trans D1.out
   have c2 := (hb7.block g2 (by omega)).trans D2.out
   have y0 := blk_cell c1 0
   have y1 := blk_cell c1 1
   have y2 := blk_cell c1 2
   have y3 := blk_cell c1 3
   have y4 := blk_cell c1 4
   have z0 := blk_frozen c1 0
   have z1 := blk_frozen c1 1
   have z2 := blk_frozen c1 2
   have z3 := blk_frozen c1 3
   have z4 := blk_frozen c1 4
   have x0 := blk_cell c2 0
   have v0 := blk_frozen c2 0
   have C1 := Lib.hid c1
   have C2 := Lib.hid c2
   have HB7 := Lib.hid hb7
   simp only [List.getElem?_toArray, List.getElem?_cons_zero, List.getElem?_cons_succ] at y0 y1 y2 y3 y4 x0
   clear c1 c2 hb7
   go_wp2
   refine leaves_cons (f := 171) (args := #[.pointer (some ⟨g1, 0, none⟩), .pointer (some ⟨g2, 0, none⟩)]) (by simp) (by simp [go_sem]) ?_
   refine (idle171 _ _ _).mono ?_
   rintro e u' w8 ⟨rfl, rfl, e8⟩
   clear y0 y1 y2 y3 y4 z0 z1 z2 z3 z4 x0 v0
   have hne2 := hne.symm
   have d1 : w8.heap[g1]? = some (.cells #[.int .i64 m.f0, .string m.f1, .string m.f2, .slice A3 m.f3.length c3, .slice A4 m.f4.length c4] 25 (0, 0)) := by
    rw [e8]
    exact (Below.heap_setCell _ _ _ _ hne).trans ((blk_set (blk_set (blk_set (blk_set (blk_set C1.out 0 _) 1 _) 2 _) 3 _) 4 _).trans (by rfl))
   have d2 : w8.heap[g2]? = some (.cells #[.bool true] 4 (0, 0)) := by
    rw [e8]
    refine (blk_set (cs := #[.bool false]) ?_ 0 _).trans (by rfl)
    exact (Below.heap_setCell _ _ _ _ hne2).trans ((Below.heap_setCell _ _ _ _ hne2).trans ((Below.heap_setCell _ _ _ _ hne2).trans ((Below.heap_setCell _ _ _ _ hne2).trans ((Below.heap_setCell _ _ _ _ hne2).trans C2.out))))
   have hs8 : w5.heap.size ≤ w8.heap.size := by
    have := HB7.out.size
    rw [e8]; simp; omega
   have hk8 : ∀ i, i < w5.heap.size → i ≠ g1 → i ≠ g2 → w8.heap[i]? = w5.heap[i]? := by
    intro i hi h1 h2
    rw [e8]
    exact (Below.heap_setCell _ _ _ _ h2).trans ((Below.heap_setCell _ _ _ _ h1).trans ((Below.heap_setCell _ _ _ _ h1).trans ((Below.heap_setCell _ _ _ _ h1).trans ((Below.heap_setCell _ _ _ _ h1).trans ((Below.heap_setCell _ _ _ _ h1).trans ((HB7.out.block i (by omega)).trans (HOLD.out i h1)))))))
   have hB8 : Below w0.heap.size w0 w8 := by
    rw [e8]
    exact ((((((below_step HB6.out HB7.out).setCell HW.out _).setCell HW.out _).setCell HW.out _).setCell HW.out _).setCell HW.out _).setCell (Nat.le_trans HW.out (Nat.le_of_lt hg2e)) _
   clear e8
   have y0 := blk_cell d1 0
   have y1 := blk_cell d1 1
   have y2 := blk_cell d1 2
   have y3 := blk_cell d1 3
   have y4 := blk_cell d1 4
   have x0 := blk_cell d2 0
   simp only [List.getElem?_toArray, List.getElem?_cons_zero, List.getElem?_cons_succ] at y0 y1 y2 y3 y4 x0
   simp [Leaves, settle, results, Try.results138, go_sem, y0, y1, y2, y3, y4, x0]
   refine ⟨hB8, keep_two HBV1.out (by have := EG1.out; omega) (by have := EG1.out; omega) HK5.out hs8 hk8, Or.inr ⟨m, o, A3, c3, A4, c4, by simp [HVV.out], rfl, ?_, ?_⟩⟩
   ·have hg := HG.out
    refine HF.out.move (fun b hb => ?_)
    obtain ⟨hb1, hb2⟩ := hb
    have := EG1.out
    have := EG2.out
    exact ⟨⟨by omega, by omega⟩, hk8 b hb2 (by omega) (by omega)⟩
   ·exact (hk8 g (by omega) (by omega) (by omega)).trans HO.out
theorem readM_zero (cut : List UInt8 → Nat) (step : List UInt8 → Step) (emp : Bool) (left : Nat) (r : List UInt8) : readM cut step emp 0 left r = none := by rw [readM.eq_def]
theorem readM_left0 (cut : List UInt8 → Nat) (step : List UInt8 → Step) (emp : Bool) (d : Nat) (r : List UInt8) : readM cut step emp d 0 r = none := by cases d <;> rw [readM.eq_def]
theorem matcher144 (w0 : World) (g : Nat) (s : ByteArray) (hs : s.size ≤ 1000000000) (hg : w0.heap.size ≤ g) : ∀ (d : Nat) (dz : Int), d ≤ 8 → dz = 9 - (d : Int) → IHp w0 g s d dz := by
 intro d
 induction d with
 | zero =>
  intro dz _ hdz w i left hl hi hB hP
  rw [readM_zero]
  cases left with
  | zero => exact mat144a w0 w g s i 0 dz hg hB hP
  | succ left => exact mat144b w0 w g s i left (by omega) dz (by omega) hg hB hP
 | succ d ih =>
  intro dz hd hdz w i left hl hi hB hP
  cases left with
  | zero =>
   rw [readM_left0]
   exact mat144a w0 w g s i (d + 1) dz hg hB hP
  | succ left => exact mat144c w0 w g s i left d (by omega) (by omega) dz (by omega) hi hs hg hB hP (ih (dz + 1) (by omega) (by omega))
/-- what the parser's closure makes of a text -/
def parseQ (s : ByteArray) : Option (S25 × Obj) := (readM (cutM 33) stepP true 8 64 s.data.toList).map fun q => (q.1, pObj s (s.size - q.2.2.length) (q.2.1 : Nat))
set_option maxRecDepth 100000 in
set_option maxHeartbeats 16000000 in
/-- the closure that parses. -/
theorem parse143 (w0 w : World) (g gp : Nat) (s : ByteArray) (hs : s.size ≤ 1000000000) (hg : w0.heap.size ≤ g) (hB : Below w0.heap.size w0 w) (hS : PB w g s 0 64) (hP : w.heap[gp]? = some (.cells #[.pointer (some ⟨g, 0, none⟩)] 170 (0, 0))) :
  Calls Try.prog 143 #[.pointer (some ⟨gp, 0, none⟩)] w (RedPost w0 w g (parseQ s)) := by
 obtain ⟨Q, eQ⟩ : ∃ Q, parseQ s = Q := ⟨_, rfl⟩
 have hM := matcher144 w0 g s hs hg 8 1 (by decide) (by decide) (w.alloc (.cells Z5 25)) 0 64 (by decide) (Nat.zero_le _) (below_alloc hB _) ((Below.heap_alloc _ _ _ hS.lt).trans hS)
 rw [List.drop_zero] at hM
 have hM' : Calls Try.prog 144 #[.pointer (some ⟨g, 0, none⟩), .int .i64 1] (w.alloc (.cells Z5 25)) (RedPost w0 (w.alloc (.cells Z5 25)) g (parseQ s)) := hM
 clear hM
 rw [eQ] at hM' ⊢
 have p0 := blk_cell ((Below.heap_alloc w (.cells Z5 25) _ (blk_lt hP)).trans hP) 0
 simp only [List.getElem?_toArray, List.getElem?_cons_zero, List.getElem?_cons_succ] at p0
 obtain ⟨V, eV⟩ : ∃ V, V = w.alloc (.cells Z5 25) := ⟨_, rfl⟩
 rw [← eV] at hM'
 obtain ⟨K, eK⟩ : ∃ K, w.heap.size = K := ⟨_, rfl⟩
 have hV4 : V.heap[K]? = some (.cells Z5 25 (0, 0)) := by rw [eV, ← eK]; exact blk_new w _
 have hKV : KeepBut w V g none := by rw [eV]; exact KeepBut.of_below (below_alloc (Below.refl w.heap.size w) _) g none
 have hVs : V.heap.size = K + 1 := by rw [eV, World.size_alloc, eK]
 have H1 := Lib.hid hM'
 have HK := Lib.hid hKV
 have HV4 := Lib.hid hV4
 have HG := Lib.hid hS.lt
 have HW := Lib.hid hB.size
 have EK := Lib.hid eK.symm
 have HVS := Lib.hid hVs
 clear hM' hB hS hP hKV hV4 eQ hVs
 go_enter Try.func143, Try.ntmps143
 go_wp2_with fail
 rw [← eV]
 refine H1.out.mono ?_
 intro e w5 hp
 cases Q with
 | none =>
  obtain ⟨rfl, hB5, hK5⟩ := hp.none_
  exact ⟨rfl, hB5, HK.out.trans hK5 (Or.inl rfl), Or.inl ⟨rfl, rfl⟩⟩
 | some q =>
  obtain ⟨m, o⟩ := q
  obtain ⟨A3, c3, A4, c4, rfl, hB5, hK5, hMF, ho⟩ := hp.some_
  have k4 := (hK5.2 K (blk_lt HV4.out) (by have := HG.out; have := EK.out; omega) (by simp)).trans HV4.out
  have HB5 := Lib.hid hB5
  have HK5 := Lib.hid (HK.out.trans hK5 (Or.inl rfl))
  have HMF := Lib.hid hMF
  have HO := Lib.hid ho
  have K4 := Lib.hid k4
  have y0 := blk_cell k4 0
  have y1 := blk_cell k4 1
  have y2 := blk_cell k4 2
  have y3 := blk_cell k4 3
  have y4 := blk_cell k4 4
  have z0 := blk_frozen k4 0
  have z1 := blk_frozen k4 1
  have z2 := blk_frozen k4 2
  have z3 := blk_frozen k4 3
  have z4 := blk_frozen k4 4
  simp only [List.getElem?_toArray, List.getElem?_cons_zero, List.getElem?_cons_succ] at y0 y1 y2 y3 y4
  clear hB5 hK5 hMF ho k4 hp eV
  go_wp2
  have hT := red_tail (W := w5) (w := w) (o := o) (m := m) EK.out K4.out hg HG.out HW.out HB5.out HK5.out HO.out (HMF.out.move (fun b hb => ⟨⟨by have := hb.1; have := HVS.out; omega, hb.2⟩, rfl⟩))
  exact bodyPost_ret (results_single rfl (.cell K 25 _ (0, 0) _ rfl hT.1 Try.underlying25 rfl (by kernel_rfl) .nil)) rfl hT.2
/-- what Parse makes of a text that is not nested too deep -/
def parseM (s : ByteArray) : Option S25 := match readM (cutM 33) stepP true 8 64 s.data.toList with
 | none => none
 | some q => if chkB q.1 = true ∧ tB q.1 = s then some q.1 else none
theorem parse_cases (s : ByteArray) : ((parseQ s).filter (fun q => chkB q.1) = none ∧ parseM s = none) ∨ (∃ m o, (parseQ s).filter (fun q => chkB q.1) = some (m, o) ∧ chkB m = true ∧ tB m ≠ s ∧ parseM s = none) ∨ ∃ m o, (parseQ s).filter (fun q => chkB q.1) = some (m, o) ∧ chkB m = true ∧ tB m = s ∧ parseM s = some m := by
 unfold parseQ parseM
 cases h : readM (cutM 33) stepP true 8 64 s.data.toList with
 | none => exact Or.inl ⟨rfl, rfl⟩
 | some q =>
  cases hc : chkB q.1 with
  | false => exact Or.inl ⟨by simp [Option.filter, hc], by simp [hc]⟩
  | true =>
   by_cases ht : tB q.1 = s
   ·exact Or.inr (Or.inr ⟨q.1, pObj s (s.size - q.2.2.length) (q.2.1 : Nat), by simp only [Option.map_some, Option.filter, hc, if_true], hc, ht, by simp [hc, ht]⟩)
   ·exact Or.inr (Or.inl ⟨q.1, pObj s (s.size - q.2.2.length) (q.2.1 : Nat), by simp only [Option.map_some, Option.filter, hc, if_true], hc, ht, by simp [ht]⟩)
/-- how Parse ends -/
def ParP (w : World) (dp : Bool) (Q : Option S25) (e : Ending) (w' : World) : Prop :=
 Below w.heap.size w w' ∧ ((dp = true ∧ e = .returned (.tuple #[.agg Z5, .int .i64 18])) ∨ (dp = false ∧ Q = none ∧ e = .returned (.tuple #[.agg Z5, .int .i64 17])) ∨ ∃ m A3 c3 A4 c4, dp = false ∧ Q = some m ∧ e = .returned (.tuple #[mV m A3 c3 A4 c4, .int .i64 0]) ∧ MF w' (fun b => w.heap.size ≤ b ∧ b < w'.heap.size) m A3 c3 A4 c4)
theorem text_of {m : S25} {A3 : Option Addr} {c3 : Nat} {A4 : Option Addr} {c4 : Nat} (w : World) (hc : chkB m = true) (hM : MC w m A3 c3 A4 c4) (t : ByteArray) (ht : tB m = t) :
  Calls Try.prog 110 #[.agg #[.int .i64 m.f0, .string m.f1, .string m.f2, .slice A3 m.f3.length c3, .slice A4 m.f4.length c4]] w fun e w' => e = .returned (.string t) ∧ Below w.heap.size w w' := by
 obtain ⟨h1, h2, h3, h4⟩ := chk_def.1 hc
 rw [← ht]
 exact text110 _ m (Nat.le_refl _) h1 (by omega) (by omega) A3 c3 A4 c4 w hM
/-- the result is laid -/
theorem par_tail {w W : World} {K : Nat} (a0 a1 a2 a3 a4 : Value) (hK : w.heap.size ≤ K) (hb : W.heap[K]? = some (.cells Z5 25 (0, 0))) (hB : Below w.heap.size w W) :
  (((((W.setCell ⟨K, 0, none⟩ a0).setCell ⟨K, 1, none⟩ a1).setCell ⟨K, 2, none⟩ a2).setCell ⟨K, 3, none⟩ a3).setCell ⟨K, 4, none⟩ a4).heap[K]? = some (.cells #[a0, a1, a2, a3, a4] 25 (0, 0)) ∧
  Below w.heap.size w (((((W.setCell ⟨K, 0, none⟩ a0).setCell ⟨K, 1, none⟩ a1).setCell ⟨K, 2, none⟩ a2).setCell ⟨K, 3, none⟩ a3).setCell ⟨K, 4, none⟩ a4) :=
 ⟨(blk_set (blk_set (blk_set (blk_set (blk_set hb 0 _) 1 _) 2 _) 3 _) 4 _).trans (by rfl), ((((hB.setCell hK _).setCell hK _).setCell hK _).setCell hK _).setCell hK _⟩
set_option maxRecDepth 100000 in
set_option maxHeartbeats 16000000 in
/-- match.Parse. -/
theorem parse92 (w : World) (s : ByteArray) (hs : s.size ≤ 1000000000) : Calls Try.prog 92 #[.string s] w (ParP w (deepW 0 false s.data.toList) (parseM s)) := by
 obtain ⟨dp, edp⟩ : ∃ dp, deepW 0 false s.data.toList = dp := ⟨_, rfl⟩
 have hD := deep142 (w.alloc (.cells Z5 25)) s hs
 rw [edp] at hD ⊢
 clear edp
 have HD := Lib.hid hD
 clear hD
 cases dp with
 | true =>
  go_enter Try.func92, Try.ntmps92
  go_wp2_with fail
  refine HD.out.mono ?_
  rintro e w1 ⟨rfl, hw1⟩
  obtain ⟨R0, e0⟩ : ∃ R0, w.heap.size = R0 := ⟨_, rfl⟩
  have K0 : Hid (w1.heap[R0]? = some (.cells Z5 25 (0, 0))) := Lib.hid (by rw [hw1, ← e0]; exact blk_new w _)
  have HB1 : Hid (Below w.heap.size w w1) := Lib.hid (by rw [hw1]; exact below_alloc (Below.refl _ _) _)
  have HR0 := Lib.hid e0
  rw [e0]
  have y0 := blk_cell K0.out 0
  have z0 := blk_frozen K0.out 0
  have y1 := blk_cell K0.out 1
  have z1 := blk_frozen K0.out 1
  have y2 := blk_cell K0.out 2
  have z2 := blk_frozen K0.out 2
  have y3 := blk_cell K0.out 3
  have z3 := blk_frozen K0.out 3
  have y4 := blk_cell K0.out 4
  have z4 := blk_frozen K0.out 4
  simp only [List.getElem?_toArray, List.getElem?_cons_zero, List.getElem?_cons_succ] at y0 y1 y2 y3 y4
  clear hw1 e0
  go_wp2
  obtain ⟨t2, t3⟩ := par_tail (.int .i64 0) (.string ⟨#[]⟩) (.string ⟨#[]⟩) (.slice none 0 0) (.slice none 0 0) (Nat.le_of_eq HR0.out) K0.out HB1.out
  exact bodyPost_ret (results_list (vs := [.agg Z5, .int .i64 18]) rfl (by decide) (.cell R0 25 _ (0, 0) _ rfl t2 Try.underlying25 rfl (by kernel_rfl) (.tmp .nil))) rfl ⟨t3, Or.inl ⟨rfl, rfl⟩⟩
 | false =>
  obtain ⟨V, eV⟩ : ∃ V, V = ((w.alloc (.cells Z5 25)).alloc (.cells #[.string s, .int .i64 0, .int .i64 64] 172)).alloc (.cells #[.pointer (some ⟨w.heap.size + 1, 0, none⟩)] 170) := ⟨_, rfl⟩
  have hs1 : V.heap.size = w.heap.size + 3 := by rw [eV]; simp
  have hBV : Below w.heap.size w V := by rw [eV]; exact below_alloc (below_alloc (below_alloc (Below.refl _ _) _) _) _
  have k0 : V.heap[w.heap.size]? = some (.cells Z5 25 (0, 0)) := by rw [eV]; exact (Below.heap_alloc _ _ _ (by simp; omega)).trans ((Below.heap_alloc _ _ _ (by simp)).trans (blk_new w _))
  have k1 : PB V (w.heap.size + 1) s 0 64 := by
   have := blk_new (w.alloc (.cells Z5 25)) (.cells #[.string s, .int .i64 0, .int .i64 64] 172)
   rw [World.size_alloc] at this
   rw [eV]; exact (Below.heap_alloc _ _ _ (by simp)).trans this
  have k2 : V.heap[w.heap.size + 2]? = some (.cells #[.pointer (some ⟨w.heap.size + 1, 0, none⟩)] 170 (0, 0)) := by
   have := blk_new ((w.alloc (.cells Z5 25)).alloc (.cells #[.string s, .int .i64 0, .int .i64 64] 172)) (.cells #[.pointer (some ⟨w.heap.size + 1, 0, none⟩)] 170)
   rw [World.size_alloc, World.size_alloc] at this
   rw [eV]; exact this
  have hR := reads138p (.pointer (some ⟨w.heap.size + 2, 0, none⟩)) w V (w.heap.size + 1) (parseQ s) hBV (by omega) (fun W hW => parse143 w W (w.heap.size + 1) (w.heap.size + 2) s hs (by omega) (below_step hBV hW) ((hW.block _ (by omega)).trans k1) ((hW.block _ (by omega)).trans k2))
  have hQ := parse_cases s
  obtain ⟨Q, eQ⟩ : ∃ Q, (parseQ s).filter (fun q => chkB q.1) = Q := ⟨_, rfl⟩
  rw [eQ] at hR hQ
  obtain ⟨M, eM⟩ : ∃ M, parseM s = M := ⟨_, rfl⟩
  rw [eM] at hQ ⊢
  have hmf : ∀ (fn : Fn) (first cap : Array Value) (w : World), (Instr.makeFunc fn first cap).run Try.prog w = .ok (.func fn first cap) w := fun _ _ _ _ => rfl
  obtain ⟨R0, e0⟩ : ∃ R0, w.heap.size = R0 := ⟨_, rfl⟩
  obtain ⟨R1, e1⟩ : ∃ R1, R0 + 1 = R1 := ⟨_, rfl⟩
  obtain ⟨R2, e2⟩ : ∃ R2, R1 + 1 = R2 := ⟨_, rfl⟩
  have e2' : w.heap.size + 2 = R2 := by omega
  have e1' : w.heap.size + 1 = R1 := by omega
  rw [e1'] at k1 k2 eV
  rw [e2'] at k2
  rw [e2'] at hR
  rw [e0] at k0
  have H1 := Lib.hid hR
  have HQ := Lib.hid hQ
  have HBV := Lib.hid hBV
  have HS := Lib.hid (show V.heap.size = R0 + 3 by omega)
  have K0 := Lib.hid k0
  have HR0 := Lib.hid e0
  clear hR hQ hBV hs1 k0 k1 k2 eQ eM e1' e2'
  go_enter Try.func92, Try.ntmps92
  go_wp2_with fail
  refine HD.out.mono ?_
  rintro e wd ⟨rfl, rfl⟩
  go_wp2_with fail
  rw [← eV]
  refine H1.out.mono ?_
  rintro e w5 ⟨hB5, hK5, hres⟩
  have hs5 := hK5.1
  have hVs := HS.out
  have k0 := (hK5.2 R0 (by omega) (by omega) (by simp)).trans K0.out
  have HB5 := Lib.hid hB5
  have HL := Lib.hid (show R0 < w5.heap.size by omega)
  rcases hres with ⟨rfl, rfl⟩ | ⟨m, o, A3, c3, A4, c4, rfl, rfl, hMF, ho⟩
  ·obtain rfl : M = none := by
    rcases HQ.out with ⟨-, h⟩ | ⟨m, o, h, -⟩ | ⟨m, o, h, -⟩
    ·exact h
    ·cases h
    ·cases h
   have k0' : (w5.alloc (.cells Z5 25)).heap[R0]? = some (.cells Z5 25 (0, 0)) := (Below.heap_alloc _ _ _ HL.out).trans k0
   have K0' := Lib.hid k0'
   have y0 := blk_cell k0' 0
   have z0 := blk_frozen k0' 0
   have y1 := blk_cell k0' 1
   have z1 := blk_frozen k0' 1
   have y2 := blk_cell k0' 2
   have z2 := blk_frozen k0' 2
   have y3 := blk_cell k0' 3
   have z3 := blk_frozen k0' 3
   have y4 := blk_cell k0' 4
   have z4 := blk_frozen k0' 4
   simp only [List.getElem?_toArray, List.getElem?_cons_zero, List.getElem?_cons_succ] at y0 y1 y2 y3 y4
   clear k0 k0' hB5 hK5 hs5 eV hVs e0 e1 e2
   go_wp2
   obtain ⟨t2, t3⟩ := par_tail (.int .i64 0) (.string ⟨#[]⟩) (.string ⟨#[]⟩) (.slice none 0 0) (.slice none 0 0) (Nat.le_of_eq HR0.out) K0'.out (below_alloc HB5.out (.cells Z5 25))
   exact bodyPost_ret (results_list (vs := [.agg Z5, .int .i64 17]) rfl (by decide) (.cell R0 25 _ (0, 0) _ rfl t2 Try.underlying25 rfl (by kernel_rfl) (.tmp .nil))) rfl ⟨t3, Or.inr (Or.inl ⟨rfl, rfl, rfl⟩)⟩
  ·have hQQ : chkB m = true ∧ ((tB m ≠ s ∧ M = none) ∨ (tB m = s ∧ M = some m)) := by
    rcases HQ.out with ⟨h, -⟩ | ⟨m', o', h, h1, h2, h3⟩ | ⟨m', o', h, h1, h2, h3⟩
    ·cases h
    ·simp only [Option.some.injEq, Prod.mk.injEq] at h
     obtain ⟨rfl, rfl⟩ := h
     exact ⟨h1, Or.inl ⟨h2, h3⟩⟩
    ·simp only [Option.some.injEq, Prod.mk.injEq] at h
     obtain ⟨rfl, rfl⟩ := h
     exact ⟨h1, Or.inr ⟨h2, h3⟩⟩
   obtain ⟨t, et⟩ : ∃ t, tB m = t := ⟨_, rfl⟩
   obtain ⟨w6, e6⟩ : ∃ w6, w6 = w5.alloc (.cells #[.int .i64 m.f0, .string m.f1, .string m.f2, .slice A3 m.f3.length c3, .slice A4 m.f4.length c4] 25) := ⟨_, rfl⟩
   have hB6 : Below w5.heap.size w5 w6 := by rw [e6]; exact below_alloc (Below.refl _ _) _
   have k6 := (hB6.block R0 HL.out).trans k0
   have m6 : w6.heap[w5.heap.size]? = some (.cells #[.int .i64 m.f0, .string m.f1, .string m.f2, .slice A3 m.f3.length c3, .slice A4 m.f4.length c4] 25 (0, 0)) := by rw [e6]; exact blk_new w5 _
   have hMF6 : MF w6 (fun b => w.heap.size ≤ b ∧ b < w6.heap.size ∧ b ≠ R0) m A3 c3 A4 c4 := hMF.move (fun b hb => ⟨⟨by omega, by have := hb.2; have := hB6.size; omega, by have := hb.1; omega⟩, hB6.block b hb.2⟩)
   have H2 := Lib.hid (text_of w6 hQQ.1 hMF6.now t et)
   have HT := Lib.hid (show (t ≠ s ∧ M = none) ∨ (t = s ∧ M = some m) by rw [← et]; exact hQQ.2)
   have HB6 := Lib.hid (below_step hB5 hB6)
   have K6 := Lib.hid k6
   have M6 := Lib.hid m6
   have HMF6 := Lib.hid hMF6
   obtain ⟨gm, egm⟩ : ∃ gm, w5.heap.size = gm := ⟨_, rfl⟩
   rw [egm] at M6
   have hne : R0 ≠ gm := by have := HL.out; omega
   have y0 := blk_cell M6.out 0
   have y1 := blk_cell M6.out 1
   have y2 := blk_cell M6.out 2
   have y3 := blk_cell M6.out 3
   have y4 := blk_cell M6.out 4
   simp only [List.getElem?_toArray, List.getElem?_cons_zero, List.getElem?_cons_succ] at y0 y1 y2 y3 y4
   clear k0 k6 m6 hMF6 hMF hB5 hK5 hs5 eV hVs e0 e1 e2 hQQ et hB6 ho
   go_upto_region 5 with fail
   rw [← e6]
   clear e6
   go_wp2_with fail
   (with_reducible refine H2.out.mono ?_)
   rintro e w7 ⟨rfl, hb7⟩
   have k7 := (hb7.block R0 (blk_lt K6.out)).trans K6.out
   have m7 := (hb7.block gm (blk_lt M6.out)).trans M6.out
   have K7 := Lib.hid k7
   have HB7 := Lib.hid (below_step HB6.out hb7)
   have HMF7 := Lib.hid (HMF6.out.move (Y := w7) (T := fun b => w.heap.size ≤ b ∧ b < w7.heap.size ∧ b ≠ R0) (fun b hb => ⟨⟨hb.1, by have := hb.2.1; have := hb7.size; omega, hb.2.2⟩, hb7.block b hb.2.1⟩))
   have x0 := blk_cell m7 0
   have x1 := blk_cell m7 1
   have x2 := blk_cell m7 2
   have x3 := blk_cell m7 3
   have x4 := blk_cell m7 4
   have y0 := blk_cell k7 0
   have z0 := blk_frozen k7 0
   have y1 := blk_cell k7 1
   have z1 := blk_frozen k7 1
   have y2 := blk_cell k7 2
   have z2 := blk_frozen k7 2
   have y3 := blk_cell k7 3
   have z3 := blk_frozen k7 3
   have y4 := blk_cell k7 4
   have z4 := blk_frozen k7 4
   simp only [List.getElem?_toArray, List.getElem?_cons_zero, List.getElem?_cons_succ] at y0 y1 y2 y3 y4 x0 x1 x2 x3 x4
   clear k7 m7 hb7 H2
   by_cases ht : t = s
   ·have hte : (t.toList == s.toList) = true := by rw [ht]; exact beq_self_eq_true _
    have hM : M = some m := by
     rcases HT.out with ⟨h, -⟩ | ⟨-, h⟩
     ·exact absurd ht h
     ·exact h
    have HM := Lib.hid hM
    clear ht hM
    go_wp2
    obtain ⟨t2, t3⟩ := par_tail (.int .i64 m.f0) (.string m.f1) (.string m.f2) (.slice A3 m.f3.length c3) (.slice A4 m.f4.length c4) (Nat.le_of_eq HR0.out) K7.out HB7.out
    refine bodyPost_ret (results_list (vs := [.agg #[.int .i64 m.f0, .string m.f1, .string m.f2, .slice A3 m.f3.length c3, .slice A4 m.f4.length c4], .int .i64 0]) rfl (by simp) (.cell R0 25 _ (0, 0) _ rfl t2 Try.underlying25 rfl (by kernel_rfl) (.tmp .nil))) rfl ⟨t3, Or.inr (Or.inr ⟨m, A3, c3, A4, c4, rfl, HM.out, rfl, HMF7.out.move (fun b hb => ⟨⟨hb.1, by simp only [World.size_setCell]; exact hb.2.1⟩, ?_⟩)⟩)⟩
    have hne : b ≠ R0 := hb.2.2
    exact (Below.heap_setCell _ _ _ _ hne).trans ((Below.heap_setCell _ _ _ _ hne).trans ((Below.heap_setCell _ _ _ _ hne).trans ((Below.heap_setCell _ _ _ _ hne).trans (Below.heap_setCell _ _ _ _ hne))))
   ·have hte : (t.toList == s.toList) = false := by rw [beq_eq_false_iff_ne]; exact fun h => ht (toList_iff.1 h)
    have hM : M = none := by
     rcases HT.out with ⟨-, h⟩ | ⟨h, -⟩
     ·exact h
     ·exact absurd h ht
    have HM := Lib.hid hM
    clear ht hM
    go_wp2
    obtain ⟨t2, t3⟩ := par_tail (.int .i64 0) (.string ⟨#[]⟩) (.string ⟨#[]⟩) (.slice none 0 0) (.slice none 0 0) (Nat.le_of_eq HR0.out) K7.out HB7.out
    exact bodyPost_ret (results_list (vs := [.agg Z5, .int .i64 17]) rfl (by decide) (.cell R0 25 _ (0, 0) _ rfl t2 Try.underlying25 rfl (by kernel_rfl) (.tmp .nil))) rfl ⟨t3, Or.inr (Or.inl ⟨rfl, HM.out, rfl⟩)⟩
end Go.Proofs.Yteafilojjdfllaa
end
section
namespace Go.Proofs.Yteafilojjdfllaa
open Go Go.RowKit Go.Proofs.YteafilojjdfllaaW.PrintWords Go.Proofs.YteafilojjdfllaaW.PrintLast Go.Proofs.YteafilojjdfllaaW.PrintMore Go.Proofs.Yteafilojjdfllaa.PAll
/-- a row of one element -/
theorem C_one' {α : Type} {d : Kd α} {W : World} {g : Nat} {x : α} {cs : List Value} {t : TypeId} (hb : W.heap[g]? = some (.cells ⟨cs⟩ t (0, 0))) (hK : d.K W x cs) : d.C W (some ⟨g, 0, none⟩) 1 [x] := by
 refine ⟨rfl, by decide, fun _ => ⟨⟨g, 0, none⟩, rfl, fun j p hj => ?_⟩⟩
 have hj0 : j = 0 := by
  cases j with
  | zero => rfl
  | succ j => simp at hj
 subst hj0
 cases hj
 refine ⟨cs, d.K_len hK, hK, fun i u hu => ?_⟩
 have := blk_cell hb i
 have e : (⟨g, 0, none⟩ : Addr).add (0 * d.sz + i) = ⟨g, i, none⟩ := by simp [Addr.add]; exact Eq.symm
 rw [e]
 simpa [hu] using this
/-- a row of two elements -/
theorem C_two {α : Type} {d : Kd α} {W : World} {g : Nat} {x y : α} {cs ds : List Value} {t : TypeId} (hb : W.heap[g]? = some (.cells ⟨cs ++ ds⟩ t (0, 0))) (hx : d.K W x cs) (hy : d.K W y ds) : d.C W (some ⟨g, 0, none⟩) 2 [x, y] := by
 have l1 := d.K_len hx
 have l2 := d.K_len hy
 refine ⟨rfl, by decide, fun _ => ⟨⟨g, 0, none⟩, rfl, fun j p hj => ?_⟩⟩
 have hat : ∀ i, (⟨g, 0, none⟩ : Addr).add i = ⟨g, i, none⟩ := fun i => add_plain g i
 match j, hj with
 | 0, hj =>
  cases hj
  refine ⟨cs, l1, hx, fun i u hu => ?_⟩
  have hi := (List.getElem?_eq_some_iff.1 hu).1
  have := blk_cell hb i
  rw [hat]
  rw [show 0 * d.sz + i = i by omega, this]
  simp [List.getElem?_append_left hi, hu]
 | 1, hj =>
  cases hj
  refine ⟨ds, l2, hy, fun i u hu => ?_⟩
  have := blk_cell hb (d.sz + i)
  rw [hat]
  rw [show 1 * d.sz + i = d.sz + i by omega, this, ← l1]
  simp only [List.getElem?_toArray]
  rw [List.getElem?_append_right (by omega), show cs.length + i - cs.length = i by omega, hu]
def exMI : S25 := ⟨2, ⟨#[97]⟩, ⟨#[49]⟩, [], []⟩
def exMK : S25 := ⟨1, ⟨#[97]⟩, ⟨#[120]⟩, [], []⟩
def exMN : S25 := ⟨7, ⟨#[]⟩, ⟨#[]⟩, [], [exMK]⟩
def exMA : S25 := ⟨5, ⟨#[]⟩, ⟨#[]⟩, [], [z25, exMN]⟩
def exML : List S68 := [⟨⟨#[98]⟩, ⟨#[50]⟩⟩]
theorem exM_chk : chkB exMA = true := by kernel_rfl
theorem exM_ev : evalB exML exMA = true := by kernel_rfl
theorem exM_evI : evalB exML exMI = true := by kernel_rfl
theorem exM_text : tB exMA = ⟨#[38, 40, 42, 44, 33, 40, 97, 61, 34, 120, 34, 41, 41]⟩ := by kernel_rfl
theorem k68_one (W : World) (x : S68) : k68.K W x [.string x.f0, .string x.f1] := k68.K_of_M (k68_mkM W 0 (fun _ => True) x)
theorem exEvalI (W : World) (A : Option Addr) (hC : Kd.C k68 W A 1 exML) : Calls Try.prog 55 #[.agg #[.int .i64 2, .string ⟨#[97]⟩, .string ⟨#[49]⟩, .slice none 0 0, .slice none 0 0], .slice A 1 1] W fun e w' => e = .returned (.bool true) ∧ Below W.heap.size W w' :=
 Eval55 W exMI none 0 none 0 A 1 exML true exM_evI (by decide) ⟨Nat.le_refl _, Kd.C_nil _ _, Nat.le_refl _, Kd.C_nil _ _⟩ (by decide) (by decide) hC
theorem exTextA (W : World) (A : Option Addr) (hM : MC W exMA none 0 A 2) : Calls Try.prog 61 #[.agg #[.int .i64 5, .string ⟨#[]⟩, .string ⟨#[]⟩, .slice none 0 0, .slice A 2 2]] W fun e w' => e = .returned (.string ⟨#[38, 40, 42, 44, 33, 40, 97, 61, 34, 120, 34, 41, 41]⟩) ∧ Below W.heap.size W w' := by
 have h := Text61 W exMA none 0 A 2 exM_chk hM
 rw [exM_text] at h
 exact h
theorem exCheckA (W : World) (A : Option Addr) (hM : MC W exMA none 0 A 2) : Calls Try.prog 53 #[.agg #[.int .i64 5, .string ⟨#[]⟩, .string ⟨#[]⟩, .slice none 0 0, .slice A 2 2]] W fun e w' => e = .returned (.bool true) ∧ Below W.heap.size W w' := check53v W exMA none 0 A 2 true exM_chk hM
theorem exEvalA (W : World) (A B : Option Addr) (hM : MC W exMA none 0 A 2) (hC : Kd.C k68 W B 1 exML) : Calls Try.prog 55 #[.agg #[.int .i64 5, .string ⟨#[]⟩, .string ⟨#[]⟩, .slice none 0 0, .slice A 2 2], .slice B 1 1] W fun e w' => e = .returned (.bool true) ∧ Below W.heap.size W w' :=
 Eval55 W exMA none 0 A 2 B 1 exML true exM_ev (by decide) hM (by decide) (by decide) hC
/-- the example in memory -/
theorem exM_world (w : World) : ∃ W : World, ((((w.alloc (.cells #[.string ⟨#[98]⟩, .string ⟨#[50]⟩] 68)).alloc (.cells #[.int .i64 1, .string ⟨#[97]⟩, .string ⟨#[120]⟩, .slice none 0 0, .slice none 0 0] 25)).alloc (.cells #[.int .i64 0, .string ⟨#[]⟩, .string ⟨#[]⟩, .slice none 0 0, .slice none 0 0, .int .i64 7, .string ⟨#[]⟩, .string ⟨#[]⟩, .slice none 0 0, .slice (some ⟨w.heap.size + 1, 0, none⟩) 1 1] 25)).alloc (.cells #[.int .i64 5, .string ⟨#[]⟩, .string ⟨#[]⟩, .slice none 0 0, .slice (some ⟨w.heap.size + 1 + 1, 0, none⟩) 2 2] 25)) = W ∧ Below w.heap.size w W ∧ Kd.C k68 W (some ⟨w.heap.size, 0, none⟩) exML.length exML ∧ MC W exMA none 0 (some ⟨w.heap.size + 1 + 1, 0, none⟩) 2 ∧
  BoxM W (w.heap.size + 1 + 1 + 1) 5 ⟨#[]⟩ ⟨#[]⟩ (.slice none 0 0) (.slice (some ⟨w.heap.size + 1 + 1, 0, none⟩) 2 2) := by
 refine ⟨_, rfl, below_alloc (below_alloc (below_alloc (below_alloc (Below.refl _ _) _) _) _) _, ?_, ?_, ?_⟩
 ·have h := blk_new w (.cells #[.string ⟨#[98]⟩, .string ⟨#[50]⟩] 68)
  have hC : Kd.C k68 (w.alloc (.cells #[.string ⟨#[98]⟩, .string ⟨#[50]⟩] 68)) (some ⟨w.heap.size, 0, none⟩) 1 exML := C_one' h (k68_one _ ⟨⟨#[98]⟩, ⟨#[50]⟩⟩)
  exact Kd.C_alloc (Kd.C_alloc (Kd.C_alloc hC _) _) _
 ·refine ⟨Nat.le_refl _, Kd.C_nil _ _, Nat.le_refl _, ?_⟩
  refine Kd.C_alloc ?_ _
  have h := blk_new ((w.alloc (.cells #[.string ⟨#[98]⟩, .string ⟨#[50]⟩] 68)).alloc (.cells #[.int .i64 1, .string ⟨#[97]⟩, .string ⟨#[120]⟩, .slice none 0 0, .slice none 0 0] 25)) (.cells #[.int .i64 0, .string ⟨#[]⟩, .string ⟨#[]⟩, .slice none 0 0, .slice none 0 0, .int .i64 7, .string ⟨#[]⟩, .string ⟨#[]⟩, .slice none 0 0, .slice (some ⟨w.heap.size + 1, 0, none⟩) 1 1] 25)
  have e : ((w.alloc (.cells #[.string ⟨#[98]⟩, .string ⟨#[50]⟩] 68)).alloc (.cells #[.int .i64 1, .string ⟨#[97]⟩, .string ⟨#[120]⟩, .slice none 0 0, .slice none 0 0] 25)).heap.size = w.heap.size + 1 + 1 := by simp
  rw [e] at h
  have hk := blk_new (w.alloc (.cells #[.string ⟨#[98]⟩, .string ⟨#[50]⟩] 68)) (.cells #[.int .i64 1, .string ⟨#[97]⟩, .string ⟨#[120]⟩, .slice none 0 0, .slice none 0 0] 25)
  rw [World.size_alloc] at hk
  have hK : Kd.C k25 ((w.alloc (.cells #[.string ⟨#[98]⟩, .string ⟨#[50]⟩] 68)).alloc (.cells #[.int .i64 1, .string ⟨#[97]⟩, .string ⟨#[120]⟩, .slice none 0 0, .slice none 0 0] 25)) (some ⟨w.heap.size + 1, 0, none⟩) 1 [exMK] :=
   C_one' hk (k25_mk _ exMK (Nat.le_refl _) (Kd.C_nil _ _) (Nat.le_refl _) (Kd.C_nil _ _))
  exact C_two (cs := [.int .i64 0, .string ⟨#[]⟩, .string ⟨#[]⟩, .slice none 0 0, .slice none 0 0]) (ds := [.int .i64 7, .string ⟨#[]⟩, .string ⟨#[]⟩, .slice none 0 0, .slice (some ⟨w.heap.size + 1, 0, none⟩) 1 1]) h
   (k25_mk _ z25 (Nat.le_refl _) (Kd.C_nil _ _) (Nat.le_refl _) (Kd.C_nil _ _)) (k25_mk _ exMN (Nat.le_refl _) (Kd.C_nil _ _) (Nat.le_refl _) (Kd.C_alloc hK _))
 ·have h := blk_new (((w.alloc (.cells #[.string ⟨#[98]⟩, .string ⟨#[50]⟩] 68)).alloc (.cells #[.int .i64 1, .string ⟨#[97]⟩, .string ⟨#[120]⟩, .slice none 0 0, .slice none 0 0] 25)).alloc (.cells #[.int .i64 0, .string ⟨#[]⟩, .string ⟨#[]⟩, .slice none 0 0, .slice none 0 0, .int .i64 7, .string ⟨#[]⟩, .string ⟨#[]⟩, .slice none 0 0, .slice (some ⟨w.heap.size + 1, 0, none⟩) 1 1] 25)) (.cells #[.int .i64 5, .string ⟨#[]⟩, .string ⟨#[]⟩, .slice none 0 0, .slice (some ⟨w.heap.size + 1 + 1, 0, none⟩) 2 2] 25)
  rw [World.size_alloc, World.size_alloc, World.size_alloc] at h
  exact h
set_option maxRecDepth 100000 in
set_option maxHeartbeats 4000000 in
/-- varvelaw12.awake. -/
theorem awake52 (w : World) : Calls Try.prog 52 #[] w fun e w' => e = .returned (.bool true) ∧ Below w.heap.size w w' := by
 obtain ⟨W3, e3, hB, hL, hM, hX⟩ := exM_world w
 have E3 := Lib.hid e3
 clear e3
 go_enter Try.func52, Try.ntmps52
 go_wp2_with fail
 rw [E3.out]
 (with_reducible refine (exEvalI _ _ hL).mono ?_)
 rintro e w1 ⟨rfl, hb1⟩
 have hX1 := hX.below hb1
 have hB1 := below_step hB hb1
 have hM1 := hM.below hb1
 have hL1 := Kd.C_below hL hb1
 have c0 := hX1.c0
 have c1 := hX1.c1
 have c2 := hX1.c2
 have c3 := hX1.c3
 have c4 := hX1.c4
 clear hX hB hM hL hb1
 go_wp2_with fail
 (with_reducible refine (exTextA _ _ hM1).mono ?_)
 rintro e w2 ⟨rfl, hb2⟩
 have hX2 := hX1.below hb2
 have hB2 := below_step hB1 hb2
 have hM2 := hM1.below hb2
 have hL2 := Kd.C_below hL1 hb2
 have c0 := hX2.c0
 have c1 := hX2.c1
 have c2 := hX2.c2
 have c3 := hX2.c3
 have c4 := hX2.c4
 clear hX1 hB1 hM1 hL1 hb2
 go_wp2_with fail
 (with_reducible refine (exCheckA _ _ hM2).mono ?_)
 rintro e w3 ⟨rfl, hb3⟩
 have hX3 := hX2.below hb3
 have hB3 := below_step hB2 hb3
 have hM3 := hM2.below hb3
 have hL3 := Kd.C_below hL2 hb3
 have c0 := hX3.c0
 have c1 := hX3.c1
 have c2 := hX3.c2
 have c3 := hX3.c3
 have c4 := hX3.c4
 clear hX2 hB2 hM2 hL2 hb3
 go_wp2_with fail
 (with_reducible refine (exEvalA _ _ _ hM3 hL3).mono ?_)
 rintro e w4 ⟨rfl, hb4⟩
 go_wp2_with fail
 go_ret
 exact ⟨rfl, below_step hB3 hb4⟩
end Go.Proofs.Yteafilojjdfllaa
end
section
namespace Go.Proofs.Yteafilojjdfllaa
open Go Go.RowKit Go.Proofs.YteafilojjdfllaaW.PrintWords Go.Proofs.YteafilojjdfllaaW.PrintLast Go.Proofs.YteafilojjdfllaaW.PrintMore Go.Proofs.Yteafilojjdfllaa.PAll
set_option linter.unusedVariables false
set_option linter.unusedSimpArgs false
/-- a matcher's text, parsed -/
theorem parseM_text {m : S25} (h : chkB m = true) : parseM (tB m) = some m ∧ deepW 0 false (tB m).data.toList = false := by
 obtain ⟨h1, h2, h3, h4⟩ := chk_def.1 h
 have e : (tB m).data.toList = textM m := rfl
 have hr := readM_text (emp := true) right_P cuts_M _ m 8 64 [] (Nat.le_refl _) h1 (by omega) (by omega) (by omega)
 have hd := deep_text _ m 0 [] (Nat.le_refl _) h1 (by omega)
 rw [List.append_nil] at hr hd
 constructor
 ·unfold parseM
  rw [e, hr]
  simp [h]
 ·rw [e, hd, deepW]
def nots : Nat → S25
 | 0 => ⟨0, ⟨#[]⟩, ⟨#[]⟩, [], []⟩
 | n + 1 => ⟨7, ⟨#[]⟩, ⟨#[]⟩, [], [nots n]⟩
def isA : S25 := ⟨1, ⟨#[97]⟩, ⟨#[]⟩, [], []⟩
def ors (k : Nat) : S25 := ⟨6, ⟨#[]⟩, ⟨#[]⟩, [], List.replicate k isA⟩
def opens : Nat → List UInt8
 | 0 => []
 | n + 1 => 33 :: 40 :: opens n
theorem opens_snoc : ∀ (n : Nat), opens n ++ [33, 40] = opens (n + 1)
 | 0 => rfl
 | n + 1 => by
  show 33 :: 40 :: (opens n ++ [33, 40]) = _
  rw [opens_snoc n]
  rfl
theorem closes_snoc (n : Nat) : List.replicate n (41 : UInt8) ++ [41] = List.replicate (n + 1) 41 := by
 rw [List.replicate_succ']
theorem nots_text : ∀ (n : Nat), textM (nots n) = opens n ++ 42 :: List.replicate n 41
 | 0 => rfl
 | n + 1 => by
  rw [nots, text_k (by simp)]
  show 33 :: 40 :: (commas [textM (nots n)] ++ [41]) = _
  rw [show commas [textM (nots n)] = textM (nots n) from rfl, nots_text n]
  show _ = 33 :: 40 :: (opens n ++ 42 :: List.replicate (n + 1) 41)
  rw [← closes_snoc n]
  simp
theorem nots_facts : ∀ (n : Nat), okM (nots n) = true ∧ depthM (nots n) = n + 1 ∧ nodesM (nots n) = n + 1 ∧ bytesM (nots n) = 0
 | 0 => ⟨by kernel_rfl, by kernel_rfl, by kernel_rfl, by kernel_rfl⟩
 | n + 1 => by
  obtain ⟨h1, h2, h3, h4⟩ := nots_facts n
  rw [nots]
  refine ⟨?_, ?_, ?_, ?_⟩
  ·rw [okM_mk]
   simp only [okL, h1, Bool.and_true]
   unfold aloneB plainB
   simp
   try decide
  ·rw [depthM_mk]; simp [depthL, h2]; omega
  ·rw [nodesM_mk]; simp [nodesL, h3]; omega
  ·rw [bytesM_mk]; simp [bytesL, h4, sizes]; rfl
theorem chk_nots (n : Nat) (hn : n ≤ 13) : chkB (nots n) = decide ((n : Int) + 1 ≤ 8) := by
 obtain ⟨h1, h2, h3, h4⟩ := nots_facts n
 unfold chkB chk
 rw [h1, h2, h3, h4]
 congr 1
 simp
 omega
theorem ors_list : ∀ (k : Nat), okL (List.replicate k isA) = true ∧ depthL (List.replicate k isA) ≤ 1 ∧ nodesL (List.replicate k isA) = k ∧ bytesL (List.replicate k isA) = k
 | 0 => ⟨rfl, Nat.zero_le _, rfl, rfl⟩
 | k + 1 => by
  obtain ⟨h1, h2, h3, h4⟩ := ors_list k
  rw [List.replicate_succ]
  refine ⟨?_, ?_, ?_, ?_⟩
  ·rw [okL, h1]; rfl
  ·rw [depthL]; exact Nat.max_le.2 ⟨by decide, h2⟩
  ·rw [nodesL, h3, show nodesM isA = 1 from rfl]; omega
  ·rw [bytesL, h4, show bytesM isA = 1 from rfl]; omega
theorem chk_ors (k : Nat) (hk : k ≤ 79) : chkB (ors k) = decide ((k : Int) + 1 ≤ 64) := by
 obtain ⟨h1, h2, h3, h4⟩ := ors_list k
 have e1 : okM (ors k) = true := by
  rw [ors, okM_mk]
  simp only [h1, Bool.and_true]
  unfold aloneB plainB
  simp
  try decide
 have e2 : depthM (ors k) ≤ 2 := by rw [ors, depthM_mk]; simp only; omega
 have e3 : nodesM (ors k) = k + 1 := by rw [ors, nodesM_mk]; simp only [h3]; omega
 have e4 : bytesM (ors k) = k := by rw [ors, bytesM_mk]; simp [h4, sizes]; rfl
 unfold chkB chk
 rw [e1, e3, e4]
 congr 1
 simp
 omega
theorem deep_opens : ∀ (k o : Nat) (t : List UInt8), o ≤ 8 → deepW o false (opens k ++ t) = if o + k > 8 then true else deepW (o + k) false t
 | 0, o, t, h => by rw [opens, List.nil_append, if_neg (by omega)]; rfl
 | k + 1, o, t, h => by
  show deepW o false (33 :: 40 :: (opens k ++ t)) = _
  rw [deep_skip _ _ _ (by decide)]
  by_cases h8 : o + 1 ≤ 8
  ·rw [deep_open _ _ h8, deep_opens k (o + 1) t h8, show o + 1 + k = o + (k + 1) by omega]
  ·rw [if_pos (by omega), deepW, if_neg (by simp), if_neg (by decide), if_pos ⟨rfl, rfl⟩, if_pos (by omega)]
theorem deep_closes : ∀ (c o : Nat), deepW o false (List.replicate c 41) = false
 | 0, o => by rw [List.replicate_zero, deepW]
 | c + 1, o => by
  rw [List.replicate_succ]
  cases o with
  | zero => rw [deepW, if_neg (by simp), if_neg (by decide), if_neg (by simp), if_pos ⟨rfl, rfl⟩]; exact deep_closes c _
  | succ o => rw [deep_close]; exact deep_closes c o
theorem deep_nots (n : Nat) : deepW 0 false (opens n ++ 42 :: List.replicate n 41) = decide (8 < n) := by
 rw [deep_opens n 0 _ (by omega), Nat.zero_add]
 by_cases h : 8 < n
 ·rw [if_pos h, decide_eq_true h]
 ·rw [if_neg h, decide_eq_false h, deep_skip _ _ _ (by decide), deep_closes]
theorem read_opens : ∀ (d k left : Nat) (t : List UInt8), d ≤ k → (opens k ++ 42 :: t) ≠ [] → readM (cutM 33) stepP true d left (opens k ++ 42 :: t) = none
 | 0, k, left, t, _, _ => readM_zero _ _ _ _ _
 | d + 1, 0, left, t, h, _ => by omega
 | d + 1, k + 1, 0, t, _, _ => readM_left0 _ _ _ _ _
 | d + 1, k + 1, left + 1, t, h, _ => by
  show readM (cutM 33) stepP true (d + 1) (left + 1) (33 :: 40 :: (opens k ++ 42 :: t)) = none
  rw [readM_step _ _ _ _ _ _ rfl]
  simp only [nextB_cons]
  rw [if_neg (by decide), if_neg (by decide), if_neg (by decide), if_pos trivial]
  unfold listK
  simp only [List.drop_succ_cons, List.drop_zero, nextB_cons]
  rw [if_pos trivial, if_neg ?_, readML_rest, read_opens d k left t (by omega) (by simp)]
  ·rfl
  ·cases k with
   | zero => show ¬ nextB 41 (42 :: t) = true; rw [nextB_cons]; decide
   | succ k => show ¬ nextB 41 (33 :: 40 :: (opens k ++ 42 :: t)) = true; rw [nextB_cons]; decide
/-- the text of so many, as bytes -/
def notsB (n : Nat) : ByteArray := ⟨(opens n ++ 42 :: List.replicate n 41).toArray⟩
def codeD (n : Nat) : Int := if n = 8 then 17 else if 8 < n then 18 else 0
theorem parse_nots (n : Nat) (hn : n ≤ 13) : (deepW 0 false (notsB n).data.toList = decide (8 < n)) ∧ (n = 8 → parseM (notsB n) = none) ∧ (n < 8 → parseM (notsB n) = some (nots n)) := by
 have e : (notsB n).data.toList = opens n ++ 42 :: List.replicate n 41 := rfl
 refine ⟨by rw [e]; exact deep_nots n, fun h => ?_, fun h => ?_⟩
 ·unfold parseM
  rw [e, read_opens 8 n 64 _ (by omega) (by simp)]
 ·have hc : chkB (nots n) = true := by rw [chk_nots n hn, decide_eq_true (by omega)]
  have ht : tB (nots n) = notsB n := by unfold tB notsB; rw [nots_text]
  rw [← ht]
  exact (parseM_text hc).1
theorem nots_len (n : Nat) : (notsB n).size ≤ 3 * n + 1 := by
 have h : ∀ k, (opens k).length = 2 * k := by
  intro k
  induction k with
  | zero => rfl
  | succ k ih => show ((opens k).length + 1) + 1 = _; omega
 show (opens n ++ 42 :: List.replicate n 41).toArray.size ≤ _
 simp [h]
 omega
/-- Parse of such a text: the code -/
theorem parse92n (w : World) (n : Nat) (hn : n ≤ 13) (c : Int) (hc : codeD n = c) (t : ByteArray) (ht : notsB n = t) : Calls Try.prog 92 #[.string t] w fun e w' => ∃ x0 x1 x2 B3 n3 c3 B4 n4 c4, e = .returned (.tuple #[.agg #[.int .i64 x0, .string x1, .string x2, .slice B3 n3 c3, .slice B4 n4 c4], .int .i64 c]) ∧ Below w.heap.size w w' := by
 subst ht
 subst hc
 refine (parse92 w (notsB n) (by have := nots_len n; omega)).mono ?_
 rintro e w' ⟨hb, h⟩
 obtain ⟨p1, p2, p3⟩ := parse_nots n hn
 rw [p1] at h
 rcases h with ⟨h1, rfl⟩ | ⟨h1, h2, rfl⟩ | ⟨m, A3, c3, A4, c4, h1, h2, rfl, -⟩
 ·have := of_decide_eq_true h1
  exact ⟨0, _, _, none, 0, 0, none, 0, 0, by unfold codeD; rw [if_neg (by omega), if_pos this], hb⟩
 ·have := of_decide_eq_false h1
  have h8 : n = 8 := by
   rcases Nat.lt_or_ge n 8 with h | h
   ·rw [p3 h] at h2; cases h2
   ·omega
  exact ⟨0, _, _, none, 0, 0, none, 0, 0, by unfold codeD; rw [if_pos h8], hb⟩
 ·have := of_decide_eq_false h1
  have h8 : n < 8 := by
   rcases Nat.lt_or_ge n 8 with h | h
   ·exact h
   ·rw [p2 (by omega)] at h2; cases h2
  exact ⟨_, _, _, _, _, _, _, _, _, by unfold codeD; rw [if_neg (by omega), if_neg (by omega)], hb⟩
/-- a matcher of nots in memory -/
theorem nots_kid {W : World} {X i : Nat} {A4 : Option Addr} {c4 lo : Nat} (hX : W.heap[X]? = some (.cells #[.int .i64 (nots i).f0, .string ⟨#[]⟩, .string ⟨#[]⟩, .slice none 0 0, .slice A4 (nots i).f4.length c4] 25 (0, 0))) (hM : MF W (fun b => lo ≤ b ∧ b < W.heap.size) (nots i) none 0 A4 c4) (hl : lo ≤ X) :
  MF W (fun b => lo ≤ b ∧ b < W.heap.size) (nots (i + 1)) none 0 (some ⟨X, 0, none⟩) 1 := by
 intro Y hY
 have hx := (hY X ⟨hl, blk_lt hX⟩).trans hX
 obtain ⟨q1, q2, q3, q4⟩ := hM Y hY
 refine ⟨Nat.le_refl _, Kd.C_nil _ _, Nat.le_refl _, ?_⟩
 have e1 : (nots i).f1 = ⟨#[]⟩ ∧ (nots i).f2 = ⟨#[]⟩ ∧ (nots i).f3 = [] := by cases i <;> exact ⟨rfl, rfl, rfl⟩
 have hk := k25_mk Y (nots i) q1 q2 q3 q4
 rw [e1.1, e1.2.1, e1.2.2] at hk
 exact C_one' (d := k25) (t := 25) (cs := [.int .i64 (nots i).f0, .string ⟨#[]⟩, .string ⟨#[]⟩, .slice none 0 0, .slice A4 (nots i).f4.length c4]) hx hk
end Go.Proofs.Yteafilojjdfllaa
end
section
namespace Go.Proofs.Yteafilojjdfllaa.PAll
open Go.RowKit Go.Proofs.YteafilojjdfllaaW.PrintWords Go.Proofs.YteafilojjdfllaaW.PrintLast Go.Proofs.YteafilojjdfllaaW.PrintMore
attribute [local go_sem] max2_int min2_int max_two min_two max_three min_three max_four min_four   -- for this text's walks alone
set_option linter.unusedVariables false
set_option linter.unusedSimpArgs false
def tomb_meets.f (a0_0 : Int) (a0_1 : Int) (a0_2 : ByteArray) (a0_3 : ByteArray) (l0_4 : List ByteArray) (l0_5 : List (S25)) (a0_6 : Int) (a0_7 : Int) (a1 : Int) : Option (Bool) := if a1 < 0 then (some false) else (if a1 > 127258290 then (some false) else (if a0_6 ≥ a0_7 then (some false) else (if a0_6 < (wrap64 ((wrap64 (a1 + 1)) * 8640)) then (some (decide (a0_7 > (wrap64 (a1 * 8640))))) else (some false))))
set_option maxHeartbeats 8000000 in
set_option maxRecDepth 100000 in
theorem tomb_meets.calls (a0_0 : Int) (a0_1 : Int) (a0_2 : ByteArray) (a0_3 : ByteArray) (A0_4 : Option Addr) (c0_4 : Nat) (l0_4 : List ByteArray) (A0_5 : Option Addr) (c0_5 : Nat) (l0_5 : List (S25)) (a0_6 : Int) (a0_7 : Int) (a1 : Int) (r : Bool) (w : World) (hr0_4 : Kd.C Kd.string w A0_4 l0_4.length l0_4) (hc0_4 : l0_4.length ≤ c0_4) (hr0_5 : Kd.C k25 w A0_5 l0_5.length l0_5) (hc0_5 : l0_5.length ≤ c0_5) (h : tomb_meets.f a0_0 a0_1 a0_2 a0_3 l0_4 l0_5 a0_6 a0_7 a1 = some r) :
  Calls Try.prog 103 #[.agg #[.int .i64 a0_0, .int .i64 a0_1, .string a0_2, .string a0_3, .slice A0_4 l0_4.length c0_4, .slice A0_5 l0_5.length c0_5, .int .i64 a0_6, .int .i64 a0_7], .int .i64 a1] w fun e w' => e = .returned (.bool r) ∧ Below w.heap.size w w' := by
 have hu27 := Try.underlying27
 have HR0_4 := Aside0.mk hr0_4
 have HC0_4 := Aside0.mk hc0_4
 clear hr0_4 hc0_4
 have HR0_5 := Aside0.mk hr0_5
 have HC0_5 := Aside0.mk hc0_5
 clear hr0_5 hc0_5
 have HB := Aside0.mk (Below.refl w.heap.size w)
 have H : (if a1 < 0 then (some false) else (if a1 > 127258290 then (some false) else (if a0_6 ≥ a0_7 then (some false) else (if a0_6 < (wrap64 ((wrap64 (a1 + 1)) * 8640)) then (some (decide (a0_7 > (wrap64 (a1 * 8640))))) else (some false))))) = some r := h
 clear h
 by_cases c3 : a1 < 0
 ·rw [if_pos c3] at H
  have c3b0 : decide (a1 < 0) = true := decide_eq_true c3
  clear c3
  obtain rfl := Option.some.inj H
  go_enter Try.func103, Try.ntmps103
  go_wp2_with (first | ((with_reducible refine gate_dst (N := 2) rfl ?_); refine box_event ?hg (N := 2) ?hd (cs := #[.int .i64 a0_0, .int .i64 a0_1, .string a0_2, .string a0_3, .slice A0_4 l0_4.length c0_4, .slice A0_5 l0_5.length c0_5, .int .i64 a0_6, .int .i64 a0_7]) (t := 27) ?hr ?_; (case hd => rfl); (case hg => rfl); (case hr => first | (go_simp; done) | (go_simp; rfl)); intro gb134 hg w4 hbox hb; have n0_ := Aside0.mk (below_step (by repeat (first | (with_reducible first | exact HB.out | apply below_alloc | apply pw_below_drewN | apply below_drew1) | exact HB.out)) hb); have n1_ := Aside0.mk (hbox); have n2_ := Aside0.mk ((by rw [hg]; exact (below_size (by repeat (first | (with_reducible first | exact HB.out | apply below_alloc | apply pw_below_drewN | apply below_drew1) | exact HB.out))) : w.heap.size ≤ gb134)); have n3_ := Aside0.mk ((by rw [hg]; exact (below_size (by repeat (first | (with_reducible first | exact HB.out | apply below_alloc | apply pw_below_drewN | apply below_drew1) | exact HB.out))) : w.heap.size ≤ gb134)); clear HB; have HB := n0_; have BK134 := n1_; have GW134 := n2_; have GE134 := n3_; clear n0_ n1_ n2_ n3_; clear hb hbox hg))
  go_ret
  exact ⟨by first | rfl | (simp [errW_none, errW_some] <;> rfl) | (simp [*, errW_none, errW_some] <;> rfl), by repeat (first | (with_reducible first | exact HB.out | apply below_alloc | apply pw_below_drewN | apply below_drew1 | refine below_set ?_ GE134.out) | exact HB.out)⟩
 ·rw [if_neg c3] at H
  have c3b0 : decide (a1 < 0) = false := decide_eq_false c3
  clear c3
  by_cases c5 : a1 > 127258290
  ·rw [if_pos c5] at H
   have c5b0 : decide (127258290 < a1) = true := decide_eq_true c5
   clear c5
   obtain rfl := Option.some.inj H
   go_enter Try.func103, Try.ntmps103
   go_wp2_with (first | ((with_reducible refine gate_dst (N := 2) rfl ?_); refine box_event ?hg (N := 2) ?hd (cs := #[.int .i64 a0_0, .int .i64 a0_1, .string a0_2, .string a0_3, .slice A0_4 l0_4.length c0_4, .slice A0_5 l0_5.length c0_5, .int .i64 a0_6, .int .i64 a0_7]) (t := 27) ?hr ?_; (case hd => rfl); (case hg => rfl); (case hr => first | (go_simp; done) | (go_simp; rfl)); intro gb134 hg w6 hbox hb; have n0_ := Aside0.mk (below_step (by repeat (first | (with_reducible first | exact HB.out | apply below_alloc | apply pw_below_drewN | apply below_drew1) | exact HB.out)) hb); have n1_ := Aside0.mk (hbox); have n2_ := Aside0.mk ((by rw [hg]; exact (below_size (by repeat (first | (with_reducible first | exact HB.out | apply below_alloc | apply pw_below_drewN | apply below_drew1) | exact HB.out))) : w.heap.size ≤ gb134)); have n3_ := Aside0.mk ((by rw [hg]; exact (below_size (by repeat (first | (with_reducible first | exact HB.out | apply below_alloc | apply pw_below_drewN | apply below_drew1) | exact HB.out))) : w.heap.size ≤ gb134)); clear HB; have HB := n0_; have BK134 := n1_; have GW134 := n2_; have GE134 := n3_; clear n0_ n1_ n2_ n3_; clear hb hbox hg))
   go_ret
   exact ⟨by first | rfl | (simp [errW_none, errW_some] <;> rfl) | (simp [*, errW_none, errW_some] <;> rfl), by repeat (first | (with_reducible first | exact HB.out | apply below_alloc | apply pw_below_drewN | apply below_drew1 | refine below_set ?_ GE134.out) | exact HB.out)⟩
  ·rw [if_neg c5] at H
   have c5b0 : decide (127258290 < a1) = false := decide_eq_false c5
   clear c5
   by_cases c7 : a0_6 ≥ a0_7
   ·rw [if_pos c7] at H
    have c7b0 : decide (a0_7 ≤ a0_6) = true := decide_eq_true c7
    clear c7
    obtain rfl := Option.some.inj H
    go_enter Try.func103, Try.ntmps103
    go_wp2_with (first | ((with_reducible refine gate_dst (N := 2) rfl ?_); refine box_event ?hg (N := 2) ?hd (cs := #[.int .i64 a0_0, .int .i64 a0_1, .string a0_2, .string a0_3, .slice A0_4 l0_4.length c0_4, .slice A0_5 l0_5.length c0_5, .int .i64 a0_6, .int .i64 a0_7]) (t := 27) ?hr ?_; (case hd => rfl); (case hg => rfl); (case hr => first | (go_simp; done) | (go_simp; rfl)); intro gb134 hg w8 hbox hb; have n0_ := Aside0.mk (below_step (by repeat (first | (with_reducible first | exact HB.out | apply below_alloc | apply pw_below_drewN | apply below_drew1) | exact HB.out)) hb); have n1_ := Aside0.mk (hbox); have n2_ := Aside0.mk ((by rw [hg]; exact (below_size (by repeat (first | (with_reducible first | exact HB.out | apply below_alloc | apply pw_below_drewN | apply below_drew1) | exact HB.out))) : w.heap.size ≤ gb134)); have n3_ := Aside0.mk ((by rw [hg]; exact (below_size (by repeat (first | (with_reducible first | exact HB.out | apply below_alloc | apply pw_below_drewN | apply below_drew1) | exact HB.out))) : w.heap.size ≤ gb134)); clear HB; have HB := n0_; have BK134 := n1_; have GW134 := n2_; have GE134 := n3_; clear n0_ n1_ n2_ n3_; clear hb hbox hg; have hcz9_0 : w8.cell? ⟨gb134, 0, none⟩ = some (.int .i64 a0_0) := (blk_cell BK134.out 0).trans rfl; have hcz9_1 : w8.cell? ⟨gb134, 1, none⟩ = some (.int .i64 a0_1) := (blk_cell BK134.out 1).trans rfl; have hcz9_2 : w8.cell? ⟨gb134, 2, none⟩ = some (.string a0_2) := (blk_cell BK134.out 2).trans rfl; have hcz9_3 : w8.cell? ⟨gb134, 3, none⟩ = some (.string a0_3) := (blk_cell BK134.out 3).trans rfl; have hcz9_4 : w8.cell? ⟨gb134, 4, none⟩ = some (.slice A0_4 l0_4.length c0_4) := (blk_cell BK134.out 4).trans rfl; have hcz9_5 : w8.cell? ⟨gb134, 5, none⟩ = some (.slice A0_5 l0_5.length c0_5) := (blk_cell BK134.out 5).trans rfl; have hcz9_6 : w8.cell? ⟨gb134, 6, none⟩ = some (.int .i64 a0_6) := (blk_cell BK134.out 6).trans rfl; have hcz9_7 : w8.cell? ⟨gb134, 7, none⟩ = some (.int .i64 a0_7) := (blk_cell BK134.out 7).trans rfl; have hfz9_0 := blk_frozen BK134.out 0; have hfz9_1 := blk_frozen BK134.out 1; have hfz9_2 := blk_frozen BK134.out 2; have hfz9_3 := blk_frozen BK134.out 3; have hfz9_4 := blk_frozen BK134.out 4; have hfz9_5 := blk_frozen BK134.out 5; have hfz9_6 := blk_frozen BK134.out 6; have hfz9_7 := blk_frozen BK134.out 7))
    go_ret
    exact ⟨by first | rfl | (simp [errW_none, errW_some] <;> rfl) | (simp [*, errW_none, errW_some] <;> rfl), by repeat (first | (with_reducible first | exact HB.out | apply below_alloc | apply pw_below_drewN | apply below_drew1 | refine below_set ?_ GE134.out) | exact HB.out)⟩
   ·rw [if_neg c7] at H
    have c7b0 : decide (a0_7 ≤ a0_6) = false := decide_eq_false c7
    clear c7
    by_cases c10 : a0_6 < (wrap64 ((wrap64 (a1 + 1)) * 8640))
    ·rw [if_pos c10] at H
     have c10b0 : decide (a0_6 < (wrap64 ((wrap64 (a1 + 1)) * 8640))) = true := decide_eq_true c10
     clear c10
     obtain rfl := Option.some.inj H
     go_enter Try.func103, Try.ntmps103
     go_wp2_with (first | ((with_reducible refine gate_dst (N := 2) rfl ?_); refine box_event ?hg (N := 2) ?hd (cs := #[.int .i64 a0_0, .int .i64 a0_1, .string a0_2, .string a0_3, .slice A0_4 l0_4.length c0_4, .slice A0_5 l0_5.length c0_5, .int .i64 a0_6, .int .i64 a0_7]) (t := 27) ?hr ?_; (case hd => rfl); (case hg => rfl); (case hr => first | (go_simp; done) | (go_simp; rfl)); intro gb134 hg w11 hbox hb; have n0_ := Aside0.mk (below_step (by repeat (first | (with_reducible first | exact HB.out | apply below_alloc | apply pw_below_drewN | apply below_drew1) | exact HB.out)) hb); have n1_ := Aside0.mk (hbox); have n2_ := Aside0.mk ((by rw [hg]; exact (below_size (by repeat (first | (with_reducible first | exact HB.out | apply below_alloc | apply pw_below_drewN | apply below_drew1) | exact HB.out))) : w.heap.size ≤ gb134)); have n3_ := Aside0.mk ((by rw [hg]; exact (below_size (by repeat (first | (with_reducible first | exact HB.out | apply below_alloc | apply pw_below_drewN | apply below_drew1) | exact HB.out))) : w.heap.size ≤ gb134)); clear HB; have HB := n0_; have BK134 := n1_; have GW134 := n2_; have GE134 := n3_; clear n0_ n1_ n2_ n3_; clear hb hbox hg; have hcz12_0 : w11.cell? ⟨gb134, 0, none⟩ = some (.int .i64 a0_0) := (blk_cell BK134.out 0).trans rfl; have hcz12_1 : w11.cell? ⟨gb134, 1, none⟩ = some (.int .i64 a0_1) := (blk_cell BK134.out 1).trans rfl; have hcz12_2 : w11.cell? ⟨gb134, 2, none⟩ = some (.string a0_2) := (blk_cell BK134.out 2).trans rfl; have hcz12_3 : w11.cell? ⟨gb134, 3, none⟩ = some (.string a0_3) := (blk_cell BK134.out 3).trans rfl; have hcz12_4 : w11.cell? ⟨gb134, 4, none⟩ = some (.slice A0_4 l0_4.length c0_4) := (blk_cell BK134.out 4).trans rfl; have hcz12_5 : w11.cell? ⟨gb134, 5, none⟩ = some (.slice A0_5 l0_5.length c0_5) := (blk_cell BK134.out 5).trans rfl; have hcz12_6 : w11.cell? ⟨gb134, 6, none⟩ = some (.int .i64 a0_6) := (blk_cell BK134.out 6).trans rfl; have hcz12_7 : w11.cell? ⟨gb134, 7, none⟩ = some (.int .i64 a0_7) := (blk_cell BK134.out 7).trans rfl; have hfz12_0 := blk_frozen BK134.out 0; have hfz12_1 := blk_frozen BK134.out 1; have hfz12_2 := blk_frozen BK134.out 2; have hfz12_3 := blk_frozen BK134.out 3; have hfz12_4 := blk_frozen BK134.out 4; have hfz12_5 := blk_frozen BK134.out 5; have hfz12_6 := blk_frozen BK134.out 6; have hfz12_7 := blk_frozen BK134.out 7))
     go_ret
     exact ⟨by first | rfl | (simp [errW_none, errW_some] <;> rfl) | (simp [*, errW_none, errW_some] <;> rfl), by repeat (first | (with_reducible first | exact HB.out | apply below_alloc | apply pw_below_drewN | apply below_drew1 | refine below_set ?_ GE134.out) | exact HB.out)⟩
    ·rw [if_neg c10] at H
     have c10b0 : decide (a0_6 < (wrap64 ((wrap64 (a1 + 1)) * 8640))) = false := decide_eq_false c10
     clear c10
     obtain rfl := Option.some.inj H
     go_enter Try.func103, Try.ntmps103
     go_wp2_with (first | ((with_reducible refine gate_dst (N := 2) rfl ?_); refine box_event ?hg (N := 2) ?hd (cs := #[.int .i64 a0_0, .int .i64 a0_1, .string a0_2, .string a0_3, .slice A0_4 l0_4.length c0_4, .slice A0_5 l0_5.length c0_5, .int .i64 a0_6, .int .i64 a0_7]) (t := 27) ?hr ?_; (case hd => rfl); (case hg => rfl); (case hr => first | (go_simp; done) | (go_simp; rfl)); intro gb134 hg w13 hbox hb; have n0_ := Aside0.mk (below_step (by repeat (first | (with_reducible first | exact HB.out | apply below_alloc | apply pw_below_drewN | apply below_drew1) | exact HB.out)) hb); have n1_ := Aside0.mk (hbox); have n2_ := Aside0.mk ((by rw [hg]; exact (below_size (by repeat (first | (with_reducible first | exact HB.out | apply below_alloc | apply pw_below_drewN | apply below_drew1) | exact HB.out))) : w.heap.size ≤ gb134)); have n3_ := Aside0.mk ((by rw [hg]; exact (below_size (by repeat (first | (with_reducible first | exact HB.out | apply below_alloc | apply pw_below_drewN | apply below_drew1) | exact HB.out))) : w.heap.size ≤ gb134)); clear HB; have HB := n0_; have BK134 := n1_; have GW134 := n2_; have GE134 := n3_; clear n0_ n1_ n2_ n3_; clear hb hbox hg; have hcz14_0 : w13.cell? ⟨gb134, 0, none⟩ = some (.int .i64 a0_0) := (blk_cell BK134.out 0).trans rfl; have hcz14_1 : w13.cell? ⟨gb134, 1, none⟩ = some (.int .i64 a0_1) := (blk_cell BK134.out 1).trans rfl; have hcz14_2 : w13.cell? ⟨gb134, 2, none⟩ = some (.string a0_2) := (blk_cell BK134.out 2).trans rfl; have hcz14_3 : w13.cell? ⟨gb134, 3, none⟩ = some (.string a0_3) := (blk_cell BK134.out 3).trans rfl; have hcz14_4 : w13.cell? ⟨gb134, 4, none⟩ = some (.slice A0_4 l0_4.length c0_4) := (blk_cell BK134.out 4).trans rfl; have hcz14_5 : w13.cell? ⟨gb134, 5, none⟩ = some (.slice A0_5 l0_5.length c0_5) := (blk_cell BK134.out 5).trans rfl; have hcz14_6 : w13.cell? ⟨gb134, 6, none⟩ = some (.int .i64 a0_6) := (blk_cell BK134.out 6).trans rfl; have hcz14_7 : w13.cell? ⟨gb134, 7, none⟩ = some (.int .i64 a0_7) := (blk_cell BK134.out 7).trans rfl; have hfz14_0 := blk_frozen BK134.out 0; have hfz14_1 := blk_frozen BK134.out 1; have hfz14_2 := blk_frozen BK134.out 2; have hfz14_3 := blk_frozen BK134.out 3; have hfz14_4 := blk_frozen BK134.out 4; have hfz14_5 := blk_frozen BK134.out 5; have hfz14_6 := blk_frozen BK134.out 6; have hfz14_7 := blk_frozen BK134.out 7))
     go_ret
     exact ⟨by first | rfl | (simp [errW_none, errW_some] <;> rfl) | (simp [*, errW_none, errW_some] <;> rfl), by repeat (first | (with_reducible first | exact HB.out | apply below_alloc | apply pw_below_drewN | apply below_drew1 | refine below_set ?_ GE134.out) | exact HB.out)⟩
end Go.Proofs.Yteafilojjdfllaa.PAll
end
section
namespace Go.Proofs.Yteafilojjdfllaa.PAll
open Go.RowKit Go.Proofs.YteafilojjdfllaaW.PrintWords Go.Proofs.YteafilojjdfllaaW.PrintLast Go.Proofs.YteafilojjdfllaaW.PrintMore
attribute [local go_sem] max2_int min2_int max_two min_two max_three min_three max_four min_four   -- for this text's walks alone
set_option linter.unusedVariables false
set_option linter.unusedSimpArgs false
def tomb_Needs.l0 : Nat → List (S27) → Int → Int → Int → Int → Int → Int → Int → Int → Int → Option (Bool)
 | 0, _, _, _, _, _, _, _, _, _, _ => none
 | k + 1, x7, x8, x9, x136000, x136001, x136002, x136003, x136004, x136005, x136006 => if x9 < x8 then (if 0 ≤ x9 then (if x9 < (x7.length : Int) then (if ((rd_T27 x7 x9).f0) > x136005 then ((tomb_meets.f ((rd_T27 x7 x9).f0) ((rd_T27 x7 x9).f1.f0) ((rd_T27 x7 x9).f1.f1) ((rd_T27 x7 x9).f1.f2) ((rd_T27 x7 x9).f1.f3) ((rd_T27 x7 x9).f1.f4) ((rd_T27 x7 x9).f2) ((rd_T27 x7 x9).f3) x136002).bind fun t138 => (if t138 = true then (some true) else (tomb_Needs.l0 k x7 x8 (wrap64 (x9 + 1)) x136000 x136001 x136002 x136003 x136004 x136005 x136006))) else (tomb_Needs.l0 k x7 x8 (wrap64 (x9 + 1)) x136000 x136001 x136002 x136003 x136004 x136005 x136006)) else (none)) else (none)) else (some false)
def tomb_Needs.f (k : Nat) (a0_0 : Int) (a0_1 : Int) (a0_2 : Int) (a0_3 : Int) (a0_4 : Int) (a0_5 : Int) (a0_6 : Int) (l1 : List (S27)) : Option (Bool) := tomb_Needs.l0 k l1 (l1.length : Int) 0 a0_0 a0_1 a0_2 a0_3 a0_4 a0_5 a0_6
set_option maxHeartbeats 8000000 in
set_option maxRecDepth 100000 in
theorem tomb_Needs.calls (k : Nat) (a0_0 : Int) (a0_1 : Int) (a0_2 : Int) (a0_3 : Int) (a0_4 : Int) (a0_5 : Int) (a0_6 : Int) (A1 : Option Addr) (c1 : Nat) (l1 : List (S27)) (r : Bool) (w : World) (hr1 : Kd.C k27 w A1 l1.length l1) (hc1 : l1.length ≤ c1) (h : tomb_Needs.f k a0_0 a0_1 a0_2 a0_3 a0_4 a0_5 a0_6 l1 = some r) :
  Calls Try.prog 47 #[.agg #[.int .i64 a0_0, .int .i64 a0_1, .int .i64 a0_2, .int .i64 a0_3, .int .i64 a0_4, .int .i64 a0_5, .int .i64 a0_6], .slice A1 l1.length c1] w fun e w' => e = .returned (.bool r) ∧ Below w.heap.size w w' := by
 have hu58 := Try.underlying58
 have hu27 := Try.underlying27
 have HR1 := Aside0.mk hr1
 have HC1 := Aside0.mk hc1
 clear hr1 hc1
 have HB := Aside0.mk (Below.refl w.heap.size w)
 have H : (tomb_Needs.l0 k l1 (l1.length : Int) 0 a0_0 a0_1 a0_2 a0_3 a0_4 a0_5 a0_6) = some r := h
 clear h
 have H' := Aside0.mk H
 clear H
 go_enter Try.func47, Try.ntmps47
 go_wp2_with (first | ((with_reducible refine gate_dst (N := 2) rfl ?_); refine box_event ?hg (N := 2) ?hd (cs := #[.int .i64 a0_0, .int .i64 a0_1, .int .i64 a0_2, .int .i64 a0_3, .int .i64 a0_4, .int .i64 a0_5, .int .i64 a0_6]) (t := 58) ?hr ?_; (case hd => rfl); (case hg => rfl); (case hr => first | (go_simp; done) | (go_simp; rfl)); intro gb135 hg w3 hbox hb; have n0_ := Aside0.mk (below_step (by repeat (first | (with_reducible first | exact HB.out | apply below_alloc | apply pw_below_drewN | apply below_drew1) | exact HB.out)) hb); have n1_ := Aside0.mk (hbox); have n2_ := Aside0.mk ((by rw [hg]; exact (below_size (by repeat (first | (with_reducible first | exact HB.out | apply below_alloc | apply pw_below_drewN | apply below_drew1) | exact HB.out))) : w.heap.size ≤ gb135)); have n3_ := Aside0.mk ((by rw [hg]; exact (below_size (by repeat (first | (with_reducible first | exact HB.out | apply below_alloc | apply pw_below_drewN | apply below_drew1) | exact HB.out))) : w.heap.size ≤ gb135)); clear HB; have HB := n0_; have BK135 := n1_; have GW135 := n2_; have GE135 := n3_; clear n0_ n1_ n2_ n3_; clear hb hbox hg))
 go_loopg [9] k (fun kq v9 w' => ∃ (x9_1 : Int), v9 = .int .i64 x9_1 ∧ Aside0 (tomb_Needs.l0 kq l1 (l1.length : Int) x9_1 a0_0 a0_1 a0_2 a0_3 a0_4 a0_5 a0_6 = some r) ∧ Aside0 (kq ≤ k) ∧ Aside0 (w'.heap[gb135]? = some (.cells #[.int .i64 a0_0, .int .i64 a0_1, .int .i64 a0_2, .int .i64 a0_3, .int .i64 a0_4, .int .i64 a0_5, .int .i64 a0_6] 58 (0, 0))) ∧ Aside0 (Below w.heap.size w w'))
 case atStart => exact ⟨(0), (by first | rfl | (simp; done) | (simp [*]; done)), H', ⟨Nat.le_refl _⟩, ⟨by (with_reducible repeat (first | refine blk_drewN ?_ _ | refine blk_drew ?_ | refine blk_alloc ?_ _)); exact BK135.out⟩, ⟨by repeat (first | (with_reducible first | exact HB.out | apply below_alloc | apply pw_below_drewN | apply below_drew1 | refine below_set ?_ GE135.out) | exact HB.out)⟩⟩
 case round =>
  clear H'
  try clear c1
  try clear p2
  obtain ⟨x9_1, rfl, HA, HK1, BK135, HB⟩ := hrel
  cases gk with
  | zero => exact absurd HA.out (by simp [tomb_Needs.l0])
  | succ k1 =>
   have H := HA.out
   clear HA
   simp only [tomb_Needs.l0] at H
   by_cases c4 : x9_1 < (l1.length : Int)
   ·rw [if_pos c4] at H
    have c4b0 : decide (x9_1 < (l1.length : Int)) = true := decide_eq_true c4
    clear c4
    by_cases c5 : 0 ≤ x9_1
    ·rw [if_pos c5] at H
     have c5b0 : decide (0 ≤ x9_1) = true := decide_eq_true c5
     clear c5
     by_cases c6 : x9_1 < (l1.length : Int)
     ·rw [if_pos c6] at H
      have c6b0 : decide (x9_1 < (l1.length : Int)) = true := decide_eq_true c6
      clear c6
      by_cases c7 : ((rd_T27 l1 x9_1).f0) > a0_5
      ·rw [if_pos c7] at H
       have c7b0 : decide (a0_5 < ((rd_T27 l1 x9_1).f0)) = true := decide_eq_true c7
       clear c7
       replace H := Option.bind_eq_some_iff.mp H
       obtain ⟨t138, A80, H⟩ := H
       replace H : (if t138 = true then (some true) else (tomb_Needs.l0 k1 l1 (l1.length : Int) (wrap64 (x9_1 + 1)) a0_0 a0_1 a0_2 a0_3 a0_4 a0_5 a0_6)) = some r := H
       have A8 := Aside0.mk A80
       clear A80
       by_cases c9 : t138 = true
       ·subst c9
        have H1 : (some true) = some r := by rw [if_pos rfl] at H; exact H
        clear H
        have H := H1
        clear H1
        obtain rfl := Option.some.inj H
        have p136 : 0 ≤ (x9_1 : Int) := of_decide_eq_true (by first | (with_reducible assumption) | assumption)
        have q136 : x9_1 < (l1.length : Int) := of_decide_eq_true (by first | (with_reducible assumption) | assumption)
        obtain ⟨ad136, A136_4, c136_4, A136_5, c136_5, e136, hx136_0, hx136_1, hx136_2, hx136_3, hx136_4, hx136_5, hx136_6, hx136_7, hl136_4, hi136_4, hl136_5, hi136_5⟩ := at_T27 HR1.out x9_1 p136 q136
        cases e136
        replace hx136_0 := (HB.out.cell (World.block_lt_of_cell? w _ hx136_0)).trans hx136_0
        replace hx136_1 := (HB.out.cell (World.block_lt_of_cell? w _ hx136_1)).trans hx136_1
        replace hx136_2 := (HB.out.cell (World.block_lt_of_cell? w _ hx136_2)).trans hx136_2
        replace hx136_3 := (HB.out.cell (World.block_lt_of_cell? w _ hx136_3)).trans hx136_3
        replace hx136_4 := (HB.out.cell (World.block_lt_of_cell? w _ hx136_4)).trans hx136_4
        replace hx136_5 := (HB.out.cell (World.block_lt_of_cell? w _ hx136_5)).trans hx136_5
        replace hx136_6 := (HB.out.cell (World.block_lt_of_cell? w _ hx136_6)).trans hx136_6
        replace hx136_7 := (HB.out.cell (World.block_lt_of_cell? w _ hx136_7)).trans hx136_7
        have HR136_4 := Aside0.mk hi136_4
        have HC136_4 := Aside0.mk hl136_4
        clear hi136_4 hl136_4
        have HR136_5 := Aside0.mk hi136_5
        have HC136_5 := Aside0.mk hl136_5
        clear hi136_5 hl136_5
        replace p136 := eq_true p136
        replace q136 := eq_true q136
        go_wp2_with (first | ((with_reducible refine gate_dst (N := 6) rfl ?_); refine box_event ?hg (N := 6) ?hd (cs := #[.int .i64 0, .int .i64 0, .string (⟨#[]⟩ : ByteArray), .string (⟨#[]⟩ : ByteArray), .slice none 0 0, .slice none 0 0, .int .i64 0, .int .i64 0]) (t := 27) ?hr ?_; (case hd => rfl); (case hg => rfl); (case hr => first | (go_simp; done) | (go_simp; rfl)); intro gb137 hg w10 hbox hb; have n0_ := Aside0.mk (blk_below (g := gb135) (o := .cells #[.int .i64 a0_0, .int .i64 a0_1, .int .i64 a0_2, .int .i64 a0_3, .int .i64 a0_4, .int .i64 a0_5, .int .i64 a0_6] 58 (0, 0)) (by (with_reducible repeat (first | refine blk_drewN ?_ _ | refine blk_drew ?_ | refine blk_alloc ?_ _)); exact BK135.out) hb); have n1_ := Aside0.mk (below_step (by repeat (first | (with_reducible first | exact HB.out | apply below_alloc | apply pw_below_drewN | apply below_drew1 | refine below_set ?_ GE135.out) | exact HB.out)) hb); have n2_ := Aside0.mk (hbox); have n3_ := Aside0.mk ((by rw [hg]; exact (below_size (by repeat (first | (with_reducible first | exact HB.out | apply below_alloc | apply pw_below_drewN | apply below_drew1 | refine below_set ?_ GE135.out) | exact HB.out))) : w.heap.size ≤ gb137)); have n4_ := Aside0.mk ((by rw [hg]; exact (below_size (by repeat (first | (with_reducible first | exact HB.out | apply below_alloc | apply pw_below_drewN | apply below_drew1 | refine below_set ?_ GE135.out) | exact HB.out))) : w.heap.size ≤ gb137)); have n5_ := Aside0.mk ((by rw [hg]; exact Nat.ne_of_lt (blk_lt (g := gb135) (o := .cells #[.int .i64 a0_0, .int .i64 a0_1, .int .i64 a0_2, .int .i64 a0_3, .int .i64 a0_4, .int .i64 a0_5, .int .i64 a0_6] 58 (0, 0)) (by (with_reducible repeat (first | refine blk_drewN ?_ _ | refine blk_drew ?_ | refine blk_alloc ?_ _)); exact BK135.out)) : gb135 ≠ gb137)); have n6_ := Aside0.mk ((by rw [hg]; exact Nat.ne_of_gt (blk_lt (g := gb135) (o := .cells #[.int .i64 a0_0, .int .i64 a0_1, .int .i64 a0_2, .int .i64 a0_3, .int .i64 a0_4, .int .i64 a0_5, .int .i64 a0_6] 58 (0, 0)) (by (with_reducible repeat (first | refine blk_drewN ?_ _ | refine blk_drew ?_ | refine blk_alloc ?_ _)); exact BK135.out)) : gb137 ≠ gb135)); clear BK135; clear HB; have BK135 := n0_; have HB := n1_; have BK137 := n2_; have GW137 := n3_; have GE137 := n4_; have NB135_137 := n5_; have NB137_135 := n6_; clear n0_ n1_ n2_ n3_ n4_ n5_ n6_; clear hb hbox hg; have hnb11 := NB137_135.out; have hnc11 := NB135_137.out; have hcz12_0 : w10.cell? ⟨gb137, 0, none⟩ = some (.int .i64 0) := (blk_cell BK137.out 0).trans rfl; have hcz12_1 : w10.cell? ⟨gb137, 1, none⟩ = some (.int .i64 0) := (blk_cell BK137.out 1).trans rfl; have hcz12_2 : w10.cell? ⟨gb137, 2, none⟩ = some (.string (⟨#[]⟩ : ByteArray)) := (blk_cell BK137.out 2).trans rfl; have hcz12_3 : w10.cell? ⟨gb137, 3, none⟩ = some (.string (⟨#[]⟩ : ByteArray)) := (blk_cell BK137.out 3).trans rfl; have hcz12_4 : w10.cell? ⟨gb137, 4, none⟩ = some (.slice none 0 0) := (blk_cell BK137.out 4).trans rfl; have hcz12_5 : w10.cell? ⟨gb137, 5, none⟩ = some (.slice none 0 0) := (blk_cell BK137.out 5).trans rfl; have hcz12_6 : w10.cell? ⟨gb137, 6, none⟩ = some (.int .i64 0) := (blk_cell BK137.out 6).trans rfl; have hcz12_7 : w10.cell? ⟨gb137, 7, none⟩ = some (.int .i64 0) := (blk_cell BK137.out 7).trans rfl; have hfz12_0 := blk_frozen BK137.out 0; have hfz12_1 := blk_frozen BK137.out 1; have hfz12_2 := blk_frozen BK137.out 2; have hfz12_3 := blk_frozen BK137.out 3; have hfz12_4 := blk_frozen BK137.out 4; have hfz12_5 := blk_frozen BK137.out 5; have hfz12_6 := blk_frozen BK137.out 6; have hfz12_7 := blk_frozen BK137.out 7; have hcz13_0 : w10.cell? ⟨gb135, 0, none⟩ = some (.int .i64 a0_0) := (blk_cell BK135.out 0).trans rfl; have hcz13_1 : w10.cell? ⟨gb135, 1, none⟩ = some (.int .i64 a0_1) := (blk_cell BK135.out 1).trans rfl; have hcz13_2 : w10.cell? ⟨gb135, 2, none⟩ = some (.int .i64 a0_2) := (blk_cell BK135.out 2).trans rfl; have hcz13_3 : w10.cell? ⟨gb135, 3, none⟩ = some (.int .i64 a0_3) := (blk_cell BK135.out 3).trans rfl; have hcz13_4 : w10.cell? ⟨gb135, 4, none⟩ = some (.int .i64 a0_4) := (blk_cell BK135.out 4).trans rfl; have hcz13_5 : w10.cell? ⟨gb135, 5, none⟩ = some (.int .i64 a0_5) := (blk_cell BK135.out 5).trans rfl; have hcz13_6 : w10.cell? ⟨gb135, 6, none⟩ = some (.int .i64 a0_6) := (blk_cell BK135.out 6).trans rfl; have hfz13_0 := blk_frozen BK135.out 0; have hfz13_1 := blk_frozen BK135.out 1; have hfz13_2 := blk_frozen BK135.out 2; have hfz13_3 := blk_frozen BK135.out 3; have hfz13_4 := blk_frozen BK135.out 4; have hfz13_5 := blk_frozen BK135.out 5; have hfz13_6 := blk_frozen BK135.out 6) | (go_at_call 103; (with_reducible refine (tomb_meets.calls ((rd_T27 l1 x9_1).f0) ((rd_T27 l1 x9_1).f1.f0) ((rd_T27 l1 x9_1).f1.f1) ((rd_T27 l1 x9_1).f1.f2) _ _ ((rd_T27 l1 x9_1).f1.f3) _ _ ((rd_T27 l1 x9_1).f1.f4) ((rd_T27 l1 x9_1).f2) ((rd_T27 l1 x9_1).f3) a0_2 true _ ?side1 ?side2 ?side3 ?side4 A8.out).mono ?_); (case side1 => exact Kd.C_below HR136_4.out (by repeat (first | (with_reducible first | exact HB.out | apply below_alloc | apply pw_below_drewN | apply below_drew1 | refine below_set ?_ GE135.out | refine below_set ?_ GE137.out) | exact HB.out))); (case side2 => exact HC136_4.out); (case side3 => exact Kd.C_below HR136_5.out (by repeat (first | (with_reducible first | exact HB.out | apply below_alloc | apply pw_below_drewN | apply below_drew1 | refine below_set ?_ GE135.out | refine below_set ?_ GE137.out) | exact HB.out))); (case side4 => exact HC136_5.out); rintro e w14 ⟨rfl, hb⟩; have n0_ := Aside0.mk (blk_below (g := gb135) (o := .cells #[.int .i64 a0_0, .int .i64 a0_1, .int .i64 a0_2, .int .i64 a0_3, .int .i64 a0_4, .int .i64 a0_5, .int .i64 a0_6] 58 (0, 0)) (by (with_reducible repeat (first | refine blk_drewN ?_ _ | refine blk_drew ?_ | refine blk_alloc ?_ _)); refine blk_far ?_ NB135_137.out _; (with_reducible repeat (first | refine blk_drewN ?_ _ | refine blk_drew ?_ | refine blk_alloc ?_ _)); refine blk_far ?_ NB135_137.out _; (with_reducible repeat (first | refine blk_drewN ?_ _ | refine blk_drew ?_ | refine blk_alloc ?_ _)); refine blk_far ?_ NB135_137.out _; (with_reducible repeat (first | refine blk_drewN ?_ _ | refine blk_drew ?_ | refine blk_alloc ?_ _)); refine blk_far ?_ NB135_137.out _; (with_reducible repeat (first | refine blk_drewN ?_ _ | refine blk_drew ?_ | refine blk_alloc ?_ _)); refine blk_far ?_ NB135_137.out _; (with_reducible repeat (first | refine blk_drewN ?_ _ | refine blk_drew ?_ | refine blk_alloc ?_ _)); refine blk_far ?_ NB135_137.out _; (with_reducible repeat (first | refine blk_drewN ?_ _ | refine blk_drew ?_ | refine blk_alloc ?_ _)); refine blk_far ?_ NB135_137.out _; (with_reducible repeat (first | refine blk_drewN ?_ _ | refine blk_drew ?_ | refine blk_alloc ?_ _)); refine blk_far ?_ NB135_137.out _; (with_reducible repeat (first | refine blk_drewN ?_ _ | refine blk_drew ?_ | refine blk_alloc ?_ _)); exact BK135.out) hb); have n1_ := Aside0.mk (blk_below (g := gb137) (o := .cells #[.int .i64 ((rd_T27 l1 x9_1).f0), .int .i64 ((rd_T27 l1 x9_1).f1.f0), .string ((rd_T27 l1 x9_1).f1.f1), .string ((rd_T27 l1 x9_1).f1.f2), .slice A136_4 ((rd_T27 l1 x9_1).f1.f3).length c136_4, .slice A136_5 ((rd_T27 l1 x9_1).f1.f4).length c136_5, .int .i64 ((rd_T27 l1 x9_1).f2), .int .i64 ((rd_T27 l1 x9_1).f3)] 27 (0, 0)) (by (with_reducible repeat (first | refine blk_drewN ?_ _ | refine blk_drew ?_ | refine blk_alloc ?_ _)); refine blk_put (cs := #[.int .i64 ((rd_T27 l1 x9_1).f0), .int .i64 ((rd_T27 l1 x9_1).f1.f0), .string ((rd_T27 l1 x9_1).f1.f1), .string ((rd_T27 l1 x9_1).f1.f2), .slice A136_4 ((rd_T27 l1 x9_1).f1.f3).length c136_4, .slice A136_5 ((rd_T27 l1 x9_1).f1.f4).length c136_5, .int .i64 ((rd_T27 l1 x9_1).f2), .int .i64 0]) ?_ 7 _ rfl; (with_reducible repeat (first | refine blk_drewN ?_ _ | refine blk_drew ?_ | refine blk_alloc ?_ _)); refine blk_put (cs := #[.int .i64 ((rd_T27 l1 x9_1).f0), .int .i64 ((rd_T27 l1 x9_1).f1.f0), .string ((rd_T27 l1 x9_1).f1.f1), .string ((rd_T27 l1 x9_1).f1.f2), .slice A136_4 ((rd_T27 l1 x9_1).f1.f3).length c136_4, .slice A136_5 ((rd_T27 l1 x9_1).f1.f4).length c136_5, .int .i64 0, .int .i64 0]) ?_ 6 _ rfl; (with_reducible repeat (first | refine blk_drewN ?_ _ | refine blk_drew ?_ | refine blk_alloc ?_ _)); refine blk_put (cs := #[.int .i64 ((rd_T27 l1 x9_1).f0), .int .i64 ((rd_T27 l1 x9_1).f1.f0), .string ((rd_T27 l1 x9_1).f1.f1), .string ((rd_T27 l1 x9_1).f1.f2), .slice A136_4 ((rd_T27 l1 x9_1).f1.f3).length c136_4, .slice none 0 0, .int .i64 0, .int .i64 0]) ?_ 5 _ rfl; (with_reducible repeat (first | refine blk_drewN ?_ _ | refine blk_drew ?_ | refine blk_alloc ?_ _)); refine blk_put (cs := #[.int .i64 ((rd_T27 l1 x9_1).f0), .int .i64 ((rd_T27 l1 x9_1).f1.f0), .string ((rd_T27 l1 x9_1).f1.f1), .string ((rd_T27 l1 x9_1).f1.f2), .slice none 0 0, .slice none 0 0, .int .i64 0, .int .i64 0]) ?_ 4 _ rfl; (with_reducible repeat (first | refine blk_drewN ?_ _ | refine blk_drew ?_ | refine blk_alloc ?_ _)); refine blk_put (cs := #[.int .i64 ((rd_T27 l1 x9_1).f0), .int .i64 ((rd_T27 l1 x9_1).f1.f0), .string ((rd_T27 l1 x9_1).f1.f1), .string (⟨#[]⟩ : ByteArray), .slice none 0 0, .slice none 0 0, .int .i64 0, .int .i64 0]) ?_ 3 _ rfl; (with_reducible repeat (first | refine blk_drewN ?_ _ | refine blk_drew ?_ | refine blk_alloc ?_ _)); refine blk_put (cs := #[.int .i64 ((rd_T27 l1 x9_1).f0), .int .i64 ((rd_T27 l1 x9_1).f1.f0), .string (⟨#[]⟩ : ByteArray), .string (⟨#[]⟩ : ByteArray), .slice none 0 0, .slice none 0 0, .int .i64 0, .int .i64 0]) ?_ 2 _ rfl; (with_reducible repeat (first | refine blk_drewN ?_ _ | refine blk_drew ?_ | refine blk_alloc ?_ _)); refine blk_put (cs := #[.int .i64 ((rd_T27 l1 x9_1).f0), .int .i64 0, .string (⟨#[]⟩ : ByteArray), .string (⟨#[]⟩ : ByteArray), .slice none 0 0, .slice none 0 0, .int .i64 0, .int .i64 0]) ?_ 1 _ rfl; (with_reducible repeat (first | refine blk_drewN ?_ _ | refine blk_drew ?_ | refine blk_alloc ?_ _)); refine blk_put (cs := #[.int .i64 0, .int .i64 0, .string (⟨#[]⟩ : ByteArray), .string (⟨#[]⟩ : ByteArray), .slice none 0 0, .slice none 0 0, .int .i64 0, .int .i64 0]) ?_ 0 _ rfl; (with_reducible repeat (first | refine blk_drewN ?_ _ | refine blk_drew ?_ | refine blk_alloc ?_ _)); exact BK137.out) hb); have n2_ := Aside0.mk (below_step (by repeat (first | (with_reducible first | exact HB.out | apply below_alloc | apply pw_below_drewN | apply below_drew1 | refine below_set ?_ GE135.out | refine below_set ?_ GE137.out) | exact HB.out)) hb); clear BK135; clear BK137; clear HB; have BK135 := n0_; have BK137 := n1_; have HB := n2_; clear n0_ n1_ n2_; (try clear hb); (try clear hb2); (try clear hk); (try clear hi)))
        go_ret
        exact ⟨by first | rfl | (simp [errW_none, errW_some] <;> rfl) | (simp [*, errW_none, errW_some] <;> rfl), by repeat (first | (with_reducible first | exact HB.out | apply below_alloc | apply pw_below_drewN | apply below_drew1 | refine below_set ?_ GE135.out | refine below_set ?_ GE137.out) | exact HB.out)⟩
       ·replace c9 := Bool.eq_false_iff.mpr c9
        subst c9
        have H1 : (tomb_Needs.l0 k1 l1 (l1.length : Int) (wrap64 (x9_1 + 1)) a0_0 a0_1 a0_2 a0_3 a0_4 a0_5 a0_6) = some r := by rw [if_neg (show ¬ (false = true) by decide)] at H; exact H
        clear H
        have H := H1
        clear H1
        have H' := Aside0.mk H
        clear H
        have p136 : 0 ≤ (x9_1 : Int) := of_decide_eq_true (by first | (with_reducible assumption) | assumption)
        have q136 : x9_1 < (l1.length : Int) := of_decide_eq_true (by first | (with_reducible assumption) | assumption)
        obtain ⟨ad136, A136_4, c136_4, A136_5, c136_5, e136, hx136_0, hx136_1, hx136_2, hx136_3, hx136_4, hx136_5, hx136_6, hx136_7, hl136_4, hi136_4, hl136_5, hi136_5⟩ := at_T27 HR1.out x9_1 p136 q136
        cases e136
        replace hx136_0 := (HB.out.cell (World.block_lt_of_cell? w _ hx136_0)).trans hx136_0
        replace hx136_1 := (HB.out.cell (World.block_lt_of_cell? w _ hx136_1)).trans hx136_1
        replace hx136_2 := (HB.out.cell (World.block_lt_of_cell? w _ hx136_2)).trans hx136_2
        replace hx136_3 := (HB.out.cell (World.block_lt_of_cell? w _ hx136_3)).trans hx136_3
        replace hx136_4 := (HB.out.cell (World.block_lt_of_cell? w _ hx136_4)).trans hx136_4
        replace hx136_5 := (HB.out.cell (World.block_lt_of_cell? w _ hx136_5)).trans hx136_5
        replace hx136_6 := (HB.out.cell (World.block_lt_of_cell? w _ hx136_6)).trans hx136_6
        replace hx136_7 := (HB.out.cell (World.block_lt_of_cell? w _ hx136_7)).trans hx136_7
        have HR136_4 := Aside0.mk hi136_4
        have HC136_4 := Aside0.mk hl136_4
        clear hi136_4 hl136_4
        have HR136_5 := Aside0.mk hi136_5
        have HC136_5 := Aside0.mk hl136_5
        clear hi136_5 hl136_5
        replace p136 := eq_true p136
        replace q136 := eq_true q136
        go_wp2_with (first | ((with_reducible refine gate_dst (N := 6) rfl ?_); refine box_event ?hg (N := 6) ?hd (cs := #[.int .i64 0, .int .i64 0, .string (⟨#[]⟩ : ByteArray), .string (⟨#[]⟩ : ByteArray), .slice none 0 0, .slice none 0 0, .int .i64 0, .int .i64 0]) (t := 27) ?hr ?_; (case hd => rfl); (case hg => rfl); (case hr => first | (go_simp; done) | (go_simp; rfl)); intro gb137 hg w15 hbox hb; have n0_ := Aside0.mk (blk_below (g := gb135) (o := .cells #[.int .i64 a0_0, .int .i64 a0_1, .int .i64 a0_2, .int .i64 a0_3, .int .i64 a0_4, .int .i64 a0_5, .int .i64 a0_6] 58 (0, 0)) (by (with_reducible repeat (first | refine blk_drewN ?_ _ | refine blk_drew ?_ | refine blk_alloc ?_ _)); exact BK135.out) hb); have n1_ := Aside0.mk (below_step (by repeat (first | (with_reducible first | exact HB.out | apply below_alloc | apply pw_below_drewN | apply below_drew1 | refine below_set ?_ GE135.out) | exact HB.out)) hb); have n2_ := Aside0.mk (hbox); have n3_ := Aside0.mk ((by rw [hg]; exact (below_size (by repeat (first | (with_reducible first | exact HB.out | apply below_alloc | apply pw_below_drewN | apply below_drew1 | refine below_set ?_ GE135.out) | exact HB.out))) : w.heap.size ≤ gb137)); have n4_ := Aside0.mk ((by rw [hg]; exact (below_size (by repeat (first | (with_reducible first | exact HB.out | apply below_alloc | apply pw_below_drewN | apply below_drew1 | refine below_set ?_ GE135.out) | exact HB.out))) : w.heap.size ≤ gb137)); have n5_ := Aside0.mk ((by rw [hg]; exact Nat.ne_of_lt (blk_lt (g := gb135) (o := .cells #[.int .i64 a0_0, .int .i64 a0_1, .int .i64 a0_2, .int .i64 a0_3, .int .i64 a0_4, .int .i64 a0_5, .int .i64 a0_6] 58 (0, 0)) (by (with_reducible repeat (first | refine blk_drewN ?_ _ | refine blk_drew ?_ | refine blk_alloc ?_ _)); exact BK135.out)) : gb135 ≠ gb137)); have n6_ := Aside0.mk ((by rw [hg]; exact Nat.ne_of_gt (blk_lt (g := gb135) (o := .cells #[.int .i64 a0_0, .int .i64 a0_1, .int .i64 a0_2, .int .i64 a0_3, .int .i64 a0_4, .int .i64 a0_5, .int .i64 a0_6] 58 (0, 0)) (by (with_reducible repeat (first | refine blk_drewN ?_ _ | refine blk_drew ?_ | refine blk_alloc ?_ _)); exact BK135.out)) : gb137 ≠ gb135)); clear BK135; clear HB; have BK135 := n0_; have HB := n1_; have BK137 := n2_; have GW137 := n3_; have GE137 := n4_; have NB135_137 := n5_; have NB137_135 := n6_; clear n0_ n1_ n2_ n3_ n4_ n5_ n6_; clear hb hbox hg; have hnb16 := NB137_135.out; have hnc16 := NB135_137.out; have hcz17_0 : w15.cell? ⟨gb137, 0, none⟩ = some (.int .i64 0) := (blk_cell BK137.out 0).trans rfl; have hcz17_1 : w15.cell? ⟨gb137, 1, none⟩ = some (.int .i64 0) := (blk_cell BK137.out 1).trans rfl; have hcz17_2 : w15.cell? ⟨gb137, 2, none⟩ = some (.string (⟨#[]⟩ : ByteArray)) := (blk_cell BK137.out 2).trans rfl; have hcz17_3 : w15.cell? ⟨gb137, 3, none⟩ = some (.string (⟨#[]⟩ : ByteArray)) := (blk_cell BK137.out 3).trans rfl; have hcz17_4 : w15.cell? ⟨gb137, 4, none⟩ = some (.slice none 0 0) := (blk_cell BK137.out 4).trans rfl; have hcz17_5 : w15.cell? ⟨gb137, 5, none⟩ = some (.slice none 0 0) := (blk_cell BK137.out 5).trans rfl; have hcz17_6 : w15.cell? ⟨gb137, 6, none⟩ = some (.int .i64 0) := (blk_cell BK137.out 6).trans rfl; have hcz17_7 : w15.cell? ⟨gb137, 7, none⟩ = some (.int .i64 0) := (blk_cell BK137.out 7).trans rfl; have hfz17_0 := blk_frozen BK137.out 0; have hfz17_1 := blk_frozen BK137.out 1; have hfz17_2 := blk_frozen BK137.out 2; have hfz17_3 := blk_frozen BK137.out 3; have hfz17_4 := blk_frozen BK137.out 4; have hfz17_5 := blk_frozen BK137.out 5; have hfz17_6 := blk_frozen BK137.out 6; have hfz17_7 := blk_frozen BK137.out 7; have hcz18_0 : w15.cell? ⟨gb135, 0, none⟩ = some (.int .i64 a0_0) := (blk_cell BK135.out 0).trans rfl; have hcz18_1 : w15.cell? ⟨gb135, 1, none⟩ = some (.int .i64 a0_1) := (blk_cell BK135.out 1).trans rfl; have hcz18_2 : w15.cell? ⟨gb135, 2, none⟩ = some (.int .i64 a0_2) := (blk_cell BK135.out 2).trans rfl; have hcz18_3 : w15.cell? ⟨gb135, 3, none⟩ = some (.int .i64 a0_3) := (blk_cell BK135.out 3).trans rfl; have hcz18_4 : w15.cell? ⟨gb135, 4, none⟩ = some (.int .i64 a0_4) := (blk_cell BK135.out 4).trans rfl; have hcz18_5 : w15.cell? ⟨gb135, 5, none⟩ = some (.int .i64 a0_5) := (blk_cell BK135.out 5).trans rfl; have hcz18_6 : w15.cell? ⟨gb135, 6, none⟩ = some (.int .i64 a0_6) := (blk_cell BK135.out 6).trans rfl; have hfz18_0 := blk_frozen BK135.out 0; have hfz18_1 := blk_frozen BK135.out 1; have hfz18_2 := blk_frozen BK135.out 2; have hfz18_3 := blk_frozen BK135.out 3; have hfz18_4 := blk_frozen BK135.out 4; have hfz18_5 := blk_frozen BK135.out 5; have hfz18_6 := blk_frozen BK135.out 6) | (go_at_call 103; (with_reducible refine (tomb_meets.calls ((rd_T27 l1 x9_1).f0) ((rd_T27 l1 x9_1).f1.f0) ((rd_T27 l1 x9_1).f1.f1) ((rd_T27 l1 x9_1).f1.f2) _ _ ((rd_T27 l1 x9_1).f1.f3) _ _ ((rd_T27 l1 x9_1).f1.f4) ((rd_T27 l1 x9_1).f2) ((rd_T27 l1 x9_1).f3) a0_2 false _ ?side1 ?side2 ?side3 ?side4 A8.out).mono ?_); (case side1 => exact Kd.C_below HR136_4.out (by repeat (first | (with_reducible first | exact HB.out | apply below_alloc | apply pw_below_drewN | apply below_drew1 | refine below_set ?_ GE135.out | refine below_set ?_ GE137.out) | exact HB.out))); (case side2 => exact HC136_4.out); (case side3 => exact Kd.C_below HR136_5.out (by repeat (first | (with_reducible first | exact HB.out | apply below_alloc | apply pw_below_drewN | apply below_drew1 | refine below_set ?_ GE135.out | refine below_set ?_ GE137.out) | exact HB.out))); (case side4 => exact HC136_5.out); rintro e w19 ⟨rfl, hb⟩; have n0_ := Aside0.mk (blk_below (g := gb135) (o := .cells #[.int .i64 a0_0, .int .i64 a0_1, .int .i64 a0_2, .int .i64 a0_3, .int .i64 a0_4, .int .i64 a0_5, .int .i64 a0_6] 58 (0, 0)) (by (with_reducible repeat (first | refine blk_drewN ?_ _ | refine blk_drew ?_ | refine blk_alloc ?_ _)); refine blk_far ?_ NB135_137.out _; (with_reducible repeat (first | refine blk_drewN ?_ _ | refine blk_drew ?_ | refine blk_alloc ?_ _)); refine blk_far ?_ NB135_137.out _; (with_reducible repeat (first | refine blk_drewN ?_ _ | refine blk_drew ?_ | refine blk_alloc ?_ _)); refine blk_far ?_ NB135_137.out _; (with_reducible repeat (first | refine blk_drewN ?_ _ | refine blk_drew ?_ | refine blk_alloc ?_ _)); refine blk_far ?_ NB135_137.out _; (with_reducible repeat (first | refine blk_drewN ?_ _ | refine blk_drew ?_ | refine blk_alloc ?_ _)); refine blk_far ?_ NB135_137.out _; (with_reducible repeat (first | refine blk_drewN ?_ _ | refine blk_drew ?_ | refine blk_alloc ?_ _)); refine blk_far ?_ NB135_137.out _; (with_reducible repeat (first | refine blk_drewN ?_ _ | refine blk_drew ?_ | refine blk_alloc ?_ _)); refine blk_far ?_ NB135_137.out _; (with_reducible repeat (first | refine blk_drewN ?_ _ | refine blk_drew ?_ | refine blk_alloc ?_ _)); refine blk_far ?_ NB135_137.out _; (with_reducible repeat (first | refine blk_drewN ?_ _ | refine blk_drew ?_ | refine blk_alloc ?_ _)); exact BK135.out) hb); have n1_ := Aside0.mk (blk_below (g := gb137) (o := .cells #[.int .i64 ((rd_T27 l1 x9_1).f0), .int .i64 ((rd_T27 l1 x9_1).f1.f0), .string ((rd_T27 l1 x9_1).f1.f1), .string ((rd_T27 l1 x9_1).f1.f2), .slice A136_4 ((rd_T27 l1 x9_1).f1.f3).length c136_4, .slice A136_5 ((rd_T27 l1 x9_1).f1.f4).length c136_5, .int .i64 ((rd_T27 l1 x9_1).f2), .int .i64 ((rd_T27 l1 x9_1).f3)] 27 (0, 0)) (by (with_reducible repeat (first | refine blk_drewN ?_ _ | refine blk_drew ?_ | refine blk_alloc ?_ _)); refine blk_put (cs := #[.int .i64 ((rd_T27 l1 x9_1).f0), .int .i64 ((rd_T27 l1 x9_1).f1.f0), .string ((rd_T27 l1 x9_1).f1.f1), .string ((rd_T27 l1 x9_1).f1.f2), .slice A136_4 ((rd_T27 l1 x9_1).f1.f3).length c136_4, .slice A136_5 ((rd_T27 l1 x9_1).f1.f4).length c136_5, .int .i64 ((rd_T27 l1 x9_1).f2), .int .i64 0]) ?_ 7 _ rfl; (with_reducible repeat (first | refine blk_drewN ?_ _ | refine blk_drew ?_ | refine blk_alloc ?_ _)); refine blk_put (cs := #[.int .i64 ((rd_T27 l1 x9_1).f0), .int .i64 ((rd_T27 l1 x9_1).f1.f0), .string ((rd_T27 l1 x9_1).f1.f1), .string ((rd_T27 l1 x9_1).f1.f2), .slice A136_4 ((rd_T27 l1 x9_1).f1.f3).length c136_4, .slice A136_5 ((rd_T27 l1 x9_1).f1.f4).length c136_5, .int .i64 0, .int .i64 0]) ?_ 6 _ rfl; (with_reducible repeat (first | refine blk_drewN ?_ _ | refine blk_drew ?_ | refine blk_alloc ?_ _)); refine blk_put (cs := #[.int .i64 ((rd_T27 l1 x9_1).f0), .int .i64 ((rd_T27 l1 x9_1).f1.f0), .string ((rd_T27 l1 x9_1).f1.f1), .string ((rd_T27 l1 x9_1).f1.f2), .slice A136_4 ((rd_T27 l1 x9_1).f1.f3).length c136_4, .slice none 0 0, .int .i64 0, .int .i64 0]) ?_ 5 _ rfl; (with_reducible repeat (first | refine blk_drewN ?_ _ | refine blk_drew ?_ | refine blk_alloc ?_ _)); refine blk_put (cs := #[.int .i64 ((rd_T27 l1 x9_1).f0), .int .i64 ((rd_T27 l1 x9_1).f1.f0), .string ((rd_T27 l1 x9_1).f1.f1), .string ((rd_T27 l1 x9_1).f1.f2), .slice none 0 0, .slice none 0 0, .int .i64 0, .int .i64 0]) ?_ 4 _ rfl; (with_reducible repeat (first | refine blk_drewN ?_ _ | refine blk_drew ?_ | refine blk_alloc ?_ _)); refine blk_put (cs := #[.int .i64 ((rd_T27 l1 x9_1).f0), .int .i64 ((rd_T27 l1 x9_1).f1.f0), .string ((rd_T27 l1 x9_1).f1.f1), .string (⟨#[]⟩ : ByteArray), .slice none 0 0, .slice none 0 0, .int .i64 0, .int .i64 0]) ?_ 3 _ rfl; (with_reducible repeat (first | refine blk_drewN ?_ _ | refine blk_drew ?_ | refine blk_alloc ?_ _)); refine blk_put (cs := #[.int .i64 ((rd_T27 l1 x9_1).f0), .int .i64 ((rd_T27 l1 x9_1).f1.f0), .string (⟨#[]⟩ : ByteArray), .string (⟨#[]⟩ : ByteArray), .slice none 0 0, .slice none 0 0, .int .i64 0, .int .i64 0]) ?_ 2 _ rfl; (with_reducible repeat (first | refine blk_drewN ?_ _ | refine blk_drew ?_ | refine blk_alloc ?_ _)); refine blk_put (cs := #[.int .i64 ((rd_T27 l1 x9_1).f0), .int .i64 0, .string (⟨#[]⟩ : ByteArray), .string (⟨#[]⟩ : ByteArray), .slice none 0 0, .slice none 0 0, .int .i64 0, .int .i64 0]) ?_ 1 _ rfl; (with_reducible repeat (first | refine blk_drewN ?_ _ | refine blk_drew ?_ | refine blk_alloc ?_ _)); refine blk_put (cs := #[.int .i64 0, .int .i64 0, .string (⟨#[]⟩ : ByteArray), .string (⟨#[]⟩ : ByteArray), .slice none 0 0, .slice none 0 0, .int .i64 0, .int .i64 0]) ?_ 0 _ rfl; (with_reducible repeat (first | refine blk_drewN ?_ _ | refine blk_drew ?_ | refine blk_alloc ?_ _)); exact BK137.out) hb); have n2_ := Aside0.mk (below_step (by repeat (first | (with_reducible first | exact HB.out | apply below_alloc | apply pw_below_drewN | apply below_drew1 | refine below_set ?_ GE135.out | refine below_set ?_ GE137.out) | exact HB.out)) hb); clear BK135; clear BK137; clear HB; have BK135 := n0_; have BK137 := n1_; have HB := n2_; clear n0_ n1_ n2_; (try clear hb); (try clear hb2); (try clear hk); (try clear hi)))
        go_roundg k1
        case measure => have := HK1.out; omega
        case rel => exact ⟨(wrap64 (x9_1 + 1)), (by first | rfl | (simp; done) | (simp [*]; done)), H', ⟨by have := HK1.out; omega⟩, ⟨by (with_reducible repeat (first | refine blk_drewN ?_ _ | refine blk_drew ?_ | refine blk_alloc ?_ _)); exact BK135.out⟩, ⟨by repeat (first | (with_reducible first | exact HB.out | apply below_alloc | apply pw_below_drewN | apply below_drew1 | refine below_set ?_ GE135.out | refine below_set ?_ GE137.out) | exact HB.out)⟩⟩
      ·rw [if_neg c7] at H
       have c7b0 : decide (a0_5 < ((rd_T27 l1 x9_1).f0)) = false := decide_eq_false c7
       clear c7
       have H' := Aside0.mk H
       clear H
       have p136 : 0 ≤ (x9_1 : Int) := of_decide_eq_true (by first | (with_reducible assumption) | assumption)
       have q136 : x9_1 < (l1.length : Int) := of_decide_eq_true (by first | (with_reducible assumption) | assumption)
       obtain ⟨ad136, A136_4, c136_4, A136_5, c136_5, e136, hx136_0, hx136_1, hx136_2, hx136_3, hx136_4, hx136_5, hx136_6, hx136_7, hl136_4, hi136_4, hl136_5, hi136_5⟩ := at_T27 HR1.out x9_1 p136 q136
       cases e136
       replace hx136_0 := (HB.out.cell (World.block_lt_of_cell? w _ hx136_0)).trans hx136_0
       replace hx136_1 := (HB.out.cell (World.block_lt_of_cell? w _ hx136_1)).trans hx136_1
       replace hx136_2 := (HB.out.cell (World.block_lt_of_cell? w _ hx136_2)).trans hx136_2
       replace hx136_3 := (HB.out.cell (World.block_lt_of_cell? w _ hx136_3)).trans hx136_3
       replace hx136_4 := (HB.out.cell (World.block_lt_of_cell? w _ hx136_4)).trans hx136_4
       replace hx136_5 := (HB.out.cell (World.block_lt_of_cell? w _ hx136_5)).trans hx136_5
       replace hx136_6 := (HB.out.cell (World.block_lt_of_cell? w _ hx136_6)).trans hx136_6
       replace hx136_7 := (HB.out.cell (World.block_lt_of_cell? w _ hx136_7)).trans hx136_7
       have HR136_4 := Aside0.mk hi136_4
       have HC136_4 := Aside0.mk hl136_4
       clear hi136_4 hl136_4
       have HR136_5 := Aside0.mk hi136_5
       have HC136_5 := Aside0.mk hl136_5
       clear hi136_5 hl136_5
       replace p136 := eq_true p136
       replace q136 := eq_true q136
       go_wp2_with (first | ((with_reducible refine gate_dst (N := 6) rfl ?_); refine box_event ?hg (N := 6) ?hd (cs := #[.int .i64 0, .int .i64 0, .string (⟨#[]⟩ : ByteArray), .string (⟨#[]⟩ : ByteArray), .slice none 0 0, .slice none 0 0, .int .i64 0, .int .i64 0]) (t := 27) ?hr ?_; (case hd => rfl); (case hg => rfl); (case hr => first | (go_simp; done) | (go_simp; rfl)); intro gb137 hg w20 hbox hb; have n0_ := Aside0.mk (blk_below (g := gb135) (o := .cells #[.int .i64 a0_0, .int .i64 a0_1, .int .i64 a0_2, .int .i64 a0_3, .int .i64 a0_4, .int .i64 a0_5, .int .i64 a0_6] 58 (0, 0)) (by (with_reducible repeat (first | refine blk_drewN ?_ _ | refine blk_drew ?_ | refine blk_alloc ?_ _)); exact BK135.out) hb); have n1_ := Aside0.mk (below_step (by repeat (first | (with_reducible first | exact HB.out | apply below_alloc | apply pw_below_drewN | apply below_drew1 | refine below_set ?_ GE135.out) | exact HB.out)) hb); have n2_ := Aside0.mk (hbox); have n3_ := Aside0.mk ((by rw [hg]; exact (below_size (by repeat (first | (with_reducible first | exact HB.out | apply below_alloc | apply pw_below_drewN | apply below_drew1 | refine below_set ?_ GE135.out) | exact HB.out))) : w.heap.size ≤ gb137)); have n4_ := Aside0.mk ((by rw [hg]; exact (below_size (by repeat (first | (with_reducible first | exact HB.out | apply below_alloc | apply pw_below_drewN | apply below_drew1 | refine below_set ?_ GE135.out) | exact HB.out))) : w.heap.size ≤ gb137)); have n5_ := Aside0.mk ((by rw [hg]; exact Nat.ne_of_lt (blk_lt (g := gb135) (o := .cells #[.int .i64 a0_0, .int .i64 a0_1, .int .i64 a0_2, .int .i64 a0_3, .int .i64 a0_4, .int .i64 a0_5, .int .i64 a0_6] 58 (0, 0)) (by (with_reducible repeat (first | refine blk_drewN ?_ _ | refine blk_drew ?_ | refine blk_alloc ?_ _)); exact BK135.out)) : gb135 ≠ gb137)); have n6_ := Aside0.mk ((by rw [hg]; exact Nat.ne_of_gt (blk_lt (g := gb135) (o := .cells #[.int .i64 a0_0, .int .i64 a0_1, .int .i64 a0_2, .int .i64 a0_3, .int .i64 a0_4, .int .i64 a0_5, .int .i64 a0_6] 58 (0, 0)) (by (with_reducible repeat (first | refine blk_drewN ?_ _ | refine blk_drew ?_ | refine blk_alloc ?_ _)); exact BK135.out)) : gb137 ≠ gb135)); clear BK135; clear HB; have BK135 := n0_; have HB := n1_; have BK137 := n2_; have GW137 := n3_; have GE137 := n4_; have NB135_137 := n5_; have NB137_135 := n6_; clear n0_ n1_ n2_ n3_ n4_ n5_ n6_; clear hb hbox hg; have hnb21 := NB137_135.out; have hnc21 := NB135_137.out; have hcz22_0 : w20.cell? ⟨gb137, 0, none⟩ = some (.int .i64 0) := (blk_cell BK137.out 0).trans rfl; have hcz22_1 : w20.cell? ⟨gb137, 1, none⟩ = some (.int .i64 0) := (blk_cell BK137.out 1).trans rfl; have hcz22_2 : w20.cell? ⟨gb137, 2, none⟩ = some (.string (⟨#[]⟩ : ByteArray)) := (blk_cell BK137.out 2).trans rfl; have hcz22_3 : w20.cell? ⟨gb137, 3, none⟩ = some (.string (⟨#[]⟩ : ByteArray)) := (blk_cell BK137.out 3).trans rfl; have hcz22_4 : w20.cell? ⟨gb137, 4, none⟩ = some (.slice none 0 0) := (blk_cell BK137.out 4).trans rfl; have hcz22_5 : w20.cell? ⟨gb137, 5, none⟩ = some (.slice none 0 0) := (blk_cell BK137.out 5).trans rfl; have hcz22_6 : w20.cell? ⟨gb137, 6, none⟩ = some (.int .i64 0) := (blk_cell BK137.out 6).trans rfl; have hcz22_7 : w20.cell? ⟨gb137, 7, none⟩ = some (.int .i64 0) := (blk_cell BK137.out 7).trans rfl; have hfz22_0 := blk_frozen BK137.out 0; have hfz22_1 := blk_frozen BK137.out 1; have hfz22_2 := blk_frozen BK137.out 2; have hfz22_3 := blk_frozen BK137.out 3; have hfz22_4 := blk_frozen BK137.out 4; have hfz22_5 := blk_frozen BK137.out 5; have hfz22_6 := blk_frozen BK137.out 6; have hfz22_7 := blk_frozen BK137.out 7; have hcz23_0 : w20.cell? ⟨gb135, 0, none⟩ = some (.int .i64 a0_0) := (blk_cell BK135.out 0).trans rfl; have hcz23_1 : w20.cell? ⟨gb135, 1, none⟩ = some (.int .i64 a0_1) := (blk_cell BK135.out 1).trans rfl; have hcz23_2 : w20.cell? ⟨gb135, 2, none⟩ = some (.int .i64 a0_2) := (blk_cell BK135.out 2).trans rfl; have hcz23_3 : w20.cell? ⟨gb135, 3, none⟩ = some (.int .i64 a0_3) := (blk_cell BK135.out 3).trans rfl; have hcz23_4 : w20.cell? ⟨gb135, 4, none⟩ = some (.int .i64 a0_4) := (blk_cell BK135.out 4).trans rfl; have hcz23_5 : w20.cell? ⟨gb135, 5, none⟩ = some (.int .i64 a0_5) := (blk_cell BK135.out 5).trans rfl; have hcz23_6 : w20.cell? ⟨gb135, 6, none⟩ = some (.int .i64 a0_6) := (blk_cell BK135.out 6).trans rfl; have hfz23_0 := blk_frozen BK135.out 0; have hfz23_1 := blk_frozen BK135.out 1; have hfz23_2 := blk_frozen BK135.out 2; have hfz23_3 := blk_frozen BK135.out 3; have hfz23_4 := blk_frozen BK135.out 4; have hfz23_5 := blk_frozen BK135.out 5; have hfz23_6 := blk_frozen BK135.out 6))
       go_roundg k1
       case measure => have := HK1.out; omega
       case rel => exact ⟨(wrap64 (x9_1 + 1)), (by first | rfl | (simp; done) | (simp [*]; done)), H', ⟨by have := HK1.out; omega⟩, ⟨by (with_reducible repeat (first | refine blk_drewN ?_ _ | refine blk_drew ?_ | refine blk_alloc ?_ _)); refine blk_far ?_ NB135_137.out _; (with_reducible repeat (first | refine blk_drewN ?_ _ | refine blk_drew ?_ | refine blk_alloc ?_ _)); refine blk_far ?_ NB135_137.out _; (with_reducible repeat (first | refine blk_drewN ?_ _ | refine blk_drew ?_ | refine blk_alloc ?_ _)); refine blk_far ?_ NB135_137.out _; (with_reducible repeat (first | refine blk_drewN ?_ _ | refine blk_drew ?_ | refine blk_alloc ?_ _)); refine blk_far ?_ NB135_137.out _; (with_reducible repeat (first | refine blk_drewN ?_ _ | refine blk_drew ?_ | refine blk_alloc ?_ _)); refine blk_far ?_ NB135_137.out _; (with_reducible repeat (first | refine blk_drewN ?_ _ | refine blk_drew ?_ | refine blk_alloc ?_ _)); refine blk_far ?_ NB135_137.out _; (with_reducible repeat (first | refine blk_drewN ?_ _ | refine blk_drew ?_ | refine blk_alloc ?_ _)); refine blk_far ?_ NB135_137.out _; (with_reducible repeat (first | refine blk_drewN ?_ _ | refine blk_drew ?_ | refine blk_alloc ?_ _)); refine blk_far ?_ NB135_137.out _; (with_reducible repeat (first | refine blk_drewN ?_ _ | refine blk_drew ?_ | refine blk_alloc ?_ _)); exact BK135.out⟩, ⟨by repeat (first | (with_reducible first | exact HB.out | apply below_alloc | apply pw_below_drewN | apply below_drew1 | refine below_set ?_ GE135.out | refine below_set ?_ GE137.out) | exact HB.out)⟩⟩
     ·rw [if_neg c6] at H
      exact absurd H (by simp)
    ·rw [if_neg c5] at H
     exact absurd H (by simp)
   ·rw [if_neg c4] at H
    have c4b0 : decide (x9_1 < (l1.length : Int)) = false := decide_eq_false c4
    clear c4
    obtain rfl := Option.some.inj H
    go_wp2
    go_ret
    exact ⟨by first | rfl | (simp [errW_none, errW_some] <;> rfl) | (simp [*, errW_none, errW_some] <;> rfl), by repeat (first | (with_reducible first | exact HB.out | apply below_alloc | apply pw_below_drewN | apply below_drew1 | refine below_set ?_ GE135.out) | exact HB.out)⟩
def varvelaw00_Place.f (a0 : Int) (a1 : Int) : Option (Int) := if a1 = 0 then (none) else (if (Int.tmod a0 a1) < 0 then (some (wrap64 ((Int.tmod a0 a1) + a1))) else (some (Int.tmod a0 a1)))
set_option maxHeartbeats 8000000 in
set_option maxRecDepth 100000 in
theorem varvelaw00_Place.calls (a0 : Int) (a1 : Int) (r : Int) (w : World) (h : varvelaw00_Place.f a0 a1 = some r) :
  Calls Try.prog 46 #[.int .i64 a0, .int .i64 a1] w fun e w' => e = .returned (.int .i64 r) ∧ Drawn0 w w' := by
 have H : (if a1 = 0 then (none) else (if (Int.tmod a0 a1) < 0 then (some (wrap64 ((Int.tmod a0 a1) + a1))) else (some (Int.tmod a0 a1)))) = some r := h
 clear h
 by_cases c3 : a1 = 0
 ·rw [if_pos c3] at H
  exact absurd H (by simp)
 ·rw [if_neg c3] at H
  have c3b0 : (a1 == 0) = false := beq_eq_false_iff_ne.mpr c3
  have c3b1 : (a1 != 0) = true := bne_iff_ne.mpr c3
  by_cases c4 : (Int.tmod a0 a1) < 0
  ·rw [if_pos c4] at H
   have c4b0 : decide ((Int.tmod a0 a1) < 0) = true := decide_eq_true c4
   clear c4
   obtain rfl := Option.some.inj H
   go_enter Try.func46, Try.ntmps46
   go_wp2
   go_ret
   exact ⟨by first | rfl | (simp; done) | (simp [*]; done), by repeat (first | exact Drawn0.refl _ | apply Drawn0.step)⟩
  ·rw [if_neg c4] at H
   have c4b0 : decide ((Int.tmod a0 a1) < 0) = false := decide_eq_false c4
   clear c4
   obtain rfl := Option.some.inj H
   go_enter Try.func46, Try.ntmps46
   go_wp2
   go_ret
   exact ⟨by first | rfl | (simp; done) | (simp [*]; done), by repeat (first | exact Drawn0.refl _ | apply Drawn0.step)⟩
def varvelaw00_Set.f (a0 : Int) : Option ((List (S68))) := (varvelaw00_Place.f a0 12).bind fun t139 => (if 0 ≤ t139 then (if t139 ≤ (wrap64 (t139 + 1)) then (if (wrap64 (t139 + 1)) ≤ 12 then (if 1 + ((⟨#[48, 49, 50, 51, 52, 53, 54, 55, 56, 57, 97, 98]⟩ : ByteArray).extract (t139 : Int).toNat ((wrap64 (t139 + 1)) : Int).toNat).size ≤ 9223372036854775807 then ((some (([(⟨(⟨#[104, 111, 115, 116]⟩ : ByteArray), (⟨#[104]⟩ : ByteArray) ++ ((⟨#[48, 49, 50, 51, 52, 53, 54, 55, 56, 57, 97, 98]⟩ : ByteArray).extract (t139 : Int).toNat ((wrap64 (t139 + 1)) : Int).toNat)⟩ : S68)] : List (S68)) : List (S68))).bind fun y140 => (if (Int.tmod t139 2) = 1 then (if 0 ≤ (wrap64 (Int.tdiv t139 3)) then (if (wrap64 (Int.tdiv t139 3)) ≤ (wrap64 ((wrap64 (Int.tdiv t139 3)) + 1)) then (if (wrap64 ((wrap64 (Int.tdiv t139 3)) + 1)) ≤ 12 then (if 1 + ((⟨#[48, 49, 50, 51, 52, 53, 54, 55, 56, 57, 97, 98]⟩ : ByteArray).extract ((wrap64 (Int.tdiv t139 3)) : Int).toNat ((wrap64 ((wrap64 (Int.tdiv t139 3)) + 1)) : Int).toNat).size ≤ 9223372036854775807 then (if y140.length < 4398046511104 then (some (y140 ++ [(⟨(⟨#[122, 111, 110, 101]⟩ : ByteArray), (⟨#[122]⟩ : ByteArray) ++ ((⟨#[48, 49, 50, 51, 52, 53, 54, 55, 56, 57, 97, 98]⟩ : ByteArray).extract ((wrap64 (Int.tdiv t139 3)) : Int).toNat ((wrap64 ((wrap64 (Int.tdiv t139 3)) + 1)) : Int).toNat)⟩ : S68)])) else (none)) else (none)) else (none)) else (none)) else (none)) else (some y140))) else (none)) else (none)) else (none)) else (none))
set_option maxHeartbeats 8000000 in
set_option maxRecDepth 100000 in
theorem varvelaw00_Set.calls (a0 : Int) (r : List (S68)) (w : World) (h : varvelaw00_Set.f a0 = some r) :
  Calls Try.prog 96 #[.int .i64 a0] w fun e w' => ∃ v0_ : Value, e = .returned (v0_) ∧ Kd.R k68 68 w' w.heap.size (fun _ => True) v0_ r ∧ Below w.heap.size w w' := by
 have hu68 := Try.underlying68
 have HB := Aside0.mk (Below.refl w.heap.size w)
 have H : ((varvelaw00_Place.f a0 12).bind fun t139 => (if 0 ≤ t139 then (if t139 ≤ (wrap64 (t139 + 1)) then (if (wrap64 (t139 + 1)) ≤ 12 then (if 1 + ((⟨#[48, 49, 50, 51, 52, 53, 54, 55, 56, 57, 97, 98]⟩ : ByteArray).extract (t139 : Int).toNat ((wrap64 (t139 + 1)) : Int).toNat).size ≤ 9223372036854775807 then ((some (([(⟨(⟨#[104, 111, 115, 116]⟩ : ByteArray), (⟨#[104]⟩ : ByteArray) ++ ((⟨#[48, 49, 50, 51, 52, 53, 54, 55, 56, 57, 97, 98]⟩ : ByteArray).extract (t139 : Int).toNat ((wrap64 (t139 + 1)) : Int).toNat)⟩ : S68)] : List (S68)) : List (S68))).bind fun y140 => (if (Int.tmod t139 2) = 1 then (if 0 ≤ (wrap64 (Int.tdiv t139 3)) then (if (wrap64 (Int.tdiv t139 3)) ≤ (wrap64 ((wrap64 (Int.tdiv t139 3)) + 1)) then (if (wrap64 ((wrap64 (Int.tdiv t139 3)) + 1)) ≤ 12 then (if 1 + ((⟨#[48, 49, 50, 51, 52, 53, 54, 55, 56, 57, 97, 98]⟩ : ByteArray).extract ((wrap64 (Int.tdiv t139 3)) : Int).toNat ((wrap64 ((wrap64 (Int.tdiv t139 3)) + 1)) : Int).toNat).size ≤ 9223372036854775807 then (if y140.length < 4398046511104 then (some (y140 ++ [(⟨(⟨#[122, 111, 110, 101]⟩ : ByteArray), (⟨#[122]⟩ : ByteArray) ++ ((⟨#[48, 49, 50, 51, 52, 53, 54, 55, 56, 57, 97, 98]⟩ : ByteArray).extract ((wrap64 (Int.tdiv t139 3)) : Int).toNat ((wrap64 ((wrap64 (Int.tdiv t139 3)) + 1)) : Int).toNat)⟩ : S68)])) else (none)) else (none)) else (none)) else (none)) else (none)) else (some y140))) else (none)) else (none)) else (none)) else (none))) = some r := h
 clear h
 replace H := Option.bind_eq_some_iff.mp H
 obtain ⟨t139, A20, H⟩ := H
 replace H : (if 0 ≤ t139 then (if t139 ≤ (wrap64 (t139 + 1)) then (if (wrap64 (t139 + 1)) ≤ 12 then (if 1 + ((⟨#[48, 49, 50, 51, 52, 53, 54, 55, 56, 57, 97, 98]⟩ : ByteArray).extract (t139 : Int).toNat ((wrap64 (t139 + 1)) : Int).toNat).size ≤ 9223372036854775807 then ((some (([(⟨(⟨#[104, 111, 115, 116]⟩ : ByteArray), (⟨#[104]⟩ : ByteArray) ++ ((⟨#[48, 49, 50, 51, 52, 53, 54, 55, 56, 57, 97, 98]⟩ : ByteArray).extract (t139 : Int).toNat ((wrap64 (t139 + 1)) : Int).toNat)⟩ : S68)] : List (S68)) : List (S68))).bind fun y140 => (if (Int.tmod t139 2) = 1 then (if 0 ≤ (wrap64 (Int.tdiv t139 3)) then (if (wrap64 (Int.tdiv t139 3)) ≤ (wrap64 ((wrap64 (Int.tdiv t139 3)) + 1)) then (if (wrap64 ((wrap64 (Int.tdiv t139 3)) + 1)) ≤ 12 then (if 1 + ((⟨#[48, 49, 50, 51, 52, 53, 54, 55, 56, 57, 97, 98]⟩ : ByteArray).extract ((wrap64 (Int.tdiv t139 3)) : Int).toNat ((wrap64 ((wrap64 (Int.tdiv t139 3)) + 1)) : Int).toNat).size ≤ 9223372036854775807 then (if y140.length < 4398046511104 then (some (y140 ++ [(⟨(⟨#[122, 111, 110, 101]⟩ : ByteArray), (⟨#[122]⟩ : ByteArray) ++ ((⟨#[48, 49, 50, 51, 52, 53, 54, 55, 56, 57, 97, 98]⟩ : ByteArray).extract ((wrap64 (Int.tdiv t139 3)) : Int).toNat ((wrap64 ((wrap64 (Int.tdiv t139 3)) + 1)) : Int).toNat)⟩ : S68)])) else (none)) else (none)) else (none)) else (none)) else (none)) else (some y140))) else (none)) else (none)) else (none)) else (none)) = some r := H
 have A2 := Aside0.mk A20
 clear A20
 by_cases c3 : 0 ≤ t139
 ·rw [if_pos c3] at H
  have c3b0 := eq_true c3
  have c3b1 : decide (0 ≤ t139) = true := decide_eq_true c3
  clear c3
  by_cases c4 : t139 ≤ (wrap64 (t139 + 1))
  ·rw [if_pos c4] at H
   have c4b0 := eq_true c4
   have c4b1 : decide (t139 ≤ (wrap64 (t139 + 1))) = true := decide_eq_true c4
   by_cases c5 : (wrap64 (t139 + 1)) ≤ 12
   ·rw [if_pos c5] at H
    have c5b0 := eq_true c5
    have c5b1 : decide ((wrap64 (t139 + 1)) ≤ 12) = true := decide_eq_true c5
    by_cases c6 : 1 + ((⟨#[48, 49, 50, 51, 52, 53, 54, 55, 56, 57, 97, 98]⟩ : ByteArray).extract (t139 : Int).toNat ((wrap64 (t139 + 1)) : Int).toNat).size ≤ 9223372036854775807
    ·rw [if_pos c6] at H
     have c6b0 := eq_true c6
     have c6b1 : decide (1 + ((⟨#[48, 49, 50, 51, 52, 53, 54, 55, 56, 57, 97, 98]⟩ : ByteArray).extract (t139 : Int).toNat ((wrap64 (t139 + 1)) : Int).toNat).size ≤ 9223372036854775807) = true := decide_eq_true c6
     try have c6b2 : (9223372036854775807 < 1 + ((⟨#[48, 49, 50, 51, 52, 53, 54, 55, 56, 57, 97, 98]⟩ : ByteArray).extract (t139 : Int).toNat ((wrap64 (t139 + 1)) : Int).toNat).size) = False := eq_false (Nat.not_lt.2 c6)
     obtain ⟨y140, hy140⟩ : ∃ y_ : List (S68), y_ = (([(⟨(⟨#[104, 111, 115, 116]⟩ : ByteArray), (⟨#[104]⟩ : ByteArray) ++ ((⟨#[48, 49, 50, 51, 52, 53, 54, 55, 56, 57, 97, 98]⟩ : ByteArray).extract (t139 : Int).toNat ((wrap64 (t139 + 1)) : Int).toNat)⟩ : S68)] : List (S68))) := ⟨_, rfl⟩
     replace H : (if (Int.tmod t139 2) = 1 then (if 0 ≤ (wrap64 (Int.tdiv t139 3)) then (if (wrap64 (Int.tdiv t139 3)) ≤ (wrap64 ((wrap64 (Int.tdiv t139 3)) + 1)) then (if (wrap64 ((wrap64 (Int.tdiv t139 3)) + 1)) ≤ 12 then (if 1 + ((⟨#[48, 49, 50, 51, 52, 53, 54, 55, 56, 57, 97, 98]⟩ : ByteArray).extract ((wrap64 (Int.tdiv t139 3)) : Int).toNat ((wrap64 ((wrap64 (Int.tdiv t139 3)) + 1)) : Int).toNat).size ≤ 9223372036854775807 then (if y140.length < 4398046511104 then (some (y140 ++ [(⟨(⟨#[122, 111, 110, 101]⟩ : ByteArray), (⟨#[122]⟩ : ByteArray) ++ ((⟨#[48, 49, 50, 51, 52, 53, 54, 55, 56, 57, 97, 98]⟩ : ByteArray).extract ((wrap64 (Int.tdiv t139 3)) : Int).toNat ((wrap64 ((wrap64 (Int.tdiv t139 3)) + 1)) : Int).toNat)⟩ : S68)])) else (none)) else (none)) else (none)) else (none)) else (none)) else (some y140)) = some r := by first | (rw [hy140]; with_reducible exact H) | (have H2_ := (Option.bind_some _ _).symm.trans H; rw [hy140]; with_reducible exact H2_) | (have H2_ := (Option.bind_some _ _).symm.trans H; with_reducible exact H2_) | with_reducible exact H | (rw [hy140]; exact H) | exact H
     have Ny140 := Aside0.mk hy140
     clear hy140
     by_cases c7 : (Int.tmod t139 2) = 1
     ·rw [if_pos c7] at H
      have c7b0 : ((Int.tmod t139 2) == 1) = true := beq_iff_eq.mpr c7
      have c7b1 : ((Int.tmod t139 2) != 1) = false := bne_eq_false_iff_eq.mpr c7
      clear c7
      obtain ⟨ji8, hji8⟩ : ∃ j_ : Int, (wrap64 (Int.tdiv t139 3)) = j_ := ⟨_, rfl⟩
      replace H : (if 0 ≤ (ji8) then (if (ji8) ≤ (wrap64 ((ji8) + 1)) then (if (wrap64 ((ji8) + 1)) ≤ 12 then (if 1 + ((⟨#[48, 49, 50, 51, 52, 53, 54, 55, 56, 57, 97, 98]⟩ : ByteArray).extract ((ji8) : Int).toNat ((wrap64 ((ji8) + 1)) : Int).toNat).size ≤ 9223372036854775807 then (if y140.length < 4398046511104 then (some (y140 ++ [(⟨(⟨#[122, 111, 110, 101]⟩ : ByteArray), (⟨#[122]⟩ : ByteArray) ++ ((⟨#[48, 49, 50, 51, 52, 53, 54, 55, 56, 57, 97, 98]⟩ : ByteArray).extract ((ji8) : Int).toNat ((wrap64 ((ji8) + 1)) : Int).toNat)⟩ : S68)])) else (none)) else (none)) else (none)) else (none)) else (none)) = some r := by first | (rw [hji8] at H; exact H) | (simp only [hji8] at H ⊢; exact H)
      (try rw [hji8] at A2)
      have hji8w : (IntKind.i64.wrap (Int.tdiv t139 3)) = ji8 := (i64_w _).trans hji8
      by_cases c9 : 0 ≤ (ji8)
      ·rw [if_pos c9] at H
       have c9b0 := eq_true c9
       have c9b1 : decide (0 ≤ (ji8)) = true := decide_eq_true c9
       clear c9
       by_cases c10 : (ji8) ≤ (wrap64 ((ji8) + 1))
       ·rw [if_pos c10] at H
        have c10b0 := eq_true c10
        have c10b1 : decide ((ji8) ≤ (wrap64 ((ji8) + 1))) = true := decide_eq_true c10
        by_cases c11 : (wrap64 ((ji8) + 1)) ≤ 12
        ·rw [if_pos c11] at H
         have c11b0 := eq_true c11
         have c11b1 : decide ((wrap64 ((ji8) + 1)) ≤ 12) = true := decide_eq_true c11
         by_cases c12 : 1 + ((⟨#[48, 49, 50, 51, 52, 53, 54, 55, 56, 57, 97, 98]⟩ : ByteArray).extract ((ji8) : Int).toNat ((wrap64 ((ji8) + 1)) : Int).toNat).size ≤ 9223372036854775807
         ·rw [if_pos c12] at H
          have c12b0 := eq_true c12
          have c12b1 : decide (1 + ((⟨#[48, 49, 50, 51, 52, 53, 54, 55, 56, 57, 97, 98]⟩ : ByteArray).extract ((ji8) : Int).toNat ((wrap64 ((ji8) + 1)) : Int).toNat).size ≤ 9223372036854775807) = true := decide_eq_true c12
          try have c12b2 : (9223372036854775807 < 1 + ((⟨#[48, 49, 50, 51, 52, 53, 54, 55, 56, 57, 97, 98]⟩ : ByteArray).extract ((ji8) : Int).toNat ((wrap64 ((ji8) + 1)) : Int).toNat).size) = False := eq_false (Nat.not_lt.2 c12)
          by_cases c13 : y140.length < 4398046511104
          ·rw [if_pos c13] at H
           have LMc13 := Aside0.mk c13
           clear c13
           obtain ⟨y143, hy143⟩ : ∃ y_ : List (S68), y_ = (y140 ++ [(⟨(⟨#[122, 111, 110, 101]⟩ : ByteArray), (⟨#[122]⟩ : ByteArray) ++ ((⟨#[48, 49, 50, 51, 52, 53, 54, 55, 56, 57, 97, 98]⟩ : ByteArray).extract ((ji8) : Int).toNat ((wrap64 ((ji8) + 1)) : Int).toNat)⟩ : S68)]) := ⟨_, rfl⟩
           replace H : (some y143) = some r := by first | (rw [hy143]; with_reducible exact H) | (have H2_ := (Option.bind_some _ _).symm.trans H; rw [hy143]; with_reducible exact H2_) | (have H2_ := (Option.bind_some _ _).symm.trans H; with_reducible exact H2_) | with_reducible exact H | (rw [hy143]; exact H) | exact H
           have Ny143 := Aside0.mk hy143
           clear hy143
           obtain rfl := Option.some.inj H
           go_enter Try.func96, Try.ntmps96
           go_wp2_with (first | ((with_reducible refine gate_callee (f := 46) rfl ?_); refine goesL_ (some 6) rfl rfl Try.func46 (by kernel_rfl) rfl #[.int .i64 a0, .int .i64 12] rfl (by (try simp only [List.map_toArray, List.map_cons, List.map_nil]); first | done | rfl | (simp only [List.length_drop, List.length_take]; rfl)) ?_; (with_reducible refine (varvelaw00_Place.calls a0 12 t139 _ A2.out).mono ?_); rintro e w' ⟨rfl, ⟨nd, rfl⟩⟩; refine ⟨_, rfl, ?_⟩) | ((with_reducible refine gate_dst (N := 13) rfl ?_); refine Kd.R_lit k68 _ 68 ?hg (N := 13) ?hd (xs := ([(⟨(⟨#[104, 111, 115, 116]⟩ : ByteArray), (⟨#[104]⟩ : ByteArray) ++ ((⟨#[48, 49, 50, 51, 52, 53, 54, 55, 56, 57, 97, 98]⟩ : ByteArray).extract (t139 : Int).toNat ((wrap64 (t139 + 1)) : Int).toNat)⟩ : S68)] : List (S68))) (inner := [.string (⟨#[104, 111, 115, 116]⟩ : ByteArray), .string ((⟨#[104]⟩ : ByteArray) ++ ((⟨#[48, 49, 50, 51, 52, 53, 54, 55, 56, 57, 97, 98]⟩ : ByteArray).extract (t139 : Int).toNat ((wrap64 (t139 + 1)) : Int).toNat))]) (ok := fun _ => True) (okp := fun _ => True) ?hr ?hp (fun _ hk => hk) trivial (Below.refl _ _) (Nat.le_refl _) (by simp) ?_; (case hd => rfl); (case hg => rfl); (case hr => first | (go_simp; done) | (go_simp; rfl)); (case hp => exact (Reps.c2 (show Kd.M k68 _ _ _ (⟨(⟨#[104, 111, 115, 116]⟩ : ByteArray), (⟨#[104]⟩ : ByteArray) ++ ((⟨#[48, 49, 50, 51, 52, 53, 54, 55, 56, 57, 97, 98]⟩ : ByteArray).extract (t139 : Int).toNat ((wrap64 (t139 + 1)) : Int).toNat)⟩ : S68) [.string (⟨#[104, 111, 115, 116]⟩ : ByteArray), .string ((⟨#[104]⟩ : ByteArray) ++ ((⟨#[48, 49, 50, 51, 52, 53, 54, 55, 56, 57, 97, 98]⟩ : ByteArray).extract (t139 : Int).toNat ((wrap64 (t139 + 1)) : Int).toNat))] from (k68_mkM _ _ _ (⟨(⟨#[104, 111, 115, 116]⟩ : ByteArray), (⟨#[104]⟩ : ByteArray) ++ ((⟨#[48, 49, 50, 51, 52, 53, 54, 55, 56, 57, 97, 98]⟩ : ByteArray).extract (t139 : Int).toNat ((wrap64 (t139 + 1)) : Int).toNat)⟩ : S68) )) (Reps.none _ _))); intro v141 w14 ho15 hb hg_ hnew_; clear hg_ hnew_; (first | rw [← Ny140.out] at ho15 | (simp only [Int.reduceToNat] at ho15; rw [← Ny140.out] at ho15)); have n0_ := Aside0.mk (Kd.R_lower ho15 (below_size (by repeat (first | (with_reducible first | exact HB.out | apply below_alloc | apply pw_below_drewN | apply below_drew1) | exact HB.out)))); have n1_ := Aside0.mk (below_step (by repeat (first | (with_reducible first | exact HB.out | apply below_alloc | apply pw_below_drewN | apply below_drew1) | exact HB.out)) hb); clear HB; have HO142 := n0_; have HB := n1_; clear n0_ n1_; clear hb ho15) | ((with_reducible refine gate_builtin (b := .append) (xs := #[.tmp 17, .tmp 26]) rfl ?_); at_builtin; refine Kd.R_append k68 (w0 := w) w.heap.size rfl (.tmp 17) (.tmp 26) 28 68 (.agg #[(.string ⟨#[]⟩), (.string ⟨#[]⟩)]) 32 rfl Try.underlying28 info68 rfl (by decide) (by omega) v141 y140 (⟨(⟨#[122, 111, 110, 101]⟩ : ByteArray), (⟨#[122]⟩ : ByteArray) ++ ((⟨#[48, 49, 50, 51, 52, 53, 54, 55, 56, 57, 97, 98]⟩ : ByteArray).extract ((ji8) : Int).toNat ((wrap64 ((ji8) + 1)) : Int).toNat)⟩ : S68) [.string (⟨#[122, 111, 110, 101]⟩ : ByteArray), .string ((⟨#[122]⟩ : ByteArray) ++ ((⟨#[48, 49, 50, 51, 52, 53, 54, 55, 56, 57, 97, 98]⟩ : ByteArray).extract ((ji8) : Int).toNat ((wrap64 ((ji8) + 1)) : Int).toNat))] (fun _ => True) (fun _ => False) rfl rfl ?aP (fun _ hk => hk.elim) ?aF ?aO ?aB ?aS ?aL ?_; (case aP => exact k68_mkM _ _ _ (⟨(⟨#[122, 111, 110, 101]⟩ : ByteArray), (⟨#[122]⟩ : ByteArray) ++ ((⟨#[48, 49, 50, 51, 52, 53, 54, 55, 56, 57, 97, 98]⟩ : ByteArray).extract ((ji8) : Int).toNat ((wrap64 ((ji8) + 1)) : Int).toNat)⟩ : S68)); (case aB => exact (by repeat (first | (with_reducible first | exact HB.out | apply below_alloc | apply pw_below_drewN | apply below_drew1) | exact HB.out))); (case aF => exact (fun _ _ => trivial)); (case aO => exact (by (with_reducible repeat (first | apply Kd.R_alloc | apply Kd.R_drewN | apply Kd.R_drew)); exact HO142.out)); (case aS => exact (below_size (by repeat (first | (with_reducible first | exact HB.out | apply below_alloc | apply pw_below_drewN | apply below_drew1) | exact HB.out)))); (case aL => have := LMc13.out; omega); intro v144 w16 ho hb hg hat; rw [← Ny143.out] at ho; have n0_ := Aside0.mk (hb); have n1_ := Aside0.mk (ho); clear HB; clear HO142; have HB := n0_; have HO145 := n1_; clear n0_ n1_; clear ho hb hg hat))
           go_ret
           exact ⟨_, by first | rfl | (simp [errW_none, errW_some] <;> rfl) | (simp only [← hji8]; first | rfl | (simp [errW_none, errW_some] <;> rfl)) | (simp [*, errW_none, errW_some] <;> rfl), by (with_reducible repeat (first | apply Kd.R_alloc | apply Kd.R_drewN | apply Kd.R_drew)); exact HO145.out, by repeat (first | (with_reducible first | exact HB.out | apply below_alloc | apply pw_below_drewN | apply below_drew1) | exact HB.out)⟩
          ·rw [if_neg c13] at H
           exact absurd H (by simp)
         ·rw [if_neg c12] at H
          exact absurd H (by simp)
        ·rw [if_neg c11] at H
         exact absurd H (by simp)
       ·rw [if_neg c10] at H
        exact absurd H (by simp)
      ·rw [if_neg c9] at H
       exact absurd H (by simp)
     ·rw [if_neg c7] at H
      have c7b0 : ((Int.tmod t139 2) == 1) = false := beq_eq_false_iff_ne.mpr c7
      have c7b1 : ((Int.tmod t139 2) != 1) = true := bne_iff_ne.mpr c7
      obtain rfl := Option.some.inj H
      go_enter Try.func96, Try.ntmps96
      go_wp2_with (first | ((with_reducible refine gate_callee (f := 46) rfl ?_); refine goesL_ (some 6) rfl rfl Try.func46 (by kernel_rfl) rfl #[.int .i64 a0, .int .i64 12] rfl (by (try simp only [List.map_toArray, List.map_cons, List.map_nil]); first | done | rfl | (simp only [List.length_drop, List.length_take]; rfl)) ?_; (with_reducible refine (varvelaw00_Place.calls a0 12 t139 _ A2.out).mono ?_); rintro e w' ⟨rfl, ⟨nd, rfl⟩⟩; refine ⟨_, rfl, ?_⟩) | ((with_reducible refine gate_dst (N := 13) rfl ?_); refine Kd.R_lit k68 _ 68 ?hg (N := 13) ?hd (xs := ([(⟨(⟨#[104, 111, 115, 116]⟩ : ByteArray), (⟨#[104]⟩ : ByteArray) ++ ((⟨#[48, 49, 50, 51, 52, 53, 54, 55, 56, 57, 97, 98]⟩ : ByteArray).extract (t139 : Int).toNat ((wrap64 (t139 + 1)) : Int).toNat)⟩ : S68)] : List (S68))) (inner := [.string (⟨#[104, 111, 115, 116]⟩ : ByteArray), .string ((⟨#[104]⟩ : ByteArray) ++ ((⟨#[48, 49, 50, 51, 52, 53, 54, 55, 56, 57, 97, 98]⟩ : ByteArray).extract (t139 : Int).toNat ((wrap64 (t139 + 1)) : Int).toNat))]) (ok := fun _ => True) (okp := fun _ => True) ?hr ?hp (fun _ hk => hk) trivial (Below.refl _ _) (Nat.le_refl _) (by simp) ?_; (case hd => rfl); (case hg => rfl); (case hr => first | (go_simp; done) | (go_simp; rfl)); (case hp => exact (Reps.c2 (show Kd.M k68 _ _ _ (⟨(⟨#[104, 111, 115, 116]⟩ : ByteArray), (⟨#[104]⟩ : ByteArray) ++ ((⟨#[48, 49, 50, 51, 52, 53, 54, 55, 56, 57, 97, 98]⟩ : ByteArray).extract (t139 : Int).toNat ((wrap64 (t139 + 1)) : Int).toNat)⟩ : S68) [.string (⟨#[104, 111, 115, 116]⟩ : ByteArray), .string ((⟨#[104]⟩ : ByteArray) ++ ((⟨#[48, 49, 50, 51, 52, 53, 54, 55, 56, 57, 97, 98]⟩ : ByteArray).extract (t139 : Int).toNat ((wrap64 (t139 + 1)) : Int).toNat))] from (k68_mkM _ _ _ (⟨(⟨#[104, 111, 115, 116]⟩ : ByteArray), (⟨#[104]⟩ : ByteArray) ++ ((⟨#[48, 49, 50, 51, 52, 53, 54, 55, 56, 57, 97, 98]⟩ : ByteArray).extract (t139 : Int).toNat ((wrap64 (t139 + 1)) : Int).toNat)⟩ : S68) )) (Reps.none _ _))); intro v141 w17 ho18 hb hg_ hnew_; clear hg_ hnew_; (first | rw [← Ny140.out] at ho18 | (simp only [Int.reduceToNat] at ho18; rw [← Ny140.out] at ho18)); have n0_ := Aside0.mk (Kd.R_lower ho18 (below_size (by repeat (first | (with_reducible first | exact HB.out | apply below_alloc | apply pw_below_drewN | apply below_drew1) | exact HB.out)))); have n1_ := Aside0.mk (below_step (by repeat (first | (with_reducible first | exact HB.out | apply below_alloc | apply pw_below_drewN | apply below_drew1) | exact HB.out)) hb); clear HB; have HO142 := n0_; have HB := n1_; clear n0_ n1_; clear hb ho18))
      go_ret
      exact ⟨_, by first | rfl | (simp [errW_none, errW_some] <;> rfl) | (simp [*, errW_none, errW_some] <;> rfl), by (with_reducible repeat (first | apply Kd.R_alloc | apply Kd.R_drewN | apply Kd.R_drew)); exact HO142.out, by repeat (first | (with_reducible first | exact HB.out | apply below_alloc | apply pw_below_drewN | apply below_drew1) | exact HB.out)⟩
    ·rw [if_neg c6] at H
     exact absurd H (by simp)
   ·rw [if_neg c5] at H
    exact absurd H (by simp)
  ·rw [if_neg c4] at H
   exact absurd H (by simp)
 ·rw [if_neg c3] at H
  exact absurd H (by simp)

-- NOT PRINTED: function 32 (varvelaw19_awake)

-- NOT PRINTED: function 107 (varvelaw00_matcher)

-- NOT PRINTED: function 54 (varvelaw00_Matcher)

-- NOT PRINTED: function 34 (varvelaw00_Tomb)
end Go.Proofs.Yteafilojjdfllaa.PAll
end
section
namespace Go.Proofs.Yteafilojjdfllaa
open Go Go.RowKit Go.Proofs.YteafilojjdfllaaW.PrintWords Go.Proofs.YteafilojjdfllaaW.PrintLast Go.Proofs.YteafilojjdfllaaW.PrintMore Go.Proofs.Yteafilojjdfllaa.PAll
set_option linter.unusedVariables false
set_option linter.unusedSimpArgs false
theorem place_n (a : Int) (m : Nat) (mz : Int) (hmz : mz = (m : Int)) (hm : 0 < m) (h9 : m ≤ 1000) : ∃ r : Nat, r < m ∧ ∀ w : World, Calls Try.prog 46 #[.int .i64 a, .int .i64 mz] w fun e w' => e = .returned (.int .i64 (r : Int)) ∧ Below w.heap.size w w' := by
 subst hmz
 have h1 : ((m : Int)) ≠ 0 := by omega
 have h2 := Int.tmod_lt_of_pos a (show (0 : Int) < (m : Int) by omega)
 have h3 : -(m : Int) < Int.tmod a m := by
  exact Int.lt_tmod_of_pos a (show (0 : Int) < (m : Int) by omega)
 have key : ∀ r : Nat, varvelaw00_Place.f a m = some (r : Int) → ∀ w : World, Calls Try.prog 46 #[.int .i64 a, .int .i64 (m : Int)] w fun e w' => e = .returned (.int .i64 (r : Int)) ∧ Below w.heap.size w w' := fun r hr w =>
  (varvelaw00_Place.calls a m r w hr).mono (by
   rintro e w' ⟨rfl, h⟩
   obtain ⟨k, rfl⟩ := h
   exact ⟨rfl, pw_below_drewN (Below.refl _ _) _⟩)
 by_cases h0 : Int.tmod a m < 0
 ·obtain ⟨r, hr⟩ : ∃ r : Nat, Int.tmod a m + m = (r : Int) := ⟨(Int.tmod a m + m).toNat, by omega⟩
  refine ⟨r, by omega, key r ?_⟩
  unfold varvelaw00_Place.f
  rw [if_neg h1, if_pos h0, hr]
  congr 1
  unfold wrap64
  omega
 ·obtain ⟨r, hr⟩ : ∃ r : Nat, Int.tmod a m = (r : Int) := ⟨(Int.tmod a m).toNat, by omega⟩
  refine ⟨r, by omega, key r ?_⟩
  unfold varvelaw00_Place.f
  rw [if_neg h1, if_neg h0, hr]
theorem isA_rep (i : Nat) : List.replicate i isA ++ [isA] = List.replicate (i + 1) isA := by rw [List.replicate_succ']
theorem ba_app (l m : List UInt8) : (⟨l.toArray⟩ : ByteArray) ++ ⟨m.toArray⟩ = ⟨(l ++ m).toArray⟩ := by
 apply ByteArray.ext
 simp
set_option maxRecDepth 100000 in
set_option maxHeartbeats 32000000 in
theorem matchDeep_walk (w : World) (a b : Int) :
  Calls Try.prog 30 #[.int .i64 a, .int .i64 b] w fun e w' => e = .returned (.bool true) ∧ Below w.heap.size w w' := by
 obtain ⟨n, hn, h1⟩ := place_n a 14 14 rfl (by decide) (by decide)
 obtain ⟨k, hk, h2⟩ := place_n b 80 80 rfl (by decide) (by decide)
 have H1 := Lib.hid h1
 have H2 := Lib.hid h2
 clear h1 h2
 go_enter Try.func30, Try.ntmps30
 go_wp2_with fail
 (with_reducible refine (H1.out _).mono ?_)
 rintro e w1 ⟨rfl, hb1⟩
 go_wp2_with fail
 (with_reducible refine (H2.out _).mono ?_)
 rintro e w2 ⟨rfl, hb2⟩
 go_upto_block 0 with fail
 obtain ⟨M, eM⟩ : ∃ M, w2.heap.size = M := ⟨_, rfl⟩
 rw [eM]
 obtain ⟨V, eV⟩ : ∃ V, V = w2.alloc (.cells Z5 25) := ⟨_, rfl⟩
 rw [← eV]
 have hW2 := below_step hb1 hb2
 have HV : Hid (V.heap[M]? = some (.cells Z5 25 (0, 0))) := Lib.hid (by rw [eV, ← eM]; exact blk_new w2 _)
 have HVB : Hid (Below w.heap.size w V) := Lib.hid (by rw [eV]; exact below_alloc hW2 _)
 have HM := Lib.hid (show w.heap.size ≤ M by have := hW2.size; omega)
 have HVS := Lib.hid (show V.heap.size = M + 1 by rw [eV, World.size_alloc, eM])
 clear eV eM hW2 hb1 hb2 H1 H2
 go_cut [] from 22 to 29 (fun wc => ∃ (f : Int) (l : Nat) (A4 : Option Addr) (c4 : Nat), Hid (f = (nots n).f0 ∧ l = (nots n).f4.length) ∧ Hid (wc.heap[M]? = some (.cells #[.int .i64 f, .string ⟨#[]⟩, .string ⟨#[]⟩, .slice none 0 0, .slice A4 l c4] 25 (0, 0))) ∧ Hid (MF wc (fun b => M + 1 ≤ b ∧ b < wc.heap.size) (nots n) none 0 A4 c4) ∧ Hid (Below w.heap.size w wc))
 case first =>
  go_wp2_with fail
  go_loopw [8] (fun u8 wr => ∃ (i : Nat) (f : Int) (l : Nat) (A4 : Option Addr) (c4 : Nat), u8 = .int .i64 (i : Int) ∧ i ≤ n ∧ Hid (f = (nots i).f0 ∧ l = (nots i).f4.length) ∧ Hid (wr.heap[M]? = some (.cells #[.int .i64 f, .string ⟨#[]⟩, .string ⟨#[]⟩, .slice none 0 0, .slice A4 l c4] 25 (0, 0))) ∧ Hid (MF wr (fun b => M + 1 ≤ b ∧ b < wr.heap.size) (nots i) none 0 A4 c4) ∧ Hid (Below w.heap.size w wr))
   (fun u8 _ => n - (intOf u8).toNat)
  case atStart => exact ⟨0, 0, 0, none, 0, rfl, Nat.zero_le _, Lib.hid ⟨rfl, rfl⟩, HV, Lib.hid (fun X _ => ⟨Nat.le_refl _, Kd.C_nil _ _, Nat.le_refl _, Kd.C_nil _ _⟩), HVB⟩
  case round =>
   obtain ⟨i, f, l, A4, c4, rfl, hin, HF, HX, HMF, HB⟩ := hrel
   clear HV HVB HVS
   by_cases hlt : i < n
   ·have hltI : (i : Int) < (n : Int) := by omega
    obtain ⟨X, eX⟩ : ∃ X, wr.heap.size = X := ⟨_, rfl⟩
    obtain ⟨wa, ea⟩ : ∃ wa, wa = wr.alloc (.cells #[.int .i64 f, .string ⟨#[]⟩, .string ⟨#[]⟩, .slice none 0 0, .slice A4 l c4] 25) := ⟨_, rfl⟩
    have hba : Below wr.heap.size wr wa := by rw [ea]; exact below_alloc (Below.refl _ _) _
    have hxa : wa.heap[X]? = some (.cells #[.int .i64 f, .string ⟨#[]⟩, .string ⟨#[]⟩, .slice none 0 0, .slice A4 l c4] 25 (0, 0)) := by rw [ea, ← eX]; exact blk_new wr _
    have hma := (hba.block M (blk_lt HX.out)).trans HX.out
    have hMX : M < X := by have := blk_lt HX.out; omega
    have y0 := blk_cell HX.out 0
    have y1 := blk_cell HX.out 1
    have y2 := blk_cell HX.out 2
    have y3 := blk_cell HX.out 3
    have y4 := blk_cell HX.out 4
    have x0 := blk_cell hma 0
    have x1 := blk_cell hma 1
    have x2 := blk_cell hma 2
    have x3 := blk_cell hma 3
    have x4 := blk_cell hma 4
    have z0 := blk_frozen hma 0
    have z1 := blk_frozen hma 1
    have z2 := blk_frozen hma 2
    have z3 := blk_frozen hma 3
    have z4 := blk_frozen hma 4
    simp only [List.getElem?_toArray, List.getElem?_cons_zero, List.getElem?_cons_succ] at y0 y1 y2 y3 y4 x0 x1 x2 x3 x4
    have HNX : Hid (MF wa (fun b => M + 1 ≤ b ∧ b < wa.heap.size) (nots (i + 1)) none 0 (some ⟨X, 0, none⟩) 1) := Lib.hid (nots_kid (by rw [← HF.out.1, ← HF.out.2]; exact hxa) (HMF.out.move (fun b hb => ⟨⟨hb.1, by have := hba.size; have := hb.2; omega⟩, hba.block b hb.2⟩)) (by omega))
    have HMA := Lib.hid hma
    have HBA := Lib.hid (below_step HB.out hba)
    have EA := Lib.hid ea
    have HMX := Lib.hid hMX
    rw [ea] at x0 x1 x2 x3 x4 z0 z1 z2 z3 z4
    clear hba hxa hma ea hMX
    go_wp2
    go_roundw
    case rel =>
     rw [← EA.out]
     have hMX := HMX.out
     have far : ∀ b, b ≠ M → (((((wa.setCell ⟨M, 0, none⟩ (.int .i64 7)).setCell ⟨M, 1, none⟩ (.string ⟨#[]⟩)).setCell ⟨M, 2, none⟩ (.string ⟨#[]⟩)).setCell ⟨M, 3, none⟩ (.slice none 0 0)).setCell ⟨M, 4, none⟩ (.slice (some ⟨X, 0, none⟩) 1 1)).heap[b]? = wa.heap[b]? := fun b hne =>
      (Below.heap_setCell _ _ _ _ hne).trans ((Below.heap_setCell _ _ _ _ hne).trans ((Below.heap_setCell _ _ _ _ hne).trans ((Below.heap_setCell _ _ _ _ hne).trans (Below.heap_setCell _ _ _ _ hne))))
     exact ⟨i + 1, 7, 1, some ⟨X, 0, none⟩, 1, by go_num, by omega, Lib.hid ⟨rfl, rfl⟩, Lib.hid ((blk_set (blk_set (blk_set (blk_set (blk_set HMA.out 0 _) 1 _) 2 _) 3 _) 4 _).trans (by rfl)), Lib.hid (HNX.out.move (fun b hb => ⟨⟨hb.1, by simp only [World.size_setCell]; exact hb.2⟩, far b (by have := hb.1; omega)⟩)), Lib.hid (((((HBA.out.setCell HM.out _).setCell HM.out _).setCell HM.out _).setCell HM.out _).setCell HM.out _)⟩
    case measure => simp [intOf]; omega
   ·have hltI : ¬ (i : Int) < (n : Int) := by omega
    go_wp2
    go_meet
    case rel =>
     obtain rfl : i = n := by omega
     exact ⟨f, l, A4, c4, HF, HX, HMF, HB⟩
 case rest =>
  obtain ⟨f, l, A4, c4, HF, HX, HMF, HB⟩ := hcut
  clear HV HVB HVS V
  go_upto_block 2 with fail
  obtain ⟨O, eO⟩ : ∃ O, wc.heap.size = O := ⟨_, rfl⟩
  rw [eO]
  obtain ⟨V, eV⟩ : ∃ V, V = wc.alloc (.cells #[.int .i64 6, .string ⟨#[]⟩, .string ⟨#[]⟩, .slice none 0 0, .slice none 0 0] 25) := ⟨_, rfl⟩
  rw [← eV]
  have hBV : Below wc.heap.size wc V := by rw [eV]; exact below_alloc (Below.refl _ _) _
  have HVO : Hid (V.heap[O]? = some (.cells #[.int .i64 6, .string ⟨#[]⟩, .string ⟨#[]⟩, .slice none 0 0, .slice none 0 0] 25 (0, 0))) := Lib.hid (by rw [eV, ← eO]; exact blk_new wc _)
  have HVM := Lib.hid ((hBV.block M (blk_lt HX.out)).trans HX.out)
  have HMF1 : Hid (MF V (fun b => M + 1 ≤ b ∧ b < O) (nots n) none 0 A4 c4) := Lib.hid (HMF.out.move (fun b hb => ⟨⟨hb.1, by have := hb.2; omega⟩, hBV.block b hb.2⟩))
  have HVB := Lib.hid (below_step HB.out hBV)
  have HMO := Lib.hid (show M < O by have := blk_lt HX.out; omega)
  have HVS := Lib.hid (show O + 1 ≤ V.heap.size by rw [eV, World.size_alloc]; omega)
  clear hBV eV eO HX HMF HB
  go_cut [] from 31 to 41 (fun wd => ∃ (A : Option Addr) (c : Nat) (cells : List Value), Hid (wd.heap[O]? = some (.cells #[.int .i64 6, .string ⟨#[]⟩, .string ⟨#[]⟩, .slice none 0 0, .slice A k c] 25 (0, 0))) ∧ Hid (wd.ownsRow (O + 1) 25 5 (.slice A k c) k cells ∧ Reps (KR wd (Part (O + 1) wd (.slice A k c))) 5 (List.replicate k isA) cells) ∧ Hid (wd.heap[M]? = some (.cells #[.int .i64 f, .string ⟨#[]⟩, .string ⟨#[]⟩, .slice none 0 0, .slice A4 l c4] 25 (0, 0))) ∧ Hid (MF wd (fun b => M + 1 ≤ b ∧ b < O) (nots n) none 0 A4 c4) ∧ Hid (Below w.heap.size w wd) ∧ Hid (O + 1 ≤ wd.heap.size))
  case first =>
   go_wp2_with fail
   go_loopw [10] (fun u10 wr => ∃ (i : Nat) (A : Option Addr) (c : Nat) (cells : List Value), u10 = .int .i64 (i : Int) ∧ i ≤ k ∧ Hid (wr.heap[O]? = some (.cells #[.int .i64 6, .string ⟨#[]⟩, .string ⟨#[]⟩, .slice none 0 0, .slice A i c] 25 (0, 0))) ∧ Hid (wr.ownsRow (O + 1) 25 5 (.slice A i c) i cells ∧ Reps (KR wr (Part (O + 1) wr (.slice A i c))) 5 (List.replicate i isA) cells) ∧ Hid (wr.heap[M]? = some (.cells #[.int .i64 f, .string ⟨#[]⟩, .string ⟨#[]⟩, .slice none 0 0, .slice A4 l c4] 25 (0, 0))) ∧ Hid (MF wr (fun b => M + 1 ≤ b ∧ b < O) (nots n) none 0 A4 c4) ∧ Hid (Below w.heap.size w wr) ∧ Hid (O + 1 ≤ wr.heap.size))
    (fun u10 _ => k - (intOf u10).toNat)
   case atStart => exact ⟨0, none, 0, [], rfl, Nat.zero_le _, HVO, Lib.hid ⟨World.ownsRow_nil _ _ _ _, by simpa using Reps.none _ _⟩, HVM, HMF1, HVB, HVS⟩
   case round =>
    obtain ⟨i, A, c, cells, rfl, hik, HO, HR, HX, HMF, HB, HS⟩ := hrel
    clear HVO HVM HMF1 HVB HVS V
    by_cases hlt : i < k
    ·have hltI : (i : Int) < (k : Int) := by omega
     have y4 : wr.cell? ⟨O, 4, none⟩ = some (.slice A i c) := (blk_cell HO.out 4).trans rfl
     have HLT := Lib.hid (fun k (hk : (Value.slice A i c).ownBlock = some k) => HR.out.1.lt _ hk)
     go_wp2_with (at_builtin; refine print_append_cells (w0 := wr) (W := wr) (O + 1) rfl (.tmp 37) (.tmp 39) 23 25 (.agg Z5) 5 88 rfl Try.underlying23 infoM rfl (by decide) (by decide) (.slice A i c) i cells [.int .i64 1, .string ⟨#[97]⟩, .string ⟨#[]⟩, .slice none 0 0, .slice none 0 0] rfl rfl rfl (by intro u hu; simp only [List.mem_cons, List.not_mem_nil, or_false] at hu; rcases hu with rfl | rfl | rfl | rfl | rfl <;> rfl) HR.out.1 (Below.refl _ _) HS.out (by omega) ?_; intro v2 w6 hown6 hb6 hg6 hat6; obtain ⟨R, c2, rfl⟩ := own_some hown6; have hlo := HLT.out; have hneO : some O ≠ (Value.slice A i c).ownBlock := (fun e => by have := (hlo _ e.symm).1; omega); have q5 := (hg6.block O (blk_lt HO.out) hneO).trans HO.out; have Q5 := Lib.hid q5; have zO4 := blk_frozen q5 4; have cO4 : w6.cell? ⟨O, 4, none⟩ = some (.slice A i c) := (blk_cell q5 4).trans rfl; have HG6 := Lib.hid hg6; have HO6 := Lib.hid hown6; have HAT := Lib.hid hat6; clear hg6 hb6 hown6 hat6 q5 hneO hlo)
     go_wp2
     go_roundw
     case rel =>
      have hlo := HLT.out
      have hs6 := HG6.out.size
      have hR := (HO6.out.lt R rfl)
      have hro : O ≠ R := by omega
      have hmo := HMO.out
      have hso := HS.out
      have hfar : ∀ b, b < wr.heap.size → (Value.slice A i c).ownBlock ≠ some b → R ≠ b := fun b hb hne e => by
       subst e
       rcases HAT.out with h | ⟨b', h, hb'⟩
       ·exact hne h.symm
       ·have h' : R = b' := by simpa [Value.ownBlock] using h
        omega
      refine ⟨i + 1, some ⟨R, 0, none⟩, c2, _, by go_num, by omega, Lib.hid ((blk_set Q5.out 4 _).trans (by rfl)), Lib.hid ⟨own_move HO6.out (fun q hq => Below.heap_setCell _ _ _ _ (show q ≠ O by have h : R = q := (by simpa [Value.ownBlock] using hq); omega)), ?_⟩, Lib.hid ?_, Lib.hid ?_, Lib.hid ?_, Lib.hid ?_⟩
      ·rw [← isA_rep i]
       refine Reps.snoc (HR.out.2.imp_ (fun p c hk => hk.move (fun b hb => ?_))) ⟨none, 0, none, 0, rfl, fun X _ => ⟨Nat.le_refl _, Kd.C_nil _ _, Nat.le_refl _, Kd.C_nil _ _⟩⟩ rfl
       obtain ⟨b1, b2, b3⟩ := hb
       have hRb := hfar b b2 b3
       refine ⟨⟨b1, by simp only [World.size_setCell]; omega, fun e => hRb (by simpa [Value.ownBlock] using e)⟩, (Below.heap_setCell _ _ _ _ (show b ≠ O by omega)).trans (HG6.out.block b b2 (fun e => b3 e.symm))⟩
      ·exact (Below.heap_setCell _ _ _ _ (show M ≠ O by omega)).trans ((HG6.out.block M (by omega) (fun e => by have := (hlo _ e.symm).1; omega)).trans HX.out)
      ·exact HMF.out.move (fun b hb => ⟨hb, (Below.heap_setCell _ _ _ _ (show b ≠ O by have := hb.2; omega)).trans (HG6.out.block b (by have := hb.2; omega) (fun e => by have := (hlo _ e.symm).1; have := hb.2; omega))⟩)
      ·exact (HB.out.grown HG6.out (by have := HM.out; omega) (fun q hq => by have := (hlo q hq).1; have := HM.out; omega)).setCell (show w.heap.size ≤ O by have := HM.out; omega) _
      ·simp only [World.size_setCell]; omega
     case measure => simp [intOf]; omega
    ·have hltI : ¬ (i : Int) < (k : Int) := by omega
     go_wp2
     go_meet
     case rel =>
      obtain rfl : i = k := by omega
      exact ⟨A, c, cells, HO, HR, HX, HMF, HB, HS⟩
  case rest =>
   obtain ⟨A, c, cells, HO, HR, HX1, HMF, HB, HS⟩ := hcut
   clear HVO HVM HMF1 HVB HVS V
   obtain ⟨wd, ewd⟩ : ∃ wd, wd = wc := ⟨_, rfl⟩
   rw [← ewd] at HO HR HX1 HMF HB HS ⊢
   clear ewd
   go_wp2_with fail
   go_loopw [11, 12] (fun u11 u12 wr => ∃ (i : Nat) (x : ByteArray), u11 = .string x ∧ u12 = .int .i64 (i : Int) ∧ i ≤ n ∧ x.size ≤ 2 * i ∧ Hid (x = ⟨(opens i).toArray⟩) ∧ wr = wd)
    (fun _ u12 _ => n - (intOf u12).toNat)
   case atStart => exact ⟨0, _, rfl, rfl, Nat.zero_le _, Nat.le_refl _, Lib.hid rfl, rfl⟩
   case round =>
    obtain ⟨i, x, rfl, rfl, hin, hxs, HXE, rfl⟩ := hrel
    have hsz : ¬ 9223372036854775807 < x.size + 2 := by omega
    by_cases hlt : i < n
    ·have hltI : (i : Int) < (n : Int) := by omega
     go_wp2
     go_roundw
     case rel => exact ⟨i + 1, _, rfl, by go_num, by omega, by rw [ByteArray.size_append]; show x.size + 2 ≤ _; omega, Lib.hid (by rw [HXE.out, ba_app, ← opens_snoc]), trivial⟩
     case measure => simp [intOf]; omega
    ·have hltI : ¬ (i : Int) < (n : Int) := by omega
     have hin : i = n := by omega
     have HXN : Hid (x = ⟨(opens n).toArray⟩) := by rw [← hin]; exact HXE
     have hsz1 : ¬ 9223372036854775807 < x.size + 1 := by omega
     have hxn : x.size ≤ 2 * n := by omega
     clear HXE hin
     go_wp2_with fail
     rename World => wd
     go_loopw [11, 13] (fun u11 u13 wr => ∃ (j : Nat) (y : ByteArray), u11 = .string y ∧ u13 = .int .i64 (j : Int) ∧ j ≤ n ∧ y.size ≤ 2 * n + 1 + j ∧ Hid (y = ⟨(opens n ++ 42 :: List.replicate j 41).toArray⟩) ∧ wr = wd)
      (fun _ u13 _ => n - (intOf u13).toNat)
     case atStart => exact ⟨0, _, rfl, rfl, Nat.zero_le _, by rw [ByteArray.size_append]; show x.size + 1 ≤ _; omega, Lib.hid (by rw [HXN.out, ba_app]; rfl), rfl⟩
     case round =>
      obtain ⟨j, y, rfl, rfl, hjn, hys, HYE, rfl⟩ := hrel
      have hsz2 : ¬ 9223372036854775807 < y.size + 1 := by omega
      by_cases hlt : j < n
      ·have hltI : (j : Int) < (n : Int) := by omega
       go_wp2
       go_roundw
       case rel => exact ⟨j + 1, _, rfl, by go_num, by omega, by rw [ByteArray.size_append]; show y.size + 1 ≤ _; omega, Lib.hid (by rw [HYE.out, ba_app, ← closes_snoc]; simp), trivial⟩
       case measure => simp [intOf]; omega
      ·have hltI : ¬ (j : Int) < (n : Int) := by omega
       have hjn2 : j = n := by omega
       have HYN : Hid (notsB n = y) := Lib.hid (by rw [HYE.out, hjn2]; rfl)
       clear HYE hjn2
       obtain ⟨cd, hcd⟩ : ∃ cd, codeD n = cd := ⟨_, rfl⟩
       have HP := Lib.hid (parse92n wr n (by omega) cd hcd y HYN.out)
       have hMO := MF.of_rows (m := ors k) (lo' := O + 1) (v3 := .slice none 0 0) (v4 := .slice A k c) (cells := cells) (World.ownsRow_nil _ _ _ _) (by rw [show (ors k).f4.length = k from List.length_replicate]; exact HR.out.1) HR.out.2 (Nat.le_refl _)
       obtain ⟨F3, gg3, F4, gg4, ev3, ev4, hMO⟩ := hMO
       cases ev3
       rw [show (ors k).f4.length = k from List.length_replicate] at ev4
       cases ev4
       have HMO2 := Lib.hid hMO
       have HCD := Lib.hid hcd
       clear hMO hcd
       go_wp2_with fail
       (with_reducible refine HP.out.mono ?_)
       rintro ee w5 ⟨x0, x1, x2, B3, n3, c3, B4, n4, c4', rfl, hb5⟩
       obtain ⟨W5, eW5⟩ : ∃ W5, W5 = w5.alloc (.cells #[.int .i64 x0, .string x1, .string x2, .slice B3 n3 c3, .slice B4 n4 c4'] 25) := ⟨_, rfl⟩
       have hbW : Below wr.heap.size wr W5 := by rw [eW5]; exact below_alloc hb5 _
       have HO5 := Lib.hid ((hbW.block O (blk_lt HO.out)).trans HO.out)
       have HX5 := Lib.hid ((hbW.block M (blk_lt HX1.out)).trans HX1.out)
       have HB5 := Lib.hid (below_step HB.out hbW)
       have HN5 : Hid (MF W5 (fun b => M + 1 ≤ b ∧ b < O) (nots n) none 0 A4 c4) := Lib.hid (HMF.out.move (fun b hb => ⟨hb, hbW.block b (by have := blk_lt HO.out; have := hb.2; omega)⟩))
       have HK5 : Hid (MF W5 (fun b => O + 1 ≤ b ∧ b < W5.heap.size) (ors k) none 0 A c) := Lib.hid (HMO2.out.move (fun b hb => ⟨⟨hb.1, by have := hb.2; have := hbW.size; omega⟩, hbW.block b hb.2⟩))
       clear HP HO HX1 HB HMF HMO2 hb5 hbW HR HXN HYN HS
       have hcn : ∀ W, MC W (nots n) none 0 A4 c4 → Calls Try.prog 53 #[.agg #[.int .i64 f, .string ⟨#[]⟩, .string ⟨#[]⟩, .slice none 0 0, .slice A4 l c4]] W fun e w' => e = .returned (.bool (decide ((n : Int) + 1 ≤ 8))) ∧ Below W.heap.size W w' := fun W hM => by
        have h := check53v W (nots n) none 0 A4 c4 _ (chk_nots n (by omega)) hM
        have e1 : (nots n).f1 = ⟨#[]⟩ ∧ (nots n).f2 = ⟨#[]⟩ ∧ (nots n).f3 = [] := by cases n <;> exact ⟨rfl, rfl, rfl⟩
        rw [e1.1, e1.2.1, e1.2.2, ← HF.out.1, ← HF.out.2] at h
        exact h
       have hck : ∀ W, MC W (ors k) none 0 A c → Calls Try.prog 53 #[.agg #[.int .i64 6, .string ⟨#[]⟩, .string ⟨#[]⟩, .slice none 0 0, .slice A k c]] W fun e w' => e = .returned (.bool (decide ((k : Int) + 1 ≤ 64))) ∧ Below W.heap.size W w' := fun W hM => by
        have h := check53v W (ors k) none 0 A c _ (chk_ors k (by omega)) hM
        rw [show (ors k).f4.length = k from List.length_replicate] at h
        exact h
       have HCN := Lib.hid hcn
       have HCK := Lib.hid hck
       clear hcn hck
       obtain ⟨v8, hv8⟩ : ∃ v, decide ((n : Int) + 1 ≤ 8) = v := ⟨_, rfl⟩
       obtain ⟨v64, hv64⟩ : ∃ v, decide ((k : Int) + 1 ≤ 64) = v := ⟨_, rfl⟩
       rw [hv8] at HCN
       rw [hv64] at HCK
       have hw8 : wrap64 ((n : Int) + 1) = (n : Int) + 1 := by unfold wrap64; omega
       have hw64 : wrap64 ((k : Int) + 1) = (k : Int) + 1 := by unfold wrap64; omega
       have hcases : (n = 8 ∧ cd = 17) ∨ (8 < n ∧ cd = 18) ∨ (n < 8 ∧ cd = 0) := by
        have h := HCD.out
        unfold codeD at h
        rcases Nat.lt_trichotomy n 8 with h8 | h8 | h8
        ·rw [if_neg (by omega), if_neg (by omega)] at h; exact Or.inr (Or.inr ⟨h8, h.symm⟩)
        ·rw [if_pos h8] at h; exact Or.inl ⟨h8, h.symm⟩
        ·rw [if_neg (by omega), if_pos h8] at h; exact Or.inr (Or.inl ⟨h8, h.symm⟩)
       clear HCD
       have y0 := blk_cell HX5.out 0
       have y1 := blk_cell HX5.out 1
       have y2 := blk_cell HX5.out 2
       have y3 := blk_cell HX5.out 3
       have y4 := blk_cell HX5.out 4
       simp only [List.getElem?_toArray, List.getElem?_cons_zero, List.getElem?_cons_succ] at y0 y1 y2 y3 y4
       have EW5 := Lib.hid eW5
       clear eW5
       rcases hcases with ⟨h8, rfl⟩ | ⟨h8, rfl⟩ | ⟨h8, rfl⟩
       ·have t1 : ((n : Int) == 8) = true := beq_iff_eq.2 (by omega)
        have t2 : decide ((8 : Int) < (n : Int)) = false := decide_eq_false (by omega)
        have t3 : ¬ (8 : Int) < (n : Int) := by omega
        clear h8
        go_upto_region 29 with fail
        rw [← EW5.out]
        go_wp2_with fail
        (with_reducible refine (HCN.out W5 HN5.out.now).mono ?_)
        rintro ee w6 ⟨rfl, hb6⟩
        have hO6 := (hb6.block O (blk_lt HO5.out)).trans HO5.out
        have x0 := blk_cell hO6 0
        have x1 := blk_cell hO6 1
        have x2 := blk_cell hO6 2
        have x3 := blk_cell hO6 3
        have x4 := blk_cell hO6 4
        simp only [List.getElem?_toArray, List.getElem?_cons_zero, List.getElem?_cons_succ] at x0 x1 x2 x3 x4
        have HK6 := Lib.hid (HK5.out.now.below hb6)
        have HB6 := Lib.hid (below_step HB5.out hb6)
        clear hO6 hb6
        cases v8
        all_goals
         cases v64
         all_goals
          go_wp2_with fail
          (with_reducible refine (HCK.out w6 HK6.out).mono ?_)
          rintro ee w7 ⟨rfl, hb7⟩
          have HB7 := Lib.hid (below_step HB6.out hb7)
          clear hb7
          go_wp2_with fail
          (with_reducible refine (awake52 w7).mono ?_)
          rintro ee w8 ⟨rfl, hb8⟩
          go_wp2
          go_ret
          exact ⟨rfl, below_step HB7.out hb8⟩
       ·have t1 : ((n : Int) == 8) = false := beq_eq_false_iff_ne.2 (by omega)
        have t0 : ¬ (n : Int) = 8 := by omega
        have t2 : decide ((8 : Int) < (n : Int)) = true := decide_eq_true (by omega)
        have t3 : (8 : Int) < (n : Int) := by omega
        clear h8
        go_upto_region 29 with fail
        rw [← EW5.out]
        go_wp2_with fail
        (with_reducible refine (HCN.out W5 HN5.out.now).mono ?_)
        rintro ee w6 ⟨rfl, hb6⟩
        have hO6 := (hb6.block O (blk_lt HO5.out)).trans HO5.out
        have x0 := blk_cell hO6 0
        have x1 := blk_cell hO6 1
        have x2 := blk_cell hO6 2
        have x3 := blk_cell hO6 3
        have x4 := blk_cell hO6 4
        simp only [List.getElem?_toArray, List.getElem?_cons_zero, List.getElem?_cons_succ] at x0 x1 x2 x3 x4
        have HK6 := Lib.hid (HK5.out.now.below hb6)
        have HB6 := Lib.hid (below_step HB5.out hb6)
        clear hO6 hb6
        cases v8
        all_goals
         cases v64
         all_goals
          go_wp2_with fail
          (with_reducible refine (HCK.out w6 HK6.out).mono ?_)
          rintro ee w7 ⟨rfl, hb7⟩
          have HB7 := Lib.hid (below_step HB6.out hb7)
          clear hb7
          go_wp2_with fail
          (with_reducible refine (awake52 w7).mono ?_)
          rintro ee w8 ⟨rfl, hb8⟩
          go_wp2
          go_ret
          exact ⟨rfl, below_step HB7.out hb8⟩
       ·have t1 : ((n : Int) == 8) = false := beq_eq_false_iff_ne.2 (by omega)
        have t0 : ¬ (n : Int) = 8 := by omega
        have t2 : decide ((8 : Int) < (n : Int)) = false := decide_eq_false (by omega)
        have t3 : ¬ (8 : Int) < (n : Int) := by omega
        clear h8
        go_upto_region 29 with fail
        rw [← EW5.out]
        go_wp2_with fail
        (with_reducible refine (HCN.out W5 HN5.out.now).mono ?_)
        rintro ee w6 ⟨rfl, hb6⟩
        have hO6 := (hb6.block O (blk_lt HO5.out)).trans HO5.out
        have x0 := blk_cell hO6 0
        have x1 := blk_cell hO6 1
        have x2 := blk_cell hO6 2
        have x3 := blk_cell hO6 3
        have x4 := blk_cell hO6 4
        simp only [List.getElem?_toArray, List.getElem?_cons_zero, List.getElem?_cons_succ] at x0 x1 x2 x3 x4
        have HK6 := Lib.hid (HK5.out.now.below hb6)
        have HB6 := Lib.hid (below_step HB5.out hb6)
        clear hO6 hb6
        cases v8
        all_goals
         cases v64
         all_goals
          go_wp2_with fail
          (with_reducible refine (HCK.out w6 HK6.out).mono ?_)
          rintro ee w7 ⟨rfl, hb7⟩
          have HB7 := Lib.hid (below_step HB6.out hb7)
          clear hb7
          go_wp2_with fail
          (with_reducible refine (awake52 w7).mono ?_)
          rintro ee w8 ⟨rfl, hb8⟩
          go_wp2
          go_ret
          exact ⟨rfl, below_step HB7.out hb8⟩
end Go.Proofs.Yteafilojjdfllaa
end
section
namespace Go.Proofs.Yteafilojjdfllaa.matchDeep
open Go.ChangeShapes Go.WideShapes Go.ChangeAt Go.RowKit Go.Proofs.YteafilojjdfllaaW.PrintWords Go.Proofs.Yteafilojjdfllaa.PAll
set_option linter.unusedVariables false
set_option maxRecDepth 100000 in
theorem lifted (os : Os) (started : os.Started) (H : Type) (enc : TypeId × Value → H) :
  ReturnsInHanded {} Try.checked os 30 .any (Rows.matchDeepSpec.pre6 enc Try.prog Try.f30 Rows.matchDeepRow.domain false) (Rows.matchDeepSpec.post enc Try.prog Try.f30 false true false false) := by
 refine returnsInHanded_of_change_sized (C := Try.checked) own started (by kernel_rfl) Try.func30
  (ChangeSpec.witness6 (enc := enc) (C := Try.checked) false ⟨#[], #[.int .i64 0, .int .i64 0], []⟩ 20 (by kernel_rfl) (by kernel_rfl) (by kernel_rfl) (by kernel_rfl)) ?_
 intro W base args ds gs before hval0 hW hcnd hsz0 _
 have hsz : (DataW.weightsEach Try.prog (Try.f30.params.toList ++ Rows.matchDeepSpec.plain.varTypes Try.prog) (ds ++ gs)).all (· ≤ reachBytes) = true := hsz0
 have hval : ∀ (j : Nat) t v, Try.f30.params[j]? = some t → args[j]? = some v → Value.okWide Try.prog W .any base t v := hval0
 have hW' := hW
 obtain ⟨p, q, hA0, hV, rfl, hfz, hnd⟩ := hW
 have hA : DataW.TrodAll enc Try.prog W 0 (fun _ => true) true Try.f30.params.toList args.toList ds p := hA0
 rw [Try.params30] at hA hval hsz
 have hA0' := hA0
 obtain ⟨v0, vs0, d0, ds0, p0, q0, hargs, rfl, rfl, h0, r0⟩ := trodAll_cons hA
 obtain ⟨v1, vs1, d1, ds1, p1, q1, rfl, rfl, rfl, h1, r1⟩ := trodAll_cons r0
 obtain ⟨rfl, rfl, rfl⟩ := trodAll_nil r1
 obtain rfl : args = #[v0, v1] := by cases args; simp_all
 obtain ⟨rfl, rfl⟩ := trodVars_none hV
 obtain ⟨a0, rfl, rfl, rfl, w0⟩ := open_int Try.underlying3 (hval 0 3 v0 rfl rfl) h0
 obtain ⟨a1, rfl, rfl, rfl, w1⟩ := open_int Try.underlying3 (hval 1 3 v1 rfl rfl) h1
 clear hA0 hval0
 refine (matchDeep_walk W a0 a1).mono fun e W' ⟨he, bel⟩ => ?_
 subst he
 exact ⟨_, rfl, _, _, _, [], _, [], hW', trodAll_mk1 (shut_bool Try.underlying4 _), trodAll_below bel (by rw [Try.params30]; intro t ht; simp only [List.mem_cons, List.not_mem_nil, or_false] at ht; rcases ht with rfl | rfl <;> exact ⟨by kernel_rfl, of_decide_eq_true (by kernel_rfl)⟩) hA0', rfl, bel.frame _, fun h => by cases h⟩
theorem closed : joinedFacts Try.prog 30 Try.f30 Rows.matchDeepSpec Rows.matchDeepRow = true := by
 unfold joinedFacts
 rw [pf_laid, pf_maps, pf_stops, pf_knobs, pf_plain, pf_heard, pf_enter, pf_lifts, pf_make]
 kernel_rfl
theorem inst : Try.f30.isInstance Try.prog Rows.matchDeepRow.origin Rows.matchDeepRow.targs := of_decide_eq_true (by kernel_rfl)
theorem wrap : Try.f30.isWrapper Try.prog Rows.matchDeepRow.wrapper Rows.matchDeepRow.mainSum := by
 unfold Func.isWrapper; first | (rw [if_pos (by decide +kernel)]; kernel_rfl) | (rw [if_neg (by decide +kernel)]; exact ⟨rfl, rfl⟩)
theorem over : Rows.matchDeepRow.holds Try.pinned (OpenSpec.ofChange Rows.matchDeepSpec) :=
 OpenClaim.holds_of_wide 30 Try.f30 rfl rfl rfl rfl rfl rfl rfl ⟨rfl, rfl, rfl, rfl, rfl⟩ rfl rfl rfl rfl rfl (by kernel_rfl) Try.func30 closed inst wrap
  (fun os started H enc _ => lifted os started H enc)
end Go.Proofs.Yteafilojjdfllaa.matchDeep
namespace Go.Proofs.Yteafilojjdfllaa
theorem matchDeep_holds : Rows.MatchDeepSaid := matchDeep.over
#print axioms matchDeep_holds
end Go.Proofs.Yteafilojjdfllaa
end
