/- A part of the proof of TombBytes. No condition. -/
import Derived.Test.YteafilojjdfllaaZTombBytesC
set_option linter.unusedVariables false
set_option linter.unusedSimpArgs false
set_option maxRecDepth 100000
set_option maxHeartbeats 200000000
section
namespace Go.Proofs.Yteafilojjdfllaa
open Go Go.RowKit Go.Proofs.YteafilojjdfllaaW.PrintWords Go.Proofs.YteafilojjdfllaaW.PrintLast Go.Proofs.YteafilojjdfllaaW.PrintMore Go.Proofs.Yteafilojjdfllaa.PAll
theorem zDp {most k n : Nat} {bs t r : List UInt8} (hn : bs.length = n) (hk : k ≤ n) (h : decT most (bs.drop k) = some (t, r)) : ∃ k1 : Nat, k < k1 ∧ k1 ≤ n ∧ (n : Int) - (r.length : Nat) = (k1 : Int) ∧ bs.drop k1 = r ∧ t.length ≤ most := by
 have h0 := h
 unfold decT at h
 split at h
 ·cases h
 next m q hq =>
 split at h
 ·next hm =>
  simp only [Option.some.injEq, Prod.mk.injEq] at h
  obtain ⟨rfl, rfl⟩ := h
  have h1 := (zCo _ _ _ hq).trans (List.drop_suffix k bs)
  have h2 := (List.drop_suffix m q).trans h1
  have h3 := zEh h0
  have h4 : (bs.drop k).length = n - k := by rw [List.length_drop, hn]
  have h5 := h2.length_le
  refine ⟨n - (q.drop m).length, by omega, by omega, by omega, ?_, h3.2⟩
  rw [← hn]
  exact (List.suffix_iff_eq_drop.1 h2).symm
 cases h
theorem zEs {bs r : List UInt8} {j most : Nat} (hr : bs.drop j = r) : rdTxt most bs (j : Int) = (decT most r).map (fun q => (.string ⟨q.1.toArray⟩, q.2)) := by
 unfold rdTxt textW
 rw [if_neg (by omega), Int.toNat_natCast, hr]
theorem getW_at {bs r : List UInt8} {j : Nat} (hr : bs.drop j = r) : getW bs (j : Int) = decV 0 0 r := by
 unfold getW
 rw [if_neg (by omega), Int.toNat_natCast, hr]
theorem RDPost.none_ {w0 w w' : World} {g : Nat} {A : Option Addr} {n c : Nat} {k : Int} {e : Ending} (h : RDPost w0 w g A n c k none e w') : e = .panicked badP ∧ Below w0.heap.size w0 w' ∧ KeepBut w w' g none := by
 obtain ⟨h1, h2, ⟨-, h3⟩ | ⟨v, r, h3, -⟩⟩ := h
 ·exact ⟨h3, h1, h2⟩
 cases h3
theorem RDPost.some_ {w0 w w' : World} {g : Nat} {A : Option Addr} {n c : Nat} {k : Int} {e : Ending} {v : Value} {r : List UInt8} {j : Int} (h : RDPost w0 w g A n c k (some (v, r)) e w') (hj : (n : Int) - (r.length : Nat) = j) : e = .returned v ∧ Below w0.heap.size w0 w' ∧ KeepBut w w' g none ∧ RD w' g A n c j k := by
 obtain ⟨h1, h2, ⟨h3, -⟩ | ⟨v', r', h3, h4, h5⟩⟩ := h
 ·cases h3
 simp only [Option.some.injEq, Prod.mk.injEq] at h3
 obtain ⟨rfl, rfl⟩ := h3
 rw [hj] at h5
 exact ⟨h4, h1, h2, h5⟩
theorem zEr {w0 w W : World} {g K : Nat} {o : Obj} {m : S25} {A3 A4 : Option Addr} {c3 c4 : Nat} (hK : K = w.heap.size) (hb : W.heap[K]? = some (.cells Z5 25 (0, 0))) (hg : w0.heap.size ≤ g) (hgl : g < w.heap.size) (hw0 : w0.heap.size ≤ w.heap.size) (hB : Below w0.heap.size w0 W) (hKB : KeepBut w W g none) (hO : W.heap[g]? = some o) (hM : MF W (fun b => K < b ∧ b < W.heap.size) m A3 c3 A4 c4) :
  (((((W.setCell ⟨K, 0, none⟩ (.int .i64 m.f0)).setCell ⟨K, 1, none⟩ (.string m.f1)).setCell ⟨K, 2, none⟩ (.string m.f2)).setCell ⟨K, 3, none⟩ (.slice A3 m.f3.length c3)).setCell ⟨K, 4, none⟩ (.slice A4 m.f4.length c4)).heap[K]? = some (.cells #[.int .i64 m.f0, .string m.f1, .string m.f2, .slice A3 m.f3.length c3, .slice A4 m.f4.length c4] 25 (0, 0)) ∧
  RedPost w0 w g (some (m, o)) (.returned (mV m A3 c3 A4 c4)) (((((W.setCell ⟨K, 0, none⟩ (.int .i64 m.f0)).setCell ⟨K, 1, none⟩ (.string m.f1)).setCell ⟨K, 2, none⟩ (.string m.f2)).setCell ⟨K, 3, none⟩ (.slice A3 m.f3.length c3)).setCell ⟨K, 4, none⟩ (.slice A4 m.f4.length c4)) := by
 have far : ∀ i, i ≠ K → (((((W.setCell ⟨K, 0, none⟩ (.int .i64 m.f0)).setCell ⟨K, 1, none⟩ (.string m.f1)).setCell ⟨K, 2, none⟩ (.string m.f2)).setCell ⟨K, 3, none⟩ (.slice A3 m.f3.length c3)).setCell ⟨K, 4, none⟩ (.slice A4 m.f4.length c4)).heap[i]? = W.heap[i]? := fun i hne =>
  (Below.heap_setCell _ _ _ _ hne).trans ((Below.heap_setCell _ _ _ _ hne).trans ((Below.heap_setCell _ _ _ _ hne).trans ((Below.heap_setCell _ _ _ _ hne).trans (Below.heap_setCell _ _ _ _ hne))))
 have hwK : w0.heap.size ≤ K := by omega
 have hs : ∀ x0 x1 x2 x3 x4, (((((W.setCell ⟨K, 0, none⟩ x0).setCell ⟨K, 1, none⟩ x1).setCell ⟨K, 2, none⟩ x2).setCell ⟨K, 3, none⟩ x3).setCell ⟨K, 4, none⟩ x4).heap.size = W.heap.size := fun _ _ _ _ _ => by simp
 refine ⟨(zAn (zAn (zAn (zAn (zAn hb 0 _) 1 _) 2 _) 3 _) 4 _).trans (by rfl), ?_, ?_, Or.inr ⟨m, o, A3, c3, A4, c4, rfl, rfl, ?_, ?_⟩⟩
 ·exact ((((hB.setCell hwK _).setCell hwK _).setCell hwK _).setCell hwK _).setCell hwK _
 ·refine ⟨by rw [hs]; exact hKB.1, fun i hi h1 h2 => ?_⟩
  exact (far i (by omega)).trans (hKB.2 i hi h1 h2)
 ·refine hM.move (fun b hb => ⟨⟨by omega, by rw [hs]; exact hb.2⟩, far b (by omega)⟩)
 exact (far g (by omega)).trans hO
theorem matcher140e1 (w0 w : World) (g : Nat) (A : Option Addr) (n c : Nat) (bs : List UInt8) (at_ : Int) (left d : Nat) (hl : left ≤ 1000) (hd8 : d ≤ 7) (hn : bs.length = n) (hnl : n ≤ 1000000000000000) (r : List UInt8) (j : Nat) (hnc : n ≤ c) (hj : (n : Int) - (r.length : Nat) = (j : Int)) (hr : bs.drop j = r) (hq0 : getW bs at_ = some (1, r)) (hg : w0.heap.size ≤ g) (hB : Below w0.heap.size w0 w) (hS : RD w g A n c at_ ((left + 1 : Nat) : Int)) (hC0 : (Kd.int .u8).C w0 A bs.length (bys bs)) (dz : Int) (hdz : dz = 8 - d) :
  Calls Try.prog 140 #[.pointer (some ⟨g, 0, none⟩), .int .i64 dz] w (RedPost w0 w g (redW A n c bs at_ (d + 1) (left + 1))) := by
 have hq : zDb 7 bs at_ = some (.int .i64 1, r) := by unfold zDb; rw [hq0]; rfl
 have hQ : redW A n c bs at_ (d + 1) (left + 1) = (match decT 32 r with
    | none => none
    | some (nm, r2) => match decT 64 r2 with
     | none => none
     | some (v, r3) => some (⟨1, ⟨nm.toArray⟩, ⟨v.toArray⟩, [], []⟩, .cells #[.slice A n c, .int .i64 ((n : Int) - (r3.length : Nat)), .int .i64 left] 164 (0, 0))) := by
  unfold getW at hq0
  unfold redW
  split
  ·next hi => rw [if_pos hi] at hq0; cases hq0
  ·next hi =>
   rw [if_neg hi] at hq0
   rw [decM, hq0]
   simp only
   rw [if_neg (by decide), if_pos (by decide)]
   all_goals
    cases decT 32 r with
    | none => rfl
    | some q =>
     simp only
     cases decT 64 q.2 with
     | none => rfl
     | some q2 => rfl
 obtain ⟨Q, eQ⟩ : ∃ Q, redW A n c bs at_ (d + 1) (left + 1) = Q := ⟨_, rfl⟩
 rw [eQ]
 have HQ := zH (eQ.symm.trans hQ)
 have HN := zH hn
 have HC0 := zH hC0
 have HR := zH hr
 clear hQ hq0 eQ
 have hgl := hS.lt
 have hS2 : RD (w.alloc (.cells Z5 25)) g A n c at_ ((left + 1 : Nat) : Int) := (Below.heap_alloc _ _ _ hgl).trans hS
 have hw1 : wrap64 (((left + 1 : Nat) : Int) - 1) = (left : Int) := by unfold wrap64; omega
 have hd1 : ¬ (left : Int) < 0 := by omega
 have hd2 : ¬ (8 : Int) < dz := by omega
 have hdd1 : decide ((left : Int) < 0) = false := zF hd1
 have hdd2 : decide ((8 : Int) < dz) = false := zF hd2
 have g2 := hS2.c2
 have z2 := hS2.z2
 obtain ⟨V, eV⟩ : ∃ V, V = (w.alloc (.cells Z5 25)).setCell ⟨g, 2, none⟩ (.int .i64 left) := ⟨_, rfl⟩
 have hBV : Below w0.heap.size w0 V := by rw [eV]; exact (zAc hB _).setCell hg _
 have hKV : KeepBut w V g none := by rw [eV]; exact (KeepBut.of_below (zAc (Below.refl w.heap.size w) _) g none).set_ _ _
 have hSV : RD V g A n c at_ (left : Int) := by rw [eV]; exact hS2.set2 _
 have h1 := zCp w0 V g A n c bs at_ left 7 7 rfl (by decide) hn hnl hg hBV hSV hC0
 rw [hq] at h1
 have H1 := zH h1
 have HK := zH hKV
 have hV4 : V.heap[w.heap.size]? = some (.cells Z5 25 (0, 0)) := by rw [eV]; exact (Below.heap_setCell _ _ _ _ (by simp; omega)).trans (zAs w _)
 have HV4 := zH hV4
 have HG := zH hgl
 have HW := zH hB.size
 have HDZ := zH hdz
 clear hV4
 clear hS hB hS2 hgl hBV hKV hSV h1 hC0 hn hdz hr
 go_enter Try.func140, Try.ntmps140
 go_wp2_with fail
 rw [← eV]
 refine H1.out.mono ?_
 intro e w1 hp1
 obtain ⟨rfl, hB1, hK1, hRD⟩ := hp1.some_ hj
 have k4 := (hK1.2 w.heap.size (zAp HV4.out) (by have := HG.out; omega) (by simp)).trans HV4.out
 obtain ⟨K, eK⟩ : ∃ K, w.heap.size = K := ⟨_, rfl⟩
 rw [eK] at k4 ⊢
 have EK := zH eK.symm
 have HKW := zH (HK.out.trans hK1 (Or.inl rfl))
 have hKl := zAp k4
 obtain ⟨W, eW⟩ : ∃ W, W = w1.alloc (.cells #[.int .i64 1, .string ⟨#[]⟩, .string ⟨#[]⟩, .slice none 0 0, .slice none 0 0] 25) := ⟨_, rfl⟩
 obtain ⟨G, eG⟩ : ∃ G, w1.heap.size = G := ⟨_, rfl⟩
 have b5 : W.heap[G]? = some (.cells #[.int .i64 1, .string ⟨#[]⟩, .string ⟨#[]⟩, .slice none 0 0, .slice none 0 0] 25 (0, 0)) := by rw [eW, ← eG]; exact zAs w1 _
 have b4 : W.heap[K]? = some (.cells Z5 25 (0, 0)) := by rw [eW]; exact (Below.heap_alloc _ _ _ hKl).trans k4
 have hBW : Below w0.heap.size w0 W := by rw [eW]; exact zAc hB1 _
 have hKW : KeepBut w W g none := by rw [eW]; exact HKW.out.trans (KeepBut.of_below (zAc (Below.refl w1.heap.size w1) _) g none) (Or.inl rfl)
 have hRW : RD W g A n c (j : Int) left := by rw [eW]; exact (Below.heap_alloc _ _ _ hRD.lt).trans hRD
 have HGW := zH (show g < K ∧ K < G ∧ W.heap.size = G + 1 from ⟨by have := HG.out; omega, by omega, by rw [eW, World.size_alloc, eG]⟩)
 clear eK hB1 hK1 hp1 hRD hKl k4 eV H1 HK HV4 HKW
 have h2 := zFv w0 W g A n c bs (j : Int) (left : Int) 32 32 rfl (by decide) HN.out hnc hnl hg hBW hRW HC0.out
 rw [zEs HR.out] at h2
 have HB5 := zH b5
 have HB4 := zH b4
 have HKW := zH hKW
 have HRr := zH (show j ≤ n by omega)
 clear b5 b4 hKW hBW hRW hj
 cases hq1 : decT 32 r with
 | none =>
  rw [hq1] at h2
  have H2 := zH h2
  have HQ1 := zH (show Q = none by rw [HQ.out, hq1])
  clear h2 hq1
  go_wp2_with fail
  rw [← eW]
  refine H2.out.mono ?_
  intro e w9 hp9
  obtain ⟨rfl, hB9, hK9⟩ := hp9.none_
  exact ⟨rfl, hB9, HKW.out.trans hK9 (Or.inl rfl), Or.inl ⟨HQ1.out, rfl⟩⟩
 | some q1 =>
 obtain ⟨nm, r2⟩ := q1
 obtain ⟨j2, hj2, hj2n, hj2I, hr2, -⟩ := zDp HN.out HRr.out (by rw [HR.out]; exact hq1)
 rw [hq1] at h2
 obtain ⟨x1, ex1⟩ : ∃ x : ByteArray, (⟨nm.toArray⟩ : ByteArray) = x := ⟨_, rfl⟩
 have H2 := zH h2
 have HQ1 := zH (HQ.out.trans (by rw [hq1]))
 clear h2 hq1
 go_wp2_with fail
 rw [← eW]
 refine H2.out.mono ?_
 intro e w3 hp3
 obtain ⟨rfl, hB3, hK3, hRD3⟩ := hp3.some_ hj2I
 have h3 := zFv w0 w3 g A n c bs (j2 : Int) (left : Int) 64 64 rfl (by decide) HN.out hnc hnl hg hB3 hRD3 HC0.out
 rw [zEs hr2] at h3
 have HK3 := zH (HKW.out.trans hK3 (Or.inl rfl))
 obtain ⟨hg1, hg2, hg3⟩ := HGW.out
 have c5 := (hK3.2 G (by omega) (by omega) (by simp)).trans HB5.out
 have c4 := (hK3.2 K (by omega) (by omega) (by simp)).trans HB4.out
 have hs3 := hK3.1
 clear hp3 hB3 hK3 hRD3 H2 eW HB5 HB4 hj2 hj2I
 cases hq2 : decT 64 r2 with
 | none =>
  rw [hq2] at h3
  have H3 := zH h3
  have HQ2 := zH (show Q = none by rw [HQ1.out, hq2])
  clear h3 hq2 c4 c5 hs3
  go_wp2_with fail
  refine H3.out.mono ?_
  intro e w9 hp9
  obtain ⟨rfl, hB9, hK9⟩ := hp9.none_
  exact ⟨rfl, hB9, HK3.out.trans hK9 (Or.inl rfl), Or.inl ⟨HQ2.out, rfl⟩⟩
 | some q2 =>
 obtain ⟨vl, r3⟩ := q2
 obtain ⟨j3, hj3, hj3n, hj3I, hr3, -⟩ := zDp HN.out hj2n (by rw [hr2]; exact hq2)
 rw [hq2] at h3
 obtain ⟨x2, ex2⟩ : ∃ x : ByteArray, (⟨vl.toArray⟩ : ByteArray) = x := ⟨_, rfl⟩
 simp only [Option.map_some, ex2] at h3
 have HQ2 := zH (show Q = some (⟨1, x1, x2, [], []⟩, .cells #[.slice A n c, .int .i64 (j3 : Int), .int .i64 left] 164 (0, 0)) by rw [HQ1.out, hq2]; simp only [ex1, ex2, hj3I])
 have H3 := zH h3
 have C4 := zH c4
 have C5 := zH c5
 clear h3 hq2 c4 c5
 go_wp2_with fail
 refine H3.out.mono ?_
 intro e w4 hp4
 obtain ⟨rfl, hB4, hK4, hRD4⟩ := hp4.some_ hj3I
 have d5 := (hK4.2 G (by omega) (by omega) (by simp)).trans C5.out
 have d4 := (hK4.2 K (by omega) (by omega) (by simp)).trans C4.out
 have hs4 := hK4.1
 have HB4 := zH hB4
 have HK4 := zH (HK3.out.trans hK4 (Or.inl rfl))
 have HRD4 := zH hRD4
 have D4 := zH d4
 have D5 := zH d5
 have y0 := zAb d5 0
 have z0 := zAa d5 0
 have y1 := zAb d5 1
 have z1 := zAa d5 1
 have y2 := zAb d5 2
 have z2 := zAa d5 2
 have y3 := zAb d5 3
 have z3 := zAa d5 3
 have y4 := zAb d5 4
 have z4 := zAa d5 4
 simp only [zC, zA, zB] at y0 y1 y2 y3 y4
 have yK0 := zAb d4 0
 have zK0 := zAa d4 0
 have yK1 := zAb d4 1
 have zK1 := zAa d4 1
 have yK2 := zAb d4 2
 have zK2 := zAa d4 2
 have yK3 := zAb d4 3
 have zK3 := zAa d4 3
 have yK4 := zAb d4 4
 have zK4 := zAa d4 4
 simp only [zC, zA, zB] at yK0 yK1 yK2 yK3 yK4
 have HX := zH (And.intro hg1 (And.intro hg2 (And.intro hg3 (And.intro hs3 hs4))))
 have hne : G ≠ K := by omega
 have hne2 : K ≠ G := by omega
 clear hp4 hB4 hK4 hRD4 d4 d5 H3 C4 C5 hj3 hj3I hg1 hg2 hg3 hs3 hs4 HGW eG hj2n hj3n hr2 hr3
 go_wp2
 refine wp_loop_rounds 1 ?_
 rw [rounds_succ]
 go_wp2
 obtain ⟨hg1, hg2, hg3, hs3, hs4⟩ := HX.out
 have hT := zEr (m := ⟨1, x1, x2, [], []⟩) (A3 := none) (c3 := 0) (A4 := none) (c4 := 0) (W := (w4.setCell ⟨G, 1, none⟩ (.string x1)).setCell ⟨G, 2, none⟩ (.string x2)) (w := w) (o := .cells #[.slice A n c, .int .i64 (j3 : Int), .int .i64 (left : Int)] 164 (0, 0)) EK.out ((Below.heap_setCell _ _ _ _ hne2).trans ((Below.heap_setCell _ _ _ _ hne2).trans D4.out)) hg HG.out HW.out ((HB4.out.setCell (by have := HW.out; have := EK.out; simp; omega) _).setCell (by have := HW.out; have := EK.out; simp; omega) _) ⟨by have := HK4.out.1; simpa using this, fun i hi h1 h2 => by
   have hiG : i ≠ G := by have := EK.out; omega
   exact (Below.heap_setCell _ _ _ _ hiG).trans ((Below.heap_setCell _ _ _ _ hiG).trans (HK4.out.2 i hi h1 h2))⟩ (by
   have hgG : g ≠ G := by omega
   exact (Below.heap_setCell _ _ _ _ hgG).trans ((Below.heap_setCell _ _ _ _ hgG).trans HRD4.out)) (fun X _ => ⟨Nat.le_refl _, Kd.C_nil _ _, Nat.le_refl _, Kd.C_nil _ _⟩)
 rw [HQ2.out]
 exact bodyPost_ret (zAt rfl (.cell K 25 _ (0, 0) _ rfl hT.1 Try.underlying25 rfl (by kernel_rfl) .nil)) rfl hT.2
theorem matcher140e2 (w0 w : World) (g : Nat) (A : Option Addr) (n c : Nat) (bs : List UInt8) (at_ : Int) (left d : Nat) (hl : left ≤ 1000) (hd8 : d ≤ 7) (hn : bs.length = n) (hnl : n ≤ 1000000000000000) (r : List UInt8) (j : Nat) (hnc : n ≤ c) (hj : (n : Int) - (r.length : Nat) = (j : Int)) (hr : bs.drop j = r) (hq0 : getW bs at_ = some (2, r)) (hg : w0.heap.size ≤ g) (hB : Below w0.heap.size w0 w) (hS : RD w g A n c at_ ((left + 1 : Nat) : Int)) (hC0 : (Kd.int .u8).C w0 A bs.length (bys bs)) (dz : Int) (hdz : dz = 8 - d) :
  Calls Try.prog 140 #[.pointer (some ⟨g, 0, none⟩), .int .i64 dz] w (RedPost w0 w g (redW A n c bs at_ (d + 1) (left + 1))) := by
 have hq : zDb 7 bs at_ = some (.int .i64 2, r) := by unfold zDb; rw [hq0]; rfl
 have hQ : redW A n c bs at_ (d + 1) (left + 1) = (match decT 32 r with
    | none => none
    | some (nm, r2) => match decT 64 r2 with
     | none => none
     | some (v, r3) => some (⟨2, ⟨nm.toArray⟩, ⟨v.toArray⟩, [], []⟩, .cells #[.slice A n c, .int .i64 ((n : Int) - (r3.length : Nat)), .int .i64 left] 164 (0, 0))) := by
  unfold getW at hq0
  unfold redW
  split
  ·next hi => rw [if_pos hi] at hq0; cases hq0
  ·next hi =>
   rw [if_neg hi] at hq0
   rw [decM, hq0]
   simp only
   rw [if_neg (by decide), if_pos (by decide)]
   all_goals
    cases decT 32 r with
    | none => rfl
    | some q =>
     simp only
     cases decT 64 q.2 with
     | none => rfl
     | some q2 => rfl
 obtain ⟨Q, eQ⟩ : ∃ Q, redW A n c bs at_ (d + 1) (left + 1) = Q := ⟨_, rfl⟩
 rw [eQ]
 have HQ := zH (eQ.symm.trans hQ)
 have HN := zH hn
 have HC0 := zH hC0
 have HR := zH hr
 clear hQ hq0 eQ
 have hgl := hS.lt
 have hS2 : RD (w.alloc (.cells Z5 25)) g A n c at_ ((left + 1 : Nat) : Int) := (Below.heap_alloc _ _ _ hgl).trans hS
 have hw1 : wrap64 (((left + 1 : Nat) : Int) - 1) = (left : Int) := by unfold wrap64; omega
 have hd1 : ¬ (left : Int) < 0 := by omega
 have hd2 : ¬ (8 : Int) < dz := by omega
 have hdd1 : decide ((left : Int) < 0) = false := zF hd1
 have hdd2 : decide ((8 : Int) < dz) = false := zF hd2
 have g2 := hS2.c2
 have z2 := hS2.z2
 obtain ⟨V, eV⟩ : ∃ V, V = (w.alloc (.cells Z5 25)).setCell ⟨g, 2, none⟩ (.int .i64 left) := ⟨_, rfl⟩
 have hBV : Below w0.heap.size w0 V := by rw [eV]; exact (zAc hB _).setCell hg _
 have hKV : KeepBut w V g none := by rw [eV]; exact (KeepBut.of_below (zAc (Below.refl w.heap.size w) _) g none).set_ _ _
 have hSV : RD V g A n c at_ (left : Int) := by rw [eV]; exact hS2.set2 _
 have h1 := zCp w0 V g A n c bs at_ left 7 7 rfl (by decide) hn hnl hg hBV hSV hC0
 rw [hq] at h1
 have H1 := zH h1
 have HK := zH hKV
 have hV4 : V.heap[w.heap.size]? = some (.cells Z5 25 (0, 0)) := by rw [eV]; exact (Below.heap_setCell _ _ _ _ (by simp; omega)).trans (zAs w _)
 have HV4 := zH hV4
 have HG := zH hgl
 have HW := zH hB.size
 have HDZ := zH hdz
 clear hV4
 clear hS hB hS2 hgl hBV hKV hSV h1 hC0 hn hdz hr
 go_enter Try.func140, Try.ntmps140
 go_wp2_with fail
 rw [← eV]
 refine H1.out.mono ?_
 intro e w1 hp1
 obtain ⟨rfl, hB1, hK1, hRD⟩ := hp1.some_ hj
 have k4 := (hK1.2 w.heap.size (zAp HV4.out) (by have := HG.out; omega) (by simp)).trans HV4.out
 obtain ⟨K, eK⟩ : ∃ K, w.heap.size = K := ⟨_, rfl⟩
 rw [eK] at k4 ⊢
 have EK := zH eK.symm
 have HKW := zH (HK.out.trans hK1 (Or.inl rfl))
 have hKl := zAp k4
 obtain ⟨W, eW⟩ : ∃ W, W = w1.alloc (.cells #[.int .i64 2, .string ⟨#[]⟩, .string ⟨#[]⟩, .slice none 0 0, .slice none 0 0] 25) := ⟨_, rfl⟩
 obtain ⟨G, eG⟩ : ∃ G, w1.heap.size = G := ⟨_, rfl⟩
 have b5 : W.heap[G]? = some (.cells #[.int .i64 2, .string ⟨#[]⟩, .string ⟨#[]⟩, .slice none 0 0, .slice none 0 0] 25 (0, 0)) := by rw [eW, ← eG]; exact zAs w1 _
 have b4 : W.heap[K]? = some (.cells Z5 25 (0, 0)) := by rw [eW]; exact (Below.heap_alloc _ _ _ hKl).trans k4
 have hBW : Below w0.heap.size w0 W := by rw [eW]; exact zAc hB1 _
 have hKW : KeepBut w W g none := by rw [eW]; exact HKW.out.trans (KeepBut.of_below (zAc (Below.refl w1.heap.size w1) _) g none) (Or.inl rfl)
 have hRW : RD W g A n c (j : Int) left := by rw [eW]; exact (Below.heap_alloc _ _ _ hRD.lt).trans hRD
 have HGW := zH (show g < K ∧ K < G ∧ W.heap.size = G + 1 from ⟨by have := HG.out; omega, by omega, by rw [eW, World.size_alloc, eG]⟩)
 clear eK hB1 hK1 hp1 hRD hKl k4 eV H1 HK HV4 HKW
 have h2 := zFv w0 W g A n c bs (j : Int) (left : Int) 32 32 rfl (by decide) HN.out hnc hnl hg hBW hRW HC0.out
 rw [zEs HR.out] at h2
 have HB5 := zH b5
 have HB4 := zH b4
 have HKW := zH hKW
 have HRr := zH (show j ≤ n by omega)
 clear b5 b4 hKW hBW hRW hj
 cases hq1 : decT 32 r with
 | none =>
  rw [hq1] at h2
  have H2 := zH h2
  have HQ1 := zH (show Q = none by rw [HQ.out, hq1])
  clear h2 hq1
  go_wp2_with fail
  rw [← eW]
  refine H2.out.mono ?_
  intro e w9 hp9
  obtain ⟨rfl, hB9, hK9⟩ := hp9.none_
  exact ⟨rfl, hB9, HKW.out.trans hK9 (Or.inl rfl), Or.inl ⟨HQ1.out, rfl⟩⟩
 | some q1 =>
 obtain ⟨nm, r2⟩ := q1
 obtain ⟨j2, hj2, hj2n, hj2I, hr2, -⟩ := zDp HN.out HRr.out (by rw [HR.out]; exact hq1)
 rw [hq1] at h2
 obtain ⟨x1, ex1⟩ : ∃ x : ByteArray, (⟨nm.toArray⟩ : ByteArray) = x := ⟨_, rfl⟩
 have H2 := zH h2
 have HQ1 := zH (HQ.out.trans (by rw [hq1]))
 clear h2 hq1
 go_wp2_with fail
 rw [← eW]
 refine H2.out.mono ?_
 intro e w3 hp3
 obtain ⟨rfl, hB3, hK3, hRD3⟩ := hp3.some_ hj2I
 have h3 := zFv w0 w3 g A n c bs (j2 : Int) (left : Int) 64 64 rfl (by decide) HN.out hnc hnl hg hB3 hRD3 HC0.out
 rw [zEs hr2] at h3
 have HK3 := zH (HKW.out.trans hK3 (Or.inl rfl))
 obtain ⟨hg1, hg2, hg3⟩ := HGW.out
 have c5 := (hK3.2 G (by omega) (by omega) (by simp)).trans HB5.out
 have c4 := (hK3.2 K (by omega) (by omega) (by simp)).trans HB4.out
 have hs3 := hK3.1
 clear hp3 hB3 hK3 hRD3 H2 eW HB5 HB4 hj2 hj2I
 cases hq2 : decT 64 r2 with
 | none =>
  rw [hq2] at h3
  have H3 := zH h3
  have HQ2 := zH (show Q = none by rw [HQ1.out, hq2])
  clear h3 hq2 c4 c5 hs3
  go_wp2_with fail
  refine H3.out.mono ?_
  intro e w9 hp9
  obtain ⟨rfl, hB9, hK9⟩ := hp9.none_
  exact ⟨rfl, hB9, HK3.out.trans hK9 (Or.inl rfl), Or.inl ⟨HQ2.out, rfl⟩⟩
 | some q2 =>
 obtain ⟨vl, r3⟩ := q2
 obtain ⟨j3, hj3, hj3n, hj3I, hr3, -⟩ := zDp HN.out hj2n (by rw [hr2]; exact hq2)
 rw [hq2] at h3
 obtain ⟨x2, ex2⟩ : ∃ x : ByteArray, (⟨vl.toArray⟩ : ByteArray) = x := ⟨_, rfl⟩
 simp only [Option.map_some, ex2] at h3
 have HQ2 := zH (show Q = some (⟨2, x1, x2, [], []⟩, .cells #[.slice A n c, .int .i64 (j3 : Int), .int .i64 left] 164 (0, 0)) by rw [HQ1.out, hq2]; simp only [ex1, ex2, hj3I])
 have H3 := zH h3
 have C4 := zH c4
 have C5 := zH c5
 clear h3 hq2 c4 c5
 go_wp2_with fail
 refine H3.out.mono ?_
 intro e w4 hp4
 obtain ⟨rfl, hB4, hK4, hRD4⟩ := hp4.some_ hj3I
 have d5 := (hK4.2 G (by omega) (by omega) (by simp)).trans C5.out
 have d4 := (hK4.2 K (by omega) (by omega) (by simp)).trans C4.out
 have hs4 := hK4.1
 have HB4 := zH hB4
 have HK4 := zH (HK3.out.trans hK4 (Or.inl rfl))
 have HRD4 := zH hRD4
 have D4 := zH d4
 have D5 := zH d5
 have y0 := zAb d5 0
 have z0 := zAa d5 0
 have y1 := zAb d5 1
 have z1 := zAa d5 1
 have y2 := zAb d5 2
 have z2 := zAa d5 2
 have y3 := zAb d5 3
 have z3 := zAa d5 3
 have y4 := zAb d5 4
 have z4 := zAa d5 4
 simp only [zC, zA, zB] at y0 y1 y2 y3 y4
 have yK0 := zAb d4 0
 have zK0 := zAa d4 0
 have yK1 := zAb d4 1
 have zK1 := zAa d4 1
 have yK2 := zAb d4 2
 have zK2 := zAa d4 2
 have yK3 := zAb d4 3
 have zK3 := zAa d4 3
 have yK4 := zAb d4 4
 have zK4 := zAa d4 4
 simp only [zC, zA, zB] at yK0 yK1 yK2 yK3 yK4
 have HX := zH (And.intro hg1 (And.intro hg2 (And.intro hg3 (And.intro hs3 hs4))))
 have hne : G ≠ K := by omega
 have hne2 : K ≠ G := by omega
 clear hp4 hB4 hK4 hRD4 d4 d5 H3 C4 C5 hj3 hj3I hg1 hg2 hg3 hs3 hs4 HGW eG hj2n hj3n hr2 hr3
 go_wp2
 refine wp_loop_rounds 1 ?_
 rw [rounds_succ]
 go_wp2
 obtain ⟨hg1, hg2, hg3, hs3, hs4⟩ := HX.out
 have hT := zEr (m := ⟨2, x1, x2, [], []⟩) (A3 := none) (c3 := 0) (A4 := none) (c4 := 0) (W := (w4.setCell ⟨G, 1, none⟩ (.string x1)).setCell ⟨G, 2, none⟩ (.string x2)) (w := w) (o := .cells #[.slice A n c, .int .i64 (j3 : Int), .int .i64 (left : Int)] 164 (0, 0)) EK.out ((Below.heap_setCell _ _ _ _ hne2).trans ((Below.heap_setCell _ _ _ _ hne2).trans D4.out)) hg HG.out HW.out ((HB4.out.setCell (by have := HW.out; have := EK.out; simp; omega) _).setCell (by have := HW.out; have := EK.out; simp; omega) _) ⟨by have := HK4.out.1; simpa using this, fun i hi h1 h2 => by
   have hiG : i ≠ G := by have := EK.out; omega
   exact (Below.heap_setCell _ _ _ _ hiG).trans ((Below.heap_setCell _ _ _ _ hiG).trans (HK4.out.2 i hi h1 h2))⟩ (by
   have hgG : g ≠ G := by omega
   exact (Below.heap_setCell _ _ _ _ hgG).trans ((Below.heap_setCell _ _ _ _ hgG).trans HRD4.out)) (fun X _ => ⟨Nat.le_refl _, Kd.C_nil _ _, Nat.le_refl _, Kd.C_nil _ _⟩)
 rw [HQ2.out]
 exact bodyPost_ret (zAt rfl (.cell K 25 _ (0, 0) _ rfl hT.1 Try.underlying25 rfl (by kernel_rfl) .nil)) rfl hT.2
theorem matcher140e3 (w0 w : World) (g : Nat) (A : Option Addr) (n c : Nat) (bs : List UInt8) (at_ : Int) (left d : Nat) (hl : left ≤ 1000) (hd8 : d ≤ 7) (hn : bs.length = n) (hnl : n ≤ 1000000000000000) (r : List UInt8) (j : Nat) (hnc : n ≤ c) (hj : (n : Int) - (r.length : Nat) = (j : Int)) (hr : bs.drop j = r) (hq0 : getW bs at_ = some (3, r)) (hg : w0.heap.size ≤ g) (hB : Below w0.heap.size w0 w) (hS : RD w g A n c at_ ((left + 1 : Nat) : Int)) (hC0 : (Kd.int .u8).C w0 A bs.length (bys bs)) (dz : Int) (hdz : dz = 8 - d) :
  Calls Try.prog 140 #[.pointer (some ⟨g, 0, none⟩), .int .i64 dz] w (RedPost w0 w g (redW A n c bs at_ (d + 1) (left + 1))) := by
 have hq : zDb 7 bs at_ = some (.int .i64 3, r) := by unfold zDb; rw [hq0]; rfl
 have hQ : redW A n c bs at_ (d + 1) (left + 1) = (match decT 32 r with
    | none => none
    | some (nm, r2) => match decT 64 r2 with
     | none => none
     | some (v, r3) => some (⟨3, ⟨nm.toArray⟩, ⟨v.toArray⟩, [], []⟩, .cells #[.slice A n c, .int .i64 ((n : Int) - (r3.length : Nat)), .int .i64 left] 164 (0, 0))) := by
  unfold getW at hq0
  unfold redW
  split
  ·next hi => rw [if_pos hi] at hq0; cases hq0
  ·next hi =>
   rw [if_neg hi] at hq0
   rw [decM, hq0]
   simp only
   rw [if_neg (by decide), if_pos (by decide)]
   all_goals
    cases decT 32 r with
    | none => rfl
    | some q =>
     simp only
     cases decT 64 q.2 with
     | none => rfl
     | some q2 => rfl
 obtain ⟨Q, eQ⟩ : ∃ Q, redW A n c bs at_ (d + 1) (left + 1) = Q := ⟨_, rfl⟩
 rw [eQ]
 have HQ := zH (eQ.symm.trans hQ)
 have HN := zH hn
 have HC0 := zH hC0
 have HR := zH hr
 clear hQ hq0 eQ
 have hgl := hS.lt
 have hS2 : RD (w.alloc (.cells Z5 25)) g A n c at_ ((left + 1 : Nat) : Int) := (Below.heap_alloc _ _ _ hgl).trans hS
 have hw1 : wrap64 (((left + 1 : Nat) : Int) - 1) = (left : Int) := by unfold wrap64; omega
 have hd1 : ¬ (left : Int) < 0 := by omega
 have hd2 : ¬ (8 : Int) < dz := by omega
 have hdd1 : decide ((left : Int) < 0) = false := zF hd1
 have hdd2 : decide ((8 : Int) < dz) = false := zF hd2
 have g2 := hS2.c2
 have z2 := hS2.z2
 obtain ⟨V, eV⟩ : ∃ V, V = (w.alloc (.cells Z5 25)).setCell ⟨g, 2, none⟩ (.int .i64 left) := ⟨_, rfl⟩
 have hBV : Below w0.heap.size w0 V := by rw [eV]; exact (zAc hB _).setCell hg _
 have hKV : KeepBut w V g none := by rw [eV]; exact (KeepBut.of_below (zAc (Below.refl w.heap.size w) _) g none).set_ _ _
 have hSV : RD V g A n c at_ (left : Int) := by rw [eV]; exact hS2.set2 _
 have h1 := zCp w0 V g A n c bs at_ left 7 7 rfl (by decide) hn hnl hg hBV hSV hC0
 rw [hq] at h1
 have H1 := zH h1
 have HK := zH hKV
 have hV4 : V.heap[w.heap.size]? = some (.cells Z5 25 (0, 0)) := by rw [eV]; exact (Below.heap_setCell _ _ _ _ (by simp; omega)).trans (zAs w _)
 have HV4 := zH hV4
 have HG := zH hgl
 have HW := zH hB.size
 have HDZ := zH hdz
 clear hV4
 clear hS hB hS2 hgl hBV hKV hSV h1 hC0 hn hdz hr
 go_enter Try.func140, Try.ntmps140
 go_wp2_with fail
 rw [← eV]
 refine H1.out.mono ?_
 intro e w1 hp1
 obtain ⟨rfl, hB1, hK1, hRD⟩ := hp1.some_ hj
 have k4 := (hK1.2 w.heap.size (zAp HV4.out) (by have := HG.out; omega) (by simp)).trans HV4.out
 obtain ⟨K, eK⟩ : ∃ K, w.heap.size = K := ⟨_, rfl⟩
 rw [eK] at k4 ⊢
 have EK := zH eK.symm
 have HKW := zH (HK.out.trans hK1 (Or.inl rfl))
 have hKl := zAp k4
 obtain ⟨W, eW⟩ : ∃ W, W = w1.alloc (.cells #[.int .i64 3, .string ⟨#[]⟩, .string ⟨#[]⟩, .slice none 0 0, .slice none 0 0] 25) := ⟨_, rfl⟩
 obtain ⟨G, eG⟩ : ∃ G, w1.heap.size = G := ⟨_, rfl⟩
 have b5 : W.heap[G]? = some (.cells #[.int .i64 3, .string ⟨#[]⟩, .string ⟨#[]⟩, .slice none 0 0, .slice none 0 0] 25 (0, 0)) := by rw [eW, ← eG]; exact zAs w1 _
 have b4 : W.heap[K]? = some (.cells Z5 25 (0, 0)) := by rw [eW]; exact (Below.heap_alloc _ _ _ hKl).trans k4
 have hBW : Below w0.heap.size w0 W := by rw [eW]; exact zAc hB1 _
 have hKW : KeepBut w W g none := by rw [eW]; exact HKW.out.trans (KeepBut.of_below (zAc (Below.refl w1.heap.size w1) _) g none) (Or.inl rfl)
 have hRW : RD W g A n c (j : Int) left := by rw [eW]; exact (Below.heap_alloc _ _ _ hRD.lt).trans hRD
 have HGW := zH (show g < K ∧ K < G ∧ W.heap.size = G + 1 from ⟨by have := HG.out; omega, by omega, by rw [eW, World.size_alloc, eG]⟩)
 clear eK hB1 hK1 hp1 hRD hKl k4 eV H1 HK HV4 HKW
 have h2 := zFv w0 W g A n c bs (j : Int) (left : Int) 32 32 rfl (by decide) HN.out hnc hnl hg hBW hRW HC0.out
 rw [zEs HR.out] at h2
 have HB5 := zH b5
 have HB4 := zH b4
 have HKW := zH hKW
 have HRr := zH (show j ≤ n by omega)
 clear b5 b4 hKW hBW hRW hj
 cases hq1 : decT 32 r with
 | none =>
  rw [hq1] at h2
  have H2 := zH h2
  have HQ1 := zH (show Q = none by rw [HQ.out, hq1])
  clear h2 hq1
  go_wp2_with fail
  rw [← eW]
  refine H2.out.mono ?_
  intro e w9 hp9
  obtain ⟨rfl, hB9, hK9⟩ := hp9.none_
  exact ⟨rfl, hB9, HKW.out.trans hK9 (Or.inl rfl), Or.inl ⟨HQ1.out, rfl⟩⟩
 | some q1 =>
 obtain ⟨nm, r2⟩ := q1
 obtain ⟨j2, hj2, hj2n, hj2I, hr2, -⟩ := zDp HN.out HRr.out (by rw [HR.out]; exact hq1)
 rw [hq1] at h2
 obtain ⟨x1, ex1⟩ : ∃ x : ByteArray, (⟨nm.toArray⟩ : ByteArray) = x := ⟨_, rfl⟩
 have H2 := zH h2
 have HQ1 := zH (HQ.out.trans (by rw [hq1]))
 clear h2 hq1
 go_wp2_with fail
 rw [← eW]
 refine H2.out.mono ?_
 intro e w3 hp3
 obtain ⟨rfl, hB3, hK3, hRD3⟩ := hp3.some_ hj2I
 have h3 := zFv w0 w3 g A n c bs (j2 : Int) (left : Int) 64 64 rfl (by decide) HN.out hnc hnl hg hB3 hRD3 HC0.out
 rw [zEs hr2] at h3
 have HK3 := zH (HKW.out.trans hK3 (Or.inl rfl))
 obtain ⟨hg1, hg2, hg3⟩ := HGW.out
 have c5 := (hK3.2 G (by omega) (by omega) (by simp)).trans HB5.out
 have c4 := (hK3.2 K (by omega) (by omega) (by simp)).trans HB4.out
 have hs3 := hK3.1
 clear hp3 hB3 hK3 hRD3 H2 eW HB5 HB4 hj2 hj2I
 cases hq2 : decT 64 r2 with
 | none =>
  rw [hq2] at h3
  have H3 := zH h3
  have HQ2 := zH (show Q = none by rw [HQ1.out, hq2])
  clear h3 hq2 c4 c5 hs3
  go_wp2_with fail
  refine H3.out.mono ?_
  intro e w9 hp9
  obtain ⟨rfl, hB9, hK9⟩ := hp9.none_
  exact ⟨rfl, hB9, HK3.out.trans hK9 (Or.inl rfl), Or.inl ⟨HQ2.out, rfl⟩⟩
 | some q2 =>
 obtain ⟨vl, r3⟩ := q2
 obtain ⟨j3, hj3, hj3n, hj3I, hr3, -⟩ := zDp HN.out hj2n (by rw [hr2]; exact hq2)
 rw [hq2] at h3
 obtain ⟨x2, ex2⟩ : ∃ x : ByteArray, (⟨vl.toArray⟩ : ByteArray) = x := ⟨_, rfl⟩
 simp only [Option.map_some, ex2] at h3
 have HQ2 := zH (show Q = some (⟨3, x1, x2, [], []⟩, .cells #[.slice A n c, .int .i64 (j3 : Int), .int .i64 left] 164 (0, 0)) by rw [HQ1.out, hq2]; simp only [ex1, ex2, hj3I])
 have H3 := zH h3
 have C4 := zH c4
 have C5 := zH c5
 clear h3 hq2 c4 c5
 go_wp2_with fail
 refine H3.out.mono ?_
 intro e w4 hp4
 obtain ⟨rfl, hB4, hK4, hRD4⟩ := hp4.some_ hj3I
 have d5 := (hK4.2 G (by omega) (by omega) (by simp)).trans C5.out
 have d4 := (hK4.2 K (by omega) (by omega) (by simp)).trans C4.out
 have hs4 := hK4.1
 have HB4 := zH hB4
 have HK4 := zH (HK3.out.trans hK4 (Or.inl rfl))
 have HRD4 := zH hRD4
 have D4 := zH d4
 have D5 := zH d5
 have y0 := zAb d5 0
 have z0 := zAa d5 0
 have y1 := zAb d5 1
 have z1 := zAa d5 1
 have y2 := zAb d5 2
 have z2 := zAa d5 2
 have y3 := zAb d5 3
 have z3 := zAa d5 3
 have y4 := zAb d5 4
 have z4 := zAa d5 4
 simp only [zC, zA, zB] at y0 y1 y2 y3 y4
 have yK0 := zAb d4 0
 have zK0 := zAa d4 0
 have yK1 := zAb d4 1
 have zK1 := zAa d4 1
 have yK2 := zAb d4 2
 have zK2 := zAa d4 2
 have yK3 := zAb d4 3
 have zK3 := zAa d4 3
 have yK4 := zAb d4 4
 have zK4 := zAa d4 4
 simp only [zC, zA, zB] at yK0 yK1 yK2 yK3 yK4
 have HX := zH (And.intro hg1 (And.intro hg2 (And.intro hg3 (And.intro hs3 hs4))))
 have hne : G ≠ K := by omega
 have hne2 : K ≠ G := by omega
 clear hp4 hB4 hK4 hRD4 d4 d5 H3 C4 C5 hj3 hj3I hg1 hg2 hg3 hs3 hs4 HGW eG hj2n hj3n hr2 hr3
 go_wp2
 refine wp_loop_rounds 1 ?_
 rw [rounds_succ]
 go_wp2
 obtain ⟨hg1, hg2, hg3, hs3, hs4⟩ := HX.out
 have hT := zEr (m := ⟨3, x1, x2, [], []⟩) (A3 := none) (c3 := 0) (A4 := none) (c4 := 0) (W := (w4.setCell ⟨G, 1, none⟩ (.string x1)).setCell ⟨G, 2, none⟩ (.string x2)) (w := w) (o := .cells #[.slice A n c, .int .i64 (j3 : Int), .int .i64 (left : Int)] 164 (0, 0)) EK.out ((Below.heap_setCell _ _ _ _ hne2).trans ((Below.heap_setCell _ _ _ _ hne2).trans D4.out)) hg HG.out HW.out ((HB4.out.setCell (by have := HW.out; have := EK.out; simp; omega) _).setCell (by have := HW.out; have := EK.out; simp; omega) _) ⟨by have := HK4.out.1; simpa using this, fun i hi h1 h2 => by
   have hiG : i ≠ G := by have := EK.out; omega
   exact (Below.heap_setCell _ _ _ _ hiG).trans ((Below.heap_setCell _ _ _ _ hiG).trans (HK4.out.2 i hi h1 h2))⟩ (by
   have hgG : g ≠ G := by omega
   exact (Below.heap_setCell _ _ _ _ hgG).trans ((Below.heap_setCell _ _ _ _ hgG).trans HRD4.out)) (fun X _ => ⟨Nat.le_refl _, Kd.C_nil _ _, Nat.le_refl _, Kd.C_nil _ _⟩)
 rw [HQ2.out]
 exact bodyPost_ret (zAt rfl (.cell K 25 _ (0, 0) _ rfl hT.1 Try.underlying25 rfl (by kernel_rfl) .nil)) rfl hT.2
end Go.Proofs.Yteafilojjdfllaa
end
section
namespace Go.Proofs.Yteafilojjdfllaa
open Go Go.RowKit Go.Proofs.YteafilojjdfllaaW.PrintWords Go.Proofs.YteafilojjdfllaaW.PrintLast
section
def msk (n : Nat) (o : List Nat) (k : Nat) : List Bool := (List.range n).map fun i => (o.take k).contains i
section
variable {P : Program} {ops : Array Oper} {Q : Exit → Act → World → Prop} {S : World → Prop} {ds : List Nat} {T : Bool × List (List Nat × List Nat)} {n k : Nat} {o : List Nat} {N : Option Tmp} {oi : Oper} {v : Value} {fuel : Nat} {a : Act} {w : World}
theorem zCd (hT : rtab .any ops = T) (hi : ops[o.getD k n]? = some oi) (hN : oi.dst = N) (hc : takeT T ds (msk n o k) (msk n o (k + 1)) (o.getD k n) = true)
  (hQ : ∀ c a w, Q (.panic c) (a.put oi.dst v) w → Q (.panic c) a w) (hy : YieldsIf P ops S oi v a) (hS : S w) {a' : Act} (ha : a.put N v = a')
  (h : zBa P .any ops Q S ds fuel (msk n o (k + 1)).toArray a' w) : zBa P .any ops Q S ds (fuel + 1) (msk n o k).toArray a w :=
 take_ (msk n o (k + 1)).toArray hi hN (take_of hT hc) hQ hy hS ha h
theorem zBi (hT : rtab .any ops = T) (hi : ops[o.getD k n]? = some oi) (hN : oi.dst = N) (hc : anyT T (msk n o k) (msk n o (k + 1)) (o.getD k n) = true)
  (hQ : ∀ c a w, Q (.panic c) (a.put oi.dst v) w → Q (.panic c) a w) (hy : Yields P ops oi v a) {a' : Act} (ha : a.put N v = a')
  (h : zBa P .any ops Q S ds fuel (msk n o (k + 1)).toArray a' w) : zBa P .any ops Q S ds (fuel + 1) (msk n o k).toArray a w :=
 pure_ (msk n o (k + 1)).toArray hi hN (any_of hT hc) hQ hy ha h
theorem oneO {i : Nat} (hT : rtab .any ops = T) (hi : ops[i]? = some oi) (hN : oi.dst = N) (hc : (zIt T.2 (msk n o k) == [i] && (msk n o k).set i true == msk n o (k + 1)) = true) (hd : i ∉ ds)
  (h : ∀ K : Act → World → Prop, Shut (∀ a' w', S w' → (S w' → zBa P .any ops Q S ds fuel (msk n o (k + 1)).toArray a' w') → K a' w') → if Region.wanted oi (yielded ops a.tmps) = true then Oper.wp P oi a w K Q else K (a.put N undef) w) :
  zBa P .any ops Q S ds (fuel + 1) (msk n o k).toArray a w :=
 one_ (msk n o (k + 1)).toArray hi hN (one_of hT hc) hd h
theorem lastO {i : Nat} (hT : rtab .any ops = T) (hi : ops[i]? = some oi) (hN : oi.dst = N) (hc : (zIt T.2 (msk n o k) == [i] && (msk n o k).set i true == msk n o (k + 1)) = true) (hd : i ∈ ds)
  (h : ∀ K : Act → World → Prop, Shut (∀ a' w', zBa P .any ops Q S ds fuel (msk n o (k + 1)).toArray a' w' → K a' w') → if Region.wanted oi (yielded ops a.tmps) = true then Oper.wp P oi a w K Q else K (a.put N undef) w) :
  zBa P .any ops Q S ds (fuel + 1) (msk n o k).toArray a w :=
 last_ (msk n o (k + 1)).toArray hi hN (one_of hT hc) hd h
end
end
end Go.Proofs.Yteafilojjdfllaa
end
section
namespace Go.Proofs.Yteafilojjdfllaa
open Go Go.RowKit Go.Proofs.YteafilojjdfllaaW.PrintWords Go.Proofs.YteafilojjdfllaaW.PrintLast Go.Proofs.YteafilojjdfllaaW.PrintMore Go.Proofs.Yteafilojjdfllaa.PAll
section
theorem rdNum_at {bs r : List UInt8} {j most : Nat} (hr : bs.drop j = r) : zDb most bs (j : Int) = match decV 0 0 r with
 | none => none
 | some (v, r') => if v ≤ most then some (.int .i64 (v : Nat), r') else none := by
 unfold zDb
 rw [getW_at hr]
 cases decV 0 0 r <;> rfl
theorem zEl {bs r : List UInt8} {j most : Nat} (hr : bs.drop j = r) (h : decV 0 0 r = none ∨ ∃ k r3, decV 0 0 r = some (k, r3) ∧ ¬ k ≤ most) : zDb most bs (j : Int) = none := by
 rw [rdNum_at hr]
 rcases h with h | ⟨k, r3, h, hk⟩
 ·rw [h]
 rw [h]
 exact if_neg hk
theorem zHm {bs r : List UInt8} {j most : Nat} (hr : bs.drop j = r) {k : Nat} {r3 : List UInt8} (h : decV 0 0 r = some (k, r3)) (hk : k ≤ most) : zDb most bs (j : Int) = some (.int .i64 (k : Nat), r3) := by
 rw [rdNum_at hr, h]
 exact if_pos hk
theorem zHw {k n v : Nat} {bs r : List UInt8} (hn : bs.length = n) (hk : k ≤ n) (h : decV 0 0 (bs.drop k) = some (v, r)) : ∃ k1 : Nat, k < k1 ∧ k1 ≤ n ∧ (n : Int) - (r.length : Nat) = (k1 : Int) ∧ bs.drop k1 = r := by
 have h1 := (zCo _ _ _ h).trans (List.drop_suffix k bs)
 have h3 := (zHc h).2
 have h4 : (bs.drop k).length = n - k := by rw [List.length_drop, hn]
 have h5 := h1.length_le
 refine ⟨n - r.length, by omega, by omega, by omega, ?_⟩
 rw [← hn]
 exact (List.suffix_iff_eq_drop.1 h1).symm
theorem decTs_zero {i k : Nat} {r rr : List UInt8} {vs : List ByteArray} (h : decTs k r = (decTs (k - i) rr).map (fun q => (vs ++ q.1, q.2))) (hi : i = k) : decTs k r = some (vs, rr) := by
 subst hi
 rw [h, Nat.sub_self, decTs]
 simp
theorem decTs_fail {i k : Nat} {r rr : List UInt8} {vs : List ByteArray} (h : decTs k r = (decTs (k - i) rr).map (fun q => (vs ++ q.1, q.2))) (hi : i < k) (hq : decT 64 rr = none) : decTs k r = none := by
 obtain ⟨q, hq2⟩ : ∃ q, k - i = q + 1 := ⟨k - i - 1, by omega⟩
 rw [h, hq2, decTs, hq]
 rfl
theorem decTs_more {i k : Nat} {r rr r2 v : List UInt8} {vs : List ByteArray} (h : decTs k r = (decTs (k - i) rr).map (fun q => (vs ++ q.1, q.2))) (hi : i < k) (hq : decT 64 rr = some (v, r2)) : decTs k r = (decTs (k - (i + 1)) r2).map (fun q => ((vs ++ [⟨v.toArray⟩]) ++ q.1, q.2)) := by
 obtain ⟨q, hq2⟩ : ∃ q, k - i = q + 1 := ⟨k - i - 1, by omega⟩
 rw [h, hq2, decTs, hq, show k - (i + 1) = q by omega]
 simp only
 cases decTs q r2 with
 | none => rfl
 | some q => simp
section
variable {P : Program} {ops : Array Oper} {Q : Exit → Act → World → Prop}
theorem zIe {oi : Oper} {N : Option Tmp} {a : Act} {w : World} {K : Act → World → Prop} {f : FuncId} {fn : Func} {as' : Array Operand} {ts : Array TypeId} (hf : P.funcs[f]? = some fn) (hname : (fn.name == "runtime.NumGoroutine") = false) (hb : fn.body.isSome = true) (args : Array Value)
  (hw : Region.wanted oi (yielded ops a.tmps) = true) (hN : oi.dst = N) (hop : oi.op = .call { callee := .value (.func f), args := as', argTypes := ts }) (hargs : as'.map a.eval = args)
  (h : Calls P f args w fun e w' => (∃ v, e = .returned v ∧ K (a.put N v) w') ∨ ∃ ch, e = .panicked ch ∧ Q (.panic ch) a w') : if Region.wanted oi (yielded ops a.tmps) = true then Oper.wp P oi a w K Q else K (a.put N undef) w := by
 have he := enters_ hf hname hb args w
 have hrun : (execOp a.eval oi).run P w = .ok (.enter f args) w := by
  unfold execOp
  simp [hop, resolve, Deferred.ofValue, invoke, Act.eval, hargs, he]
 rw [if_pos hw]
 subst hN
 unfold Oper.wp
 rw [hrun, Oper.upon_enter]
 refine h.mono fun e w'' hh => ?_
 rcases hh with ⟨v, rfl, hk⟩ | ⟨ch, rfl, hk⟩
 ·exact hk
 exact hk
end
noncomputable def tabR15 : Bool × List (List Nat × List Nat) := rtab .any (zFs Try.f140 15)
theorem tabR15_eq : rtab .any (zFs Try.f140 15) = tabR15 := rfl
theorem matcher140f (w0 w : World) (g : Nat) (A : Option Addr) (n c : Nat) (bs : List UInt8) (at_ : Int) (left d : Nat) (hl : left ≤ 1000) (hd8 : d ≤ 7) (hn : bs.length = n) (hnl : n ≤ 1000000000000000) (r : List UInt8) (j : Nat) (hnc : n ≤ c) (hj : (n : Int) - (r.length : Nat) = (j : Int)) (hr : bs.drop j = r) (hq0 : getW bs at_ = some (4, r)) (hg : w0.heap.size ≤ g) (hB : Below w0.heap.size w0 w) (hS : RD w g A n c at_ ((left + 1 : Nat) : Int)) (hC0 : (Kd.int .u8).C w0 A bs.length (bys bs)) (dz : Int) (hdz : dz = 8 - d) :
  Calls Try.prog 140 #[.pointer (some ⟨g, 0, none⟩), .int .i64 dz] w (RedPost w0 w g (redW A n c bs at_ (d + 1) (left + 1))) := by
 have hq : zDb 7 bs at_ = some (.int .i64 4, r) := by unfold zDb; rw [hq0]; rfl
 have hQ : redW A n c bs at_ (d + 1) (left + 1) = (match decT 32 r with
    | none => none
    | some (nm, r2) => match decV 0 0 r2 with
     | none => none
     | some (k, r3) => if k ≤ 16 then (decTs k r3).map (fun q => ((⟨4, ⟨nm.toArray⟩, ⟨#[]⟩, q.1, []⟩ : S25), Obj.cells #[.slice A n c, .int .i64 ((n : Int) - (q.2.length : Nat)), .int .i64 left] 164 (0, 0))) else none) := by
  unfold getW at hq0
  unfold redW
  split
  ·next hi => rw [if_pos hi] at hq0; cases hq0
  ·next hi =>
   rw [if_neg hi] at hq0
   rw [decM, hq0]
   simp only
   rw [if_neg (by decide), if_neg (by decide), if_pos trivial]
   all_goals
    cases decT 32 r with
    | none => rfl
    | some q =>
     simp only
     cases decV 0 0 q.2 with
     | none => rfl
     | some q2 =>
      simp only
      split
      ·cases decTs q2.1 q2.2 <;> rfl
      ·rfl
 obtain ⟨Q, eQ⟩ : ∃ Q, redW A n c bs at_ (d + 1) (left + 1) = Q := ⟨_, rfl⟩
 rw [eQ]
 have HQ := zH (eQ.symm.trans hQ)
 have HN := zH hn
 have HC0 := zH hC0
 have HR := zH hr
 clear hQ hq0 eQ
 have hgl := hS.lt
 have hS2 : RD (w.alloc (.cells Z5 25)) g A n c at_ ((left + 1 : Nat) : Int) := (Below.heap_alloc _ _ _ hgl).trans hS
 have hw1 : wrap64 (((left + 1 : Nat) : Int) - 1) = (left : Int) := by unfold wrap64; omega
 have hd1 : ¬ (left : Int) < 0 := by omega
 have hd2 : ¬ (8 : Int) < dz := by omega
 have hdd1 : decide ((left : Int) < 0) = false := zF hd1
 have hdd2 : decide ((8 : Int) < dz) = false := zF hd2
 have g2 := hS2.c2
 have z2 := hS2.z2
 obtain ⟨V, eV⟩ : ∃ V, V = (w.alloc (.cells Z5 25)).setCell ⟨g, 2, none⟩ (.int .i64 left) := ⟨_, rfl⟩
 have hBV : Below w0.heap.size w0 V := by rw [eV]; exact (zAc hB _).setCell hg _
 have hKV : KeepBut w V g none := by rw [eV]; exact (KeepBut.of_below (zAc (Below.refl w.heap.size w) _) g none).set_ _ _
 have hSV : RD V g A n c at_ (left : Int) := by rw [eV]; exact hS2.set2 _
 have h1 := zCp w0 V g A n c bs at_ left 7 7 rfl (by decide) hn hnl hg hBV hSV hC0
 rw [hq] at h1
 have H1 := zH h1
 have HK := zH hKV
 have hV4 : V.heap[w.heap.size]? = some (.cells Z5 25 (0, 0)) := by rw [eV]; exact (Below.heap_setCell _ _ _ _ (by simp; omega)).trans (zAs w _)
 have HV4 := zH hV4
 have HG := zH hgl
 have HW := zH hB.size
 have HDZ := zH hdz
 clear hV4
 clear hS hB hS2 hgl hBV hKV hSV h1 hC0 hn hdz hr
 go_enter Try.func140, Try.ntmps140
 go_wp2_with fail
 rw [← eV]
 refine H1.out.mono ?_
 intro e w1 hp1
 obtain ⟨rfl, hB1, hK1, hRD⟩ := hp1.some_ hj
 have k4 := (hK1.2 w.heap.size (zAp HV4.out) (by have := HG.out; omega) (by simp)).trans HV4.out
 obtain ⟨K, eK⟩ : ∃ K, w.heap.size = K := ⟨_, rfl⟩
 rw [eK] at k4 ⊢
 have EK := zH eK.symm
 have HKW := zH (HK.out.trans hK1 (Or.inl rfl))
 have hKl := zAp k4
 obtain ⟨W, eW⟩ : ∃ W, W = w1.alloc (.cells #[.int .i64 4, .string ⟨#[]⟩, .string ⟨#[]⟩, .slice none 0 0, .slice none 0 0] 25) := ⟨_, rfl⟩
 obtain ⟨G, eG⟩ : ∃ G, w1.heap.size = G := ⟨_, rfl⟩
 have b5 : W.heap[G]? = some (.cells #[.int .i64 4, .string ⟨#[]⟩, .string ⟨#[]⟩, .slice none 0 0, .slice none 0 0] 25 (0, 0)) := by rw [eW, ← eG]; exact zAs w1 _
 have b4 : W.heap[K]? = some (.cells Z5 25 (0, 0)) := by rw [eW]; exact (Below.heap_alloc _ _ _ hKl).trans k4
 have hBW : Below w0.heap.size w0 W := by rw [eW]; exact zAc hB1 _
 have hKW : KeepBut w W g none := by rw [eW]; exact HKW.out.trans (KeepBut.of_below (zAc (Below.refl w1.heap.size w1) _) g none) (Or.inl rfl)
 have hRW : RD W g A n c (j : Int) left := by rw [eW]; exact (Below.heap_alloc _ _ _ hRD.lt).trans hRD
 have HGW := zH (show g < K ∧ K < G ∧ W.heap.size = G + 1 from ⟨by have := HG.out; omega, by omega, by rw [eW, World.size_alloc, eG]⟩)
 clear eK hB1 hK1 hp1 hRD hKl k4 eV H1 HK HV4 HKW
 have h2 := zFv w0 W g A n c bs (j : Int) (left : Int) 32 32 rfl (by decide) HN.out hnc hnl hg hBW hRW HC0.out
 rw [zEs HR.out] at h2
 have HB5 := zH b5
 have HB4 := zH b4
 have HKW := zH hKW
 have HRr := zH (show j ≤ n by omega)
 clear b5 b4 hKW hBW hRW hj
 cases hq1 : decT 32 r with
 | none =>
  rw [hq1] at h2
  have H2 := zH h2
  have HQ1 := zH (show Q = none by rw [HQ.out, hq1])
  clear h2 hq1
  go_wp2_with fail
  rw [← eW]
  refine H2.out.mono ?_
  intro e w9 hp9
  obtain ⟨rfl, hB9, hK9⟩ := hp9.none_
  exact ⟨rfl, hB9, HKW.out.trans hK9 (Or.inl rfl), Or.inl ⟨HQ1.out, rfl⟩⟩
 | some q1 =>
 obtain ⟨nm, r2⟩ := q1
 obtain ⟨j2, hj2, hj2n, hj2I, hr2, -⟩ := zDp HN.out HRr.out (by rw [HR.out]; exact hq1)
 rw [hq1] at h2
 obtain ⟨x1, ex1⟩ : ∃ x : ByteArray, (⟨nm.toArray⟩ : ByteArray) = x := ⟨_, rfl⟩
 simp only [Option.map_some, ex1] at h2
 have H2 := zH h2
 have HQ1 := zH (HQ.out.trans (by rw [hq1]))
 clear h2 hq1
 go_wp2_with fail
 rw [← eW]
 refine H2.out.mono ?_
 intro e w3 hp3
 obtain ⟨rfl, hB3, hK3, hRD3⟩ := hp3.some_ hj2I
 obtain ⟨hg1, hg2, hg3⟩ := HGW.out
 have c5 := (hK3.2 G (by omega) (by omega) (by simp)).trans HB5.out
 have c4 := (hK3.2 K (by omega) (by omega) (by simp)).trans HB4.out
 have hs3 := hK3.1
 have hGK : w0.heap.size ≤ G := by have := HW.out; have := EK.out; omega
 have z1 := zAa c5 1
 have y1 := zAb c5 1
 simp only [zC, zA, zB] at y1
 obtain ⟨W3, eW3⟩ : ∃ W3, W3 = w3.setCell ⟨G, 1, none⟩ (.string x1) := ⟨_, rfl⟩
 have hB3' : Below w0.heap.size w0 W3 := by rw [eW3]; exact hB3.setCell hGK _
 have hRD3' : RD W3 g A n c (j2 : Int) left := by rw [eW3]; exact (Below.heap_setCell _ _ _ _ (show g ≠ G by omega)).trans hRD3
 have e5 : W3.heap[G]? = some (.cells #[.int .i64 4, .string x1, .string ⟨#[]⟩, .slice none 0 0, .slice none 0 0] 25 (0, 0)) := by rw [eW3]; exact (zAn c5 1 _).trans (by rfl)
 have e4 : W3.heap[K]? = some (.cells Z5 25 (0, 0)) := by rw [eW3]; exact (Below.heap_setCell _ _ _ _ (show K ≠ G by omega)).trans c4
 have hK3' : KeepBut w W3 g none := ⟨by rw [eW3]; have := (HKW.out.trans hK3 (Or.inl rfl)).1; simpa using this, fun i hi h1 h2 => by
  rw [eW3]
  exact (Below.heap_setCell _ _ _ _ (show i ≠ G by have := EK.out; omega)).trans ((HKW.out.trans hK3 (Or.inl rfl)).2 i hi h1 h2)⟩
 have hs3' : W3.heap.size = w3.heap.size := by rw [eW3]; simp
 have h3 := zCp w0 W3 g A n c bs (j2 : Int) (left : Int) 16 16 rfl (by decide) HN.out hnl hg hB3' hRD3' HC0.out
 have HX3 := zH (And.intro hg1 (And.intro hg2 (show G < W3.heap.size by omega)))
 have HGK := zH hGK
 have HK3 := zH hK3'
 clear hp3 hB3 hK3 hRD3 H2 eW HB5 HB4 hj2 hj2I hB3' hRD3' hK3' hs3' hs3 HKW HGW hg1 hg2 hg3 eG hGK c4 c5
 have hthrow : decV 0 0 r2 = none ∨ (∃ k r3, decV 0 0 r2 = some (k, r3) ∧ ¬ k ≤ 16) ∨ ∃ k r3, decV 0 0 r2 = some (k, r3) ∧ k ≤ 16 := by
  cases decV 0 0 r2 with
  | none => exact Or.inl rfl
  | some q =>
  by_cases h : q.1 ≤ 16
  ·exact Or.inr (Or.inr ⟨_, _, rfl, h⟩)
  exact Or.inr (Or.inl ⟨_, _, rfl, h⟩)
 obtain hno | ⟨k, r3, hq2, hk16⟩ : (Q = none ∧ zDb 16 bs (j2 : Int) = none) ∨ ∃ k r3, decV 0 0 r2 = some (k, r3) ∧ k ≤ 16 := by
  rcases hthrow with h | ⟨k, r3, h, h16⟩ | h
  ·exact Or.inl ⟨by rw [HQ1.out]; simp only [h], zEl hr2 (Or.inl h)⟩
  ·exact Or.inl ⟨by rw [HQ1.out]; simp only [h, if_neg h16], zEl hr2 (Or.inr ⟨k, r3, h, h16⟩)⟩
  exact Or.inr h
 ·rw [hno.2] at h3
  have H3 := zH h3
  have HQ2 := zH hno.1
  clear h3 hno hthrow e4 e5
  go_wp2_with fail
  rw [← eW3]
  refine H3.out.mono ?_
  intro e w9 hp9
  obtain ⟨rfl, hB9, hK9⟩ := hp9.none_
  exact ⟨rfl, hB9, HK3.out.trans hK9 (Or.inl rfl), Or.inl ⟨HQ2.out, rfl⟩⟩
 rw [zHm hr2 hq2 hk16] at h3
 obtain ⟨j3, hj3, hj3n, hj3I, hr3⟩ := zHw HN.out hj2n (by rw [hr2]; exact hq2)
 have HQ2 := zH (show Q = (decTs k r3).map (fun q => ((⟨4, x1, ⟨#[]⟩, q.1, []⟩ : S25), Obj.cells #[.slice A n c, .int .i64 ((n : Int) - (q.2.length : Nat)), .int .i64 left] 164 (0, 0))) by rw [HQ1.out, hq2]; simp only [if_pos hk16, ex1])
 have H3 := zH h3
 have E4 := zH e4
 have E5 := zH e5
 clear h3 hq2 hthrow e4 e5
 go_wp2_with fail
 rw [← eW3]
 refine H3.out.mono ?_
 intro e w4 hp4
 obtain ⟨rfl, hB4, hK4, hRD4⟩ := hp4.some_ hj3I
 obtain ⟨hg1, hg2, hg3⟩ := HX3.out
 have d5 := (hK4.2 G (by omega) (by omega) (by simp)).trans E5.out
 have d4 := (hK4.2 K (by omega) (by omega) (by simp)).trans E4.out
 have hs4 := hK4.1
 have hK4' := HK3.out.trans hK4 (Or.inl rfl)
 have HGS := zH (show g < K ∧ K < G ∧ G < w4.heap.size from ⟨hg1, hg2, by omega⟩)
 have HR3 := zH hr3
 have HJ3 := zH (show j3 ≤ n by omega)
 obtain ⟨base, hbase⟩ : ∃ base, w4.heap.size = base := ⟨_, rfl⟩
 have HBS := zH hbase
 have HZ := zH (show (k : Int) = ((k : Nat) : Int) from rfl)
 have hw0b : w0.heap.size ≤ base := by have := HGK.out; omega
 clear hp4 hK4 H3 E4 E5 hj3 hj3I hg1 hg2 hg3 hs4 hr3 hj3n hr2 hj2n HX3 HQ HQ1 hbase eW3 HR HRr HK3 z1 y1
 go_wp2
 go_loopw [47] (fun u47 wr => ∃ (i p : Nat) (vs : List ByteArray) (rr : List UInt8) (u3 : Value), u47 = .int .i64 (i : Nat) ∧ i ≤ k ∧ vs.length = i ∧ p ≤ n ∧ bs.drop p = rr ∧ (n : Int) - (rr.length : Nat) = (p : Int) ∧ decTs k r3 = (decTs (k - i) rr).map (fun q => (vs ++ q.1, q.2)) ∧ wr.heap[G]? = some (.cells #[.int .i64 4, .string x1, .string ⟨#[]⟩, u3, .slice none 0 0] 25 (0, 0)) ∧ wr.heap[K]? = some (.cells Z5 25 (0, 0)) ∧ wr.ownsRow base 9 1 u3 i (encs Value.string vs) ∧ RD wr g A n c (p : Int) left ∧ Below w0.heap.size w0 wr ∧ KeepBut w wr g none ∧ base ≤ wr.heap.size)
  (fun u47 _ => k - (intOf u47).toNat)
 case atStart => exact ⟨0, j3, [], r3, _, rfl, Nat.zero_le _, rfl, HJ3.out, HR3.out, by have := congrArg List.length HR3.out; rw [List.length_drop, HN.out] at this; have := HJ3.out; omega, by simp, d5, d4, World.ownsRow_nil _ _ _ _, hRD4, hB4, hK4', Nat.le_of_eq HBS.out.symm⟩
 case round =>
  clear d5 d4 hRD4 hB4 hK4'
  obtain ⟨i, p, vs, rr, u3, rfl, hik, hvi, hpn, hpr, hpI, hdec, hXr, hPr, hO3, hRDr, hBr, hKr, hSr⟩ := hrel
  obtain ⟨Au, cu, rfl⟩ := zCh hO3
  have HD := zH hdec
  have HXr := zH hXr
  have HPr := zH hPr
  have HKr := zH hKr
  have HO3 := zH hO3
  have HIN := zH (And.intro hpn (And.intro hpr (And.intro hvi (And.intro hBr hSr))))
  have hy3 : wr.drew.cell? ⟨G, 3, none⟩ = some (.slice Au i cu) := (zAb hXr 3).trans rfl
  by_cases hlt : i < k
  ·have h7 := zFv w0 wr.drew g A n c bs (p : Int) (left : Int) 64 64 rfl (by decide) HN.out hnc hnl hg (zAr hBr) hRDr HC0.out
   rw [zEs hpr] at h7
   clear hdec hXr hPr hKr hO3 hpn hpr hvi hBr hSr hpI hRDr
   cases hq3 : decT 64 rr with
   | none =>
    rw [hq3] at h7
    have H7 := zH h7
    have HQ3 := zH (show Q = none by rw [HQ2.out, decTs_fail HD.out hlt hq3]; rfl)
    clear h7 hq3
    go_wp2_with fail
    refine zCe (n := 8) (S := fun w' => w'.cell? ⟨G, 3, none⟩ = some (.slice Au i cu)) (ds := [7]) (msk 8 [0, 2, 1, 3] 0).toArray (by kernel_rfl) rfl rfl hy3 (fun hHeld => ?_)
    refine zBh (T := tabR15) tabR15_eq (fun HT_ => ?_)
    iterate 3 (first | (refine zBi HT_.out (N := some _) (v := ?_) (a' := ?_) rfl rfl (by kernel_rfl) (fun _ _ _ h => h) (Or.inl ⟨by rfl, ?_⟩) ?_ ?_; rotate_left; intro w'; go_simp; (with_reducible rfl); rotate_left; simp only [Act.put, zI, zZ, zS, zAx, zAy]; rfl) | (refine zCd HT_.out (N := some _) (v := ?_) (a' := ?_) rfl rfl (by kernel_rfl) (fun _ _ _ h => h) (Or.inl ⟨by rfl, ?_⟩) hHeld ?_ ?_; rotate_left; intro w' hh; (try simp only at hh); go_simp; (with_reducible rfl); rotate_left; simp only [Act.put, zI, zZ, zS, zAx, zAy]; rfl))
    refine oneO (i := 3) (N := some 52) HT_.out rfl rfl (by kernel_rfl) (by decide) (fun K_ hK_ => ?_)
    refine zIe Try.func173 (by kernel_rfl) rfl #[.pointer (some ⟨g, 0, none⟩), .int .i64 64] (by rfl) rfl rfl (by (try simp only [List.map_toArray, List.map_cons, List.map_nil]); first | done | rfl) ?_
    refine H7.out.mono ?_
    intro e w9 hp9
    obtain ⟨rfl, hB9, hK9⟩ := hp9.none_
    refine Or.inr ⟨_, rfl, ?_⟩
    exact ⟨rfl, hB9, (HKr.out.trans (KeepBut.of_below (zAr (Below.refl wr.heap.size wr)) g none) (Or.inl rfl)).trans hK9 (Or.inl rfl), Or.inl ⟨HQ3.out, rfl⟩⟩
   | some q3 =>
   obtain ⟨v, r4⟩ := q3
   obtain ⟨p2, hp2, hp2n, hp2I, hr4, -⟩ := zDp HN.out HIN.out.1 (by rw [HIN.out.2.1]; exact hq3)
   rw [hq3] at h7
   obtain ⟨x, ex⟩ : ∃ x : ByteArray, (⟨v.toArray⟩ : ByteArray) = x := ⟨_, rfl⟩
   simp only [Option.map_some, ex] at h7
   have hmore := decTs_more HD.out hlt hq3
   rw [ex] at hmore
   have HM := zH hmore
   have HP2 := zH (And.intro hp2n (And.intro hr4 hp2I))
   have H7 := zH h7
   clear h7 hq3 hmore ex hp2n hr4 hp2I hp2
   go_wp2_with fail
   refine zCe (n := 8) (S := fun w' => w'.cell? ⟨G, 3, none⟩ = some (.slice Au i cu)) (ds := [7]) (msk 8 [0, 2, 1, 3, 4, 5, 6, 7] 0).toArray (by kernel_rfl) rfl rfl hy3 (fun hHeld => ?_)
   refine zBh (T := tabR15) tabR15_eq (fun HT_ => ?_)
   iterate 3 (first | (refine zBi HT_.out (N := some _) (v := ?_) (a' := ?_) rfl rfl (by kernel_rfl) (fun _ _ _ h => h) (Or.inl ⟨by rfl, ?_⟩) ?_ ?_; rotate_left; intro w'; go_simp; (with_reducible rfl); rotate_left; simp only [Act.put, zI, zZ, zS, zAx, zAy]; rfl) | (refine zCd HT_.out (N := some _) (v := ?_) (a' := ?_) rfl rfl (by kernel_rfl) (fun _ _ _ h => h) (Or.inl ⟨by rfl, ?_⟩) hHeld ?_ ?_; rotate_left; intro w' hh; (try simp only at hh); go_simp; (with_reducible rfl); rotate_left; simp only [Act.put, zI, zZ, zS, zAx, zAy]; rfl))
   refine oneO (i := 3) (N := some 52) HT_.out rfl rfl (by kernel_rfl) (by decide) (fun K_ hK_ => ?_)
   refine zIe Try.func173 (by kernel_rfl) rfl #[.pointer (some ⟨g, 0, none⟩), .int .i64 64] (by rfl) rfl rfl (by (try simp only [List.map_toArray, List.map_cons, List.map_nil]); first | done | rfl) ?_
   refine H7.out.mono ?_
   intro e w5 hp5
   obtain ⟨rfl, hB5, hK5, hRD5⟩ := hp5.some_ HP2.out.2.2
   obtain ⟨hg1, hg2, hg3⟩ := HGS.out
   obtain ⟨hpn, hpr, hvi, hBr, hSr⟩ := HIN.out
   have hbs := HBS.out
   have f5 := (hK5.2 G (by show G < wr.heap.size; omega) (by omega) (by simp)).trans HXr.out
   have f4 := (hK5.2 K (by show K < wr.heap.size; omega) (by omega) (by simp)).trans HPr.out
   have hs5 : wr.heap.size ≤ w5.heap.size := hK5.1
   have hO5 : w5.ownsRow base 9 1 (.slice Au i cu) i (encs Value.string vs) := zBt HO3.out (fun k hk => hK5.2 k (HO3.out.lt _ hk).2 (by have := (HO3.out.lt _ hk).1; omega) (by simp))
   have HK5 := zH ((HKr.out.trans (KeepBut.of_below (zAr (Below.refl wr.heap.size wr)) g none) (Or.inl rfl)).trans hK5 (Or.inl rfl))
   have HRD5 := zH hRD5
   have HB5 := zH hB5
   have F5 := zH f5
   have F4 := zH f4
   have HO5 := zH hO5
   have HLT := zH (fun k (hk : (Value.slice Au i cu).ownBlock = some k) => hO5.lt _ hk)
   have h5 : w5.cell? ⟨G, 3, none⟩ = some (.slice Au i cu) := (zAb f5 3).trans rfl
   refine Or.inl ⟨_, rfl, ?_⟩
   refine hK_.out _ _ h5 (fun hHeld => ?_)
   clear hK_ K_ h5 hp5 hK5 f5 f4 hO5 hRD5 hB5
   try simp only [Act.put, zI, zZ, zS]
   refine oneO (i := 4) (N := some 53) HT_.out rfl rfl (by kernel_rfl) (by decide) (fun K_ hK_ => ?_)
   go_simp
   refine hK_.out _ _ ((zAb ((Below.heap_alloc _ _ _ (zAp F5.out)).trans F5.out) 3).trans rfl) (fun hHeld => ?_)
   clear hK_ K_
   try simp only [Act.put, zI, zZ, zS]
   refine oneO (i := 5) (N := some 54) HT_.out rfl rfl (by kernel_rfl) (by decide) (fun K_ hK_ => ?_)
   refine zCt (w0 := w5) (W := w5) base (by rfl) (.tmp 50) (.tmp 53) 22 9 (.string ByteArray.empty) 1 16 rfl Try.underlying22 infoS rfl (by decide) (by decide) (.slice Au i cu) i (encs Value.string vs) [.string x] rfl rfl rfl (by intro u hu; simp only [List.mem_cons, List.not_mem_nil, or_false] at hu; subst hu; rfl) HO5.out (Below.refl _ _) (by omega) (by omega) ?_
   intro v2 w6 hown6 hb6 hg6 hat6
   obtain ⟨A2, c2, rfl⟩ := zCh hown6
   have hl2 := HLT.out
   have hneG : some G ≠ (Value.slice Au i cu).ownBlock := fun e => by have := (hl2 _ e.symm).1; omega
   have hneK : some K ≠ (Value.slice Au i cu).ownBlock := fun e => by have := (hl2 _ e.symm).1; omega
   have hneg : some g ≠ (Value.slice Au i cu).ownBlock := fun e => by have := (hl2 _ e.symm).1; omega
   have q5 := (hg6.block G (zAp F5.out) hneG).trans F5.out
   have q4 := (hg6.block K (zAp F4.out) hneK).trans F4.out
   have qg : RD w6 g A n c (p2 : Int) left := (hg6.block g HRD5.out.lt hneg).trans HRD5.out
   have hB6 : Below w0.heap.size w0 w6 := HB5.out.grown hg6 (by omega) (fun k hk => by have := (hl2 k hk).1; omega)
   have hK6 : KeepBut w w6 g none := ⟨by have := HK5.out.1; have := hg6.size; omega, fun i hi h1 h2 => (hg6.block i (by have := HK5.out.1; omega) (fun e => by have := (hl2 _ e.symm).1; have := EK.out; omega)).trans (HK5.out.2 i hi h1 h2)⟩
   have Q5 := zH q5
   have Q4 := zH q4
   have QG := zH qg
   have HB6 := zH hB6
   have HK6 := zH hK6
   have HO6 := zH hown6
   have HS6 := zH (show base ≤ w6.heap.size by have := hg6.size; omega)
   have HL6 := zH (fun k (hk : (Value.slice A2 (i + 1) c2).ownBlock = some k) => hown6.lt _ hk)
   have h6 : w6.cell? ⟨G, 3, none⟩ = some (.slice Au i cu) := (zAb q5 3).trans rfl
   have zz := zAa q5 3
   refine hK_.out _ _ h6 (fun hHeld => ?_)
   clear hK_ K_ hg6 hb6 hat6 hown6 hB6 hK6 qg q4 hneg hneK hneG hl2 q5
   try simp only [Act.put, zI, zZ, zS]
   (refine zBi HT_.out (N := some _) (v := ?_) (a' := ?_) rfl rfl (by kernel_rfl) (fun _ _ _ h => h) (Or.inl ⟨by rfl, ?_⟩) ?_ ?_; rotate_left; intro w'; go_simp; (with_reducible rfl); rotate_left; simp only [Act.put, zI, zZ, zS, zAx, zAy]; rfl)
   refine lastO (i := 7) (N := none) HT_.out rfl rfl (by kernel_rfl) (by decide) (fun K_ hK_ => ?_)
   have hcell : w6.cell? ⟨G, 3, none⟩ = some (.slice Au i cu) := h6
   go_simp
   refine hK_.out _ _ ?_
   clear hK_ K_
   try simp only [Act.put, zI, zZ, zS]
   refine zEg (zBz HT_.out (by kernel_rfl)) ?_
   go_wp2
   go_roundw
   case rel =>
    obtain ⟨hpn2, hr42, hpI2⟩ := HP2.out
    refine ⟨i + 1, p2, vs ++ [x], r4, _, by go_num, by omega, by rw [List.length_append, hvi]; rfl, hpn2, hr42, hpI2, HM.out, (zAn Q5.out 3 _).trans (by rfl), (Below.heap_setCell _ _ _ _ (show K ≠ G by omega)).trans Q4.out, ?_, (Below.heap_setCell _ _ _ _ (show g ≠ G by omega)).trans QG.out, HB6.out.setCell HGK.out _, ⟨by have := HK6.out.1; simpa using this, fun i hi h1 h2 => (Below.heap_setCell _ _ _ _ (show i ≠ G by have := EK.out; omega)).trans (HK6.out.2 i hi h1 h2)⟩, by have := HS6.out; simpa using this⟩
    have e : encs Value.string (vs ++ [x]) = encs Value.string vs ++ [.string x] := by simp [encs]
    rw [e]
    exact zBt HO6.out (fun k hk => Below.heap_setCell _ _ _ _ (show k ≠ G by have := (HL6.out k hk).1; omega))
   case measure => simp [intOf]; omega
  obtain rfl : i = k := by omega
  have HQ3 := zH (show Q = some (⟨4, x1, ⟨#[]⟩, vs, []⟩, .cells #[.slice A n c, .int .i64 (p : Int), .int .i64 left] 164 (0, 0)) by rw [HQ2.out, decTs_zero HD.out rfl]; simp only [Option.map_some, hpI])
  have HBr := zH hBr
  have HRDr := zH hRDr
  obtain ⟨hg1, hg2, hg3⟩ := HGS.out
  have y0 := zAb hXr 0
  have z0 := zAa hXr 0
  have y1 := zAb hXr 1
  have z1 := zAa hXr 1
  have y2 := zAb hXr 2
  have z2 := zAa hXr 2
  have y3 := zAb hXr 3
  have z3 := zAa hXr 3
  have y4 := zAb hXr 4
  have z4 := zAa hXr 4
  simp only [zC, zA, zB] at y0 y1 y2 y3 y4
  have yK0 := zAb hPr 0
  have zK0 := zAa hPr 0
  have yK1 := zAb hPr 1
  have zK1 := zAa hPr 1
  have yK2 := zAb hPr 2
  have zK2 := zAa hPr 2
  have yK3 := zAb hPr 3
  have zK3 := zAa hPr 3
  have yK4 := zAb hPr 4
  have zK4 := zAa hPr 4
  simp only [zC, zA, zB] at yK0 yK1 yK2 yK3 yK4
  have HSr := zH hSr
  have HVI := zH hvi
  have hne : G ≠ K := by omega
  have hne2 : K ≠ G := by omega
  clear hdec hXr hPr hKr hO3 hpn hpr hvi hBr hSr hpI hRDr HD hy3 HIN hg1 hg2 hg3
  go_wp2
  refine wp_loop_rounds 1 ?_
  rw [rounds_succ]
  go_wp2
  obtain ⟨hg1, hg2, hg3⟩ := HGS.out
  have hvi := HVI.out
  have hO := HO3.out
  rw [← hvi] at hO
  obtain ⟨F3, gg3, F4, gg4, ev3, ev4, hMF⟩ := MF.of_rows (m := ⟨4, x1, ⟨#[]⟩, vs, []⟩) (lo' := base) hO (World.ownsRow_nil _ _ _ _) (by simpa using Reps.none _ _) (Nat.le_refl _)
  simp only at ev3 ev4
  cases ev3
  cases ev4
  have hT := zEr (W := wr) (w := w) (o := .cells #[.slice A n c, .int .i64 (p : Int), .int .i64 (left : Int)] 164 (0, 0)) EK.out HPr.out hg HG.out HW.out HBr.out HKr.out HRDr.out (hMF.move (fun b hb => ⟨⟨by have := hb.1; have := HBS.out; omega, hb.2⟩, rfl⟩))
  rw [HQ3.out]
  simp only [mV, hvi, List.length_nil] at hT
  exact bodyPost_ret (zAt rfl (.cell K 25 _ (0, 0) _ rfl hT.1 Try.underlying25 rfl (by kernel_rfl) .nil)) rfl hT.2
end
theorem zHx {d left l2 i k : Nat} {r rr : List UInt8} {ks : List S25} (h : zBn d left k r = (zBn d l2 (k - i) rr).map (fun q => (ks ++ q.1, q.2))) (hi : i = k) : zBn d left k r = some (ks, l2, rr) := by
 subst hi
 rw [h, Nat.sub_self, zBn]
 simp
theorem zHz {d left l2 i k : Nat} {r rr : List UInt8} {ks : List S25} (h : zBn d left k r = (zBn d l2 (k - i) rr).map (fun q => (ks ++ q.1, q.2))) (hi : i < k) (hq : decM d l2 rr = none) : zBn d left k r = none := by
 obtain ⟨q, hq2⟩ : ∃ q, k - i = q + 1 := ⟨k - i - 1, by omega⟩
 rw [h, hq2, zBn, hq]
 rfl
theorem zHy {d left l2 l3 i k : Nat} {r rr r2 : List UInt8} {ks : List S25} {m : S25} (h : zBn d left k r = (zBn d l2 (k - i) rr).map (fun q => (ks ++ q.1, q.2))) (hi : i < k) (hq : decM d l2 rr = some (m, l3, r2)) : zBn d left k r = (zBn d l3 (k - (i + 1)) r2).map (fun q => ((ks ++ [m]) ++ q.1, q.2)) := by
 obtain ⟨q, hq2⟩ : ∃ q, k - i = q + 1 := ⟨k - i - 1, by omega⟩
 rw [h, hq2, zBn, hq, show k - (i + 1) = q by omega]
 simp only
 cases zBn d l3 q r2 with
 | none => rfl
 | some q => simp
theorem zCz {d l k n : Nat} {bs : List UInt8} {m : S25} {l' : Nat} {t : List UInt8} (hsuf : t <:+ bs.drop k) (hn : bs.length = n) (hk : k ≤ n) : ∃ k1 : Nat, k1 ≤ n ∧ (n : Int) - (t.length : Nat) = (k1 : Int) ∧ bs.drop k1 = t := by
 have h1 := hsuf.trans (List.drop_suffix k bs)
 have h5 := h1.length_le
 refine ⟨n - t.length, by omega, by omega, ?_⟩
 rw [← hn]
 exact (List.suffix_iff_eq_drop.1 h1).symm
theorem zIk {most : Nat} {r t : List UInt8} {v : List UInt8} (h : decT most r = some (v, t)) : t <:+ r := by
 unfold decT at h
 split at h
 ·cases h
 next m q hq =>
 split at h
 ·simp only [Option.some.injEq, Prod.mk.injEq] at h
  obtain ⟨rfl, rfl⟩ := h
  exact (List.drop_suffix m q).trans (zCo _ _ _ hq)
 cases h
theorem decTs_suf : ∀ (k : Nat) (r : List UInt8) (x : List ByteArray) (t : List UInt8), decTs k r = some (x, t) → t <:+ r
 | 0, r, x, t, h => by
  rw [decTs] at h
  simp only [Option.some.injEq, Prod.mk.injEq] at h
  obtain ⟨rfl, rfl⟩ := h
  exact List.suffix_refl _
 | k + 1, r, x, t, h => by
  rw [decTs] at h
  split at h
  ·cases h
  ·next v r1 h1 =>
   rw [Option.map_eq_some_iff] at h
   obtain ⟨⟨y, u⟩, hy, e⟩ := h
   simp only [Prod.mk.injEq] at e
   obtain ⟨rfl, rfl⟩ := e
   exact (decTs_suf k r1 y u hy).trans (zIk h1)
theorem zJk (d : Nat) (ih : ∀ (left : Nat) (r : List UInt8) (m : S25) (left' : Nat) (t : List UInt8), decM d left r = some (m, left', t) → t <:+ r) : ∀ (k left : Nat) (r : List UInt8) (x : List S25) (left' : Nat) (t : List UInt8), zBn d left k r = some (x, left', t) → t <:+ r
 | 0, left, r, x, left', t, h => by
  rw [zBn] at h
  simp only [Option.some.injEq, Prod.mk.injEq] at h
  obtain ⟨rfl, rfl, rfl⟩ := h
  exact List.suffix_refl _
 | k + 1, left, r, x, left', t, h => by
  rw [zBn] at h
  split at h
  ·cases h
  ·next m left1 r1 h1 =>
   rw [Option.map_eq_some_iff] at h
   obtain ⟨⟨y, l2, u⟩, hy, e⟩ := h
   simp only [Prod.mk.injEq] at e
   obtain ⟨rfl, rfl, rfl⟩ := e
   exact (zJk d ih k left1 r1 y l2 u hy).trans (ih left r m left1 r1 h1)
theorem zEv : ∀ (d left : Nat) (r : List UInt8) (m : S25) (left' : Nat) (t : List UInt8), decM d left r = some (m, left', t) → t <:+ r
 | 0, left, r, m, left', t, h => by rw [decM] at h; cases h
 | d + 1, 0, r, m, left', t, h => by rw [decM] at h <;> first | cases h | simp
 | d + 1, left + 1, r, m, left', t, h => by
  rw [decM] at h
  split at h
  ·cases h
  ·next op r1 h1 =>
   have l1 := zCo _ _ _ h1
   split at h
   ·simp only [Option.some.injEq, Prod.mk.injEq] at h
    obtain ⟨rfl, rfl, rfl⟩ := h
    exact l1
   ·split at h
    ·split at h
     ·cases h
     ·next n r2 h2 =>
      have l2 := zIk h2
      split at h
      ·cases h
      ·next v r3 h3 =>
       have l3 := zIk h3
       simp only [Option.some.injEq, Prod.mk.injEq] at h
       obtain ⟨rfl, rfl, rfl⟩ := h
       exact (l3.trans l2).trans l1
    ·split at h
     ·split at h
      ·cases h
      ·next n r2 h2 =>
       have l2 := zIk h2
       split at h
       ·cases h
       ·next k r3 h3 =>
        have l3 := zCo _ _ _ h3
        split at h
        ·rw [Option.map_eq_some_iff] at h
         obtain ⟨⟨y, u⟩, hy, e⟩ := h
         simp only [Prod.mk.injEq] at e
         obtain ⟨rfl, rfl, rfl⟩ := e
         exact (((decTs_suf k r3 y u hy).trans l3).trans l2).trans l1
        ·cases h
     ·split at h
      ·split at h
       ·cases h
       ·next k r2 h2 =>
        have l2 := zCo _ _ _ h2
        split at h
        ·rw [Option.map_eq_some_iff] at h
         obtain ⟨⟨y, l5, u⟩, hy, e⟩ := h
         simp only [Prod.mk.injEq] at e
         obtain ⟨rfl, rfl, rfl⟩ := e
         exact ((zJk d (zEv d) k left r2 y l5 u hy).trans l2).trans l1
        ·cases h
      ·split at h
       ·rw [Option.map_eq_some_iff] at h
        obtain ⟨⟨y, l5, u⟩, hy, e⟩ := h
        simp only [Prod.mk.injEq] at e
        obtain ⟨rfl, rfl, rfl⟩ := e
        exact (zJk d (zEv d) 1 left r1 y l5 u hy).trans l1
       ·cases h
theorem redW_at {A : Option Addr} {n c : Nat} {bs r : List UInt8} {j d left : Nat} (hr : bs.drop j = r) : redW A n c bs (j : Int) d left = (decM d left r).map (fun q => (q.1, .cells #[.slice A n c, .int .i64 ((n : Int) - (q.2.2.length : Nat)), .int .i64 (q.2.1 : Nat)] 164 (0, 0))) := by
 unfold redW
 rw [if_neg (by omega), Int.toNat_natCast, hr]
theorem RedPost.none_ {w0 w w' : World} {g : Nat} {e : Ending} (h : RedPost w0 w g none e w') : e = .panicked badP ∧ Below w0.heap.size w0 w' ∧ KeepBut w w' g none := by
 obtain ⟨h1, h2, ⟨-, h3⟩ | ⟨m, o, A3, c3, A4, c4, h3, -⟩⟩ := h
 ·exact ⟨h3, h1, h2⟩
 cases h3
theorem RedPost.some_ {w0 w w' : World} {g : Nat} {e : Ending} {m : S25} {o : Obj} (h : RedPost w0 w g (some (m, o)) e w') : ∃ A3 c3 A4 c4, e = .returned (mV m A3 c3 A4 c4) ∧ Below w0.heap.size w0 w' ∧ KeepBut w w' g none ∧ MF w' (fun b => w.heap.size ≤ b ∧ b < w'.heap.size) m A3 c3 A4 c4 ∧ w'.heap[g]? = some o := by
 obtain ⟨h1, h2, ⟨h3, -⟩ | ⟨m', o', A3, c3, A4, c4, h3, h4, h5, h6⟩⟩ := h
 ·cases h3
 simp only [Option.some.injEq, Prod.mk.injEq] at h3
 obtain ⟨rfl, rfl⟩ := h3
 exact ⟨A3, c3, A4, c4, h4, h1, h2, h5, h6⟩
def IHred (w0 : World) (g : Nat) (A : Option Addr) (n c : Nat) (bs : List UInt8) (d : Nat) (dz : Int) : Prop :=
 ∀ (w : World) (at_ : Int) (left : Nat), left ≤ 1000 → Below w0.heap.size w0 w → w0.heap.size ≤ g → RD w g A n c at_ left → Calls Try.prog 140 #[.pointer (some ⟨g, 0, none⟩), .int .i64 dz] w (RedPost w0 w g (redW A n c bs at_ d left))
noncomputable def zIq : Bool × List (List Nat × List Nat) := rtab .any (zFs Try.f140 24)
theorem zFa : rtab .any (zFs Try.f140 24) = zIq := rfl
theorem matcher140g5 (w0 w : World) (g : Nat) (A : Option Addr) (n c : Nat) (bs : List UInt8) (at_ : Int) (left d : Nat) (hl : left ≤ 1000) (hd8 : d ≤ 7) (hn : bs.length = n) (hnl : n ≤ 1000000000000000) (r : List UInt8) (j : Nat) (hnc : n ≤ c) (hj : (n : Int) - (r.length : Nat) = (j : Int)) (hr : bs.drop j = r) (hq0 : getW bs at_ = some (5, r)) (hg : w0.heap.size ≤ g) (hB : Below w0.heap.size w0 w) (hS : RD w g A n c at_ ((left + 1 : Nat) : Int)) (hC0 : (Kd.int .u8).C w0 A bs.length (bys bs)) (dz : Int) (hdz : dz = 8 - d) (ih : IHred w0 g A n c bs d (dz + 1)) :
  Calls Try.prog 140 #[.pointer (some ⟨g, 0, none⟩), .int .i64 dz] w (RedPost w0 w g (redW A n c bs at_ (d + 1) (left + 1))) := by
 have IH := zH ih
 clear ih
 have hq : zDb 7 bs at_ = some (.int .i64 5, r) := by unfold zDb; rw [hq0]; rfl
 have hQ : redW A n c bs at_ (d + 1) (left + 1) = (match decV 0 0 r with
    | none => none
    | some (k, r3) => if k ≤ 64 then (zBn d left k r3).map (fun q => ((⟨5, ⟨#[]⟩, ⟨#[]⟩, [], q.1⟩ : S25), Obj.cells #[.slice A n c, .int .i64 ((n : Int) - (q.2.2.length : Nat)), .int .i64 (q.2.1 : Nat)] 164 (0, 0))) else none) := by
  unfold getW at hq0
  unfold redW
  split
  ·next hi => rw [if_pos hi] at hq0; cases hq0
  ·next hi =>
   rw [if_neg hi] at hq0
   rw [decM, hq0]
   simp only
   rw [if_neg (by decide), if_neg (by decide), if_neg (by decide), if_pos (by decide)]
   all_goals
    cases decV 0 0 r with
    | none => rfl
    | some q =>
     simp only
     split
     ·cases zBn d left q.1 q.2 <;> rfl
     ·rfl
 obtain ⟨Q, eQ⟩ : ∃ Q, redW A n c bs at_ (d + 1) (left + 1) = Q := ⟨_, rfl⟩
 rw [eQ]
 have HQ := zH (eQ.symm.trans hQ)
 have HN := zH hn
 have HC0 := zH hC0
 have HR := zH hr
 clear hQ hq0 eQ
 have hgl := hS.lt
 have hS2 : RD (w.alloc (.cells Z5 25)) g A n c at_ ((left + 1 : Nat) : Int) := (Below.heap_alloc _ _ _ hgl).trans hS
 have hw1 : wrap64 (((left + 1 : Nat) : Int) - 1) = (left : Int) := by unfold wrap64; omega
 have hd1 : ¬ (left : Int) < 0 := by omega
 have hd2 : ¬ (8 : Int) < dz := by omega
 have hdd1 : decide ((left : Int) < 0) = false := zF hd1
 have hdd2 : decide ((8 : Int) < dz) = false := zF hd2
 have g2 := hS2.c2
 have z2 := hS2.z2
 obtain ⟨V, eV⟩ : ∃ V, V = (w.alloc (.cells Z5 25)).setCell ⟨g, 2, none⟩ (.int .i64 left) := ⟨_, rfl⟩
 have hBV : Below w0.heap.size w0 V := by rw [eV]; exact (zAc hB _).setCell hg _
 have hKV : KeepBut w V g none := by rw [eV]; exact (KeepBut.of_below (zAc (Below.refl w.heap.size w) _) g none).set_ _ _
 have hSV : RD V g A n c at_ (left : Int) := by rw [eV]; exact hS2.set2 _
 have h1 := zCp w0 V g A n c bs at_ left 7 7 rfl (by decide) hn hnl hg hBV hSV hC0
 rw [hq] at h1
 have H1 := zH h1
 have HK := zH hKV
 have hV4 : V.heap[w.heap.size]? = some (.cells Z5 25 (0, 0)) := by rw [eV]; exact (Below.heap_setCell _ _ _ _ (by simp; omega)).trans (zAs w _)
 have HV4 := zH hV4
 have HG := zH hgl
 have HW := zH hB.size
 have HDZ := zH hdz
 clear hV4
 clear hS hB hS2 hgl hBV hKV hSV h1 hC0 hn hdz hr
 go_enter Try.func140, Try.ntmps140
 go_wp2_with fail
 rw [← eV]
 refine H1.out.mono ?_
 intro e w1 hp1
 obtain ⟨rfl, hB1, hK1, hRD⟩ := hp1.some_ hj
 have k4 := (hK1.2 w.heap.size (zAp HV4.out) (by have := HG.out; omega) (by simp)).trans HV4.out
 obtain ⟨K, eK⟩ : ∃ K, w.heap.size = K := ⟨_, rfl⟩
 rw [eK] at k4 ⊢
 have EK := zH eK.symm
 have HKW := zH (HK.out.trans hK1 (Or.inl rfl))
 have hKl := zAp k4
 obtain ⟨W, eW⟩ : ∃ W, W = w1.alloc (.cells #[.int .i64 5, .string ⟨#[]⟩, .string ⟨#[]⟩, .slice none 0 0, .slice none 0 0] 25) := ⟨_, rfl⟩
 obtain ⟨G, eG⟩ : ∃ G, w1.heap.size = G := ⟨_, rfl⟩
 have b5 : W.heap[G]? = some (.cells #[.int .i64 5, .string ⟨#[]⟩, .string ⟨#[]⟩, .slice none 0 0, .slice none 0 0] 25 (0, 0)) := by rw [eW, ← eG]; exact zAs w1 _
 have b4 : W.heap[K]? = some (.cells Z5 25 (0, 0)) := by rw [eW]; exact (Below.heap_alloc _ _ _ hKl).trans k4
 have hBW : Below w0.heap.size w0 W := by rw [eW]; exact zAc hB1 _
 have hKW : KeepBut w W g none := by rw [eW]; exact HKW.out.trans (KeepBut.of_below (zAc (Below.refl w1.heap.size w1) _) g none) (Or.inl rfl)
 have hRW : RD W g A n c (j : Int) left := by rw [eW]; exact (Below.heap_alloc _ _ _ hRD.lt).trans hRD
 have HGW := zH (show g < K ∧ K < G ∧ W.heap.size = G + 1 from ⟨by have := HG.out; omega, by omega, by rw [eW, World.size_alloc, eG]⟩)
 clear eK hB1 hK1 hp1 hRD hKl k4 eV H1 HK HV4 HKW
 have h3 := zCp w0 W g A n c bs (j : Int) (left : Int) 64 64 rfl (by decide) HN.out hnl hg hBW hRW HC0.out
 have E5 := zH b5
 have E4 := zH b4
 have HKW := zH hKW
 have HRr := zH (show j ≤ n by omega)
 have HGK := zH (show w0.heap.size ≤ G by have := HW.out; have := EK.out; have := HGW.out; omega)
 clear b5 b4 hKW hBW hRW hj
 have hthrow : decV 0 0 r = none ∨ (∃ k r3, decV 0 0 r = some (k, r3) ∧ ¬ k ≤ 64) ∨ ∃ k r3, decV 0 0 r = some (k, r3) ∧ k ≤ 64 := by
  cases decV 0 0 r with
  | none => exact Or.inl rfl
  | some q =>
  by_cases h : q.1 ≤ 64
  ·exact Or.inr (Or.inr ⟨_, _, rfl, h⟩)
  exact Or.inr (Or.inl ⟨_, _, rfl, h⟩)
 obtain hno | ⟨k, r3, hq2, hk16⟩ : (Q = none ∧ zDb 64 bs (j : Int) = none) ∨ ∃ k r3, decV 0 0 r = some (k, r3) ∧ k ≤ 64 := by
  rcases hthrow with h | ⟨k, r3, h, h16⟩ | h
  ·exact Or.inl ⟨by rw [HQ.out]; simp only [h], zEl HR.out (Or.inl h)⟩
  ·exact Or.inl ⟨by rw [HQ.out]; simp only [h, if_neg h16], zEl HR.out (Or.inr ⟨k, r3, h, h16⟩)⟩
  exact Or.inr h
 ·rw [hno.2] at h3
  have H3 := zH h3
  have HQ2 := zH hno.1
  clear h3 hno hthrow
  go_wp2_with fail
  rw [← eW]
  refine H3.out.mono ?_
  intro e w9 hp9
  obtain ⟨rfl, hB9, hK9⟩ := hp9.none_
  exact ⟨rfl, hB9, HKW.out.trans hK9 (Or.inl rfl), Or.inl ⟨HQ2.out, rfl⟩⟩
 rw [zHm HR.out hq2 hk16] at h3
 obtain ⟨j3, hj3, hj3n, hj3I, hr3⟩ := zHw HN.out HRr.out (by rw [HR.out]; exact hq2)
 have HQ2 := zH (show Q = (zBn d left k r3).map (fun q => ((⟨5, ⟨#[]⟩, ⟨#[]⟩, [], q.1⟩ : S25), Obj.cells #[.slice A n c, .int .i64 ((n : Int) - (q.2.2.length : Nat)), .int .i64 (q.2.1 : Nat)] 164 (0, 0))) by rw [HQ.out, hq2]; simp only [if_pos hk16])
 have H3 := zH h3
 clear h3 hq2 hthrow
 go_wp2_with fail
 rw [← eW]
 refine H3.out.mono ?_
 intro e w4 hp4
 obtain ⟨rfl, hB4, hK4, hRD4⟩ := hp4.some_ hj3I
 obtain ⟨hg1, hg2, hg3⟩ := HGW.out
 have d5 := (hK4.2 G (by omega) (by omega) (by simp)).trans E5.out
 have d4 := (hK4.2 K (by omega) (by omega) (by simp)).trans E4.out
 have hs4 := hK4.1
 have hK4' := HKW.out.trans hK4 (Or.inl rfl)
 have HGS := zH (show g < K ∧ K < G ∧ G < w4.heap.size from ⟨hg1, hg2, by omega⟩)
 have HR3 := zH hr3
 have HJ3 := zH (show j3 ≤ n by omega)
 obtain ⟨base, hbase⟩ : ∃ base, w4.heap.size = base := ⟨_, rfl⟩
 have HBS := zH hbase
 have hw0b : w0.heap.size ≤ base := by have := HGK.out; omega
 clear hp4 hK4 H3 E4 E5 hj3 hj3I hg1 hg2 hg3 hs4 hr3 hj3n HQ hbase HR HRr HGW eG eW HKW
 go_wp2
 have hdw : wrap64 (dz + 1) = dz + 1 := by have := HDZ.out; unfold wrap64; omega
 go_loopw [65] (fun u65 wr => ∃ (i p l2 : Nat) (ks : List S25) (cells : List Value) (rr : List UInt8) (u4 : Value), u65 = .int .i64 (i : Nat) ∧ i ≤ k ∧ ks.length = i ∧ p ≤ n ∧ l2 ≤ left ∧ bs.drop p = rr ∧ (n : Int) - (rr.length : Nat) = (p : Int) ∧ zBn d left k r3 = (zBn d l2 (k - i) rr).map (fun q => (ks ++ q.1, q.2)) ∧ wr.heap[G]? = some (.cells #[.int .i64 5, .string ⟨#[]⟩, .string ⟨#[]⟩, .slice none 0 0, u4] 25 (0, 0)) ∧ wr.heap[K]? = some (.cells Z5 25 (0, 0)) ∧ wr.ownsRow base 25 5 u4 i cells ∧ Reps (KR wr (Part base wr u4)) 5 ks cells ∧ RD wr g A n c (p : Int) l2 ∧ Below w0.heap.size w0 wr ∧ KeepBut w wr g none ∧ base ≤ wr.heap.size)
  (fun u65 _ => k - (intOf u65).toNat)
 case atStart => exact ⟨0, j3, left, [], [], r3, _, rfl, Nat.zero_le _, rfl, HJ3.out, Nat.le_refl _, HR3.out, by have := congrArg List.length HR3.out; rw [List.length_drop, HN.out] at this; have := HJ3.out; omega, by simp, d5, d4, World.ownsRow_nil _ _ _ _, by simpa using Reps.none _ _, hRD4, hB4, hK4', Nat.le_of_eq HBS.out.symm⟩
 case round =>
  clear d5 d4 hRD4 hB4 hK4'
  obtain ⟨i, p, l2, ks, cells, rr, u4, rfl, hik, hvi, hpn, hl2, hpr, hpI, hdec, hXr, hPr, hO3, hRr, hRDr, hBr, hKr, hSr⟩ := hrel
  obtain ⟨Au, cu, rfl⟩ := zCh hO3
  have HD := zH hdec
  have HXr := zH hXr
  have HPr := zH hPr
  have HKr := zH hKr
  have HO3 := zH hO3
  have HRR := zH hRr
  have HIN := zH (And.intro hpn (And.intro hpr (And.intro hvi (And.intro hBr (And.intro hSr hl2)))))
  have hy3 : wr.drew.cell? ⟨G, 4, none⟩ = some (.slice Au i cu) := (zAb hXr 4).trans rfl
  by_cases hlt : i < k
  ·have hki : ¬ (k : Int) ≤ (i : Int) := by omega
   have h7 := IH.out wr.drew (p : Int) l2 (by omega) (zAr hBr) hg hRDr
   rw [redW_at hpr] at h7
   clear hdec hXr hPr hKr hO3 hpn hpr hvi hBr hSr hpI hRDr hl2 hRr
   cases hq3 : decM d l2 rr with
   | none =>
    rw [hq3] at h7
    have H7 := zH h7
    have HQ3 := zH (show Q = none by rw [HQ2.out, zHz HD.out hlt hq3]; rfl)
    clear h7 hq3
    go_wp2_with fail
    refine zCe (n := 10) (S := fun w' => w'.cell? ⟨G, 4, none⟩ = some (.slice Au i cu)) (ds := [9]) (msk 10 [0, 2, 3, 4, 1, 5] 0).toArray (by kernel_rfl) rfl rfl hy3 (fun hHeld => ?_)
    refine zBh (T := zIq) zFa (fun HT_ => ?_)
    iterate 3 (refine zBi HT_.out (N := some _) (v := ?_) (a' := ?_) rfl rfl (by kernel_rfl) (fun _ _ _ h => h) (Or.inl ⟨by rfl, ?_⟩) ?_ ?_; rotate_left; intro w'; go_simp; (with_reducible rfl); rotate_left; simp only [Act.put, zI, zZ, zS, zAx, zAy]; rfl)
    iterate 2 (first | (refine zBi HT_.out (N := some _) (v := ?_) (a' := ?_) rfl rfl (by kernel_rfl) (fun _ _ _ h => h) (Or.inl ⟨by rfl, ?_⟩) ?_ ?_; rotate_left; intro w'; go_simp; (with_reducible rfl); rotate_left; simp only [Act.put, zI, zZ, zS, zAx, zAy, hdw]; rfl) | (refine zCd HT_.out (N := some _) (v := ?_) (a' := ?_) rfl rfl (by kernel_rfl) (fun _ _ _ h => h) (Or.inl ⟨by rfl, ?_⟩) hHeld ?_ ?_; rotate_left; intro w' hh; (try simp only at hh); go_simp; (with_reducible rfl); rotate_left; simp only [Act.put, zI, zZ, zS, zAx, zAy]; rfl))
    refine oneO (i := 5) (N := some 72) HT_.out rfl rfl (by kernel_rfl) (by decide) (fun K_ hK_ => ?_)
    refine zIe Try.func140 (by kernel_rfl) rfl #[.pointer (some ⟨g, 0, none⟩), .int .i64 (dz + 1)] (by rfl) rfl rfl (by (try simp only [List.map_toArray, List.map_cons, List.map_nil]); first | done | rfl) ?_
    refine H7.out.mono ?_
    intro e w9 hp9
    obtain ⟨rfl, hB9, hK9⟩ := hp9.none_
    refine Or.inr ⟨_, rfl, ?_⟩
    exact ⟨rfl, hB9, (HKr.out.trans (KeepBut.of_below (zAr (Below.refl wr.heap.size wr)) g none) (Or.inl rfl)).trans hK9 (Or.inl rfl), Or.inl ⟨HQ3.out, rfl⟩⟩
   | some q3 =>
   obtain ⟨kid, l3, r4⟩ := q3
   obtain ⟨p2, hp2n, hp2I, hr4⟩ := zCz (d := d) (l := l2) (m := kid) (l' := l3) (by rw [HIN.out.2.1]; exact zEv _ _ _ _ _ _ hq3) HN.out HIN.out.1
   rw [hq3] at h7
   simp only [Option.map_some, hp2I] at h7
   have HM := zH (zHy HD.out hlt hq3)
   have HP2 := zH (And.intro hp2n (And.intro hr4 (And.intro hp2I (show l3 ≤ left by have := (zEi _ _ _ _ _ _ hq3).2; have := HIN.out.2.2.2.2.2; omega))))
   have H7 := zH h7
   clear h7 hq3 hp2n hr4 hp2I
   go_wp2_with fail
   refine zCe (n := 10) (S := fun w' => w'.cell? ⟨G, 4, none⟩ = some (.slice Au i cu)) (ds := [9]) (msk 10 [0, 2, 3, 4, 1, 5, 6, 7, 8, 9] 0).toArray (by kernel_rfl) rfl rfl hy3 (fun hHeld => ?_)
   refine zBh (T := zIq) zFa (fun HT_ => ?_)
   iterate 3 (refine zBi HT_.out (N := some _) (v := ?_) (a' := ?_) rfl rfl (by kernel_rfl) (fun _ _ _ h => h) (Or.inl ⟨by rfl, ?_⟩) ?_ ?_; rotate_left; intro w'; go_simp; (with_reducible rfl); rotate_left; simp only [Act.put, zI, zZ, zS, zAx, zAy]; rfl)
   iterate 2 (first | (refine zBi HT_.out (N := some _) (v := ?_) (a' := ?_) rfl rfl (by kernel_rfl) (fun _ _ _ h => h) (Or.inl ⟨by rfl, ?_⟩) ?_ ?_; rotate_left; intro w'; go_simp; (with_reducible rfl); rotate_left; simp only [Act.put, zI, zZ, zS, zAx, zAy, hdw]; rfl) | (refine zCd HT_.out (N := some _) (v := ?_) (a' := ?_) rfl rfl (by kernel_rfl) (fun _ _ _ h => h) (Or.inl ⟨by rfl, ?_⟩) hHeld ?_ ?_; rotate_left; intro w' hh; (try simp only at hh); go_simp; (with_reducible rfl); rotate_left; simp only [Act.put, zI, zZ, zS, zAx, zAy]; rfl))
   refine oneO (i := 5) (N := some 72) HT_.out rfl rfl (by kernel_rfl) (by decide) (fun K_ hK_ => ?_)
   refine zIe Try.func140 (by kernel_rfl) rfl #[.pointer (some ⟨g, 0, none⟩), .int .i64 (dz + 1)] (by rfl) rfl rfl (by (try simp only [List.map_toArray, List.map_cons, List.map_nil]); first | done | rfl) ?_
   refine H7.out.mono ?_
   intro e w5 hp5
   obtain ⟨D3, f3, D4, f4, rfl, hB5, hK5, hMF5, hRD5⟩ := hp5.some_
   obtain ⟨hg1, hg2, hg3⟩ := HGS.out
   obtain ⟨hpn, hpr, hvi, hBr, hSr, hl2⟩ := HIN.out
   have hbs := HBS.out
   have f5 := (hK5.2 G (by show G < wr.heap.size; omega) (by omega) (by simp)).trans HXr.out
   have f6 := (hK5.2 K (by show K < wr.heap.size; omega) (by omega) (by simp)).trans HPr.out
   have hs5 : wr.heap.size ≤ w5.heap.size := hK5.1
   have hO5 : w5.ownsRow base 25 5 (.slice Au i cu) i cells := zBt HO3.out (fun k hk => hK5.2 k (HO3.out.lt _ hk).2 (by have := (HO3.out.lt _ hk).1; omega) (by simp))
   have hR5 : Reps (KR w5 (Part base w5 (.slice Au i cu))) 5 ks cells := HRR.out.imp_ (fun p c hk => hk.move (fun b hb => ⟨⟨hb.1, by have := hb.2.1; omega, hb.2.2⟩, hK5.2 b hb.2.1 (by have := hb.1; omega) (by simp)⟩))
   have HK5 := zH ((HKr.out.trans (KeepBut.of_below (zAr (Below.refl wr.heap.size wr)) g none) (Or.inl rfl)).trans hK5 (Or.inl rfl))
   have HRD5 := zH hRD5
   have HMF5 := zH hMF5
   have HB5 := zH hB5
   have HR5 := zH hR5
   have F5 := zH f5
   have F6 := zH f6
   have HO5 := zH hO5
   have HS5 := zH hs5
   have HLT := zH (fun k (hk : (Value.slice Au i cu).ownBlock = some k) => HO3.out.lt _ hk)
   have h5 : w5.cell? ⟨G, 4, none⟩ = some (.slice Au i cu) := (zAb f5 4).trans rfl
   refine Or.inl ⟨_, rfl, ?_⟩
   refine hK_.out _ _ h5 (fun hHeld => ?_)
   clear hK_ K_ h5 hp5 hK5 f5 f6 hO5 hRD5 hB5 hMF5 hR5
   try simp only [Act.put, zI, zZ, zS]
   refine oneO (i := 6) (N := some 73) HT_.out rfl rfl (by kernel_rfl) (by decide) (fun K_ hK_ => ?_)
   go_simp
   refine hK_.out _ _ ((zAb ((Below.heap_alloc _ _ _ (zAp F5.out)).trans F5.out) 4).trans rfl) (fun hHeld => ?_)
   clear hK_ K_
   try simp only [Act.put, zI, zZ, zS]
   refine oneO (i := 7) (N := some 74) HT_.out rfl rfl (by kernel_rfl) (by decide) (fun K_ hK_ => ?_)
   refine zCt (w0 := w5) (W := w5) base (by rfl) (.tmp 68) (.tmp 73) 23 25 (.agg Z5) 5 88 rfl Try.underlying23 infoM rfl (by decide) (by decide) (.slice Au i cu) i cells [.int .i64 kid.f0, .string kid.f1, .string kid.f2, .slice D3 kid.f3.length f3, .slice D4 kid.f4.length f4] rfl rfl rfl (by intro u hu; simp only [List.mem_cons, List.not_mem_nil, or_false] at hu; rcases hu with rfl | rfl | rfl | rfl | rfl <;> rfl) HO5.out (Below.refl _ _) (by omega) (by omega) ?_
   intro v2 w6 hown6 hb6 hg6 hat6
   obtain ⟨A2, c2, rfl⟩ := zCh hown6
   have hl3 := HLT.out
   have hneG : some G ≠ (Value.slice Au i cu).ownBlock := fun e => by have := (hl3 _ e.symm).1; omega
   have hneK : some K ≠ (Value.slice Au i cu).ownBlock := fun e => by have := (hl3 _ e.symm).1; omega
   have hneg : some g ≠ (Value.slice Au i cu).ownBlock := fun e => by have := (hl3 _ e.symm).1; omega
   have q5 := (hg6.block G (zAp F5.out) hneG).trans F5.out
   have q4 := (hg6.block K (zAp F6.out) hneK).trans F6.out
   have qg : RD w6 g A n c (p2 : Int) l3 := (hg6.block g (zAp HRD5.out) hneg).trans HRD5.out
   have hB6 : Below w0.heap.size w0 w6 := HB5.out.grown hg6 (by omega) (fun k hk => by have := (hl3 k hk).1; omega)
   have hK6 : KeepBut w w6 g none := ⟨by have := HK5.out.1; have := hg6.size; omega, fun i hi h1 h2 => (hg6.block i (by have := HK5.out.1; omega) (fun e => by have := (hl3 _ e.symm).1; have := EK.out; omega)).trans (HK5.out.2 i hi h1 h2)⟩
   have hfar : ∀ b, b < w5.heap.size → (Value.slice Au i cu).ownBlock ≠ some b → (Value.slice A2 (i + 1) c2).ownBlock ≠ some b := fun b hb hne e => by
    rcases hat6 with h | ⟨b', h, hb'⟩
    ·exact hne (h.symm.trans e)
    ·rw [h] at e; cases e; omega
   have hR6 : Reps (KR w6 (Part base w6 (.slice A2 (i + 1) c2))) 5 (ks ++ [kid]) (cells ++ [.int .i64 kid.f0, .string kid.f1, .string kid.f2, .slice D3 kid.f3.length f3, .slice D4 kid.f4.length f4]) := by
    have hs6 := hg6.size
    refine Reps.snoc (HR5.out.imp_ (fun p c hk => hk.move (fun b hb => ?_))) ⟨D3, f3, D4, f4, rfl, HMF5.out.move (fun b hb => ?_)⟩ rfl
    ·obtain ⟨b1, b2, b3⟩ := hb
     exact ⟨⟨b1, by omega, hfar b b2 b3⟩, hg6.block b b2 (fun e => b3 e.symm)⟩
    obtain ⟨b1, b2⟩ := hb
    have b1' : wr.heap.size ≤ b := b1
    have b3 : (Value.slice Au i cu).ownBlock ≠ some b := fun e => by have := (hl3 b e).2; omega
    exact ⟨⟨by omega, by omega, hfar b b2 b3⟩, hg6.block b b2 (fun e => b3 e.symm)⟩
   have HR6 := zH hR6
   have Q5 := zH q5
   have Q4 := zH q4
   have QG := zH qg
   have HB6 := zH hB6
   have HK6 := zH hK6
   have HO6 := zH hown6
   have HS6 := zH (show base ≤ w6.heap.size by have := hg6.size; omega)
   have HL6 := zH (fun k (hk : (Value.slice A2 (i + 1) c2).ownBlock = some k) => hown6.lt _ hk)
   have h6 : w6.cell? ⟨G, 4, none⟩ = some (.slice Au i cu) := (zAb q5 4).trans rfl
   have zz := zAa q5 4
   refine hK_.out _ _ h6 (fun hHeld => ?_)
   clear hK_ K_ hg6 hb6 hat6 hown6 hB6 hK6 qg q4 hneg hneK hneG hl3 q5 hR6 hfar
   try simp only [Act.put, zI, zZ, zS]
   (refine zBi HT_.out (N := some _) (v := ?_) (a' := ?_) rfl rfl (by kernel_rfl) (fun _ _ _ h => h) (Or.inl ⟨by rfl, ?_⟩) ?_ ?_; rotate_left; intro w'; go_simp; (with_reducible rfl); rotate_left; simp only [Act.put, zI, zZ, zS, zAx, zAy]; rfl)
   refine lastO (i := 9) (N := none) HT_.out rfl rfl (by kernel_rfl) (by decide) (fun K_ hK_ => ?_)
   have hcell : w6.cell? ⟨G, 4, none⟩ = some (.slice Au i cu) := h6
   go_simp
   refine hK_.out _ _ ?_
   clear hK_ K_
   try simp only [Act.put, zI, zZ, zS]
   refine zEg (zBz HT_.out (by kernel_rfl)) ?_
   go_wp2
   go_roundw
   case rel =>
    obtain ⟨hpn2, hr42, hpI2, hl3⟩ := HP2.out
    refine ⟨i + 1, p2, l3, ks ++ [kid], _, r4, _, by go_num, by omega, by rw [List.length_append, hvi]; rfl, hpn2, hl3, hr42, hpI2, HM.out, (zAn Q5.out 4 _).trans (by rfl), (Below.heap_setCell _ _ _ _ (show K ≠ G by omega)).trans Q4.out, zBt HO6.out (fun k hk => Below.heap_setCell _ _ _ _ (show k ≠ G by have := (HL6.out k hk).1; omega)), HR6.out.imp_ (fun p c hk => hk.move (fun b hb => ⟨⟨hb.1, by have := hb.2.1; simpa using this, hb.2.2⟩, Below.heap_setCell _ _ _ _ (show b ≠ G by have := hb.1; omega)⟩)), (Below.heap_setCell _ _ _ _ (show g ≠ G by omega)).trans QG.out, HB6.out.setCell HGK.out _, ⟨by have := HK6.out.1; simpa using this, fun i hi h1 h2 => (Below.heap_setCell _ _ _ _ (show i ≠ G by have := EK.out; omega)).trans (HK6.out.2 i hi h1 h2)⟩, by have := HS6.out; simpa using this⟩
   case measure => simp [intOf]; omega
  obtain rfl : i = k := by omega
  have HQ3 := zH (show Q = some (⟨5, ⟨#[]⟩, ⟨#[]⟩, [], ks⟩, .cells #[.slice A n c, .int .i64 (p : Int), .int .i64 l2] 164 (0, 0)) by rw [HQ2.out, zHx HD.out rfl]; simp only [Option.map_some, hpI])
  have HBr := zH hBr
  have HRDr := zH hRDr
  obtain ⟨hg1, hg2, hg3⟩ := HGS.out
  have y0 := zAb hXr 0
  have z0 := zAa hXr 0
  have y1 := zAb hXr 1
  have z1 := zAa hXr 1
  have y2 := zAb hXr 2
  have z2 := zAa hXr 2
  have y3 := zAb hXr 3
  have z3 := zAa hXr 3
  have y4 := zAb hXr 4
  have z4 := zAa hXr 4
  simp only [zC, zA, zB] at y0 y1 y2 y3 y4
  have yK0 := zAb hPr 0
  have zK0 := zAa hPr 0
  have yK1 := zAb hPr 1
  have zK1 := zAa hPr 1
  have yK2 := zAb hPr 2
  have zK2 := zAa hPr 2
  have yK3 := zAb hPr 3
  have zK3 := zAa hPr 3
  have yK4 := zAb hPr 4
  have zK4 := zAa hPr 4
  simp only [zC, zA, zB] at yK0 yK1 yK2 yK3 yK4
  have HSr := zH hSr
  have HVI := zH hvi
  have hne : G ≠ K := by omega
  have hne2 : K ≠ G := by omega
  clear hdec hXr hPr hKr hO3 hpn hpr hvi hBr hSr hpI hRDr HD hy3 HIN hg1 hg2 hg3 hRr hl2
  go_wp2
  obtain ⟨hg1, hg2, hg3⟩ := HGS.out
  have hvi := HVI.out
  have hO := HO3.out
  have hRQ := HRR.out
  rw [← hvi] at hO hRQ
  obtain ⟨F3, gg3, F4, gg4, ev3, ev4, hMF⟩ := MF.of_rows (m := ⟨5, ⟨#[]⟩, ⟨#[]⟩, [], ks⟩) (lo' := base) (World.ownsRow_nil _ _ _ _) hO hRQ (Nat.le_refl _)
  simp only at ev3 ev4
  cases ev3
  cases ev4
  have hT := zEr (W := wr) (w := w) (o := .cells #[.slice A n c, .int .i64 (p : Int), .int .i64 (l2 : Int)] 164 (0, 0)) EK.out HPr.out hg HG.out HW.out HBr.out HKr.out HRDr.out (hMF.move (fun b hb => ⟨⟨by have := hb.1; have := HBS.out; omega, hb.2⟩, rfl⟩))
  rw [HQ3.out]
  simp only [mV, hvi, List.length_nil] at hT
  exact bodyPost_ret (zAt rfl (.cell K 25 _ (0, 0) _ rfl hT.1 Try.underlying25 rfl (by kernel_rfl) .nil)) rfl hT.2
theorem matcher140g6 (w0 w : World) (g : Nat) (A : Option Addr) (n c : Nat) (bs : List UInt8) (at_ : Int) (left d : Nat) (hl : left ≤ 1000) (hd8 : d ≤ 7) (hn : bs.length = n) (hnl : n ≤ 1000000000000000) (r : List UInt8) (j : Nat) (hnc : n ≤ c) (hj : (n : Int) - (r.length : Nat) = (j : Int)) (hr : bs.drop j = r) (hq0 : getW bs at_ = some (6, r)) (hg : w0.heap.size ≤ g) (hB : Below w0.heap.size w0 w) (hS : RD w g A n c at_ ((left + 1 : Nat) : Int)) (hC0 : (Kd.int .u8).C w0 A bs.length (bys bs)) (dz : Int) (hdz : dz = 8 - d) (ih : IHred w0 g A n c bs d (dz + 1)) :
  Calls Try.prog 140 #[.pointer (some ⟨g, 0, none⟩), .int .i64 dz] w (RedPost w0 w g (redW A n c bs at_ (d + 1) (left + 1))) := by
 have IH := zH ih
 clear ih
 have hq : zDb 7 bs at_ = some (.int .i64 6, r) := by unfold zDb; rw [hq0]; rfl
 have hQ : redW A n c bs at_ (d + 1) (left + 1) = (match decV 0 0 r with
    | none => none
    | some (k, r3) => if k ≤ 64 then (zBn d left k r3).map (fun q => ((⟨6, ⟨#[]⟩, ⟨#[]⟩, [], q.1⟩ : S25), Obj.cells #[.slice A n c, .int .i64 ((n : Int) - (q.2.2.length : Nat)), .int .i64 (q.2.1 : Nat)] 164 (0, 0))) else none) := by
  unfold getW at hq0
  unfold redW
  split
  ·next hi => rw [if_pos hi] at hq0; cases hq0
  ·next hi =>
   rw [if_neg hi] at hq0
   rw [decM, hq0]
   simp only
   rw [if_neg (by decide), if_neg (by decide), if_neg (by decide), if_pos (by decide)]
   all_goals
    cases decV 0 0 r with
    | none => rfl
    | some q =>
     simp only
     split
     ·cases zBn d left q.1 q.2 <;> rfl
     ·rfl
 obtain ⟨Q, eQ⟩ : ∃ Q, redW A n c bs at_ (d + 1) (left + 1) = Q := ⟨_, rfl⟩
 rw [eQ]
 have HQ := zH (eQ.symm.trans hQ)
 have HN := zH hn
 have HC0 := zH hC0
 have HR := zH hr
 clear hQ hq0 eQ
 have hgl := hS.lt
 have hS2 : RD (w.alloc (.cells Z5 25)) g A n c at_ ((left + 1 : Nat) : Int) := (Below.heap_alloc _ _ _ hgl).trans hS
 have hw1 : wrap64 (((left + 1 : Nat) : Int) - 1) = (left : Int) := by unfold wrap64; omega
 have hd1 : ¬ (left : Int) < 0 := by omega
 have hd2 : ¬ (8 : Int) < dz := by omega
 have hdd1 : decide ((left : Int) < 0) = false := zF hd1
 have hdd2 : decide ((8 : Int) < dz) = false := zF hd2
 have g2 := hS2.c2
 have z2 := hS2.z2
 obtain ⟨V, eV⟩ : ∃ V, V = (w.alloc (.cells Z5 25)).setCell ⟨g, 2, none⟩ (.int .i64 left) := ⟨_, rfl⟩
 have hBV : Below w0.heap.size w0 V := by rw [eV]; exact (zAc hB _).setCell hg _
 have hKV : KeepBut w V g none := by rw [eV]; exact (KeepBut.of_below (zAc (Below.refl w.heap.size w) _) g none).set_ _ _
 have hSV : RD V g A n c at_ (left : Int) := by rw [eV]; exact hS2.set2 _
 have h1 := zCp w0 V g A n c bs at_ left 7 7 rfl (by decide) hn hnl hg hBV hSV hC0
 rw [hq] at h1
 have H1 := zH h1
 have HK := zH hKV
 have hV4 : V.heap[w.heap.size]? = some (.cells Z5 25 (0, 0)) := by rw [eV]; exact (Below.heap_setCell _ _ _ _ (by simp; omega)).trans (zAs w _)
 have HV4 := zH hV4
 have HG := zH hgl
 have HW := zH hB.size
 have HDZ := zH hdz
 clear hV4
 clear hS hB hS2 hgl hBV hKV hSV h1 hC0 hn hdz hr
 go_enter Try.func140, Try.ntmps140
 go_wp2_with fail
 rw [← eV]
 refine H1.out.mono ?_
 intro e w1 hp1
 obtain ⟨rfl, hB1, hK1, hRD⟩ := hp1.some_ hj
 have k4 := (hK1.2 w.heap.size (zAp HV4.out) (by have := HG.out; omega) (by simp)).trans HV4.out
 obtain ⟨K, eK⟩ : ∃ K, w.heap.size = K := ⟨_, rfl⟩
 rw [eK] at k4 ⊢
 have EK := zH eK.symm
 have HKW := zH (HK.out.trans hK1 (Or.inl rfl))
 have hKl := zAp k4
 obtain ⟨W, eW⟩ : ∃ W, W = w1.alloc (.cells #[.int .i64 6, .string ⟨#[]⟩, .string ⟨#[]⟩, .slice none 0 0, .slice none 0 0] 25) := ⟨_, rfl⟩
 obtain ⟨G, eG⟩ : ∃ G, w1.heap.size = G := ⟨_, rfl⟩
 have b5 : W.heap[G]? = some (.cells #[.int .i64 6, .string ⟨#[]⟩, .string ⟨#[]⟩, .slice none 0 0, .slice none 0 0] 25 (0, 0)) := by rw [eW, ← eG]; exact zAs w1 _
 have b4 : W.heap[K]? = some (.cells Z5 25 (0, 0)) := by rw [eW]; exact (Below.heap_alloc _ _ _ hKl).trans k4
 have hBW : Below w0.heap.size w0 W := by rw [eW]; exact zAc hB1 _
 have hKW : KeepBut w W g none := by rw [eW]; exact HKW.out.trans (KeepBut.of_below (zAc (Below.refl w1.heap.size w1) _) g none) (Or.inl rfl)
 have hRW : RD W g A n c (j : Int) left := by rw [eW]; exact (Below.heap_alloc _ _ _ hRD.lt).trans hRD
 have HGW := zH (show g < K ∧ K < G ∧ W.heap.size = G + 1 from ⟨by have := HG.out; omega, by omega, by rw [eW, World.size_alloc, eG]⟩)
 clear eK hB1 hK1 hp1 hRD hKl k4 eV H1 HK HV4 HKW
 have h3 := zCp w0 W g A n c bs (j : Int) (left : Int) 64 64 rfl (by decide) HN.out hnl hg hBW hRW HC0.out
 have E5 := zH b5
 have E4 := zH b4
 have HKW := zH hKW
 have HRr := zH (show j ≤ n by omega)
 have HGK := zH (show w0.heap.size ≤ G by have := HW.out; have := EK.out; have := HGW.out; omega)
 clear b5 b4 hKW hBW hRW hj
 have hthrow : decV 0 0 r = none ∨ (∃ k r3, decV 0 0 r = some (k, r3) ∧ ¬ k ≤ 64) ∨ ∃ k r3, decV 0 0 r = some (k, r3) ∧ k ≤ 64 := by
  cases decV 0 0 r with
  | none => exact Or.inl rfl
  | some q =>
  by_cases h : q.1 ≤ 64
  ·exact Or.inr (Or.inr ⟨_, _, rfl, h⟩)
  exact Or.inr (Or.inl ⟨_, _, rfl, h⟩)
 obtain hno | ⟨k, r3, hq2, hk16⟩ : (Q = none ∧ zDb 64 bs (j : Int) = none) ∨ ∃ k r3, decV 0 0 r = some (k, r3) ∧ k ≤ 64 := by
  rcases hthrow with h | ⟨k, r3, h, h16⟩ | h
  ·exact Or.inl ⟨by rw [HQ.out]; simp only [h], zEl HR.out (Or.inl h)⟩
  ·exact Or.inl ⟨by rw [HQ.out]; simp only [h, if_neg h16], zEl HR.out (Or.inr ⟨k, r3, h, h16⟩)⟩
  exact Or.inr h
 ·rw [hno.2] at h3
  have H3 := zH h3
  have HQ2 := zH hno.1
  clear h3 hno hthrow
  go_wp2_with fail
  rw [← eW]
  refine H3.out.mono ?_
  intro e w9 hp9
  obtain ⟨rfl, hB9, hK9⟩ := hp9.none_
  exact ⟨rfl, hB9, HKW.out.trans hK9 (Or.inl rfl), Or.inl ⟨HQ2.out, rfl⟩⟩
 rw [zHm HR.out hq2 hk16] at h3
 obtain ⟨j3, hj3, hj3n, hj3I, hr3⟩ := zHw HN.out HRr.out (by rw [HR.out]; exact hq2)
 have HQ2 := zH (show Q = (zBn d left k r3).map (fun q => ((⟨6, ⟨#[]⟩, ⟨#[]⟩, [], q.1⟩ : S25), Obj.cells #[.slice A n c, .int .i64 ((n : Int) - (q.2.2.length : Nat)), .int .i64 (q.2.1 : Nat)] 164 (0, 0))) by rw [HQ.out, hq2]; simp only [if_pos hk16])
 have H3 := zH h3
 clear h3 hq2 hthrow
 go_wp2_with fail
 rw [← eW]
 refine H3.out.mono ?_
 intro e w4 hp4
 obtain ⟨rfl, hB4, hK4, hRD4⟩ := hp4.some_ hj3I
 obtain ⟨hg1, hg2, hg3⟩ := HGW.out
 have d5 := (hK4.2 G (by omega) (by omega) (by simp)).trans E5.out
 have d4 := (hK4.2 K (by omega) (by omega) (by simp)).trans E4.out
 have hs4 := hK4.1
 have hK4' := HKW.out.trans hK4 (Or.inl rfl)
 have HGS := zH (show g < K ∧ K < G ∧ G < w4.heap.size from ⟨hg1, hg2, by omega⟩)
 have HR3 := zH hr3
 have HJ3 := zH (show j3 ≤ n by omega)
 obtain ⟨base, hbase⟩ : ∃ base, w4.heap.size = base := ⟨_, rfl⟩
 have HBS := zH hbase
 have hw0b : w0.heap.size ≤ base := by have := HGK.out; omega
 clear hp4 hK4 H3 E4 E5 hj3 hj3I hg1 hg2 hg3 hs4 hr3 hj3n HQ hbase HR HRr HGW eG eW HKW
 go_wp2
 have hdw : wrap64 (dz + 1) = dz + 1 := by have := HDZ.out; unfold wrap64; omega
 go_loopw [65] (fun u65 wr => ∃ (i p l2 : Nat) (ks : List S25) (cells : List Value) (rr : List UInt8) (u4 : Value), u65 = .int .i64 (i : Nat) ∧ i ≤ k ∧ ks.length = i ∧ p ≤ n ∧ l2 ≤ left ∧ bs.drop p = rr ∧ (n : Int) - (rr.length : Nat) = (p : Int) ∧ zBn d left k r3 = (zBn d l2 (k - i) rr).map (fun q => (ks ++ q.1, q.2)) ∧ wr.heap[G]? = some (.cells #[.int .i64 6, .string ⟨#[]⟩, .string ⟨#[]⟩, .slice none 0 0, u4] 25 (0, 0)) ∧ wr.heap[K]? = some (.cells Z5 25 (0, 0)) ∧ wr.ownsRow base 25 5 u4 i cells ∧ Reps (KR wr (Part base wr u4)) 5 ks cells ∧ RD wr g A n c (p : Int) l2 ∧ Below w0.heap.size w0 wr ∧ KeepBut w wr g none ∧ base ≤ wr.heap.size)
  (fun u65 _ => k - (intOf u65).toNat)
 case atStart => exact ⟨0, j3, left, [], [], r3, _, rfl, Nat.zero_le _, rfl, HJ3.out, Nat.le_refl _, HR3.out, by have := congrArg List.length HR3.out; rw [List.length_drop, HN.out] at this; have := HJ3.out; omega, by simp, d5, d4, World.ownsRow_nil _ _ _ _, by simpa using Reps.none _ _, hRD4, hB4, hK4', Nat.le_of_eq HBS.out.symm⟩
 case round =>
  clear d5 d4 hRD4 hB4 hK4'
  obtain ⟨i, p, l2, ks, cells, rr, u4, rfl, hik, hvi, hpn, hl2, hpr, hpI, hdec, hXr, hPr, hO3, hRr, hRDr, hBr, hKr, hSr⟩ := hrel
  obtain ⟨Au, cu, rfl⟩ := zCh hO3
  have HD := zH hdec
  have HXr := zH hXr
  have HPr := zH hPr
  have HKr := zH hKr
  have HO3 := zH hO3
  have HRR := zH hRr
  have HIN := zH (And.intro hpn (And.intro hpr (And.intro hvi (And.intro hBr (And.intro hSr hl2)))))
  have hy3 : wr.drew.cell? ⟨G, 4, none⟩ = some (.slice Au i cu) := (zAb hXr 4).trans rfl
  by_cases hlt : i < k
  ·have hki : ¬ (k : Int) ≤ (i : Int) := by omega
   have h7 := IH.out wr.drew (p : Int) l2 (by omega) (zAr hBr) hg hRDr
   rw [redW_at hpr] at h7
   clear hdec hXr hPr hKr hO3 hpn hpr hvi hBr hSr hpI hRDr hl2 hRr
   cases hq3 : decM d l2 rr with
   | none =>
    rw [hq3] at h7
    have H7 := zH h7
    have HQ3 := zH (show Q = none by rw [HQ2.out, zHz HD.out hlt hq3]; rfl)
    clear h7 hq3
    go_wp2_with fail
    refine zCe (n := 10) (S := fun w' => w'.cell? ⟨G, 4, none⟩ = some (.slice Au i cu)) (ds := [9]) (msk 10 [0, 2, 3, 4, 1, 5] 0).toArray (by kernel_rfl) rfl rfl hy3 (fun hHeld => ?_)
    refine zBh (T := zIq) zFa (fun HT_ => ?_)
    iterate 3 (refine zBi HT_.out (N := some _) (v := ?_) (a' := ?_) rfl rfl (by kernel_rfl) (fun _ _ _ h => h) (Or.inl ⟨by rfl, ?_⟩) ?_ ?_; rotate_left; intro w'; go_simp; (with_reducible rfl); rotate_left; simp only [Act.put, zI, zZ, zS, zAx, zAy]; rfl)
    iterate 2 (first | (refine zBi HT_.out (N := some _) (v := ?_) (a' := ?_) rfl rfl (by kernel_rfl) (fun _ _ _ h => h) (Or.inl ⟨by rfl, ?_⟩) ?_ ?_; rotate_left; intro w'; go_simp; (with_reducible rfl); rotate_left; simp only [Act.put, zI, zZ, zS, zAx, zAy, hdw]; rfl) | (refine zCd HT_.out (N := some _) (v := ?_) (a' := ?_) rfl rfl (by kernel_rfl) (fun _ _ _ h => h) (Or.inl ⟨by rfl, ?_⟩) hHeld ?_ ?_; rotate_left; intro w' hh; (try simp only at hh); go_simp; (with_reducible rfl); rotate_left; simp only [Act.put, zI, zZ, zS, zAx, zAy]; rfl))
    refine oneO (i := 5) (N := some 72) HT_.out rfl rfl (by kernel_rfl) (by decide) (fun K_ hK_ => ?_)
    refine zIe Try.func140 (by kernel_rfl) rfl #[.pointer (some ⟨g, 0, none⟩), .int .i64 (dz + 1)] (by rfl) rfl rfl (by (try simp only [List.map_toArray, List.map_cons, List.map_nil]); first | done | rfl) ?_
    refine H7.out.mono ?_
    intro e w9 hp9
    obtain ⟨rfl, hB9, hK9⟩ := hp9.none_
    refine Or.inr ⟨_, rfl, ?_⟩
    exact ⟨rfl, hB9, (HKr.out.trans (KeepBut.of_below (zAr (Below.refl wr.heap.size wr)) g none) (Or.inl rfl)).trans hK9 (Or.inl rfl), Or.inl ⟨HQ3.out, rfl⟩⟩
   | some q3 =>
   obtain ⟨kid, l3, r4⟩ := q3
   obtain ⟨p2, hp2n, hp2I, hr4⟩ := zCz (d := d) (l := l2) (m := kid) (l' := l3) (by rw [HIN.out.2.1]; exact zEv _ _ _ _ _ _ hq3) HN.out HIN.out.1
   rw [hq3] at h7
   simp only [Option.map_some, hp2I] at h7
   have HM := zH (zHy HD.out hlt hq3)
   have HP2 := zH (And.intro hp2n (And.intro hr4 (And.intro hp2I (show l3 ≤ left by have := (zEi _ _ _ _ _ _ hq3).2; have := HIN.out.2.2.2.2.2; omega))))
   have H7 := zH h7
   clear h7 hq3 hp2n hr4 hp2I
   go_wp2_with fail
   refine zCe (n := 10) (S := fun w' => w'.cell? ⟨G, 4, none⟩ = some (.slice Au i cu)) (ds := [9]) (msk 10 [0, 2, 3, 4, 1, 5, 6, 7, 8, 9] 0).toArray (by kernel_rfl) rfl rfl hy3 (fun hHeld => ?_)
   refine zBh (T := zIq) zFa (fun HT_ => ?_)
   iterate 3 (refine zBi HT_.out (N := some _) (v := ?_) (a' := ?_) rfl rfl (by kernel_rfl) (fun _ _ _ h => h) (Or.inl ⟨by rfl, ?_⟩) ?_ ?_; rotate_left; intro w'; go_simp; (with_reducible rfl); rotate_left; simp only [Act.put, zI, zZ, zS, zAx, zAy]; rfl)
   iterate 2 (first | (refine zBi HT_.out (N := some _) (v := ?_) (a' := ?_) rfl rfl (by kernel_rfl) (fun _ _ _ h => h) (Or.inl ⟨by rfl, ?_⟩) ?_ ?_; rotate_left; intro w'; go_simp; (with_reducible rfl); rotate_left; simp only [Act.put, zI, zZ, zS, zAx, zAy, hdw]; rfl) | (refine zCd HT_.out (N := some _) (v := ?_) (a' := ?_) rfl rfl (by kernel_rfl) (fun _ _ _ h => h) (Or.inl ⟨by rfl, ?_⟩) hHeld ?_ ?_; rotate_left; intro w' hh; (try simp only at hh); go_simp; (with_reducible rfl); rotate_left; simp only [Act.put, zI, zZ, zS, zAx, zAy]; rfl))
   refine oneO (i := 5) (N := some 72) HT_.out rfl rfl (by kernel_rfl) (by decide) (fun K_ hK_ => ?_)
   refine zIe Try.func140 (by kernel_rfl) rfl #[.pointer (some ⟨g, 0, none⟩), .int .i64 (dz + 1)] (by rfl) rfl rfl (by (try simp only [List.map_toArray, List.map_cons, List.map_nil]); first | done | rfl) ?_
   refine H7.out.mono ?_
   intro e w5 hp5
   obtain ⟨D3, f3, D4, f4, rfl, hB5, hK5, hMF5, hRD5⟩ := hp5.some_
   obtain ⟨hg1, hg2, hg3⟩ := HGS.out
   obtain ⟨hpn, hpr, hvi, hBr, hSr, hl2⟩ := HIN.out
   have hbs := HBS.out
   have f5 := (hK5.2 G (by show G < wr.heap.size; omega) (by omega) (by simp)).trans HXr.out
   have f6 := (hK5.2 K (by show K < wr.heap.size; omega) (by omega) (by simp)).trans HPr.out
   have hs5 : wr.heap.size ≤ w5.heap.size := hK5.1
   have hO5 : w5.ownsRow base 25 5 (.slice Au i cu) i cells := zBt HO3.out (fun k hk => hK5.2 k (HO3.out.lt _ hk).2 (by have := (HO3.out.lt _ hk).1; omega) (by simp))
   have hR5 : Reps (KR w5 (Part base w5 (.slice Au i cu))) 5 ks cells := HRR.out.imp_ (fun p c hk => hk.move (fun b hb => ⟨⟨hb.1, by have := hb.2.1; omega, hb.2.2⟩, hK5.2 b hb.2.1 (by have := hb.1; omega) (by simp)⟩))
   have HK5 := zH ((HKr.out.trans (KeepBut.of_below (zAr (Below.refl wr.heap.size wr)) g none) (Or.inl rfl)).trans hK5 (Or.inl rfl))
   have HRD5 := zH hRD5
   have HMF5 := zH hMF5
   have HB5 := zH hB5
   have HR5 := zH hR5
   have F5 := zH f5
   have F6 := zH f6
   have HO5 := zH hO5
   have HS5 := zH hs5
   have HLT := zH (fun k (hk : (Value.slice Au i cu).ownBlock = some k) => HO3.out.lt _ hk)
   have h5 : w5.cell? ⟨G, 4, none⟩ = some (.slice Au i cu) := (zAb f5 4).trans rfl
   refine Or.inl ⟨_, rfl, ?_⟩
   refine hK_.out _ _ h5 (fun hHeld => ?_)
   clear hK_ K_ h5 hp5 hK5 f5 f6 hO5 hRD5 hB5 hMF5 hR5
   try simp only [Act.put, zI, zZ, zS]
   refine oneO (i := 6) (N := some 73) HT_.out rfl rfl (by kernel_rfl) (by decide) (fun K_ hK_ => ?_)
   go_simp
   refine hK_.out _ _ ((zAb ((Below.heap_alloc _ _ _ (zAp F5.out)).trans F5.out) 4).trans rfl) (fun hHeld => ?_)
   clear hK_ K_
   try simp only [Act.put, zI, zZ, zS]
   refine oneO (i := 7) (N := some 74) HT_.out rfl rfl (by kernel_rfl) (by decide) (fun K_ hK_ => ?_)
   refine zCt (w0 := w5) (W := w5) base (by rfl) (.tmp 68) (.tmp 73) 23 25 (.agg Z5) 5 88 rfl Try.underlying23 infoM rfl (by decide) (by decide) (.slice Au i cu) i cells [.int .i64 kid.f0, .string kid.f1, .string kid.f2, .slice D3 kid.f3.length f3, .slice D4 kid.f4.length f4] rfl rfl rfl (by intro u hu; simp only [List.mem_cons, List.not_mem_nil, or_false] at hu; rcases hu with rfl | rfl | rfl | rfl | rfl <;> rfl) HO5.out (Below.refl _ _) (by omega) (by omega) ?_
   intro v2 w6 hown6 hb6 hg6 hat6
   obtain ⟨A2, c2, rfl⟩ := zCh hown6
   have hl3 := HLT.out
   have hneG : some G ≠ (Value.slice Au i cu).ownBlock := fun e => by have := (hl3 _ e.symm).1; omega
   have hneK : some K ≠ (Value.slice Au i cu).ownBlock := fun e => by have := (hl3 _ e.symm).1; omega
   have hneg : some g ≠ (Value.slice Au i cu).ownBlock := fun e => by have := (hl3 _ e.symm).1; omega
   have q5 := (hg6.block G (zAp F5.out) hneG).trans F5.out
   have q4 := (hg6.block K (zAp F6.out) hneK).trans F6.out
   have qg : RD w6 g A n c (p2 : Int) l3 := (hg6.block g (zAp HRD5.out) hneg).trans HRD5.out
   have hB6 : Below w0.heap.size w0 w6 := HB5.out.grown hg6 (by omega) (fun k hk => by have := (hl3 k hk).1; omega)
   have hK6 : KeepBut w w6 g none := ⟨by have := HK5.out.1; have := hg6.size; omega, fun i hi h1 h2 => (hg6.block i (by have := HK5.out.1; omega) (fun e => by have := (hl3 _ e.symm).1; have := EK.out; omega)).trans (HK5.out.2 i hi h1 h2)⟩
   have hfar : ∀ b, b < w5.heap.size → (Value.slice Au i cu).ownBlock ≠ some b → (Value.slice A2 (i + 1) c2).ownBlock ≠ some b := fun b hb hne e => by
    rcases hat6 with h | ⟨b', h, hb'⟩
    ·exact hne (h.symm.trans e)
    ·rw [h] at e; cases e; omega
   have hR6 : Reps (KR w6 (Part base w6 (.slice A2 (i + 1) c2))) 5 (ks ++ [kid]) (cells ++ [.int .i64 kid.f0, .string kid.f1, .string kid.f2, .slice D3 kid.f3.length f3, .slice D4 kid.f4.length f4]) := by
    have hs6 := hg6.size
    refine Reps.snoc (HR5.out.imp_ (fun p c hk => hk.move (fun b hb => ?_))) ⟨D3, f3, D4, f4, rfl, HMF5.out.move (fun b hb => ?_)⟩ rfl
    ·obtain ⟨b1, b2, b3⟩ := hb
     exact ⟨⟨b1, by omega, hfar b b2 b3⟩, hg6.block b b2 (fun e => b3 e.symm)⟩
    obtain ⟨b1, b2⟩ := hb
    have b1' : wr.heap.size ≤ b := b1
    have b3 : (Value.slice Au i cu).ownBlock ≠ some b := fun e => by have := (hl3 b e).2; omega
    exact ⟨⟨by omega, by omega, hfar b b2 b3⟩, hg6.block b b2 (fun e => b3 e.symm)⟩
   have HR6 := zH hR6
   have Q5 := zH q5
   have Q4 := zH q4
   have QG := zH qg
   have HB6 := zH hB6
   have HK6 := zH hK6
   have HO6 := zH hown6
   have HS6 := zH (show base ≤ w6.heap.size by have := hg6.size; omega)
   have HL6 := zH (fun k (hk : (Value.slice A2 (i + 1) c2).ownBlock = some k) => hown6.lt _ hk)
   have h6 : w6.cell? ⟨G, 4, none⟩ = some (.slice Au i cu) := (zAb q5 4).trans rfl
   have zz := zAa q5 4
   refine hK_.out _ _ h6 (fun hHeld => ?_)
   clear hK_ K_ hg6 hb6 hat6 hown6 hB6 hK6 qg q4 hneg hneK hneG hl3 q5 hR6 hfar
   try simp only [Act.put, zI, zZ, zS]
   (refine zBi HT_.out (N := some _) (v := ?_) (a' := ?_) rfl rfl (by kernel_rfl) (fun _ _ _ h => h) (Or.inl ⟨by rfl, ?_⟩) ?_ ?_; rotate_left; intro w'; go_simp; (with_reducible rfl); rotate_left; simp only [Act.put, zI, zZ, zS, zAx, zAy]; rfl)
   refine lastO (i := 9) (N := none) HT_.out rfl rfl (by kernel_rfl) (by decide) (fun K_ hK_ => ?_)
   have hcell : w6.cell? ⟨G, 4, none⟩ = some (.slice Au i cu) := h6
   go_simp
   refine hK_.out _ _ ?_
   clear hK_ K_
   try simp only [Act.put, zI, zZ, zS]
   refine zEg (zBz HT_.out (by kernel_rfl)) ?_
   go_wp2
   go_roundw
   case rel =>
    obtain ⟨hpn2, hr42, hpI2, hl3⟩ := HP2.out
    refine ⟨i + 1, p2, l3, ks ++ [kid], _, r4, _, by go_num, by omega, by rw [List.length_append, hvi]; rfl, hpn2, hl3, hr42, hpI2, HM.out, (zAn Q5.out 4 _).trans (by rfl), (Below.heap_setCell _ _ _ _ (show K ≠ G by omega)).trans Q4.out, zBt HO6.out (fun k hk => Below.heap_setCell _ _ _ _ (show k ≠ G by have := (HL6.out k hk).1; omega)), HR6.out.imp_ (fun p c hk => hk.move (fun b hb => ⟨⟨hb.1, by have := hb.2.1; simpa using this, hb.2.2⟩, Below.heap_setCell _ _ _ _ (show b ≠ G by have := hb.1; omega)⟩)), (Below.heap_setCell _ _ _ _ (show g ≠ G by omega)).trans QG.out, HB6.out.setCell HGK.out _, ⟨by have := HK6.out.1; simpa using this, fun i hi h1 h2 => (Below.heap_setCell _ _ _ _ (show i ≠ G by have := EK.out; omega)).trans (HK6.out.2 i hi h1 h2)⟩, by have := HS6.out; simpa using this⟩
   case measure => simp [intOf]; omega
  obtain rfl : i = k := by omega
  have HQ3 := zH (show Q = some (⟨6, ⟨#[]⟩, ⟨#[]⟩, [], ks⟩, .cells #[.slice A n c, .int .i64 (p : Int), .int .i64 l2] 164 (0, 0)) by rw [HQ2.out, zHx HD.out rfl]; simp only [Option.map_some, hpI])
  have HBr := zH hBr
  have HRDr := zH hRDr
  obtain ⟨hg1, hg2, hg3⟩ := HGS.out
  have y0 := zAb hXr 0
  have z0 := zAa hXr 0
  have y1 := zAb hXr 1
  have z1 := zAa hXr 1
  have y2 := zAb hXr 2
  have z2 := zAa hXr 2
  have y3 := zAb hXr 3
  have z3 := zAa hXr 3
  have y4 := zAb hXr 4
  have z4 := zAa hXr 4
  simp only [zC, zA, zB] at y0 y1 y2 y3 y4
  have yK0 := zAb hPr 0
  have zK0 := zAa hPr 0
  have yK1 := zAb hPr 1
  have zK1 := zAa hPr 1
  have yK2 := zAb hPr 2
  have zK2 := zAa hPr 2
  have yK3 := zAb hPr 3
  have zK3 := zAa hPr 3
  have yK4 := zAb hPr 4
  have zK4 := zAa hPr 4
  simp only [zC, zA, zB] at yK0 yK1 yK2 yK3 yK4
  have HSr := zH hSr
  have HVI := zH hvi
  have hne : G ≠ K := by omega
  have hne2 : K ≠ G := by omega
  clear hdec hXr hPr hKr hO3 hpn hpr hvi hBr hSr hpI hRDr HD hy3 HIN hg1 hg2 hg3 hRr hl2
  go_wp2
  obtain ⟨hg1, hg2, hg3⟩ := HGS.out
  have hvi := HVI.out
  have hO := HO3.out
  have hRQ := HRR.out
  rw [← hvi] at hO hRQ
  obtain ⟨F3, gg3, F4, gg4, ev3, ev4, hMF⟩ := MF.of_rows (m := ⟨6, ⟨#[]⟩, ⟨#[]⟩, [], ks⟩) (lo' := base) (World.ownsRow_nil _ _ _ _) hO hRQ (Nat.le_refl _)
  simp only at ev3 ev4
  cases ev3
  cases ev4
  have hT := zEr (W := wr) (w := w) (o := .cells #[.slice A n c, .int .i64 (p : Int), .int .i64 (l2 : Int)] 164 (0, 0)) EK.out HPr.out hg HG.out HW.out HBr.out HKr.out HRDr.out (hMF.move (fun b hb => ⟨⟨by have := hb.1; have := HBS.out; omega, hb.2⟩, rfl⟩))
  rw [HQ3.out]
  simp only [mV, hvi, List.length_nil] at hT
  exact bodyPost_ret (zAt rfl (.cell K 25 _ (0, 0) _ rfl hT.1 Try.underlying25 rfl (by kernel_rfl) .nil)) rfl hT.2
theorem matcher140g7 (w0 w : World) (g : Nat) (A : Option Addr) (n c : Nat) (bs : List UInt8) (at_ : Int) (left d : Nat) (hl : left ≤ 1000) (hd8 : d ≤ 7) (hn : bs.length = n) (hnl : n ≤ 1000000000000000) (r : List UInt8) (j : Nat) (hnc : n ≤ c) (hj : (n : Int) - (r.length : Nat) = (j : Int)) (hr : bs.drop j = r) (hq0 : getW bs at_ = some (7, r)) (hg : w0.heap.size ≤ g) (hB : Below w0.heap.size w0 w) (hS : RD w g A n c at_ ((left + 1 : Nat) : Int)) (hC0 : (Kd.int .u8).C w0 A bs.length (bys bs)) (dz : Int) (hdz : dz = 8 - d) (ih : IHred w0 g A n c bs d (dz + 1)) :
  Calls Try.prog 140 #[.pointer (some ⟨g, 0, none⟩), .int .i64 dz] w (RedPost w0 w g (redW A n c bs at_ (d + 1) (left + 1))) := by
 have IH := zH ih
 clear ih
 have hq : zDb 7 bs at_ = some (.int .i64 7, r) := by unfold zDb; rw [hq0]; rfl
 have hQ : redW A n c bs at_ (d + 1) (left + 1) = (zBn d left 1 r).map (fun q => ((⟨7, ⟨#[]⟩, ⟨#[]⟩, [], q.1⟩ : S25), Obj.cells #[.slice A n c, .int .i64 ((n : Int) - (q.2.2.length : Nat)), .int .i64 (q.2.1 : Nat)] 164 (0, 0))) := by
  unfold getW at hq0
  unfold redW
  split
  ·next hi => rw [if_pos hi] at hq0; cases hq0
  next hi =>
  rw [if_neg hi] at hq0
  rw [decM, hq0]
  simp only
  rw [if_neg (by decide), if_neg (by decide), if_neg (by decide), if_neg (by decide), if_pos (by decide)]
  all_goals (cases zBn d left 1 r <;> rfl)
 obtain ⟨Q, eQ⟩ : ∃ Q, redW A n c bs at_ (d + 1) (left + 1) = Q := ⟨_, rfl⟩
 rw [eQ]
 have HQ := zH (eQ.symm.trans hQ)
 have HN := zH hn
 have HC0 := zH hC0
 have HR := zH hr
 clear hQ hq0 eQ
 have hgl := hS.lt
 have hS2 : RD (w.alloc (.cells Z5 25)) g A n c at_ ((left + 1 : Nat) : Int) := (Below.heap_alloc _ _ _ hgl).trans hS
 have hw1 : wrap64 (((left + 1 : Nat) : Int) - 1) = (left : Int) := by unfold wrap64; omega
 have hd1 : ¬ (left : Int) < 0 := by omega
 have hd2 : ¬ (8 : Int) < dz := by omega
 have hdd1 : decide ((left : Int) < 0) = false := zF hd1
 have hdd2 : decide ((8 : Int) < dz) = false := zF hd2
 have g2 := hS2.c2
 have z2 := hS2.z2
 obtain ⟨V, eV⟩ : ∃ V, V = (w.alloc (.cells Z5 25)).setCell ⟨g, 2, none⟩ (.int .i64 left) := ⟨_, rfl⟩
 have hBV : Below w0.heap.size w0 V := by rw [eV]; exact (zAc hB _).setCell hg _
 have hKV : KeepBut w V g none := by rw [eV]; exact (KeepBut.of_below (zAc (Below.refl w.heap.size w) _) g none).set_ _ _
 have hSV : RD V g A n c at_ (left : Int) := by rw [eV]; exact hS2.set2 _
 have h1 := zCp w0 V g A n c bs at_ left 7 7 rfl (by decide) hn hnl hg hBV hSV hC0
 rw [hq] at h1
 have H1 := zH h1
 have HK := zH hKV
 have hV4 : V.heap[w.heap.size]? = some (.cells Z5 25 (0, 0)) := by rw [eV]; exact (Below.heap_setCell _ _ _ _ (by simp; omega)).trans (zAs w _)
 have HV4 := zH hV4
 have HG := zH hgl
 have HW := zH hB.size
 have HDZ := zH hdz
 clear hV4
 clear hS hB hS2 hgl hBV hKV hSV h1 hC0 hn hdz hr
 go_enter Try.func140, Try.ntmps140
 go_wp2_with fail
 rw [← eV]
 refine H1.out.mono ?_
 intro e w1 hp1
 obtain ⟨rfl, hB1, hK1, hRD⟩ := hp1.some_ hj
 have k4 := (hK1.2 w.heap.size (zAp HV4.out) (by have := HG.out; omega) (by simp)).trans HV4.out
 obtain ⟨K, eK⟩ : ∃ K, w.heap.size = K := ⟨_, rfl⟩
 rw [eK] at k4 ⊢
 have EK := zH eK.symm
 have HKW := zH (HK.out.trans hK1 (Or.inl rfl))
 have hKl := zAp k4
 obtain ⟨W, eW⟩ : ∃ W, W = w1.alloc (.cells #[.int .i64 7, .string ⟨#[]⟩, .string ⟨#[]⟩, .slice none 0 0, .slice none 0 0] 25) := ⟨_, rfl⟩
 obtain ⟨G, eG⟩ : ∃ G, w1.heap.size = G := ⟨_, rfl⟩
 have b5 : W.heap[G]? = some (.cells #[.int .i64 7, .string ⟨#[]⟩, .string ⟨#[]⟩, .slice none 0 0, .slice none 0 0] 25 (0, 0)) := by rw [eW, ← eG]; exact zAs w1 _
 have b4 : W.heap[K]? = some (.cells Z5 25 (0, 0)) := by rw [eW]; exact (Below.heap_alloc _ _ _ hKl).trans k4
 have hBW : Below w0.heap.size w0 W := by rw [eW]; exact zAc hB1 _
 have hKW : KeepBut w W g none := by rw [eW]; exact HKW.out.trans (KeepBut.of_below (zAc (Below.refl w1.heap.size w1) _) g none) (Or.inl rfl)
 have hRW : RD W g A n c (j : Int) left := by rw [eW]; exact (Below.heap_alloc _ _ _ hRD.lt).trans hRD
 have HGW := zH (show g < K ∧ K < G ∧ W.heap.size = G + 1 from ⟨by have := HG.out; omega, by omega, by rw [eW, World.size_alloc, eG]⟩)
 clear eK hB1 hK1 hp1 hRD hKl k4 eV H1 HK HV4 HKW
 obtain ⟨k, hk1⟩ : ∃ k : Nat, (1 : Nat) = k := ⟨_, rfl⟩
 obtain ⟨hg1, hg2, hg3⟩ := HGW.out
 have hk16 : k ≤ 64 := by omega
 have hkI : (k : Int) = 1 := by omega
 have HKI := zH hkI
 have HQ2 := zH (show Q = (zBn d left k r).map (fun q => ((⟨7, ⟨#[]⟩, ⟨#[]⟩, [], q.1⟩ : S25), Obj.cells #[.slice A n c, .int .i64 ((n : Int) - (q.2.2.length : Nat)), .int .i64 (q.2.1 : Nat)] 164 (0, 0))) by rw [HQ.out, hk1])
 have HGS := zH (show g < K ∧ K < G ∧ G < W.heap.size from ⟨hg1, hg2, by omega⟩)
 have HR3 := zH HR.out
 have HJ3 := zH (show j ≤ n by omega)
 have HGK := zH (show w0.heap.size ≤ G by have := HW.out; have := EK.out; omega)
 obtain ⟨base, hbase⟩ : ∃ base, W.heap.size = base := ⟨_, rfl⟩
 have HBS := zH hbase
 have hw0b : w0.heap.size ≤ base := by have := HGK.out; omega
 have d5 := b5
 have d4 := b4
 clear hg1 hg2 hg3 HQ hbase HR HGW hj b5 b4 hkI hk1
 go_wp2
 rw [← eW]
 clear eW eG
 have hdw : wrap64 (dz + 1) = dz + 1 := by have := HDZ.out; unfold wrap64; omega
 go_loopw [65] (fun u65 wr => ∃ (i p l2 : Nat) (ks : List S25) (cells : List Value) (rr : List UInt8) (u4 : Value), u65 = .int .i64 (i : Nat) ∧ i ≤ k ∧ ks.length = i ∧ p ≤ n ∧ l2 ≤ left ∧ bs.drop p = rr ∧ (n : Int) - (rr.length : Nat) = (p : Int) ∧ zBn d left k r = (zBn d l2 (k - i) rr).map (fun q => (ks ++ q.1, q.2)) ∧ wr.heap[G]? = some (.cells #[.int .i64 7, .string ⟨#[]⟩, .string ⟨#[]⟩, .slice none 0 0, u4] 25 (0, 0)) ∧ wr.heap[K]? = some (.cells Z5 25 (0, 0)) ∧ wr.ownsRow base 25 5 u4 i cells ∧ Reps (KR wr (Part base wr u4)) 5 ks cells ∧ RD wr g A n c (p : Int) l2 ∧ Below w0.heap.size w0 wr ∧ KeepBut w wr g none ∧ base ≤ wr.heap.size)
  (fun u65 _ => k - (intOf u65).toNat)
 case atStart => exact ⟨0, j, left, [], [], r, _, rfl, Nat.zero_le _, rfl, HJ3.out, Nat.le_refl _, HR3.out, by have := congrArg List.length HR3.out; rw [List.length_drop, HN.out] at this; have := HJ3.out; omega, by simp, d5, d4, World.ownsRow_nil _ _ _ _, by simpa using Reps.none _ _, hRW, hBW, hKW, Nat.le_of_eq HBS.out.symm⟩
 case round =>
  clear d5 d4 hRW hBW hKW
  obtain ⟨i, p, l2, ks, cells, rr, u4, rfl, hik, hvi, hpn, hl2, hpr, hpI, hdec, hXr, hPr, hO3, hRr, hRDr, hBr, hKr, hSr⟩ := hrel
  obtain ⟨Au, cu, rfl⟩ := zCh hO3
  have HD := zH hdec
  have HXr := zH hXr
  have HPr := zH hPr
  have HKr := zH hKr
  have HO3 := zH hO3
  have HRR := zH hRr
  have HIN := zH (And.intro hpn (And.intro hpr (And.intro hvi (And.intro hBr (And.intro hSr hl2)))))
  have hy3 : wr.drew.cell? ⟨G, 4, none⟩ = some (.slice Au i cu) := (zAb hXr 4).trans rfl
  by_cases hlt : i < k
  ·have hki : ¬ (k : Int) ≤ (i : Int) := by omega
   have hlt1 : (i : Int) < 1 := by have := HKI.out; omega
   have h7 := IH.out wr.drew (p : Int) l2 (by omega) (zAr hBr) hg hRDr
   rw [redW_at hpr] at h7
   clear hdec hXr hPr hKr hO3 hpn hpr hvi hBr hSr hpI hRDr hl2 hRr
   cases hq3 : decM d l2 rr with
   | none =>
    rw [hq3] at h7
    have H7 := zH h7
    have HQ3 := zH (show Q = none by rw [HQ2.out, zHz HD.out hlt hq3]; rfl)
    clear h7 hq3
    go_wp2_with fail
    refine zCe (n := 10) (S := fun w' => w'.cell? ⟨G, 4, none⟩ = some (.slice Au i cu)) (ds := [9]) (msk 10 [0, 2, 3, 4, 1, 5] 0).toArray (by kernel_rfl) rfl rfl hy3 (fun hHeld => ?_)
    refine zBh (T := zIq) zFa (fun HT_ => ?_)
    iterate 3 (refine zBi HT_.out (N := some _) (v := ?_) (a' := ?_) rfl rfl (by kernel_rfl) (fun _ _ _ h => h) (Or.inl ⟨by rfl, ?_⟩) ?_ ?_; rotate_left; intro w'; go_simp; (with_reducible rfl); rotate_left; simp only [Act.put, zI, zZ, zS, zAx, zAy]; rfl)
    iterate 2 (first | (refine zBi HT_.out (N := some _) (v := ?_) (a' := ?_) rfl rfl (by kernel_rfl) (fun _ _ _ h => h) (Or.inl ⟨by rfl, ?_⟩) ?_ ?_; rotate_left; intro w'; go_simp; (with_reducible rfl); rotate_left; simp only [Act.put, zI, zZ, zS, zAx, zAy, hdw]; rfl) | (refine zCd HT_.out (N := some _) (v := ?_) (a' := ?_) rfl rfl (by kernel_rfl) (fun _ _ _ h => h) (Or.inl ⟨by rfl, ?_⟩) hHeld ?_ ?_; rotate_left; intro w' hh; (try simp only at hh); go_simp; (with_reducible rfl); rotate_left; simp only [Act.put, zI, zZ, zS, zAx, zAy]; rfl))
    refine oneO (i := 5) (N := some 72) HT_.out rfl rfl (by kernel_rfl) (by decide) (fun K_ hK_ => ?_)
    refine zIe Try.func140 (by kernel_rfl) rfl #[.pointer (some ⟨g, 0, none⟩), .int .i64 (dz + 1)] (by rfl) rfl rfl (by (try simp only [List.map_toArray, List.map_cons, List.map_nil]); first | done | rfl) ?_
    refine H7.out.mono ?_
    intro e w9 hp9
    obtain ⟨rfl, hB9, hK9⟩ := hp9.none_
    refine Or.inr ⟨_, rfl, ?_⟩
    exact ⟨rfl, hB9, (HKr.out.trans (KeepBut.of_below (zAr (Below.refl wr.heap.size wr)) g none) (Or.inl rfl)).trans hK9 (Or.inl rfl), Or.inl ⟨HQ3.out, rfl⟩⟩
   | some q3 =>
   obtain ⟨kid, l3, r4⟩ := q3
   obtain ⟨p2, hp2n, hp2I, hr4⟩ := zCz (d := d) (l := l2) (m := kid) (l' := l3) (by rw [HIN.out.2.1]; exact zEv _ _ _ _ _ _ hq3) HN.out HIN.out.1
   rw [hq3] at h7
   simp only [Option.map_some, hp2I] at h7
   have HM := zH (zHy HD.out hlt hq3)
   have HP2 := zH (And.intro hp2n (And.intro hr4 (And.intro hp2I (show l3 ≤ left by have := (zEi _ _ _ _ _ _ hq3).2; have := HIN.out.2.2.2.2.2; omega))))
   have H7 := zH h7
   clear h7 hq3 hp2n hr4 hp2I
   go_wp2_with fail
   refine zCe (n := 10) (S := fun w' => w'.cell? ⟨G, 4, none⟩ = some (.slice Au i cu)) (ds := [9]) (msk 10 [0, 2, 3, 4, 1, 5, 6, 7, 8, 9] 0).toArray (by kernel_rfl) rfl rfl hy3 (fun hHeld => ?_)
   refine zBh (T := zIq) zFa (fun HT_ => ?_)
   iterate 3 (refine zBi HT_.out (N := some _) (v := ?_) (a' := ?_) rfl rfl (by kernel_rfl) (fun _ _ _ h => h) (Or.inl ⟨by rfl, ?_⟩) ?_ ?_; rotate_left; intro w'; go_simp; (with_reducible rfl); rotate_left; simp only [Act.put, zI, zZ, zS, zAx, zAy]; rfl)
   iterate 2 (first | (refine zBi HT_.out (N := some _) (v := ?_) (a' := ?_) rfl rfl (by kernel_rfl) (fun _ _ _ h => h) (Or.inl ⟨by rfl, ?_⟩) ?_ ?_; rotate_left; intro w'; go_simp; (with_reducible rfl); rotate_left; simp only [Act.put, zI, zZ, zS, zAx, zAy, hdw]; rfl) | (refine zCd HT_.out (N := some _) (v := ?_) (a' := ?_) rfl rfl (by kernel_rfl) (fun _ _ _ h => h) (Or.inl ⟨by rfl, ?_⟩) hHeld ?_ ?_; rotate_left; intro w' hh; (try simp only at hh); go_simp; (with_reducible rfl); rotate_left; simp only [Act.put, zI, zZ, zS, zAx, zAy]; rfl))
   refine oneO (i := 5) (N := some 72) HT_.out rfl rfl (by kernel_rfl) (by decide) (fun K_ hK_ => ?_)
   refine zIe Try.func140 (by kernel_rfl) rfl #[.pointer (some ⟨g, 0, none⟩), .int .i64 (dz + 1)] (by rfl) rfl rfl (by (try simp only [List.map_toArray, List.map_cons, List.map_nil]); first | done | rfl) ?_
   refine H7.out.mono ?_
   intro e w5 hp5
   obtain ⟨D3, f3, D4, f4, rfl, hB5, hK5, hMF5, hRD5⟩ := hp5.some_
   obtain ⟨hg1, hg2, hg3⟩ := HGS.out
   obtain ⟨hpn, hpr, hvi, hBr, hSr, hl2⟩ := HIN.out
   have hbs := HBS.out
   have f5 := (hK5.2 G (by show G < wr.heap.size; omega) (by omega) (by simp)).trans HXr.out
   have f6 := (hK5.2 K (by show K < wr.heap.size; omega) (by omega) (by simp)).trans HPr.out
   have hs5 : wr.heap.size ≤ w5.heap.size := hK5.1
   have hO5 : w5.ownsRow base 25 5 (.slice Au i cu) i cells := zBt HO3.out (fun k hk => hK5.2 k (HO3.out.lt _ hk).2 (by have := (HO3.out.lt _ hk).1; omega) (by simp))
   have hR5 : Reps (KR w5 (Part base w5 (.slice Au i cu))) 5 ks cells := HRR.out.imp_ (fun p c hk => hk.move (fun b hb => ⟨⟨hb.1, by have := hb.2.1; omega, hb.2.2⟩, hK5.2 b hb.2.1 (by have := hb.1; omega) (by simp)⟩))
   have HK5 := zH ((HKr.out.trans (KeepBut.of_below (zAr (Below.refl wr.heap.size wr)) g none) (Or.inl rfl)).trans hK5 (Or.inl rfl))
   have HRD5 := zH hRD5
   have HMF5 := zH hMF5
   have HB5 := zH hB5
   have HR5 := zH hR5
   have F5 := zH f5
   have F6 := zH f6
   have HO5 := zH hO5
   have HS5 := zH hs5
   have HLT := zH (fun k (hk : (Value.slice Au i cu).ownBlock = some k) => HO3.out.lt _ hk)
   have h5 : w5.cell? ⟨G, 4, none⟩ = some (.slice Au i cu) := (zAb f5 4).trans rfl
   refine Or.inl ⟨_, rfl, ?_⟩
   refine hK_.out _ _ h5 (fun hHeld => ?_)
   clear hK_ K_ h5 hp5 hK5 f5 f6 hO5 hRD5 hB5 hMF5 hR5
   try simp only [Act.put, zI, zZ, zS]
   refine oneO (i := 6) (N := some 73) HT_.out rfl rfl (by kernel_rfl) (by decide) (fun K_ hK_ => ?_)
   go_simp
   refine hK_.out _ _ ((zAb ((Below.heap_alloc _ _ _ (zAp F5.out)).trans F5.out) 4).trans rfl) (fun hHeld => ?_)
   clear hK_ K_
   try simp only [Act.put, zI, zZ, zS]
   refine oneO (i := 7) (N := some 74) HT_.out rfl rfl (by kernel_rfl) (by decide) (fun K_ hK_ => ?_)
   refine zCt (w0 := w5) (W := w5) base (by rfl) (.tmp 68) (.tmp 73) 23 25 (.agg Z5) 5 88 rfl Try.underlying23 infoM rfl (by decide) (by decide) (.slice Au i cu) i cells [.int .i64 kid.f0, .string kid.f1, .string kid.f2, .slice D3 kid.f3.length f3, .slice D4 kid.f4.length f4] rfl rfl rfl (by intro u hu; simp only [List.mem_cons, List.not_mem_nil, or_false] at hu; rcases hu with rfl | rfl | rfl | rfl | rfl <;> rfl) HO5.out (Below.refl _ _) (by omega) (by omega) ?_
   intro v2 w6 hown6 hb6 hg6 hat6
   obtain ⟨A2, c2, rfl⟩ := zCh hown6
   have hl3 := HLT.out
   have hneG : some G ≠ (Value.slice Au i cu).ownBlock := fun e => by have := (hl3 _ e.symm).1; omega
   have hneK : some K ≠ (Value.slice Au i cu).ownBlock := fun e => by have := (hl3 _ e.symm).1; omega
   have hneg : some g ≠ (Value.slice Au i cu).ownBlock := fun e => by have := (hl3 _ e.symm).1; omega
   have q5 := (hg6.block G (zAp F5.out) hneG).trans F5.out
   have q4 := (hg6.block K (zAp F6.out) hneK).trans F6.out
   have qg : RD w6 g A n c (p2 : Int) l3 := (hg6.block g (zAp HRD5.out) hneg).trans HRD5.out
   have hB6 : Below w0.heap.size w0 w6 := HB5.out.grown hg6 (by omega) (fun k hk => by have := (hl3 k hk).1; omega)
   have hK6 : KeepBut w w6 g none := ⟨by have := HK5.out.1; have := hg6.size; omega, fun i hi h1 h2 => (hg6.block i (by have := HK5.out.1; omega) (fun e => by have := (hl3 _ e.symm).1; have := EK.out; omega)).trans (HK5.out.2 i hi h1 h2)⟩
   have hfar : ∀ b, b < w5.heap.size → (Value.slice Au i cu).ownBlock ≠ some b → (Value.slice A2 (i + 1) c2).ownBlock ≠ some b := fun b hb hne e => by
    rcases hat6 with h | ⟨b', h, hb'⟩
    ·exact hne (h.symm.trans e)
    ·rw [h] at e; cases e; omega
   have hR6 : Reps (KR w6 (Part base w6 (.slice A2 (i + 1) c2))) 5 (ks ++ [kid]) (cells ++ [.int .i64 kid.f0, .string kid.f1, .string kid.f2, .slice D3 kid.f3.length f3, .slice D4 kid.f4.length f4]) := by
    have hs6 := hg6.size
    refine Reps.snoc (HR5.out.imp_ (fun p c hk => hk.move (fun b hb => ?_))) ⟨D3, f3, D4, f4, rfl, HMF5.out.move (fun b hb => ?_)⟩ rfl
    ·obtain ⟨b1, b2, b3⟩ := hb
     exact ⟨⟨b1, by omega, hfar b b2 b3⟩, hg6.block b b2 (fun e => b3 e.symm)⟩
    obtain ⟨b1, b2⟩ := hb
    have b1' : wr.heap.size ≤ b := b1
    have b3 : (Value.slice Au i cu).ownBlock ≠ some b := fun e => by have := (hl3 b e).2; omega
    exact ⟨⟨by omega, by omega, hfar b b2 b3⟩, hg6.block b b2 (fun e => b3 e.symm)⟩
   have HR6 := zH hR6
   have Q5 := zH q5
   have Q4 := zH q4
   have QG := zH qg
   have HB6 := zH hB6
   have HK6 := zH hK6
   have HO6 := zH hown6
   have HS6 := zH (show base ≤ w6.heap.size by have := hg6.size; omega)
   have HL6 := zH (fun k (hk : (Value.slice A2 (i + 1) c2).ownBlock = some k) => hown6.lt _ hk)
   have h6 : w6.cell? ⟨G, 4, none⟩ = some (.slice Au i cu) := (zAb q5 4).trans rfl
   have zz := zAa q5 4
   refine hK_.out _ _ h6 (fun hHeld => ?_)
   clear hK_ K_ hg6 hb6 hat6 hown6 hB6 hK6 qg q4 hneg hneK hneG hl3 q5 hR6 hfar
   try simp only [Act.put, zI, zZ, zS]
   (refine zBi HT_.out (N := some _) (v := ?_) (a' := ?_) rfl rfl (by kernel_rfl) (fun _ _ _ h => h) (Or.inl ⟨by rfl, ?_⟩) ?_ ?_; rotate_left; intro w'; go_simp; (with_reducible rfl); rotate_left; simp only [Act.put, zI, zZ, zS, zAx, zAy]; rfl)
   refine lastO (i := 9) (N := none) HT_.out rfl rfl (by kernel_rfl) (by decide) (fun K_ hK_ => ?_)
   have hcell : w6.cell? ⟨G, 4, none⟩ = some (.slice Au i cu) := h6
   go_simp
   refine hK_.out _ _ ?_
   clear hK_ K_
   try simp only [Act.put, zI, zZ, zS]
   refine zEg (zBz HT_.out (by kernel_rfl)) ?_
   go_wp2
   go_roundw
   case rel =>
    obtain ⟨hpn2, hr42, hpI2, hl3⟩ := HP2.out
    refine ⟨i + 1, p2, l3, ks ++ [kid], _, r4, _, by go_num, by omega, by rw [List.length_append, hvi]; rfl, hpn2, hl3, hr42, hpI2, HM.out, (zAn Q5.out 4 _).trans (by rfl), (Below.heap_setCell _ _ _ _ (show K ≠ G by omega)).trans Q4.out, zBt HO6.out (fun k hk => Below.heap_setCell _ _ _ _ (show k ≠ G by have := (HL6.out k hk).1; omega)), HR6.out.imp_ (fun p c hk => hk.move (fun b hb => ⟨⟨hb.1, by have := hb.2.1; simpa using this, hb.2.2⟩, Below.heap_setCell _ _ _ _ (show b ≠ G by have := hb.1; omega)⟩)), (Below.heap_setCell _ _ _ _ (show g ≠ G by omega)).trans QG.out, HB6.out.setCell HGK.out _, ⟨by have := HK6.out.1; simpa using this, fun i hi h1 h2 => (Below.heap_setCell _ _ _ _ (show i ≠ G by have := EK.out; omega)).trans (HK6.out.2 i hi h1 h2)⟩, by have := HS6.out; simpa using this⟩
   case measure => simp [intOf]; omega
  obtain rfl : i = k := by omega
  have HQ3 := zH (show Q = some (⟨7, ⟨#[]⟩, ⟨#[]⟩, [], ks⟩, .cells #[.slice A n c, .int .i64 (p : Int), .int .i64 l2] 164 (0, 0)) by rw [HQ2.out, zHx HD.out rfl]; simp only [Option.map_some, hpI])
  have HBr := zH hBr
  have HRDr := zH hRDr
  obtain ⟨hg1, hg2, hg3⟩ := HGS.out
  have y0 := zAb hXr 0
  have z0 := zAa hXr 0
  have y1 := zAb hXr 1
  have z1 := zAa hXr 1
  have y2 := zAb hXr 2
  have z2 := zAa hXr 2
  have y3 := zAb hXr 3
  have z3 := zAa hXr 3
  have y4 := zAb hXr 4
  have z4 := zAa hXr 4
  simp only [zC, zA, zB] at y0 y1 y2 y3 y4
  have yK0 := zAb hPr 0
  have zK0 := zAa hPr 0
  have yK1 := zAb hPr 1
  have zK1 := zAa hPr 1
  have yK2 := zAb hPr 2
  have zK2 := zAa hPr 2
  have yK3 := zAb hPr 3
  have zK3 := zAa hPr 3
  have yK4 := zAb hPr 4
  have zK4 := zAa hPr 4
  simp only [zC, zA, zB] at yK0 yK1 yK2 yK3 yK4
  have HSr := zH hSr
  have HVI := zH hvi
  have hne : G ≠ K := by omega
  have hne2 : K ≠ G := by omega
  have hlt1 : ¬ (i : Int) < 1 := by have := HKI.out; omega
  clear hdec hXr hPr hKr hO3 hpn hpr hvi hBr hSr hpI hRDr HD hy3 HIN hg1 hg2 hg3 hRr hl2
  go_wp2
  obtain ⟨hg1, hg2, hg3⟩ := HGS.out
  have hvi := HVI.out
  have hO := HO3.out
  have hRQ := HRR.out
  rw [← hvi] at hO hRQ
  obtain ⟨F3, gg3, F4, gg4, ev3, ev4, hMF⟩ := MF.of_rows (m := ⟨7, ⟨#[]⟩, ⟨#[]⟩, [], ks⟩) (lo' := base) (World.ownsRow_nil _ _ _ _) hO hRQ (Nat.le_refl _)
  simp only at ev3 ev4
  cases ev3
  cases ev4
  have hT := zEr (W := wr) (w := w) (o := .cells #[.slice A n c, .int .i64 (p : Int), .int .i64 (l2 : Int)] 164 (0, 0)) EK.out HPr.out hg HG.out HW.out HBr.out HKr.out HRDr.out (hMF.move (fun b hb => ⟨⟨by have := hb.1; have := HBS.out; omega, hb.2⟩, rfl⟩))
  rw [HQ3.out]
  simp only [mV, hvi, List.length_nil] at hT
  exact bodyPost_ret (zAt rfl (.cell K 25 _ (0, 0) _ rfl hT.1 Try.underlying25 rfl (by kernel_rfl) .nil)) rfl hT.2
theorem matcher140 (w0 : World) (g : Nat) (A : Option Addr) (n c : Nat) (bs : List UInt8) (hn : bs.length = n) (hnl : n ≤ 1000000000000000) (hnc : n ≤ c) (hC0 : (Kd.int .u8).C w0 A bs.length (bys bs)) :
  ∀ (d : Nat) (dz : Int), d ≤ 8 → dz = 9 - d → IHred w0 g A n c bs d dz := by
 intro d
 induction d with
 | zero =>
  intro dz _ hdz w at_ left hl hB hg hS
  obtain rfl : dz = 9 := by omega
  cases left with
  | zero => exact zIz w0 w g A n c bs at_ 0 hg hB hS 9
  | succ left => exact matcher140b w0 w g A n c bs at_ left (by omega) hg hB hS
 | succ d ih =>
 intro dz hd hdz w at_ left hl hB hg hS
 cases left with
 | zero => exact zIz w0 w g A n c bs at_ (d + 1) hg hB hS dz
 | succ left =>
 have hdz' : dz = 8 - d := by omega
 cases hq : zDb 7 bs at_ with
 | none => exact matcher140c w0 w g A n c bs at_ left d (by omega) (by omega) hn hnl hq hg hB hS hC0 dz hdz'
 | some q =>
 obtain ⟨op, r, hq0, ho⟩ : ∃ op r, getW bs at_ = some (op, r) ∧ op ≤ 7 := by
  unfold zDb at hq
  split at hq
  ·cases hq
  next v r h =>
  split at hq
  ·next hv => exact ⟨v, r, h, hv⟩
  cases hq
 obtain ⟨h1, h2, h3, h4, h5⟩ := zCk hq0
 have hj : (n : Int) - (r.length : Nat) = ((bs.length - r.length : Nat) : Int) := by omega
 have hih : IHred w0 g A n c bs d (dz + 1) := ih (dz + 1) (by omega) (by omega)
 obtain rfl | rfl | rfl | rfl | rfl | rfl | rfl | rfl : op = 0 ∨ op = 1 ∨ op = 2 ∨ op = 3 ∨ op = 4 ∨ op = 5 ∨ op = 6 ∨ op = 7 := by omega
 ·exact matcher140d w0 w g A n c bs at_ left d (by omega) (by omega) hn hnl r hq0 hg hB hS hC0 dz hdz'
 ·exact matcher140e1 w0 w g A n c bs at_ left d (by omega) (by omega) hn hnl r _ hnc hj h4 hq0 hg hB hS hC0 dz hdz'
 ·exact matcher140e2 w0 w g A n c bs at_ left d (by omega) (by omega) hn hnl r _ hnc hj h4 hq0 hg hB hS hC0 dz hdz'
 ·exact matcher140e3 w0 w g A n c bs at_ left d (by omega) (by omega) hn hnl r _ hnc hj h4 hq0 hg hB hS hC0 dz hdz'
 ·exact matcher140f w0 w g A n c bs at_ left d (by omega) (by omega) hn hnl r _ hnc hj h4 hq0 hg hB hS hC0 dz hdz'
 ·exact matcher140g5 w0 w g A n c bs at_ left d (by omega) (by omega) hn hnl r _ hnc hj h4 hq0 hg hB hS hC0 dz hdz' hih
 ·exact matcher140g6 w0 w g A n c bs at_ left d (by omega) (by omega) hn hnl r _ hnc hj h4 hq0 hg hB hS hC0 dz hdz' hih
 exact matcher140g7 w0 w g A n c bs at_ left d (by omega) (by omega) hn hnl r _ hnc hj h4 hq0 hg hB hS hC0 dz hdz' hih
theorem read139 (w0 w : World) (g gp : Nat) (A : Option Addr) (n c : Nat) (bs : List UInt8) (at_ : Int) (hn : bs.length = n) (hnl : n ≤ 1000000000000000) (hnc : n ≤ c) (hC0 : (Kd.int .u8).C w0 A bs.length (bys bs)) (hg : w0.heap.size ≤ g) (hB : Below w0.heap.size w0 w) (hS : RD w g A n c at_ 64) (hP : w.heap[gp]? = some (.cells #[.pointer (some ⟨g, 0, none⟩)] 162 (0, 0))) :
  Calls Try.prog 139 #[.pointer (some ⟨gp, 0, none⟩)] w (RedPost w0 w g (redW A n c bs at_ 8 64)) := by
 obtain ⟨Q, eQ⟩ : ∃ Q, redW A n c bs at_ 8 64 = Q := ⟨_, rfl⟩
 have hM := matcher140 w0 g A n c bs hn hnl hnc hC0 8 1 (by decide) (by decide) (w.alloc (.cells Z5 25)) at_ 64 (by decide) (zAc hB _) hg ((Below.heap_alloc _ _ _ hS.lt).trans hS)
 rw [eQ] at hM ⊢
 have p0 := zAb ((Below.heap_alloc w (.cells Z5 25) _ (zAp hP)).trans hP) 0
 simp only [zC, zA, zB] at p0
 obtain ⟨V, eV⟩ : ∃ V, V = w.alloc (.cells Z5 25) := ⟨_, rfl⟩
 rw [← eV] at hM
 obtain ⟨K, eK⟩ : ∃ K, w.heap.size = K := ⟨_, rfl⟩
 have hV4 : V.heap[K]? = some (.cells Z5 25 (0, 0)) := by rw [eV, ← eK]; exact zAs w _
 have hKV : KeepBut w V g none := by rw [eV]; exact KeepBut.of_below (zAc (Below.refl w.heap.size w) _) g none
 have hVs : V.heap.size = K + 1 := by rw [eV, World.size_alloc, eK]
 have H1 := zH hM
 have HK := zH hKV
 have HV4 := zH hV4
 have HG := zH hS.lt
 have HW := zH hB.size
 have EK := zH eK.symm
 have HVS := zH hVs
 clear hM hB hS hP hKV hV4 hC0 hn eQ hVs
 go_enter Try.func139, Try.ntmps139
 go_wp2_with fail
 rw [← eV]
 refine H1.out.mono ?_
 intro e w5 hp
 cases Q with
 | none =>
  obtain ⟨rfl, hB5, hK5⟩ := hp.none_
  exact ⟨rfl, hB5, HK.out.trans hK5 (Or.inl rfl), Or.inl ⟨rfl, rfl⟩⟩
 | some q =>
 obtain ⟨m, o⟩ := q
 obtain ⟨A3, c3, A4, c4, rfl, hB5, hK5, hMF, ho⟩ := hp.some_
 have k4 := (hK5.2 K (zAp HV4.out) (by have := HG.out; have := EK.out; omega) (by simp)).trans HV4.out
 have HB5 := zH hB5
 have HK5 := zH (HK.out.trans hK5 (Or.inl rfl))
 have HMF := zH hMF
 have HO := zH ho
 have K4 := zH k4
 have y0 := zAb k4 0
 have y1 := zAb k4 1
 have y2 := zAb k4 2
 have y3 := zAb k4 3
 have y4 := zAb k4 4
 have z0 := zAa k4 0
 have z1 := zAa k4 1
 have z2 := zAa k4 2
 have z3 := zAa k4 3
 have z4 := zAa k4 4
 simp only [zC, zA, zB] at y0 y1 y2 y3 y4
 clear hB5 hK5 hMF ho k4 hp eV
 go_wp2
 have hT := zEr (W := w5) (w := w) (o := o) (m := m) EK.out K4.out hg HG.out HW.out HB5.out HK5.out HO.out (HMF.out.move (fun b hb => ⟨⟨by have := hb.1; have := HVS.out; omega, hb.2⟩, rfl⟩))
 exact bodyPost_ret (zAt rfl (.cell K 25 _ (0, 0) _ rfl hT.1 Try.underlying25 rfl (by kernel_rfl) .nil)) rfl hT.2
def matW (bs : List UInt8) (i : Int) : Option (S25 × List UInt8) := if i < 0 then none else ((decM 8 64 (bs.drop i.toNat)).filter (fun q => chkB q.1)).map (fun q => (q.1, q.2.2))
def GetMPost (w : World) (n : Nat) (Q : Option (S25 × List UInt8)) (e : Ending) (w' : World) : Prop :=
 Below w.heap.size w w' ∧ ((Q = none ∧ e = .returned (.tuple #[.agg Z5, .int .i64 0, .bool false])) ∨ ∃ m r A3 c3 A4 c4, Q = some (m, r) ∧ e = .returned (.tuple #[mV m A3 c3 A4 c4, .int .i64 ((n : Int) - (r.length : Nat)), .bool true]) ∧ MF w' (fun b => w.heap.size ≤ b ∧ b < w'.heap.size) m A3 c3 A4 c4)
theorem redW_mat {A : Option Addr} {n c : Nat} {bs : List UInt8} {i : Int} : (matW bs i = none ∧ (redW A n c bs i 8 64).filter (fun q => chkB q.1) = none) ∨ ∃ m r l, matW bs i = some (m, r) ∧ (redW A n c bs i 8 64).filter (fun q => chkB q.1) = some (m, .cells #[.slice A n c, .int .i64 ((n : Int) - (r.length : Nat)), .int .i64 (l : Nat)] 164 (0, 0)) := by
 unfold matW redW
 split
 ·exact Or.inl ⟨rfl, rfl⟩
 cases h : decM 8 64 (bs.drop i.toNat) with
 | none => exact Or.inl ⟨rfl, rfl⟩
 | some q =>
 cases hc : chkB q.1 with
 | false => exact Or.inl ⟨by simp [Option.filter, hc], by simp [Option.filter, hc]⟩
 | true => exact Or.inr ⟨q.1, q.2.2, q.2.1, by simp [Option.filter, hc], by simp [Option.filter, hc]⟩
theorem mGet88 (w : World) (A : Option Addr) (n c : Nat) (bs : List UInt8) (at_ : Int) (hn : bs.length = n) (hnl : n ≤ 1000000000000000) (hnc : n ≤ c) (hC : (Kd.int .u8).C w A bs.length (bys bs)) :
  Calls Try.prog 88 #[.slice A n c, .int .i64 at_] w (GetMPost w n (matW bs at_)) := by
 obtain ⟨V, eV⟩ : ∃ V, V = ((w.alloc (.cells Z5 25)).alloc (.cells #[.slice A n c, .int .i64 at_, .int .i64 64] 164)).alloc (.cells #[.pointer (some ⟨w.heap.size + 1, 0, none⟩)] 162) := ⟨_, rfl⟩
 have hs : V.heap.size = w.heap.size + 3 := by rw [eV]; simp
 have hBV : Below w.heap.size w V := by rw [eV]; exact zAc (zAc (zAc (Below.refl _ _) _) _) _
 have k0 : V.heap[w.heap.size]? = some (.cells Z5 25 (0, 0)) := by rw [eV]; exact (Below.heap_alloc _ _ _ (by simp; omega)).trans ((Below.heap_alloc _ _ _ (by simp)).trans (zAs w _))
 have k1 : RD V (w.heap.size + 1) A n c at_ 64 := by
  have := zAs (w.alloc (.cells Z5 25)) (.cells #[.slice A n c, .int .i64 at_, .int .i64 64] 164)
  rw [World.size_alloc] at this
  rw [eV]; exact (Below.heap_alloc _ _ _ (by simp)).trans this
 have k2 : V.heap[w.heap.size + 2]? = some (.cells #[.pointer (some ⟨w.heap.size + 1, 0, none⟩)] 162 (0, 0)) := by
  have := zAs ((w.alloc (.cells Z5 25)).alloc (.cells #[.slice A n c, .int .i64 at_, .int .i64 64] 164)) (.cells #[.pointer (some ⟨w.heap.size + 1, 0, none⟩)] 162)
  rw [World.size_alloc, World.size_alloc] at this
  rw [eV]; exact this
 have hR := reads138 (.pointer (some ⟨w.heap.size + 2, 0, none⟩)) w V (w.heap.size + 1) (redW A n c bs at_ 8 64) hBV (by omega) (fun W hW => read139 w W (w.heap.size + 1) (w.heap.size + 2) A n c bs at_ hn hnl hnc hC (by omega) (zAe hBV hW) ((hW.block _ (by omega)).trans k1) ((hW.block _ (by omega)).trans k2))
 have hQ := redW_mat (A := A) (n := n) (c := c) (bs := bs) (i := at_)
 obtain ⟨Q, eQ⟩ : ∃ Q, (redW A n c bs at_ 8 64).filter (fun q => chkB q.1) = Q := ⟨_, rfl⟩
 rw [eQ] at hR hQ
 obtain ⟨M, eM⟩ : ∃ M, matW bs at_ = M := ⟨_, rfl⟩
 rw [eM] at hQ ⊢
 have hmf : ∀ (fn : Fn) (first cap : Array Value) (w : World), (Instr.makeFunc fn first cap).run Try.prog w = .ok (.func fn first cap) w := fun _ _ _ _ => rfl
 obtain ⟨R0, e0⟩ : ∃ R0, w.heap.size = R0 := ⟨_, rfl⟩
 obtain ⟨R1, e1⟩ : ∃ R1, R0 + 1 = R1 := ⟨_, rfl⟩
 obtain ⟨R2, e2⟩ : ∃ R2, R1 + 1 = R2 := ⟨_, rfl⟩
 have e2' : w.heap.size + 2 = R2 := by omega
 have e1' : w.heap.size + 1 = R1 := by omega
 rw [e1'] at k1 k2 eV
 rw [e2'] at k2
 rw [e1', e2'] at hR
 rw [e0] at k0
 have H1 := zH hR
 have HQ := zH hQ
 have HBV := zH hBV
 have HS := zH (show V.heap.size = R0 + 3 by omega)
 have K0 := zH k0
 have K2 := zH k2
 have HR0 := zH e0
 have HR12 := zH (And.intro e1 e2)
 have hne1 : R0 ≠ R1 := by omega
 have hne2 : R0 ≠ R2 := by omega
 clear hR hQ hBV hs k0 k1 k2 eQ eM hC hn e1' e2'
 go_enter Try.func88, Try.ntmps88
 go_wp2_with fail
 rw [← eV]
 refine H1.out.mono ?_
 rintro e w5 ⟨hB5, hK5, hres⟩
 have hs5 := hK5.1
 obtain ⟨h01, h12⟩ := HR12.out
 have hVs := HS.out
 have k0 := (hK5.2 R0 (by omega) (by omega) (by simp)).trans K0.out
 have k2 := (hK5.2 R2 (by omega) (by omega) (by simp)).trans K2.out
 have HB5 := zH hB5
 have HL := zH (show R0 < w5.heap.size ∧ R1 < w5.heap.size ∧ R2 < w5.heap.size by omega)
 rcases hres with ⟨rfl, rfl⟩ | ⟨m, o, A3, c3, A4, c4, rfl, rfl, hMF, ho⟩
 ·obtain rfl : M = none := by
   rcases HQ.out with ⟨h, -⟩ | ⟨m, r, l, -, h⟩
   ·exact h
   cases h
  have k0' : (w5.alloc (.cells Z5 25)).heap[R0]? = some (.cells Z5 25 (0, 0)) := (Below.heap_alloc _ _ _ HL.out.1).trans k0
  have K0' := zH k0'
  have y0 := zAb k0' 0
  have y1 := zAb k0' 1
  have y2 := zAb k0' 2
  have y3 := zAb k0' 3
  have y4 := zAb k0' 4
  have z0 := zAa k0' 0
  have z1 := zAa k0' 1
  have z2 := zAa k0' 2
  have z3 := zAa k0' 3
  have z4 := zAa k0' 4
  simp only [zC, zA, zB] at y0 y1 y2 y3 y4
  clear k0 k2 k0' hB5 hK5 hs5 eV hVs h01 h12 e0 e1 e2
  go_wp2
  have hb := ((((((zAc HB5.out (.cells Z5 25)).setCell (Nat.le_of_eq HR0.out) (.int .i64 0) (p := ⟨R0, 0, none⟩)).setCell (p := ⟨R0, 1, none⟩) (Nat.le_of_eq HR0.out) (.string ⟨#[]⟩)).setCell (p := ⟨R0, 2, none⟩) (Nat.le_of_eq HR0.out) (.string ⟨#[]⟩)).setCell (p := ⟨R0, 3, none⟩) (Nat.le_of_eq HR0.out) (.slice none 0 0)).setCell (p := ⟨R0, 4, none⟩) (Nat.le_of_eq HR0.out) (.slice none 0 0))
  have hf := (zAn (zAn (zAn (zAn (zAn K0'.out 0 (.int .i64 0)) 1 (.string ⟨#[]⟩)) 2 (.string ⟨#[]⟩)) 3 (.slice none 0 0)) 4 (.slice none 0 0)).trans (show _ = some (.cells Z5 25 (0, 0)) by rfl)
  exact bodyPost_ret (zFy (vs := [.agg Z5, .int .i64 0, .bool false]) rfl (by decide) (.cell R0 25 _ (0, 0) _ rfl hf Try.underlying25 rfl (by kernel_rfl) (.tmp (.tmp .nil)))) rfl ⟨hb, Or.inl ⟨rfl, rfl⟩⟩
 obtain ⟨r, l, rfl, ho'⟩ : ∃ r l, M = some (m, r) ∧ o = .cells #[.slice A n c, .int .i64 ((n : Int) - (r.length : Nat)), .int .i64 (l : Nat)] 164 (0, 0) := by
  rcases HQ.out with ⟨-, h⟩ | ⟨m', r, l, h, h'⟩
  ·cases h
  simp only [Option.some.injEq, Prod.mk.injEq] at h'
  obtain ⟨rfl, rfl⟩ := h'
  exact ⟨r, l, h, rfl⟩
 subst ho'
 have k0' : (w5.alloc (.cells #[.int .i64 m.f0, .string m.f1, .string m.f2, .slice A3 m.f3.length c3, .slice A4 m.f4.length c4] 25)).heap[R0]? = some (.cells Z5 25 (0, 0)) := (Below.heap_alloc _ _ _ HL.out.1).trans k0
 have k1' : RD (w5.alloc (.cells #[.int .i64 m.f0, .string m.f1, .string m.f2, .slice A3 m.f3.length c3, .slice A4 m.f4.length c4] 25)) R1 A n c ((n : Int) - (r.length : Nat)) l := (Below.heap_alloc _ _ _ HL.out.2.1).trans ho
 have k2' : (w5.alloc (.cells #[.int .i64 m.f0, .string m.f1, .string m.f2, .slice A3 m.f3.length c3, .slice A4 m.f4.length c4] 25)).heap[R2]? = some (.cells #[.pointer (some ⟨R1, 0, none⟩)] 162 (0, 0)) := (Below.heap_alloc _ _ _ HL.out.2.2).trans k2
 have K0' := zH k0'
 have y0 := zAb k0' 0
 have y1 := zAb k0' 1
 have y2 := zAb k0' 2
 have y3 := zAb k0' 3
 have y4 := zAb k0' 4
 have z0 := zAa k0' 0
 have z1 := zAa k0' 1
 have z2 := zAa k0' 2
 have z3 := zAa k0' 3
 have z4 := zAa k0' 4
 have x0 := zAb k2' 0
 have v1 := k1'.c1
 simp only [zC, zA, zB] at y0 y1 y2 y3 y4 x0
 have HMF := zH hMF
 obtain ⟨j, hj⟩ : ∃ j : Int, (n : Int) - (r.length : Nat) = j := ⟨_, rfl⟩
 rw [hj] at v1
 have HJ := zH hj
 have HQ := ()
 clear k0 k2 k0' k1' k2' hB5 hK5 hs5 eV hVs h01 h12 e0 e1 e2 ho hMF hj
 go_wp2
 go_region
 go_wp2
 have hr0 := HR0.out
 have hb := zAr ((((((zAc HB5.out (.cells #[.int .i64 m.f0, .string m.f1, .string m.f2, .slice A3 m.f3.length c3, .slice A4 m.f4.length c4] 25)).setCell (Nat.le_of_eq hr0) (.int .i64 m.f0) (p := ⟨R0, 0, none⟩)).setCell (p := ⟨R0, 1, none⟩) (Nat.le_of_eq hr0) (.string m.f1)).setCell (p := ⟨R0, 2, none⟩) (Nat.le_of_eq hr0) (.string m.f2)).setCell (p := ⟨R0, 3, none⟩) (Nat.le_of_eq hr0) (.slice A3 m.f3.length c3)).setCell (p := ⟨R0, 4, none⟩) (Nat.le_of_eq hr0) (.slice A4 m.f4.length c4))
 have hf := (zAn (zAn (zAn (zAn (zAn K0'.out 0 (.int .i64 m.f0)) 1 (.string m.f1)) 2 (.string m.f2)) 3 (.slice A3 m.f3.length c3)) 4 (.slice A4 m.f4.length c4)).trans (show _ = some (.cells #[.int .i64 m.f0, .string m.f1, .string m.f2, .slice A3 m.f3.length c3, .slice A4 m.f4.length c4] 25 (0, 0)) by rfl)
 refine bodyPost_ret (zFy (vs := [.agg #[.int .i64 m.f0, .string m.f1, .string m.f2, .slice A3 m.f3.length c3, .slice A4 m.f4.length c4], .int .i64 j, .bool true]) rfl (by simp) (.cell R0 25 _ (0, 0) _ rfl hf Try.underlying25 rfl (by kernel_rfl) (.tmp (.tmp .nil)))) rfl ⟨hb, Or.inr ⟨m, r, A3, c3, A4, c4, rfl, by rw [HJ.out], HMF.out.move (fun b hb => ⟨⟨?_, ?_⟩, ?_⟩)⟩⟩
 ·have := hb.1; have := HS.out; omega
 ·have h2 := hb.2
  rw [World.size_drew]
  simp only [World.size_setCell, World.size_alloc]
  omega
 have hne : b ≠ R0 := by have := hb.1; have := HS.out; omega
 exact (Below.heap_setCell _ _ _ _ hne).trans ((Below.heap_setCell _ _ _ _ hne).trans ((Below.heap_setCell _ _ _ _ hne).trans ((Below.heap_setCell _ _ _ _ hne).trans ((Below.heap_setCell _ _ _ _ hne).trans (Below.heap_alloc _ _ _ hb.2)))))
def NB (W : World) (gn : Nat) (k : Int) : Prop := W.heap[gn]? = some (.cells #[.int .i64 k] 3 (0, 0))
def GotQ (b : Bool) (d left : Nat) (bs : List UInt8) (i : Int) : Option (S25 × Nat × List UInt8) := if b = true ∨ i < 0 then none else decM d left (bs.drop i.toNat)
def zCl (w0 w : World) (g gn : Nat) (A : Option Addr) (n c : Nat) (Q : Option (S25 × Nat × List UInt8)) (e : Ending) (w' : World) : Prop :=
 Below w0.heap.size w0 w' ∧ KeepBut w w' g (some gn) ∧
  ((Q = none ∧ (∃ x0 x1 x2 A3 n3 c3 A4 n4 c4, e = .returned (.agg #[.int .i64 x0, .string x1, .string x2, .slice A3 n3 c3, .slice A4 n4 c4])) ∧ (∃ i, RB w' g A n c i true) ∧ ∃ k, NB w' gn k) ∨
   ∃ m l r A3 c3 A4 c4, Q = some (m, l, r) ∧ e = .returned (mV m A3 c3 A4 c4) ∧ MF w' (fun b => w.heap.size ≤ b ∧ b < w'.heap.size) m A3 c3 A4 c4 ∧ RB w' g A n c ((n : Int) - (r.length : Nat)) false ∧ NB w' gn (64 - (l : Int)))
theorem zBf {w w' : World} {g gn : Nat} (h : KeepBut w w' g none) : KeepBut w w' g (some gn) := ⟨h.1, fun i hi h1 _ => h.2 i hi h1 (by simp)⟩
theorem zAw {w w1 w2 : World} {g gn : Nat} (h : KeepBut w w1 g (some gn)) (k : KeepBut w1 w2 g (some gn)) : KeepBut w w2 g (some gn) := h.trans k (Or.inl rfl)
theorem zCg {w0 w W : World} {g gn K : Nat} (a0 a1 a2 a3 a4 : Value) (hK : K = w.heap.size) (hb : W.heap[K]? = some (.cells Z5 25 (0, 0))) (hw0 : w0.heap.size ≤ w.heap.size) (hB : Below w0.heap.size w0 W) (hKB : KeepBut w W g (some gn)) :
  (((((W.setCell ⟨K, 0, none⟩ a0).setCell ⟨K, 1, none⟩ a1).setCell ⟨K, 2, none⟩ a2).setCell ⟨K, 3, none⟩ a3).setCell ⟨K, 4, none⟩ a4).heap[K]? = some (.cells #[a0, a1, a2, a3, a4] 25 (0, 0)) ∧
  Below w0.heap.size w0 (((((W.setCell ⟨K, 0, none⟩ a0).setCell ⟨K, 1, none⟩ a1).setCell ⟨K, 2, none⟩ a2).setCell ⟨K, 3, none⟩ a3).setCell ⟨K, 4, none⟩ a4) ∧
  KeepBut w (((((W.setCell ⟨K, 0, none⟩ a0).setCell ⟨K, 1, none⟩ a1).setCell ⟨K, 2, none⟩ a2).setCell ⟨K, 3, none⟩ a3).setCell ⟨K, 4, none⟩ a4) g (some gn) ∧
  (∀ i, i ≠ K → (((((W.setCell ⟨K, 0, none⟩ a0).setCell ⟨K, 1, none⟩ a1).setCell ⟨K, 2, none⟩ a2).setCell ⟨K, 3, none⟩ a3).setCell ⟨K, 4, none⟩ a4).heap[i]? = W.heap[i]?) ∧
  (((((W.setCell ⟨K, 0, none⟩ a0).setCell ⟨K, 1, none⟩ a1).setCell ⟨K, 2, none⟩ a2).setCell ⟨K, 3, none⟩ a3).setCell ⟨K, 4, none⟩ a4).heap.size = W.heap.size := by
 have far : ∀ i, i ≠ K → (((((W.setCell ⟨K, 0, none⟩ a0).setCell ⟨K, 1, none⟩ a1).setCell ⟨K, 2, none⟩ a2).setCell ⟨K, 3, none⟩ a3).setCell ⟨K, 4, none⟩ a4).heap[i]? = W.heap[i]? := fun i hne =>
  (Below.heap_setCell _ _ _ _ hne).trans ((Below.heap_setCell _ _ _ _ hne).trans ((Below.heap_setCell _ _ _ _ hne).trans ((Below.heap_setCell _ _ _ _ hne).trans (Below.heap_setCell _ _ _ _ hne))))
 have hwK : w0.heap.size ≤ K := by omega
 have hs : (((((W.setCell ⟨K, 0, none⟩ a0).setCell ⟨K, 1, none⟩ a1).setCell ⟨K, 2, none⟩ a2).setCell ⟨K, 3, none⟩ a3).setCell ⟨K, 4, none⟩ a4).heap.size = W.heap.size := by simp
 refine ⟨(zAn (zAn (zAn (zAn (zAn hb 0 _) 1 _) 2 _) 3 _) 4 _).trans (by rfl), ((((hB.setCell hwK _).setCell hwK _).setCell hwK _).setCell hwK _).setCell hwK _, ⟨by rw [hs]; exact hKB.1, fun i hi h1 h2 => (far i (by omega)).trans (hKB.2 i hi h1 h2)⟩, far, hs⟩
theorem zEo {w0 w W X : World} {g gn K n c : Nat} {A : Option Addr} {x0 : Int} {x1 x2 : ByteArray} {A3 A4 : Option Addr} {n3 c3 n4 c4 : Nat} {i k : Int} (hg : g ≠ K) (hgn : gn ≠ K) (hB : Below w0.heap.size w0 X) (hKB : KeepBut w X g (some gn)) (far : ∀ i, i ≠ K → X.heap[i]? = W.heap[i]?) (hS : RB W g A n c i true) (hN : NB W gn k) :
  zCl w0 w g gn A n c none (.returned (.agg #[.int .i64 x0, .string x1, .string x2, .slice A3 n3 c3, .slice A4 n4 c4])) X :=
 ⟨hB, hKB, Or.inl ⟨rfl, ⟨_, _, _, _, _, _, _, _, _, rfl⟩, ⟨i, (far g hg).trans hS⟩, ⟨k, (far gn hgn).trans hN⟩⟩⟩
theorem zEu {w0 w W X : World} {g gn K n c l : Nat} {A : Option Addr} {m : S25} {r : List UInt8} {A3 A4 : Option Addr} {c3 c4 : Nat} (hK : K = w.heap.size) (hg : g ≠ K) (hgn : gn ≠ K) (hB : Below w0.heap.size w0 X) (hKB : KeepBut w X g (some gn)) (far : ∀ i, i ≠ K → X.heap[i]? = W.heap[i]?) (hs : X.heap.size = W.heap.size) (hM : MF W (fun b => K < b ∧ b < W.heap.size) m A3 c3 A4 c4) (hS : RB W g A n c ((n : Int) - (r.length : Nat)) false) (hN : NB W gn (64 - (l : Int))) :
  zCl w0 w g gn A n c (some (m, l, r)) (.returned (mV m A3 c3 A4 c4)) X :=
 ⟨hB, hKB, Or.inr ⟨m, l, r, A3, c3, A4, c4, rfl, rfl, hM.move (fun b hb => ⟨⟨by omega, by rw [hs]; exact hb.2⟩, far b (by omega)⟩), (far g hg).trans hS, (far gn hgn).trans hN⟩⟩
theorem zBx {bs r : List UInt8} {j most : Nat} (hr : bs.drop j = r) : zGy false most bs (j : Int) = decT most r := by
 unfold zGy numW getW decT
 rw [if_neg (by decide), if_neg (by omega), Int.toNat_natCast, hr]
 all_goals (cases decV 0 0 r <;> rfl)
theorem zFe {bs r : List UInt8} {j most : Nat} (hr : bs.drop j = r) : zFf false most bs (j : Int) = match decV 0 0 r with
 | none => none
 | some (m, r) => if m ≤ most ∧ m ≤ r.length then some (m, r) else none := by
 unfold zFf numW getW
 rw [if_neg (by decide), if_neg (by omega), Int.toNat_natCast, hr]
 all_goals (cases decV 0 0 r <;> rfl)
theorem zFw (w0 w : World) (g : Nat) (A : Option Addr) (n c : Nat) (bs : List UInt8) (at_ : Int) (b : Bool) (most : Nat) (mz : Int) (hmz : mz = (most : Int)) (hm : most ≤ 1000000) (hn : bs.length = n) (hc : n ≤ c) (hl : n ≤ 1000000000000000) (hg : w0.heap.size ≤ g) (hB : Below w0.heap.size w0 w) (hS : RB w g A n c at_ b) (hC0 : (Kd.int .u8).C w0 A bs.length (bys bs)) :
  Calls Try.prog 130 #[.pointer (some ⟨g, 0, none⟩), .int .i64 mz] w fun e w' => ∃ x i' b', e = .returned (.string x) ∧ Below w0.heap.size w0 w' ∧ KeepBut w w' g none ∧ RB w' g A n c i' b' ∧ Hid ((zGy b most bs at_ = none ∧ b' = true) ∨ ∃ t r, zGy b most bs at_ = some (t, r) ∧ x = ⟨t.toArray⟩ ∧ i' = (n : Int) - (r.length : Nat) ∧ b' = false) := by
 subst hmz
 refine (rtext130 w0 w g A n c bs at_ b most hm hn hc hl hg hB hS hC0).mono ?_
 rintro e w' ⟨h1, h2, ⟨h3, h4, i, h5⟩ | ⟨t, r, h3, h4, h5⟩⟩
 ·exact ⟨_, i, true, h4, h1, h2, h5, zH (Or.inl ⟨h3, rfl⟩)⟩
 exact ⟨_, _, false, h4, h1, h2, h5, zH (Or.inr ⟨t, r, h3, rfl, rfl, rfl⟩)⟩
theorem cnt120 (w0 w : World) (g : Nat) (A : Option Addr) (n c : Nat) (bs : List UInt8) (at_ : Int) (b : Bool) (most : Nat) (mz : Int) (hmz : mz = (most : Int)) (hm : most ≤ 1000000) (hn : bs.length = n) (hl : n ≤ 1000000000000000) (hg : w0.heap.size ≤ g) (hB : Below w0.heap.size w0 w) (hS : RB w g A n c at_ b) (hC0 : (Kd.int .u8).C w0 A bs.length (bys bs)) :
  Calls Try.prog 120 #[.pointer (some ⟨g, 0, none⟩), .int .i64 mz] w fun e w' => ∃ (k : Nat) (i' : Int) (b' : Bool), e = .returned (.int .i64 (k : Int)) ∧ Below w0.heap.size w0 w' ∧ KeepBut w w' g none ∧ RB w' g A n c i' b' ∧ k ≤ most ∧ Hid ((zFf b most bs at_ = none ∧ b' = true) ∨ ∃ r, zFf b most bs at_ = some (k, r) ∧ i' = (n : Int) - (r.length : Nat) ∧ b' = false) := by
 subst hmz
 refine (count120 w0 w g A n c bs at_ b most hm hn hl hg hB hS hC0).mono ?_
 rintro e w' ⟨h1, h2, ⟨h3, h4, i, h5⟩ | ⟨v, r, h3, h4, h5⟩⟩
 ·exact ⟨0, i, true, h4, h1, h2, h5, Nat.zero_le _, zH (Or.inl ⟨h3, rfl⟩)⟩
 refine ⟨v, _, false, h4, h1, h2, h5, ?_, zH (Or.inr ⟨r, h3, rfl, rfl⟩)⟩
 unfold zFf at h3
 split at h3
 ·cases h3
 split at h3
 ·next h => simp only [Option.some.injEq, Prod.mk.injEq] at h3; obtain ⟨rfl, -⟩ := h3; exact h.1
 cases h3
theorem zHl {bs : List UInt8} {i : Int} {most : Nat} : zGy true most bs i = none := by unfold zGy numW; simp
theorem countW_bad {bs : List UInt8} {i : Int} {most : Nat} : zFf true most bs i = none := by unfold zFf numW; simp
theorem got141a (w0 w : World) (g gn : Nat) (A : Option Addr) (n c : Nat) (bs : List UInt8) (at_ : Int) (b : Bool) (left d : Nat) (hl0 : left = 0) (hn : bs.length = n) (hnl : n ≤ 1000000000000000) (hg : w0.heap.size ≤ g) (hgn : w0.heap.size ≤ gn) (hne : g ≠ gn) (hB : Below w0.heap.size w0 w) (hS : RB w g A n c at_ b) (nz : Int) (hN : NB w gn nz) (hnz : nz = 64 - (left : Int)) (hC0 : (Kd.int .u8).C w0 A bs.length (bys bs)) (dz : Int) (hdz : dz = 9 - (d : Int)) :
  Calls Try.prog 141 #[.pointer (some ⟨g, 0, none⟩), .pointer (some ⟨gn, 0, none⟩), .int .i64 dz] w (zCl w0 w g gn A n c (GotQ b d left bs at_)) := by
 have hQ : GotQ b d left bs at_ = none := by
  unfold GotQ
  split
  ·rfl
  subst hl0; cases d <;> simp [decM]
 rw [hQ]
 clear hQ
 have hgl := hS.lt
 have hgnl := zAp hN
 have hne2 := hne.symm
 obtain ⟨nz1, hnz1⟩ : ∃ nz1, nz + 1 = nz1 := ⟨_, rfl⟩
 have hw1 : wrap64 (nz + 1) = nz1 := by unfold wrap64; omega
 have hN2 : NB (w.alloc (.cells Z5 25)) gn nz := (Below.heap_alloc _ _ _ hgnl).trans hN
 have hS2 : RB (w.alloc (.cells Z5 25)) g A n c at_ b := (Below.heap_alloc _ _ _ hgl).trans hS
 have hS3 : RB ((w.alloc (.cells Z5 25)).setCell ⟨gn, 0, none⟩ (.int .i64 nz1)) g A n c at_ b := (Below.heap_setCell _ _ _ _ hne).trans hS2
 have m0 := zAb hN2 0
 have mz0 := zAa hN2 0
 simp only [zC, zA] at m0
 have r2 := hS2.c2
 have rz2 := hS2.z2
 have t1 : (64 : Int) < nz1 := by omega
 have t2 : decide ((64 : Int) < nz1) = true := zT t1
 obtain ⟨V, eV⟩ : ∃ V, V = ((w.alloc (.cells Z5 25)).setCell ⟨gn, 0, none⟩ (.int .i64 nz1)).setCell ⟨g, 2, none⟩ (.bool true) := ⟨_, rfl⟩
 have hBV : Below w0.heap.size w0 V := by rw [eV]; exact ((zAc hB _).setCell hgn _).setCell hg _
 have hKV : KeepBut w V g (some gn) := by
  rw [eV]
  refine ⟨by simp, fun i hi h1 h2 => ?_⟩
  have h3 : i ≠ gn := fun e => h2 (by rw [e])
  exact (Below.heap_setCell _ _ _ _ h1).trans ((Below.heap_setCell _ _ _ _ h3).trans (Below.heap_alloc _ _ _ hi))
 have hSV : RB V g A n c at_ true := by rw [eV]; exact hS3.set2 true
 have hNV : NB V gn nz1 := by rw [eV]; exact (Below.heap_setCell _ _ _ _ hne2).trans ((zAn hN2 0 _).trans (by rfl))
 have hZV : V.heap[w.heap.size]? = some (.cells Z5 25 (0, 0)) := by rw [eV]; exact (Below.heap_setCell _ _ _ _ (by simp; omega)).trans ((Below.heap_setCell _ _ _ _ (by simp; omega)).trans (zAs w _))
 have hsV : V.heap.size = w.heap.size + 1 := by rw [eV]; simp
 have h1 := zHq w0 V g A n c bs at_ true (by unfold numW; simp) hn hnl hg hBV hSV hC0
 have H1 := zH h1
 have HK := zH hKV
 have HNV := zH hNV
 have HZV := zH hZV
 have HW := zH hB.size
 have HG := zH (And.intro hgl (And.intro hgnl hsV))
 clear hS hS2 hS3 hN hN2 hgl hgnl hBV hKV hSV hNV hZV h1 hC0 hn hdz hnz hsV hB hnz1
 obtain ⟨K, eK⟩ : ∃ K, w.heap.size = K := ⟨_, rfl⟩
 have EK := zH eK.symm
 go_enter Try.func141, Try.ntmps141
 go_wp2_with fail
 rw [← eV]
 refine H1.out.mono ?_
 rintro e w1 ⟨rfl, hB1, hK1, i1, hR1⟩
 obtain ⟨hg1, hg2, hg3⟩ := HG.out
 have hZ1 := (hK1.2 _ (zAp HZV.out) (by omega) (by simp)).trans HZV.out
 rw [eK] at hZ1
 have hN1 : NB w1 gn nz1 := (hK1.2 gn (zAp HNV.out) hne2 (by simp)).trans HNV.out
 have HKW := zH (zAw HK.out (zBf hK1))
 have HB1 := zH hB1
 have HR1 := zH hR1
 have HN1 := zH hN1
 have hgK : K ≠ g := by omega
 have hgnK : K ≠ gn := by omega
 have hgK2 := hgK.symm
 have hgnK2 := hgnK.symm
 have s2 := hR1.c2
 have sz2 := hR1.z2
 have HZ1 := zH ((Below.heap_setCell w1 ⟨g, 2, none⟩ (.bool true) K hgK).trans hZ1)
 have y0 := zAb hZ1 0
 have z0 := zAa hZ1 0
 have y1 := zAb hZ1 1
 have z1 := zAa hZ1 1
 have y2 := zAb hZ1 2
 have z2 := zAa hZ1 2
 have y3 := zAb hZ1 3
 have z3 := zAa hZ1 3
 have y4 := zAb hZ1 4
 have z4 := zAa hZ1 4
 simp only [zC, zA, zB] at y0 y1 y2 y3 y4
 clear hB1 hK1 hR1 hN1 hZ1 hg1 hg2 hg3 eK eV HG
 go_wp2
 obtain ⟨t1, t2, t3, t4, t5⟩ := zCg (w0 := w0) (g := g) (gn := gn) (.int .i64 0) (.string ⟨#[]⟩) (.string ⟨#[]⟩) (.slice none 0 0) (.slice none 0 0) EK.out HZ1.out HW.out (HB1.out.setCell hg _) (HKW.out.set_ 2 (.bool true))
 exact bodyPost_ret (zAt rfl (.cell K 25 _ (0, 0) _ rfl t1 Try.underlying25 rfl (by kernel_rfl) .nil)) rfl (zEo hgK2 hgnK2 t2 t3 t4 (HR1.out.set2 true) ((Below.heap_setCell _ _ _ _ hne2).trans HN1.out))
theorem got141b (w0 w : World) (g gn : Nat) (A : Option Addr) (n c : Nat) (bs : List UInt8) (at_ : Int) (b : Bool) (left d : Nat) (hl0 : left ≤ 64) (hl1 : 0 < left) (hd0 : d = 0) (hn : bs.length = n) (hnl : n ≤ 1000000000000000) (hg : w0.heap.size ≤ g) (hgn : w0.heap.size ≤ gn) (hne : g ≠ gn) (hB : Below w0.heap.size w0 w) (hS : RB w g A n c at_ b) (nz : Int) (hN : NB w gn nz) (hnz : nz = 64 - (left : Int)) (hC0 : (Kd.int .u8).C w0 A bs.length (bys bs)) (dz : Int) (hdz : dz = 9 - (d : Int)) :
  Calls Try.prog 141 #[.pointer (some ⟨g, 0, none⟩), .pointer (some ⟨gn, 0, none⟩), .int .i64 dz] w (zCl w0 w g gn A n c (GotQ b d left bs at_)) := by
 have hQ : GotQ b d left bs at_ = none := by
  unfold GotQ
  split
  ·rfl
  subst hd0; simp [decM]
 rw [hQ]
 clear hQ
 have hgl := hS.lt
 have hgnl := zAp hN
 have hne2 := hne.symm
 obtain ⟨nz1, hnz1⟩ : ∃ nz1, nz + 1 = nz1 := ⟨_, rfl⟩
 have hw1 : wrap64 (nz + 1) = nz1 := by unfold wrap64; omega
 have hN2 : NB (w.alloc (.cells Z5 25)) gn nz := (Below.heap_alloc _ _ _ hgnl).trans hN
 have hS2 : RB (w.alloc (.cells Z5 25)) g A n c at_ b := (Below.heap_alloc _ _ _ hgl).trans hS
 have hS3 : RB ((w.alloc (.cells Z5 25)).setCell ⟨gn, 0, none⟩ (.int .i64 nz1)) g A n c at_ b := (Below.heap_setCell _ _ _ _ hne).trans hS2
 have m0 := zAb hN2 0
 have mz0 := zAa hN2 0
 simp only [zC, zA] at m0
 have r2 := hS2.c2
 have rz2 := hS2.z2
 have t1 : ¬ (64 : Int) < nz1 := by omega
 have t2 : decide ((64 : Int) < nz1) = false := zF t1
 have t3 : (8 : Int) < dz := by omega
 have t4 : decide ((8 : Int) < dz) = true := zT t3
 obtain ⟨V, eV⟩ : ∃ V, V = ((w.alloc (.cells Z5 25)).setCell ⟨gn, 0, none⟩ (.int .i64 nz1)).setCell ⟨g, 2, none⟩ (.bool true) := ⟨_, rfl⟩
 have hBV : Below w0.heap.size w0 V := by rw [eV]; exact ((zAc hB _).setCell hgn _).setCell hg _
 have hKV : KeepBut w V g (some gn) := by
  rw [eV]
  refine ⟨by simp, fun i hi h1 h2 => ?_⟩
  have h3 : i ≠ gn := fun e => h2 (by rw [e])
  exact (Below.heap_setCell _ _ _ _ h1).trans ((Below.heap_setCell _ _ _ _ h3).trans (Below.heap_alloc _ _ _ hi))
 have hSV : RB V g A n c at_ true := by rw [eV]; exact hS3.set2 true
 have hNV : NB V gn nz1 := by rw [eV]; exact (Below.heap_setCell _ _ _ _ hne2).trans ((zAn hN2 0 _).trans (by rfl))
 have hZV : V.heap[w.heap.size]? = some (.cells Z5 25 (0, 0)) := by rw [eV]; exact (Below.heap_setCell _ _ _ _ (by simp; omega)).trans ((Below.heap_setCell _ _ _ _ (by simp; omega)).trans (zAs w _))
 have hsV : V.heap.size = w.heap.size + 1 := by rw [eV]; simp
 have h1 := zHq w0 V g A n c bs at_ true (by unfold numW; simp) hn hnl hg hBV hSV hC0
 have H1 := zH h1
 have HK := zH hKV
 have HNV := zH hNV
 have HZV := zH hZV
 have HW := zH hB.size
 have HG := zH (And.intro hgl (And.intro hgnl hsV))
 clear hS hS2 hS3 hN hN2 hgl hgnl hBV hKV hSV hNV hZV h1 hC0 hn hdz hnz hsV hB hnz1
 obtain ⟨K, eK⟩ : ∃ K, w.heap.size = K := ⟨_, rfl⟩
 have EK := zH eK.symm
 go_enter Try.func141, Try.ntmps141
 go_wp2_with fail
 rw [← eV]
 refine H1.out.mono ?_
 rintro e w1 ⟨rfl, hB1, hK1, i1, hR1⟩
 obtain ⟨hg1, hg2, hg3⟩ := HG.out
 have hZ1 := (hK1.2 _ (zAp HZV.out) (by omega) (by simp)).trans HZV.out
 rw [eK] at hZ1
 have hN1 : NB w1 gn nz1 := (hK1.2 gn (zAp HNV.out) hne2 (by simp)).trans HNV.out
 have HKW := zH (zAw HK.out (zBf hK1))
 have HB1 := zH hB1
 have HR1 := zH hR1
 have HN1 := zH hN1
 have hgK : K ≠ g := by omega
 have hgnK : K ≠ gn := by omega
 have hgK2 := hgK.symm
 have hgnK2 := hgnK.symm
 have s2 := hR1.c2
 have sz2 := hR1.z2
 have HZ1 := zH ((Below.heap_setCell w1 ⟨g, 2, none⟩ (.bool true) K hgK).trans hZ1)
 have y0 := zAb hZ1 0
 have z0 := zAa hZ1 0
 have y1 := zAb hZ1 1
 have z1 := zAa hZ1 1
 have y2 := zAb hZ1 2
 have z2 := zAa hZ1 2
 have y3 := zAb hZ1 3
 have z3 := zAa hZ1 3
 have y4 := zAb hZ1 4
 have z4 := zAa hZ1 4
 simp only [zC, zA, zB] at y0 y1 y2 y3 y4
 clear hB1 hK1 hR1 hN1 hZ1 hg1 hg2 hg3 eK eV HG
 go_wp2
 obtain ⟨t1, t2, t3, t4, t5⟩ := zCg (w0 := w0) (g := g) (gn := gn) (.int .i64 0) (.string ⟨#[]⟩) (.string ⟨#[]⟩) (.slice none 0 0) (.slice none 0 0) EK.out HZ1.out HW.out (HB1.out.setCell hg _) (HKW.out.set_ 2 (.bool true))
 exact bodyPost_ret (zAt rfl (.cell K 25 _ (0, 0) _ rfl t1 Try.underlying25 rfl (by kernel_rfl) .nil)) rfl (zEo hgK2 hgnK2 t2 t3 t4 (HR1.out.set2 true) ((Below.heap_setCell _ _ _ _ hne2).trans HN1.out))
theorem got141c (w0 w : World) (g gn : Nat) (A : Option Addr) (n c : Nat) (bs : List UInt8) (at_ : Int) (b : Bool) (left d : Nat) (hl0 : left ≤ 64) (hl1 : 0 < left) (hd0 : 0 < d) (hd8 : d ≤ 8) (hq : numW b bs at_ = none) (hn : bs.length = n) (hnl : n ≤ 1000000000000000) (hg : w0.heap.size ≤ g) (hgn : w0.heap.size ≤ gn) (hne : g ≠ gn) (hB : Below w0.heap.size w0 w) (hS : RB w g A n c at_ b) (nz : Int) (hN : NB w gn nz) (hnz : nz = 64 - (left : Int)) (hC0 : (Kd.int .u8).C w0 A bs.length (bys bs)) (dz : Int) (hdz : dz = 9 - (d : Int)) :
  Calls Try.prog 141 #[.pointer (some ⟨g, 0, none⟩), .pointer (some ⟨gn, 0, none⟩), .int .i64 dz] w (zCl w0 w g gn A n c (GotQ b d left bs at_)) := by
 have hQ : GotQ b d left bs at_ = none := by
  unfold GotQ
  split
  ·rfl
  next h =>
  have h1 : ¬ b = true := fun e => h (Or.inl e)
  have h2 : ¬ at_ < 0 := fun e => h (Or.inr e)
  unfold numW getW at hq
  rw [if_neg h1, if_neg h2] at hq
  obtain ⟨l', rfl⟩ : ∃ l', left = l' + 1 := ⟨left - 1, by omega⟩
  obtain ⟨d', rfl⟩ : ∃ d', d = d' + 1 := ⟨d - 1, by omega⟩
  rw [decM, hq]
 rw [hQ]
 clear hQ
 have hgl := hS.lt
 have hgnl := zAp hN
 have hne2 := hne.symm
 obtain ⟨nz1, hnz1⟩ : ∃ nz1, nz + 1 = nz1 := ⟨_, rfl⟩
 have hw1 : wrap64 (nz + 1) = nz1 := by unfold wrap64; omega
 have hN2 : NB (w.alloc (.cells Z5 25)) gn nz := (Below.heap_alloc _ _ _ hgnl).trans hN
 have hS2 : RB (w.alloc (.cells Z5 25)) g A n c at_ b := (Below.heap_alloc _ _ _ hgl).trans hS
 have hS3 : RB ((w.alloc (.cells Z5 25)).setCell ⟨gn, 0, none⟩ (.int .i64 nz1)) g A n c at_ b := (Below.heap_setCell _ _ _ _ hne).trans hS2
 have m0 := zAb hN2 0
 have mz0 := zAa hN2 0
 simp only [zC, zA] at m0
 have r2 := hS2.c2
 have rz2 := hS2.z2
 have t1 : ¬ (64 : Int) < nz1 := by omega
 have t2 : decide ((64 : Int) < nz1) = false := zF t1
 have t3 : ¬ (8 : Int) < dz := by omega
 have t4 : decide ((8 : Int) < dz) = false := zF t3
 obtain ⟨V, eV⟩ : ∃ V, V = (w.alloc (.cells Z5 25)).setCell ⟨gn, 0, none⟩ (.int .i64 nz1) := ⟨_, rfl⟩
 have hBV : Below w0.heap.size w0 V := by rw [eV]; exact (zAc hB _).setCell hgn _
 have hKV : KeepBut w V g (some gn) := by
  rw [eV]
  refine ⟨by simp, fun i hi h1 h2 => ?_⟩
  have h3 : i ≠ gn := fun e => h2 (by rw [e])
  exact (Below.heap_setCell _ _ _ _ h3).trans (Below.heap_alloc _ _ _ hi)
 have hSV : RB V g A n c at_ b := by rw [eV]; exact hS3
 have hNV : NB V gn nz1 := by rw [eV]; exact (zAn hN2 0 _).trans (by rfl)
 have hZV : V.heap[w.heap.size]? = some (.cells Z5 25 (0, 0)) := by rw [eV]; exact (Below.heap_setCell _ _ _ _ (by simp; omega)).trans (zAs w _)
 have hsV : V.heap.size = w.heap.size + 1 := by rw [eV]; simp
 have h1 := zHq w0 V g A n c bs at_ b hq hn hnl hg hBV hSV hC0
 have H1 := zH h1
 have HK := zH hKV
 have HNV := zH hNV
 have HZV := zH hZV
 have HW := zH hB.size
 have HG := zH (And.intro hgl (And.intro hgnl hsV))
 clear hS hS2 hS3 hN hN2 hgl hgnl hBV hKV hSV hNV hZV h1 hC0 hn hdz hnz hsV hB hnz1
 obtain ⟨K, eK⟩ : ∃ K, w.heap.size = K := ⟨_, rfl⟩
 have EK := zH eK.symm
 go_enter Try.func141, Try.ntmps141
 go_wp2_with fail
 rw [← eV]
 refine H1.out.mono ?_
 rintro e w1 ⟨rfl, hB1, hK1, i1, hR1⟩
 obtain ⟨hg1, hg2, hg3⟩ := HG.out
 have hZ1 := (hK1.2 _ (zAp HZV.out) (by omega) (by simp)).trans HZV.out
 rw [eK] at hZ1
 have hN1 : NB w1 gn nz1 := (hK1.2 gn (zAp HNV.out) hne2 (by simp)).trans HNV.out
 have HKW := zH (zAw HK.out (zBf hK1))
 have HB1 := zH hB1
 have HR1 := zH hR1
 have HN1 := zH hN1
 have hgK : K ≠ g := by omega
 have hgnK : K ≠ gn := by omega
 have hgK2 := hgK.symm
 have hgnK2 := hgnK.symm
 have s2 := hR1.c2
 have sz2 := hR1.z2
 have HZ1 := zH ((Below.heap_setCell w1 ⟨g, 2, none⟩ (.bool true) K hgK).trans hZ1)
 have y0 := zAb hZ1 0
 have z0 := zAa hZ1 0
 have y1 := zAb hZ1 1
 have z1 := zAa hZ1 1
 have y2 := zAb hZ1 2
 have z2 := zAa hZ1 2
 have y3 := zAb hZ1 3
 have z3 := zAa hZ1 3
 have y4 := zAb hZ1 4
 have z4 := zAa hZ1 4
 simp only [zC, zA, zB] at y0 y1 y2 y3 y4
 clear hB1 hK1 hR1 hN1 hZ1 hg1 hg2 hg3 eK eV HG
 go_wp2
 obtain ⟨t1, t2, t3, t4, t5⟩ := zCg (w0 := w0) (g := g) (gn := gn) (.int .i64 0) (.string ⟨#[]⟩) (.string ⟨#[]⟩) (.slice none 0 0) (.slice none 0 0) EK.out HZ1.out HW.out (HB1.out.setCell hg _) (HKW.out.set_ 2 (.bool true))
 exact bodyPost_ret (zAt rfl (.cell K 25 _ (0, 0) _ rfl t1 Try.underlying25 rfl (by kernel_rfl) .nil)) rfl (zEo hgK2 hgnK2 t2 t3 t4 (HR1.out.set2 true) ((Below.heap_setCell _ _ _ _ hne2).trans HN1.out))
theorem got141d (w0 w : World) (g gn : Nat) (A : Option Addr) (n c : Nat) (bs : List UInt8) (at_ : Int) (b : Bool) (left d : Nat) (hl0 : left ≤ 64) (hl1 : 0 < left) (hd0 : 0 < d) (hd8 : d ≤ 8) (v : Nat) (r : List UInt8) (hq : getW bs at_ = some (v, r)) (hv : 7 < v) (hn : bs.length = n) (hnl : n ≤ 1000000000000000) (hg : w0.heap.size ≤ g) (hgn : w0.heap.size ≤ gn) (hne : g ≠ gn) (hB : Below w0.heap.size w0 w) (hS : RB w g A n c at_ false) (nz : Int) (hN : NB w gn nz) (hnz : nz = 64 - (left : Int)) (hC0 : (Kd.int .u8).C w0 A bs.length (bys bs)) (dz : Int) (hdz : dz = 9 - (d : Int)) :
  Calls Try.prog 141 #[.pointer (some ⟨g, 0, none⟩), .pointer (some ⟨gn, 0, none⟩), .int .i64 dz] w (zCl w0 w g gn A n c (GotQ false d left bs at_)) := by
 have hQ : GotQ false d left bs at_ = none := by
  unfold GotQ
  split
  ·rfl
  next h =>
  have h2 : ¬ at_ < 0 := fun e => h (Or.inr e)
  unfold getW at hq
  rw [if_neg h2] at hq
  obtain ⟨l', rfl⟩ : ∃ l', left = l' + 1 := ⟨left - 1, by omega⟩
  obtain ⟨d', rfl⟩ : ∃ d', d = d' + 1 := ⟨d - 1, by omega⟩
  rw [decM, hq]
  simp only
  rw [if_neg (by omega), if_neg (by omega), if_neg (by omega), if_neg (by omega), if_neg (by omega)]
 rw [hQ]
 clear hQ
 have hgl := hS.lt
 have hgnl := zAp hN
 have hne2 := hne.symm
 obtain ⟨nz1, hnz1⟩ : ∃ nz1, nz + 1 = nz1 := ⟨_, rfl⟩
 have hw1 : wrap64 (nz + 1) = nz1 := by unfold wrap64; omega
 have hN2 : NB (w.alloc (.cells Z5 25)) gn nz := (Below.heap_alloc _ _ _ hgnl).trans hN
 have hS2 : RB (w.alloc (.cells Z5 25)) g A n c at_ false := (Below.heap_alloc _ _ _ hgl).trans hS
 have hS3 : RB ((w.alloc (.cells Z5 25)).setCell ⟨gn, 0, none⟩ (.int .i64 nz1)) g A n c at_ false := (Below.heap_setCell _ _ _ _ hne).trans hS2
 have m0 := zAb hN2 0
 have mz0 := zAa hN2 0
 simp only [zC, zA] at m0
 have r2 := hS2.c2
 have rz2 := hS2.z2
 have t1 : ¬ (64 : Int) < nz1 := by omega
 have t2 : decide ((64 : Int) < nz1) = false := zF t1
 have t3 : ¬ (8 : Int) < dz := by omega
 have t4 : decide ((8 : Int) < dz) = false := zF t3
 have t5 : (7 : Int) < (v : Int) := by omega
 have t6 : decide ((7 : Int) < (v : Int)) = true := zT t5
 obtain ⟨V, eV⟩ : ∃ V, V = (w.alloc (.cells Z5 25)).setCell ⟨gn, 0, none⟩ (.int .i64 nz1) := ⟨_, rfl⟩
 have hBV : Below w0.heap.size w0 V := by rw [eV]; exact (zAc hB _).setCell hgn _
 have hKV : KeepBut w V g (some gn) := by
  rw [eV]
  refine ⟨by simp, fun i hi h1 h2 => ?_⟩
  have h3 : i ≠ gn := fun e => h2 (by rw [e])
  exact (Below.heap_setCell _ _ _ _ h3).trans (Below.heap_alloc _ _ _ hi)
 have hSV : RB V g A n c at_ false := by rw [eV]; exact hS3
 have hNV : NB V gn nz1 := by rw [eV]; exact (zAn hN2 0 _).trans (by rfl)
 have hZV : V.heap[w.heap.size]? = some (.cells Z5 25 (0, 0)) := by rw [eV]; exact (Below.heap_setCell _ _ _ _ (by simp; omega)).trans (zAs w _)
 have hsV : V.heap.size = w.heap.size + 1 := by rw [eV]; simp
 have h1 := zEd w0 V g A n c bs at_ false v (bs.length - r.length) r (by unfold numW; rw [if_neg (by decide)]; exact hq) (by obtain ⟨h1, h2, h3, h4, h5⟩ := zCk hq; omega) hn hnl hg hBV hSV hC0
 have H1 := zH h1
 have HK := zH hKV
 have HNV := zH hNV
 have HZV := zH hZV
 have HW := zH hB.size
 have HG := zH (And.intro hgl (And.intro hgnl hsV))
 clear hS hS2 hS3 hN hN2 hgl hgnl hBV hKV hSV hNV hZV h1 hC0 hn hdz hnz hsV hB hnz1
 obtain ⟨K, eK⟩ : ∃ K, w.heap.size = K := ⟨_, rfl⟩
 have EK := zH eK.symm
 go_enter Try.func141, Try.ntmps141
 go_wp2_with fail
 rw [← eV]
 refine H1.out.mono ?_
 rintro e w1 ⟨rfl, hB1, hK1, hR1⟩
 obtain ⟨hg1, hg2, hg3⟩ := HG.out
 have hZ1 := (hK1.2 _ (zAp HZV.out) (by omega) (by simp)).trans HZV.out
 rw [eK] at hZ1
 have hN1 : NB w1 gn nz1 := (hK1.2 gn (zAp HNV.out) hne2 (by simp)).trans HNV.out
 have HKW := zH (zAw HK.out (zBf hK1))
 have HB1 := zH hB1
 have HR1 := zH hR1
 have HN1 := zH hN1
 have hgK : K ≠ g := by omega
 have hgnK : K ≠ gn := by omega
 have hgK2 := hgK.symm
 have hgnK2 := hgnK.symm
 have s2 := hR1.c2
 have sz2 := hR1.z2
 have HZ1 := zH ((Below.heap_setCell w1 ⟨g, 2, none⟩ (.bool true) K hgK).trans hZ1)
 have y0 := zAb hZ1 0
 have z0 := zAa hZ1 0
 have y1 := zAb hZ1 1
 have z1 := zAa hZ1 1
 have y2 := zAb hZ1 2
 have z2 := zAa hZ1 2
 have y3 := zAb hZ1 3
 have z3 := zAa hZ1 3
 have y4 := zAb hZ1 4
 have z4 := zAa hZ1 4
 simp only [zC, zA, zB] at y0 y1 y2 y3 y4
 clear hB1 hK1 hR1 hN1 hZ1 hg1 hg2 hg3 eK eV HG
 go_wp2
 obtain ⟨t1, t2, t3, t4, t5⟩ := zCg (w0 := w0) (g := g) (gn := gn) (.int .i64 0) (.string ⟨#[]⟩) (.string ⟨#[]⟩) (.slice none 0 0) (.slice none 0 0) EK.out HZ1.out HW.out (HB1.out.setCell hg _) (HKW.out.set_ 2 (.bool true))
 exact bodyPost_ret (zAt rfl (.cell K 25 _ (0, 0) _ rfl t1 Try.underlying25 rfl (by kernel_rfl) .nil)) rfl (zEo hgK2 hgnK2 t2 t3 t4 (HR1.out.set2 true) ((Below.heap_setCell _ _ _ _ hne2).trans HN1.out))
theorem got141e0 (w0 w : World) (g gn : Nat) (A : Option Addr) (n c : Nat) (bs : List UInt8) (at_ : Int) (left d : Nat) (hl : left ≤ 63) (hd8 : d ≤ 7) (r : List UInt8) (j : Nat) (hnc : n ≤ c) (hj : (n : Int) - (r.length : Nat) = (j : Int)) (hr : bs.drop j = r) (hq0 : getW bs at_ = some (0, r)) (hn : bs.length = n) (hnl : n ≤ 1000000000000000) (hg : w0.heap.size ≤ g) (hgn : w0.heap.size ≤ gn) (hne : g ≠ gn) (hB : Below w0.heap.size w0 w) (hS : RB w g A n c at_ false) (nz : Int) (hN : NB w gn nz) (hnz : nz = 63 - (left : Int)) (hC0 : (Kd.int .u8).C w0 A bs.length (bys bs)) (dz : Int) (hdz : dz = 8 - (d : Int)) :
  Calls Try.prog 141 #[.pointer (some ⟨g, 0, none⟩), .pointer (some ⟨gn, 0, none⟩), .int .i64 dz] w (zCl w0 w g gn A n c (GotQ false (d + 1) (left + 1) bs at_)) := by
 have hQ : GotQ false (d + 1) (left + 1) bs at_ = some (⟨0, ⟨#[]⟩, ⟨#[]⟩, [], []⟩, left, r) := by
  unfold getW at hq0
  unfold GotQ
  split
  ·next h =>
   rcases h with h | h
   ·cases h
   rw [if_pos h] at hq0; cases hq0
  next h =>
  have hi : ¬ at_ < 0 := fun e => h (Or.inr e)
  rw [if_neg hi] at hq0
  rw [decM, hq0]
  simp only
  rw [if_pos trivial]
 obtain ⟨Q, eQ⟩ : ∃ Q, GotQ false (d + 1) (left + 1) bs at_ = Q := ⟨_, rfl⟩
 rw [eQ]
 have HQ := zH (eQ.symm.trans hQ)
 have HN := zH hn
 have HC0 := zH hC0
 have HR := zH hr
 have hgl := hS.lt
 have hgnl := zAp hN
 have hne2 := hne.symm
 obtain ⟨nz1, hnz1⟩ : ∃ nz1, nz + 1 = nz1 := ⟨_, rfl⟩
 have hw1 : wrap64 (nz + 1) = nz1 := by unfold wrap64; omega
 have hN2 : NB (w.alloc (.cells Z5 25)) gn nz := (Below.heap_alloc _ _ _ hgnl).trans hN
 have hS2 : RB (w.alloc (.cells Z5 25)) g A n c at_ false := (Below.heap_alloc _ _ _ hgl).trans hS
 have hS3 : RB ((w.alloc (.cells Z5 25)).setCell ⟨gn, 0, none⟩ (.int .i64 nz1)) g A n c at_ false := (Below.heap_setCell _ _ _ _ hne).trans hS2
 have m0 := zAb hN2 0
 have mz0 := zAa hN2 0
 simp only [zC, zA] at m0
 have t1 : ¬ (64 : Int) < nz1 := by omega
 have t2 : decide ((64 : Int) < nz1) = false := zF t1
 have t3 : ¬ (8 : Int) < dz := by omega
 have t4 : decide ((8 : Int) < dz) = false := zF t3
 obtain ⟨V, eV⟩ : ∃ V, V = (w.alloc (.cells Z5 25)).setCell ⟨gn, 0, none⟩ (.int .i64 nz1) := ⟨_, rfl⟩
 have hBV : Below w0.heap.size w0 V := by rw [eV]; exact (zAc hB _).setCell hgn _
 have hKV : KeepBut w V g (some gn) := by
  rw [eV]
  refine ⟨by simp, fun i hi h1 h2 => ?_⟩
  have h3 : i ≠ gn := fun e => h2 (by rw [e])
  exact (Below.heap_setCell _ _ _ _ h3).trans (Below.heap_alloc _ _ _ hi)
 have hSV : RB V g A n c at_ false := by rw [eV]; exact hS3
 have hNV : NB V gn nz1 := by rw [eV]; exact (zAn hN2 0 _).trans (by rfl)
 have hZV : V.heap[w.heap.size]? = some (.cells Z5 25 (0, 0)) := by rw [eV]; exact (Below.heap_setCell _ _ _ _ (by simp; omega)).trans (zAs w _)
 have hsV : V.heap.size = w.heap.size + 1 := by rw [eV]; simp
 have h1 := zEd w0 V g A n c bs at_ false 0 j r (by unfold numW; rw [if_neg (by decide)]; exact hq0) hj hn hnl hg hBV hSV hC0
 have H1 := zH h1
 have HK := zH hKV
 have HNV := zH hNV
 have HZV := zH hZV
 have HW := zH hB.size
 have HG := zH (And.intro hgl (And.intro hgnl hsV))
 have HNZ := zH (show nz1 = 64 - (left : Int) by omega)
 have HDZ := zH hdz
 clear hQ hq0 eQ hr hS hS2 hS3 hN hN2 hgl hgnl hBV hKV hSV hNV hZV h1 hC0 hn hdz hnz hsV hB hnz1
 obtain ⟨K, eK⟩ : ∃ K, w.heap.size = K := ⟨_, rfl⟩
 have EK := zH eK.symm
 go_enter Try.func141, Try.ntmps141
 go_wp2_with fail
 rw [← eV]
 refine H1.out.mono ?_
 rintro e w1 ⟨rfl, hB1, hK1, hR1⟩
 obtain ⟨hg1, hg2, hg3⟩ := HG.out
 have hZ1 := (hK1.2 _ (zAp HZV.out) (by omega) (by simp)).trans HZV.out
 rw [eK] at hZ1
 have hN1 : NB w1 gn nz1 := (hK1.2 gn (zAp HNV.out) hne2 (by simp)).trans HNV.out
 have hs1 := hK1.1
 have s2 := hR1.c2
 have hKl := zAp hZ1
 obtain ⟨W, eW⟩ : ∃ W, W = w1.alloc (.cells #[.int .i64 0, .string ⟨#[]⟩, .string ⟨#[]⟩, .slice none 0 0, .slice none 0 0] 25) := ⟨_, rfl⟩
 obtain ⟨G, eG⟩ : ∃ G, w1.heap.size = G := ⟨_, rfl⟩
 have b5 : W.heap[G]? = some (.cells #[.int .i64 0, .string ⟨#[]⟩, .string ⟨#[]⟩, .slice none 0 0, .slice none 0 0] 25 (0, 0)) := by rw [eW, ← eG]; exact zAs w1 _
 have b4 : W.heap[K]? = some (.cells Z5 25 (0, 0)) := by rw [eW]; exact (Below.heap_alloc _ _ _ hKl).trans hZ1
 have hBW : Below w0.heap.size w0 W := by rw [eW]; exact zAc hB1 _
 have hKW : KeepBut w W g (some gn) := by rw [eW]; exact zAw HK.out (zAw (zBf hK1) (zBf (KeepBut.of_below (zAc (Below.refl w1.heap.size w1) _) g none)))
 have hRW : RB W g A n c (j : Int) false := by rw [eW]; exact (Below.heap_alloc _ _ _ hR1.lt).trans hR1
 have hNW : NB W gn nz1 := by rw [eW]; exact (Below.heap_alloc _ _ _ (zAp hN1)).trans hN1
 have HGW := zH (show g < K ∧ gn < K ∧ K < G ∧ W.heap.size = G + 1 from ⟨by omega, by omega, by omega, by rw [eW, World.size_alloc, eG]⟩)
 have HGK := zH (show w0.heap.size ≤ G by have := HW.out; omega)
 clear eK hB1 hK1 hR1 hN1 hZ1 hKl hs1 eV H1 HK HZV HNV HG hg1 hg2 hg3
 have HKW := zH hKW
 have HBW := zH hBW
 have HRW := zH hRW
 have HNW := zH hNW
 have B4 := zH b4
 have y0 := zAb b5 0
 have z0 := zAa b5 0
 have y1 := zAb b5 1
 have z1 := zAa b5 1
 have y2 := zAb b5 2
 have z2 := zAa b5 2
 have y3 := zAb b5 3
 have z3 := zAa b5 3
 have y4 := zAb b5 4
 have z4 := zAa b5 4
 simp only [zC, zA, zB] at y0 y1 y2 y3 y4
 have yK0 := zAb b4 0
 have zK0 := zAa b4 0
 have yK1 := zAb b4 1
 have zK1 := zAa b4 1
 have yK2 := zAb b4 2
 have zK2 := zAa b4 2
 have yK3 := zAb b4 3
 have zK3 := zAa b4 3
 have yK4 := zAb b4 4
 have zK4 := zAa b4 4
 simp only [zC, zA, zB] at yK0 yK1 yK2 yK3 yK4
 obtain ⟨hg1, hg2, hg3, hg4⟩ := HGW.out
 have hGK : G ≠ K := by omega
 have hKG : K ≠ G := by omega
 clear hKW hBW hRW hNW b4 b5 hg1 hg2 hg3 hg4
 subst eW
 go_wp2
 obtain ⟨hg1, hg2, hg3, hg4⟩ := HGW.out
 obtain ⟨t1, t2, t3, t4, t5⟩ := zCg (w0 := w0) (g := g) (gn := gn) (.int .i64 0) (.string ⟨#[]⟩) (.string ⟨#[]⟩) (.slice none 0 0) (.slice none 0 0) EK.out B4.out HW.out HBW.out HKW.out
 rw [HQ.out]
 refine bodyPost_ret (zAt rfl (.cell K 25 _ (0, 0) _ rfl t1 Try.underlying25 rfl (by kernel_rfl) .nil)) rfl ?_
 exact (zEu (m := ⟨0, ⟨#[]⟩, ⟨#[]⟩, [], []⟩) EK.out (by omega) (by omega) t2 t3 t4 t5 (fun X _ => ⟨Nat.le_refl _, Kd.C_nil _ _, Nat.le_refl _, Kd.C_nil _ _⟩) (by rw [hj]; exact HRW.out) (by rw [← HNZ.out]; exact HNW.out))
theorem got141e1 (w0 w : World) (g gn : Nat) (A : Option Addr) (n c : Nat) (bs : List UInt8) (at_ : Int) (left d : Nat) (hl : left ≤ 63) (hd8 : d ≤ 7) (r : List UInt8) (j : Nat) (hnc : n ≤ c) (hj : (n : Int) - (r.length : Nat) = (j : Int)) (hr : bs.drop j = r) (hq0 : getW bs at_ = some (1, r)) (hn : bs.length = n) (hnl : n ≤ 1000000000000000) (hg : w0.heap.size ≤ g) (hgn : w0.heap.size ≤ gn) (hne : g ≠ gn) (hB : Below w0.heap.size w0 w) (hS : RB w g A n c at_ false) (nz : Int) (hN : NB w gn nz) (hnz : nz = 63 - (left : Int)) (hC0 : (Kd.int .u8).C w0 A bs.length (bys bs)) (dz : Int) (hdz : dz = 8 - (d : Int)) :
  Calls Try.prog 141 #[.pointer (some ⟨g, 0, none⟩), .pointer (some ⟨gn, 0, none⟩), .int .i64 dz] w (zCl w0 w g gn A n c (GotQ false (d + 1) (left + 1) bs at_)) := by
 have hQ : GotQ false (d + 1) (left + 1) bs at_ = (match decT 32 r with
    | none => none
    | some (nm, r2) => match decT 64 r2 with
     | none => none
     | some (v, r3) => some ((⟨1, ⟨nm.toArray⟩, ⟨v.toArray⟩, [], []⟩ : S25), left, r3)) := by
  unfold getW at hq0
  unfold GotQ
  split
  ·next h =>
   rcases h with h | h
   ·cases h
   ·rw [if_pos h] at hq0; cases hq0
  ·next h =>
   have hi : ¬ at_ < 0 := fun e => h (Or.inr e)
   rw [if_neg hi] at hq0
   rw [decM, hq0]
   simp only
   rw [if_neg (by decide), if_pos (by decide)]
   all_goals
    cases decT 32 r with
    | none => rfl
    | some q =>
     simp only
     cases decT 64 q.2 <;> rfl
 obtain ⟨Q, eQ⟩ : ∃ Q, GotQ false (d + 1) (left + 1) bs at_ = Q := ⟨_, rfl⟩
 rw [eQ]
 have HQ := zH (eQ.symm.trans hQ)
 have HN := zH hn
 have HC0 := zH hC0
 have HR := zH hr
 have hgl := hS.lt
 have hgnl := zAp hN
 have hne2 := hne.symm
 obtain ⟨nz1, hnz1⟩ : ∃ nz1, nz + 1 = nz1 := ⟨_, rfl⟩
 have hw1 : wrap64 (nz + 1) = nz1 := by unfold wrap64; omega
 have hN2 : NB (w.alloc (.cells Z5 25)) gn nz := (Below.heap_alloc _ _ _ hgnl).trans hN
 have hS2 : RB (w.alloc (.cells Z5 25)) g A n c at_ false := (Below.heap_alloc _ _ _ hgl).trans hS
 have hS3 : RB ((w.alloc (.cells Z5 25)).setCell ⟨gn, 0, none⟩ (.int .i64 nz1)) g A n c at_ false := (Below.heap_setCell _ _ _ _ hne).trans hS2
 have m0 := zAb hN2 0
 have mz0 := zAa hN2 0
 simp only [zC, zA] at m0
 have t1 : ¬ (64 : Int) < nz1 := by omega
 have t2 : decide ((64 : Int) < nz1) = false := zF t1
 have t3 : ¬ (8 : Int) < dz := by omega
 have t4 : decide ((8 : Int) < dz) = false := zF t3
 obtain ⟨V, eV⟩ : ∃ V, V = (w.alloc (.cells Z5 25)).setCell ⟨gn, 0, none⟩ (.int .i64 nz1) := ⟨_, rfl⟩
 have hBV : Below w0.heap.size w0 V := by rw [eV]; exact (zAc hB _).setCell hgn _
 have hKV : KeepBut w V g (some gn) := by
  rw [eV]
  refine ⟨by simp, fun i hi h1 h2 => ?_⟩
  have h3 : i ≠ gn := fun e => h2 (by rw [e])
  exact (Below.heap_setCell _ _ _ _ h3).trans (Below.heap_alloc _ _ _ hi)
 have hSV : RB V g A n c at_ false := by rw [eV]; exact hS3
 have hNV : NB V gn nz1 := by rw [eV]; exact (zAn hN2 0 _).trans (by rfl)
 have hZV : V.heap[w.heap.size]? = some (.cells Z5 25 (0, 0)) := by rw [eV]; exact (Below.heap_setCell _ _ _ _ (by simp; omega)).trans (zAs w _)
 have hsV : V.heap.size = w.heap.size + 1 := by rw [eV]; simp
 have h1 := zEd w0 V g A n c bs at_ false 1 j r (by unfold numW; rw [if_neg (by decide)]; exact hq0) hj hn hnl hg hBV hSV hC0
 have H1 := zH h1
 have HK := zH hKV
 have HNV := zH hNV
 have HZV := zH hZV
 have HW := zH hB.size
 have HG := zH (And.intro hgl (And.intro hgnl hsV))
 have HNZ := zH (show nz1 = 64 - (left : Int) by omega)
 have HDZ := zH hdz
 clear hQ hq0 eQ hr hS hS2 hS3 hN hN2 hgl hgnl hBV hKV hSV hNV hZV h1 hC0 hn hdz hnz hsV hB hnz1
 obtain ⟨K, eK⟩ : ∃ K, w.heap.size = K := ⟨_, rfl⟩
 have EK := zH eK.symm
 go_enter Try.func141, Try.ntmps141
 go_wp2_with fail
 rw [← eV]
 refine H1.out.mono ?_
 rintro e w1 ⟨rfl, hB1, hK1, hR1⟩
 obtain ⟨hg1, hg2, hg3⟩ := HG.out
 have hZ1 := (hK1.2 _ (zAp HZV.out) (by omega) (by simp)).trans HZV.out
 rw [eK] at hZ1
 have hN1 : NB w1 gn nz1 := (hK1.2 gn (zAp HNV.out) hne2 (by simp)).trans HNV.out
 have hs1 := hK1.1
 have s2 := hR1.c2
 have hKl := zAp hZ1
 obtain ⟨W, eW⟩ : ∃ W, W = w1.alloc (.cells #[.int .i64 1, .string ⟨#[]⟩, .string ⟨#[]⟩, .slice none 0 0, .slice none 0 0] 25) := ⟨_, rfl⟩
 obtain ⟨G, eG⟩ : ∃ G, w1.heap.size = G := ⟨_, rfl⟩
 have b5 : W.heap[G]? = some (.cells #[.int .i64 1, .string ⟨#[]⟩, .string ⟨#[]⟩, .slice none 0 0, .slice none 0 0] 25 (0, 0)) := by rw [eW, ← eG]; exact zAs w1 _
 have b4 : W.heap[K]? = some (.cells Z5 25 (0, 0)) := by rw [eW]; exact (Below.heap_alloc _ _ _ hKl).trans hZ1
 have hBW : Below w0.heap.size w0 W := by rw [eW]; exact zAc hB1 _
 have hKW : KeepBut w W g (some gn) := by rw [eW]; exact zAw HK.out (zAw (zBf hK1) (zBf (KeepBut.of_below (zAc (Below.refl w1.heap.size w1) _) g none)))
 have hRW : RB W g A n c (j : Int) false := by rw [eW]; exact (Below.heap_alloc _ _ _ hR1.lt).trans hR1
 have hNW : NB W gn nz1 := by rw [eW]; exact (Below.heap_alloc _ _ _ (zAp hN1)).trans hN1
 have HGW := zH (show g < K ∧ gn < K ∧ K < G ∧ W.heap.size = G + 1 from ⟨by omega, by omega, by omega, by rw [eW, World.size_alloc, eG]⟩)
 have HGK := zH (show w0.heap.size ≤ G by have := HW.out; omega)
 clear eK hB1 hK1 hR1 hN1 hZ1 hKl hs1 eV H1 HK HZV HNV HG hg1 hg2 hg3
 have h2 := zFw w0 W g A n c bs (j : Int) false 32 32 rfl (by decide) HN.out hnc hnl hg hBW hRW HC0.out
 have H2 := zH h2
 have HB5 := zH b5
 have HB4 := zH b4
 have HKW := zH hKW
 have HNW := zH hNW
 have HRr := zH (show j ≤ n by omega)
 have HJ := zH hj
 clear b5 b4 hKW hBW hRW hNW hj h2
 go_wp2_with fail
 rw [← eW]
 refine H2.out.mono ?_
 rintro e w3 ⟨x1, i1, bb1, rfl, hB3, hK3, hR3, HT1⟩
 obtain ⟨hg1, hg2, hg3, hg4⟩ := HGW.out
 have c5 := (hK3.2 G (by omega) (by omega) (by simp)).trans HB5.out
 have c4 := (hK3.2 K (by omega) (by omega) (by simp)).trans HB4.out
 have cn : NB w3 gn nz1 := (hK3.2 gn (by omega) hne2 (by simp)).trans HNW.out
 have hs3 := hK3.1
 obtain ⟨W3, eW3⟩ : ∃ W3, W3 = w3.setCell ⟨G, 1, none⟩ (.string x1) := ⟨_, rfl⟩
 have hB3' : Below w0.heap.size w0 W3 := by rw [eW3]; exact hB3.setCell HGK.out _
 have hR3' : RB W3 g A n c i1 bb1 := by rw [eW3]; exact (Below.heap_setCell _ _ _ _ (show g ≠ G by omega)).trans hR3
 have hN3' : NB W3 gn nz1 := by rw [eW3]; exact (Below.heap_setCell _ _ _ _ (show gn ≠ G by omega)).trans cn
 have e5 : W3.heap[G]? = some (.cells #[.int .i64 1, .string x1, .string ⟨#[]⟩, .slice none 0 0, .slice none 0 0] 25 (0, 0)) := by rw [eW3]; exact (zAn c5 1 _).trans (by rfl)
 have e4 : W3.heap[K]? = some (.cells Z5 25 (0, 0)) := by rw [eW3]; exact (Below.heap_setCell _ _ _ _ (show K ≠ G by omega)).trans c4
 have hK3' : KeepBut w W3 g (some gn) := ⟨by rw [eW3]; have := (zAw HKW.out (zBf hK3)).1; simpa using this, fun i hi h1 h2 => by
  rw [eW3]
  exact (Below.heap_setCell _ _ _ _ (show i ≠ G by have := EK.out; omega)).trans ((zAw HKW.out (zBf hK3)).2 i hi h1 h2)⟩
 have hs3' : W3.heap.size = w3.heap.size := by rw [eW3]; simp
 have h3 := zFw w0 W3 g A n c bs i1 bb1 64 64 rfl (by decide) HN.out hnc hnl hg hB3' hR3' HC0.out
 have H3 := zH h3
 have E5 := zH e5
 have E4 := zH e4
 have HK3 := zH hK3'
 have HN3 := zH hN3'
 have HX3 := zH (And.intro hg1 (And.intro hg2 (And.intro hg3 (show G < W3.heap.size by omega))))
 have y1 := zAb c5 1
 have z1 := zAa c5 1
 simp only [zC, zA, zB] at y1
 clear h3 e5 e4 hK3' hN3' hB3' hR3' hs3' hs3 c4 c5 cn hB3 hK3 hR3 hg1 hg2 hg3 hg4 H2 HB5 HB4 HKW HNW HGW eG eW
 go_wp2_with fail
 rw [← eW3]
 refine H3.out.mono ?_
 rintro e w4 ⟨x2, i2, bb2, rfl, hB4, hK4, hR4, HT2⟩
 obtain ⟨hg1, hg2, hg3, hg4⟩ := HX3.out
 have d5 := (hK4.2 G (by omega) (by omega) (by simp)).trans E5.out
 have d4 := (hK4.2 K (by omega) (by omega) (by simp)).trans E4.out
 have dn : NB w4 gn nz1 := (hK4.2 gn (by omega) hne2 (by simp)).trans HN3.out
 have HB4 := zH hB4
 have HK4 := zH (zAw HK3.out (zBf hK4))
 have HR4 := zH hR4
 have D4 := zH d4
 have DN := zH dn
 have y0 := zAb d5 0
 have z0 := zAa d5 0
 have y1 := zAb d5 1
 have z1 := zAa d5 1
 have y2 := zAb d5 2
 have z2 := zAa d5 2
 have y3 := zAb d5 3
 have z3 := zAa d5 3
 have y4 := zAb d5 4
 have z4 := zAa d5 4
 simp only [zC, zA, zB] at y0 y1 y2 y3 y4
 have yK0 := zAb d4 0
 have zK0 := zAa d4 0
 have yK1 := zAb d4 1
 have zK1 := zAa d4 1
 have yK2 := zAb d4 2
 have zK2 := zAa d4 2
 have yK3 := zAb d4 3
 have zK3 := zAa d4 3
 have yK4 := zAb d4 4
 have zK4 := zAa d4 4
 simp only [zC, zA, zB] at yK0 yK1 yK2 yK3 yK4
 have hGK : G ≠ K := by omega
 have hKG : K ≠ G := by omega
 clear d5 d4 dn hB4 hK4 hR4 hg1 hg2 hg3 hg4 H3 E4 E5 eW3
 go_wp2
 obtain ⟨hg1, hg2, hg3, hg4⟩ := HX3.out
 have far : ∀ i, i ≠ G → (((w4.setCell ⟨G, 2, none⟩ (.string x2))).heap[i]? = w4.heap[i]?) := fun i hi => Below.heap_setCell _ _ _ _ hi
 have hBX : Below w0.heap.size w0 (w4.setCell ⟨G, 2, none⟩ (.string x2)) := HB4.out.setCell HGK.out _
 have hKX : KeepBut w (w4.setCell ⟨G, 2, none⟩ (.string x2)) g (some gn) := ⟨by have := HK4.out.1; simpa using this, fun i hi h1 h2 => (far i (by have := EK.out; omega)).trans (HK4.out.2 i hi h1 h2)⟩
 have hRX : RB (w4.setCell ⟨G, 2, none⟩ (.string x2)) g A n c i2 bb2 := (far g (by omega)).trans HR4.out
 have hNX : NB (w4.setCell ⟨G, 2, none⟩ (.string x2)) gn nz1 := (far gn (by omega)).trans DN.out
 obtain ⟨t1, t2, t3, t4, t5⟩ := zCg (w0 := w0) (g := g) (gn := gn) (.int .i64 1) (.string x1) (.string x2) (.slice none 0 0) (.slice none 0 0) EK.out ((far K hKG).trans D4.out) HW.out hBX hKX
 refine bodyPost_ret (zAt rfl (.cell K 25 _ (0, 0) _ rfl t1 Try.underlying25 rfl (by kernel_rfl) .nil)) rfl ?_
 have hfail : Q = none → bb2 = true → zCl w0 w g gn A n c Q (.returned (.agg #[.int .i64 1, .string x1, .string x2, .slice none 0 0, .slice none 0 0])) (((((((w4.setCell ⟨G, 2, none⟩ (.string x2))).setCell ⟨K, 0, none⟩ (.int .i64 1)).setCell ⟨K, 1, none⟩ (.string x1)).setCell ⟨K, 2, none⟩ (.string x2)).setCell ⟨K, 3, none⟩ (.slice none 0 0)).setCell ⟨K, 4, none⟩ (.slice none 0 0)) := fun h1 h2 => by
  rw [h2] at hRX
  rw [h1]
  exact zEo (by omega) (by omega) t2 t3 t4 hRX hNX
 rcases HT1.out with ⟨h1, h1b⟩ | ⟨t, r2, h1, h1x, h1i, h1b⟩
 ·rw [zBx HR.out] at h1
  subst h1b
  rcases HT2.out with ⟨-, h2b⟩ | ⟨t', r', h2, -⟩
  ·exact hfail (by rw [HQ.out, h1]) h2b
  rw [zHl] at h2; cases h2
 rw [zBx HR.out] at h1
 subst h1b
 obtain ⟨j2, hj2, hj2n, hj2I, hr2, -⟩ := zDp HN.out HRr.out (by rw [HR.out]; exact h1)
 rcases HT2.out with ⟨h2, h2b⟩ | ⟨t', r3, h2, h2x, h2i, h2b⟩
 ·rw [h1i, hj2I, zBx hr2] at h2
  exact hfail (by rw [HQ.out, h1]; simp only [h2]) h2b
 rw [h1i, hj2I, zBx hr2] at h2
 have hQ : Q = some (⟨1, x1, x2, [], []⟩, left, r3) := by rw [HQ.out, h1]; simp only [h2, h1x, h2x]
 rw [hQ]
 rw [h2b, h2i] at hRX
 exact zEu (m := ⟨1, x1, x2, [], []⟩) EK.out (by omega) (by omega) t2 t3 t4 t5 (fun X _ => ⟨Nat.le_refl _, Kd.C_nil _ _, Nat.le_refl _, Kd.C_nil _ _⟩) hRX (by rw [← HNZ.out]; exact hNX)
theorem got141e2 (w0 w : World) (g gn : Nat) (A : Option Addr) (n c : Nat) (bs : List UInt8) (at_ : Int) (left d : Nat) (hl : left ≤ 63) (hd8 : d ≤ 7) (r : List UInt8) (j : Nat) (hnc : n ≤ c) (hj : (n : Int) - (r.length : Nat) = (j : Int)) (hr : bs.drop j = r) (hq0 : getW bs at_ = some (2, r)) (hn : bs.length = n) (hnl : n ≤ 1000000000000000) (hg : w0.heap.size ≤ g) (hgn : w0.heap.size ≤ gn) (hne : g ≠ gn) (hB : Below w0.heap.size w0 w) (hS : RB w g A n c at_ false) (nz : Int) (hN : NB w gn nz) (hnz : nz = 63 - (left : Int)) (hC0 : (Kd.int .u8).C w0 A bs.length (bys bs)) (dz : Int) (hdz : dz = 8 - (d : Int)) :
  Calls Try.prog 141 #[.pointer (some ⟨g, 0, none⟩), .pointer (some ⟨gn, 0, none⟩), .int .i64 dz] w (zCl w0 w g gn A n c (GotQ false (d + 1) (left + 1) bs at_)) := by
 have hQ : GotQ false (d + 1) (left + 1) bs at_ = (match decT 32 r with
    | none => none
    | some (nm, r2) => match decT 64 r2 with
     | none => none
     | some (v, r3) => some ((⟨2, ⟨nm.toArray⟩, ⟨v.toArray⟩, [], []⟩ : S25), left, r3)) := by
  unfold getW at hq0
  unfold GotQ
  split
  ·next h =>
   rcases h with h | h
   ·cases h
   ·rw [if_pos h] at hq0; cases hq0
  ·next h =>
   have hi : ¬ at_ < 0 := fun e => h (Or.inr e)
   rw [if_neg hi] at hq0
   rw [decM, hq0]
   simp only
   rw [if_neg (by decide), if_pos (by decide)]
   all_goals
    cases decT 32 r with
    | none => rfl
    | some q =>
     simp only
     cases decT 64 q.2 <;> rfl
 obtain ⟨Q, eQ⟩ : ∃ Q, GotQ false (d + 1) (left + 1) bs at_ = Q := ⟨_, rfl⟩
 rw [eQ]
 have HQ := zH (eQ.symm.trans hQ)
 have HN := zH hn
 have HC0 := zH hC0
 have HR := zH hr
 have hgl := hS.lt
 have hgnl := zAp hN
 have hne2 := hne.symm
 obtain ⟨nz1, hnz1⟩ : ∃ nz1, nz + 1 = nz1 := ⟨_, rfl⟩
 have hw1 : wrap64 (nz + 1) = nz1 := by unfold wrap64; omega
 have hN2 : NB (w.alloc (.cells Z5 25)) gn nz := (Below.heap_alloc _ _ _ hgnl).trans hN
 have hS2 : RB (w.alloc (.cells Z5 25)) g A n c at_ false := (Below.heap_alloc _ _ _ hgl).trans hS
 have hS3 : RB ((w.alloc (.cells Z5 25)).setCell ⟨gn, 0, none⟩ (.int .i64 nz1)) g A n c at_ false := (Below.heap_setCell _ _ _ _ hne).trans hS2
 have m0 := zAb hN2 0
 have mz0 := zAa hN2 0
 simp only [zC, zA] at m0
 have t1 : ¬ (64 : Int) < nz1 := by omega
 have t2 : decide ((64 : Int) < nz1) = false := zF t1
 have t3 : ¬ (8 : Int) < dz := by omega
 have t4 : decide ((8 : Int) < dz) = false := zF t3
 obtain ⟨V, eV⟩ : ∃ V, V = (w.alloc (.cells Z5 25)).setCell ⟨gn, 0, none⟩ (.int .i64 nz1) := ⟨_, rfl⟩
 have hBV : Below w0.heap.size w0 V := by rw [eV]; exact (zAc hB _).setCell hgn _
 have hKV : KeepBut w V g (some gn) := by
  rw [eV]
  refine ⟨by simp, fun i hi h1 h2 => ?_⟩
  have h3 : i ≠ gn := fun e => h2 (by rw [e])
  exact (Below.heap_setCell _ _ _ _ h3).trans (Below.heap_alloc _ _ _ hi)
 have hSV : RB V g A n c at_ false := by rw [eV]; exact hS3
 have hNV : NB V gn nz1 := by rw [eV]; exact (zAn hN2 0 _).trans (by rfl)
 have hZV : V.heap[w.heap.size]? = some (.cells Z5 25 (0, 0)) := by rw [eV]; exact (Below.heap_setCell _ _ _ _ (by simp; omega)).trans (zAs w _)
 have hsV : V.heap.size = w.heap.size + 1 := by rw [eV]; simp
 have h1 := zEd w0 V g A n c bs at_ false 2 j r (by unfold numW; rw [if_neg (by decide)]; exact hq0) hj hn hnl hg hBV hSV hC0
 have H1 := zH h1
 have HK := zH hKV
 have HNV := zH hNV
 have HZV := zH hZV
 have HW := zH hB.size
 have HG := zH (And.intro hgl (And.intro hgnl hsV))
 have HNZ := zH (show nz1 = 64 - (left : Int) by omega)
 have HDZ := zH hdz
 clear hQ hq0 eQ hr hS hS2 hS3 hN hN2 hgl hgnl hBV hKV hSV hNV hZV h1 hC0 hn hdz hnz hsV hB hnz1
 obtain ⟨K, eK⟩ : ∃ K, w.heap.size = K := ⟨_, rfl⟩
 have EK := zH eK.symm
 go_enter Try.func141, Try.ntmps141
 go_wp2_with fail
 rw [← eV]
 refine H1.out.mono ?_
 rintro e w1 ⟨rfl, hB1, hK1, hR1⟩
 obtain ⟨hg1, hg2, hg3⟩ := HG.out
 have hZ1 := (hK1.2 _ (zAp HZV.out) (by omega) (by simp)).trans HZV.out
 rw [eK] at hZ1
 have hN1 : NB w1 gn nz1 := (hK1.2 gn (zAp HNV.out) hne2 (by simp)).trans HNV.out
 have hs1 := hK1.1
 have s2 := hR1.c2
 have hKl := zAp hZ1
 obtain ⟨W, eW⟩ : ∃ W, W = w1.alloc (.cells #[.int .i64 2, .string ⟨#[]⟩, .string ⟨#[]⟩, .slice none 0 0, .slice none 0 0] 25) := ⟨_, rfl⟩
 obtain ⟨G, eG⟩ : ∃ G, w1.heap.size = G := ⟨_, rfl⟩
 have b5 : W.heap[G]? = some (.cells #[.int .i64 2, .string ⟨#[]⟩, .string ⟨#[]⟩, .slice none 0 0, .slice none 0 0] 25 (0, 0)) := by rw [eW, ← eG]; exact zAs w1 _
 have b4 : W.heap[K]? = some (.cells Z5 25 (0, 0)) := by rw [eW]; exact (Below.heap_alloc _ _ _ hKl).trans hZ1
 have hBW : Below w0.heap.size w0 W := by rw [eW]; exact zAc hB1 _
 have hKW : KeepBut w W g (some gn) := by rw [eW]; exact zAw HK.out (zAw (zBf hK1) (zBf (KeepBut.of_below (zAc (Below.refl w1.heap.size w1) _) g none)))
 have hRW : RB W g A n c (j : Int) false := by rw [eW]; exact (Below.heap_alloc _ _ _ hR1.lt).trans hR1
 have hNW : NB W gn nz1 := by rw [eW]; exact (Below.heap_alloc _ _ _ (zAp hN1)).trans hN1
 have HGW := zH (show g < K ∧ gn < K ∧ K < G ∧ W.heap.size = G + 1 from ⟨by omega, by omega, by omega, by rw [eW, World.size_alloc, eG]⟩)
 have HGK := zH (show w0.heap.size ≤ G by have := HW.out; omega)
 clear eK hB1 hK1 hR1 hN1 hZ1 hKl hs1 eV H1 HK HZV HNV HG hg1 hg2 hg3
 have h2 := zFw w0 W g A n c bs (j : Int) false 32 32 rfl (by decide) HN.out hnc hnl hg hBW hRW HC0.out
 have H2 := zH h2
 have HB5 := zH b5
 have HB4 := zH b4
 have HKW := zH hKW
 have HNW := zH hNW
 have HRr := zH (show j ≤ n by omega)
 have HJ := zH hj
 clear b5 b4 hKW hBW hRW hNW hj h2
 go_wp2_with fail
 rw [← eW]
 refine H2.out.mono ?_
 rintro e w3 ⟨x1, i1, bb1, rfl, hB3, hK3, hR3, HT1⟩
 obtain ⟨hg1, hg2, hg3, hg4⟩ := HGW.out
 have c5 := (hK3.2 G (by omega) (by omega) (by simp)).trans HB5.out
 have c4 := (hK3.2 K (by omega) (by omega) (by simp)).trans HB4.out
 have cn : NB w3 gn nz1 := (hK3.2 gn (by omega) hne2 (by simp)).trans HNW.out
 have hs3 := hK3.1
 obtain ⟨W3, eW3⟩ : ∃ W3, W3 = w3.setCell ⟨G, 1, none⟩ (.string x1) := ⟨_, rfl⟩
 have hB3' : Below w0.heap.size w0 W3 := by rw [eW3]; exact hB3.setCell HGK.out _
 have hR3' : RB W3 g A n c i1 bb1 := by rw [eW3]; exact (Below.heap_setCell _ _ _ _ (show g ≠ G by omega)).trans hR3
 have hN3' : NB W3 gn nz1 := by rw [eW3]; exact (Below.heap_setCell _ _ _ _ (show gn ≠ G by omega)).trans cn
 have e5 : W3.heap[G]? = some (.cells #[.int .i64 2, .string x1, .string ⟨#[]⟩, .slice none 0 0, .slice none 0 0] 25 (0, 0)) := by rw [eW3]; exact (zAn c5 1 _).trans (by rfl)
 have e4 : W3.heap[K]? = some (.cells Z5 25 (0, 0)) := by rw [eW3]; exact (Below.heap_setCell _ _ _ _ (show K ≠ G by omega)).trans c4
 have hK3' : KeepBut w W3 g (some gn) := ⟨by rw [eW3]; have := (zAw HKW.out (zBf hK3)).1; simpa using this, fun i hi h1 h2 => by
  rw [eW3]
  exact (Below.heap_setCell _ _ _ _ (show i ≠ G by have := EK.out; omega)).trans ((zAw HKW.out (zBf hK3)).2 i hi h1 h2)⟩
 have hs3' : W3.heap.size = w3.heap.size := by rw [eW3]; simp
 have h3 := zFw w0 W3 g A n c bs i1 bb1 64 64 rfl (by decide) HN.out hnc hnl hg hB3' hR3' HC0.out
 have H3 := zH h3
 have E5 := zH e5
 have E4 := zH e4
 have HK3 := zH hK3'
 have HN3 := zH hN3'
 have HX3 := zH (And.intro hg1 (And.intro hg2 (And.intro hg3 (show G < W3.heap.size by omega))))
 have y1 := zAb c5 1
 have z1 := zAa c5 1
 simp only [zC, zA, zB] at y1
 clear h3 e5 e4 hK3' hN3' hB3' hR3' hs3' hs3 c4 c5 cn hB3 hK3 hR3 hg1 hg2 hg3 hg4 H2 HB5 HB4 HKW HNW HGW eG eW
 go_wp2_with fail
 rw [← eW3]
 refine H3.out.mono ?_
 rintro e w4 ⟨x2, i2, bb2, rfl, hB4, hK4, hR4, HT2⟩
 obtain ⟨hg1, hg2, hg3, hg4⟩ := HX3.out
 have d5 := (hK4.2 G (by omega) (by omega) (by simp)).trans E5.out
 have d4 := (hK4.2 K (by omega) (by omega) (by simp)).trans E4.out
 have dn : NB w4 gn nz1 := (hK4.2 gn (by omega) hne2 (by simp)).trans HN3.out
 have HB4 := zH hB4
 have HK4 := zH (zAw HK3.out (zBf hK4))
 have HR4 := zH hR4
 have D4 := zH d4
 have DN := zH dn
 have y0 := zAb d5 0
 have z0 := zAa d5 0
 have y1 := zAb d5 1
 have z1 := zAa d5 1
 have y2 := zAb d5 2
 have z2 := zAa d5 2
 have y3 := zAb d5 3
 have z3 := zAa d5 3
 have y4 := zAb d5 4
 have z4 := zAa d5 4
 simp only [zC, zA, zB] at y0 y1 y2 y3 y4
 have yK0 := zAb d4 0
 have zK0 := zAa d4 0
 have yK1 := zAb d4 1
 have zK1 := zAa d4 1
 have yK2 := zAb d4 2
 have zK2 := zAa d4 2
 have yK3 := zAb d4 3
 have zK3 := zAa d4 3
 have yK4 := zAb d4 4
 have zK4 := zAa d4 4
 simp only [zC, zA, zB] at yK0 yK1 yK2 yK3 yK4
 have hGK : G ≠ K := by omega
 have hKG : K ≠ G := by omega
 clear d5 d4 dn hB4 hK4 hR4 hg1 hg2 hg3 hg4 H3 E4 E5 eW3
 go_wp2
 obtain ⟨hg1, hg2, hg3, hg4⟩ := HX3.out
 have far : ∀ i, i ≠ G → (((w4.setCell ⟨G, 2, none⟩ (.string x2))).heap[i]? = w4.heap[i]?) := fun i hi => Below.heap_setCell _ _ _ _ hi
 have hBX : Below w0.heap.size w0 (w4.setCell ⟨G, 2, none⟩ (.string x2)) := HB4.out.setCell HGK.out _
 have hKX : KeepBut w (w4.setCell ⟨G, 2, none⟩ (.string x2)) g (some gn) := ⟨by have := HK4.out.1; simpa using this, fun i hi h1 h2 => (far i (by have := EK.out; omega)).trans (HK4.out.2 i hi h1 h2)⟩
 have hRX : RB (w4.setCell ⟨G, 2, none⟩ (.string x2)) g A n c i2 bb2 := (far g (by omega)).trans HR4.out
 have hNX : NB (w4.setCell ⟨G, 2, none⟩ (.string x2)) gn nz1 := (far gn (by omega)).trans DN.out
 obtain ⟨t1, t2, t3, t4, t5⟩ := zCg (w0 := w0) (g := g) (gn := gn) (.int .i64 2) (.string x1) (.string x2) (.slice none 0 0) (.slice none 0 0) EK.out ((far K hKG).trans D4.out) HW.out hBX hKX
 refine bodyPost_ret (zAt rfl (.cell K 25 _ (0, 0) _ rfl t1 Try.underlying25 rfl (by kernel_rfl) .nil)) rfl ?_
 have hfail : Q = none → bb2 = true → zCl w0 w g gn A n c Q (.returned (.agg #[.int .i64 2, .string x1, .string x2, .slice none 0 0, .slice none 0 0])) (((((((w4.setCell ⟨G, 2, none⟩ (.string x2))).setCell ⟨K, 0, none⟩ (.int .i64 2)).setCell ⟨K, 1, none⟩ (.string x1)).setCell ⟨K, 2, none⟩ (.string x2)).setCell ⟨K, 3, none⟩ (.slice none 0 0)).setCell ⟨K, 4, none⟩ (.slice none 0 0)) := fun h1 h2 => by
  rw [h2] at hRX
  rw [h1]
  exact zEo (by omega) (by omega) t2 t3 t4 hRX hNX
 rcases HT1.out with ⟨h1, h1b⟩ | ⟨t, r2, h1, h1x, h1i, h1b⟩
 ·rw [zBx HR.out] at h1
  subst h1b
  rcases HT2.out with ⟨-, h2b⟩ | ⟨t', r', h2, -⟩
  ·exact hfail (by rw [HQ.out, h1]) h2b
  rw [zHl] at h2; cases h2
 rw [zBx HR.out] at h1
 subst h1b
 obtain ⟨j2, hj2, hj2n, hj2I, hr2, -⟩ := zDp HN.out HRr.out (by rw [HR.out]; exact h1)
 rcases HT2.out with ⟨h2, h2b⟩ | ⟨t', r3, h2, h2x, h2i, h2b⟩
 ·rw [h1i, hj2I, zBx hr2] at h2
  exact hfail (by rw [HQ.out, h1]; simp only [h2]) h2b
 rw [h1i, hj2I, zBx hr2] at h2
 have hQ : Q = some (⟨2, x1, x2, [], []⟩, left, r3) := by rw [HQ.out, h1]; simp only [h2, h1x, h2x]
 rw [hQ]
 rw [h2b, h2i] at hRX
 exact zEu (m := ⟨2, x1, x2, [], []⟩) EK.out (by omega) (by omega) t2 t3 t4 t5 (fun X _ => ⟨Nat.le_refl _, Kd.C_nil _ _, Nat.le_refl _, Kd.C_nil _ _⟩) hRX (by rw [← HNZ.out]; exact hNX)
theorem got141e3 (w0 w : World) (g gn : Nat) (A : Option Addr) (n c : Nat) (bs : List UInt8) (at_ : Int) (left d : Nat) (hl : left ≤ 63) (hd8 : d ≤ 7) (r : List UInt8) (j : Nat) (hnc : n ≤ c) (hj : (n : Int) - (r.length : Nat) = (j : Int)) (hr : bs.drop j = r) (hq0 : getW bs at_ = some (3, r)) (hn : bs.length = n) (hnl : n ≤ 1000000000000000) (hg : w0.heap.size ≤ g) (hgn : w0.heap.size ≤ gn) (hne : g ≠ gn) (hB : Below w0.heap.size w0 w) (hS : RB w g A n c at_ false) (nz : Int) (hN : NB w gn nz) (hnz : nz = 63 - (left : Int)) (hC0 : (Kd.int .u8).C w0 A bs.length (bys bs)) (dz : Int) (hdz : dz = 8 - (d : Int)) :
  Calls Try.prog 141 #[.pointer (some ⟨g, 0, none⟩), .pointer (some ⟨gn, 0, none⟩), .int .i64 dz] w (zCl w0 w g gn A n c (GotQ false (d + 1) (left + 1) bs at_)) := by
 have hQ : GotQ false (d + 1) (left + 1) bs at_ = (match decT 32 r with
    | none => none
    | some (nm, r2) => match decT 64 r2 with
     | none => none
     | some (v, r3) => some ((⟨3, ⟨nm.toArray⟩, ⟨v.toArray⟩, [], []⟩ : S25), left, r3)) := by
  unfold getW at hq0
  unfold GotQ
  split
  ·next h =>
   rcases h with h | h
   ·cases h
   ·rw [if_pos h] at hq0; cases hq0
  ·next h =>
   have hi : ¬ at_ < 0 := fun e => h (Or.inr e)
   rw [if_neg hi] at hq0
   rw [decM, hq0]
   simp only
   rw [if_neg (by decide), if_pos (by decide)]
   all_goals
    cases decT 32 r with
    | none => rfl
    | some q =>
     simp only
     cases decT 64 q.2 <;> rfl
 obtain ⟨Q, eQ⟩ : ∃ Q, GotQ false (d + 1) (left + 1) bs at_ = Q := ⟨_, rfl⟩
 rw [eQ]
 have HQ := zH (eQ.symm.trans hQ)
 have HN := zH hn
 have HC0 := zH hC0
 have HR := zH hr
 have hgl := hS.lt
 have hgnl := zAp hN
 have hne2 := hne.symm
 obtain ⟨nz1, hnz1⟩ : ∃ nz1, nz + 1 = nz1 := ⟨_, rfl⟩
 have hw1 : wrap64 (nz + 1) = nz1 := by unfold wrap64; omega
 have hN2 : NB (w.alloc (.cells Z5 25)) gn nz := (Below.heap_alloc _ _ _ hgnl).trans hN
 have hS2 : RB (w.alloc (.cells Z5 25)) g A n c at_ false := (Below.heap_alloc _ _ _ hgl).trans hS
 have hS3 : RB ((w.alloc (.cells Z5 25)).setCell ⟨gn, 0, none⟩ (.int .i64 nz1)) g A n c at_ false := (Below.heap_setCell _ _ _ _ hne).trans hS2
 have m0 := zAb hN2 0
 have mz0 := zAa hN2 0
 simp only [zC, zA] at m0
 have t1 : ¬ (64 : Int) < nz1 := by omega
 have t2 : decide ((64 : Int) < nz1) = false := zF t1
 have t3 : ¬ (8 : Int) < dz := by omega
 have t4 : decide ((8 : Int) < dz) = false := zF t3
 obtain ⟨V, eV⟩ : ∃ V, V = (w.alloc (.cells Z5 25)).setCell ⟨gn, 0, none⟩ (.int .i64 nz1) := ⟨_, rfl⟩
 have hBV : Below w0.heap.size w0 V := by rw [eV]; exact (zAc hB _).setCell hgn _
 have hKV : KeepBut w V g (some gn) := by
  rw [eV]
  refine ⟨by simp, fun i hi h1 h2 => ?_⟩
  have h3 : i ≠ gn := fun e => h2 (by rw [e])
  exact (Below.heap_setCell _ _ _ _ h3).trans (Below.heap_alloc _ _ _ hi)
 have hSV : RB V g A n c at_ false := by rw [eV]; exact hS3
 have hNV : NB V gn nz1 := by rw [eV]; exact (zAn hN2 0 _).trans (by rfl)
 have hZV : V.heap[w.heap.size]? = some (.cells Z5 25 (0, 0)) := by rw [eV]; exact (Below.heap_setCell _ _ _ _ (by simp; omega)).trans (zAs w _)
 have hsV : V.heap.size = w.heap.size + 1 := by rw [eV]; simp
 have h1 := zEd w0 V g A n c bs at_ false 3 j r (by unfold numW; rw [if_neg (by decide)]; exact hq0) hj hn hnl hg hBV hSV hC0
 have H1 := zH h1
 have HK := zH hKV
 have HNV := zH hNV
 have HZV := zH hZV
 have HW := zH hB.size
 have HG := zH (And.intro hgl (And.intro hgnl hsV))
 have HNZ := zH (show nz1 = 64 - (left : Int) by omega)
 have HDZ := zH hdz
 clear hQ hq0 eQ hr hS hS2 hS3 hN hN2 hgl hgnl hBV hKV hSV hNV hZV h1 hC0 hn hdz hnz hsV hB hnz1
 obtain ⟨K, eK⟩ : ∃ K, w.heap.size = K := ⟨_, rfl⟩
 have EK := zH eK.symm
 go_enter Try.func141, Try.ntmps141
 go_wp2_with fail
 rw [← eV]
 refine H1.out.mono ?_
 rintro e w1 ⟨rfl, hB1, hK1, hR1⟩
 obtain ⟨hg1, hg2, hg3⟩ := HG.out
 have hZ1 := (hK1.2 _ (zAp HZV.out) (by omega) (by simp)).trans HZV.out
 rw [eK] at hZ1
 have hN1 : NB w1 gn nz1 := (hK1.2 gn (zAp HNV.out) hne2 (by simp)).trans HNV.out
 have hs1 := hK1.1
 have s2 := hR1.c2
 have hKl := zAp hZ1
 obtain ⟨W, eW⟩ : ∃ W, W = w1.alloc (.cells #[.int .i64 3, .string ⟨#[]⟩, .string ⟨#[]⟩, .slice none 0 0, .slice none 0 0] 25) := ⟨_, rfl⟩
 obtain ⟨G, eG⟩ : ∃ G, w1.heap.size = G := ⟨_, rfl⟩
 have b5 : W.heap[G]? = some (.cells #[.int .i64 3, .string ⟨#[]⟩, .string ⟨#[]⟩, .slice none 0 0, .slice none 0 0] 25 (0, 0)) := by rw [eW, ← eG]; exact zAs w1 _
 have b4 : W.heap[K]? = some (.cells Z5 25 (0, 0)) := by rw [eW]; exact (Below.heap_alloc _ _ _ hKl).trans hZ1
 have hBW : Below w0.heap.size w0 W := by rw [eW]; exact zAc hB1 _
 have hKW : KeepBut w W g (some gn) := by rw [eW]; exact zAw HK.out (zAw (zBf hK1) (zBf (KeepBut.of_below (zAc (Below.refl w1.heap.size w1) _) g none)))
 have hRW : RB W g A n c (j : Int) false := by rw [eW]; exact (Below.heap_alloc _ _ _ hR1.lt).trans hR1
 have hNW : NB W gn nz1 := by rw [eW]; exact (Below.heap_alloc _ _ _ (zAp hN1)).trans hN1
 have HGW := zH (show g < K ∧ gn < K ∧ K < G ∧ W.heap.size = G + 1 from ⟨by omega, by omega, by omega, by rw [eW, World.size_alloc, eG]⟩)
 have HGK := zH (show w0.heap.size ≤ G by have := HW.out; omega)
 clear eK hB1 hK1 hR1 hN1 hZ1 hKl hs1 eV H1 HK HZV HNV HG hg1 hg2 hg3
 have h2 := zFw w0 W g A n c bs (j : Int) false 32 32 rfl (by decide) HN.out hnc hnl hg hBW hRW HC0.out
 have H2 := zH h2
 have HB5 := zH b5
 have HB4 := zH b4
 have HKW := zH hKW
 have HNW := zH hNW
 have HRr := zH (show j ≤ n by omega)
 have HJ := zH hj
 clear b5 b4 hKW hBW hRW hNW hj h2
 go_wp2_with fail
 rw [← eW]
 refine H2.out.mono ?_
 rintro e w3 ⟨x1, i1, bb1, rfl, hB3, hK3, hR3, HT1⟩
 obtain ⟨hg1, hg2, hg3, hg4⟩ := HGW.out
 have c5 := (hK3.2 G (by omega) (by omega) (by simp)).trans HB5.out
 have c4 := (hK3.2 K (by omega) (by omega) (by simp)).trans HB4.out
 have cn : NB w3 gn nz1 := (hK3.2 gn (by omega) hne2 (by simp)).trans HNW.out
 have hs3 := hK3.1
 obtain ⟨W3, eW3⟩ : ∃ W3, W3 = w3.setCell ⟨G, 1, none⟩ (.string x1) := ⟨_, rfl⟩
 have hB3' : Below w0.heap.size w0 W3 := by rw [eW3]; exact hB3.setCell HGK.out _
 have hR3' : RB W3 g A n c i1 bb1 := by rw [eW3]; exact (Below.heap_setCell _ _ _ _ (show g ≠ G by omega)).trans hR3
 have hN3' : NB W3 gn nz1 := by rw [eW3]; exact (Below.heap_setCell _ _ _ _ (show gn ≠ G by omega)).trans cn
 have e5 : W3.heap[G]? = some (.cells #[.int .i64 3, .string x1, .string ⟨#[]⟩, .slice none 0 0, .slice none 0 0] 25 (0, 0)) := by rw [eW3]; exact (zAn c5 1 _).trans (by rfl)
 have e4 : W3.heap[K]? = some (.cells Z5 25 (0, 0)) := by rw [eW3]; exact (Below.heap_setCell _ _ _ _ (show K ≠ G by omega)).trans c4
 have hK3' : KeepBut w W3 g (some gn) := ⟨by rw [eW3]; have := (zAw HKW.out (zBf hK3)).1; simpa using this, fun i hi h1 h2 => by
  rw [eW3]
  exact (Below.heap_setCell _ _ _ _ (show i ≠ G by have := EK.out; omega)).trans ((zAw HKW.out (zBf hK3)).2 i hi h1 h2)⟩
 have hs3' : W3.heap.size = w3.heap.size := by rw [eW3]; simp
 have h3 := zFw w0 W3 g A n c bs i1 bb1 64 64 rfl (by decide) HN.out hnc hnl hg hB3' hR3' HC0.out
 have H3 := zH h3
 have E5 := zH e5
 have E4 := zH e4
 have HK3 := zH hK3'
 have HN3 := zH hN3'
 have HX3 := zH (And.intro hg1 (And.intro hg2 (And.intro hg3 (show G < W3.heap.size by omega))))
 have y1 := zAb c5 1
 have z1 := zAa c5 1
 simp only [zC, zA, zB] at y1
 clear h3 e5 e4 hK3' hN3' hB3' hR3' hs3' hs3 c4 c5 cn hB3 hK3 hR3 hg1 hg2 hg3 hg4 H2 HB5 HB4 HKW HNW HGW eG eW
 go_wp2_with fail
 rw [← eW3]
 refine H3.out.mono ?_
 rintro e w4 ⟨x2, i2, bb2, rfl, hB4, hK4, hR4, HT2⟩
 obtain ⟨hg1, hg2, hg3, hg4⟩ := HX3.out
 have d5 := (hK4.2 G (by omega) (by omega) (by simp)).trans E5.out
 have d4 := (hK4.2 K (by omega) (by omega) (by simp)).trans E4.out
 have dn : NB w4 gn nz1 := (hK4.2 gn (by omega) hne2 (by simp)).trans HN3.out
 have HB4 := zH hB4
 have HK4 := zH (zAw HK3.out (zBf hK4))
 have HR4 := zH hR4
 have D4 := zH d4
 have DN := zH dn
 have y0 := zAb d5 0
 have z0 := zAa d5 0
 have y1 := zAb d5 1
 have z1 := zAa d5 1
 have y2 := zAb d5 2
 have z2 := zAa d5 2
 have y3 := zAb d5 3
 have z3 := zAa d5 3
 have y4 := zAb d5 4
 have z4 := zAa d5 4
 simp only [zC, zA, zB] at y0 y1 y2 y3 y4
 have yK0 := zAb d4 0
 have zK0 := zAa d4 0
 have yK1 := zAb d4 1
 have zK1 := zAa d4 1
 have yK2 := zAb d4 2
 have zK2 := zAa d4 2
 have yK3 := zAb d4 3
 have zK3 := zAa d4 3
 have yK4 := zAb d4 4
 have zK4 := zAa d4 4
 simp only [zC, zA, zB] at yK0 yK1 yK2 yK3 yK4
 have hGK : G ≠ K := by omega
 have hKG : K ≠ G := by omega
 clear d5 d4 dn hB4 hK4 hR4 hg1 hg2 hg3 hg4 H3 E4 E5 eW3
 go_wp2
 obtain ⟨hg1, hg2, hg3, hg4⟩ := HX3.out
 have far : ∀ i, i ≠ G → (((w4.setCell ⟨G, 2, none⟩ (.string x2))).heap[i]? = w4.heap[i]?) := fun i hi => Below.heap_setCell _ _ _ _ hi
 have hBX : Below w0.heap.size w0 (w4.setCell ⟨G, 2, none⟩ (.string x2)) := HB4.out.setCell HGK.out _
 have hKX : KeepBut w (w4.setCell ⟨G, 2, none⟩ (.string x2)) g (some gn) := ⟨by have := HK4.out.1; simpa using this, fun i hi h1 h2 => (far i (by have := EK.out; omega)).trans (HK4.out.2 i hi h1 h2)⟩
 have hRX : RB (w4.setCell ⟨G, 2, none⟩ (.string x2)) g A n c i2 bb2 := (far g (by omega)).trans HR4.out
 have hNX : NB (w4.setCell ⟨G, 2, none⟩ (.string x2)) gn nz1 := (far gn (by omega)).trans DN.out
 obtain ⟨t1, t2, t3, t4, t5⟩ := zCg (w0 := w0) (g := g) (gn := gn) (.int .i64 3) (.string x1) (.string x2) (.slice none 0 0) (.slice none 0 0) EK.out ((far K hKG).trans D4.out) HW.out hBX hKX
 refine bodyPost_ret (zAt rfl (.cell K 25 _ (0, 0) _ rfl t1 Try.underlying25 rfl (by kernel_rfl) .nil)) rfl ?_
 have hfail : Q = none → bb2 = true → zCl w0 w g gn A n c Q (.returned (.agg #[.int .i64 3, .string x1, .string x2, .slice none 0 0, .slice none 0 0])) (((((((w4.setCell ⟨G, 2, none⟩ (.string x2))).setCell ⟨K, 0, none⟩ (.int .i64 3)).setCell ⟨K, 1, none⟩ (.string x1)).setCell ⟨K, 2, none⟩ (.string x2)).setCell ⟨K, 3, none⟩ (.slice none 0 0)).setCell ⟨K, 4, none⟩ (.slice none 0 0)) := fun h1 h2 => by
  rw [h2] at hRX
  rw [h1]
  exact zEo (by omega) (by omega) t2 t3 t4 hRX hNX
 rcases HT1.out with ⟨h1, h1b⟩ | ⟨t, r2, h1, h1x, h1i, h1b⟩
 ·rw [zBx HR.out] at h1
  subst h1b
  rcases HT2.out with ⟨-, h2b⟩ | ⟨t', r', h2, -⟩
  ·exact hfail (by rw [HQ.out, h1]) h2b
  rw [zHl] at h2; cases h2
 rw [zBx HR.out] at h1
 subst h1b
 obtain ⟨j2, hj2, hj2n, hj2I, hr2, -⟩ := zDp HN.out HRr.out (by rw [HR.out]; exact h1)
 rcases HT2.out with ⟨h2, h2b⟩ | ⟨t', r3, h2, h2x, h2i, h2b⟩
 ·rw [h1i, hj2I, zBx hr2] at h2
  exact hfail (by rw [HQ.out, h1]; simp only [h2]) h2b
 rw [h1i, hj2I, zBx hr2] at h2
 have hQ : Q = some (⟨3, x1, x2, [], []⟩, left, r3) := by rw [HQ.out, h1]; simp only [h2, h1x, h2x]
 rw [hQ]
 rw [h2b, h2i] at hRX
 exact zEu (m := ⟨3, x1, x2, [], []⟩) EK.out (by omega) (by omega) t2 t3 t4 t5 (fun X _ => ⟨Nat.le_refl _, Kd.C_nil _ _, Nat.le_refl _, Kd.C_nil _ _⟩) hRX (by rw [← HNZ.out]; exact hNX)
theorem decTs_step {k : Nat} {rr r2 v : List UInt8} {vs : List ByteArray} {α : Type} (F : List ByteArray → List UInt8 → α) (hk : 0 < k) (hq : decT 64 rr = some (v, r2)) : (decTs k rr).map (fun q => F (vs ++ q.1) q.2) = (decTs (k - 1) r2).map (fun q => F ((vs ++ [⟨v.toArray⟩]) ++ q.1) q.2) := by
 obtain ⟨q, rfl⟩ : ∃ q, k = q + 1 := ⟨k - 1, by omega⟩
 rw [decTs, hq, show q + 1 - 1 = q by omega]
 simp only
 cases decTs q r2 with
 | none => rfl
 | some q => simp
theorem decTs_none1 {k : Nat} {rr : List UInt8} (hk : 0 < k) (hq : decT 64 rr = none) : decTs k rr = none := by
 obtain ⟨q, rfl⟩ : ∃ q, k = q + 1 := ⟨k - 1, by omega⟩
 rw [decTs, hq]
theorem decML_step {d left l2 k : Nat} {rr r2 : List UInt8} {ks : List S25} {m : S25} {α : Type} (F : List S25 → Nat × List UInt8 → α) (hk : 0 < k) (hq : decM d left rr = some (m, l2, r2)) : (zBn d left k rr).map (fun q => F (ks ++ q.1) q.2) = (zBn d l2 (k - 1) r2).map (fun q => F ((ks ++ [m]) ++ q.1) q.2) := by
 obtain ⟨q, rfl⟩ : ∃ q, k = q + 1 := ⟨k - 1, by omega⟩
 rw [zBn, hq, show q + 1 - 1 = q by omega]
 simp only
 cases zBn d l2 q r2 with
 | none => rfl
 | some q => simp
theorem zGr {d left k : Nat} {rr : List UInt8} (hk : 0 < k) (hq : decM d left rr = none) : zBn d left k rr = none := by
 obtain ⟨q, rfl⟩ : ∃ q, k = q + 1 := ⟨k - 1, by omega⟩
 rw [zBn, hq]
theorem got141f (w0 w : World) (g gn : Nat) (A : Option Addr) (n c : Nat) (bs : List UInt8) (at_ : Int) (left d : Nat) (hl : left ≤ 63) (hd8 : d ≤ 7) (r : List UInt8) (j : Nat) (hnc : n ≤ c) (hj : (n : Int) - (r.length : Nat) = (j : Int)) (hr : bs.drop j = r) (hq0 : getW bs at_ = some (4, r)) (hn : bs.length = n) (hnl : n ≤ 1000000000000000) (hg : w0.heap.size ≤ g) (hgn : w0.heap.size ≤ gn) (hne : g ≠ gn) (hB : Below w0.heap.size w0 w) (hS : RB w g A n c at_ false) (nz : Int) (hN : NB w gn nz) (hnz : nz = 63 - (left : Int)) (hC0 : (Kd.int .u8).C w0 A bs.length (bys bs)) (dz : Int) (hdz : dz = 8 - (d : Int)) :
  Calls Try.prog 141 #[.pointer (some ⟨g, 0, none⟩), .pointer (some ⟨gn, 0, none⟩), .int .i64 dz] w (zCl w0 w g gn A n c (GotQ false (d + 1) (left + 1) bs at_)) := by
 have hQ : GotQ false (d + 1) (left + 1) bs at_ = (match decT 32 r with
    | none => none
    | some (nm, r2) => match decV 0 0 r2 with
     | none => none
     | some (k, r3) => if k ≤ 16 then (decTs k r3).map (fun q => ((⟨4, ⟨nm.toArray⟩, ⟨#[]⟩, q.1, []⟩ : S25), left, q.2)) else none) := by
  unfold getW at hq0
  unfold GotQ
  split
  ·next h =>
   rcases h with h | h
   ·cases h
   ·rw [if_pos h] at hq0; cases hq0
  ·next h =>
   have hi : ¬ at_ < 0 := fun e => h (Or.inr e)
   rw [if_neg hi] at hq0
   rw [decM, hq0]
   simp only
   rw [if_neg (by decide), if_neg (by decide), if_pos trivial]
   all_goals
    cases decT 32 r with
    | none => rfl
    | some q =>
     simp only
     cases decV 0 0 q.2 with
     | none => rfl
     | some q2 => rfl
 obtain ⟨Q, eQ⟩ : ∃ Q, GotQ false (d + 1) (left + 1) bs at_ = Q := ⟨_, rfl⟩
 rw [eQ]
 have HQ := zH (eQ.symm.trans hQ)
 have HN := zH hn
 have HC0 := zH hC0
 have HR := zH hr
 have hgl := hS.lt
 have hgnl := zAp hN
 have hne2 := hne.symm
 obtain ⟨nz1, hnz1⟩ : ∃ nz1, nz + 1 = nz1 := ⟨_, rfl⟩
 have hw1 : wrap64 (nz + 1) = nz1 := by unfold wrap64; omega
 have hN2 : NB (w.alloc (.cells Z5 25)) gn nz := (Below.heap_alloc _ _ _ hgnl).trans hN
 have hS2 : RB (w.alloc (.cells Z5 25)) g A n c at_ false := (Below.heap_alloc _ _ _ hgl).trans hS
 have hS3 : RB ((w.alloc (.cells Z5 25)).setCell ⟨gn, 0, none⟩ (.int .i64 nz1)) g A n c at_ false := (Below.heap_setCell _ _ _ _ hne).trans hS2
 have m0 := zAb hN2 0
 have mz0 := zAa hN2 0
 simp only [zC, zA] at m0
 have t1 : ¬ (64 : Int) < nz1 := by omega
 have t2 : decide ((64 : Int) < nz1) = false := zF t1
 have t3 : ¬ (8 : Int) < dz := by omega
 have t4 : decide ((8 : Int) < dz) = false := zF t3
 obtain ⟨V, eV⟩ : ∃ V, V = (w.alloc (.cells Z5 25)).setCell ⟨gn, 0, none⟩ (.int .i64 nz1) := ⟨_, rfl⟩
 have hBV : Below w0.heap.size w0 V := by rw [eV]; exact (zAc hB _).setCell hgn _
 have hKV : KeepBut w V g (some gn) := by
  rw [eV]
  refine ⟨by simp, fun i hi h1 h2 => ?_⟩
  have h3 : i ≠ gn := fun e => h2 (by rw [e])
  exact (Below.heap_setCell _ _ _ _ h3).trans (Below.heap_alloc _ _ _ hi)
 have hSV : RB V g A n c at_ false := by rw [eV]; exact hS3
 have hNV : NB V gn nz1 := by rw [eV]; exact (zAn hN2 0 _).trans (by rfl)
 have hZV : V.heap[w.heap.size]? = some (.cells Z5 25 (0, 0)) := by rw [eV]; exact (Below.heap_setCell _ _ _ _ (by simp; omega)).trans (zAs w _)
 have hsV : V.heap.size = w.heap.size + 1 := by rw [eV]; simp
 have h1 := zEd w0 V g A n c bs at_ false 4 j r (by unfold numW; rw [if_neg (by decide)]; exact hq0) hj hn hnl hg hBV hSV hC0
 have H1 := zH h1
 have HK := zH hKV
 have HNV := zH hNV
 have HZV := zH hZV
 have HW := zH hB.size
 have HG := zH (And.intro hgl (And.intro hgnl hsV))
 have HNZ := zH (show nz1 = 64 - (left : Int) by omega)
 have HDZ := zH hdz
 clear hQ hq0 eQ hr hS hS2 hS3 hN hN2 hgl hgnl hBV hKV hSV hNV hZV h1 hC0 hn hdz hnz hsV hB hnz1
 obtain ⟨K, eK⟩ : ∃ K, w.heap.size = K := ⟨_, rfl⟩
 have EK := zH eK.symm
 go_enter Try.func141, Try.ntmps141
 go_wp2_with fail
 rw [← eV]
 refine H1.out.mono ?_
 rintro e w1 ⟨rfl, hB1, hK1, hR1⟩
 obtain ⟨hg1, hg2, hg3⟩ := HG.out
 have hZ1 := (hK1.2 _ (zAp HZV.out) (by omega) (by simp)).trans HZV.out
 rw [eK] at hZ1
 have hN1 : NB w1 gn nz1 := (hK1.2 gn (zAp HNV.out) hne2 (by simp)).trans HNV.out
 have hs1 := hK1.1
 have s2 := hR1.c2
 have hKl := zAp hZ1
 obtain ⟨W, eW⟩ : ∃ W, W = w1.alloc (.cells #[.int .i64 4, .string ⟨#[]⟩, .string ⟨#[]⟩, .slice none 0 0, .slice none 0 0] 25) := ⟨_, rfl⟩
 obtain ⟨G, eG⟩ : ∃ G, w1.heap.size = G := ⟨_, rfl⟩
 have b5 : W.heap[G]? = some (.cells #[.int .i64 4, .string ⟨#[]⟩, .string ⟨#[]⟩, .slice none 0 0, .slice none 0 0] 25 (0, 0)) := by rw [eW, ← eG]; exact zAs w1 _
 have b4 : W.heap[K]? = some (.cells Z5 25 (0, 0)) := by rw [eW]; exact (Below.heap_alloc _ _ _ hKl).trans hZ1
 have hBW : Below w0.heap.size w0 W := by rw [eW]; exact zAc hB1 _
 have hKW : KeepBut w W g (some gn) := by rw [eW]; exact zAw HK.out (zAw (zBf hK1) (zBf (KeepBut.of_below (zAc (Below.refl w1.heap.size w1) _) g none)))
 have hRW : RB W g A n c (j : Int) false := by rw [eW]; exact (Below.heap_alloc _ _ _ hR1.lt).trans hR1
 have hNW : NB W gn nz1 := by rw [eW]; exact (Below.heap_alloc _ _ _ (zAp hN1)).trans hN1
 have HGW := zH (show g < K ∧ gn < K ∧ K < G ∧ W.heap.size = G + 1 from ⟨by omega, by omega, by omega, by rw [eW, World.size_alloc, eG]⟩)
 have HGK := zH (show w0.heap.size ≤ G by have := HW.out; omega)
 clear eK hB1 hK1 hR1 hN1 hZ1 hKl hs1 eV H1 HK HZV HNV HG hg1 hg2 hg3
 have h2 := zFw w0 W g A n c bs (j : Int) false 32 32 rfl (by decide) HN.out hnc hnl hg hBW hRW HC0.out
 have H2 := zH h2
 have HB5 := zH b5
 have HB4 := zH b4
 have HKW := zH hKW
 have HNW := zH hNW
 have HRr := zH (show j ≤ n by omega)
 have HJ := zH hj
 clear b5 b4 hKW hBW hRW hNW hj h2
 go_wp2_with fail
 rw [← eW]
 refine H2.out.mono ?_
 rintro e w3 ⟨x1, i1, bb1, rfl, hB3, hK3, hR3, HT1⟩
 obtain ⟨hg1, hg2, hg3, hg4⟩ := HGW.out
 have c5 := (hK3.2 G (by omega) (by omega) (by simp)).trans HB5.out
 have c4 := (hK3.2 K (by omega) (by omega) (by simp)).trans HB4.out
 have cn : NB w3 gn nz1 := (hK3.2 gn (by omega) hne2 (by simp)).trans HNW.out
 have hs3 := hK3.1
 obtain ⟨W3, eW3⟩ : ∃ W3, W3 = w3.setCell ⟨G, 1, none⟩ (.string x1) := ⟨_, rfl⟩
 have hB3' : Below w0.heap.size w0 W3 := by rw [eW3]; exact hB3.setCell HGK.out _
 have hR3' : RB W3 g A n c i1 bb1 := by rw [eW3]; exact (Below.heap_setCell _ _ _ _ (show g ≠ G by omega)).trans hR3
 have hN3' : NB W3 gn nz1 := by rw [eW3]; exact (Below.heap_setCell _ _ _ _ (show gn ≠ G by omega)).trans cn
 have e5 : W3.heap[G]? = some (.cells #[.int .i64 4, .string x1, .string ⟨#[]⟩, .slice none 0 0, .slice none 0 0] 25 (0, 0)) := by rw [eW3]; exact (zAn c5 1 _).trans (by rfl)
 have e4 : W3.heap[K]? = some (.cells Z5 25 (0, 0)) := by rw [eW3]; exact (Below.heap_setCell _ _ _ _ (show K ≠ G by omega)).trans c4
 have hK3' : KeepBut w W3 g (some gn) := ⟨by rw [eW3]; have := (zAw HKW.out (zBf hK3)).1; simpa using this, fun i hi h1 h2 => by
  rw [eW3]
  exact (Below.heap_setCell _ _ _ _ (show i ≠ G by have := EK.out; omega)).trans ((zAw HKW.out (zBf hK3)).2 i hi h1 h2)⟩
 have hs3' : W3.heap.size = w3.heap.size := by rw [eW3]; simp
 have h3 := cnt120 w0 W3 g A n c bs i1 bb1 16 16 rfl (by decide) HN.out hnl hg hB3' hR3' HC0.out
 have H3 := zH h3
 have E5 := zH e5
 have E4 := zH e4
 have HK3 := zH hK3'
 have HN3 := zH hN3'
 have HX3 := zH (And.intro hg1 (And.intro hg2 (And.intro hg3 (show G < W3.heap.size by omega))))
 have y1 := zAb c5 1
 have z1 := zAa c5 1
 simp only [zC, zA, zB] at y1
 clear h3 e5 e4 hK3' hN3' hB3' hR3' hs3' hs3 c4 c5 cn hB3 hK3 hR3 hg1 hg2 hg3 hg4 H2 HB5 HB4 HKW HNW HGW eG eW
 go_wp2_with fail
 rw [← eW3]
 refine H3.out.mono ?_
 rintro e w4 ⟨k, i2, bb2, rfl, hB4, hK4, hR4, hk16, HT2⟩
 obtain ⟨hg1, hg2, hg3, hg4⟩ := HX3.out
 have d5 := (hK4.2 G (by omega) (by omega) (by simp)).trans E5.out
 have d4 := (hK4.2 K (by omega) (by omega) (by simp)).trans E4.out
 have dn : NB w4 gn nz1 := (hK4.2 gn (by omega) hne2 (by simp)).trans HN3.out
 have hK4' := zAw HK3.out (zBf hK4)
 obtain ⟨base, hbase⟩ : ∃ base, w4.heap.size = base := ⟨_, rfl⟩
 have hs4 := hK4.1
 have HGS := zH (show g < K ∧ gn < K ∧ K < G ∧ G < base from ⟨hg1, hg2, hg3, by omega⟩)
 have HS0 : Hid ((bb2 = true ∧ Q = none) ∨ (bb2 = false ∧ ∃ (p : Nat) (vs : List ByteArray) (rr : List UInt8), vs.length = 0 ∧ p ≤ n ∧ bs.drop p = rr ∧ i2 = (p : Int) ∧ w4.ownsRow base 9 1 (.slice none 0 0) 0 (encs Value.string vs) ∧ Q = (decTs k rr).map (fun q => ((⟨4, x1, ⟨#[]⟩, vs ++ q.1, []⟩ : S25), left, q.2)))) := by
  refine zH ?_
  rcases HT1.out with ⟨h1, h1b⟩ | ⟨t, r2, h1, h1x, h1i, h1b⟩
  ·rw [zBx HR.out] at h1
   subst h1b
   rcases HT2.out with ⟨-, h2b⟩ | ⟨r', h2, -⟩
   ·exact Or.inl ⟨h2b, by rw [HQ.out, h1]⟩
   rw [countW_bad] at h2; cases h2
  rw [zBx HR.out] at h1
  subst h1b
  obtain ⟨j2, hj2, hj2n, hj2I, hr2, -⟩ := zDp HN.out HRr.out (by rw [HR.out]; exact h1)
  rcases HT2.out with ⟨h2, h2b⟩ | ⟨r3, h2, h2i, h2b⟩
  ·refine Or.inl ⟨h2b, ?_⟩
   rw [h1i, hj2I, zFe hr2] at h2
   rw [HQ.out, h1]
   simp only
   cases hv : decV 0 0 r2 with
   | none => rfl
   | some q =>
   rw [hv] at h2
   simp only at h2 ⊢
   split
   ·next hk =>
    rw [decTs_short (by
     rcases Nat.lt_or_ge q.2.length q.1 with h | h
     ·exact h
     ·rw [if_pos ⟨hk, h⟩] at h2; cases h2)]
    rfl
   rfl
  rw [h1i, hj2I, zFe hr2] at h2
  cases hv : decV 0 0 r2 with
  | none => rw [hv] at h2; cases h2
  | some q =>
  rw [hv] at h2
  simp only at h2
  split at h2
  ·next hk =>
   simp only [Option.some.injEq, Prod.mk.injEq] at h2
   obtain ⟨h3, h4⟩ := h2
   obtain ⟨p, hp1, hp2, hp3, hp4⟩ := zHw HN.out hj2n (by rw [hr2]; exact hv)
   rw [h4] at hp3 hp4
   refine Or.inr ⟨h2b, p, [], r3, rfl, hp2, hp4, by rw [h2i, hp3], World.ownsRow_nil _ _ _ _, ?_⟩
   rw [HQ.out, h1]
   simp only [hv]
   rw [if_pos hk.1, h3, h4, h1x]
   rfl
  cases h2
 have HS0 := HS0
 have hw0b : w0.heap.size ≤ base := by have := HGK.out; omega
 clear hs4 hg1 hg2 hg3 hg4 H3 E4 E5 eW3 HT1 HT2 HX3 HQ HK3 HN3 HRr HJ HR z1 y1 hK4
 go_wp2
 go_loopw [10, 11] (fun u10 u11 wr => ∃ (i : Nat) (at2 : Int) (bb : Bool) (A3 : Option Addr) (n3 c3 : Nat), u10 = .int .i64 (i : Nat) ∧ i ≤ k ∧ wr.heap[G]? = some (.cells #[.int .i64 4, .string x1, .string ⟨#[]⟩, .slice A3 n3 c3, .slice none 0 0] 25 (0, 0)) ∧ wr.heap[K]? = some (.cells Z5 25 (0, 0)) ∧ NB wr gn nz1 ∧ RB wr g A n c at2 bb ∧ Below w0.heap.size w0 wr ∧ KeepBut w wr g (some gn) ∧ base ≤ wr.heap.size ∧ Hid ((bb = true ∧ Q = none) ∨ (bb = false ∧ ∃ (p : Nat) (vs : List ByteArray) (rr : List UInt8), n3 = i ∧ vs.length = i ∧ p ≤ n ∧ bs.drop p = rr ∧ at2 = (p : Int) ∧ wr.ownsRow base 9 1 (.slice A3 i c3) i (encs Value.string vs) ∧ Q = (decTs (k - i) rr).map (fun q => ((⟨4, x1, ⟨#[]⟩, vs ++ q.1, []⟩ : S25), left, q.2)))))
  (fun u10 _ _ => k - (intOf u10).toNat)
 case atStart => exact ⟨0, i2, bb2, none, 0, 0, rfl, Nat.zero_le _, d5, d4, dn, hR4, hB4, hK4', Nat.le_of_eq hbase.symm, zH (HS0.out.imp id (fun ⟨h, p, vs, rr, h1⟩ => ⟨h, p, vs, rr, rfl, h1⟩))⟩
 case round =>
  clear d5 d4 dn hR4 hB4 hK4' HS0 hbase
  obtain ⟨i, at2, bb, A3, n3, c3, rfl, hik, hXr, hPr, hNr, hRr, hBr, hKr, hSr, HST⟩ := hrel
  have HXr := zH hXr
  have HPr := zH hPr
  have HNr := zH hNr
  have HRr := zH hRr
  have HBr := zH hBr
  have HKr := zH hKr
  have HSr := zH hSr
  have r2 := hRr.c2
  obtain ⟨hg1, hg2, hg3, hg4⟩ := HGS.out
  have hGK : G ≠ K := by omega
  have hKG : K ≠ G := by omega
  clear hg1 hg2 hg3 hg4
  cases bb with
  | true =>
   have y0 := zAb hXr 0
   have z0 := zAa hXr 0
   have y1 := zAb hXr 1
   have z1 := zAa hXr 1
   have y2 := zAb hXr 2
   have z2 := zAa hXr 2
   have y3 := zAb hXr 3
   have z3 := zAa hXr 3
   have y4 := zAb hXr 4
   have z4 := zAa hXr 4
   simp only [zC, zA, zB] at y0 y1 y2 y3 y4
   have yK0 := zAb hPr 0
   have zK0 := zAa hPr 0
   have yK1 := zAb hPr 1
   have zK1 := zAa hPr 1
   have yK2 := zAb hPr 2
   have zK2 := zAa hPr 2
   have yK3 := zAb hPr 3
   have zK3 := zAa hPr 3
   have yK4 := zAb hPr 4
   have zK4 := zAa hPr 4
   simp only [zC, zA, zB] at yK0 yK1 yK2 yK3 yK4
   clear hXr hPr hNr hRr hBr hKr hSr
   have HQn := zH (show Q = none by
    rcases HST.out with ⟨-, h⟩ | ⟨h, -⟩
    ·exact h
    ·cases h)
   by_cases hlt : i < k
   all_goals (go_wp2; obtain ⟨hg1, hg2, hg3, hg4⟩ := HGS.out)
   all_goals
    obtain ⟨t1, t2, t3, t4, t5⟩ := zCg (w0 := w0) (g := g) (gn := gn) (.int .i64 4) (.string x1) (.string ⟨#[]⟩) (.slice A3 n3 c3) (.slice none 0 0) EK.out HPr.out HW.out HBr.out HKr.out
    refine bodyPost_ret (zAt rfl (.cell K 25 _ (0, 0) _ rfl t1 Try.underlying25 rfl (by kernel_rfl) .nil)) rfl ?_
    rw [HQn.out]
    exact zEo (by omega) (by omega) t2 t3 t4 HRr.out HNr.out
  | false =>
  obtain ⟨p, vs, rr, rfl, hvi, hpn, hpr, rfl, hO3, hQ⟩ : ∃ (p : Nat) (vs : List ByteArray) (rr : List UInt8), n3 = i ∧ vs.length = i ∧ p ≤ n ∧ bs.drop p = rr ∧ at2 = (p : Int) ∧ wr.ownsRow base 9 1 (.slice A3 i c3) i (encs Value.string vs) ∧ Q = (decTs (k - i) rr).map (fun q => ((⟨4, x1, ⟨#[]⟩, vs ++ q.1, []⟩ : S25), left, q.2)) := by
   rcases HST.out with ⟨h, -⟩ | ⟨-, h⟩
   ·cases h
   exact h
  have HO3 := zH hO3
  have HQi := zH hQ
  have HIN := zH (And.intro hpn (And.intro hpr hvi))
  by_cases hlt : n3 < k
  ·have h7 := zH (zFw w0 wr g A n c bs (p : Int) false 64 64 rfl (by decide) HN.out hnc hnl hg hBr hRr HC0.out)
   clear hXr hPr hNr hRr hBr hKr hSr hO3 hQ hpn hpr hvi HST
   go_wp2_with fail
   refine h7.out.mono ?_
   rintro e w5 ⟨x, i5, bb5, rfl, hB5, hK5, hR5, HT5⟩
   obtain ⟨hg1, hg2, hg3, hg4⟩ := HGS.out
   have hsr := HSr.out
   have f5 := (hK5.2 G (by omega) (by omega) (by simp)).trans HXr.out
   have f4 := (hK5.2 K (by omega) (by omega) (by simp)).trans HPr.out
   have fn : NB w5 gn nz1 := (hK5.2 gn (by omega) hne2 (by simp)).trans HNr.out
   have hO5 : w5.ownsRow base 9 1 (.slice A3 n3 c3) n3 (encs Value.string vs) := zBt HO3.out (fun k hk => hK5.2 k (HO3.out.lt _ hk).2 (by have := (HO3.out.lt _ hk).1; omega) (by simp))
   have hs5 := hK5.1
   have HK5 := zH (zAw HKr.out (zBf hK5))
   have HR5 := zH hR5
   have HB5 := zH hB5
   have F5 := zH f5
   have F4 := zH f4
   have FN := zH fn
   have HO5 := zH hO5
   have HLT := zH (fun k (hk : (Value.slice A3 n3 c3).ownBlock = some k) => hO5.lt _ hk)
   have HS5 := zH (show base ≤ w5.heap.size by omega)
   have f5a : (w5.alloc (.cells #[.string x] 9)).heap[G]? = _ := (Below.heap_alloc _ _ _ (zAp f5)).trans f5
   have y0 := zAb f5 0
   have z0 := zAa f5 0
   have y1 := zAb f5 1
   have z1 := zAa f5 1
   have y2 := zAb f5 2
   have z2 := zAa f5 2
   have y3 := zAb f5 3
   have z3 := zAa f5 3
   have y4 := zAb f5 4
   have z4 := zAa f5 4
   simp only [zC, zA, zB] at y0 y1 y2 y3 y4
   clear hB5 hK5 hR5 hO5 f4 fn hs5 hsr hg1 hg2 hg3 hg4 f5 f5a h7
   go_wp2_with (at_builtin; refine zBq (w0 := w5) (W := w5) base rfl (.tmp 83) (.tmp 85) 22 9 (.string ByteArray.empty) 1 16 rfl Try.underlying22 infoS rfl (by decide) (by decide) (.slice A3 n3 c3) n3 (encs Value.string vs) [.string x] rfl rfl rfl (by intro u hu; simp only [List.mem_cons, List.not_mem_nil, or_false] at hu; subst hu; rfl) HO5.out (Below.refl _ _) HS5.out (by omega) ?_; intro v2 w6 hown6 hb6 hg6 hat6; obtain ⟨A2, c2, rfl⟩ := zCh hown6; have hneG : some G ≠ (Value.slice A3 n3 c3).ownBlock := (fun e => by have := (HLT.out _ e.symm).1; have := HGS.out; omega); have q5 := (hg6.block G (zAp F5.out) hneG).trans F5.out; have q53 := zAb q5 3; have q5z := zAa q5 3; have Q5 := zH q5; have HG6 := zH hg6; have HO6 := zH hown6; clear hown6 hb6 hg6 hat6 q5 hneG; simp only [zC, zA, zB] at q53)
   go_roundw
   case rel =>
    obtain ⟨hg1, hg2, hg3, hg4⟩ := HGS.out
    obtain ⟨hpn, hpr, hvi⟩ := HIN.out
    have hl2 := HLT.out
    have hs5 := HS5.out
    have hs6 := HG6.out.size
    have hl5 := (HK5.out).1
    have hneK : some K ≠ (Value.slice A3 n3 c3).ownBlock := fun e => by have := (hl2 _ e.symm).1; omega
    have hneg : some g ≠ (Value.slice A3 n3 c3).ownBlock := fun e => by have := (hl2 _ e.symm).1; omega
    have hnegn : some gn ≠ (Value.slice A3 n3 c3).ownBlock := fun e => by have := (hl2 _ e.symm).1; omega
    have q4 := (HG6.out.block K (zAp F4.out) hneK).trans F4.out
    have qn : NB w6 gn nz1 := (HG6.out.block gn (zAp FN.out) hnegn).trans FN.out
    have qg : RB w6 g A n c i5 bb5 := (HG6.out.block g HR5.out.lt hneg).trans HR5.out
    have hB6 : Below w0.heap.size w0 w6 := HB5.out.grown HG6.out (by omega) (fun k hk => by have := (hl2 k hk).1; omega)
    have hK6 : KeepBut w w6 g (some gn) := ⟨by omega, fun i hi h1 h2 => (HG6.out.block i (by omega) (fun e => by have := (hl2 _ e.symm).1; have := EK.out; omega)).trans (HK5.out.2 i hi h1 h2)⟩
    have hnew : ∀ k, (Value.slice A2 (n3 + 1) c2).ownBlock = some k → k ≠ G := fun k hk => by have := (HO6.out.lt _ hk).1; omega
    refine ⟨n3 + 1, i5, bb5, A2, n3 + 1, c2, by go_num, by omega, (zAn Q5.out 3 _).trans (by rfl), (Below.heap_setCell _ _ _ _ (show K ≠ G by omega)).trans q4, (Below.heap_setCell _ _ _ _ (show gn ≠ G by omega)).trans qn, (Below.heap_setCell _ _ _ _ (show g ≠ G by omega)).trans qg, hB6.setCell HGK.out _, ⟨by have := hK6.1; simpa using this, fun i hi h1 h2 => (Below.heap_setCell _ _ _ _ (show i ≠ G by have := EK.out; omega)).trans (hK6.2 i hi h1 h2)⟩, by simp; omega, zH ?_⟩
    rcases HT5.out with ⟨h1, h1b⟩ | ⟨t, r2, h1, h1x, h1i, h1b⟩
    ·rw [zBx hpr] at h1
     exact Or.inl ⟨h1b, by rw [HQi.out, decTs_none1 (by omega) h1]; rfl⟩
    rw [zBx hpr] at h1
    obtain ⟨p2, hp2, hp2n, hp2I, hr2, -⟩ := zDp HN.out hpn (by rw [hpr]; exact h1)
    refine Or.inr ⟨h1b, p2, vs ++ [x], r2, rfl, by rw [List.length_append, hvi]; rfl, hp2n, hr2, by rw [h1i, hp2I], ?_, ?_⟩
    ·have e : encs Value.string (vs ++ [x]) = encs Value.string vs ++ [.string x] := by simp [encs]
     rw [e]
     exact zBt HO6.out (fun k hk => Below.heap_setCell _ _ _ _ (hnew k hk))
    rw [HQi.out, decTs_step (fun l t => ((⟨4, x1, ⟨#[]⟩, l, []⟩ : S25), left, t)) (by omega) h1, show k - n3 - 1 = k - (n3 + 1) by omega, h1x]
   case measure => simp [intOf]; omega
  obtain rfl : n3 = k := by omega
  have y0 := zAb hXr 0
  have z0 := zAa hXr 0
  have y1 := zAb hXr 1
  have z1 := zAa hXr 1
  have y2 := zAb hXr 2
  have z2 := zAa hXr 2
  have y3 := zAb hXr 3
  have z3 := zAa hXr 3
  have y4 := zAb hXr 4
  have z4 := zAa hXr 4
  simp only [zC, zA, zB] at y0 y1 y2 y3 y4
  have yK0 := zAb hPr 0
  have zK0 := zAa hPr 0
  have yK1 := zAb hPr 1
  have zK1 := zAa hPr 1
  have yK2 := zAb hPr 2
  have zK2 := zAa hPr 2
  have yK3 := zAb hPr 3
  have zK3 := zAa hPr 3
  have yK4 := zAb hPr 4
  have zK4 := zAa hPr 4
  simp only [zC, zA, zB] at yK0 yK1 yK2 yK3 yK4
  clear hXr hPr hNr hRr hBr hKr hSr hO3 hQ hpn hpr hvi HST
  go_wp2
  obtain ⟨hg1, hg2, hg3, hg4⟩ := HGS.out
  obtain ⟨hpn, hpr, hvi⟩ := HIN.out
  have hO := HO3.out
  rw [← hvi] at hO
  obtain ⟨F3, gg3, F4, gg4, ev3, ev4, hMF⟩ := MF.of_rows (m := ⟨4, x1, ⟨#[]⟩, vs, []⟩) (lo' := base) hO (World.ownsRow_nil _ _ _ _) (by simpa using Reps.none _ _) (Nat.le_refl _)
  simp only at ev3 ev4
  cases ev3
  cases ev4
  obtain ⟨t1, t2, t3, t4, t5⟩ := zCg (w0 := w0) (g := g) (gn := gn) (.int .i64 4) (.string x1) (.string ⟨#[]⟩) (.slice A3 n3 c3) (.slice none 0 0) EK.out HPr.out HW.out HBr.out HKr.out
  refine bodyPost_ret (zAt rfl (.cell K 25 _ (0, 0) _ rfl t1 Try.underlying25 rfl (by kernel_rfl) .nil)) rfl ?_
  have hQf : Q = some (⟨4, x1, ⟨#[]⟩, vs, []⟩, left, rr) := by rw [HQi.out, Nat.sub_self, decTs]; simp
  rw [hQf]
  have hgood := zEu (w := w) (m := ⟨4, x1, ⟨#[]⟩, vs, []⟩) (r := rr) (l := left) EK.out (show g ≠ K by omega) (show gn ≠ K by omega) t2 t3 t4 t5 (hMF.move (fun b hb => ⟨⟨by have := hb.1; omega, hb.2⟩, rfl⟩)) (by have h := HRr.out; rw [show (p : Int) = (n : Int) - (rr.length : Nat) by have := congrArg List.length hpr; rw [List.length_drop, HN.out] at this; omega] at h; exact h) (by rw [← HNZ.out]; exact HNr.out)
  simp only [mV, hvi, List.length_nil] at hgood
  exact hgood
end Go.Proofs.Yteafilojjdfllaa
end
