/- Of any text the program reads the matcher that the document reads, or answers with the same error. No condition. -/
import Derived.Deep.CutBlock
import Derived.Lib.Join
import Derived.Lib.LazyBuf
import Derived.Test.YteafilojjdfllaaZMatchParsesD
section
namespace Go.Proofs.Yteafilojjdfllaa
open Go Go.RowKit Go.Proofs.YteafilojjdfllaaW.PrintWords Go.Proofs.YteafilojjdfllaaW.PrintLast Go.Proofs.YteafilojjdfllaaW.PrintMore Go.Proofs.Yteafilojjdfllaa.PAll
set_option linter.unusedVariables false
set_option linter.unusedSimpArgs false
section
variable {w0 w W W' : World} {g gn K : Nat} {s : ByteArray} {i j : Nat} {b b' : Bool} {nz nz' : Int}
theorem RS.moved2 (h : RS w0 w W g gn K s i b nz) (L : RL w0 w g gn K) (hB : Below w0.heap.size w0 W') (hK : KeepBut W W' g (some gn)) (hS : SB W' g s j b') (hN : NB W' gn nz') : RS w0 w W' g gn K s j b' nz' := by
 obtain ⟨L1, L2, L3, L4, L5, L6, L7⟩ := L
 have hs := blk_lt h.res
 exact ⟨hB, keep_two2 h.keep hK, hS, hN, (hK.2 K hs (by omega) (by simp; omega)).trans h.res⟩
end
/-- the reader's answer, one form for both -/
theorem rd_any {w0 w w' : World} {g gn : Nat} {s : ByteArray} {Q : Option (S25 × Nat × List UInt8)} {e : Ending} (h : RdPost w0 w g gn s Q e w') : ∃ x0 x1 x2 B3 m3 e3 B4 m4 e4 i5 b5 nz5, e = .returned (.agg #[.int .i64 x0, .string x1, .string x2, .slice B3 m3 e3, .slice B4 m4 e4]) ∧ Below w0.heap.size w0 w' ∧ KeepBut w w' g (some gn) ∧ SB w' g s i5 b5 ∧ NB w' gn nz5 ∧ i5 ≤ s.size ∧ Hid ((b5 = true ∧ Q = none) ∨ (b5 = false ∧ ∃ (m : S25) (l : Nat), Q = some (m, l, s.data.toList.drop i5) ∧ x0 = m.f0 ∧ x1 = m.f1 ∧ x2 = m.f2 ∧ m3 = m.f3.length ∧ m4 = m.f4.length ∧ MF w' (fun b => w.heap.size ≤ b ∧ b < w'.heap.size) m B3 e3 B4 e4 ∧ nz5 = 64 - (l : Int))) := by
 obtain ⟨h1, h2, ⟨h3, ⟨x0, x1, x2, A3, n3, c3, A4, n4, c4, rfl⟩, ⟨i, hi, h4⟩, k, h5⟩ | ⟨m, l, r, j, A3, c3, A4, c4, h3, hr, hj, rfl, h4, h5, h6⟩⟩ := h
 ·exact ⟨x0, x1, x2, A3, n3, c3, A4, n4, c4, i, true, k, rfl, h1, h2, h4, h5, hi, Lib.hid (Or.inl ⟨rfl, h3⟩)⟩
 ·subst hr
  exact ⟨_, _, _, A3, _, c3, A4, _, c4, j, false, _, rfl, h1, h2, h5, h6, hj, Lib.hid (Or.inr ⟨rfl, m, l, h3, rfl, rfl, rfl, rfl, rfl, h4, rfl⟩)⟩
/-- a kid more -/
theorem kid_step {n p d l2 : Nat} {s : ByteArray} {op : Int} {ks : List S25} {Q : Option (S25 × Nat × List UInt8)} (hn : n ≤ 63)
  (hQ : Q = (readML cutN stepR false d (65 - n) l2 (s.data.toList.drop p)).map (fun q => ((⟨op, ⟨#[]⟩, ⟨#[]⟩, [], ks ++ q.1⟩ : S25), q.2))) :
  (readM cutN stepR false d l2 (s.data.toList.drop p) = none → Q = none) ∧ (∀ m l3 t, readM cutN stepR false d l2 (s.data.toList.drop p) = some (m, l3, t) → Q = (restK cutN stepR false d (65 - (n + 1)) l3 t).map (fun q => ((⟨op, ⟨#[]⟩, ⟨#[]⟩, [], (ks ++ [m]) ++ q.1⟩ : S25), q.2))) := by
 rw [show 65 - n = (65 - (n + 1)) + 1 by omega, readML_rest] at hQ
 refine ⟨fun h => (by rw [hQ, h]; rfl), fun m l3 t h => ?_⟩
 rw [hQ, h]
 simp only [Option.map_map]
 congr 1
 funext q
 simp
/-- a row of kids of its own -/
def RowK (W : World) (base : Nat) (A : Option Addr) (n c : Nat) (ks : List S25) (cells : List Value) : Prop := W.ownsRow base 25 5 (.slice A n c) n cells ∧ Reps (KR W (Part base W (.slice A n c))) 5 ks cells
theorem RowK.keep {W W' : World} {base n c : Nat} {A : Option Addr} {ks : List S25} {cells : List Value} (h : RowK W base A n c ks cells) (hs : W.heap.size ≤ W'.heap.size) (hf : ∀ b, base ≤ b → b < W.heap.size → W'.heap[b]? = W.heap[b]?) : RowK W' base A n c ks cells :=
 ⟨own_move h.1 (fun k hk => hf k (h.1.lt _ hk).1 (h.1.lt _ hk).2), h.2.imp_ (fun p c hk => hk.move (fun b hb => ⟨⟨hb.1, by have := hb.2.1; omega, hb.2.2⟩, hf b hb.1 hb.2.1⟩))⟩
theorem row_kid {wr w5 V5 w6 : World} {base n c c2 e3 e4 : Nat} {A A2 B3 B4 : Option Addr} {ks : List S25} {cells : List Value} {m : S25} (h : RowK wr base A n c ks cells) (hs5 : wr.heap.size ≤ w5.heap.size) (hK5 : ∀ b, base ≤ b → b < wr.heap.size → w5.heap[b]? = wr.heap[b]?) (hBV : Below w5.heap.size w5 V5) (hg6 : V5.grownBy w6 (Value.slice A n c).ownBlock)
  (hown6 : w6.ownsRow base 25 5 (.slice A2 (n + 1) c2) (n + 1) (cells ++ [.int .i64 m.f0, .string m.f1, .string m.f2, .slice B3 m.f3.length e3, .slice B4 m.f4.length e4])) (hat6 : (Value.slice A2 (n + 1) c2).ownBlock = (Value.slice A n c).ownBlock ∨ ∃ b, (Value.slice A2 (n + 1) c2).ownBlock = some b ∧ V5.heap.size ≤ b)
  (hM : MF w5 (fun b => wr.heap.size ≤ b ∧ b < w5.heap.size) m B3 e3 B4 e4) (hbase : base ≤ wr.heap.size) : RowK w6 base A2 (n + 1) c2 (ks ++ [m]) (cells ++ [.int .i64 m.f0, .string m.f1, .string m.f2, .slice B3 m.f3.length e3, .slice B4 m.f4.length e4]) := by
 have hv := hBV.size
 have hs6 := hg6.size
 have hlt := h.1.lt
 have hfar : ∀ b, b < V5.heap.size → (Value.slice A n c).ownBlock ≠ some b → (Value.slice A2 (n + 1) c2).ownBlock ≠ some b := fun b hb hne e => by
  rcases hat6 with h | ⟨b', h, hb'⟩
  ·exact hne (h.symm.trans e)
  ·rw [h] at e; cases e; omega
 have hmove : ∀ b, b < w5.heap.size → (Value.slice A n c).ownBlock ≠ some b → w6.heap[b]? = w5.heap[b]? := fun b hb h1 => (hg6.block b (by omega) (fun e => h1 e.symm)).trans (hBV.block b hb)
 refine ⟨hown6, Reps.snoc (h.2.imp_ (fun p c hk => hk.move (fun b hb => ?_))) ⟨B3, e3, B4, e4, rfl, hM.move (fun b hb => ?_)⟩ rfl⟩
 ·obtain ⟨b1, b2, b3⟩ := hb
  exact ⟨⟨b1, by omega, hfar b (by omega) b3⟩, (hmove b (by omega) b3).trans (hK5 b b1 b2)⟩
 ·obtain ⟨b1, b2⟩ := hb
  have b3 : (Value.slice A n c).ownBlock ≠ some b := fun e => by have := (hlt b e).2; omega
  exact ⟨⟨by omega, by omega, hfar b (by omega) b3⟩, hmove b b2 b3⟩
/-- what is known at the loop's head -/
def KST (w0 w wr : World) (g gn K G1 : Nat) (s : ByteArray) (d left : Nat) (op : Int) (Q : Option (S25 × Nat × List UInt8)) (n p : Nat) (b : Bool) (nzr : Int) (A : Option Addr) (c : Nat) : Prop :=
 (b = true ∧ Q = none) ∨ (b = false ∧ ∃ (l2 : Nat) (ks : List S25) (cells : List Value), nzr = 64 - (l2 : Int) ∧ n + l2 ≤ left ∧ ks.length = n ∧ wr.ownsRow (G1 + 1) 25 5 (.slice A n c) n cells ∧ Reps (KR wr (Part (G1 + 1) wr (.slice A n c))) 5 ks cells ∧ Q = (readML cutN stepR false d (65 - n) l2 (s.data.toList.drop p)).map (fun q => ((⟨op, ⟨#[]⟩, ⟨#[]⟩, [], ks ++ q.1⟩ : S25), q.2)))
set_option maxRecDepth 100000 in
set_option maxHeartbeats 32000000 in
/-- kids: op 5. -/
theorem rd146k5 (w0 w : World) (g gn : Nat) (s : ByteArray) (i left d : Nat) (hl : left ≤ 63) (hi : i ≤ s.size) (hs : s.size ≤ 1000000000) (hg : w0.heap.size ≤ g) (hgn : w0.heap.size ≤ gn) (hne : g ≠ gn) (hB : Below w0.heap.size w0 w) (hS : SB w g s i false) (nz : Int) (hN : NB w gn nz) (hnz : nz = 63 - (left : Int)) (h42 : nextB 42 (s.data.toList.drop i) = false) (hc : nextB 38 (s.data.toList.drop i) = true) (hld : left < d) (ih : IHd w0 g gn s d) :
  Calls Try.prog 146 #[.pointer (some ⟨g, 0, none⟩), .pointer (some ⟨gn, 0, none⟩)] w (RdPost w0 w g gn s (readM cutN stepR false (d + 1) (left + 1) (s.data.toList.drop i))) := by
 have IH := Lib.hid ih
 clear ih
 obtain ⟨Q, eQ⟩ : ∃ Q, readM cutN stepR false (d + 1) (left + 1) (s.data.toList.drop i) = Q := ⟨_, rfl⟩
 rw [eQ]
 rw [readM_step _ _ _ _ _ _ rfl] at eQ
 have HQ := Lib.hid eQ
 clear eQ
 rw [if_neg (by rw [h42]; decide), if_pos hc, List.drop_drop] at HQ
 have EC := Lib.hid hc
 have E42 := Lib.hid h42
 have hi1 : i + 1 ≤ s.size := next_lt hc
 clear hc h42
 have hgl := hS.lt
 have hgnl := blk_lt hN
 have hne2 := hne.symm
 obtain ⟨nz1, hnz1⟩ : ∃ nz1, nz + 1 = nz1 := ⟨_, rfl⟩
 have hw1 : wrap64 (nz + 1) = nz1 := by unfold wrap64; omega
 have hN2 : NB (w.alloc (.cells Z5 25)) gn nz := (Below.heap_alloc _ _ _ hgnl).trans hN
 have m0 := blk_cell hN2 0
 have mz0 := blk_frozen hN2 0
 simp only [List.getElem?_toArray, List.getElem?_cons_zero] at m0
 have t1 : ¬ (64 : Int) < nz1 := by omega
 have t2 : decide ((64 : Int) < nz1) = false := decide_eq_false t1
 obtain ⟨V, eV⟩ : ∃ V, V = (w.alloc (.cells Z5 25)).setCell ⟨gn, 0, none⟩ (.int .i64 nz1) := ⟨_, rfl⟩
 obtain ⟨K, eK⟩ : ∃ K, w.heap.size = K := ⟨_, rfl⟩
 have HL := Lib.hid (show RL w0 w g gn K from ⟨hg, hgn, hne, hgl, hgnl, eK.symm, hB.size⟩)
 have HV : Hid (RS w0 w V g gn K s i false nz1) := Lib.hid (by
  rw [eV, ← eK]
  refine ⟨(below_alloc hB _).setCell hgn _, ⟨by simp, fun i hi h1 h2 => ?_⟩, (Below.heap_setCell _ _ _ _ hne).trans ((Below.heap_alloc _ _ _ hgl).trans hS), (blk_set hN2 0 _).trans (by rfl), (Below.heap_setCell _ _ _ _ (by simp; omega)).trans (blk_new w _)⟩
  have h3 : i ≠ gn := fun e => h2 (by rw [e])
  exact (Below.heap_setCell _ _ _ _ h3).trans (Below.heap_alloc _ _ _ hi))
 have HNZ := Lib.hid (show nz1 = 64 - (left : Int) by omega)
 have HKS := Lib.hid (show V.heap.size = K + 1 by rw [eV, World.size_setCell, World.size_alloc, eK])
 clear hS hB hN hN2 hgl hgnl hnz hnz1
 go_enter Try.func146, Try.ntmps146
 go_upto_region 4 with fail
 rw [← eV]
 clear eV m0 mz0 t1 t2 hw1 hne2 eK
 have cB := HV.out.cB
 have H1 := Lib.hid (isF w0 V g s (i) 42 42 rfl E42.out hi hs hg HV.out.below HV.out.sb)
 go_wp2_with fail
 (with_reducible refine H1.out.mono ?_)
 rintro ee w1 ⟨rfl, hk1⟩
 have H1n : Hid (RS w0 w w1 g gn K s (i) false nz1) := Lib.hid (HV.out.moved HL.out hk1)
 clear H1 hk1
 have H7 := Lib.hid (isT w0 w1 g s (i) 38 38 rfl EC.out hi hs hg H1n.out.below H1n.out.sb)
 go_wp2_with fail
 (with_reducible refine H7.out.mono ?_)
 rintro ee w7 ⟨rfl, hk7⟩
 have H7n : Hid (RS w0 w w7 g gn K s (i + 1) false nz1) := Lib.hid (H1n.out.moved HL.out hk7)
 clear H7 hk7
 clear HV
 go_upto_region 15 with fail
 obtain ⟨G1, eG1⟩ : ∃ G1, w7.heap.size = G1 := ⟨_, rfl⟩
 rw [eG1]
 obtain ⟨X, eX⟩ : ∃ X, X = w7.alloc (.cells #[.int .i64 5, .string ⟨#[]⟩, .string ⟨#[]⟩, .slice none 0 0, .slice none 0 0] 25) := ⟨_, rfl⟩
 rw [← eX]
 have hbX : Below w7.heap.size w7 X := by rw [eX]; exact below_alloc (Below.refl _ _) _
 have HXX : Hid (RS w0 w X g gn K s (i + 1) false nz1) := Lib.hid (H7n.out.below_ hbX HL.out)
 have HG : Hid (X.heap[G1]? = some (.cells #[.int .i64 5, .string ⟨#[]⟩, .string ⟨#[]⟩, .slice none 0 0, .slice none 0 0] 25 (0, 0))) := Lib.hid (by rw [eX, ← eG1]; exact blk_new w7 _)
 have hKG : K < G1 := by have := blk_lt H7n.out.res; omega
 have HXS := Lib.hid (show G1 + 1 ≤ X.heap.size by rw [eX, World.size_alloc]; omega)
 have HKG := Lib.hid hKG
 have hne1 : G1 ≠ K := by omega
 have hne2 : K ≠ G1 := by omega
 have hng1 : G1 ≠ g := by have := HL.out.gl; have := HL.out.eK; omega
 have hng2 : g ≠ G1 := by have := HL.out.gl; have := HL.out.eK; omega
 have HNG := Lib.hid (And.intro hne1 (And.intro hne2 (And.intro hng1 (And.intro hng2 (show G1 ≠ gn by have := HL.out.gnl; have := HL.out.eK; omega)))))
 have H8 := Lib.hid (mustAny w0 X g s (i + 1) false 40 40 rfl hi1 hs hg HXX.out.below HXX.out.sb)
 clear eX eG1 hbX H7n hKG hne1 hne2 hng1 hng2 H1n
 go_wp2_with fail
 refine H8.out.mono ?_
 rintro ee w8 ⟨i8, b8, rfl, hk8, hi8, HT8⟩
 have H8n : Hid (RS w0 w w8 g gn K s i8 b8 nz1) := Lib.hid (HXX.out.moved HL.out hk8)
 have HG8 := Lib.hid ((hk8.2.1.2 G1 (by have := HXS.out; omega) HNG.out.2.2.1 (by simp)).trans HG.out)
 have H9 := Lib.hid (isAny w0 w8 g s i8 b8 41 41 rfl hi8 hs hg H8n.out.below H8n.out.sb)
 clear H8 hk8 HXX HG
 go_wp2_with fail
 refine H9.out.mono ?_
 rintro ee w9 ⟨v9, i9, rfl, hk9, hi9, HT9⟩
 have H9n : Hid (RS w0 w w9 g gn K s i9 b8 nz1) := Lib.hid (H8n.out.moved HL.out hk9)
 have HG9 := Lib.hid ((hk9.2.1.2 G1 (blk_lt HG8.out) HNG.out.2.2.1 (by simp)).trans HG8.out)
 have HS9 := Lib.hid (show G1 + 1 ≤ w9.heap.size by have := blk_lt HG9.out; omega)
 clear H9 hk9 H8n HG8 HXS
 cases v9 with
 | true =>
  have hf : b8 = false ∧ nextB 40 (s.data.toList.drop (i + 1)) = true ∧ nextB 41 (s.data.toList.drop (i + 1 + 1)) = true ∧ i9 = i + 1 + 1 + 1 := by
   rcases HT9.out with ⟨-, h1, h2, h3⟩ | ⟨h, -⟩
   ·rcases HT8.out with ⟨h, -⟩ | ⟨-, -, h4, rfl⟩
    ·rw [h1] at h; cases h
    ·exact ⟨h1, h4, h2, h3⟩
   ·cases h
  obtain ⟨rfl, hn1, hn2, rfl⟩ := hf
  have HQn := Lib.hid (show Q = some (⟨5, ⟨#[]⟩, ⟨#[]⟩, [], []⟩, left, s.data.toList.drop (i + 1 + 1 + 1)) by
   rw [← HQ.out]
   unfold listK
   rw [if_pos hn1, List.drop_drop, if_pos hn2, List.drop_drop]
   rfl)
  have y0 := blk_cell HG9.out 0
  have y1 := blk_cell HG9.out 1
  have y2 := blk_cell HG9.out 2
  have y3 := blk_cell HG9.out 3
  have y4 := blk_cell HG9.out 4
  simp only [List.getElem?_toArray, List.getElem?_cons_zero, List.getElem?_cons_succ] at y0 y1 y2 y3 y4
  have xk0 := H9n.out.k0
  have xk1 := H9n.out.k1
  have xk2 := H9n.out.k2
  have xk3 := H9n.out.k3
  have xk4 := H9n.out.k4
  have xz0 := H9n.out.zK 0
  have xz1 := H9n.out.zK 1
  have xz2 := H9n.out.zK 2
  have xz3 := H9n.out.zK 3
  have xz4 := H9n.out.zK 4
  have hne1 : G1 ≠ K := HNG.out.1
  have hne2 : K ≠ G1 := HNG.out.2.1
  clear HT8 HT9 hn1 hn2
  go_wp2
  have hT := H9n.out.good (m := ⟨5, ⟨#[]⟩, ⟨#[]⟩, [], []⟩) (A3 := none) (c3 := 0) (A4 := none) (c4 := 0) HL.out hi9 rfl HNZ.out (fun X _ => ⟨Nat.le_refl _, Kd.C_nil _ _, Nat.le_refl _, Kd.C_nil _ _⟩)
  rw [HQn.out]
  exact bodyPost_ret (results_single rfl (.cell K 25 _ (0, 0) _ rfl hT.1 Try.underlying25 rfl (by kernel_rfl) .nil)) rfl hT.2
 | false =>
  have HST : Hid (KST w0 w w9 g gn K G1 s d left 5 Q 0 i9 b8 nz1 none 0) := Lib.hid (by
   unfold KST
   rw [← HQ.out]
   unfold listK
   rcases HT9.out with ⟨h, -⟩ | ⟨-, rfl, h9⟩
   ·cases h
   ·rcases HT8.out with ⟨rfl, h | h⟩ | ⟨rfl, -, h, rfl⟩
    ·cases h
    ·exact Or.inl ⟨rfl, by rw [if_neg (by rw [h]; decide)]; rfl⟩
    ·rcases h9 with h' | h'
     ·cases h'
     ·refine Or.inr ⟨rfl, left, [], [], HNZ.out, by omega, rfl, World.ownsRow_nil _ _ _ _, by simpa using Reps.none _ _, ?_⟩
      rw [if_pos h, List.drop_drop, if_neg (by rw [h']; decide)]
      cases readML cutN stepR false d 65 left (s.data.toList.drop (i + 1 + 1)) <;> rfl)
  clear HT8 HT9 HQ
  go_upto_block 1 with fail
  go_cut [] from 50 to 67 (fun wx => ∃ (n p : Nat) (b : Bool) (nzr : Int) (A : Option Addr) (c : Nat), p ≤ s.size ∧ Hid (RS w0 w wx g gn K s p b nzr) ∧ Hid (wx.heap[G1]? = some (.cells #[.int .i64 5, .string ⟨#[]⟩, .string ⟨#[]⟩, .slice none 0 0, .slice A n c] 25 (0, 0))) ∧ Hid ((b = true ∧ Q = none) ∨ (b = false ∧ ∃ (l2 : Nat) (ks : List S25) (cells : List Value), nzr = 64 - (l2 : Int) ∧ ks.length = n ∧ wx.ownsRow (G1 + 1) 25 5 (.slice A n c) n cells ∧ Reps (KR wx (Part (G1 + 1) wx (.slice A n c))) 5 ks cells ∧ Q = some (⟨5, ⟨#[]⟩, ⟨#[]⟩, [], ks⟩, l2, s.data.toList.drop p))))
  case first =>
   go_wp2_with fail
   go_loopw [7] (fun u7 wr => ∃ (n p : Nat) (b : Bool) (nzr : Int) (A : Option Addr) (c : Nat), p ≤ s.size ∧ Hid (RS w0 w wr g gn K s p b nzr) ∧ Hid (wr.heap[G1]? = some (.cells #[.int .i64 5, .string ⟨#[]⟩, .string ⟨#[]⟩, .slice none 0 0, .slice A n c] 25 (0, 0))) ∧ Hid (KST w0 w wr g gn K G1 s d left 5 Q n p b nzr A c) ∧ Hid (G1 + 1 ≤ wr.heap.size))
    (fun _ wr => 70 - lenV ((wr.cell? ⟨G1, 4, none⟩).getD undef))
   case atStart => exact ⟨0, i9, b8, nz1, none, 0, hi9, H9n, HG9, HST, HS9⟩
   case round =>
    obtain ⟨n, p, b, nzr, A, c, hp, HR, HGr, HS2, HSZ⟩ := hrel
    clear H9n HG9 HST HS9
    have cB := HR.out.cB
    have y4 : wr.cell? ⟨G1, 4, none⟩ = some (.slice A n c) := (blk_cell HGr.out 4).trans rfl
    have HY4 := Lib.hid y4
    cases b with
    | true =>
     have HQn := Lib.hid (show Q = none by
      rcases HS2.out with ⟨-, h⟩ | ⟨h, -⟩
      ·exact h
      ·cases h)
     clear HS2
     go_wp2
     go_meet
     case rel => exact ⟨n, p, true, nzr, A, c, hp, HR, HGr, Lib.hid (Or.inl ⟨rfl, HQn.out⟩)⟩
    | false =>
     obtain ⟨l2, ks, cells, hnz2, hnl, hkl, hO, hRp, hQ2⟩ : ∃ (l2 : Nat) (ks : List S25) (cells : List Value), nzr = 64 - (l2 : Int) ∧ n + l2 ≤ left ∧ ks.length = n ∧ wr.ownsRow (G1 + 1) 25 5 (.slice A n c) n cells ∧ Reps (KR wr (Part (G1 + 1) wr (.slice A n c))) 5 ks cells ∧ Q = (readML cutN stepR false d (65 - n) l2 (s.data.toList.drop p)).map (fun q => ((⟨5, ⟨#[]⟩, ⟨#[]⟩, [], ks ++ q.1⟩ : S25), q.2)) := by
      rcases HS2.out with ⟨h, -⟩ | ⟨-, h⟩
      ·cases h
      ·exact h
     have H1 := Lib.hid (IH.out wr p l2 nzr (by omega) (by omega) hp HR.out.below HR.out.sb HR.out.nb hnz2)
     have HO := Lib.hid hO
     have HRp := Lib.hid hRp
     have HQ2 := Lib.hid (kid_step (by omega) hQ2)
     have HNL := Lib.hid (And.intro hnl hkl)
     have hn63 : n ≤ 63 := by omega
     have HRK : Hid (RowK wr (G1 + 1) A n c ks cells) := Lib.hid ⟨hO, hRp⟩
     have HLT := Lib.hid (fun q (hq : (Value.slice A n c).ownBlock = some q) => hO.lt _ hq)
     clear hO hRp hQ2 hnl hkl hnz2 HS2
     go_wp2_with fail
     refine H1.out.mono ?_
     intro ee w5 hp5
     obtain ⟨x0, x1, x2, B3, m3, e3, B4, m4, e4, i5, b5, nz5, rfl, hB5, hK5, hS5, hN5, hi5, HT5⟩ := rd_any hp5
     have HNG5 := HNG.out.2.2.2.2
     have hg1 := HNG.out.2.2.1
     have hgl : g < G1 ∧ gn < G1 := ⟨by have := HL.out.gl; have := HL.out.eK; have := HKG.out; omega, by have := HL.out.gnl; have := HL.out.eK; have := HKG.out; omega⟩
     have HR5 : Hid (RS w0 w w5 g gn K s i5 b5 nz5) := Lib.hid (HR.out.moved2 HL.out hB5 hK5 hS5 hN5)
     have hfar5 : ∀ b, G1 ≤ b → b < wr.heap.size → w5.heap[b]? = wr.heap[b]? := fun b h1 h2 => hK5.2 b h2 (by omega) (by simp; omega)
     have hG5 := (hfar5 G1 (Nat.le_refl _) (by have := HSZ.out; omega)).trans HGr.out
     obtain ⟨V5, eV5⟩ : ∃ V5, V5 = w5.alloc (.cells #[.int .i64 x0, .string x1, .string x2, .slice B3 m3 e3, .slice B4 m4 e4] 25) := ⟨_, rfl⟩
     have hBV5 : Below w5.heap.size w5 V5 := by rw [eV5]; exact below_alloc (Below.refl _ _) _
     have hG5a := (hBV5.block G1 (blk_lt hG5)).trans hG5
     have HG5 := Lib.hid hG5a
     have HRV := Lib.hid (HR5.out.below_ hBV5 HL.out)
     have HO5 := Lib.hid (pw_own_below (own_move HRK.out.1 (fun q hq => hfar5 q (by have := (HLT.out q hq).1; omega) (HLT.out q hq).2)) hBV5)
     have HK5 := Lib.hid (And.intro hK5.1 hfar5)
     have HBV5 := Lib.hid hBV5
     have HV5S := Lib.hid (show V5.heap.size = w5.heap.size + 1 by rw [eV5, World.size_alloc])
     have HS5 := Lib.hid (show G1 + 1 ≤ V5.heap.size by have := hBV5.size; have := hK5.1; have := HSZ.out; omega)
     have y4a : (w5.alloc (.cells #[.int .i64 x0, .string x1, .string x2, .slice B3 m3 e3, .slice B4 m4 e4] 25)).cell? ⟨G1, 4, none⟩ = some (.slice A n c) := by rw [← eV5]; exact (blk_cell hG5a 4).trans rfl
     clear hB5 hK5 hS5 hN5 hfar5 hG5 hG5a hBV5 hp5 H1 HR5 HNG5 hg1 hgl
     go_wp2_with (at_builtin; rw [← eV5]; refine print_append_cells (w0 := V5) (W := V5) (G1 + 1) rfl (.tmp 59) (.tmp 61) 23 25 (.agg Z5) 5 88 rfl Try.underlying23 infoM rfl (by decide) (by decide) (.slice A n c) n cells [.int .i64 x0, .string x1, .string x2, .slice B3 m3 e3, .slice B4 m4 e4] rfl (by rw [HV5S.out]; rfl) rfl (by intro u hu; simp only [List.mem_cons, List.not_mem_nil, or_false] at hu; rcases hu with rfl | rfl | rfl | rfl | rfl <;> rfl) HO5.out (Below.refl _ _) HS5.out (by omega) ?_; intro v2 w6 hown6 hb6 hg6 hat6; obtain ⟨A2, c2, rfl⟩ := own_slice hown6; have hlo := HLT.out; have hneG : some G1 ≠ (Value.slice A n c).ownBlock := (fun e => by have := (hlo _ e.symm).1; omega); have q5 := (hg6.block G1 (blk_lt HG5.out) hneG).trans HG5.out; have Q5 := Lib.hid q5; have zO4 := blk_frozen q5 4; have cO4 : w6.cell? ⟨G1, 4, none⟩ = some (.slice A n c) := (blk_cell q5 4).trans rfl; have HG6 := Lib.hid hg6; have HO6 := Lib.hid hown6; have HAT := Lib.hid hat6; clear hg6 hb6 hown6 hat6 q5 hneG hlo)
     have HB6 : Hid (RS w0 w w6 g gn K s i5 b5 nz5) := Lib.hid (HRV.out.grown HL.out HG6.out (fun q hq => by have := (HLT.out q hq).1; have := HKG.out; omega))
     obtain ⟨wc, ewc⟩ : ∃ wc, wc = w6.setCell ⟨G1, 4, none⟩ (.slice A2 (n + 1) c2) := ⟨_, rfl⟩
     have HC : Hid (RS w0 w wc g gn K s i5 b5 nz5) := Lib.hid (by rw [ewc]; exact HB6.out.setG HL.out HKG.out 4 _)
     have HGc : Hid (wc.heap[G1]? = some (.cells #[.int .i64 5, .string ⟨#[]⟩, .string ⟨#[]⟩, .slice none 0 0, .slice A2 (n + 1) c2] 25 (0, 0))) := Lib.hid (by rw [ewc]; exact (blk_set Q5.out 4 _).trans (by rfl))
     have HSc := Lib.hid (show G1 + 1 ≤ wc.heap.size by rw [ewc, World.size_setCell]; have := HG6.out.size; have := HS5.out; omega)
     have HM : Hid ((b5 = true ∧ Q = none) ∨ (b5 = false ∧ ∃ (l3 : Nat) (m : S25) (cells2 : List Value), nz5 = 64 - (l3 : Int) ∧ n + 1 + l3 ≤ left ∧ RowK wc (G1 + 1) A2 (n + 1) c2 (ks ++ [m]) cells2 ∧ Q = (restK cutN stepR false d (65 - (n + 1)) l3 (s.data.toList.drop i5)).map (fun q => ((⟨5, ⟨#[]⟩, ⟨#[]⟩, [], (ks ++ [m]) ++ q.1⟩ : S25), q.2)))) := Lib.hid (by
      rcases HT5.out with ⟨rfl, h⟩ | ⟨rfl, m, l3, h, rfl, rfl, rfl, rfl, rfl, hMF, h2⟩
      ·exact Or.inl ⟨rfl, HQ2.out.1 h⟩
      ·have hr := row_kid HRK.out HK5.out.1 (fun b h1 h2 => HK5.out.2 b (by omega) h2) HBV5.out HG6.out HO6.out HAT.out hMF HSZ.out
       have hr2 : RowK wc (G1 + 1) A2 (n + 1) c2 (ks ++ [m]) (cells ++ [.int .i64 m.f0, .string m.f1, .string m.f2, .slice B3 m.f3.length e3, .slice B4 m.f4.length e4]) := by
        rw [ewc]
        exact hr.keep (by rw [World.size_setCell]; exact Nat.le_refl _) (fun b h1 h2 => Below.heap_setCell _ _ _ _ (show b ≠ G1 by omega))
       exact Or.inr ⟨rfl, l3, m, _, h2, by have := (readM_suf _ _ _ _ _ _ h).2; have := HNL.out.1; omega, hr2, HQ2.out.2 m l3 _ h⟩)
     have H2 := Lib.hid (isAny w0 wc g s i5 b5 41 41 rfl hi5 hs hg HC.out.below HC.out.sb)
     rw [← ewc]
     clear ewc HB6 HRV HG6 HO6 HAT Q5 zO4 cO4 HO5 HG5 HS5 HLT HT5 HK5 HBV5 HV5S y4a eV5 HRK HR HGr HSZ y4 cB HQ2
     refine H2.out.mono ?_
     rintro ee wd ⟨v, iq, rfl, hkd, hid, HTd⟩
     have HD : Hid (RS w0 w wd g gn K s iq b5 nz5) := Lib.hid (HC.out.moved HL.out hkd)
     obtain ⟨hkb, hkk, hks⟩ := hkd
     have hgl : g < G1 := by have := HL.out.gl; have := HL.out.eK; have := HKG.out; omega
     have hfd : ∀ b, G1 + 1 ≤ b → b < wc.heap.size → wd.heap[b]? = wc.heap[b]? := fun b h1 h2 => hkk.2 b h2 (by omega) (by simp)
     have HGd := Lib.hid ((hkk.2 G1 (blk_lt HGc.out) HNG.out.2.2.1 (by simp)).trans HGc.out)
     have HSd := Lib.hid (Nat.le_trans HSc.out hkk.1)
     have HMd : Hid ((b5 = true ∧ Q = none) ∨ (b5 = false ∧ ∃ (l3 : Nat) (m : S25) (cells2 : List Value), nz5 = 64 - (l3 : Int) ∧ n + 1 + l3 ≤ left ∧ RowK wd (G1 + 1) A2 (n + 1) c2 (ks ++ [m]) cells2 ∧ Q = (restK cutN stepR false d (65 - (n + 1)) l3 (s.data.toList.drop i5)).map (fun q => ((⟨5, ⟨#[]⟩, ⟨#[]⟩, [], (ks ++ [m]) ++ q.1⟩ : S25), q.2)))) := Lib.hid (HM.out.imp id (fun ⟨h, l3, m, cells2, h1, h2, h3, h4⟩ => ⟨h, l3, m, cells2, h1, h2, h3.keep hkk.1 hfd, h4⟩))
     clear hkb hkk hks HGc HSc HC H2 HM hfd
     cases v with
     | true =>
      have hf : b5 = false ∧ nextB 41 (s.data.toList.drop i5) = true ∧ iq = i5 + 1 := by
       rcases HTd.out with ⟨-, h1, h2, h3⟩ | ⟨h, -⟩
       ·exact ⟨h1, h2, h3⟩
       ·cases h
      have HF := Lib.hid hf
      clear hf HTd
      go_wp2
      go_meet
      case rel =>
       obtain ⟨rfl, hnx, rfl⟩ := HF.out
       refine ⟨n + 1, i5 + 1, false, nz5, A2, c2, hid, HD, HGd, Lib.hid (Or.inr ⟨rfl, ?_⟩)⟩
       rcases HMd.out with ⟨h, -⟩ | ⟨-, l3, m, cells2, h1, h2, h3, h4⟩
       ·cases h
       ·refine ⟨l3, ks ++ [m], cells2, h1, by rw [List.length_append, HNL.out.2]; rfl, h3.1, h3.2, ?_⟩
        rw [h4]
        unfold restK
        rw [if_pos hnx, List.drop_drop]
        simp
     | false =>
      have HF := Lib.hid (show iq = i5 ∧ (b5 = true ∨ nextB 41 (s.data.toList.drop i5) = false) by
       rcases HTd.out with ⟨h, -⟩ | ⟨-, h1, h2⟩
       ·cases h
       ·exact ⟨h1, h2⟩)
      have H3 := Lib.hid (mustAny w0 wd g s iq b5 44 44 rfl hid hs hg HD.out.below HD.out.sb)
      clear HTd
      go_wp2_with fail
      refine H3.out.mono ?_
      rintro ee we ⟨ie, be, rfl, hke, hie, HTe⟩
      have HE : Hid (RS w0 w we g gn K s ie be nz5) := Lib.hid (HD.out.moved HL.out hke)
      obtain ⟨hkb, hkk, hks⟩ := hke
      have hfe : ∀ b, G1 + 1 ≤ b → b < wd.heap.size → we.heap[b]? = wd.heap[b]? := fun b h1 h2 => hkk.2 b h2 (by omega) (by simp)
      have HGe := Lib.hid ((hkk.2 G1 (blk_lt HGd.out) HNG.out.2.2.1 (by simp)).trans HGd.out)
      have HSe := Lib.hid (Nat.le_trans HSd.out hkk.1)
      have HKe : Hid (KST w0 w we g gn K G1 s d left 5 Q (n + 1) ie be nz5 A2 c2) := Lib.hid (by
       unfold KST
       obtain ⟨rfl, hf2⟩ := HF.out
       rcases HMd.out with ⟨rfl, h⟩ | ⟨rfl, l3, m, cells2, h1, h2, h3, h4⟩
       ·rcases HTe.out with ⟨rfl, -⟩ | ⟨-, h', -⟩
        ·exact Or.inl ⟨rfl, h⟩
        ·cases h'
       ·rcases hf2 with h' | hn1
        ·cases h'
        ·rcases HTe.out with ⟨rfl, h' | hn2⟩ | ⟨rfl, -, hn2, rfl⟩
         ·cases h'
         ·refine Or.inl ⟨rfl, ?_⟩
          rw [h4]; unfold restK; rw [if_neg (by rw [hn1]; decide), if_neg (by rw [hn2]; decide)]; rfl
         ·have hk := h3.keep hkk.1 hfe
          refine Or.inr ⟨rfl, l3, ks ++ [m], cells2, h1, h2, by rw [List.length_append, HNL.out.2]; rfl, hk.1, hk.2, ?_⟩
          rw [h4]; unfold restK; rw [if_neg (by rw [hn1]; decide), if_pos hn2, List.drop_drop])
      clear hkb hkk hks HGd HSd HD H3 HTe HF HMd hfe
      go_wp2
      go_roundw
      case rel => exact ⟨n + 1, ie, be, nz5, A2, c2, hie, HE, HGe, HKe, HSe⟩
      case measure =>
       have h1 : we.cell? ⟨G1, 4, none⟩ = some (.slice A2 (n + 1) c2) := (blk_cell HGe.out 4).trans rfl
       rw [h1, HY4.out]
       simp [lenV]
       omega
  case rest =>
   obtain ⟨n, p, b, nzr, A, c, hp, HR, HGr, HS2⟩ := hcut
   clear H9n HG9 HST HS9
   have y0 := blk_cell HGr.out 0
   have y1 := blk_cell HGr.out 1
   have y2 := blk_cell HGr.out 2
   have y3 := blk_cell HGr.out 3
   have y4 := blk_cell HGr.out 4
   have xk0 := HR.out.k0
   have xk1 := HR.out.k1
   have xk2 := HR.out.k2
   have xk3 := HR.out.k3
   have xk4 := HR.out.k4
   have xz0 := HR.out.zK 0
   have xz1 := HR.out.zK 1
   have xz2 := HR.out.zK 2
   have xz3 := HR.out.zK 3
   have xz4 := HR.out.zK 4
   simp only [List.getElem?_toArray, List.getElem?_cons_zero, List.getElem?_cons_succ] at y0 y1 y2 y3 y4
   have hne1 : G1 ≠ K := HNG.out.1
   have hne2 : K ≠ G1 := HNG.out.2.1
   cases b with
   | true =>
    have HQn := Lib.hid (show Q = none by
     rcases HS2.out with ⟨-, h⟩ | ⟨h, -⟩
     ·exact h
     ·cases h)
    clear HS2
    go_wp2
    have hT := HR.out.bad HL.out hp 5 ⟨#[]⟩ ⟨#[]⟩ none 0 0 A n c
    rw [HQn.out]
    exact bodyPost_ret (results_single rfl (.cell K 25 _ (0, 0) _ rfl hT.1 Try.underlying25 rfl (by kernel_rfl) .nil)) rfl hT.2
   | false =>
    obtain ⟨l2, ks, cells, h1, h2, h3, h4, h5⟩ : ∃ (l2 : Nat) (ks : List S25) (cells : List Value), nzr = 64 - (l2 : Int) ∧ ks.length = n ∧ wc.ownsRow (G1 + 1) 25 5 (.slice A n c) n cells ∧ Reps (KR wc (Part (G1 + 1) wc (.slice A n c))) 5 ks cells ∧ Q = some (⟨5, ⟨#[]⟩, ⟨#[]⟩, [], ks⟩, l2, s.data.toList.drop p) := by
     rcases HS2.out with ⟨h, -⟩ | ⟨-, h⟩
     ·cases h
     ·exact h
    subst h2
    have HQn := Lib.hid h5
    have HO := Lib.hid (And.intro h3 h4)
    have HNR := Lib.hid h1
    clear HS2 h1 h3 h4 h5
    go_wp2
    obtain ⟨F3, gg3, F4, gg4, ev3, ev4, hMF⟩ := MF.of_rows (m := ⟨5, ⟨#[]⟩, ⟨#[]⟩, [], ks⟩) (lo' := G1 + 1) (World.ownsRow_nil _ _ _ _) HO.out.1 HO.out.2 (Nat.le_refl _)
    simp only at ev3 ev4
    cases ev3
    cases ev4
    have hT := HR.out.good (m := ⟨5, ⟨#[]⟩, ⟨#[]⟩, [], ks⟩) HL.out hp rfl HNR.out (hMF.move (fun q hq => ⟨⟨by have := hq.1; have := HKG.out; omega, hq.2⟩, rfl⟩))
    rw [HQn.out]
    exact bodyPost_ret (results_single rfl (.cell K 25 _ (0, 0) _ rfl hT.1 Try.underlying25 rfl (by kernel_rfl) .nil)) rfl hT.2
set_option maxRecDepth 100000 in
set_option maxHeartbeats 32000000 in
/-- kids: op 6. -/
theorem rd146k6 (w0 w : World) (g gn : Nat) (s : ByteArray) (i left d : Nat) (hl : left ≤ 63) (hi : i ≤ s.size) (hs : s.size ≤ 1000000000) (hg : w0.heap.size ≤ g) (hgn : w0.heap.size ≤ gn) (hne : g ≠ gn) (hB : Below w0.heap.size w0 w) (hS : SB w g s i false) (nz : Int) (hN : NB w gn nz) (hnz : nz = 63 - (left : Int)) (h42 : nextB 42 (s.data.toList.drop i) = false) (h38 : nextB 38 (s.data.toList.drop i) = false) (hc : nextB 124 (s.data.toList.drop i) = true) (hld : left < d) (ih : IHd w0 g gn s d) :
  Calls Try.prog 146 #[.pointer (some ⟨g, 0, none⟩), .pointer (some ⟨gn, 0, none⟩)] w (RdPost w0 w g gn s (readM cutN stepR false (d + 1) (left + 1) (s.data.toList.drop i))) := by
 have IH := Lib.hid ih
 clear ih
 obtain ⟨Q, eQ⟩ : ∃ Q, readM cutN stepR false (d + 1) (left + 1) (s.data.toList.drop i) = Q := ⟨_, rfl⟩
 rw [eQ]
 rw [readM_step _ _ _ _ _ _ rfl] at eQ
 have HQ := Lib.hid eQ
 clear eQ
 rw [if_neg (by rw [h42]; decide), if_neg (by rw [h38]; decide), if_pos hc, List.drop_drop] at HQ
 have EC := Lib.hid hc
 have E42 := Lib.hid h42
 have E38 := Lib.hid h38
 have hi1 : i + 1 ≤ s.size := next_lt hc
 clear hc h42 h38
 have hgl := hS.lt
 have hgnl := blk_lt hN
 have hne2 := hne.symm
 obtain ⟨nz1, hnz1⟩ : ∃ nz1, nz + 1 = nz1 := ⟨_, rfl⟩
 have hw1 : wrap64 (nz + 1) = nz1 := by unfold wrap64; omega
 have hN2 : NB (w.alloc (.cells Z5 25)) gn nz := (Below.heap_alloc _ _ _ hgnl).trans hN
 have m0 := blk_cell hN2 0
 have mz0 := blk_frozen hN2 0
 simp only [List.getElem?_toArray, List.getElem?_cons_zero] at m0
 have t1 : ¬ (64 : Int) < nz1 := by omega
 have t2 : decide ((64 : Int) < nz1) = false := decide_eq_false t1
 obtain ⟨V, eV⟩ : ∃ V, V = (w.alloc (.cells Z5 25)).setCell ⟨gn, 0, none⟩ (.int .i64 nz1) := ⟨_, rfl⟩
 obtain ⟨K, eK⟩ : ∃ K, w.heap.size = K := ⟨_, rfl⟩
 have HL := Lib.hid (show RL w0 w g gn K from ⟨hg, hgn, hne, hgl, hgnl, eK.symm, hB.size⟩)
 have HV : Hid (RS w0 w V g gn K s i false nz1) := Lib.hid (by
  rw [eV, ← eK]
  refine ⟨(below_alloc hB _).setCell hgn _, ⟨by simp, fun i hi h1 h2 => ?_⟩, (Below.heap_setCell _ _ _ _ hne).trans ((Below.heap_alloc _ _ _ hgl).trans hS), (blk_set hN2 0 _).trans (by rfl), (Below.heap_setCell _ _ _ _ (by simp; omega)).trans (blk_new w _)⟩
  have h3 : i ≠ gn := fun e => h2 (by rw [e])
  exact (Below.heap_setCell _ _ _ _ h3).trans (Below.heap_alloc _ _ _ hi))
 have HNZ := Lib.hid (show nz1 = 64 - (left : Int) by omega)
 have HKS := Lib.hid (show V.heap.size = K + 1 by rw [eV, World.size_setCell, World.size_alloc, eK])
 clear hS hB hN hN2 hgl hgnl hnz hnz1
 go_enter Try.func146, Try.ntmps146
 go_upto_region 4 with fail
 rw [← eV]
 clear eV m0 mz0 t1 t2 hw1 hne2 eK
 have cB := HV.out.cB
 have H1 := Lib.hid (isF w0 V g s (i) 42 42 rfl E42.out hi hs hg HV.out.below HV.out.sb)
 go_wp2_with fail
 (with_reducible refine H1.out.mono ?_)
 rintro ee w1 ⟨rfl, hk1⟩
 have H1n : Hid (RS w0 w w1 g gn K s (i) false nz1) := Lib.hid (HV.out.moved HL.out hk1)
 clear H1 hk1
 have H2 := Lib.hid (isF w0 w1 g s (i) 38 38 rfl E38.out hi hs hg H1n.out.below H1n.out.sb)
 go_wp2_with fail
 (with_reducible refine H2.out.mono ?_)
 rintro ee w2 ⟨rfl, hk2⟩
 have H2n : Hid (RS w0 w w2 g gn K s (i) false nz1) := Lib.hid (H1n.out.moved HL.out hk2)
 clear H2 hk2
 have H7 := Lib.hid (isT w0 w2 g s (i) 124 124 rfl EC.out hi hs hg H2n.out.below H2n.out.sb)
 go_wp2_with fail
 (with_reducible refine H7.out.mono ?_)
 rintro ee w7 ⟨rfl, hk7⟩
 have H7n : Hid (RS w0 w w7 g gn K s (i + 1) false nz1) := Lib.hid (H2n.out.moved HL.out hk7)
 clear H7 hk7
 clear HV
 go_upto_region 15 with fail
 obtain ⟨G1, eG1⟩ : ∃ G1, w7.heap.size = G1 := ⟨_, rfl⟩
 rw [eG1]
 obtain ⟨X, eX⟩ : ∃ X, X = w7.alloc (.cells #[.int .i64 6, .string ⟨#[]⟩, .string ⟨#[]⟩, .slice none 0 0, .slice none 0 0] 25) := ⟨_, rfl⟩
 rw [← eX]
 have hbX : Below w7.heap.size w7 X := by rw [eX]; exact below_alloc (Below.refl _ _) _
 have HXX : Hid (RS w0 w X g gn K s (i + 1) false nz1) := Lib.hid (H7n.out.below_ hbX HL.out)
 have HG : Hid (X.heap[G1]? = some (.cells #[.int .i64 6, .string ⟨#[]⟩, .string ⟨#[]⟩, .slice none 0 0, .slice none 0 0] 25 (0, 0))) := Lib.hid (by rw [eX, ← eG1]; exact blk_new w7 _)
 have hKG : K < G1 := by have := blk_lt H7n.out.res; omega
 have HXS := Lib.hid (show G1 + 1 ≤ X.heap.size by rw [eX, World.size_alloc]; omega)
 have HKG := Lib.hid hKG
 have hne1 : G1 ≠ K := by omega
 have hne2 : K ≠ G1 := by omega
 have hng1 : G1 ≠ g := by have := HL.out.gl; have := HL.out.eK; omega
 have hng2 : g ≠ G1 := by have := HL.out.gl; have := HL.out.eK; omega
 have HNG := Lib.hid (And.intro hne1 (And.intro hne2 (And.intro hng1 (And.intro hng2 (show G1 ≠ gn by have := HL.out.gnl; have := HL.out.eK; omega)))))
 have H8 := Lib.hid (mustAny w0 X g s (i + 1) false 40 40 rfl hi1 hs hg HXX.out.below HXX.out.sb)
 clear eX eG1 hbX H7n hKG hne1 hne2 hng1 hng2 H1n H2n
 go_wp2_with fail
 refine H8.out.mono ?_
 rintro ee w8 ⟨i8, b8, rfl, hk8, hi8, HT8⟩
 have H8n : Hid (RS w0 w w8 g gn K s i8 b8 nz1) := Lib.hid (HXX.out.moved HL.out hk8)
 have HG8 := Lib.hid ((hk8.2.1.2 G1 (by have := HXS.out; omega) HNG.out.2.2.1 (by simp)).trans HG.out)
 have H9 := Lib.hid (isAny w0 w8 g s i8 b8 41 41 rfl hi8 hs hg H8n.out.below H8n.out.sb)
 clear H8 hk8 HXX HG
 go_wp2_with fail
 refine H9.out.mono ?_
 rintro ee w9 ⟨v9, i9, rfl, hk9, hi9, HT9⟩
 have H9n : Hid (RS w0 w w9 g gn K s i9 b8 nz1) := Lib.hid (H8n.out.moved HL.out hk9)
 have HG9 := Lib.hid ((hk9.2.1.2 G1 (blk_lt HG8.out) HNG.out.2.2.1 (by simp)).trans HG8.out)
 have HS9 := Lib.hid (show G1 + 1 ≤ w9.heap.size by have := blk_lt HG9.out; omega)
 clear H9 hk9 H8n HG8 HXS
 cases v9 with
 | true =>
  have hf : b8 = false ∧ nextB 40 (s.data.toList.drop (i + 1)) = true ∧ nextB 41 (s.data.toList.drop (i + 1 + 1)) = true ∧ i9 = i + 1 + 1 + 1 := by
   rcases HT9.out with ⟨-, h1, h2, h3⟩ | ⟨h, -⟩
   ·rcases HT8.out with ⟨h, -⟩ | ⟨-, -, h4, rfl⟩
    ·rw [h1] at h; cases h
    ·exact ⟨h1, h4, h2, h3⟩
   ·cases h
  obtain ⟨rfl, hn1, hn2, rfl⟩ := hf
  have HQn := Lib.hid (show Q = some (⟨6, ⟨#[]⟩, ⟨#[]⟩, [], []⟩, left, s.data.toList.drop (i + 1 + 1 + 1)) by
   rw [← HQ.out]
   unfold listK
   rw [if_pos hn1, List.drop_drop, if_pos hn2, List.drop_drop]
   rfl)
  have y0 := blk_cell HG9.out 0
  have y1 := blk_cell HG9.out 1
  have y2 := blk_cell HG9.out 2
  have y3 := blk_cell HG9.out 3
  have y4 := blk_cell HG9.out 4
  simp only [List.getElem?_toArray, List.getElem?_cons_zero, List.getElem?_cons_succ] at y0 y1 y2 y3 y4
  have xk0 := H9n.out.k0
  have xk1 := H9n.out.k1
  have xk2 := H9n.out.k2
  have xk3 := H9n.out.k3
  have xk4 := H9n.out.k4
  have xz0 := H9n.out.zK 0
  have xz1 := H9n.out.zK 1
  have xz2 := H9n.out.zK 2
  have xz3 := H9n.out.zK 3
  have xz4 := H9n.out.zK 4
  have hne1 : G1 ≠ K := HNG.out.1
  have hne2 : K ≠ G1 := HNG.out.2.1
  clear HT8 HT9 hn1 hn2
  go_wp2
  have hT := H9n.out.good (m := ⟨6, ⟨#[]⟩, ⟨#[]⟩, [], []⟩) (A3 := none) (c3 := 0) (A4 := none) (c4 := 0) HL.out hi9 rfl HNZ.out (fun X _ => ⟨Nat.le_refl _, Kd.C_nil _ _, Nat.le_refl _, Kd.C_nil _ _⟩)
  rw [HQn.out]
  exact bodyPost_ret (results_single rfl (.cell K 25 _ (0, 0) _ rfl hT.1 Try.underlying25 rfl (by kernel_rfl) .nil)) rfl hT.2
 | false =>
  have HST : Hid (KST w0 w w9 g gn K G1 s d left 6 Q 0 i9 b8 nz1 none 0) := Lib.hid (by
   unfold KST
   rw [← HQ.out]
   unfold listK
   rcases HT9.out with ⟨h, -⟩ | ⟨-, rfl, h9⟩
   ·cases h
   ·rcases HT8.out with ⟨rfl, h | h⟩ | ⟨rfl, -, h, rfl⟩
    ·cases h
    ·exact Or.inl ⟨rfl, by rw [if_neg (by rw [h]; decide)]; rfl⟩
    ·rcases h9 with h' | h'
     ·cases h'
     ·refine Or.inr ⟨rfl, left, [], [], HNZ.out, by omega, rfl, World.ownsRow_nil _ _ _ _, by simpa using Reps.none _ _, ?_⟩
      rw [if_pos h, List.drop_drop, if_neg (by rw [h']; decide)]
      cases readML cutN stepR false d 65 left (s.data.toList.drop (i + 1 + 1)) <;> rfl)
  clear HT8 HT9 HQ
  go_upto_block 1 with fail
  go_cut [] from 50 to 67 (fun wx => ∃ (n p : Nat) (b : Bool) (nzr : Int) (A : Option Addr) (c : Nat), p ≤ s.size ∧ Hid (RS w0 w wx g gn K s p b nzr) ∧ Hid (wx.heap[G1]? = some (.cells #[.int .i64 6, .string ⟨#[]⟩, .string ⟨#[]⟩, .slice none 0 0, .slice A n c] 25 (0, 0))) ∧ Hid ((b = true ∧ Q = none) ∨ (b = false ∧ ∃ (l2 : Nat) (ks : List S25) (cells : List Value), nzr = 64 - (l2 : Int) ∧ ks.length = n ∧ wx.ownsRow (G1 + 1) 25 5 (.slice A n c) n cells ∧ Reps (KR wx (Part (G1 + 1) wx (.slice A n c))) 5 ks cells ∧ Q = some (⟨6, ⟨#[]⟩, ⟨#[]⟩, [], ks⟩, l2, s.data.toList.drop p))))
  case first =>
   go_wp2_with fail
   go_loopw [7] (fun u7 wr => ∃ (n p : Nat) (b : Bool) (nzr : Int) (A : Option Addr) (c : Nat), p ≤ s.size ∧ Hid (RS w0 w wr g gn K s p b nzr) ∧ Hid (wr.heap[G1]? = some (.cells #[.int .i64 6, .string ⟨#[]⟩, .string ⟨#[]⟩, .slice none 0 0, .slice A n c] 25 (0, 0))) ∧ Hid (KST w0 w wr g gn K G1 s d left 6 Q n p b nzr A c) ∧ Hid (G1 + 1 ≤ wr.heap.size))
    (fun _ wr => 70 - lenV ((wr.cell? ⟨G1, 4, none⟩).getD undef))
   case atStart => exact ⟨0, i9, b8, nz1, none, 0, hi9, H9n, HG9, HST, HS9⟩
   case round =>
    obtain ⟨n, p, b, nzr, A, c, hp, HR, HGr, HS2, HSZ⟩ := hrel
    clear H9n HG9 HST HS9
    have cB := HR.out.cB
    have y4 : wr.cell? ⟨G1, 4, none⟩ = some (.slice A n c) := (blk_cell HGr.out 4).trans rfl
    have HY4 := Lib.hid y4
    cases b with
    | true =>
     have HQn := Lib.hid (show Q = none by
      rcases HS2.out with ⟨-, h⟩ | ⟨h, -⟩
      ·exact h
      ·cases h)
     clear HS2
     go_wp2
     go_meet
     case rel => exact ⟨n, p, true, nzr, A, c, hp, HR, HGr, Lib.hid (Or.inl ⟨rfl, HQn.out⟩)⟩
    | false =>
     obtain ⟨l2, ks, cells, hnz2, hnl, hkl, hO, hRp, hQ2⟩ : ∃ (l2 : Nat) (ks : List S25) (cells : List Value), nzr = 64 - (l2 : Int) ∧ n + l2 ≤ left ∧ ks.length = n ∧ wr.ownsRow (G1 + 1) 25 5 (.slice A n c) n cells ∧ Reps (KR wr (Part (G1 + 1) wr (.slice A n c))) 5 ks cells ∧ Q = (readML cutN stepR false d (65 - n) l2 (s.data.toList.drop p)).map (fun q => ((⟨6, ⟨#[]⟩, ⟨#[]⟩, [], ks ++ q.1⟩ : S25), q.2)) := by
      rcases HS2.out with ⟨h, -⟩ | ⟨-, h⟩
      ·cases h
      ·exact h
     have H1 := Lib.hid (IH.out wr p l2 nzr (by omega) (by omega) hp HR.out.below HR.out.sb HR.out.nb hnz2)
     have HO := Lib.hid hO
     have HRp := Lib.hid hRp
     have HQ2 := Lib.hid (kid_step (by omega) hQ2)
     have HNL := Lib.hid (And.intro hnl hkl)
     have hn63 : n ≤ 63 := by omega
     have HRK : Hid (RowK wr (G1 + 1) A n c ks cells) := Lib.hid ⟨hO, hRp⟩
     have HLT := Lib.hid (fun q (hq : (Value.slice A n c).ownBlock = some q) => hO.lt _ hq)
     clear hO hRp hQ2 hnl hkl hnz2 HS2
     go_wp2_with fail
     refine H1.out.mono ?_
     intro ee w5 hp5
     obtain ⟨x0, x1, x2, B3, m3, e3, B4, m4, e4, i5, b5, nz5, rfl, hB5, hK5, hS5, hN5, hi5, HT5⟩ := rd_any hp5
     have HNG5 := HNG.out.2.2.2.2
     have hg1 := HNG.out.2.2.1
     have hgl : g < G1 ∧ gn < G1 := ⟨by have := HL.out.gl; have := HL.out.eK; have := HKG.out; omega, by have := HL.out.gnl; have := HL.out.eK; have := HKG.out; omega⟩
     have HR5 : Hid (RS w0 w w5 g gn K s i5 b5 nz5) := Lib.hid (HR.out.moved2 HL.out hB5 hK5 hS5 hN5)
     have hfar5 : ∀ b, G1 ≤ b → b < wr.heap.size → w5.heap[b]? = wr.heap[b]? := fun b h1 h2 => hK5.2 b h2 (by omega) (by simp; omega)
     have hG5 := (hfar5 G1 (Nat.le_refl _) (by have := HSZ.out; omega)).trans HGr.out
     obtain ⟨V5, eV5⟩ : ∃ V5, V5 = w5.alloc (.cells #[.int .i64 x0, .string x1, .string x2, .slice B3 m3 e3, .slice B4 m4 e4] 25) := ⟨_, rfl⟩
     have hBV5 : Below w5.heap.size w5 V5 := by rw [eV5]; exact below_alloc (Below.refl _ _) _
     have hG5a := (hBV5.block G1 (blk_lt hG5)).trans hG5
     have HG5 := Lib.hid hG5a
     have HRV := Lib.hid (HR5.out.below_ hBV5 HL.out)
     have HO5 := Lib.hid (pw_own_below (own_move HRK.out.1 (fun q hq => hfar5 q (by have := (HLT.out q hq).1; omega) (HLT.out q hq).2)) hBV5)
     have HK5 := Lib.hid (And.intro hK5.1 hfar5)
     have HBV5 := Lib.hid hBV5
     have HV5S := Lib.hid (show V5.heap.size = w5.heap.size + 1 by rw [eV5, World.size_alloc])
     have HS5 := Lib.hid (show G1 + 1 ≤ V5.heap.size by have := hBV5.size; have := hK5.1; have := HSZ.out; omega)
     have y4a : (w5.alloc (.cells #[.int .i64 x0, .string x1, .string x2, .slice B3 m3 e3, .slice B4 m4 e4] 25)).cell? ⟨G1, 4, none⟩ = some (.slice A n c) := by rw [← eV5]; exact (blk_cell hG5a 4).trans rfl
     clear hB5 hK5 hS5 hN5 hfar5 hG5 hG5a hBV5 hp5 H1 HR5 HNG5 hg1 hgl
     go_wp2_with (at_builtin; rw [← eV5]; refine print_append_cells (w0 := V5) (W := V5) (G1 + 1) rfl (.tmp 59) (.tmp 61) 23 25 (.agg Z5) 5 88 rfl Try.underlying23 infoM rfl (by decide) (by decide) (.slice A n c) n cells [.int .i64 x0, .string x1, .string x2, .slice B3 m3 e3, .slice B4 m4 e4] rfl (by rw [HV5S.out]; rfl) rfl (by intro u hu; simp only [List.mem_cons, List.not_mem_nil, or_false] at hu; rcases hu with rfl | rfl | rfl | rfl | rfl <;> rfl) HO5.out (Below.refl _ _) HS5.out (by omega) ?_; intro v2 w6 hown6 hb6 hg6 hat6; obtain ⟨A2, c2, rfl⟩ := own_slice hown6; have hlo := HLT.out; have hneG : some G1 ≠ (Value.slice A n c).ownBlock := (fun e => by have := (hlo _ e.symm).1; omega); have q5 := (hg6.block G1 (blk_lt HG5.out) hneG).trans HG5.out; have Q5 := Lib.hid q5; have zO4 := blk_frozen q5 4; have cO4 : w6.cell? ⟨G1, 4, none⟩ = some (.slice A n c) := (blk_cell q5 4).trans rfl; have HG6 := Lib.hid hg6; have HO6 := Lib.hid hown6; have HAT := Lib.hid hat6; clear hg6 hb6 hown6 hat6 q5 hneG hlo)
     have HB6 : Hid (RS w0 w w6 g gn K s i5 b5 nz5) := Lib.hid (HRV.out.grown HL.out HG6.out (fun q hq => by have := (HLT.out q hq).1; have := HKG.out; omega))
     obtain ⟨wc, ewc⟩ : ∃ wc, wc = w6.setCell ⟨G1, 4, none⟩ (.slice A2 (n + 1) c2) := ⟨_, rfl⟩
     have HC : Hid (RS w0 w wc g gn K s i5 b5 nz5) := Lib.hid (by rw [ewc]; exact HB6.out.setG HL.out HKG.out 4 _)
     have HGc : Hid (wc.heap[G1]? = some (.cells #[.int .i64 6, .string ⟨#[]⟩, .string ⟨#[]⟩, .slice none 0 0, .slice A2 (n + 1) c2] 25 (0, 0))) := Lib.hid (by rw [ewc]; exact (blk_set Q5.out 4 _).trans (by rfl))
     have HSc := Lib.hid (show G1 + 1 ≤ wc.heap.size by rw [ewc, World.size_setCell]; have := HG6.out.size; have := HS5.out; omega)
     have HM : Hid ((b5 = true ∧ Q = none) ∨ (b5 = false ∧ ∃ (l3 : Nat) (m : S25) (cells2 : List Value), nz5 = 64 - (l3 : Int) ∧ n + 1 + l3 ≤ left ∧ RowK wc (G1 + 1) A2 (n + 1) c2 (ks ++ [m]) cells2 ∧ Q = (restK cutN stepR false d (65 - (n + 1)) l3 (s.data.toList.drop i5)).map (fun q => ((⟨6, ⟨#[]⟩, ⟨#[]⟩, [], (ks ++ [m]) ++ q.1⟩ : S25), q.2)))) := Lib.hid (by
      rcases HT5.out with ⟨rfl, h⟩ | ⟨rfl, m, l3, h, rfl, rfl, rfl, rfl, rfl, hMF, h2⟩
      ·exact Or.inl ⟨rfl, HQ2.out.1 h⟩
      ·have hr := row_kid HRK.out HK5.out.1 (fun b h1 h2 => HK5.out.2 b (by omega) h2) HBV5.out HG6.out HO6.out HAT.out hMF HSZ.out
       have hr2 : RowK wc (G1 + 1) A2 (n + 1) c2 (ks ++ [m]) (cells ++ [.int .i64 m.f0, .string m.f1, .string m.f2, .slice B3 m.f3.length e3, .slice B4 m.f4.length e4]) := by
        rw [ewc]
        exact hr.keep (by rw [World.size_setCell]; exact Nat.le_refl _) (fun b h1 h2 => Below.heap_setCell _ _ _ _ (show b ≠ G1 by omega))
       exact Or.inr ⟨rfl, l3, m, _, h2, by have := (readM_suf _ _ _ _ _ _ h).2; have := HNL.out.1; omega, hr2, HQ2.out.2 m l3 _ h⟩)
     have H2 := Lib.hid (isAny w0 wc g s i5 b5 41 41 rfl hi5 hs hg HC.out.below HC.out.sb)
     rw [← ewc]
     clear ewc HB6 HRV HG6 HO6 HAT Q5 zO4 cO4 HO5 HG5 HS5 HLT HT5 HK5 HBV5 HV5S y4a eV5 HRK HR HGr HSZ y4 cB HQ2
     refine H2.out.mono ?_
     rintro ee wd ⟨v, iq, rfl, hkd, hid, HTd⟩
     have HD : Hid (RS w0 w wd g gn K s iq b5 nz5) := Lib.hid (HC.out.moved HL.out hkd)
     obtain ⟨hkb, hkk, hks⟩ := hkd
     have hgl : g < G1 := by have := HL.out.gl; have := HL.out.eK; have := HKG.out; omega
     have hfd : ∀ b, G1 + 1 ≤ b → b < wc.heap.size → wd.heap[b]? = wc.heap[b]? := fun b h1 h2 => hkk.2 b h2 (by omega) (by simp)
     have HGd := Lib.hid ((hkk.2 G1 (blk_lt HGc.out) HNG.out.2.2.1 (by simp)).trans HGc.out)
     have HSd := Lib.hid (Nat.le_trans HSc.out hkk.1)
     have HMd : Hid ((b5 = true ∧ Q = none) ∨ (b5 = false ∧ ∃ (l3 : Nat) (m : S25) (cells2 : List Value), nz5 = 64 - (l3 : Int) ∧ n + 1 + l3 ≤ left ∧ RowK wd (G1 + 1) A2 (n + 1) c2 (ks ++ [m]) cells2 ∧ Q = (restK cutN stepR false d (65 - (n + 1)) l3 (s.data.toList.drop i5)).map (fun q => ((⟨6, ⟨#[]⟩, ⟨#[]⟩, [], (ks ++ [m]) ++ q.1⟩ : S25), q.2)))) := Lib.hid (HM.out.imp id (fun ⟨h, l3, m, cells2, h1, h2, h3, h4⟩ => ⟨h, l3, m, cells2, h1, h2, h3.keep hkk.1 hfd, h4⟩))
     clear hkb hkk hks HGc HSc HC H2 HM hfd
     cases v with
     | true =>
      have hf : b5 = false ∧ nextB 41 (s.data.toList.drop i5) = true ∧ iq = i5 + 1 := by
       rcases HTd.out with ⟨-, h1, h2, h3⟩ | ⟨h, -⟩
       ·exact ⟨h1, h2, h3⟩
       ·cases h
      have HF := Lib.hid hf
      clear hf HTd
      go_wp2
      go_meet
      case rel =>
       obtain ⟨rfl, hnx, rfl⟩ := HF.out
       refine ⟨n + 1, i5 + 1, false, nz5, A2, c2, hid, HD, HGd, Lib.hid (Or.inr ⟨rfl, ?_⟩)⟩
       rcases HMd.out with ⟨h, -⟩ | ⟨-, l3, m, cells2, h1, h2, h3, h4⟩
       ·cases h
       ·refine ⟨l3, ks ++ [m], cells2, h1, by rw [List.length_append, HNL.out.2]; rfl, h3.1, h3.2, ?_⟩
        rw [h4]
        unfold restK
        rw [if_pos hnx, List.drop_drop]
        simp
     | false =>
      have HF := Lib.hid (show iq = i5 ∧ (b5 = true ∨ nextB 41 (s.data.toList.drop i5) = false) by
       rcases HTd.out with ⟨h, -⟩ | ⟨-, h1, h2⟩
       ·cases h
       ·exact ⟨h1, h2⟩)
      have H3 := Lib.hid (mustAny w0 wd g s iq b5 44 44 rfl hid hs hg HD.out.below HD.out.sb)
      clear HTd
      go_wp2_with fail
      refine H3.out.mono ?_
      rintro ee we ⟨ie, be, rfl, hke, hie, HTe⟩
      have HE : Hid (RS w0 w we g gn K s ie be nz5) := Lib.hid (HD.out.moved HL.out hke)
      obtain ⟨hkb, hkk, hks⟩ := hke
      have hfe : ∀ b, G1 + 1 ≤ b → b < wd.heap.size → we.heap[b]? = wd.heap[b]? := fun b h1 h2 => hkk.2 b h2 (by omega) (by simp)
      have HGe := Lib.hid ((hkk.2 G1 (blk_lt HGd.out) HNG.out.2.2.1 (by simp)).trans HGd.out)
      have HSe := Lib.hid (Nat.le_trans HSd.out hkk.1)
      have HKe : Hid (KST w0 w we g gn K G1 s d left 6 Q (n + 1) ie be nz5 A2 c2) := Lib.hid (by
       unfold KST
       obtain ⟨rfl, hf2⟩ := HF.out
       rcases HMd.out with ⟨rfl, h⟩ | ⟨rfl, l3, m, cells2, h1, h2, h3, h4⟩
       ·rcases HTe.out with ⟨rfl, -⟩ | ⟨-, h', -⟩
        ·exact Or.inl ⟨rfl, h⟩
        ·cases h'
       ·rcases hf2 with h' | hn1
        ·cases h'
        ·rcases HTe.out with ⟨rfl, h' | hn2⟩ | ⟨rfl, -, hn2, rfl⟩
         ·cases h'
         ·refine Or.inl ⟨rfl, ?_⟩
          rw [h4]; unfold restK; rw [if_neg (by rw [hn1]; decide), if_neg (by rw [hn2]; decide)]; rfl
         ·have hk := h3.keep hkk.1 hfe
          refine Or.inr ⟨rfl, l3, ks ++ [m], cells2, h1, h2, by rw [List.length_append, HNL.out.2]; rfl, hk.1, hk.2, ?_⟩
          rw [h4]; unfold restK; rw [if_neg (by rw [hn1]; decide), if_pos hn2, List.drop_drop])
      clear hkb hkk hks HGd HSd HD H3 HTe HF HMd hfe
      go_wp2
      go_roundw
      case rel => exact ⟨n + 1, ie, be, nz5, A2, c2, hie, HE, HGe, HKe, HSe⟩
      case measure =>
       have h1 : we.cell? ⟨G1, 4, none⟩ = some (.slice A2 (n + 1) c2) := (blk_cell HGe.out 4).trans rfl
       rw [h1, HY4.out]
       simp [lenV]
       omega
  case rest =>
   obtain ⟨n, p, b, nzr, A, c, hp, HR, HGr, HS2⟩ := hcut
   clear H9n HG9 HST HS9
   have y0 := blk_cell HGr.out 0
   have y1 := blk_cell HGr.out 1
   have y2 := blk_cell HGr.out 2
   have y3 := blk_cell HGr.out 3
   have y4 := blk_cell HGr.out 4
   have xk0 := HR.out.k0
   have xk1 := HR.out.k1
   have xk2 := HR.out.k2
   have xk3 := HR.out.k3
   have xk4 := HR.out.k4
   have xz0 := HR.out.zK 0
   have xz1 := HR.out.zK 1
   have xz2 := HR.out.zK 2
   have xz3 := HR.out.zK 3
   have xz4 := HR.out.zK 4
   simp only [List.getElem?_toArray, List.getElem?_cons_zero, List.getElem?_cons_succ] at y0 y1 y2 y3 y4
   have hne1 : G1 ≠ K := HNG.out.1
   have hne2 : K ≠ G1 := HNG.out.2.1
   cases b with
   | true =>
    have HQn := Lib.hid (show Q = none by
     rcases HS2.out with ⟨-, h⟩ | ⟨h, -⟩
     ·exact h
     ·cases h)
    clear HS2
    go_wp2
    have hT := HR.out.bad HL.out hp 6 ⟨#[]⟩ ⟨#[]⟩ none 0 0 A n c
    rw [HQn.out]
    exact bodyPost_ret (results_single rfl (.cell K 25 _ (0, 0) _ rfl hT.1 Try.underlying25 rfl (by kernel_rfl) .nil)) rfl hT.2
   | false =>
    obtain ⟨l2, ks, cells, h1, h2, h3, h4, h5⟩ : ∃ (l2 : Nat) (ks : List S25) (cells : List Value), nzr = 64 - (l2 : Int) ∧ ks.length = n ∧ wc.ownsRow (G1 + 1) 25 5 (.slice A n c) n cells ∧ Reps (KR wc (Part (G1 + 1) wc (.slice A n c))) 5 ks cells ∧ Q = some (⟨6, ⟨#[]⟩, ⟨#[]⟩, [], ks⟩, l2, s.data.toList.drop p) := by
     rcases HS2.out with ⟨h, -⟩ | ⟨-, h⟩
     ·cases h
     ·exact h
    subst h2
    have HQn := Lib.hid h5
    have HO := Lib.hid (And.intro h3 h4)
    have HNR := Lib.hid h1
    clear HS2 h1 h3 h4 h5
    go_wp2
    obtain ⟨F3, gg3, F4, gg4, ev3, ev4, hMF⟩ := MF.of_rows (m := ⟨6, ⟨#[]⟩, ⟨#[]⟩, [], ks⟩) (lo' := G1 + 1) (World.ownsRow_nil _ _ _ _) HO.out.1 HO.out.2 (Nat.le_refl _)
    simp only at ev3 ev4
    cases ev3
    cases ev4
    have hT := HR.out.good (m := ⟨6, ⟨#[]⟩, ⟨#[]⟩, [], ks⟩) HL.out hp rfl HNR.out (hMF.move (fun q hq => ⟨⟨by have := hq.1; have := HKG.out; omega, hq.2⟩, rfl⟩))
    rw [HQn.out]
    exact bodyPost_ret (results_single rfl (.cell K 25 _ (0, 0) _ rfl hT.1 Try.underlying25 rfl (by kernel_rfl) .nil)) rfl hT.2
set_option maxRecDepth 100000 in
set_option maxHeartbeats 32000000 in
/-- kids: op 7. -/
theorem rd146k7 (w0 w : World) (g gn : Nat) (s : ByteArray) (i left d : Nat) (hl : left ≤ 63) (hi : i ≤ s.size) (hs : s.size ≤ 1000000000) (hg : w0.heap.size ≤ g) (hgn : w0.heap.size ≤ gn) (hne : g ≠ gn) (hB : Below w0.heap.size w0 w) (hS : SB w g s i false) (nz : Int) (hN : NB w gn nz) (hnz : nz = 63 - (left : Int)) (h42 : nextB 42 (s.data.toList.drop i) = false) (h38 : nextB 38 (s.data.toList.drop i) = false) (h124 : nextB 124 (s.data.toList.drop i) = false) (hc : nextB 33 (s.data.toList.drop i) = true) (hld : left < d) (ih : IHd w0 g gn s d) :
  Calls Try.prog 146 #[.pointer (some ⟨g, 0, none⟩), .pointer (some ⟨gn, 0, none⟩)] w (RdPost w0 w g gn s (readM cutN stepR false (d + 1) (left + 1) (s.data.toList.drop i))) := by
 have IH := Lib.hid ih
 clear ih
 obtain ⟨Q, eQ⟩ : ∃ Q, readM cutN stepR false (d + 1) (left + 1) (s.data.toList.drop i) = Q := ⟨_, rfl⟩
 rw [eQ]
 rw [readM_step _ _ _ _ _ _ rfl] at eQ
 have HQ := Lib.hid eQ
 clear eQ
 rw [if_neg (by rw [h42]; decide), if_neg (by rw [h38]; decide), if_neg (by rw [h124]; decide), if_pos hc, List.drop_drop] at HQ
 have EC := Lib.hid hc
 have E42 := Lib.hid h42
 have E38 := Lib.hid h38
 have E124 := Lib.hid h124
 have hi1 : i + 1 ≤ s.size := next_lt hc
 clear hc h42 h38 h124
 have hgl := hS.lt
 have hgnl := blk_lt hN
 have hne2 := hne.symm
 obtain ⟨nz1, hnz1⟩ : ∃ nz1, nz + 1 = nz1 := ⟨_, rfl⟩
 have hw1 : wrap64 (nz + 1) = nz1 := by unfold wrap64; omega
 have hN2 : NB (w.alloc (.cells Z5 25)) gn nz := (Below.heap_alloc _ _ _ hgnl).trans hN
 have m0 := blk_cell hN2 0
 have mz0 := blk_frozen hN2 0
 simp only [List.getElem?_toArray, List.getElem?_cons_zero] at m0
 have t1 : ¬ (64 : Int) < nz1 := by omega
 have t2 : decide ((64 : Int) < nz1) = false := decide_eq_false t1
 obtain ⟨V, eV⟩ : ∃ V, V = (w.alloc (.cells Z5 25)).setCell ⟨gn, 0, none⟩ (.int .i64 nz1) := ⟨_, rfl⟩
 obtain ⟨K, eK⟩ : ∃ K, w.heap.size = K := ⟨_, rfl⟩
 have HL := Lib.hid (show RL w0 w g gn K from ⟨hg, hgn, hne, hgl, hgnl, eK.symm, hB.size⟩)
 have HV : Hid (RS w0 w V g gn K s i false nz1) := Lib.hid (by
  rw [eV, ← eK]
  refine ⟨(below_alloc hB _).setCell hgn _, ⟨by simp, fun i hi h1 h2 => ?_⟩, (Below.heap_setCell _ _ _ _ hne).trans ((Below.heap_alloc _ _ _ hgl).trans hS), (blk_set hN2 0 _).trans (by rfl), (Below.heap_setCell _ _ _ _ (by simp; omega)).trans (blk_new w _)⟩
  have h3 : i ≠ gn := fun e => h2 (by rw [e])
  exact (Below.heap_setCell _ _ _ _ h3).trans (Below.heap_alloc _ _ _ hi))
 have HNZ := Lib.hid (show nz1 = 64 - (left : Int) by omega)
 have HKS := Lib.hid (show V.heap.size = K + 1 by rw [eV, World.size_setCell, World.size_alloc, eK])
 clear hS hB hN hN2 hgl hgnl hnz hnz1
 go_enter Try.func146, Try.ntmps146
 go_upto_region 4 with fail
 rw [← eV]
 clear eV m0 mz0 t1 t2 hw1 hne2 eK
 have cB := HV.out.cB
 have H1 := Lib.hid (isF w0 V g s (i) 42 42 rfl E42.out hi hs hg HV.out.below HV.out.sb)
 go_wp2_with fail
 (with_reducible refine H1.out.mono ?_)
 rintro ee w1 ⟨rfl, hk1⟩
 have H1n : Hid (RS w0 w w1 g gn K s (i) false nz1) := Lib.hid (HV.out.moved HL.out hk1)
 clear H1 hk1
 have H2 := Lib.hid (isF w0 w1 g s (i) 38 38 rfl E38.out hi hs hg H1n.out.below H1n.out.sb)
 go_wp2_with fail
 (with_reducible refine H2.out.mono ?_)
 rintro ee w2 ⟨rfl, hk2⟩
 have H2n : Hid (RS w0 w w2 g gn K s (i) false nz1) := Lib.hid (H1n.out.moved HL.out hk2)
 clear H2 hk2
 have H3 := Lib.hid (isF w0 w2 g s (i) 124 124 rfl E124.out hi hs hg H2n.out.below H2n.out.sb)
 go_wp2_with fail
 (with_reducible refine H3.out.mono ?_)
 rintro ee w3 ⟨rfl, hk3⟩
 have H3n : Hid (RS w0 w w3 g gn K s (i) false nz1) := Lib.hid (H2n.out.moved HL.out hk3)
 clear H3 hk3
 have H7 := Lib.hid (isT w0 w3 g s (i) 33 33 rfl EC.out hi hs hg H3n.out.below H3n.out.sb)
 go_wp2_with fail
 (with_reducible refine H7.out.mono ?_)
 rintro ee w7 ⟨rfl, hk7⟩
 have H7n : Hid (RS w0 w w7 g gn K s (i + 1) false nz1) := Lib.hid (H3n.out.moved HL.out hk7)
 clear H7 hk7
 clear HV
 go_upto_region 15 with fail
 obtain ⟨G1, eG1⟩ : ∃ G1, w7.heap.size = G1 := ⟨_, rfl⟩
 rw [eG1]
 obtain ⟨X, eX⟩ : ∃ X, X = w7.alloc (.cells #[.int .i64 7, .string ⟨#[]⟩, .string ⟨#[]⟩, .slice none 0 0, .slice none 0 0] 25) := ⟨_, rfl⟩
 rw [← eX]
 have hbX : Below w7.heap.size w7 X := by rw [eX]; exact below_alloc (Below.refl _ _) _
 have HXX : Hid (RS w0 w X g gn K s (i + 1) false nz1) := Lib.hid (H7n.out.below_ hbX HL.out)
 have HG : Hid (X.heap[G1]? = some (.cells #[.int .i64 7, .string ⟨#[]⟩, .string ⟨#[]⟩, .slice none 0 0, .slice none 0 0] 25 (0, 0))) := Lib.hid (by rw [eX, ← eG1]; exact blk_new w7 _)
 have hKG : K < G1 := by have := blk_lt H7n.out.res; omega
 have HXS := Lib.hid (show G1 + 1 ≤ X.heap.size by rw [eX, World.size_alloc]; omega)
 have HKG := Lib.hid hKG
 have hne1 : G1 ≠ K := by omega
 have hne2 : K ≠ G1 := by omega
 have hng1 : G1 ≠ g := by have := HL.out.gl; have := HL.out.eK; omega
 have hng2 : g ≠ G1 := by have := HL.out.gl; have := HL.out.eK; omega
 have HNG := Lib.hid (And.intro hne1 (And.intro hne2 (And.intro hng1 (And.intro hng2 (show G1 ≠ gn by have := HL.out.gnl; have := HL.out.eK; omega)))))
 have H8 := Lib.hid (mustAny w0 X g s (i + 1) false 40 40 rfl hi1 hs hg HXX.out.below HXX.out.sb)
 clear eX eG1 hbX H7n hKG hne1 hne2 hng1 hng2 H1n H2n H3n
 go_wp2_with fail
 refine H8.out.mono ?_
 rintro ee w8 ⟨i8, b8, rfl, hk8, hi8, HT8⟩
 have H8n : Hid (RS w0 w w8 g gn K s i8 b8 nz1) := Lib.hid (HXX.out.moved HL.out hk8)
 have HG8 := Lib.hid ((hk8.2.1.2 G1 (by have := HXS.out; omega) HNG.out.2.2.1 (by simp)).trans HG.out)
 have H9 := Lib.hid (isAny w0 w8 g s i8 b8 41 41 rfl hi8 hs hg H8n.out.below H8n.out.sb)
 clear H8 hk8 HXX HG
 go_wp2_with fail
 refine H9.out.mono ?_
 rintro ee w9 ⟨v9, i9, rfl, hk9, hi9, HT9⟩
 have H9n : Hid (RS w0 w w9 g gn K s i9 b8 nz1) := Lib.hid (H8n.out.moved HL.out hk9)
 have HG9 := Lib.hid ((hk9.2.1.2 G1 (blk_lt HG8.out) HNG.out.2.2.1 (by simp)).trans HG8.out)
 have HS9 := Lib.hid (show G1 + 1 ≤ w9.heap.size by have := blk_lt HG9.out; omega)
 clear H9 hk9 H8n HG8 HXS
 cases v9 with
 | true =>
  have hf : b8 = false ∧ nextB 40 (s.data.toList.drop (i + 1)) = true ∧ nextB 41 (s.data.toList.drop (i + 1 + 1)) = true ∧ i9 = i + 1 + 1 + 1 := by
   rcases HT9.out with ⟨-, h1, h2, h3⟩ | ⟨h, -⟩
   ·rcases HT8.out with ⟨h, -⟩ | ⟨-, -, h4, rfl⟩
    ·rw [h1] at h; cases h
    ·exact ⟨h1, h4, h2, h3⟩
   ·cases h
  obtain ⟨rfl, hn1, hn2, rfl⟩ := hf
  have HQn := Lib.hid (show Q = some (⟨7, ⟨#[]⟩, ⟨#[]⟩, [], []⟩, left, s.data.toList.drop (i + 1 + 1 + 1)) by
   rw [← HQ.out]
   unfold listK
   rw [if_pos hn1, List.drop_drop, if_pos hn2, List.drop_drop]
   rfl)
  have y0 := blk_cell HG9.out 0
  have y1 := blk_cell HG9.out 1
  have y2 := blk_cell HG9.out 2
  have y3 := blk_cell HG9.out 3
  have y4 := blk_cell HG9.out 4
  simp only [List.getElem?_toArray, List.getElem?_cons_zero, List.getElem?_cons_succ] at y0 y1 y2 y3 y4
  have xk0 := H9n.out.k0
  have xk1 := H9n.out.k1
  have xk2 := H9n.out.k2
  have xk3 := H9n.out.k3
  have xk4 := H9n.out.k4
  have xz0 := H9n.out.zK 0
  have xz1 := H9n.out.zK 1
  have xz2 := H9n.out.zK 2
  have xz3 := H9n.out.zK 3
  have xz4 := H9n.out.zK 4
  have hne1 : G1 ≠ K := HNG.out.1
  have hne2 : K ≠ G1 := HNG.out.2.1
  clear HT8 HT9 hn1 hn2
  go_wp2
  have hT := H9n.out.good (m := ⟨7, ⟨#[]⟩, ⟨#[]⟩, [], []⟩) (A3 := none) (c3 := 0) (A4 := none) (c4 := 0) HL.out hi9 rfl HNZ.out (fun X _ => ⟨Nat.le_refl _, Kd.C_nil _ _, Nat.le_refl _, Kd.C_nil _ _⟩)
  rw [HQn.out]
  exact bodyPost_ret (results_single rfl (.cell K 25 _ (0, 0) _ rfl hT.1 Try.underlying25 rfl (by kernel_rfl) .nil)) rfl hT.2
 | false =>
  have HST : Hid (KST w0 w w9 g gn K G1 s d left 7 Q 0 i9 b8 nz1 none 0) := Lib.hid (by
   unfold KST
   rw [← HQ.out]
   unfold listK
   rcases HT9.out with ⟨h, -⟩ | ⟨-, rfl, h9⟩
   ·cases h
   ·rcases HT8.out with ⟨rfl, h | h⟩ | ⟨rfl, -, h, rfl⟩
    ·cases h
    ·exact Or.inl ⟨rfl, by rw [if_neg (by rw [h]; decide)]; rfl⟩
    ·rcases h9 with h' | h'
     ·cases h'
     ·refine Or.inr ⟨rfl, left, [], [], HNZ.out, by omega, rfl, World.ownsRow_nil _ _ _ _, by simpa using Reps.none _ _, ?_⟩
      rw [if_pos h, List.drop_drop, if_neg (by rw [h']; decide)]
      cases readML cutN stepR false d 65 left (s.data.toList.drop (i + 1 + 1)) <;> rfl)
  clear HT8 HT9 HQ
  go_upto_block 1 with fail
  go_cut [] from 50 to 67 (fun wx => ∃ (n p : Nat) (b : Bool) (nzr : Int) (A : Option Addr) (c : Nat), p ≤ s.size ∧ Hid (RS w0 w wx g gn K s p b nzr) ∧ Hid (wx.heap[G1]? = some (.cells #[.int .i64 7, .string ⟨#[]⟩, .string ⟨#[]⟩, .slice none 0 0, .slice A n c] 25 (0, 0))) ∧ Hid ((b = true ∧ Q = none) ∨ (b = false ∧ ∃ (l2 : Nat) (ks : List S25) (cells : List Value), nzr = 64 - (l2 : Int) ∧ ks.length = n ∧ wx.ownsRow (G1 + 1) 25 5 (.slice A n c) n cells ∧ Reps (KR wx (Part (G1 + 1) wx (.slice A n c))) 5 ks cells ∧ Q = some (⟨7, ⟨#[]⟩, ⟨#[]⟩, [], ks⟩, l2, s.data.toList.drop p))))
  case first =>
   go_wp2_with fail
   go_loopw [7] (fun u7 wr => ∃ (n p : Nat) (b : Bool) (nzr : Int) (A : Option Addr) (c : Nat), p ≤ s.size ∧ Hid (RS w0 w wr g gn K s p b nzr) ∧ Hid (wr.heap[G1]? = some (.cells #[.int .i64 7, .string ⟨#[]⟩, .string ⟨#[]⟩, .slice none 0 0, .slice A n c] 25 (0, 0))) ∧ Hid (KST w0 w wr g gn K G1 s d left 7 Q n p b nzr A c) ∧ Hid (G1 + 1 ≤ wr.heap.size))
    (fun _ wr => 70 - lenV ((wr.cell? ⟨G1, 4, none⟩).getD undef))
   case atStart => exact ⟨0, i9, b8, nz1, none, 0, hi9, H9n, HG9, HST, HS9⟩
   case round =>
    obtain ⟨n, p, b, nzr, A, c, hp, HR, HGr, HS2, HSZ⟩ := hrel
    clear H9n HG9 HST HS9
    have cB := HR.out.cB
    have y4 : wr.cell? ⟨G1, 4, none⟩ = some (.slice A n c) := (blk_cell HGr.out 4).trans rfl
    have HY4 := Lib.hid y4
    cases b with
    | true =>
     have HQn := Lib.hid (show Q = none by
      rcases HS2.out with ⟨-, h⟩ | ⟨h, -⟩
      ·exact h
      ·cases h)
     clear HS2
     go_wp2
     go_meet
     case rel => exact ⟨n, p, true, nzr, A, c, hp, HR, HGr, Lib.hid (Or.inl ⟨rfl, HQn.out⟩)⟩
    | false =>
     obtain ⟨l2, ks, cells, hnz2, hnl, hkl, hO, hRp, hQ2⟩ : ∃ (l2 : Nat) (ks : List S25) (cells : List Value), nzr = 64 - (l2 : Int) ∧ n + l2 ≤ left ∧ ks.length = n ∧ wr.ownsRow (G1 + 1) 25 5 (.slice A n c) n cells ∧ Reps (KR wr (Part (G1 + 1) wr (.slice A n c))) 5 ks cells ∧ Q = (readML cutN stepR false d (65 - n) l2 (s.data.toList.drop p)).map (fun q => ((⟨7, ⟨#[]⟩, ⟨#[]⟩, [], ks ++ q.1⟩ : S25), q.2)) := by
      rcases HS2.out with ⟨h, -⟩ | ⟨-, h⟩
      ·cases h
      ·exact h
     have H1 := Lib.hid (IH.out wr p l2 nzr (by omega) (by omega) hp HR.out.below HR.out.sb HR.out.nb hnz2)
     have HO := Lib.hid hO
     have HRp := Lib.hid hRp
     have HQ2 := Lib.hid (kid_step (by omega) hQ2)
     have HNL := Lib.hid (And.intro hnl hkl)
     have hn63 : n ≤ 63 := by omega
     have HRK : Hid (RowK wr (G1 + 1) A n c ks cells) := Lib.hid ⟨hO, hRp⟩
     have HLT := Lib.hid (fun q (hq : (Value.slice A n c).ownBlock = some q) => hO.lt _ hq)
     clear hO hRp hQ2 hnl hkl hnz2 HS2
     go_wp2_with fail
     refine H1.out.mono ?_
     intro ee w5 hp5
     obtain ⟨x0, x1, x2, B3, m3, e3, B4, m4, e4, i5, b5, nz5, rfl, hB5, hK5, hS5, hN5, hi5, HT5⟩ := rd_any hp5
     have HNG5 := HNG.out.2.2.2.2
     have hg1 := HNG.out.2.2.1
     have hgl : g < G1 ∧ gn < G1 := ⟨by have := HL.out.gl; have := HL.out.eK; have := HKG.out; omega, by have := HL.out.gnl; have := HL.out.eK; have := HKG.out; omega⟩
     have HR5 : Hid (RS w0 w w5 g gn K s i5 b5 nz5) := Lib.hid (HR.out.moved2 HL.out hB5 hK5 hS5 hN5)
     have hfar5 : ∀ b, G1 ≤ b → b < wr.heap.size → w5.heap[b]? = wr.heap[b]? := fun b h1 h2 => hK5.2 b h2 (by omega) (by simp; omega)
     have hG5 := (hfar5 G1 (Nat.le_refl _) (by have := HSZ.out; omega)).trans HGr.out
     obtain ⟨V5, eV5⟩ : ∃ V5, V5 = w5.alloc (.cells #[.int .i64 x0, .string x1, .string x2, .slice B3 m3 e3, .slice B4 m4 e4] 25) := ⟨_, rfl⟩
     have hBV5 : Below w5.heap.size w5 V5 := by rw [eV5]; exact below_alloc (Below.refl _ _) _
     have hG5a := (hBV5.block G1 (blk_lt hG5)).trans hG5
     have HG5 := Lib.hid hG5a
     have HRV := Lib.hid (HR5.out.below_ hBV5 HL.out)
     have HO5 := Lib.hid (pw_own_below (own_move HRK.out.1 (fun q hq => hfar5 q (by have := (HLT.out q hq).1; omega) (HLT.out q hq).2)) hBV5)
     have HK5 := Lib.hid (And.intro hK5.1 hfar5)
     have HBV5 := Lib.hid hBV5
     have HV5S := Lib.hid (show V5.heap.size = w5.heap.size + 1 by rw [eV5, World.size_alloc])
     have HS5 := Lib.hid (show G1 + 1 ≤ V5.heap.size by have := hBV5.size; have := hK5.1; have := HSZ.out; omega)
     have y4a : (w5.alloc (.cells #[.int .i64 x0, .string x1, .string x2, .slice B3 m3 e3, .slice B4 m4 e4] 25)).cell? ⟨G1, 4, none⟩ = some (.slice A n c) := by rw [← eV5]; exact (blk_cell hG5a 4).trans rfl
     clear hB5 hK5 hS5 hN5 hfar5 hG5 hG5a hBV5 hp5 H1 HR5 HNG5 hg1 hgl
     go_wp2_with (at_builtin; rw [← eV5]; refine print_append_cells (w0 := V5) (W := V5) (G1 + 1) rfl (.tmp 59) (.tmp 61) 23 25 (.agg Z5) 5 88 rfl Try.underlying23 infoM rfl (by decide) (by decide) (.slice A n c) n cells [.int .i64 x0, .string x1, .string x2, .slice B3 m3 e3, .slice B4 m4 e4] rfl (by rw [HV5S.out]; rfl) rfl (by intro u hu; simp only [List.mem_cons, List.not_mem_nil, or_false] at hu; rcases hu with rfl | rfl | rfl | rfl | rfl <;> rfl) HO5.out (Below.refl _ _) HS5.out (by omega) ?_; intro v2 w6 hown6 hb6 hg6 hat6; obtain ⟨A2, c2, rfl⟩ := own_slice hown6; have hlo := HLT.out; have hneG : some G1 ≠ (Value.slice A n c).ownBlock := (fun e => by have := (hlo _ e.symm).1; omega); have q5 := (hg6.block G1 (blk_lt HG5.out) hneG).trans HG5.out; have Q5 := Lib.hid q5; have zO4 := blk_frozen q5 4; have cO4 : w6.cell? ⟨G1, 4, none⟩ = some (.slice A n c) := (blk_cell q5 4).trans rfl; have HG6 := Lib.hid hg6; have HO6 := Lib.hid hown6; have HAT := Lib.hid hat6; clear hg6 hb6 hown6 hat6 q5 hneG hlo)
     have HB6 : Hid (RS w0 w w6 g gn K s i5 b5 nz5) := Lib.hid (HRV.out.grown HL.out HG6.out (fun q hq => by have := (HLT.out q hq).1; have := HKG.out; omega))
     obtain ⟨wc, ewc⟩ : ∃ wc, wc = w6.setCell ⟨G1, 4, none⟩ (.slice A2 (n + 1) c2) := ⟨_, rfl⟩
     have HC : Hid (RS w0 w wc g gn K s i5 b5 nz5) := Lib.hid (by rw [ewc]; exact HB6.out.setG HL.out HKG.out 4 _)
     have HGc : Hid (wc.heap[G1]? = some (.cells #[.int .i64 7, .string ⟨#[]⟩, .string ⟨#[]⟩, .slice none 0 0, .slice A2 (n + 1) c2] 25 (0, 0))) := Lib.hid (by rw [ewc]; exact (blk_set Q5.out 4 _).trans (by rfl))
     have HSc := Lib.hid (show G1 + 1 ≤ wc.heap.size by rw [ewc, World.size_setCell]; have := HG6.out.size; have := HS5.out; omega)
     have HM : Hid ((b5 = true ∧ Q = none) ∨ (b5 = false ∧ ∃ (l3 : Nat) (m : S25) (cells2 : List Value), nz5 = 64 - (l3 : Int) ∧ n + 1 + l3 ≤ left ∧ RowK wc (G1 + 1) A2 (n + 1) c2 (ks ++ [m]) cells2 ∧ Q = (restK cutN stepR false d (65 - (n + 1)) l3 (s.data.toList.drop i5)).map (fun q => ((⟨7, ⟨#[]⟩, ⟨#[]⟩, [], (ks ++ [m]) ++ q.1⟩ : S25), q.2)))) := Lib.hid (by
      rcases HT5.out with ⟨rfl, h⟩ | ⟨rfl, m, l3, h, rfl, rfl, rfl, rfl, rfl, hMF, h2⟩
      ·exact Or.inl ⟨rfl, HQ2.out.1 h⟩
      ·have hr := row_kid HRK.out HK5.out.1 (fun b h1 h2 => HK5.out.2 b (by omega) h2) HBV5.out HG6.out HO6.out HAT.out hMF HSZ.out
       have hr2 : RowK wc (G1 + 1) A2 (n + 1) c2 (ks ++ [m]) (cells ++ [.int .i64 m.f0, .string m.f1, .string m.f2, .slice B3 m.f3.length e3, .slice B4 m.f4.length e4]) := by
        rw [ewc]
        exact hr.keep (by rw [World.size_setCell]; exact Nat.le_refl _) (fun b h1 h2 => Below.heap_setCell _ _ _ _ (show b ≠ G1 by omega))
       exact Or.inr ⟨rfl, l3, m, _, h2, by have := (readM_suf _ _ _ _ _ _ h).2; have := HNL.out.1; omega, hr2, HQ2.out.2 m l3 _ h⟩)
     have H2 := Lib.hid (isAny w0 wc g s i5 b5 41 41 rfl hi5 hs hg HC.out.below HC.out.sb)
     rw [← ewc]
     clear ewc HB6 HRV HG6 HO6 HAT Q5 zO4 cO4 HO5 HG5 HS5 HLT HT5 HK5 HBV5 HV5S y4a eV5 HRK HR HGr HSZ y4 cB HQ2
     refine H2.out.mono ?_
     rintro ee wd ⟨v, iq, rfl, hkd, hid, HTd⟩
     have HD : Hid (RS w0 w wd g gn K s iq b5 nz5) := Lib.hid (HC.out.moved HL.out hkd)
     obtain ⟨hkb, hkk, hks⟩ := hkd
     have hgl : g < G1 := by have := HL.out.gl; have := HL.out.eK; have := HKG.out; omega
     have hfd : ∀ b, G1 + 1 ≤ b → b < wc.heap.size → wd.heap[b]? = wc.heap[b]? := fun b h1 h2 => hkk.2 b h2 (by omega) (by simp)
     have HGd := Lib.hid ((hkk.2 G1 (blk_lt HGc.out) HNG.out.2.2.1 (by simp)).trans HGc.out)
     have HSd := Lib.hid (Nat.le_trans HSc.out hkk.1)
     have HMd : Hid ((b5 = true ∧ Q = none) ∨ (b5 = false ∧ ∃ (l3 : Nat) (m : S25) (cells2 : List Value), nz5 = 64 - (l3 : Int) ∧ n + 1 + l3 ≤ left ∧ RowK wd (G1 + 1) A2 (n + 1) c2 (ks ++ [m]) cells2 ∧ Q = (restK cutN stepR false d (65 - (n + 1)) l3 (s.data.toList.drop i5)).map (fun q => ((⟨7, ⟨#[]⟩, ⟨#[]⟩, [], (ks ++ [m]) ++ q.1⟩ : S25), q.2)))) := Lib.hid (HM.out.imp id (fun ⟨h, l3, m, cells2, h1, h2, h3, h4⟩ => ⟨h, l3, m, cells2, h1, h2, h3.keep hkk.1 hfd, h4⟩))
     clear hkb hkk hks HGc HSc HC H2 HM hfd
     cases v with
     | true =>
      have hf : b5 = false ∧ nextB 41 (s.data.toList.drop i5) = true ∧ iq = i5 + 1 := by
       rcases HTd.out with ⟨-, h1, h2, h3⟩ | ⟨h, -⟩
       ·exact ⟨h1, h2, h3⟩
       ·cases h
      have HF := Lib.hid hf
      clear hf HTd
      go_wp2
      go_meet
      case rel =>
       obtain ⟨rfl, hnx, rfl⟩ := HF.out
       refine ⟨n + 1, i5 + 1, false, nz5, A2, c2, hid, HD, HGd, Lib.hid (Or.inr ⟨rfl, ?_⟩)⟩
       rcases HMd.out with ⟨h, -⟩ | ⟨-, l3, m, cells2, h1, h2, h3, h4⟩
       ·cases h
       ·refine ⟨l3, ks ++ [m], cells2, h1, by rw [List.length_append, HNL.out.2]; rfl, h3.1, h3.2, ?_⟩
        rw [h4]
        unfold restK
        rw [if_pos hnx, List.drop_drop]
        simp
     | false =>
      have HF := Lib.hid (show iq = i5 ∧ (b5 = true ∨ nextB 41 (s.data.toList.drop i5) = false) by
       rcases HTd.out with ⟨h, -⟩ | ⟨-, h1, h2⟩
       ·cases h
       ·exact ⟨h1, h2⟩)
      have H3 := Lib.hid (mustAny w0 wd g s iq b5 44 44 rfl hid hs hg HD.out.below HD.out.sb)
      clear HTd
      go_wp2_with fail
      refine H3.out.mono ?_
      rintro ee we ⟨ie, be, rfl, hke, hie, HTe⟩
      have HE : Hid (RS w0 w we g gn K s ie be nz5) := Lib.hid (HD.out.moved HL.out hke)
      obtain ⟨hkb, hkk, hks⟩ := hke
      have hfe : ∀ b, G1 + 1 ≤ b → b < wd.heap.size → we.heap[b]? = wd.heap[b]? := fun b h1 h2 => hkk.2 b h2 (by omega) (by simp)
      have HGe := Lib.hid ((hkk.2 G1 (blk_lt HGd.out) HNG.out.2.2.1 (by simp)).trans HGd.out)
      have HSe := Lib.hid (Nat.le_trans HSd.out hkk.1)
      have HKe : Hid (KST w0 w we g gn K G1 s d left 7 Q (n + 1) ie be nz5 A2 c2) := Lib.hid (by
       unfold KST
       obtain ⟨rfl, hf2⟩ := HF.out
       rcases HMd.out with ⟨rfl, h⟩ | ⟨rfl, l3, m, cells2, h1, h2, h3, h4⟩
       ·rcases HTe.out with ⟨rfl, -⟩ | ⟨-, h', -⟩
        ·exact Or.inl ⟨rfl, h⟩
        ·cases h'
       ·rcases hf2 with h' | hn1
        ·cases h'
        ·rcases HTe.out with ⟨rfl, h' | hn2⟩ | ⟨rfl, -, hn2, rfl⟩
         ·cases h'
         ·refine Or.inl ⟨rfl, ?_⟩
          rw [h4]; unfold restK; rw [if_neg (by rw [hn1]; decide), if_neg (by rw [hn2]; decide)]; rfl
         ·have hk := h3.keep hkk.1 hfe
          refine Or.inr ⟨rfl, l3, ks ++ [m], cells2, h1, h2, by rw [List.length_append, HNL.out.2]; rfl, hk.1, hk.2, ?_⟩
          rw [h4]; unfold restK; rw [if_neg (by rw [hn1]; decide), if_pos hn2, List.drop_drop])
      clear hkb hkk hks HGd HSd HD H3 HTe HF HMd hfe
      go_wp2
      go_roundw
      case rel => exact ⟨n + 1, ie, be, nz5, A2, c2, hie, HE, HGe, HKe, HSe⟩
      case measure =>
       have h1 : we.cell? ⟨G1, 4, none⟩ = some (.slice A2 (n + 1) c2) := (blk_cell HGe.out 4).trans rfl
       rw [h1, HY4.out]
       simp [lenV]
       omega
  case rest =>
   obtain ⟨n, p, b, nzr, A, c, hp, HR, HGr, HS2⟩ := hcut
   clear H9n HG9 HST HS9
   have y0 := blk_cell HGr.out 0
   have y1 := blk_cell HGr.out 1
   have y2 := blk_cell HGr.out 2
   have y3 := blk_cell HGr.out 3
   have y4 := blk_cell HGr.out 4
   have xk0 := HR.out.k0
   have xk1 := HR.out.k1
   have xk2 := HR.out.k2
   have xk3 := HR.out.k3
   have xk4 := HR.out.k4
   have xz0 := HR.out.zK 0
   have xz1 := HR.out.zK 1
   have xz2 := HR.out.zK 2
   have xz3 := HR.out.zK 3
   have xz4 := HR.out.zK 4
   simp only [List.getElem?_toArray, List.getElem?_cons_zero, List.getElem?_cons_succ] at y0 y1 y2 y3 y4
   have hne1 : G1 ≠ K := HNG.out.1
   have hne2 : K ≠ G1 := HNG.out.2.1
   cases b with
   | true =>
    have HQn := Lib.hid (show Q = none by
     rcases HS2.out with ⟨-, h⟩ | ⟨h, -⟩
     ·exact h
     ·cases h)
    clear HS2
    go_wp2
    have hT := HR.out.bad HL.out hp 7 ⟨#[]⟩ ⟨#[]⟩ none 0 0 A n c
    rw [HQn.out]
    exact bodyPost_ret (results_single rfl (.cell K 25 _ (0, 0) _ rfl hT.1 Try.underlying25 rfl (by kernel_rfl) .nil)) rfl hT.2
   | false =>
    obtain ⟨l2, ks, cells, h1, h2, h3, h4, h5⟩ : ∃ (l2 : Nat) (ks : List S25) (cells : List Value), nzr = 64 - (l2 : Int) ∧ ks.length = n ∧ wc.ownsRow (G1 + 1) 25 5 (.slice A n c) n cells ∧ Reps (KR wc (Part (G1 + 1) wc (.slice A n c))) 5 ks cells ∧ Q = some (⟨7, ⟨#[]⟩, ⟨#[]⟩, [], ks⟩, l2, s.data.toList.drop p) := by
     rcases HS2.out with ⟨h, -⟩ | ⟨-, h⟩
     ·cases h
     ·exact h
    subst h2
    have HQn := Lib.hid h5
    have HO := Lib.hid (And.intro h3 h4)
    have HNR := Lib.hid h1
    clear HS2 h1 h3 h4 h5
    go_wp2
    obtain ⟨F3, gg3, F4, gg4, ev3, ev4, hMF⟩ := MF.of_rows (m := ⟨7, ⟨#[]⟩, ⟨#[]⟩, [], ks⟩) (lo' := G1 + 1) (World.ownsRow_nil _ _ _ _) HO.out.1 HO.out.2 (Nat.le_refl _)
    simp only at ev3 ev4
    cases ev3
    cases ev4
    have hT := HR.out.good (m := ⟨7, ⟨#[]⟩, ⟨#[]⟩, [], ks⟩) HL.out hp rfl HNR.out (hMF.move (fun q hq => ⟨⟨by have := hq.1; have := HKG.out; omega, hq.2⟩, rfl⟩))
    rw [HQn.out]
    exact bodyPost_ret (results_single rfl (.cell K 25 _ (0, 0) _ rfl hT.1 Try.underlying25 rfl (by kernel_rfl) .nil)) rfl hT.2
end Go.Proofs.Yteafilojjdfllaa
end
section
namespace Go.Proofs.Yteafilojjdfllaa
open Go Go.RowKit Go.Proofs.YteafilojjdfllaaW.PrintWords Go.Proofs.Yteafilojjdfllaa.PAll
theorem toList_iff {a b : ByteArray} : a.toList = b.toList ↔ a = b := by
 rw [ByteArray.toList_eq, ByteArray.toList_eq]
 constructor
 ·intro h
  cases a; cases b
  simp only at h
  rw [Array.toList_inj.1 h]
 ·intro h; rw [h]
end Go.Proofs.Yteafilojjdfllaa
end
section
namespace Go.Proofs.Yteafilojjdfllaa
open Go Go.RowKit Go.Proofs.YteafilojjdfllaaW.PrintWords Go.Proofs.YteafilojjdfllaaW.PrintLast Go.Proofs.YteafilojjdfllaaW.PrintMore Go.Proofs.Yteafilojjdfllaa.PAll
/-- a matcher's text -/
def tB (m : S25) : ByteArray := ⟨(textM m).toArray⟩
theorem sign159 (w : World) (op : Int) (s : ByteArray) (h : match_sign.f op = some s) : Calls Try.prog 159 #[.int .i64 op] w fun e w' => e = .returned (.string s) ∧ Below w.heap.size w w' :=
 (match_sign.calls op s w h).mono fun _ _ h => ⟨h.1, h.2.below⟩
theorem sizes_mem : ∀ {vs : List ByteArray} {x : ByteArray}, x ∈ vs → x.size ≤ sizes vs
 | v :: vs, x, h => by
  simp only [sizes]
  rcases List.mem_cons.1 h with rfl | h
  ·omega
  ·have := sizes_mem h; omega
theorem bytesL_mem : ∀ {ks : List S25} {x : S25}, x ∈ ks → bytesM x ≤ bytesL ks
 | v :: vs, x, h => by
  simp only [bytesL]
  rcases List.mem_cons.1 h with rfl | h
  ·omega
  ·have := bytesL_mem h; omega
theorem tB_map (ks : List S25) : (ks.map tB).map (·.data.toList) = ks.map textM := by simp [tB, Function.comp_def]
set_option maxRecDepth 100000 in
set_option maxHeartbeats 8000000 in
theorem text110 : ∀ (N : Nat) (m : S25), nodesM m ≤ N → okM m = true → nodesM m ≤ 1000 → bytesM m ≤ 1000000 → ∀ (A3 : Option Addr) (c3 : Nat) (A4 : Option Addr) (c4 : Nat) (w : World), MC w m A3 c3 A4 c4 →
  Calls Try.prog 110 #[.agg #[.int .i64 m.f0, .string m.f1, .string m.f2, .slice A3 m.f3.length c3, .slice A4 m.f4.length c4]] w fun e w' => e = .returned (.string (tB m)) ∧ Below w.heap.size w w' := by
 intro N
 induction N with
 | zero => intro m h; rw [nodesM_mk] at h; omega
 | succ N ih =>
  intro m hN hok h1000 hbytes A3 c3 A4 c4 w hM
  have IH := Lib.hid ih
  clear ih
  have hlen := textM_len _ m (Nat.le_refl _) hok
  have hB0 : Below w.heap.size w (w.alloc (.cells #[.int .i64 m.f0, .string m.f1, .string m.f2, .slice A3 m.f3.length c3, .slice A4 m.f4.length c4] 25)) := below_alloc (Below.refl _ _) _
  have hX0 : BoxM (w.alloc (.cells #[.int .i64 m.f0, .string m.f1, .string m.f2, .slice A3 m.f3.length c3, .slice A4 m.f4.length c4] 25)) w.heap.size m.f0 m.f1 m.f2 (.slice A3 m.f3.length c3) (.slice A4 m.f4.length c4) := blk_new w _
  have hb := bytesM_mk m
  have hnd := nodesM_mk m
  rcases shape hok with rfl | ⟨op, n, v, ho, hn, rfl⟩ | ⟨n, vs, hn, rfl⟩ | ⟨op, ks, ho, hk, rfl⟩
  ·simp only at hX0 hB0 ⊢
   go_enter Try.func110, Try.ntmps110
   go_wp2
   go_ret
   exact ⟨rfl, hB0⟩
  ·simp only at hX0 hB0 hb ⊢
   have hv : v.size ≤ 1000000 := by omega
   have hT := text_n (n := n) (v := v) (vs := []) (show op = 1 ∨ op = 2 ∨ op = 3 ∨ op = 4 by omega)
   have hn2 : n.data.toList.length ≤ 1000000 := by rw [show n.data.toList.length = n.size by simp]; omega
   have hq := quoteT_len v
   rcases ho with rfl | rfl | rfl
   ·obtain ⟨s1, e1⟩ : ∃ s1 : ByteArray, s1.data.toList = n.data.toList ++ [61] := ⟨⟨(n.data.toList ++ [61]).toArray⟩, rfl⟩
    have a1 : Op.stringOp .add n ⟨#[61]⟩ = pure (.string s1) := add_to (by rw [e1]) (by rw [e1, List.length_append]; simp only [List.length_cons, List.length_nil]; omega)
    have eT : ∀ t, t = tB ⟨1, n, v, [], []⟩ → s1.data.toList ++ (qB v).data.toList = t.data.toList := fun t ht => by rw [ht, e1]; unfold tB; rw [hT]; simp [textN, qB]
    obtain ⟨t, et⟩ : ∃ t, t = tB ⟨1, n, v, [], []⟩ := ⟨_, rfl⟩
    have a2 : Op.stringOp .add s1 (qB v) = pure (.string t) := add_to (eT t et) (by rw [← eT t et, List.length_append, e1, List.length_append]; simp only [qB, List.length_cons, List.length_nil]; omega)
    rw [← et]
    have hXd := hX0.below (below_drew (Below.refl _ _))
    have hBd := below_drew hB0
    clear hT hM hok hlen hN h1000 hbytes hb IH hnd eT e1 et hq hn2
    have f1 := hXd.c1
    have f2 := hXd.c2
    go_enter Try.func110, Try.ntmps110
    go_wp2_with fail
    go_region_held3 (fun w' => w'.cell? ⟨w.heap.size, 1, none⟩ = some (.string n) ∧ w'.cell? ⟨w.heap.size, 2, none⟩ = some (.string v) ∧ Below w.heap.size w w')
     (first | exact ⟨by assumption, by assumption, by assumption⟩)
     (first | (go_at_call 125; (with_reducible refine (quoted125 _ v hv).mono ?_); rintro e w1 ⟨rfl, hb1⟩; have hX1 := hXd.below hb1; have f1 := hX1.c1; have f2 := hX1.c2; have hB1 := below_step hBd hb1))
    rename_i hS
    have hBe := hS.2.2
    clear hS
    go_wp2_with fail
    go_ret
    exact ⟨rfl, hBe⟩
   ·obtain ⟨s1, e1⟩ : ∃ s1 : ByteArray, s1.data.toList = n.data.toList ++ [33, 61] := ⟨⟨(n.data.toList ++ [33, 61]).toArray⟩, rfl⟩
    have a1 : Op.stringOp .add n ⟨#[33, 61]⟩ = pure (.string s1) := add_to (by rw [e1]) (by rw [e1, List.length_append]; simp only [List.length_cons, List.length_nil]; omega)
    have eT : ∀ t, t = tB ⟨2, n, v, [], []⟩ → s1.data.toList ++ (qB v).data.toList = t.data.toList := fun t ht => by rw [ht, e1]; unfold tB; rw [hT]; simp [textN, qB]
    obtain ⟨t, et⟩ : ∃ t, t = tB ⟨2, n, v, [], []⟩ := ⟨_, rfl⟩
    have a2 : Op.stringOp .add s1 (qB v) = pure (.string t) := add_to (eT t et) (by rw [← eT t et, List.length_append, e1, List.length_append]; simp only [qB, List.length_cons, List.length_nil]; omega)
    rw [← et]
    have hXd := hX0.below (below_drew (Below.refl _ _))
    have hBd := below_drew hB0
    clear hT hM hok hlen hN h1000 hbytes hb IH hnd eT e1 et hq hn2
    have f1 := hXd.c1
    have f2 := hXd.c2
    go_enter Try.func110, Try.ntmps110
    go_wp2_with fail
    go_region_held3 (fun w' => w'.cell? ⟨w.heap.size, 1, none⟩ = some (.string n) ∧ w'.cell? ⟨w.heap.size, 2, none⟩ = some (.string v) ∧ Below w.heap.size w w')
     (first | exact ⟨by assumption, by assumption, by assumption⟩)
     (first | (go_at_call 125; (with_reducible refine (quoted125 _ v hv).mono ?_); rintro e w1 ⟨rfl, hb1⟩; have hX1 := hXd.below hb1; have f1 := hX1.c1; have f2 := hX1.c2; have hB1 := below_step hBd hb1))
    rename_i hS
    have hBe := hS.2.2
    clear hS
    go_wp2_with fail
    go_ret
    exact ⟨rfl, hBe⟩
   ·obtain ⟨s1, e1⟩ : ∃ s1 : ByteArray, s1.data.toList = n.data.toList ++ [94, 61] := ⟨⟨(n.data.toList ++ [94, 61]).toArray⟩, rfl⟩
    have a1 : Op.stringOp .add n ⟨#[94, 61]⟩ = pure (.string s1) := add_to (by rw [e1]) (by rw [e1, List.length_append]; simp only [List.length_cons, List.length_nil]; omega)
    have eT : ∀ t, t = tB ⟨3, n, v, [], []⟩ → s1.data.toList ++ (qB v).data.toList = t.data.toList := fun t ht => by rw [ht, e1]; unfold tB; rw [hT]; simp [textN, qB]
    obtain ⟨t, et⟩ : ∃ t, t = tB ⟨3, n, v, [], []⟩ := ⟨_, rfl⟩
    have a2 : Op.stringOp .add s1 (qB v) = pure (.string t) := add_to (eT t et) (by rw [← eT t et, List.length_append, e1, List.length_append]; simp only [qB, List.length_cons, List.length_nil]; omega)
    rw [← et]
    have hXd := hX0.below (below_drew (Below.refl _ _))
    have hBd := below_drew hB0
    clear hT hM hok hlen hN h1000 hbytes hb IH hnd eT e1 et hq hn2
    have f1 := hXd.c1
    have f2 := hXd.c2
    go_enter Try.func110, Try.ntmps110
    go_wp2_with fail
    go_region_held3 (fun w' => w'.cell? ⟨w.heap.size, 1, none⟩ = some (.string n) ∧ w'.cell? ⟨w.heap.size, 2, none⟩ = some (.string v) ∧ Below w.heap.size w w')
     (first | exact ⟨by assumption, by assumption, by assumption⟩)
     (first | (go_at_call 125; (with_reducible refine (quoted125 _ v hv).mono ?_); rintro e w1 ⟨rfl, hb1⟩; have hX1 := hXd.below hb1; have f1 := hX1.c1; have f2 := hX1.c2; have hB1 := below_step hBd hb1))
    rename_i hS
    have hBe := hS.2.2
    clear hS
    go_wp2_with fail
    go_ret
    exact ⟨rfl, hBe⟩
  ·simp only [List.length_nil] at hX0 hB0 hb hlen ⊢
   have h16 := ok_vals16 hok
   have hT := text_n (op := 4) (n := n) (v := ⟨#[]⟩) (vs := vs) (by omega)
   have HT := Lib.hid hT
   have HM := Lib.hid (fun j hj => hM.value j hj)
   simp only at HM
   have Hsz := Lib.hid (fun (x : ByteArray) (hx : x ∈ vs) => sizes_mem hx)
   have Hl := Lib.hid (show (commas (vs.map quoteT)).length ≤ 140737488355328 from by
    rw [hT] at hlen
    simp only [textN, List.length_append, List.length_cons, if_neg (show ¬ (4 : Int) = 1 by decide), if_neg (show ¬ (4 : Int) = 2 by decide), if_neg (show ¬ (4 : Int) = 3 by decide)] at hlen
    omega)
   have hsv : sizes vs ≤ 1000000 := by omega
   have hn2 : n.data.toList.length ≤ 1000000 := by rw [show n.data.toList.length = n.size by simp]; omega
   obtain ⟨t, et⟩ : ∃ t, t = tB ⟨4, n, ⟨#[]⟩, vs, []⟩ := ⟨_, rfl⟩
   have eT : t.data.toList = n.data.toList ++ [64, 40] ++ commas (vs.map quoteT) ++ [41] := by rw [et]; unfold tB; rw [hT]; simp [textN]
   have eL : t.data.toList.length ≤ 1000000000 := by rw [et]; unfold tB; simp only; omega
   obtain ⟨s1, e1⟩ : ∃ s1 : ByteArray, s1.data.toList = n.data.toList ++ [64, 40] := ⟨⟨(n.data.toList ++ [64, 40]).toArray⟩, rfl⟩
   obtain ⟨s2, e2⟩ : ∃ s2 : ByteArray, s2.data.toList = n.data.toList ++ [64, 40] ++ commas (vs.map quoteT) := ⟨⟨(n.data.toList ++ [64, 40] ++ commas (vs.map quoteT)).toArray⟩, rfl⟩
   have a1 : Op.stringOp .add n ⟨#[64, 40]⟩ = pure (.string s1) := add_to (by rw [e1]) (by rw [e1]; rw [eT, List.length_append, List.length_append] at eL; omega)
   have a2 : Op.stringOp .add s1 ⟨(commas (vs.map quoteT)).toArray⟩ = pure (.string s2) := add_to (by rw [e1, e2]) (by rw [e2]; rw [eT, List.length_append] at eL; omega)
   have a3 : Op.stringOp .add s2 ⟨#[41]⟩ = pure (.string t) := add_to (by rw [e2, eT]) eL
   rw [← et]
   obtain ⟨W0, e0⟩ : ∃ W0, w.alloc (.cells #[.int .i64 4, .string n, .string ⟨#[]⟩, .slice A3 vs.length c3, .slice A4 0 c4] 25) = W0 := ⟨_, rfl⟩
   have hsz : W0.heap.size = w.heap.size + 1 := by rw [← e0]; simp
   rw [e0] at hX0 hB0
   have x1 := hX0.c1
   have x3 := hX0.c3
   have E0 := Lib.hid e0
   clear hT hM hok hlen hN h1000 hbytes hb IH hnd e0 eT eL e1 e2 et hn2
   go_enter Try.func110, Try.ntmps110
   go_wp2
   rw [E0.out]
   go_loopw [3, 44] (fun u3 u44 wr => ∃ (j : Nat), u44 = .int .i64 j ∧ j ≤ vs.length ∧ wr.ownsRow W0.heap.size 9 1 u3 j (encs Value.string ((vs.take j).map qB)) ∧ Below W0.heap.size W0 wr)
    (fun _ u44 _ => vs.length - (intOf u44).toNat)
   case atStart => exact ⟨0, rfl, Nat.zero_le _, by simpa [encs] using World.ownsRow_nil _ _ _ _, Below.refl _ _⟩
   case round =>
    obtain ⟨j, rfl, hj, hO, hB⟩ := hrel
    have hle := hB.size
    by_cases hlt : j < vs.length
    ·obtain ⟨ad, rfl, hcell⟩ := HM.out j hlt
     have hcell := pw_cell_below (below_step hB0 hB) hcell
     have Htake := Lib.hid (takeD vs ByteArray.empty j hlt)
     have hxs := Hsz.out (vs.getD j ByteArray.empty) (by simp [List.getD_eq_getElem?_getD, hlt])
     obtain ⟨x, ex⟩ : ∃ x, vs.getD j ByteArray.empty = x := ⟨_, rfl⟩
     rw [ex] at hcell Htake hxs
     clear ex
     have hlj : ((vs.take j).map qB).length = j := by simp; omega
     obtain ⟨Au, cu, rfl⟩ := own_slice hO
     have HO := Lib.hid hO
     clear hO
     go_wp2_with (first | (go_at_call 125; (with_reducible refine (quoted125 _ x (by omega)).mono ?_); rintro e w5 ⟨rfl, hB5⟩) | (at_builtin; refine print_append_of (w0 := W0) (W := w5) Value.string W0.heap.size rfl (.tmp 48) (.tmp 51) 22 9 (.string ByteArray.empty) 16 rfl Try.underlying22 infoSt rfl (by decide) (.slice Au j cu) ((vs.take j).map qB) (qB x) rfl rfl rfl (by rw [hlj]; exact pw_own_below HO.out hB5) (below_step hB hB5) (by have := hB5.size; omega) (by rw [hlj]; omega) ?_; intro v1 w2 hown2 hb2 hg2 hat2))
     go_roundw
     case rel => exact ⟨j + 1, by go_num, by omega, by rw [Htake.out, List.map_append]; rw [List.length_append, hlj] at hown2; exact hown2, hb2⟩
     case measure => simp [intOf]; omega
    ·obtain rfl : j = vs.length := by omega
     rw [List.take_length] at hO
     have hXr := (hX0.below hB).below (below_drew (Below.refl _ _))
     have hBr := below_drew (below_step hB0 hB)
     have f1 := hXr.c1
     obtain ⟨Au, cu, rfl⟩ := own_slice hO
     have HO := Lib.hid hO
     clear hO x1 x3
     go_wp2_with fail
     go_region_held3 (fun w' => w'.cell? ⟨w.heap.size, 1, none⟩ = some (.string n) ∧ Below w.heap.size w w')
      (first | exact ⟨by assumption, by assumption⟩)
      (first | (go_at_call 126; (with_reducible refine (join126 _ W0.heap.size (.slice Au vs.length cu) (vs.map qB) (by rw [List.length_map]; exact pw_own_below HO.out (below_drew (Below.refl _ _))) (by simp; omega) (by rw [qB_map]; exact Hl.out)).mono ?_); rintro e w1 ⟨rfl, hb1⟩; rw [qB_map]; have hX1 := hXr.below hb1; have f1 := hX1.c1; have hB1 := below_step hBr hb1))
     rename_i hS
     have hBe := hS.2
     clear hS
     go_wp2_with fail
     go_ret
     exact ⟨rfl, hBe⟩
  ·have hT := text_k (ks := ks) ho
   rcases ho with rfl | rfl | rfl
   ·simp only [List.length_nil] at hX0 hB0 hb hlen hnd ⊢
    have HT := Lib.hid hT
    have HM := Lib.hid (fun j hj => hM.kid j hj)
    simp only at HM
    have hln := lenL_nodes ks
    have Hl := Lib.hid (show (commas (ks.map textM)).length ≤ 140737488355328 from by
     rw [hT] at hlen
     simp only [List.length_append, List.length_cons] at hlen
     omega)
    have Hkid := Lib.hid (fun (x : S25) (hx : x ∈ ks) => (⟨by have := nodes_lt ⟨5, ⟨#[]⟩, ⟨#[]⟩, [], ks⟩ x hx; omega, okL_mem hk hx, by have := nodes_lt ⟨5, ⟨#[]⟩, ⟨#[]⟩, [], ks⟩ x hx; omega, by have := bytesL_mem hx; omega⟩ : nodesM x ≤ N ∧ okM x = true ∧ nodesM x ≤ 1000 ∧ bytesM x ≤ 1000000))
    obtain ⟨sg, esg⟩ : ∃ sg : ByteArray, sg = ⟨#[38]⟩ := ⟨_, rfl⟩
    have hsg : match_sign.f 5 = some sg := by rw [esg]; rfl
    have Hsg := Lib.hid hsg
    obtain ⟨t, et⟩ : ∃ t, t = tB ⟨5, ⟨#[]⟩, ⟨#[]⟩, [], ks⟩ := ⟨_, rfl⟩
    have eT : t.data.toList = sg.data.toList ++ [40] ++ commas (ks.map textM) ++ [41] := by rw [et, esg]; unfold tB; rw [hT]; simp
    have eL : t.data.toList.length ≤ 1000000000 := by rw [et]; unfold tB; simp only; omega
    obtain ⟨s1, e1⟩ : ∃ s1 : ByteArray, s1.data.toList = sg.data.toList ++ [40] := ⟨⟨(sg.data.toList ++ [40]).toArray⟩, rfl⟩
    obtain ⟨s2, e2⟩ : ∃ s2 : ByteArray, s2.data.toList = sg.data.toList ++ [40] ++ commas (ks.map textM) := ⟨⟨(sg.data.toList ++ [40] ++ commas (ks.map textM)).toArray⟩, rfl⟩
    have a1 : Op.stringOp .add sg ⟨#[40]⟩ = pure (.string s1) := add_to (by rw [e1]) (by rw [e1]; rw [eT, List.length_append, List.length_append] at eL; omega)
    have a2 : Op.stringOp .add s1 ⟨(commas (ks.map textM)).toArray⟩ = pure (.string s2) := add_to (by rw [e1, e2]) (by rw [e2]; rw [eT, List.length_append] at eL; omega)
    have a3 : Op.stringOp .add s2 ⟨#[41]⟩ = pure (.string t) := add_to (by rw [e2, eT]) eL
    rw [← et]
    obtain ⟨W0, e0⟩ : ∃ W0, w.alloc (.cells #[.int .i64 5, .string ⟨#[]⟩, .string ⟨#[]⟩, .slice A3 0 c3, .slice A4 ks.length c4] 25) = W0 := ⟨_, rfl⟩
    have hsz : W0.heap.size = w.heap.size + 1 := by rw [← e0]; simp
    rw [e0] at hX0 hB0
    have x0 := hX0.c0
    have x4 := hX0.c4
    have hk1000 : ks.length ≤ 1000 := by omega
    have E0 := Lib.hid e0
    clear hT hM hok hlen hN h1000 hbytes hb hnd e0 hln eT eL e1 e2 et hsg esg
    go_enter Try.func110, Try.ntmps110
    go_wp2
    rw [E0.out]
    clear x0 x4
    go_loopw [3, 7, 64] (fun u3 _ u64 wr => ∃ (j : Nat), u64 = .int .i64 j ∧ j ≤ ks.length ∧ wr.ownsRow W0.heap.size 9 1 u3 j (encs Value.string ((ks.take j).map tB)) ∧ Below W0.heap.size W0 wr)
     (fun _ _ u64 _ => ks.length - (intOf u64).toNat)
    case atStart => exact ⟨0, rfl, Nat.zero_le _, by simpa [encs] using World.ownsRow_nil _ _ _ _, Below.refl _ _⟩
    case round =>
     obtain ⟨j, rfl, hj, hO, hB⟩ := hrel
     have hle := hB.size
     by_cases hlt : j < ks.length
     ·obtain ⟨ad, B3, e3, B4, e4, rfl, hMk, k0, k1, k2, k3, k4⟩ := HM.out j hlt
      have k0 := pw_cell_below (below_step hB0 hB) k0
      have k1 := pw_cell_below (below_step hB0 hB) k1
      have k2 := pw_cell_below (below_step hB0 hB) k2
      have k3 := pw_cell_below (below_step hB0 hB) k3
      have k4 := pw_cell_below (below_step hB0 hB) k4
      have Htake := Lib.hid (takeD ks z25 j hlt)
      have hxs := Lib.hid (Hkid.out (ks.getD j z25) (by simp [List.getD_eq_getElem?_getD, hlt]))
      obtain ⟨x, ex⟩ : ∃ x, ks.getD j z25 = x := ⟨_, rfl⟩
      rw [ex] at hMk k0 k1 k2 k3 k4 Htake hxs
      clear ex
      have hlj : ((ks.take j).map tB).length = j := by simp; omega
      obtain ⟨Au, cu, rfl⟩ := own_slice hO
      have HO := Lib.hid hO
      clear hO
      go_wp2_with (first | (go_at_call 110; (with_reducible refine (IH.out x hxs.out.1 hxs.out.2.1 hxs.out.2.2.1 hxs.out.2.2.2 B3 e3 B4 e4 _ (hMk.below (below_step hB0 (below_alloc hB _)))).mono ?_); rintro e w5 ⟨rfl, hB5⟩; have hBa := below_step (below_alloc hB _) hB5) | (at_builtin; refine print_append_of (w0 := W0) (W := w5) Value.string W0.heap.size rfl (.tmp 68) (.tmp 71) 22 9 (.string ByteArray.empty) 16 rfl Try.underlying22 infoSt rfl (by decide) (.slice Au j cu) ((ks.take j).map tB) (tB x) rfl rfl rfl (by rw [hlj]; exact pw_own_below HO.out (below_step (below_alloc (Below.refl _ _) _) hB5)) hBa (by have := hBa.size; omega) (by rw [hlj]; omega) ?_; intro v1 w2 hown2 hb2 hg2 hat2))
      go_roundw
      case rel => exact ⟨j + 1, by go_num, by omega, by rw [Htake.out, List.map_append]; rw [List.length_append, hlj] at hown2; exact hown2, hb2⟩
      case measure => simp [intOf]; omega
     ·obtain rfl : j = ks.length := by omega
      rw [List.take_length] at hO
      have hXr := hX0.below hB
      have f0 := hXr.c0
      obtain ⟨Au, cu, rfl⟩ := own_slice hO
      have HO := Lib.hid hO
      clear hO
      go_wp2_with (first | (go_at_call 159; (with_reducible refine (sign159 _ 5 _ Hsg.out).mono ?_); rintro e w1 ⟨rfl, hb1⟩; have hB1 := below_step (below_step hB0 hB) hb1) | (go_at_call 126; (with_reducible refine (join126 _ W0.heap.size (.slice Au ks.length cu) (ks.map tB) (by rw [List.length_map]; exact pw_own_below HO.out hb1) (by simp; omega) (by rw [tB_map]; exact Hl.out)).mono ?_); rintro e w2 ⟨rfl, hb2⟩; rw [tB_map]; have hB2 := below_step hB1 hb2))
      go_ret
      exact ⟨rfl, hB2⟩
   ·simp only [List.length_nil] at hX0 hB0 hb hlen hnd ⊢
    have HT := Lib.hid hT
    have HM := Lib.hid (fun j hj => hM.kid j hj)
    simp only at HM
    have hln := lenL_nodes ks
    have Hl := Lib.hid (show (commas (ks.map textM)).length ≤ 140737488355328 from by
     rw [hT] at hlen
     simp only [List.length_append, List.length_cons] at hlen
     omega)
    have Hkid := Lib.hid (fun (x : S25) (hx : x ∈ ks) => (⟨by have := nodes_lt ⟨6, ⟨#[]⟩, ⟨#[]⟩, [], ks⟩ x hx; omega, okL_mem hk hx, by have := nodes_lt ⟨6, ⟨#[]⟩, ⟨#[]⟩, [], ks⟩ x hx; omega, by have := bytesL_mem hx; omega⟩ : nodesM x ≤ N ∧ okM x = true ∧ nodesM x ≤ 1000 ∧ bytesM x ≤ 1000000))
    obtain ⟨sg, esg⟩ : ∃ sg : ByteArray, sg = ⟨#[124]⟩ := ⟨_, rfl⟩
    have hsg : match_sign.f 6 = some sg := by rw [esg]; rfl
    have Hsg := Lib.hid hsg
    obtain ⟨t, et⟩ : ∃ t, t = tB ⟨6, ⟨#[]⟩, ⟨#[]⟩, [], ks⟩ := ⟨_, rfl⟩
    have eT : t.data.toList = sg.data.toList ++ [40] ++ commas (ks.map textM) ++ [41] := by rw [et, esg]; unfold tB; rw [hT]; simp
    have eL : t.data.toList.length ≤ 1000000000 := by rw [et]; unfold tB; simp only; omega
    obtain ⟨s1, e1⟩ : ∃ s1 : ByteArray, s1.data.toList = sg.data.toList ++ [40] := ⟨⟨(sg.data.toList ++ [40]).toArray⟩, rfl⟩
    obtain ⟨s2, e2⟩ : ∃ s2 : ByteArray, s2.data.toList = sg.data.toList ++ [40] ++ commas (ks.map textM) := ⟨⟨(sg.data.toList ++ [40] ++ commas (ks.map textM)).toArray⟩, rfl⟩
    have a1 : Op.stringOp .add sg ⟨#[40]⟩ = pure (.string s1) := add_to (by rw [e1]) (by rw [e1]; rw [eT, List.length_append, List.length_append] at eL; omega)
    have a2 : Op.stringOp .add s1 ⟨(commas (ks.map textM)).toArray⟩ = pure (.string s2) := add_to (by rw [e1, e2]) (by rw [e2]; rw [eT, List.length_append] at eL; omega)
    have a3 : Op.stringOp .add s2 ⟨#[41]⟩ = pure (.string t) := add_to (by rw [e2, eT]) eL
    rw [← et]
    obtain ⟨W0, e0⟩ : ∃ W0, w.alloc (.cells #[.int .i64 6, .string ⟨#[]⟩, .string ⟨#[]⟩, .slice A3 0 c3, .slice A4 ks.length c4] 25) = W0 := ⟨_, rfl⟩
    have hsz : W0.heap.size = w.heap.size + 1 := by rw [← e0]; simp
    rw [e0] at hX0 hB0
    have x0 := hX0.c0
    have x4 := hX0.c4
    have hk1000 : ks.length ≤ 1000 := by omega
    have E0 := Lib.hid e0
    clear hT hM hok hlen hN h1000 hbytes hb hnd e0 hln eT eL e1 e2 et hsg esg
    go_enter Try.func110, Try.ntmps110
    go_wp2
    rw [E0.out]
    clear x0 x4
    go_loopw [3, 7, 64] (fun u3 _ u64 wr => ∃ (j : Nat), u64 = .int .i64 j ∧ j ≤ ks.length ∧ wr.ownsRow W0.heap.size 9 1 u3 j (encs Value.string ((ks.take j).map tB)) ∧ Below W0.heap.size W0 wr)
     (fun _ _ u64 _ => ks.length - (intOf u64).toNat)
    case atStart => exact ⟨0, rfl, Nat.zero_le _, by simpa [encs] using World.ownsRow_nil _ _ _ _, Below.refl _ _⟩
    case round =>
     obtain ⟨j, rfl, hj, hO, hB⟩ := hrel
     have hle := hB.size
     by_cases hlt : j < ks.length
     ·obtain ⟨ad, B3, e3, B4, e4, rfl, hMk, k0, k1, k2, k3, k4⟩ := HM.out j hlt
      have k0 := pw_cell_below (below_step hB0 hB) k0
      have k1 := pw_cell_below (below_step hB0 hB) k1
      have k2 := pw_cell_below (below_step hB0 hB) k2
      have k3 := pw_cell_below (below_step hB0 hB) k3
      have k4 := pw_cell_below (below_step hB0 hB) k4
      have Htake := Lib.hid (takeD ks z25 j hlt)
      have hxs := Lib.hid (Hkid.out (ks.getD j z25) (by simp [List.getD_eq_getElem?_getD, hlt]))
      obtain ⟨x, ex⟩ : ∃ x, ks.getD j z25 = x := ⟨_, rfl⟩
      rw [ex] at hMk k0 k1 k2 k3 k4 Htake hxs
      clear ex
      have hlj : ((ks.take j).map tB).length = j := by simp; omega
      obtain ⟨Au, cu, rfl⟩ := own_slice hO
      have HO := Lib.hid hO
      clear hO
      go_wp2_with (first | (go_at_call 110; (with_reducible refine (IH.out x hxs.out.1 hxs.out.2.1 hxs.out.2.2.1 hxs.out.2.2.2 B3 e3 B4 e4 _ (hMk.below (below_step hB0 (below_alloc hB _)))).mono ?_); rintro e w5 ⟨rfl, hB5⟩; have hBa := below_step (below_alloc hB _) hB5) | (at_builtin; refine print_append_of (w0 := W0) (W := w5) Value.string W0.heap.size rfl (.tmp 68) (.tmp 71) 22 9 (.string ByteArray.empty) 16 rfl Try.underlying22 infoSt rfl (by decide) (.slice Au j cu) ((ks.take j).map tB) (tB x) rfl rfl rfl (by rw [hlj]; exact pw_own_below HO.out (below_step (below_alloc (Below.refl _ _) _) hB5)) hBa (by have := hBa.size; omega) (by rw [hlj]; omega) ?_; intro v1 w2 hown2 hb2 hg2 hat2))
      go_roundw
      case rel => exact ⟨j + 1, by go_num, by omega, by rw [Htake.out, List.map_append]; rw [List.length_append, hlj] at hown2; exact hown2, hb2⟩
      case measure => simp [intOf]; omega
     ·obtain rfl : j = ks.length := by omega
      rw [List.take_length] at hO
      have hXr := hX0.below hB
      have f0 := hXr.c0
      obtain ⟨Au, cu, rfl⟩ := own_slice hO
      have HO := Lib.hid hO
      clear hO
      go_wp2_with (first | (go_at_call 159; (with_reducible refine (sign159 _ 6 _ Hsg.out).mono ?_); rintro e w1 ⟨rfl, hb1⟩; have hB1 := below_step (below_step hB0 hB) hb1) | (go_at_call 126; (with_reducible refine (join126 _ W0.heap.size (.slice Au ks.length cu) (ks.map tB) (by rw [List.length_map]; exact pw_own_below HO.out hb1) (by simp; omega) (by rw [tB_map]; exact Hl.out)).mono ?_); rintro e w2 ⟨rfl, hb2⟩; rw [tB_map]; have hB2 := below_step hB1 hb2))
      go_ret
      exact ⟨rfl, hB2⟩
   ·simp only [List.length_nil] at hX0 hB0 hb hlen hnd ⊢
    have HT := Lib.hid hT
    have HM := Lib.hid (fun j hj => hM.kid j hj)
    simp only at HM
    have hln := lenL_nodes ks
    have Hl := Lib.hid (show (commas (ks.map textM)).length ≤ 140737488355328 from by
     rw [hT] at hlen
     simp only [List.length_append, List.length_cons] at hlen
     omega)
    have Hkid := Lib.hid (fun (x : S25) (hx : x ∈ ks) => (⟨by have := nodes_lt ⟨7, ⟨#[]⟩, ⟨#[]⟩, [], ks⟩ x hx; omega, okL_mem hk hx, by have := nodes_lt ⟨7, ⟨#[]⟩, ⟨#[]⟩, [], ks⟩ x hx; omega, by have := bytesL_mem hx; omega⟩ : nodesM x ≤ N ∧ okM x = true ∧ nodesM x ≤ 1000 ∧ bytesM x ≤ 1000000))
    obtain ⟨sg, esg⟩ : ∃ sg : ByteArray, sg = ⟨#[33]⟩ := ⟨_, rfl⟩
    have hsg : match_sign.f 7 = some sg := by rw [esg]; rfl
    have Hsg := Lib.hid hsg
    obtain ⟨t, et⟩ : ∃ t, t = tB ⟨7, ⟨#[]⟩, ⟨#[]⟩, [], ks⟩ := ⟨_, rfl⟩
    have eT : t.data.toList = sg.data.toList ++ [40] ++ commas (ks.map textM) ++ [41] := by rw [et, esg]; unfold tB; rw [hT]; simp
    have eL : t.data.toList.length ≤ 1000000000 := by rw [et]; unfold tB; simp only; omega
    obtain ⟨s1, e1⟩ : ∃ s1 : ByteArray, s1.data.toList = sg.data.toList ++ [40] := ⟨⟨(sg.data.toList ++ [40]).toArray⟩, rfl⟩
    obtain ⟨s2, e2⟩ : ∃ s2 : ByteArray, s2.data.toList = sg.data.toList ++ [40] ++ commas (ks.map textM) := ⟨⟨(sg.data.toList ++ [40] ++ commas (ks.map textM)).toArray⟩, rfl⟩
    have a1 : Op.stringOp .add sg ⟨#[40]⟩ = pure (.string s1) := add_to (by rw [e1]) (by rw [e1]; rw [eT, List.length_append, List.length_append] at eL; omega)
    have a2 : Op.stringOp .add s1 ⟨(commas (ks.map textM)).toArray⟩ = pure (.string s2) := add_to (by rw [e1, e2]) (by rw [e2]; rw [eT, List.length_append] at eL; omega)
    have a3 : Op.stringOp .add s2 ⟨#[41]⟩ = pure (.string t) := add_to (by rw [e2, eT]) eL
    rw [← et]
    obtain ⟨W0, e0⟩ : ∃ W0, w.alloc (.cells #[.int .i64 7, .string ⟨#[]⟩, .string ⟨#[]⟩, .slice A3 0 c3, .slice A4 ks.length c4] 25) = W0 := ⟨_, rfl⟩
    have hsz : W0.heap.size = w.heap.size + 1 := by rw [← e0]; simp
    rw [e0] at hX0 hB0
    have x0 := hX0.c0
    have x4 := hX0.c4
    have hk1000 : ks.length ≤ 1000 := by omega
    have E0 := Lib.hid e0
    clear hT hM hok hlen hN h1000 hbytes hb hnd e0 hln eT eL e1 e2 et hsg esg
    go_enter Try.func110, Try.ntmps110
    go_wp2
    rw [E0.out]
    clear x0 x4
    go_loopw [3, 7, 64] (fun u3 _ u64 wr => ∃ (j : Nat), u64 = .int .i64 j ∧ j ≤ ks.length ∧ wr.ownsRow W0.heap.size 9 1 u3 j (encs Value.string ((ks.take j).map tB)) ∧ Below W0.heap.size W0 wr)
     (fun _ _ u64 _ => ks.length - (intOf u64).toNat)
    case atStart => exact ⟨0, rfl, Nat.zero_le _, by simpa [encs] using World.ownsRow_nil _ _ _ _, Below.refl _ _⟩
    case round =>
     obtain ⟨j, rfl, hj, hO, hB⟩ := hrel
     have hle := hB.size
     by_cases hlt : j < ks.length
     ·obtain ⟨ad, B3, e3, B4, e4, rfl, hMk, k0, k1, k2, k3, k4⟩ := HM.out j hlt
      have k0 := pw_cell_below (below_step hB0 hB) k0
      have k1 := pw_cell_below (below_step hB0 hB) k1
      have k2 := pw_cell_below (below_step hB0 hB) k2
      have k3 := pw_cell_below (below_step hB0 hB) k3
      have k4 := pw_cell_below (below_step hB0 hB) k4
      have Htake := Lib.hid (takeD ks z25 j hlt)
      have hxs := Lib.hid (Hkid.out (ks.getD j z25) (by simp [List.getD_eq_getElem?_getD, hlt]))
      obtain ⟨x, ex⟩ : ∃ x, ks.getD j z25 = x := ⟨_, rfl⟩
      rw [ex] at hMk k0 k1 k2 k3 k4 Htake hxs
      clear ex
      have hlj : ((ks.take j).map tB).length = j := by simp; omega
      obtain ⟨Au, cu, rfl⟩ := own_slice hO
      have HO := Lib.hid hO
      clear hO
      go_wp2_with (first | (go_at_call 110; (with_reducible refine (IH.out x hxs.out.1 hxs.out.2.1 hxs.out.2.2.1 hxs.out.2.2.2 B3 e3 B4 e4 _ (hMk.below (below_step hB0 (below_alloc hB _)))).mono ?_); rintro e w5 ⟨rfl, hB5⟩; have hBa := below_step (below_alloc hB _) hB5) | (at_builtin; refine print_append_of (w0 := W0) (W := w5) Value.string W0.heap.size rfl (.tmp 68) (.tmp 71) 22 9 (.string ByteArray.empty) 16 rfl Try.underlying22 infoSt rfl (by decide) (.slice Au j cu) ((ks.take j).map tB) (tB x) rfl rfl rfl (by rw [hlj]; exact pw_own_below HO.out (below_step (below_alloc (Below.refl _ _) _) hB5)) hBa (by have := hBa.size; omega) (by rw [hlj]; omega) ?_; intro v1 w2 hown2 hb2 hg2 hat2))
      go_roundw
      case rel => exact ⟨j + 1, by go_num, by omega, by rw [Htake.out, List.map_append]; rw [List.length_append, hlj] at hown2; exact hown2, hb2⟩
      case measure => simp [intOf]; omega
     ·obtain rfl : j = ks.length := by omega
      rw [List.take_length] at hO
      have hXr := hX0.below hB
      have f0 := hXr.c0
      obtain ⟨Au, cu, rfl⟩ := own_slice hO
      have HO := Lib.hid hO
      clear hO
      go_wp2_with (first | (go_at_call 159; (with_reducible refine (sign159 _ 7 _ Hsg.out).mono ?_); rintro e w1 ⟨rfl, hb1⟩; have hB1 := below_step (below_step hB0 hB) hb1) | (go_at_call 126; (with_reducible refine (join126 _ W0.heap.size (.slice Au ks.length cu) (ks.map tB) (by rw [List.length_map]; exact pw_own_below HO.out hb1) (by simp; omega) (by rw [tB_map]; exact Hl.out)).mono ?_); rintro e w2 ⟨rfl, hb2⟩; rw [tB_map]; have hB2 := below_step hB1 hb2))
      go_ret
      exact ⟨rfl, hB2⟩
set_option maxRecDepth 100000 in
set_option maxHeartbeats 4000000 in
/-- match.Text of a matcher that may be. -/
theorem Text61 (w : World) (m : S25) (A3 : Option Addr) (c3 : Nat) (A4 : Option Addr) (c4 : Nat) (hok : chkB m = true) (hM : MC w m A3 c3 A4 c4) :
  Calls Try.prog 61 #[.agg #[.int .i64 m.f0, .string m.f1, .string m.f2, .slice A3 m.f3.length c3, .slice A4 m.f4.length c4]] w fun e w' => e = .returned (.string (tB m)) ∧ Below w.heap.size w w' := by
 have hB0 : Below w.heap.size w (w.alloc (.cells #[.int .i64 m.f0, .string m.f1, .string m.f2, .slice A3 m.f3.length c3, .slice A4 m.f4.length c4] 25)) := below_alloc (Below.refl _ _) _
 have hX0 : BoxM (w.alloc (.cells #[.int .i64 m.f0, .string m.f1, .string m.f2, .slice A3 m.f3.length c3, .slice A4 m.f4.length c4] 25)) w.heap.size m.f0 m.f1 m.f2 (.slice A3 m.f3.length c3) (.slice A4 m.f4.length c4) := blk_new w _
 obtain ⟨q1, q2, q3, q4⟩ := chk_def.1 hok
 have Hok := Lib.hid hok
 have Hq := Lib.hid (show okM m = true ∧ nodesM m ≤ 1000 ∧ bytesM m ≤ 1000000 from ⟨q1, by omega, by omega⟩)
 clear hok q1 q2 q3 q4
 go_enter Try.func61, Try.ntmps61
 go_wp2_with fail
 (with_reducible refine (check53v _ m A3 c3 A4 c4 true Hok.out (hM.below hB0)).mono ?_)
 rintro e w1 ⟨rfl, hb1⟩
 have hX1 := hX0.below hb1
 have x0 := hX1.c0
 have x1 := hX1.c1
 have x2 := hX1.c2
 have x3 := hX1.c3
 have x4 := hX1.c4
 have hB1 := below_step hB0 hb1
 go_wp2_with fail
 (with_reducible refine (text110 _ m (Nat.le_refl _) Hq.out.1 Hq.out.2.1 Hq.out.2.2 A3 c3 A4 c4 _ (hM.below hB1)).mono ?_)
 rintro e w2 ⟨rfl, hb2⟩
 go_wp2_with fail
 go_ret
 exact ⟨rfl, below_step hB1 hb2⟩
end Go.Proofs.Yteafilojjdfllaa
end
section
namespace Go.Proofs.Yteafilojjdfllaa
open Go Go.RowKit Go.Proofs.YteafilojjdfllaaW.PrintWords Go.Proofs.YteafilojjdfllaaW.PrintLast Go.Proofs.YteafilojjdfllaaW.PrintMore Go.Proofs.Yteafilojjdfllaa.PAll
set_option linter.unusedVariables false
set_option linter.unusedSimpArgs false
theorem quoted133b (w : World) (t : ByteArray) (ht : t.size ≤ 1000000) : Calls Try.prog 133 #[.string t] w fun e w' => e = .returned (.string (qB t)) ∧ Below w.heap.size w w' :=
 (quoted133 w t ht).mono fun e w' ⟨h, m, hm⟩ => ⟨h, hm ▸ pw_below_drewN (Below.refl _ _) m⟩
theorem commas_snoc2 : ∀ (l : List (List UInt8)) (x : List UInt8), commas (l ++ [x]) = (if l = [] then [] else commas l ++ [44]) ++ x
 | [], x => rfl
 | [y], x => by simp [commas]
 | y :: z :: l, x => by
  show y ++ 44 :: commas ((z :: l) ++ [x]) = _
  rw [commas_snoc2 (z :: l) x]
  simp [commas]
theorem commas_at {α : Type} (f : α → List UInt8) (xs : List α) (d : α) (j : Nat) (h : j < xs.length) : commas ((xs.take (j + 1)).map f) = (if j = 0 then [] else commas ((xs.take j).map f) ++ [44]) ++ f (xs.getD j d) := by
 rw [takeD xs d j h, List.map_append]
 show commas ((xs.take j).map f ++ [f (xs.getD j d)]) = _
 rw [commas_snoc2]
 by_cases hj : j = 0
 ·subst hj; simp
 ·have hne : (xs.take j).map f ≠ [] := by
   intro e
   have := congrArg List.length e
   rw [List.length_map, List.length_take] at this
   simp only [List.length_nil] at this
   omega
  rw [if_neg hj, if_neg hne]
theorem commas_take : ∀ (l : List (List UInt8)) (j : Nat), (commas (l.take j)).length ≤ (commas l).length
 | [], j => by simp
 | [x], 0 => by simp [commas]
 | [x], j + 1 => by simp
 | x :: y :: l, 0 => by simp [commas]
 | x :: y :: l, 1 => by
  show x.length ≤ (x ++ 44 :: commas (y :: l)).length
  simp
 | x :: y :: l, j + 2 => by
  show (x ++ 44 :: commas (y :: l.take j)).length ≤ (x ++ 44 :: commas (y :: l)).length
  have := commas_take (y :: l) (j + 1)
  simp only [List.take_succ_cons] at this
  simp only [List.length_append, List.length_cons]
  omega
/-- one more is laid behind the text -/
theorem text_more {α : Type} {f : α → List UInt8} {xs : List α} {d : α} {j : Nat} {s q : ByteArray} {pfx : List UInt8} (hj : j < xs.length) (hs : s.data.toList = pfx ++ commas ((xs.take j).map f)) (hq : q.data.toList = f (xs.getD j d)) (hl : (pfx ++ commas (xs.map f)).length ≤ 1000000000) :
  (j = 0 ∧ ∃ t : ByteArray, t.data.toList = pfx ++ commas ((xs.take (j + 1)).map f) ∧ Op.stringOp .add s q = pure (.string t)) ∨ (0 < j ∧ ∃ s1 t : ByteArray, t.data.toList = pfx ++ commas ((xs.take (j + 1)).map f) ∧ Op.stringOp .add s ⟨#[44]⟩ = pure (.string s1) ∧ Op.stringOp .add s1 q = pure (.string t)) := by
 have hlen : (pfx ++ commas ((xs.take (j + 1)).map f)).length ≤ 1000000000 := by
  have := commas_take (xs.map f) (j + 1)
  rw [← List.map_take] at this
  rw [List.length_append] at hl ⊢
  omega
 have hc := commas_at f xs d j hj
 by_cases h0 : j = 0
 ·left
  refine ⟨h0, ⟨(pfx ++ commas ((xs.take (j + 1)).map f)).toArray⟩, rfl, add_to ?_ hlen⟩
  rw [hs, hq]
  show _ = pfx ++ commas ((xs.take (j + 1)).map f)
  rw [hc, if_pos h0]
  subst h0
  simp [commas]
 ·right
  rw [if_neg h0] at hc
  refine ⟨by omega, ⟨(pfx ++ (commas ((xs.take j).map f) ++ [44])).toArray⟩, ⟨(pfx ++ commas ((xs.take (j + 1)).map f)).toArray⟩, rfl, add_to ?_ ?_, add_to ?_ hlen⟩
  ·rw [hs]; simp
  ·show (pfx ++ (commas ((xs.take j).map f) ++ [44])).length ≤ _
   rw [hc] at hlen
   simp only [List.length_append] at hlen ⊢
   omega
  ·rw [hq]
   show (pfx ++ (commas ((xs.take j).map f) ++ [44])) ++ _ = pfx ++ commas ((xs.take (j + 1)).map f)
   rw [hc]
   simp
set_option maxRecDepth 100000 in
set_option maxHeartbeats 16000000 in
theorem text93 : ∀ (N : Nat) (m : S25), nodesM m ≤ N → okM m = true → nodesM m ≤ 1000 → bytesM m ≤ 1000000 → ∀ (A3 : Option Addr) (c3 : Nat) (A4 : Option Addr) (c4 : Nat) (w : World), MC w m A3 c3 A4 c4 →
  Calls Try.prog 93 #[.agg #[.int .i64 m.f0, .string m.f1, .string m.f2, .slice A3 m.f3.length c3, .slice A4 m.f4.length c4]] w fun e w' => e = .returned (.string (tB m)) ∧ Below w.heap.size w w' := by
 intro N
 induction N with
 | zero => intro m h; rw [nodesM_mk] at h; omega
 | succ N ih =>
  intro m hN hok h1000 hbytes A3 c3 A4 c4 w hM
  have IH := Lib.hid ih
  clear ih
  have hlen := textM_len _ m (Nat.le_refl _) hok
  have hB0 : Below w.heap.size w (w.alloc (.cells #[.int .i64 m.f0, .string m.f1, .string m.f2, .slice A3 m.f3.length c3, .slice A4 m.f4.length c4] 25)) := below_alloc (Below.refl _ _) _
  have hX0 : BoxM (w.alloc (.cells #[.int .i64 m.f0, .string m.f1, .string m.f2, .slice A3 m.f3.length c3, .slice A4 m.f4.length c4] 25)) w.heap.size m.f0 m.f1 m.f2 (.slice A3 m.f3.length c3) (.slice A4 m.f4.length c4) := blk_new w _
  have hb := bytesM_mk m
  have hnd := nodesM_mk m
  rcases shape hok with rfl | ⟨op, n, v, ho, hn, rfl⟩ | ⟨n, vs, hn, rfl⟩ | ⟨op, ks, ho, hk, rfl⟩
  ·simp only at hX0 hB0 ⊢
   go_enter Try.func93, Try.ntmps93
   go_wp2
   go_ret
   exact ⟨rfl, hB0⟩
  ·simp only at hX0 hB0 hb ⊢
   have hv : v.size ≤ 1000000 := by omega
   have hT := text_n (n := n) (v := v) (vs := []) (show op = 1 ∨ op = 2 ∨ op = 3 ∨ op = 4 by omega)
   have hn2 : n.data.toList.length ≤ 1000000 := by rw [show n.data.toList.length = n.size by simp]; omega
   have hq := quoteT_len v
   rcases ho with rfl | rfl | rfl
   ·obtain ⟨s1, e1⟩ : ∃ s1 : ByteArray, s1.data.toList = n.data.toList ++ [61] := ⟨⟨(n.data.toList ++ [61]).toArray⟩, rfl⟩
    have a1 : Op.stringOp .add n ⟨#[61]⟩ = pure (.string s1) := add_to (by rw [e1]) (by rw [e1, List.length_append]; simp only [List.length_cons, List.length_nil]; omega)
    have eT : ∀ t, t = tB ⟨1, n, v, [], []⟩ → s1.data.toList ++ (qB v).data.toList = t.data.toList := fun t ht => by rw [ht, e1]; unfold tB; rw [hT]; simp [textN, qB]
    obtain ⟨t, et⟩ : ∃ t, t = tB ⟨1, n, v, [], []⟩ := ⟨_, rfl⟩
    have a2 : Op.stringOp .add s1 (qB v) = pure (.string t) := add_to (eT t et) (by rw [← eT t et, List.length_append, e1, List.length_append]; simp only [qB, List.length_cons, List.length_nil]; omega)
    rw [← et]
    have hXd := hX0.below (below_drew (Below.refl _ _))
    have hBd := below_drew hB0
    have f0 := hX0.c0
    clear hT hM hok hlen hN h1000 hbytes hb IH hnd eT e1 et hq hn2
    have f1 := hXd.c1
    have f2 := hXd.c2
    go_enter Try.func93, Try.ntmps93
    go_wp2_with fail
    go_region_held3 (fun w' => w'.cell? ⟨w.heap.size, 1, none⟩ = some (.string n) ∧ w'.cell? ⟨w.heap.size, 2, none⟩ = some (.string v) ∧ Below w.heap.size w w')
     (first | exact ⟨by assumption, by assumption, by assumption⟩)
     (first | (go_at_call 133; (with_reducible refine (quoted133b _ v hv).mono ?_); rintro e w1 ⟨rfl, hb1⟩; have hX1 := hXd.below hb1; have f1 := hX1.c1; have f2 := hX1.c2; have hB1 := below_step hBd hb1))
    rename_i hS
    have hBe := hS.2.2
    clear hS
    go_wp2_with fail
    go_ret
    exact ⟨rfl, hBe⟩
   ·obtain ⟨s1, e1⟩ : ∃ s1 : ByteArray, s1.data.toList = n.data.toList ++ [33, 61] := ⟨⟨(n.data.toList ++ [33, 61]).toArray⟩, rfl⟩
    have a1 : Op.stringOp .add n ⟨#[33, 61]⟩ = pure (.string s1) := add_to (by rw [e1]) (by rw [e1, List.length_append]; simp only [List.length_cons, List.length_nil]; omega)
    have eT : ∀ t, t = tB ⟨2, n, v, [], []⟩ → s1.data.toList ++ (qB v).data.toList = t.data.toList := fun t ht => by rw [ht, e1]; unfold tB; rw [hT]; simp [textN, qB]
    obtain ⟨t, et⟩ : ∃ t, t = tB ⟨2, n, v, [], []⟩ := ⟨_, rfl⟩
    have a2 : Op.stringOp .add s1 (qB v) = pure (.string t) := add_to (eT t et) (by rw [← eT t et, List.length_append, e1, List.length_append]; simp only [qB, List.length_cons, List.length_nil]; omega)
    rw [← et]
    have hXd := hX0.below (below_drew (Below.refl _ _))
    have hBd := below_drew hB0
    have f0 := hX0.c0
    clear hT hM hok hlen hN h1000 hbytes hb IH hnd eT e1 et hq hn2
    have f1 := hXd.c1
    have f2 := hXd.c2
    go_enter Try.func93, Try.ntmps93
    go_wp2_with fail
    go_region_held3 (fun w' => w'.cell? ⟨w.heap.size, 1, none⟩ = some (.string n) ∧ w'.cell? ⟨w.heap.size, 2, none⟩ = some (.string v) ∧ Below w.heap.size w w')
     (first | exact ⟨by assumption, by assumption, by assumption⟩)
     (first | (go_at_call 133; (with_reducible refine (quoted133b _ v hv).mono ?_); rintro e w1 ⟨rfl, hb1⟩; have hX1 := hXd.below hb1; have f1 := hX1.c1; have f2 := hX1.c2; have hB1 := below_step hBd hb1))
    rename_i hS
    have hBe := hS.2.2
    clear hS
    go_wp2_with fail
    go_ret
    exact ⟨rfl, hBe⟩
   ·obtain ⟨s1, e1⟩ : ∃ s1 : ByteArray, s1.data.toList = n.data.toList ++ [94, 61] := ⟨⟨(n.data.toList ++ [94, 61]).toArray⟩, rfl⟩
    have a1 : Op.stringOp .add n ⟨#[94, 61]⟩ = pure (.string s1) := add_to (by rw [e1]) (by rw [e1, List.length_append]; simp only [List.length_cons, List.length_nil]; omega)
    have eT : ∀ t, t = tB ⟨3, n, v, [], []⟩ → s1.data.toList ++ (qB v).data.toList = t.data.toList := fun t ht => by rw [ht, e1]; unfold tB; rw [hT]; simp [textN, qB]
    obtain ⟨t, et⟩ : ∃ t, t = tB ⟨3, n, v, [], []⟩ := ⟨_, rfl⟩
    have a2 : Op.stringOp .add s1 (qB v) = pure (.string t) := add_to (eT t et) (by rw [← eT t et, List.length_append, e1, List.length_append]; simp only [qB, List.length_cons, List.length_nil]; omega)
    rw [← et]
    have hXd := hX0.below (below_drew (Below.refl _ _))
    have hBd := below_drew hB0
    have f0 := hX0.c0
    clear hT hM hok hlen hN h1000 hbytes hb IH hnd eT e1 et hq hn2
    have f1 := hXd.c1
    have f2 := hXd.c2
    go_enter Try.func93, Try.ntmps93
    go_wp2_with fail
    go_region_held3 (fun w' => w'.cell? ⟨w.heap.size, 1, none⟩ = some (.string n) ∧ w'.cell? ⟨w.heap.size, 2, none⟩ = some (.string v) ∧ Below w.heap.size w w')
     (first | exact ⟨by assumption, by assumption, by assumption⟩)
     (first | (go_at_call 133; (with_reducible refine (quoted133b _ v hv).mono ?_); rintro e w1 ⟨rfl, hb1⟩; have hX1 := hXd.below hb1; have f1 := hX1.c1; have f2 := hX1.c2; have hB1 := below_step hBd hb1))
    rename_i hS
    have hBe := hS.2.2
    clear hS
    go_wp2_with fail
    go_ret
    exact ⟨rfl, hBe⟩
  ·simp only [List.length_nil] at hX0 hB0 hb hlen ⊢
   have h16 := ok_vals16 hok
   have hT := text_n (op := 4) (n := n) (v := ⟨#[]⟩) (vs := vs) (by omega)
   have HM := Lib.hid (fun j hj => hM.value j hj)
   simp only at HM
   have Hsz := Lib.hid (fun (x : ByteArray) (hx : x ∈ vs) => sizes_mem hx)
   have hsv : sizes vs ≤ 1000000 := by omega
   have hn2 : n.data.toList.length ≤ 1000000 := by rw [show n.data.toList.length = n.size by simp]; omega
   obtain ⟨t, et⟩ : ∃ t, t = tB ⟨4, n, ⟨#[]⟩, vs, []⟩ := ⟨_, rfl⟩
   have eT : t.data.toList = n.data.toList ++ [64, 40] ++ commas (vs.map quoteT) ++ [41] := by rw [et]; unfold tB; rw [hT]; simp [textN]
   have eL : t.data.toList.length ≤ 1000000000 := by rw [et]; unfold tB; simp only; omega
   obtain ⟨s1, e1⟩ : ∃ s1 : ByteArray, s1.data.toList = n.data.toList ++ [64, 40] := ⟨⟨(n.data.toList ++ [64, 40]).toArray⟩, rfl⟩
   have a1 : Op.stringOp .add n ⟨#[64, 40]⟩ = pure (.string s1) := add_to (by rw [e1]) (by rw [e1]; rw [eT, List.length_append, List.length_append] at eL; omega)
   have HL := Lib.hid (show (n.data.toList ++ [64, 40] ++ commas (vs.map quoteT)).length ≤ 1000000000 by rw [eT, List.length_append] at eL; omega)
   have HE := Lib.hid eT
   have HEL := Lib.hid eL
   have HE1 := Lib.hid e1
   rw [← et]
   obtain ⟨W0, e0⟩ : ∃ W0, w.alloc (.cells #[.int .i64 4, .string n, .string ⟨#[]⟩, .slice A3 vs.length c3, .slice A4 0 c4] 25) = W0 := ⟨_, rfl⟩
   rw [e0] at hX0 hB0
   have x0 := hX0.c0
   have x1 := hX0.c1
   have x3 := hX0.c3
   have E0 := Lib.hid e0
   clear hT hM hok hlen hN h1000 hbytes hb IH hnd e0 eT eL e1 et hn2
   go_enter Try.func93, Try.ntmps93
   go_upto_region 12 with fail
   rw [E0.out]
   go_wp2_with fail
   go_loopw [3, 4] (fun u3 u4 wr => ∃ (j : Nat) (x : ByteArray), u3 = .string x ∧ u4 = .int .i64 (j : Int) ∧ j ≤ vs.length ∧ Hid (x.data.toList = n.data.toList ++ [64, 40] ++ commas ((vs.take j).map quoteT)) ∧ Below W0.heap.size W0 wr)
    (fun _ u4 _ => vs.length - (intOf u4).toNat)
   case atStart => exact ⟨0, s1, rfl, rfl, Nat.zero_le _, Lib.hid (by rw [HE1.out]; simp [commas]), Below.refl _ _⟩
   case round =>
    obtain ⟨j, x, rfl, rfl, hj, HXE, hB⟩ := hrel
    have f3 := (hX0.below hB).c3
    by_cases hlt : j < vs.length
    ·obtain ⟨ad, rfl, hcell⟩ := HM.out j hlt
     have hcell := pw_cell_below (below_step hB0 hB) hcell
     have hxs := Hsz.out (vs.getD j ByteArray.empty) (by simp [List.getD_eq_getElem?_getD, hlt])
     have hmore := text_more (f := quoteT) (xs := vs) (d := ByteArray.empty) (q := qB (vs.getD j ByteArray.empty)) hlt HXE.out rfl HL.out
     obtain ⟨y, ey⟩ : ∃ y, vs.getD j ByteArray.empty = y := ⟨_, rfl⟩
     rw [ey] at hcell hxs hmore
     clear ey
     have hltI : (j : Int) < (vs.length : Int) := by omega
     have hys : y.size ≤ 1000000 := by omega
     rcases hmore with ⟨h0, t1, ht1, b1⟩ | ⟨h0, s2, t1, ht1, b1, b2⟩
     ·have h0I : ¬ (0 : Int) < (j : Int) := by omega
      have HT1 := Lib.hid ht1
      clear h0 ht1
      go_wp2_with (first | (go_at_call 133; (with_reducible refine (quoted133b _ y hys).mono ?_); rintro e w5 ⟨rfl, hB5⟩))
      go_roundw
      case rel => exact ⟨j + 1, t1, rfl, by go_num, by omega, HT1, below_step hB hB5⟩
      case measure => simp [intOf]; omega
     ·have h0I : (0 : Int) < (j : Int) := by omega
      have HT1 := Lib.hid ht1
      clear h0 ht1
      go_wp2_with (first | (go_at_call 133; (with_reducible refine (quoted133b _ y hys).mono ?_); rintro e w5 ⟨rfl, hB5⟩))
      go_roundw
      case rel => exact ⟨j + 1, t1, rfl, by go_num, by omega, HT1, below_step hB hB5⟩
      case measure => simp [intOf]; omega
    ·have hjv : j = vs.length := by omega
     have hltI : ¬ (j : Int) < (vs.length : Int) := by omega
     have a3 : Op.stringOp .add x ⟨#[41]⟩ = pure (.string t) := add_to (by rw [HXE.out, hjv, List.take_length, HE.out]) HEL.out
     clear hjv
     go_wp2_with fail
     go_ret
     exact ⟨rfl, below_step hB0 hB⟩
  ·rcases ho with rfl | rfl | rfl
   ·have hT := text_k (op := 5) (ks := ks) (by simp)
    simp only [List.length_nil] at hX0 hB0 hb hlen hnd ⊢
    have HM := Lib.hid (fun j hj => hM.kid j hj)
    simp only at HM
    have hln := lenL_nodes ks
    have Hkid := Lib.hid (fun (x : S25) (hx : x ∈ ks) => (⟨by have := nodes_lt ⟨5, ⟨#[]⟩, ⟨#[]⟩, [], ks⟩ x hx; omega, okL_mem hk hx, by have := nodes_lt ⟨5, ⟨#[]⟩, ⟨#[]⟩, [], ks⟩ x hx; omega, by have := bytesL_mem hx; omega⟩ : nodesM x ≤ N ∧ okM x = true ∧ nodesM x ≤ 1000 ∧ bytesM x ≤ 1000000))
    obtain ⟨t, et⟩ : ∃ t, t = tB ⟨5, ⟨#[]⟩, ⟨#[]⟩, [], ks⟩ := ⟨_, rfl⟩
    have eT : t.data.toList = [38, 40] ++ commas (ks.map textM) ++ [41] := by rw [et]; unfold tB; rw [hT]; simp
    have eL : t.data.toList.length ≤ 1000000000 := by rw [et]; unfold tB; simp only; omega
    have HL := Lib.hid (show ([38, 40] ++ commas (ks.map textM)).length ≤ 1000000000 by rw [eT, List.length_append] at eL; omega)
    have HE := Lib.hid eT
    have HEL := Lib.hid eL
    rw [← et]
    obtain ⟨W0, e0⟩ : ∃ W0, w.alloc (.cells #[.int .i64 5, .string ⟨#[]⟩, .string ⟨#[]⟩, .slice A3 0 c3, .slice A4 ks.length c4] 25) = W0 := ⟨_, rfl⟩
    rw [e0] at hX0 hB0
    have x0 := hX0.c0
    have x4 := hX0.c4
    have hk1000 : ks.length ≤ 1000 := by omega
    have E0 := Lib.hid e0
    clear hT hM hok hlen hN h1000 hbytes hb hnd e0 hln eT eL et
    go_enter Try.func93, Try.ntmps93
    go_upto_region 24 with fail
    rw [E0.out]
    go_wp2_with fail
    clear x0 x4
    go_loopw [5, 6] (fun u5 u6 wr => ∃ (j : Nat) (x : ByteArray), u5 = .string x ∧ u6 = .int .i64 (j : Int) ∧ j ≤ ks.length ∧ Hid (x.data.toList = [38, 40] ++ commas ((ks.take j).map textM)) ∧ Below W0.heap.size W0 wr)
     (fun _ u6 _ => ks.length - (intOf u6).toNat)
    case atStart => exact ⟨0, _, rfl, rfl, Nat.zero_le _, Lib.hid (by simp [commas]), Below.refl _ _⟩
    case round =>
     obtain ⟨j, x, rfl, rfl, hj, HXE, hB⟩ := hrel
     have f4 := (hX0.below hB).c4
     by_cases hlt : j < ks.length
     ·obtain ⟨ad, B3, e3, B4, e4, rfl, hMk, k0, k1, k2, k3, k4⟩ := HM.out j hlt
      have k0 := pw_cell_below (below_step hB0 hB) k0
      have k1 := pw_cell_below (below_step hB0 hB) k1
      have k2 := pw_cell_below (below_step hB0 hB) k2
      have k3 := pw_cell_below (below_step hB0 hB) k3
      have k4 := pw_cell_below (below_step hB0 hB) k4
      have hxs := Lib.hid (Hkid.out (ks.getD j z25) (by simp [List.getD_eq_getElem?_getD, hlt]))
      have hmore := text_more (f := textM) (xs := ks) (d := z25) (q := tB (ks.getD j z25)) hlt HXE.out rfl HL.out
      obtain ⟨y, ey⟩ : ∃ y, ks.getD j z25 = y := ⟨_, rfl⟩
      rw [ey] at hMk k0 k1 k2 k3 k4 hxs hmore
      clear ey
      have hltI : (j : Int) < (ks.length : Int) := by omega
      have HMK := Lib.hid (hMk.below (below_step hB0 hB))
      clear hMk
      rcases hmore with ⟨h0, t1, ht1, b1⟩ | ⟨h0, s2, t1, ht1, b1, b2⟩
      ·have h0I : ¬ (0 : Int) < (j : Int) := by omega
       have HT1 := Lib.hid ht1
       clear h0 ht1
       go_wp2_with (first | (go_at_call 93; (with_reducible refine (IH.out y hxs.out.1 hxs.out.2.1 hxs.out.2.2.1 hxs.out.2.2.2 B3 e3 B4 e4 _ HMK.out).mono ?_); rintro e w5 ⟨rfl, hB5⟩))
       go_roundw
       case rel => exact ⟨j + 1, t1, rfl, by go_num, by omega, HT1, below_step hB hB5⟩
       case measure => simp [intOf]; omega
      ·have h0I : (0 : Int) < (j : Int) := by omega
       have HT1 := Lib.hid ht1
       clear h0 ht1
       go_wp2_with (first | (go_at_call 93; (with_reducible refine (IH.out y hxs.out.1 hxs.out.2.1 hxs.out.2.2.1 hxs.out.2.2.2 B3 e3 B4 e4 _ HMK.out).mono ?_); rintro e w5 ⟨rfl, hB5⟩))
       go_roundw
       case rel => exact ⟨j + 1, t1, rfl, by go_num, by omega, HT1, below_step hB hB5⟩
       case measure => simp [intOf]; omega
     ·have hjv : j = ks.length := by omega
      have hltI : ¬ (j : Int) < (ks.length : Int) := by omega
      have a3 : Op.stringOp .add x ⟨#[41]⟩ = pure (.string t) := add_to (by rw [HXE.out, hjv, List.take_length, HE.out]) HEL.out
      clear hjv
      go_wp2_with fail
      go_ret
      exact ⟨rfl, below_step hB0 hB⟩
   ·have hT := text_k (op := 6) (ks := ks) (by simp)
    simp only [List.length_nil] at hX0 hB0 hb hlen hnd ⊢
    have HM := Lib.hid (fun j hj => hM.kid j hj)
    simp only at HM
    have hln := lenL_nodes ks
    have Hkid := Lib.hid (fun (x : S25) (hx : x ∈ ks) => (⟨by have := nodes_lt ⟨6, ⟨#[]⟩, ⟨#[]⟩, [], ks⟩ x hx; omega, okL_mem hk hx, by have := nodes_lt ⟨6, ⟨#[]⟩, ⟨#[]⟩, [], ks⟩ x hx; omega, by have := bytesL_mem hx; omega⟩ : nodesM x ≤ N ∧ okM x = true ∧ nodesM x ≤ 1000 ∧ bytesM x ≤ 1000000))
    obtain ⟨t, et⟩ : ∃ t, t = tB ⟨6, ⟨#[]⟩, ⟨#[]⟩, [], ks⟩ := ⟨_, rfl⟩
    have eT : t.data.toList = [124, 40] ++ commas (ks.map textM) ++ [41] := by rw [et]; unfold tB; rw [hT]; simp
    have eL : t.data.toList.length ≤ 1000000000 := by rw [et]; unfold tB; simp only; omega
    have HL := Lib.hid (show ([124, 40] ++ commas (ks.map textM)).length ≤ 1000000000 by rw [eT, List.length_append] at eL; omega)
    have HE := Lib.hid eT
    have HEL := Lib.hid eL
    rw [← et]
    obtain ⟨W0, e0⟩ : ∃ W0, w.alloc (.cells #[.int .i64 6, .string ⟨#[]⟩, .string ⟨#[]⟩, .slice A3 0 c3, .slice A4 ks.length c4] 25) = W0 := ⟨_, rfl⟩
    rw [e0] at hX0 hB0
    have x0 := hX0.c0
    have x4 := hX0.c4
    have hk1000 : ks.length ≤ 1000 := by omega
    have E0 := Lib.hid e0
    clear hT hM hok hlen hN h1000 hbytes hb hnd e0 hln eT eL et
    go_enter Try.func93, Try.ntmps93
    go_upto_region 24 with fail
    rw [E0.out]
    go_wp2_with fail
    clear x0 x4
    go_loopw [5, 6] (fun u5 u6 wr => ∃ (j : Nat) (x : ByteArray), u5 = .string x ∧ u6 = .int .i64 (j : Int) ∧ j ≤ ks.length ∧ Hid (x.data.toList = [124, 40] ++ commas ((ks.take j).map textM)) ∧ Below W0.heap.size W0 wr)
     (fun _ u6 _ => ks.length - (intOf u6).toNat)
    case atStart => exact ⟨0, _, rfl, rfl, Nat.zero_le _, Lib.hid (by simp [commas]), Below.refl _ _⟩
    case round =>
     obtain ⟨j, x, rfl, rfl, hj, HXE, hB⟩ := hrel
     have f4 := (hX0.below hB).c4
     by_cases hlt : j < ks.length
     ·obtain ⟨ad, B3, e3, B4, e4, rfl, hMk, k0, k1, k2, k3, k4⟩ := HM.out j hlt
      have k0 := pw_cell_below (below_step hB0 hB) k0
      have k1 := pw_cell_below (below_step hB0 hB) k1
      have k2 := pw_cell_below (below_step hB0 hB) k2
      have k3 := pw_cell_below (below_step hB0 hB) k3
      have k4 := pw_cell_below (below_step hB0 hB) k4
      have hxs := Lib.hid (Hkid.out (ks.getD j z25) (by simp [List.getD_eq_getElem?_getD, hlt]))
      have hmore := text_more (f := textM) (xs := ks) (d := z25) (q := tB (ks.getD j z25)) hlt HXE.out rfl HL.out
      obtain ⟨y, ey⟩ : ∃ y, ks.getD j z25 = y := ⟨_, rfl⟩
      rw [ey] at hMk k0 k1 k2 k3 k4 hxs hmore
      clear ey
      have hltI : (j : Int) < (ks.length : Int) := by omega
      have HMK := Lib.hid (hMk.below (below_step hB0 hB))
      clear hMk
      rcases hmore with ⟨h0, t1, ht1, b1⟩ | ⟨h0, s2, t1, ht1, b1, b2⟩
      ·have h0I : ¬ (0 : Int) < (j : Int) := by omega
       have HT1 := Lib.hid ht1
       clear h0 ht1
       go_wp2_with (first | (go_at_call 93; (with_reducible refine (IH.out y hxs.out.1 hxs.out.2.1 hxs.out.2.2.1 hxs.out.2.2.2 B3 e3 B4 e4 _ HMK.out).mono ?_); rintro e w5 ⟨rfl, hB5⟩))
       go_roundw
       case rel => exact ⟨j + 1, t1, rfl, by go_num, by omega, HT1, below_step hB hB5⟩
       case measure => simp [intOf]; omega
      ·have h0I : (0 : Int) < (j : Int) := by omega
       have HT1 := Lib.hid ht1
       clear h0 ht1
       go_wp2_with (first | (go_at_call 93; (with_reducible refine (IH.out y hxs.out.1 hxs.out.2.1 hxs.out.2.2.1 hxs.out.2.2.2 B3 e3 B4 e4 _ HMK.out).mono ?_); rintro e w5 ⟨rfl, hB5⟩))
       go_roundw
       case rel => exact ⟨j + 1, t1, rfl, by go_num, by omega, HT1, below_step hB hB5⟩
       case measure => simp [intOf]; omega
     ·have hjv : j = ks.length := by omega
      have hltI : ¬ (j : Int) < (ks.length : Int) := by omega
      have a3 : Op.stringOp .add x ⟨#[41]⟩ = pure (.string t) := add_to (by rw [HXE.out, hjv, List.take_length, HE.out]) HEL.out
      clear hjv
      go_wp2_with fail
      go_ret
      exact ⟨rfl, below_step hB0 hB⟩
   ·have hT := text_k (op := 7) (ks := ks) (by simp)
    simp only [List.length_nil] at hX0 hB0 hb hlen hnd ⊢
    have HM := Lib.hid (fun j hj => hM.kid j hj)
    simp only at HM
    have hln := lenL_nodes ks
    have Hkid := Lib.hid (fun (x : S25) (hx : x ∈ ks) => (⟨by have := nodes_lt ⟨7, ⟨#[]⟩, ⟨#[]⟩, [], ks⟩ x hx; omega, okL_mem hk hx, by have := nodes_lt ⟨7, ⟨#[]⟩, ⟨#[]⟩, [], ks⟩ x hx; omega, by have := bytesL_mem hx; omega⟩ : nodesM x ≤ N ∧ okM x = true ∧ nodesM x ≤ 1000 ∧ bytesM x ≤ 1000000))
    obtain ⟨t, et⟩ : ∃ t, t = tB ⟨7, ⟨#[]⟩, ⟨#[]⟩, [], ks⟩ := ⟨_, rfl⟩
    have eT : t.data.toList = [33, 40] ++ commas (ks.map textM) ++ [41] := by rw [et]; unfold tB; rw [hT]; simp
    have eL : t.data.toList.length ≤ 1000000000 := by rw [et]; unfold tB; simp only; omega
    have HL := Lib.hid (show ([33, 40] ++ commas (ks.map textM)).length ≤ 1000000000 by rw [eT, List.length_append] at eL; omega)
    have HE := Lib.hid eT
    have HEL := Lib.hid eL
    rw [← et]
    obtain ⟨W0, e0⟩ : ∃ W0, w.alloc (.cells #[.int .i64 7, .string ⟨#[]⟩, .string ⟨#[]⟩, .slice A3 0 c3, .slice A4 ks.length c4] 25) = W0 := ⟨_, rfl⟩
    rw [e0] at hX0 hB0
    have x0 := hX0.c0
    have x4 := hX0.c4
    have hk1000 : ks.length ≤ 1000 := by omega
    have E0 := Lib.hid e0
    clear hT hM hok hlen hN h1000 hbytes hb hnd e0 hln eT eL et
    go_enter Try.func93, Try.ntmps93
    go_upto_region 24 with fail
    rw [E0.out]
    go_wp2_with fail
    clear x0 x4
    go_loopw [5, 6] (fun u5 u6 wr => ∃ (j : Nat) (x : ByteArray), u5 = .string x ∧ u6 = .int .i64 (j : Int) ∧ j ≤ ks.length ∧ Hid (x.data.toList = [33, 40] ++ commas ((ks.take j).map textM)) ∧ Below W0.heap.size W0 wr)
     (fun _ u6 _ => ks.length - (intOf u6).toNat)
    case atStart => exact ⟨0, _, rfl, rfl, Nat.zero_le _, Lib.hid (by simp [commas]), Below.refl _ _⟩
    case round =>
     obtain ⟨j, x, rfl, rfl, hj, HXE, hB⟩ := hrel
     have f4 := (hX0.below hB).c4
     by_cases hlt : j < ks.length
     ·obtain ⟨ad, B3, e3, B4, e4, rfl, hMk, k0, k1, k2, k3, k4⟩ := HM.out j hlt
      have k0 := pw_cell_below (below_step hB0 hB) k0
      have k1 := pw_cell_below (below_step hB0 hB) k1
      have k2 := pw_cell_below (below_step hB0 hB) k2
      have k3 := pw_cell_below (below_step hB0 hB) k3
      have k4 := pw_cell_below (below_step hB0 hB) k4
      have hxs := Lib.hid (Hkid.out (ks.getD j z25) (by simp [List.getD_eq_getElem?_getD, hlt]))
      have hmore := text_more (f := textM) (xs := ks) (d := z25) (q := tB (ks.getD j z25)) hlt HXE.out rfl HL.out
      obtain ⟨y, ey⟩ : ∃ y, ks.getD j z25 = y := ⟨_, rfl⟩
      rw [ey] at hMk k0 k1 k2 k3 k4 hxs hmore
      clear ey
      have hltI : (j : Int) < (ks.length : Int) := by omega
      have HMK := Lib.hid (hMk.below (below_step hB0 hB))
      clear hMk
      rcases hmore with ⟨h0, t1, ht1, b1⟩ | ⟨h0, s2, t1, ht1, b1, b2⟩
      ·have h0I : ¬ (0 : Int) < (j : Int) := by omega
       have HT1 := Lib.hid ht1
       clear h0 ht1
       go_wp2_with (first | (go_at_call 93; (with_reducible refine (IH.out y hxs.out.1 hxs.out.2.1 hxs.out.2.2.1 hxs.out.2.2.2 B3 e3 B4 e4 _ HMK.out).mono ?_); rintro e w5 ⟨rfl, hB5⟩))
       go_roundw
       case rel => exact ⟨j + 1, t1, rfl, by go_num, by omega, HT1, below_step hB hB5⟩
       case measure => simp [intOf]; omega
      ·have h0I : (0 : Int) < (j : Int) := by omega
       have HT1 := Lib.hid ht1
       clear h0 ht1
       go_wp2_with (first | (go_at_call 93; (with_reducible refine (IH.out y hxs.out.1 hxs.out.2.1 hxs.out.2.2.1 hxs.out.2.2.2 B3 e3 B4 e4 _ HMK.out).mono ?_); rintro e w5 ⟨rfl, hB5⟩))
       go_roundw
       case rel => exact ⟨j + 1, t1, rfl, by go_num, by omega, HT1, below_step hB hB5⟩
       case measure => simp [intOf]; omega
     ·have hjv : j = ks.length := by omega
      have hltI : ¬ (j : Int) < (ks.length : Int) := by omega
      have a3 : Op.stringOp .add x ⟨#[41]⟩ = pure (.string t) := add_to (by rw [HXE.out, hjv, List.take_length, HE.out]) HEL.out
      clear hjv
      go_wp2_with fail
      go_ret
      exact ⟨rfl, below_step hB0 hB⟩
end Go.Proofs.Yteafilojjdfllaa
end
section
namespace Go.Proofs.Yteafilojjdfllaa
open Go Go.RowKit Go.Proofs.YteafilojjdfllaaW.PrintWords Go.Proofs.YteafilojjdfllaaW.PrintLast Go.Proofs.YteafilojjdfllaaW.PrintMore Go.Proofs.Yteafilojjdfllaa.PAll
set_option linter.unusedVariables false
set_option linter.unusedSimpArgs false
noncomputable def tabR177_0 : Bool × List (List Nat × List Nat) := rtab .any (opsOf Try.f177 0)
theorem tabR177_0_eq : rtab .any (opsOf Try.f177 0) = tabR177_0 := rfl
set_option maxRecDepth 100000 in
set_option maxHeartbeats 16000000 in
/-- no kid. -/
theorem kid177n (w0 wn w : World) (g B D G base : Nat) (s : ByteArray) (op dz : Int) (i left d : Nat) (ks : List S25) (cells : List Value) (n : Nat) (Au : Option Addr) (cu : Nat) (HL : VM w0 wn g B D G base) (hV : VK w0 wn w g B D G base s op dz i (left : Int) ks cells n Au cu) (hi : i ≤ s.size) (hs : s.size ≤ 1000000000) (hl : left ≤ 64) (hn : n ≤ 64) (hdz : wrap64 (dz + 1) = dz + 1) (ih : IHp w0 g s d (dz + 1)) (hq : readM (cutM 33) stepP true d left (s.data.toList.drop i) = none) :
  Calls Try.prog 177 #[.pointer (some ⟨G, 0, none⟩), .pointer (some ⟨B, 0, none⟩), .pointer (some ⟨D, 0, none⟩)] w fun e w' => e = .panicked badP ∧ Below w0.heap.size w0 w' ∧ KeepBut wn w' g none := by
 have IH := Lib.hid ih
 clear ih
 have HV := Lib.hid hV.drew
 have HLL := Lib.hid HL
 have k4 : w.drew.cell? ⟨G, 4, none⟩ = some (.slice Au n cu) := (blk_cell HV.out.blk 4).trans rfl
 have kB : w.drew.cell? ⟨B, 0, none⟩ = some (.pointer (some ⟨g, 0, none⟩)) := (blk_cell HV.out.box 0).trans rfl
 have kD : w.drew.cell? ⟨D, 0, none⟩ = some (.int .i64 dz) := (blk_cell HV.out.dbox 0).trans rfl
 have HDW := Lib.hid hdz
 have HQ := Lib.hid hq
 clear hq
 clear hV HL
 go_enter Try.func177, Try.ntmps177
 go_wp2_with fail
 refine start_ (n := 13) (S := fun w' => w'.cell? ⟨G, 4, none⟩ = some (.slice Au n cu) ∧ w'.cell? ⟨B, 0, none⟩ = some (.pointer (some ⟨g, 0, none⟩)) ∧ w'.cell? ⟨D, 0, none⟩ = some (.int .i64 dz)) (ds := [10, 12]) #[false, false, false, false, false, false, false, false, false, false, false, false, false] (by kernel_rfl) rfl rfl ⟨k4, kB, kD⟩ (fun hHeld => ?_)
 clear k4 kB kD
 obtain ⟨V, eV⟩ : ∃ V, V = w.drew := ⟨_, rfl⟩
 rw [← eV] at HV hHeld ⊢
 clear eV
 refine with_tab (T := tabR177_0) tabR177_0_eq (fun HT_ => ?_)
 refine pure_ (i := 0) (N := some 3) (v := ?_) (a' := ?_) #[true, false, false, false, false, false, false, false, false, false, false, false, false] rfl rfl (any_of HT_.out (by kernel_rfl)) (fun _ _ _ h => h) (Or.inl ⟨by rfl, ?_⟩) ?_ ?_
 rotate_left
 ·intro w'
  go_simp
  with_reducible rfl
 rotate_left
 ·simp only [Act.put, List.setIfInBounds_toArray, List.set_cons_zero, List.set_cons_succ, i64_w, i32_w]
  rfl
 refine take_ (i := 1) (N := some 4) (v := ?_) (a' := ?_) #[true, true, false, false, false, false, false, false, false, false, false, false, false] rfl rfl (take_of HT_.out (by kernel_rfl)) (fun _ _ _ h => h) (Or.inl ⟨by rfl, ?_⟩) hHeld ?_ ?_
 rotate_left
 ·intro w' hh
  have q0 := hh.1
  have q1 := hh.2.1
  have q2 := hh.2.2
  go_simp
  with_reducible rfl
 rotate_left
 ·simp only [Act.put, List.setIfInBounds_toArray, List.set_cons_zero, List.set_cons_succ, i64_w, i32_w]
  rfl
 refine take_ (i := 2) (N := some 5) (v := ?_) (a' := ?_) #[true, true, true, false, false, false, false, false, false, false, false, false, false] rfl rfl (take_of HT_.out (by kernel_rfl)) (fun _ _ _ h => h) (Or.inl ⟨by rfl, ?_⟩) hHeld ?_ ?_
 rotate_left
 ·intro w' hh
  have q0 := hh.1
  have q1 := hh.2.1
  have q2 := hh.2.2
  go_simp
  with_reducible rfl
 rotate_left
 ·simp only [Act.put, List.setIfInBounds_toArray, List.set_cons_zero, List.set_cons_succ, i64_w, i32_w]
  rfl
 refine take_ (i := 3) (N := some 6) (v := ?_) (a' := ?_) #[true, true, true, true, false, false, false, false, false, false, false, false, false] rfl rfl (take_of HT_.out (by kernel_rfl)) (fun _ _ _ h => h) (Or.inl ⟨by rfl, ?_⟩) hHeld ?_ ?_
 rotate_left
 ·intro w' hh
  have q0 := hh.1
  have q1 := hh.2.1
  have q2 := hh.2.2
  go_simp
  with_reducible rfl
 rotate_left
 ·simp only [Act.put, List.setIfInBounds_toArray, List.set_cons_zero, List.set_cons_succ, i64_w, i32_w]
  rfl
 have hdw := HDW.out
 refine pure_ (i := 4) (N := some 7) (v := ?_) (a' := ?_) #[true, true, true, true, true, false, false, false, false, false, false, false, false] rfl rfl (any_of HT_.out (by kernel_rfl)) (fun _ _ _ h => h) (Or.inl ⟨by rfl, ?_⟩) ?_ ?_
 rotate_left
 ·intro w'
  go_simp
  with_reducible rfl
 rotate_left
 ·simp only [Act.put, List.setIfInBounds_toArray, List.set_cons_zero, List.set_cons_succ, i64_w, i32_w, hdw]
  rfl
 clear hdw
 refine pure_ (i := 6) (N := some 9) (v := ?_) (a' := ?_) #[true, true, true, true, true, false, true, false, false, false, false, false, false] rfl rfl (any_of HT_.out (by kernel_rfl)) (fun _ _ _ h => h) (Or.inl ⟨by rfl, ?_⟩) ?_ ?_
 rotate_left
 ·intro w'
  go_simp
  with_reducible rfl
 rotate_left
 ·simp only [Act.put, List.setIfInBounds_toArray, List.set_cons_zero, List.set_cons_succ, i64_w, i32_w]
  rfl
 have H1 := Lib.hid (IH.out V i left hl hi HV.out.below HV.out.par)
 rw [HQ.out] at H1
 refine two_ (i := 5) (j := 7) (Ni := some 8) (Nj := some 10) #[true, true, true, true, true, true, true, false, false, false, false, false, false] #[true, true, true, true, true, false, true, true, false, false, false, false, false] rfl rfl rfl rfl (two_of HT_.out (by kernel_rfl)) (by decide) (by decide) (fun K_ hK_ => ?_) (fun K_ hK_ => ?_)
 ·
  refine goesP_ Try.func144 (by kernel_rfl) rfl #[.pointer (some ⟨g, 0, none⟩), .int .i64 (dz + 1)] (by rfl) rfl rfl (by (try simp only [List.map_toArray, List.map_cons, List.map_nil]); first | done | rfl) ?_
  refine (H1.out).mono ?_
  intro e w5 hp5
  obtain ⟨rfl, hB5, hK5⟩ := hp5.none_
  exact Or.inr ⟨_, rfl, rfl, rfl, hB5, HV.out.keep.trans hK5 (Or.inl rfl)⟩
 ·
  go_simp
  have hVA := HV.out.moved HLL.out (below_alloc HV.out.below (.cells Z5 25)) (KeepBut.of_below (below_alloc (Below.refl V.heap.size V) _) g none) (HV.out.par.below (below_alloc (Below.refl _ _) _))
  refine hK_.out _ _ ⟨(blk_cell hVA.blk 4).trans rfl, (blk_cell hVA.box 0).trans rfl, (blk_cell hVA.dbox 0).trans rfl⟩ (fun hHeld => ?_)
  clear hK_ K_
  have H2 := Lib.hid (IH.out _ i left hl hi hVA.below hVA.par)
  rw [HQ.out] at H2
  try simp only [Act.put, List.setIfInBounds_toArray, List.set_cons_zero, List.set_cons_succ]
  refine one_ (i := 5) (N := some 8) #[true, true, true, true, true, true, true, true, false, false, false, false, false] rfl rfl (one_of HT_.out (by kernel_rfl)) (by decide) (fun K_ hK_ => ?_)
  refine goesP_ Try.func144 (by kernel_rfl) rfl #[.pointer (some ⟨g, 0, none⟩), .int .i64 (dz + 1)] (by rfl) rfl rfl (by (try simp only [List.map_toArray, List.map_cons, List.map_nil]); first | done | rfl) ?_
  refine (H2.out).mono ?_
  intro e w5 hp5
  obtain ⟨rfl, hB5, hK5⟩ := hp5.none_
  exact Or.inr ⟨_, rfl, rfl, rfl, hB5, hVA.keep.trans hK5 (Or.inl rfl)⟩
set_option maxRecDepth 100000 in
set_option maxHeartbeats 16000000 in
/-- one more kid. -/
theorem kid177y (w0 wn w : World) (g B D G base : Nat) (s : ByteArray) (op dz : Int) (i left d : Nat) (ks : List S25) (cells : List Value) (n : Nat) (Au : Option Addr) (cu : Nat) (HL : VM w0 wn g B D G base) (hV : VK w0 wn w g B D G base s op dz i (left : Int) ks cells n Au cu) (hi : i ≤ s.size) (hs : s.size ≤ 1000000000) (hl : left ≤ 64) (hn : n ≤ 64) (hdz : wrap64 (dz + 1) = dz + 1) (ih : IHp w0 g s d (dz + 1)) (m : S25) (l1 j : Nat) (t : List UInt8) (hq : readM (cutM 33) stepP true d left (s.data.toList.drop i) = some (m, l1, t)) (hj : s.size - t.length = j) :
  Calls Try.prog 177 #[.pointer (some ⟨G, 0, none⟩), .pointer (some ⟨B, 0, none⟩), .pointer (some ⟨D, 0, none⟩)] w fun e w' => ∃ A2 c2 cells2, e = .returned (.tuple #[]) ∧ VK w0 wn w' g B D G base s op dz j (l1 : Int) (ks ++ [m]) cells2 (n + 1) A2 c2 := by
 have IH := Lib.hid ih
 clear ih
 have HV := Lib.hid hV.drew
 have HLL := Lib.hid HL
 have k4 : w.drew.cell? ⟨G, 4, none⟩ = some (.slice Au n cu) := (blk_cell HV.out.blk 4).trans rfl
 have kB : w.drew.cell? ⟨B, 0, none⟩ = some (.pointer (some ⟨g, 0, none⟩)) := (blk_cell HV.out.box 0).trans rfl
 have kD : w.drew.cell? ⟨D, 0, none⟩ = some (.int .i64 dz) := (blk_cell HV.out.dbox 0).trans rfl
 have HDW := Lib.hid hdz
 have HQ := Lib.hid (show (readM (cutM 33) stepP true d left (s.data.toList.drop i)).map (fun q => (q.1, pObj s (s.size - q.2.2.length) ((q.2.1 : Nat) : Int))) = some (m, pObj s j (l1 : Int)) by rw [hq]; simp only [Option.map_some, hj])
 clear hq hj
 clear hV HL
 go_enter Try.func177, Try.ntmps177
 go_wp2_with fail
 refine start_ (n := 13) (S := fun w' => w'.cell? ⟨G, 4, none⟩ = some (.slice Au n cu) ∧ w'.cell? ⟨B, 0, none⟩ = some (.pointer (some ⟨g, 0, none⟩)) ∧ w'.cell? ⟨D, 0, none⟩ = some (.int .i64 dz)) (ds := [10, 12]) #[false, false, false, false, false, false, false, false, false, false, false, false, false] (by kernel_rfl) rfl rfl ⟨k4, kB, kD⟩ (fun hHeld => ?_)
 clear k4 kB kD
 obtain ⟨V, eV⟩ : ∃ V, V = w.drew := ⟨_, rfl⟩
 rw [← eV] at HV hHeld ⊢
 clear eV
 refine with_tab (T := tabR177_0) tabR177_0_eq (fun HT_ => ?_)
 refine pure_ (i := 0) (N := some 3) (v := ?_) (a' := ?_) #[true, false, false, false, false, false, false, false, false, false, false, false, false] rfl rfl (any_of HT_.out (by kernel_rfl)) (fun _ _ _ h => h) (Or.inl ⟨by rfl, ?_⟩) ?_ ?_
 rotate_left
 ·intro w'
  go_simp
  with_reducible rfl
 rotate_left
 ·simp only [Act.put, List.setIfInBounds_toArray, List.set_cons_zero, List.set_cons_succ, i64_w, i32_w]
  rfl
 refine take_ (i := 1) (N := some 4) (v := ?_) (a' := ?_) #[true, true, false, false, false, false, false, false, false, false, false, false, false] rfl rfl (take_of HT_.out (by kernel_rfl)) (fun _ _ _ h => h) (Or.inl ⟨by rfl, ?_⟩) hHeld ?_ ?_
 rotate_left
 ·intro w' hh
  have q0 := hh.1
  have q1 := hh.2.1
  have q2 := hh.2.2
  go_simp
  with_reducible rfl
 rotate_left
 ·simp only [Act.put, List.setIfInBounds_toArray, List.set_cons_zero, List.set_cons_succ, i64_w, i32_w]
  rfl
 refine take_ (i := 2) (N := some 5) (v := ?_) (a' := ?_) #[true, true, true, false, false, false, false, false, false, false, false, false, false] rfl rfl (take_of HT_.out (by kernel_rfl)) (fun _ _ _ h => h) (Or.inl ⟨by rfl, ?_⟩) hHeld ?_ ?_
 rotate_left
 ·intro w' hh
  have q0 := hh.1
  have q1 := hh.2.1
  have q2 := hh.2.2
  go_simp
  with_reducible rfl
 rotate_left
 ·simp only [Act.put, List.setIfInBounds_toArray, List.set_cons_zero, List.set_cons_succ, i64_w, i32_w]
  rfl
 refine take_ (i := 3) (N := some 6) (v := ?_) (a' := ?_) #[true, true, true, true, false, false, false, false, false, false, false, false, false] rfl rfl (take_of HT_.out (by kernel_rfl)) (fun _ _ _ h => h) (Or.inl ⟨by rfl, ?_⟩) hHeld ?_ ?_
 rotate_left
 ·intro w' hh
  have q0 := hh.1
  have q1 := hh.2.1
  have q2 := hh.2.2
  go_simp
  with_reducible rfl
 rotate_left
 ·simp only [Act.put, List.setIfInBounds_toArray, List.set_cons_zero, List.set_cons_succ, i64_w, i32_w]
  rfl
 have hdw := HDW.out
 refine pure_ (i := 4) (N := some 7) (v := ?_) (a' := ?_) #[true, true, true, true, true, false, false, false, false, false, false, false, false] rfl rfl (any_of HT_.out (by kernel_rfl)) (fun _ _ _ h => h) (Or.inl ⟨by rfl, ?_⟩) ?_ ?_
 rotate_left
 ·intro w'
  go_simp
  with_reducible rfl
 rotate_left
 ·simp only [Act.put, List.setIfInBounds_toArray, List.set_cons_zero, List.set_cons_succ, i64_w, i32_w, hdw]
  rfl
 clear hdw
 refine pure_ (i := 6) (N := some 9) (v := ?_) (a' := ?_) #[true, true, true, true, true, false, true, false, false, false, false, false, false] rfl rfl (any_of HT_.out (by kernel_rfl)) (fun _ _ _ h => h) (Or.inl ⟨by rfl, ?_⟩) ?_ ?_
 rotate_left
 ·intro w'
  go_simp
  with_reducible rfl
 rotate_left
 ·simp only [Act.put, List.setIfInBounds_toArray, List.set_cons_zero, List.set_cons_succ, i64_w, i32_w]
  rfl
 have H1 := IH.out V i left hl hi HV.out.below HV.out.par
 rw [HQ.out] at H1
 have H1 := Lib.hid H1
 refine join_ (σ := Option Addr × Nat × Option Addr × Nat × Nat) 5 #[true, true, true, true, true, true, true, true, false, false, false, false, false] (fun q => [(8, mV m q.1 q.2.1 q.2.2.1 q.2.2.2.1), (10, .slice (some ⟨q.2.2.2.2, 0, none⟩) 1 1)]) (fun q w' => VK w0 wn w' g B D G base s op dz j (l1 : Int) ks cells n Au cu ∧ w'.heap[q.2.2.2.2]? = some (.cells Z5 25 (0, 0)) ∧ V.heap.size ≤ q.2.2.2.2 ∧ V.heap.size ≤ w'.heap.size ∧ MF w' (fun b => V.heap.size ≤ b ∧ b < w'.heap.size) m q.1 q.2.1 q.2.2.1 q.2.2.2.1) ?_ (fun hJ => ?_)
 rotate_left
 ·refine two_ (i := 5) (j := 7) (Ni := some 8) (Nj := some 10) #[true, true, true, true, true, true, true, false, false, false, false, false, false] #[true, true, true, true, true, false, true, true, false, false, false, false, false] rfl rfl rfl rfl (two_of HT_.out (by kernel_rfl)) (by decide) (by decide) (fun K_ hK_ => ?_) (fun K_ hK_ => ?_)
  ·
   refine goesP_ Try.func144 (by kernel_rfl) rfl #[.pointer (some ⟨g, 0, none⟩), .int .i64 (dz + 1)] (by rfl) rfl rfl (by (try simp only [List.map_toArray, List.map_cons, List.map_nil]); first | done | rfl) ?_
   refine (H1.out).mono ?_
   intro e w5 hp5
   obtain ⟨D3, f3, D4, f4, rfl, hB5, hK5, hMF5, hP5⟩ := hp5.some_
   have hV5 := HV.out.moved HLL.out hB5 hK5 hP5
   have hs5 := hK5.1
   refine Or.inl ⟨_, rfl, ?_⟩
   refine hK_.out _ _ ⟨(blk_cell hV5.blk 4).trans rfl, (blk_cell hV5.box 0).trans rfl, (blk_cell hV5.dbox 0).trans rfl⟩ (fun hHeld => ?_)
   clear hK_ K_
   try simp only [Act.put, List.setIfInBounds_toArray, List.set_cons_zero, List.set_cons_succ]
   refine one_ (i := 7) (N := some 10) #[true, true, true, true, true, true, true, true, false, false, false, false, false] rfl rfl (one_of HT_.out (by kernel_rfl)) (by decide) (fun K_ hK_ => ?_)
   go_simp
   have hVA := hV5.moved HLL.out (below_alloc hV5.below (.cells Z5 25)) (KeepBut.of_below (below_alloc (Below.refl w5.heap.size w5) _) g none) (hV5.par.below (below_alloc (Below.refl _ _) _))
   refine hK_.out _ _ ⟨(blk_cell hVA.blk 4).trans rfl, (blk_cell hVA.box 0).trans rfl, (blk_cell hVA.dbox 0).trans rfl⟩ (fun hHeld => ?_)
   exact norm_ (by simp only [putAll, Act.put, List.setIfInBounds_toArray, List.set_cons_zero, List.set_cons_succ]) (hJ (D3, f3, D4, f4, w5.heap.size) _ ⟨hVA, blk_new w5 _, hs5, by rw [World.size_alloc]; omega, hMF5.move (fun b hb => ⟨⟨hb.1, by rw [World.size_alloc]; have := hb.2; omega⟩, Below.heap_alloc _ _ _ hb.2⟩)⟩)
  ·go_simp
   have hVA := HV.out.moved HLL.out (below_alloc HV.out.below (.cells Z5 25)) (KeepBut.of_below (below_alloc (Below.refl V.heap.size V) _) g none) (HV.out.par.below (below_alloc (Below.refl _ _) _))
   refine hK_.out _ _ ⟨(blk_cell hVA.blk 4).trans rfl, (blk_cell hVA.box 0).trans rfl, (blk_cell hVA.dbox 0).trans rfl⟩ (fun hHeld => ?_)
   clear hK_ K_
   have H2 := IH.out _ i left hl hi hVA.below hVA.par
   rw [HQ.out] at H2
   have H2 := Lib.hid H2
   try simp only [Act.put, List.setIfInBounds_toArray, List.set_cons_zero, List.set_cons_succ]
   refine one_ (i := 5) (N := some 8) #[true, true, true, true, true, true, true, true, false, false, false, false, false] rfl rfl (one_of HT_.out (by kernel_rfl)) (by decide) (fun K_ hK_ => ?_)
   refine goesP_ Try.func144 (by kernel_rfl) rfl #[.pointer (some ⟨g, 0, none⟩), .int .i64 (dz + 1)] (by rfl) rfl rfl (by (try simp only [List.map_toArray, List.map_cons, List.map_nil]); first | done | rfl) ?_
   refine (H2.out).mono ?_
   intro e w5 hp5
   obtain ⟨D3, f3, D4, f4, rfl, hB5, hK5, hMF5, hP5⟩ := hp5.some_
   have hV5 := hVA.moved HLL.out hB5 hK5 hP5
   have hs5 := hK5.1
   rw [World.size_alloc] at hs5
   have hbz := (hK5.2 V.heap.size (by rw [World.size_alloc]; omega) (by have := HV.out.par.lt; omega) (by simp)).trans (blk_new V _)
   refine Or.inl ⟨_, rfl, ?_⟩
   refine hK_.out _ _ ⟨(blk_cell hV5.blk 4).trans rfl, (blk_cell hV5.box 0).trans rfl, (blk_cell hV5.dbox 0).trans rfl⟩ (fun hHeld => ?_)
   exact norm_ (by simp only [putAll, Act.put, List.setIfInBounds_toArray, List.set_cons_zero, List.set_cons_succ]) (hJ (D3, f3, D4, f4, V.heap.size) _ ⟨hV5, hbz, Nat.le_refl _, by omega, hMF5.move (fun b hb => ⟨⟨by have := hb.1; rw [World.size_alloc] at this; omega, hb.2⟩, rfl⟩)⟩)
 rintro ⟨D3, f3, D4, f4, bz⟩ W ⟨hW, hbz, hzb, hvs, hMF⟩
 simp only at hbz hzb hMF
 simp only [putAll, Act.put, List.setIfInBounds_toArray, List.set_cons_zero, List.set_cons_succ]
 clear hHeld H1
 have HW := Lib.hid hW
 have HMF := Lib.hid hMF
 have HZ := Lib.hid (And.intro hzb hvs)
 have HVS := Lib.hid (And.intro HV.out.size (fun k (hk : (Value.slice Au n cu).ownBlock = some k) => HV.out.own.lt _ hk))
 refine one_ (i := 8) (N := some 11) #[true, true, true, true, true, true, true, true, true, false, false, false, false] rfl rfl (one_of HT_.out (by kernel_rfl)) (by decide) (fun K_ hK_ => ?_)
 refine append_at (W := W) base (by rfl) (.tmp 4) (.tmp 10) 23 25 (.agg Z5) 5 88 rfl Try.underlying23 infoM rfl (by decide) (by decide) (.slice Au n cu) n cells [.int .i64 0, .string ⟨#[]⟩, .string ⟨#[]⟩, .slice none 0 0, .slice none 0 0] bz rfl rfl hbz rfl (by intro u hu; simp only [List.mem_cons, List.not_mem_nil, or_false] at hu; rcases hu with rfl | rfl | rfl | rfl | rfl <;> rfl) hW.own hW.size (by omega) ?_
 intro v2 w6 hown6 hg6 hat6
 obtain ⟨R, c2, rfl⟩ := own_some hown6
 obtain ⟨L1, L2, L3, L4, L5, L6, L7, L8, L9, L10, L11⟩ := HLL.out
 have hlo := hW.own.lt
 have hln := hown6.lt R rfl
 have hneG : some G ≠ (Value.slice Au n cu).ownBlock := fun e => by have := (hlo _ e.symm).1; omega
 have hneB : some B ≠ (Value.slice Au n cu).ownBlock := fun e => by have := (hlo _ e.symm).1; omega
 have hneD : some D ≠ (Value.slice Au n cu).ownBlock := fun e => by have := (hlo _ e.symm).1; omega
 have hwn := hW.keep.1
 have hneg : some g ≠ (Value.slice Au n cu).ownBlock := fun e => by have := (hlo _ e.symm).1; omega
 have q5 := (hg6.block G (blk_lt hW.blk) hneG).trans hW.blk
 have q4 := (hg6.block B (blk_lt hW.box) hneB).trans hW.box
 have qD := (hg6.block D (blk_lt hW.dbox) hneD).trans hW.dbox
 have qg : PB w6 g s j l1 := (hg6.block g hW.par.lt hneg).trans hW.par
 refine hK_.out _ _ ⟨(blk_cell q5 4).trans rfl, (blk_cell q4 0).trans rfl, (blk_cell qD 0).trans rfl⟩ (fun hHeld => ?_)
 clear hK_ K_
 try simp only [Act.put, List.setIfInBounds_toArray, List.set_cons_zero, List.set_cons_succ]
 have HB6 : Hid (Below w0.heap.size w0 w6) := Lib.hid (hW.below.grown hg6 (by omega) (fun k hk => by have := (hlo k hk).1; omega))
 have HK6 : Hid (KeepBut wn w6 g none) := Lib.hid ⟨by have := hg6.size; omega, fun i hi h1 h2 => (hg6.block i (by omega) (fun e => by have := (hlo _ e.symm).1; omega)).trans (hW.keep.2 i hi h1 h2)⟩
 have HG6 := Lib.hid hg6
 have HAT := Lib.hid hat6
 have HO6 := Lib.hid hown6
 have HQS := Lib.hid (And.intro q5 (And.intro q4 (And.intro qD qg)))
 have HLN := Lib.hid hln
 have HRG := Lib.hid (show R ≠ G by omega)
 have hcl := hW.clen
 have FIN : Hid (∀ X : World, X.heap.size = w6.heap.size → (∀ i, i ≠ R → i ≠ G → X.heap[i]? = w6.heap[i]?) → X.heap[G]? = some (.cells #[.int .i64 op, .string ⟨#[]⟩, .string ⟨#[]⟩, .slice none 0 0, .slice (some ⟨R, 0, none⟩) (n + 1) c2] 25 (0, 0)) → X.ownsRow base 25 5 (.slice (some ⟨R, 0, none⟩) (n + 1) c2) (n + 1) (cells ++ [.int .i64 m.f0, .string m.f1, .string m.f2, .slice D3 m.f3.length f3, .slice D4 m.f4.length f4]) → Below w0.heap.size w0 X → VK w0 wn X g B D G base s op dz j (l1 : Int) (ks ++ [m]) (cells ++ [.int .i64 m.f0, .string m.f1, .string m.f2, .slice D3 m.f3.length f3, .slice D4 m.f4.length f4]) (n + 1) (some ⟨R, 0, none⟩) c2) := Lib.hid (fun X hsz hX hGX hOX hBX => by
  have hW := HW.out
  have hzv := HZ.out.2
  have hs6 := hg6.size
  have hbR : base ≤ R := (hown6.lt R rfl).1
  have hfar : ∀ b, b < W.heap.size → (Value.slice Au n cu).ownBlock ≠ some b → R ≠ b := fun b hb hne e => by
   subst e
   rcases hat6 with h | h
   ·exact hne h.symm
   ·have h' : R = W.heap.size := by simpa [Value.ownBlock] using h
    omega
  refine ⟨hBX, ⟨by rw [hsz]; omega, fun i hi h1 h2 => (hX i (by omega) (by omega)).trans ((hg6.block i (by omega) (fun e => by have := (hlo _ e.symm).1; omega)).trans (hW.keep.2 i hi h1 h2))⟩, by have := hW.size; omega, (hX B (by omega) L9).trans q4, (hX D (by omega) L10).trans qD, hGX, (hX g (by omega) (by omega)).trans qg, hOX, Reps.snoc (hW.reps.imp_ (fun p c hk => hk.move (fun b hb => ?_))) ⟨D3, f3, D4, f4, rfl, HMF.out.move (fun b hb => ?_)⟩ rfl, by rw [List.length_append, hW.len]; rfl, by rw [List.length_append, hW.clen]; simp; omega⟩
  ·obtain ⟨b1, b2, b3⟩ := hb
   have hRb := hfar b b2 b3
   refine ⟨⟨b1, by omega, fun e => hRb (by simpa [Value.ownBlock] using e)⟩, (hX b (fun e => hRb e.symm) (by omega)).trans (hg6.block b b2 (fun e => b3 e.symm))⟩
  ·obtain ⟨b1, b2⟩ := hb
   have hv1 := HVS.out.1
   have b3 : (Value.slice Au n cu).ownBlock ≠ some b := fun e => by have := (HVS.out.2 b e).2; omega
   have hRb := hfar b b2 b3
   refine ⟨⟨by omega, by omega, fun e => hRb (by simpa [Value.ownBlock] using e)⟩, (hX b (fun e => hRb e.symm) (by omega)).trans (hg6.block b b2 (fun e => b3 e.symm))⟩)
 have HCL := Lib.hid hcl
 have HBG := Lib.hid (And.intro (show w0.heap.size ≤ G by omega) (show w0.heap.size ≤ R by have := (hown6.lt R rfl).1; omega))
 have cR0 := hown6.cellAt (n * 5) (by omega)
 have cR1 := hown6.cellAt (n * 5 + 1) (by omega)
 have cR2 := hown6.cellAt (n * 5 + 2) (by omega)
 have cR3 := hown6.cellAt (n * 5 + 3) (by omega)
 have cR4 := hown6.cellAt (n * 5 + 4) (by omega)
 rw [List.getElem?_append_right (by omega), hcl, Nat.sub_self] at cR0
 rw [List.getElem?_append_right (by omega), hcl, Nat.add_sub_cancel_left] at cR1 cR2 cR3 cR4
 simp only [List.getElem?_cons_zero, List.getElem?_cons_succ] at cR0 cR1 cR2 cR3 cR4
 have zR0 := hown6.frozenAt (n * 5)
 have zR1 := hown6.frozenAt (n * 5 + 1)
 have zR2 := hown6.frozenAt (n * 5 + 2)
 have zR3 := hown6.frozenAt (n * 5 + 3)
 have zR4 := hown6.frozenAt (n * 5 + 4)
 have zG4 := blk_frozen q5 4
 have cG4 : w6.cell? ⟨G, 4, none⟩ = some (.slice Au n cu) := (blk_cell q5 4).trans rfl
 have hRG : R ≠ G := HRG.out
 have hGR : G ≠ R := HRG.out.symm
 have hnn : (n : Int) < (n : Int) + 1 := Int.ofNat_lt.2 (Nat.lt_succ_self n)
 have hn0 : (0 : Int) ≤ (n : Int) := Int.natCast_nonneg n
 have hnN : n < n + 1 := Nat.lt_succ_self n
 clear hneg hneD hneB hneG hown6 hg6 hat6 hln hlo hwn q5 q4 qD qg hW hbz hzb hvs hMF hcl L1 L2 L3 L4 L5 L6 L7 L8 L9 L10 L11
 refine pure_ (i := 9) (N := some 12) (v := ?_) (a' := ?_) #[true, true, true, true, true, true, true, true, true, true, false, false, false] rfl rfl (any_of HT_.out (by kernel_rfl)) (fun _ _ _ h => h) (Or.inl ⟨by rfl, ?_⟩) ?_ ?_
 rotate_left
 ·intro w'
  go_simp
  with_reducible rfl
 rotate_left
 ·simp only [Act.put, List.setIfInBounds_toArray, List.set_cons_zero, List.set_cons_succ, i64_w, i32_w]
  rfl
 refine pure_ (i := 11) (N := some 13) (v := ?_) (a' := ?_) #[true, true, true, true, true, true, true, true, true, true, false, true, false] rfl rfl (any_of HT_.out (by kernel_rfl)) (fun _ _ _ h => h) (Or.inl ⟨by rfl, ?_⟩) ?_ ?_
 rotate_left
 ·intro w'
  go_simp
  with_reducible rfl
 rotate_left
 ·simp only [Act.put, List.setIfInBounds_toArray, List.set_cons_zero, List.set_cons_succ, i64_w, i32_w]
  rfl
 refine twoLast_ (i := 10) (j := 12) (Ni := none) (Nj := none) #[true, true, true, true, true, true, true, true, true, true, true, true, false] #[true, true, true, true, true, true, true, true, true, true, false, true, true] rfl rfl rfl rfl (two_of HT_.out (by kernel_rfl)) (by decide) (by decide) (fun K_ hK_ => ?_) (fun K_ hK_ => ?_)
 ·go_simp
  refine hK_.out _ _ ?_
  clear hK_ K_
  try simp only [Act.put, List.setIfInBounds_toArray, List.set_cons_zero, List.set_cons_succ]
  refine last_ (i := 12) (N := none) #[true, true, true, true, true, true, true, true, true, true, true, true, true] rfl rfl (one_of HT_.out (by kernel_rfl)) (by decide) (fun K_ hK_ => ?_)
  go_simp
  refine hK_.out _ _ ?_
  clear hK_ K_
  try simp only [Act.put, List.setIfInBounds_toArray, List.set_cons_zero, List.set_cons_succ]
  refine done_ (done_of HT_.out (by kernel_rfl)) ?_
  go_wp2
  refine ⟨rfl, .tuple #[], results_none rfl _ _ _, _, _, _, rfl, FIN.out _ (by simp) (fun i h1 h2 => (Below.heap_setCell _ _ _ _ h2).trans ((Below.heap_setCell _ _ _ _ h1).trans ((Below.heap_setCell _ _ _ _ h1).trans ((Below.heap_setCell _ _ _ _ h1).trans ((Below.heap_setCell _ _ _ _ h1).trans (Below.heap_setCell _ _ _ _ h1)))))) ((blk_set (((Below.heap_setCell _ _ _ _ hGR).trans ((Below.heap_setCell _ _ _ _ hGR).trans ((Below.heap_setCell _ _ _ _ hGR).trans ((Below.heap_setCell _ _ _ _ hGR).trans (Below.heap_setCell _ _ _ _ hGR))))).trans HQS.out.1) 4 _).trans (by rfl)) (own_move (own_elem HO6.out (n * 5) HCL.out.symm) (fun k hk => Below.heap_setCell _ _ _ _ (show k ≠ G by have h : R = k := (by simpa [Value.ownBlock] using hk); omega))) ((((((HB6.out.setCell HBG.out.2 _).setCell HBG.out.2 _).setCell HBG.out.2 _).setCell HBG.out.2 _).setCell HBG.out.2 _).setCell HBG.out.1 _)⟩
 ·go_simp
  refine hK_.out _ _ ?_
  clear hK_ K_
  try simp only [Act.put, List.setIfInBounds_toArray, List.set_cons_zero, List.set_cons_succ]
  refine last_ (i := 10) (N := none) #[true, true, true, true, true, true, true, true, true, true, true, true, true] rfl rfl (one_of HT_.out (by kernel_rfl)) (by decide) (fun K_ hK_ => ?_)
  go_simp
  refine hK_.out _ _ ?_
  clear hK_ K_
  try simp only [Act.put, List.setIfInBounds_toArray, List.set_cons_zero, List.set_cons_succ]
  refine done_ (done_of HT_.out (by kernel_rfl)) ?_
  go_wp2
  refine ⟨rfl, .tuple #[], results_none rfl _ _ _, _, _, _, rfl, FIN.out _ (by simp) (fun i h1 h2 => (Below.heap_setCell _ _ _ _ h1).trans ((Below.heap_setCell _ _ _ _ h1).trans ((Below.heap_setCell _ _ _ _ h1).trans ((Below.heap_setCell _ _ _ _ h1).trans ((Below.heap_setCell _ _ _ _ h1).trans (Below.heap_setCell _ _ _ _ h2)))))) (((Below.heap_setCell _ _ _ _ hGR).trans ((Below.heap_setCell _ _ _ _ hGR).trans ((Below.heap_setCell _ _ _ _ hGR).trans ((Below.heap_setCell _ _ _ _ hGR).trans (Below.heap_setCell _ _ _ _ hGR))))).trans ((blk_set HQS.out.1 4 _).trans (by rfl))) (own_elem (own_move HO6.out (fun k hk => Below.heap_setCell _ _ _ _ (show k ≠ G by have h : R = k := (by simpa [Value.ownBlock] using hk); omega))) (n * 5) HCL.out.symm) ((((((HB6.out.setCell HBG.out.1 _).setCell HBG.out.2 _).setCell HBG.out.2 _).setCell HBG.out.2 _).setCell HBG.out.2 _).setCell HBG.out.2 _)⟩
end Go.Proofs.Yteafilojjdfllaa
end
section
namespace Go.Proofs.Yteafilojjdfllaa
open Go Go.RowKit Go.Proofs.YteafilojjdfllaaW.PrintWords Go.Proofs.YteafilojjdfllaaW.PrintLast Go.Proofs.YteafilojjdfllaaW.PrintMore Go.Proofs.Yteafilojjdfllaa.PAll
set_option linter.unusedVariables false
set_option linter.unusedSimpArgs false
/-- how a list of kids ends -/
def LPostK (w0 wn : World) (g B D G base : Nat) (s : ByteArray) (op dz : Int) (Q : Option (List S25 × Nat × List UInt8)) (e : Ending) (w' : World) : Prop :=
 (Q = none ∧ e = .panicked badP ∧ Below w0.heap.size w0 w' ∧ KeepBut wn w' g none) ∨ ∃ ks l1 r j cells A c, Q = some (ks, l1, r) ∧ s.data.toList.drop j = r ∧ j ≤ s.size ∧ e = .returned (.tuple #[]) ∧ VK w0 wn w' g B D G base s op dz j ((l1 : Nat) : Int) ks cells ks.length A c
set_option maxRecDepth 100000 in
set_option maxHeartbeats 32000000 in
/-- list, of kids. -/
theorem list176k (w0 wn w : World) (g B D G base : Nat) (s : ByteArray) (op dz : Int) (i left d : Nat) (HL : VM w0 wn g B D G base) (hV : VK w0 wn w g B D G base s op dz i (left : Int) [] [] 0 none 0) (hi : i ≤ s.size) (hs : s.size ≤ 1000000000) (hl : left ≤ 63) (hdz : wrap64 (dz + 1) = dz + 1) (ih : IHp w0 g s d (dz + 1)) (Q : Option (List S25 × Nat × List UInt8)) (hQ : listK (cutM 33) stepP true d left (s.data.toList.drop i) = Q) :
  Calls Try.prog 176 #[.pointer (some ⟨g, 0, none⟩), .func (.func 177) #[] #[.pointer (some ⟨G, 0, none⟩), .pointer (some ⟨B, 0, none⟩), .pointer (some ⟨D, 0, none⟩)]] w (LPostK w0 wn g B D G base s op dz Q) := by
 have IH := Lib.hid ih
 have HDZ := Lib.hid hdz
 clear ih hdz
 have HV := Lib.hid hV
 have L1 := HL.g0
 have HLL := Lib.hid HL
 obtain ⟨b1, e1⟩ : ∃ b, nextB 40 (s.data.toList.drop i) = b := ⟨_, rfl⟩
 have H1 := Lib.hid (must187 w0 w g s i (left : Int) ⟨#[40]⟩ b1 hi hs (by decide) ((pref_one s i 40 hi).trans e1) L1 hV.below hV.par)
 have HQ := Lib.hid hQ
 have E1 := Lib.hid e1
 clear hV hQ e1 HL
 go_enter Try.func176, Try.ntmps176
 go_wp2_with fail
 cases b1 with
 | false =>
  (with_reducible refine H1.out.mono ?_)
  rintro e w1 ⟨hb1, hk1, ⟨-, rfl⟩ | ⟨h, -⟩⟩
  ·exact ⟨rfl, Or.inl ⟨by rw [← HQ.out]; unfold listK; rw [E1.out]; rfl, rfl, hb1, HV.out.keep.trans hk1 (Or.inl rfl)⟩⟩
  ·cases h
 | true =>
  (with_reducible refine H1.out.mono ?_)
  rintro e w1 ⟨hb1, hk1, ⟨h, -⟩ | ⟨-, rfl, hp1⟩⟩
  ·cases h
  have HV1 := Lib.hid (HV.out.moved HLL.out hb1 hk1 hp1)
  have hi1 : i + 1 ≤ s.size := next_lt E1.out
  have HQ1 := Lib.hid (show (if nextB 41 (s.data.toList.drop (i + 1)) = true then some ([], left, s.data.toList.drop (i + 2)) else readML (cutM 33) stepP true d 65 left (s.data.toList.drop (i + 1))) = Q by rw [← HQ.out]; unfold listK; rw [E1.out, if_pos rfl, List.drop_drop, List.drop_drop])
  obtain ⟨b2, e2⟩ : ∃ b, nextB 41 (s.data.toList.drop (i + 1)) = b := ⟨_, rfl⟩
  have H2 := Lib.hid (takes174 w0 w1 g s (i + 1) (left : Int) ⟨#[41]⟩ b2 hi1 hs (by decide) ((pref_one s (i + 1) 41 hi1).trans e2) L1 HV1.out.below HV1.out.par)
  have E2 := Lib.hid e2
  clear hb1 hk1 hp1 H1 e2 HQ HV
  go_wp2_with fail
  (with_reducible refine H2.out.mono ?_)
  rintro e w2 ⟨rfl, hb2, hk2, hp2⟩
  cases b2 with
  | true =>
   have HV2 := Lib.hid (HV1.out.moved HLL.out hb2 hk2 hp2)
   clear hb2 hk2 hp2 H2
   go_wp2
   have hx : LPostK w0 wn g B D G base s op dz Q (.returned (.tuple #[])) w2 := Or.inr ⟨[], left, _, i + 2, [], _, _, by rw [← HQ1.out, if_pos E2.out], rfl, next_lt E2.out, rfl, HV2.out⟩
   first | exact bodyPost_ret (results_none rfl _ _ _) rfl hx | (simp only [Exit.inBlock, Exit.then]; exact bodyPost_ret (results_none rfl _ _ _) rfl hx) | exact ⟨rfl, .tuple #[], results_none rfl _ _ _, hx⟩
  | false =>
   have HV2 := Lib.hid (HV1.out.moved HLL.out hb2 hk2 hp2)
   have HQ2 := Lib.hid (show readML (cutM 33) stepP true d 65 left (s.data.toList.drop (i + 1)) = Q by rw [← HQ1.out, if_neg (by rw [E2.out]; decide)])
   clear hb2 hk2 hp2 H2 HQ1 HV1
   cases hq : readM (cutM 33) stepP true d left (s.data.toList.drop (i + 1)) with
   | none =>
    have H3 := Lib.hid (kid177n w0 wn w2 g B D G base s op dz (i + 1) left d [] [] 0 none 0 HLL.out HV2.out hi1 hs (by omega) (by decide) HDZ.out IH.out hq)
    have HQ3 := Lib.hid (show Q = none by rw [← HQ2.out, readML_rest, hq])
    clear hq
    go_wp2_with fail
    (with_reducible refine H3.out.mono ?_)
    rintro e w3 ⟨rfl, hb3, hk3⟩
    exact ⟨rfl, Or.inl ⟨HQ3.out, rfl, hb3, hk3⟩⟩
   | some q =>
    obtain ⟨m, l1, t⟩ := q
    obtain ⟨j, hj, hjs, hjt, hll, hij⟩ := read_place hi1 hq
    have H3 := Lib.hid (kid177y w0 wn w2 g B D G base s op dz (i + 1) left d [] [] 0 none 0 HLL.out HV2.out hi1 hs (by omega) (by decide) HDZ.out IH.out m l1 j t hq hj)
    have HQ3 := Lib.hid (show Q = (restK (cutM 33) stepP true d 64 l1 t).map (fun q => ([m] ++ q.1, q.2)) by rw [← HQ2.out, readML_rest, hq]; rfl)
    have HR := Lib.hid (And.intro hjt (And.intro hjs hll))
    clear hq hj hjs hjt hll hij
    go_wp2_with fail
    (with_reducible refine H3.out.mono ?_)
    rintro e w3 ⟨A3, c3, cs3, rfl, hv3⟩
    have HV3 := Lib.hid hv3
    clear hv3 H3
    go_wp2
    go_loopw [] (fun wr => ∃ (n p l2 : Nat) (ks : List S25) (cells : List Value) (rr : List UInt8) (A : Option Addr) (c : Nat), 1 ≤ n ∧ n + l2 ≤ 63 ∧ p ≤ s.size ∧ Hid (s.data.toList.drop p = rr) ∧ Hid (Q = (restK (cutM 33) stepP true d (65 - n) l2 rr).map (fun q => (ks ++ q.1, q.2))) ∧ Hid (VK w0 wn wr g B D G base s op dz p ((l2 : Nat) : Int) ks cells n A c))
     (fun wr => s.size - (intOf ((wr.cell? ⟨g, 1, none⟩).getD undef)).toNat)
    case atStart => exact ⟨1, j, l1, [m], cs3, t, A3, c3, by decide, by have := HR.out.2.2; omega, HR.out.2.1, Lib.hid HR.out.1, HQ3, HV3⟩
    case round =>
     obtain ⟨n, p, l2, ks, cells, rr, A, c, hn1, hn17, hp, HRR, HQr, HVr⟩ := hrel
     clear HV3 HQ3 HR HV2 HQ2
     obtain ⟨b3, e3⟩ : ∃ b, nextB 41 (s.data.toList.drop p) = b := ⟨_, rfl⟩
     have H4 := Lib.hid (takes174 w0 wr g s p ((l2 : Nat) : Int) ⟨#[41]⟩ b3 hp hs (by decide) ((pref_one s p 41 hp).trans e3) L1 HVr.out.below HVr.out.par)
     have E3 := Lib.hid e3
     clear e3
     go_wp2_with fail
     (with_reducible refine H4.out.mono ?_)
     rintro e w4 ⟨rfl, hb4, hk4, hp4⟩
     have HV4 := Lib.hid (HVr.out.moved HLL.out hb4 hk4 hp4)
     clear hb4 hk4 hp4 H4
     cases b3 with
     | true =>
      have HQ4 := Lib.hid (show Q = some (ks, l2, rr.drop 1) by rw [HQr.out]; unfold restK; rw [← HRR.out, if_pos E3.out]; simp)
      have hlen : ks.length = n := HV4.out.len
      subst hlen
      have hx : LPostK w0 wn g B D G base s op dz Q (.returned (.tuple #[])) w4 := Or.inr ⟨ks, l2, _, p + 1, cells, _, _, HQ4.out, by rw [← HRR.out, List.drop_drop], next_lt E3.out, rfl, HV4.out⟩
      go_wp2
      first | exact bodyPost_ret (results_none rfl _ _ _) rfl hx | (simp only [Exit.inBlock, Exit.then]; exact bodyPost_ret (results_none rfl _ _ _) rfl hx) | exact ⟨rfl, .tuple #[], results_none rfl _ _ _, hx⟩
     | false =>
      obtain ⟨b4, e4⟩ : ∃ b, nextB 44 (s.data.toList.drop p) = b := ⟨_, rfl⟩
      have H5 := Lib.hid (must187 w0 w4 g s p ((l2 : Nat) : Int) ⟨#[44]⟩ b4 hp hs (by decide) ((pref_one s p 44 hp).trans e4) L1 HV4.out.below HV4.out.par)
      have E4 := Lib.hid e4
      clear e4
      go_wp2_with fail
      cases b4 with
      | false =>
       (with_reducible refine H5.out.mono ?_)
       rintro e w5 ⟨hb5, hk5, ⟨-, rfl⟩ | ⟨h, -⟩⟩
       ·exact ⟨rfl, Or.inl ⟨by rw [HQr.out]; unfold restK; rw [← HRR.out, if_neg (by rw [E3.out]; decide), if_neg (by rw [E4.out]; decide)]; rfl, rfl, hb5, HV4.out.keep.trans hk5 (Or.inl rfl)⟩⟩
       ·cases h
      | true =>
       (with_reducible refine H5.out.mono ?_)
       rintro e w5 ⟨hb5, hk5, ⟨h, -⟩ | ⟨-, rfl, hp5⟩⟩
       ·cases h
       have HV5 := Lib.hid (HV4.out.moved HLL.out hb5 hk5 hp5)
       have hp1 : p + 1 ≤ s.size := next_lt E4.out
       have HQ5 := Lib.hid (show Q = (readML (cutM 33) stepP true d (65 - n) l2 (s.data.toList.drop (p + 1))).map (fun q => (ks ++ q.1, q.2)) by rw [HQr.out]; unfold restK; rw [← HRR.out, if_neg (by rw [E3.out]; decide), if_pos E4.out, List.drop_drop])
       clear hb5 hk5 hp5 H5 HV4
       cases hq : readM (cutM 33) stepP true d l2 (s.data.toList.drop (p + 1)) with
       | none =>
        have H6 := Lib.hid (kid177n w0 wn w5 g B D G base s op dz (p + 1) l2 d ks cells n A c HLL.out HV5.out hp1 hs (by omega) (by omega) HDZ.out IH.out hq)
        have HQ6 := Lib.hid (show Q = none by rw [HQ5.out, show 65 - n = (64 - n) + 1 by omega, readML_rest, hq]; rfl)
        clear hq
        go_wp2_with fail
        (with_reducible refine H6.out.mono ?_)
        rintro e w6 ⟨rfl, hb6, hk6⟩
        exact ⟨rfl, Or.inl ⟨HQ6.out, rfl, hb6, hk6⟩⟩
       | some q =>
        obtain ⟨m2, l3, t2⟩ := q
        obtain ⟨j2, hj2, hjs2, hjt2, hll2, hij2⟩ := read_place hp1 hq
        have H6 := Lib.hid (kid177y w0 wn w5 g B D G base s op dz (p + 1) l2 d ks cells n A c HLL.out HV5.out hp1 hs (by omega) (by omega) HDZ.out IH.out m2 l3 j2 t2 hq hj2)
        have HQ6 := Lib.hid (show Q = (restK (cutM 33) stepP true d (65 - (n + 1)) l3 t2).map (fun q => ((ks ++ [m2]) ++ q.1, q.2)) by
         rw [HQ5.out, show 65 - n = (65 - (n + 1)) + 1 by omega, readML_rest, hq]
         simp only [Option.map_map]
         congr 1
         funext q
         simp)
        have HR2 := Lib.hid (And.intro hjt2 (And.intro hjs2 (And.intro hll2 hij2)))
        clear hq hj2 hjs2 hjt2 hll2 hij2
        go_wp2_with fail
        (with_reducible refine H6.out.mono ?_)
        rintro e w6 ⟨A6, c6, cs6, rfl, hv6⟩
        have HV6 := Lib.hid hv6
        clear hv6 H6
        go_wp2
        go_roundw
        case rel => exact ⟨n + 1, j2, l3, ks ++ [m2], cs6, t2, A6, c6, by omega, by have := HR2.out.2.2.1; omega, HR2.out.2.1, Lib.hid HR2.out.1, HQ6, HV6⟩
        case measure =>
         have h1 := HVr.out.par.c1
         have h2 := HV6.out.par.c1
         have h3 := HR2.out.2.1
         have h4 := HR2.out.2.2.2
         rw [h1, h2]
         simp [intOf]
         omega
end Go.Proofs.Yteafilojjdfllaa
end
section
namespace Go.Proofs.Yteafilojjdfllaa
open Go Go.RowKit Go.Proofs.YteafilojjdfllaaW.PrintWords Go.Proofs.YteafilojjdfllaaW.PrintLast Go.Proofs.YteafilojjdfllaaW.PrintMore Go.Proofs.Yteafilojjdfllaa.PAll
set_option linter.unusedVariables false
set_option linter.unusedSimpArgs false
/-- the world while a matcher is read -/
structure MS (w0 wn W : World) (g B D K G : Nat) (s : ByteArray) (dz : Int) (j : Nat) (l op : Int) : Prop where
 below : Below w0.heap.size w0 W
 keep : KeepBut wn W g none
 size : G < W.heap.size
 box : W.heap[B]? = some (.cells #[.pointer (some ⟨g, 0, none⟩)] 170 (0, 0))
 dbox : W.heap[D]? = some (.cells #[.int .i64 dz] 3 (0, 0))
 res : W.heap[K]? = some (.cells Z5 25 (0, 0))
 blk : W.heap[G]? = some (.cells #[.int .i64 op, .string ⟨#[]⟩, .string ⟨#[]⟩, .slice none 0 0, .slice none 0 0] 25 (0, 0))
 par : PB W g s j l
/-- where these lie -/
structure ML (w0 w wn : World) (g B D K G : Nat) : Prop where
 g0 : w0.heap.size ≤ g
 gl : g < w.heap.size
 w0l : w0.heap.size ≤ w.heap.size
 eB : w.heap.size = B
 eD : B + 1 = D
 eK : D + 1 = K
 eG : K + 1 = G
 wG : wn.heap.size = G
section
variable {w0 w wn W W' : World} {g B D K G : Nat} {s : ByteArray} {dz : Int} {i j : Nat} {l op : Int}
theorem MS.moved (h : MS w0 wn W g B D K G s dz i l op) (L : ML w0 w wn g B D K G) (hB : Below w0.heap.size w0 W') (hK : KeepBut W W' g none) (hP : PB W' g s j l) : MS w0 wn W' g B D K G s dz j l op := by
 obtain ⟨L1, L2, L0, L3, L4, L5, L6, L7⟩ := L
 have hs := h.size
 have hs2 := hK.1
 exact ⟨hB, h.keep.trans hK (Or.inl rfl), by omega, (hK.2 B (by omega) (by omega) (by simp)).trans h.box, (hK.2 D (by omega) (by omega) (by simp)).trans h.dbox, (hK.2 K (by omega) (by omega) (by simp)).trans h.res, (hK.2 G (by omega) (by omega) (by simp)).trans h.blk, hP⟩
theorem MS.setop (h : MS w0 wn W g B D K G s dz i l op) (L : ML w0 w wn g B D K G) (o : Int) : MS w0 wn (W.setCell ⟨G, 0, none⟩ (.int .i64 o)) g B D K G s dz i l o := by
 obtain ⟨L1, L2, L0, L3, L4, L5, L6, L7⟩ := L
 have hk := h.keep
 exact ⟨h.below.setCell (show w0.heap.size ≤ G by omega) _, ⟨by simpa using hk.1, fun i hi h1 h2 => (Below.heap_setCell _ _ _ _ (show i ≠ G by omega)).trans (hk.2 i hi h1 h2)⟩, by simpa using h.size,
  (Below.heap_setCell _ _ _ _ (show B ≠ G by omega)).trans h.box, (Below.heap_setCell _ _ _ _ (show D ≠ G by omega)).trans h.dbox, (Below.heap_setCell _ _ _ _ (show K ≠ G by omega)).trans h.res, (blk_set h.blk 0 _).trans (by rfl), (Below.heap_setCell _ _ _ _ (show g ≠ G by omega)).trans h.par⟩
theorem MS.cB (h : MS w0 wn W g B D K G s dz i l op) : W.cell? ⟨B, 0, none⟩ = some (.pointer (some ⟨g, 0, none⟩)) := (blk_cell h.box 0).trans rfl
theorem MS.zG (h : MS w0 wn W g B D K G s dz i l op) (k : Nat) : W.frozen? ⟨G, k, none⟩ = false := blk_frozen h.blk k
theorem MS.zK (h : MS w0 wn W g B D K G s dz i l op) (k : Nat) : W.frozen? ⟨K, k, none⟩ = false := blk_frozen h.res k
theorem MS.c0 (h : MS w0 wn W g B D K G s dz i l op) : W.cell? ⟨G, 0, none⟩ = some (.int .i64 op) := (blk_cell h.blk 0).trans rfl
theorem MS.c1 (h : MS w0 wn W g B D K G s dz i l op) : W.cell? ⟨G, 1, none⟩ = some (.string ⟨#[]⟩) := (blk_cell h.blk 1).trans rfl
theorem MS.c2 (h : MS w0 wn W g B D K G s dz i l op) : W.cell? ⟨G, 2, none⟩ = some (.string ⟨#[]⟩) := (blk_cell h.blk 2).trans rfl
theorem MS.c3 (h : MS w0 wn W g B D K G s dz i l op) : W.cell? ⟨G, 3, none⟩ = some (.slice none 0 0) := (blk_cell h.blk 3).trans rfl
theorem MS.c4 (h : MS w0 wn W g B D K G s dz i l op) : W.cell? ⟨G, 4, none⟩ = some (.slice none 0 0) := (blk_cell h.blk 4).trans rfl
theorem MS.k0 (h : MS w0 wn W g B D K G s dz i l op) : W.cell? ⟨K, 0, none⟩ = some (.int .i64 0) := (blk_cell h.res 0).trans rfl
theorem MS.k1 (h : MS w0 wn W g B D K G s dz i l op) : W.cell? ⟨K, 1, none⟩ = some (.string ⟨#[]⟩) := (blk_cell h.res 1).trans rfl
theorem MS.k2 (h : MS w0 wn W g B D K G s dz i l op) : W.cell? ⟨K, 2, none⟩ = some (.string ⟨#[]⟩) := (blk_cell h.res 2).trans rfl
theorem MS.k3 (h : MS w0 wn W g B D K G s dz i l op) : W.cell? ⟨K, 3, none⟩ = some (.slice none 0 0) := (blk_cell h.res 3).trans rfl
theorem MS.k4 (h : MS w0 wn W g B D K G s dz i l op) : W.cell? ⟨K, 4, none⟩ = some (.slice none 0 0) := (blk_cell h.res 4).trans rfl
end
set_option maxRecDepth 100000 in
set_option maxHeartbeats 16000000 in
/-- so many are read. -/
theorem mat144a (w0 w : World) (g : Nat) (s : ByteArray) (i d : Nat) (dz : Int) (hg : w0.heap.size ≤ g) (hB : Below w0.heap.size w0 w) (hP : PB w g s i 0) :
  Calls Try.prog 144 #[.pointer (some ⟨g, 0, none⟩), .int .i64 dz] w (RedPost w0 w g none) := by
 have hgl := hP.lt
 obtain ⟨V0, eV0⟩ : ∃ V0, V0 = ((w.alloc (.cells #[.pointer (some ⟨g, 0, none⟩)] 170)).alloc (.cells #[.int .i64 dz] 3)).alloc (.cells Z5 25) := ⟨_, rfl⟩
 have hB0 : Below w.heap.size w V0 := by rw [eV0]; exact below_alloc (below_alloc (below_alloc (Below.refl _ _) _) _) _
 have hP0 := hP.below hB0
 have hc2 := hP0.c2
 have hz2 := hP0.z2
 rw [eV0] at hc2 hz2
 have HB := Lib.hid (below_step hB hB0)
 have HK := Lib.hid (KeepBut.of_below hB0 g none)
 clear hP hB hP0 hB0 hgl
 go_enter Try.func144, Try.ntmps144
 go_wp2
 rw [← eV0]
 exact ⟨rfl, HB.out.setCell hg _, HK.out.set_ _ _, Or.inl ⟨rfl, rfl⟩⟩
set_option maxRecDepth 100000 in
set_option maxHeartbeats 16000000 in
/-- too deep. -/
theorem mat144b (w0 w : World) (g : Nat) (s : ByteArray) (i left : Nat) (hl : left ≤ 1000) (dz : Int) (hdz : dz = 9) (hg : w0.heap.size ≤ g) (hB : Below w0.heap.size w0 w) (hP : PB w g s i ((left + 1 : Nat) : Int)) :
  Calls Try.prog 144 #[.pointer (some ⟨g, 0, none⟩), .int .i64 dz] w (RedPost w0 w g none) := by
 have hgl := hP.lt
 obtain ⟨V0, eV0⟩ : ∃ V0, V0 = ((w.alloc (.cells #[.pointer (some ⟨g, 0, none⟩)] 170)).alloc (.cells #[.int .i64 dz] 3)).alloc (.cells Z5 25) := ⟨_, rfl⟩
 have hB0 : Below w.heap.size w V0 := by rw [eV0]; exact below_alloc (below_alloc (below_alloc (Below.refl _ _) _) _) _
 have hP0 := hP.below hB0
 have hc2 := hP0.c2
 have hz2 := hP0.z2
 rw [eV0] at hc2 hz2
 have hw1 : wrap64 (((left + 1 : Nat) : Int) - 1) = (left : Int) := by unfold wrap64; omega
 have hd : decide ((left : Int) < 0) = false := decide_eq_false (by omega)
 have hd2 : decide ((8 : Int) < dz) = true := decide_eq_true (by omega)
 have ht2 : (8 : Int) < dz := by omega
 have HB := Lib.hid (below_step hB hB0)
 have HK := Lib.hid (KeepBut.of_below hB0 g none)
 have hgB : w.heap.size + 1 ≠ g := by omega
 have hgD : g ≠ w.heap.size + 1 := by omega
 have hgB2 : w.heap.size ≠ g := by omega
 have hgD2 : g ≠ w.heap.size := by omega
 clear hP hB hP0 hB0 hgl hdz
 go_enter Try.func144, Try.ntmps144
 go_wp2
 rw [← eV0]
 exact ⟨rfl, HB.out.setCell hg _, HK.out.set_ _ _, Or.inl ⟨rfl, rfl⟩⟩
set_option maxRecDepth 100000 in
set_option maxHeartbeats 64000000 in
/-- a matcher. -/
theorem mat144c (w0 w : World) (g : Nat) (s : ByteArray) (i left d : Nat) (hl : left ≤ 63) (hd7 : d ≤ 7) (dz : Int) (hdz : dz = 8 - (d : Int)) (hi : i ≤ s.size) (hs : s.size ≤ 1000000000) (hg : w0.heap.size ≤ g) (hB : Below w0.heap.size w0 w) (hP : PB w g s i ((left + 1 : Nat) : Int)) (ih : IHp w0 g s d (dz + 1)) :
  Calls Try.prog 144 #[.pointer (some ⟨g, 0, none⟩), .int .i64 dz] w (RedPost w0 w g ((readM (cutM 33) stepP true (d + 1) (left + 1) (s.data.toList.drop i)).map fun q => (q.1, pObj s (s.size - q.2.2.length) (q.2.1 : Nat)))) := by
 obtain ⟨Q, hQ⟩ : ∃ Q, readM (cutM 33) stepP true (d + 1) (left + 1) (s.data.toList.drop i) = Q := ⟨_, rfl⟩
 rw [hQ]
 rw [readM_step _ _ _ _ _ _ rfl] at hQ
 have HQ := Lib.hid hQ
 have IH := Lib.hid ih
 clear hQ ih
 have hgl := hP.lt
 obtain ⟨V0, eV0⟩ : ∃ V0, V0 = ((w.alloc (.cells #[.pointer (some ⟨g, 0, none⟩)] 170)).alloc (.cells #[.int .i64 dz] 3)).alloc (.cells Z5 25) := ⟨_, rfl⟩
 have hB0 : Below w.heap.size w V0 := by rw [eV0]; exact below_alloc (below_alloc (below_alloc (Below.refl _ _) _) _) _
 have hP0 := hP.below hB0
 have hc2 := hP0.c2
 have hz2 := hP0.z2
 rw [eV0] at hc2 hz2
 have hw1 : wrap64 (((left + 1 : Nat) : Int) - 1) = (left : Int) := by unfold wrap64; omega
 have hd : decide ((left : Int) < 0) = false := decide_eq_false (by omega)
 have ht : ¬ (left : Int) < 0 := by omega
 have hd2 : decide ((8 : Int) < dz) = false := decide_eq_false (by omega)
 have ht2 : ¬ (8 : Int) < dz := by omega
 have HDZ := Lib.hid (show wrap64 (dz + 1) = dz + 1 by unfold wrap64; omega)
 have hgB : w.heap.size + 1 ≠ g := by omega
 have hgD : g ≠ w.heap.size + 1 := by omega
 have hgB2 : w.heap.size ≠ g := by omega
 have hgD2 : g ≠ w.heap.size := by omega
 obtain ⟨V, eV⟩ : ∃ V, V = V0.setCell ⟨g, 2, none⟩ (.int .i64 (left : Int)) := ⟨_, rfl⟩
 obtain ⟨B, eB⟩ : ∃ B, w.heap.size = B := ⟨_, rfl⟩
 obtain ⟨D, eD⟩ : ∃ D, B + 1 = D := ⟨_, rfl⟩
 obtain ⟨K, eK⟩ : ∃ K, D + 1 = K := ⟨_, rfl⟩
 obtain ⟨G, eG⟩ : ∃ G, K + 1 = G := ⟨_, rfl⟩
 have hVs : V.heap.size = G := by rw [eV, World.size_setCell, eV0]; simp; omega
 have HL := Lib.hid (show ML w0 w V g B D K G from ⟨hg, hgl, hB.size, eB, eD, eK, eG, hVs⟩)
 have HK0 := Lib.hid (show KeepBut w V g none from by rw [eV]; exact (KeepBut.of_below hB0 g none).set_ _ _)
 have v1 : V0.heap[B]? = some (.cells #[.pointer (some ⟨g, 0, none⟩)] 170 (0, 0)) := by
  rw [eV0, ← eB]
  exact (Below.heap_alloc _ _ _ (by simp; omega)).trans ((Below.heap_alloc _ _ _ (by simp)).trans (blk_new w _))
 have v2 : V0.heap[D]? = some (.cells #[.int .i64 dz] 3 (0, 0)) := by
  rw [eV0, ← eD, ← eB]
  have h := blk_new (w.alloc (.cells #[.pointer (some ⟨g, 0, none⟩)] 170)) (.cells #[.int .i64 dz] 3)
  rw [World.size_alloc] at h
  exact (Below.heap_alloc _ _ _ (by simp)).trans h
 have v3 : V0.heap[K]? = some (.cells Z5 25 (0, 0)) := by
  rw [eV0, ← eK, ← eD, ← eB]
  have h := blk_new ((w.alloc (.cells #[.pointer (some ⟨g, 0, none⟩)] 170)).alloc (.cells #[.int .i64 dz] 3)) (.cells Z5 25)
  rw [World.size_alloc, World.size_alloc] at h
  exact h
 have HKV : Hid (V.heap[K]? = some (.cells Z5 25 (0, 0))) := Lib.hid (by rw [eV]; exact (Below.heap_setCell _ _ _ _ (show K ≠ g by omega)).trans v3)
 have HV : Hid (MS w0 V (V.alloc (.cells Z5 25)) g B D K G s dz i (left : Int) 0) := Lib.hid (by
  have f : ∀ k, k ≠ g → k < V0.heap.size → (V.alloc (.cells Z5 25)).heap[k]? = V0.heap[k]? := fun k h1 h2 => by
   rw [eV]
   exact (Below.heap_alloc _ _ _ (by simpa using h2)).trans (Below.heap_setCell _ _ _ _ h1)
  have hs0 : V0.heap.size = G := by rw [← hVs, eV, World.size_setCell]
  refine ⟨below_alloc (by rw [eV]; exact (below_step hB hB0).setCell hg _) _, KeepBut.of_below (below_alloc (Below.refl _ _) _) g none, by rw [World.size_alloc]; omega, (f B (by omega) (by omega)).trans v1, (f D (by omega) (by omega)).trans v2, (f K (by omega) (by omega)).trans v3, by rw [← hVs]; exact blk_new V _, ?_⟩
  exact PB.below (by rw [eV]; exact hP0.set2 _) (below_alloc (Below.refl _ _) _))
 have cb0 := blk_cell v1 0
 have cd0 := blk_cell v2 0
 simp only [List.getElem?_toArray, List.getElem?_cons_zero] at cb0 cd0
 rw [eV0] at cb0 cd0
 have hBg : B ≠ g := by omega
 have hgB' : g ≠ B := by omega
 have hDg : D ≠ g := by omega
 have hgD' : g ≠ D := by omega
 rw [eV0] at eV
 clear hP hB hP0 hB0 hgl hdz v1 v2 v3
 go_enter Try.func144, Try.ntmps144
 go_upto_block 0 with fail
 rw [← eV]
 obtain ⟨W4, eW4⟩ : ∃ W4, W4 = V.alloc (.cells Z5 25) := ⟨_, rfl⟩
 rw [← eW4] at HV ⊢
 clear eW4 eV hc2 hz2 cb0 cd0 hBg hgB' hDg hgD' hgB hgD hgB2 hgD2 hw1 hd ht hd2 ht2 eB eD eK eG hVs eV0
 have HNE := Lib.hid (show K ≠ G by have := HL.out.eG; omega)
 have hKG : K ≠ G := HNE.out
 have hGK : G ≠ K := HNE.out.symm
 have cB0 := HV.out.cB
 obtain ⟨b0, e0⟩ : ∃ b, nextB 42 (s.data.toList.drop i) = b := ⟨_, rfl⟩
 have H0 := Lib.hid (takes174 w0 W4 g s i (left : Int) ⟨#[42]⟩ b0 hi hs (by decide) ((pref_one s i 42 hi).trans e0) hg HV.out.below HV.out.par)
 have E0 := Lib.hid e0
 clear e0
 go_wp2_with fail
 (with_reducible refine H0.out.mono ?_)
 rintro ee w5 ⟨rfl, hb5, hk5, hp5⟩
 cases b0 with
 | true =>
  have HM5 : Hid (MS w0 V w5 g B D K G s dz (i + 1) (left : Int) 0) := Lib.hid (HV.out.moved HL.out hb5 hk5 hp5)
  have hi1 : i + 1 ≤ s.size := next_lt E0.out
  clear hb5 hk5 hp5 H0 cB0
  have y0 := HM5.out.c0
  have y1 := HM5.out.c1
  have y2 := HM5.out.c2
  have y3 := HM5.out.c3
  have y4 := HM5.out.c4
  have xk0 := HM5.out.k0
  have xk1 := HM5.out.k1
  have xk2 := HM5.out.k2
  have xk3 := HM5.out.k3
  have xk4 := HM5.out.k4
  have xz0 := HM5.out.zK 0
  have xz1 := HM5.out.zK 1
  have xz2 := HM5.out.zK 2
  have xz3 := HM5.out.zK 3
  have xz4 := HM5.out.zK 4
  go_wp2
  have h5 := HM5.out
  obtain ⟨L1, L2, L0, L3, L4, L5, L6, L7⟩ := HL.out
  have hQ : Q = some (⟨0, ⟨#[]⟩, ⟨#[]⟩, [], []⟩, left, s.data.toList.drop (i + 1)) := by rw [← HQ.out, if_pos E0.out, List.drop_drop]
  have hT := nam_tail (m := ⟨0, ⟨#[]⟩, ⟨#[]⟩, [], []⟩) (A3 := none) (c3 := 0) (A4 := none) (c4 := 0) (W := w5) (w := w) (w0 := w0) (g := g) (K := K) (o := pObj s (i + 1) (left : Int)) (by omega) h5.res hg L2 L0 h5.below (HK0.out.trans h5.keep (Or.inl rfl)) h5.par (fun X _ => ⟨Nat.le_refl _, Kd.C_nil _ _, Nat.le_refl _, Kd.C_nil _ _⟩)
  rw [hQ]
  simp only [Option.map_some, List.length_drop, show s.size - (s.data.toList.length - (i + 1)) = i + 1 by simp; omega]
  exact bodyPost_ret (results_single rfl (.cell K 25 _ (0, 0) _ rfl hT.1 Try.underlying25 rfl (by kernel_rfl) .nil)) rfl hT.2
 | false =>
  have HM5 : Hid (MS w0 V w5 g B D K G s dz i (left : Int) 0) := Lib.hid (HV.out.moved HL.out hb5 hk5 hp5)
  clear hb5 hk5 hp5 H0 cB0
  have cB1 := HM5.out.cB
  obtain ⟨b1, e1⟩ : ∃ b, nextB 38 (s.data.toList.drop i) = b := ⟨_, rfl⟩
  have H1 := Lib.hid (takes174 w0 w5 g s i (left : Int) ⟨#[38]⟩ b1 hi hs (by decide) ((pref_one s i 38 hi).trans e1) hg HM5.out.below HM5.out.par)
  have E1 := Lib.hid e1
  clear e1
  go_wp2_with fail
  (with_reducible refine H1.out.mono ?_)
  rintro ee w6 ⟨rfl, hb5, hk5, hp5⟩
  cases b1 with
  | true =>
   have HM5 : Hid (MS w0 V w6 g B D K G s dz (i + 1) (left : Int) 0) := Lib.hid (HM5.out.moved HL.out hb5 hk5 hp5)
   have hi1 : i + 1 ≤ s.size := next_lt E1.out
   clear hb5 hk5 hp5 H1 cB1
   have HM6 := Lib.hid (HM5.out.setop HL.out 5)
   have c50 := HM5.out.c0
   have z50 := HM5.out.zG 0
   have cB6 := HM6.out.cB
   obtain ⟨w9, ew9⟩ : ∃ w9, w9 = w6.setCell ⟨G, 0, none⟩ (.int .i64 5) := ⟨_, rfl⟩
   have hmf : ∀ (fn : Fn) (first cap : Array Value) (w : World), (Instr.makeFunc fn first cap).run Try.prog w = .ok (.func fn first cap) w := fun _ _ _ _ => rfl
   obtain ⟨base, hbase⟩ : ∃ base, w9.heap.size = base := ⟨_, rfl⟩
   rw [← ew9] at HM6
   obtain ⟨L1, L2, L0, L3, L4, L5, L6, L7⟩ := HL.out
   have h9 := HM6.out
   have H9 := Lib.hid (list176k w0 V w9 g B D G base s 5 dz (i + 1) left d ⟨hg, by omega, by omega, by omega, by omega, by have := h9.size; omega, by have := h9.size; omega, by have := h9.size; omega, by omega, by omega, by omega⟩ ⟨h9.below, h9.keep, by omega, h9.box, h9.dbox, h9.blk, h9.par, World.ownsRow_nil _ _ _ _, by simpa using Reps.none _ _, rfl, rfl⟩ hi1 hs hl HDZ.out IH.out _ rfl)
   have HBS := Lib.hid (show K < base by have := h9.size; omega)
   clear h9 hbase L1 L2 L0 L3 L4 L5 L6 L7
   go_wp2_with fail
   rw [← ew9]
   refine H9.out.mono ?_
   intro ee w10 hp10
   rcases hp10 with ⟨hq, rfl, hb10, hk10⟩ | ⟨ks, l1, r, j2, cs, A, c, hq, hr, hj, rfl, hv10⟩
   ·have hQ : Q = none := by rw [← HQ.out, if_neg (by rw [E0.out]; decide), if_pos E1.out, List.drop_drop, hq]; rfl
    exact ⟨rfl, hb10, HK0.out.trans hk10 (Or.inl rfl), Or.inl ⟨by rw [hQ]; rfl, rfl⟩⟩
   ·have HQ6 := Lib.hid (show Q = some (⟨5, ⟨#[]⟩, ⟨#[]⟩, [], ks⟩, l1, r) by rw [← HQ.out, if_neg (by rw [E0.out]; decide), if_pos E1.out, List.drop_drop, hq]; rfl)
    have HJ2 := Lib.hid (show s.size - r.length = j2 by rw [← hr]; simp; omega)
    have HVV := Lib.hid hv10
    have y0 := (blk_cell hv10.blk 0).trans rfl
    have y1 := (blk_cell hv10.blk 1).trans rfl
    have y2 := (blk_cell hv10.blk 2).trans rfl
    have y3 := (blk_cell hv10.blk 3).trans rfl
    have y4 := (blk_cell hv10.blk 4).trans rfl
    have hKg : K ≠ g := by obtain ⟨L1, L2, L0, L3, L4, L5, L6, L7⟩ := HL.out; omega
    have hK10 := (hv10.keep.2 K (by obtain ⟨L1, L2, L0, L3, L4, L5, L6, L7⟩ := HL.out; omega) hKg (by simp)).trans HKV.out
    have HK10 := Lib.hid hK10
    have x0 := (blk_cell hK10 0).trans rfl
    have x1 := (blk_cell hK10 1).trans rfl
    have x2 := (blk_cell hK10 2).trans rfl
    have x3 := (blk_cell hK10 3).trans rfl
    have x4 := (blk_cell hK10 4).trans rfl
    have xz0 := blk_frozen hK10 0
    have xz1 := blk_frozen hK10 1
    have xz2 := blk_frozen hK10 2
    have xz3 := blk_frozen hK10 3
    have xz4 := blk_frozen hK10 4
    simp only [List.getElem?_toArray, List.getElem?_cons_zero, List.getElem?_cons_succ] at y0 y1 y2 y3 y4 x0 x1 x2 x3 x4
    clear hv10 hK10 hq hr H9 ew9 c50 z50 cB6 HM6 HM5
    go_wp2
    have hv := HVV.out
    obtain ⟨L1, L2, L0, L3, L4, L5, L6, L7⟩ := HL.out
    have hk7 := HK0.out.trans hv.keep (Or.inl rfl)
    obtain ⟨F3, gg3, F4, gg4, ev3, ev4, hMF⟩ := MF.of_rows (m := ⟨5, ⟨#[]⟩, ⟨#[]⟩, [], ks⟩) (lo' := base) (World.ownsRow_nil _ _ _ _) hv.own hv.reps (Nat.le_refl _)
    simp only at ev3 ev4
    cases ev3
    cases ev4
    have hT := nam_tail (m := ⟨5, ⟨#[]⟩, ⟨#[]⟩, [], ks⟩) (W := w10) (w := w) (w0 := w0) (g := g) (K := K) (o := pObj s j2 ((l1 : Nat) : Int)) (by omega) HK10.out hg L2 L0 hv.below hk7 hv.par (hMF.move (fun b hb => ⟨⟨by have := hb.1; have := HBS.out; omega, hb.2⟩, rfl⟩))
    rw [HQ6.out]
    simp only [Option.map_some, HJ2.out]
    exact bodyPost_ret (results_single rfl (.cell K 25 _ (0, 0) _ rfl hT.1 Try.underlying25 rfl (by kernel_rfl) .nil)) rfl hT.2
  | false =>
   have HM6 : Hid (MS w0 V w6 g B D K G s dz i (left : Int) 0) := Lib.hid (HM5.out.moved HL.out hb5 hk5 hp5)
   clear hb5 hk5 hp5 H1 cB1
   have cB2 := HM6.out.cB
   obtain ⟨b2, e2⟩ : ∃ b, nextB 124 (s.data.toList.drop i) = b := ⟨_, rfl⟩
   have H2 := Lib.hid (takes174 w0 w6 g s i (left : Int) ⟨#[124]⟩ b2 hi hs (by decide) ((pref_one s i 124 hi).trans e2) hg HM6.out.below HM6.out.par)
   have E2 := Lib.hid e2
   clear e2
   go_wp2_with fail
   (with_reducible refine H2.out.mono ?_)
   rintro ee w7 ⟨rfl, hb5, hk5, hp5⟩
   cases b2 with
   | true =>
    have HM5 : Hid (MS w0 V w7 g B D K G s dz (i + 1) (left : Int) 0) := Lib.hid (HM6.out.moved HL.out hb5 hk5 hp5)
    have hi1 : i + 1 ≤ s.size := next_lt E2.out
    clear hb5 hk5 hp5 H2 cB2
    have HM6 := Lib.hid (HM5.out.setop HL.out 6)
    have c50 := HM5.out.c0
    have z50 := HM5.out.zG 0
    have cB6 := HM6.out.cB
    obtain ⟨w9, ew9⟩ : ∃ w9, w9 = w7.setCell ⟨G, 0, none⟩ (.int .i64 6) := ⟨_, rfl⟩
    have hmf : ∀ (fn : Fn) (first cap : Array Value) (w : World), (Instr.makeFunc fn first cap).run Try.prog w = .ok (.func fn first cap) w := fun _ _ _ _ => rfl
    obtain ⟨base, hbase⟩ : ∃ base, w9.heap.size = base := ⟨_, rfl⟩
    rw [← ew9] at HM6
    obtain ⟨L1, L2, L0, L3, L4, L5, L6, L7⟩ := HL.out
    have h9 := HM6.out
    have H9 := Lib.hid (list176k w0 V w9 g B D G base s 6 dz (i + 1) left d ⟨hg, by omega, by omega, by omega, by omega, by have := h9.size; omega, by have := h9.size; omega, by have := h9.size; omega, by omega, by omega, by omega⟩ ⟨h9.below, h9.keep, by omega, h9.box, h9.dbox, h9.blk, h9.par, World.ownsRow_nil _ _ _ _, by simpa using Reps.none _ _, rfl, rfl⟩ hi1 hs hl HDZ.out IH.out _ rfl)
    have HBS := Lib.hid (show K < base by have := h9.size; omega)
    clear h9 hbase L1 L2 L0 L3 L4 L5 L6 L7
    go_wp2_with fail
    rw [← ew9]
    refine H9.out.mono ?_
    intro ee w10 hp10
    rcases hp10 with ⟨hq, rfl, hb10, hk10⟩ | ⟨ks, l1, r, j2, cs, A, c, hq, hr, hj, rfl, hv10⟩
    ·have hQ : Q = none := by rw [← HQ.out, if_neg (by rw [E0.out]; decide), if_neg (by rw [E1.out]; decide), if_pos E2.out, List.drop_drop, hq]; rfl
     exact ⟨rfl, hb10, HK0.out.trans hk10 (Or.inl rfl), Or.inl ⟨by rw [hQ]; rfl, rfl⟩⟩
    ·have HQ6 := Lib.hid (show Q = some (⟨6, ⟨#[]⟩, ⟨#[]⟩, [], ks⟩, l1, r) by rw [← HQ.out, if_neg (by rw [E0.out]; decide), if_neg (by rw [E1.out]; decide), if_pos E2.out, List.drop_drop, hq]; rfl)
     have HJ2 := Lib.hid (show s.size - r.length = j2 by rw [← hr]; simp; omega)
     have HVV := Lib.hid hv10
     have y0 := (blk_cell hv10.blk 0).trans rfl
     have y1 := (blk_cell hv10.blk 1).trans rfl
     have y2 := (blk_cell hv10.blk 2).trans rfl
     have y3 := (blk_cell hv10.blk 3).trans rfl
     have y4 := (blk_cell hv10.blk 4).trans rfl
     have hKg : K ≠ g := by obtain ⟨L1, L2, L0, L3, L4, L5, L6, L7⟩ := HL.out; omega
     have hK10 := (hv10.keep.2 K (by obtain ⟨L1, L2, L0, L3, L4, L5, L6, L7⟩ := HL.out; omega) hKg (by simp)).trans HKV.out
     have HK10 := Lib.hid hK10
     have x0 := (blk_cell hK10 0).trans rfl
     have x1 := (blk_cell hK10 1).trans rfl
     have x2 := (blk_cell hK10 2).trans rfl
     have x3 := (blk_cell hK10 3).trans rfl
     have x4 := (blk_cell hK10 4).trans rfl
     have xz0 := blk_frozen hK10 0
     have xz1 := blk_frozen hK10 1
     have xz2 := blk_frozen hK10 2
     have xz3 := blk_frozen hK10 3
     have xz4 := blk_frozen hK10 4
     simp only [List.getElem?_toArray, List.getElem?_cons_zero, List.getElem?_cons_succ] at y0 y1 y2 y3 y4 x0 x1 x2 x3 x4
     clear hv10 hK10 hq hr H9 ew9 c50 z50 cB6 HM6 HM5
     go_wp2
     have hv := HVV.out
     obtain ⟨L1, L2, L0, L3, L4, L5, L6, L7⟩ := HL.out
     have hk7 := HK0.out.trans hv.keep (Or.inl rfl)
     obtain ⟨F3, gg3, F4, gg4, ev3, ev4, hMF⟩ := MF.of_rows (m := ⟨6, ⟨#[]⟩, ⟨#[]⟩, [], ks⟩) (lo' := base) (World.ownsRow_nil _ _ _ _) hv.own hv.reps (Nat.le_refl _)
     simp only at ev3 ev4
     cases ev3
     cases ev4
     have hT := nam_tail (m := ⟨6, ⟨#[]⟩, ⟨#[]⟩, [], ks⟩) (W := w10) (w := w) (w0 := w0) (g := g) (K := K) (o := pObj s j2 ((l1 : Nat) : Int)) (by omega) HK10.out hg L2 L0 hv.below hk7 hv.par (hMF.move (fun b hb => ⟨⟨by have := hb.1; have := HBS.out; omega, hb.2⟩, rfl⟩))
     rw [HQ6.out]
     simp only [Option.map_some, HJ2.out]
     exact bodyPost_ret (results_single rfl (.cell K 25 _ (0, 0) _ rfl hT.1 Try.underlying25 rfl (by kernel_rfl) .nil)) rfl hT.2
   | false =>
    have HM7 : Hid (MS w0 V w7 g B D K G s dz i (left : Int) 0) := Lib.hid (HM6.out.moved HL.out hb5 hk5 hp5)
    clear hb5 hk5 hp5 H2 cB2
    have cB3 := HM7.out.cB
    obtain ⟨b3, e3⟩ : ∃ b, nextB 33 (s.data.toList.drop i) = b := ⟨_, rfl⟩
    have H3 := Lib.hid (takes174 w0 w7 g s i (left : Int) ⟨#[33]⟩ b3 hi hs (by decide) ((pref_one s i 33 hi).trans e3) hg HM7.out.below HM7.out.par)
    have E3 := Lib.hid e3
    clear e3
    go_wp2_with fail
    (with_reducible refine H3.out.mono ?_)
    rintro ee w8 ⟨rfl, hb5, hk5, hp5⟩
    cases b3 with
    | true =>
     have HM5 : Hid (MS w0 V w8 g B D K G s dz (i + 1) (left : Int) 0) := Lib.hid (HM7.out.moved HL.out hb5 hk5 hp5)
     have hi1 : i + 1 ≤ s.size := next_lt E3.out
     clear hb5 hk5 hp5 H3 cB3
     have HM6 := Lib.hid (HM5.out.setop HL.out 7)
     have c50 := HM5.out.c0
     have z50 := HM5.out.zG 0
     have cB6 := HM6.out.cB
     obtain ⟨w9, ew9⟩ : ∃ w9, w9 = w8.setCell ⟨G, 0, none⟩ (.int .i64 7) := ⟨_, rfl⟩
     have hmf : ∀ (fn : Fn) (first cap : Array Value) (w : World), (Instr.makeFunc fn first cap).run Try.prog w = .ok (.func fn first cap) w := fun _ _ _ _ => rfl
     obtain ⟨base, hbase⟩ : ∃ base, w9.heap.size = base := ⟨_, rfl⟩
     rw [← ew9] at HM6
     obtain ⟨L1, L2, L0, L3, L4, L5, L6, L7⟩ := HL.out
     have h9 := HM6.out
     have H9 := Lib.hid (list176k w0 V w9 g B D G base s 7 dz (i + 1) left d ⟨hg, by omega, by omega, by omega, by omega, by have := h9.size; omega, by have := h9.size; omega, by have := h9.size; omega, by omega, by omega, by omega⟩ ⟨h9.below, h9.keep, by omega, h9.box, h9.dbox, h9.blk, h9.par, World.ownsRow_nil _ _ _ _, by simpa using Reps.none _ _, rfl, rfl⟩ hi1 hs hl HDZ.out IH.out _ rfl)
     have HBS := Lib.hid (show K < base by have := h9.size; omega)
     clear h9 hbase L1 L2 L0 L3 L4 L5 L6 L7
     go_wp2_with fail
     rw [← ew9]
     refine H9.out.mono ?_
     intro ee w10 hp10
     rcases hp10 with ⟨hq, rfl, hb10, hk10⟩ | ⟨ks, l1, r, j2, cs, A, c, hq, hr, hj, rfl, hv10⟩
     ·have hQ : Q = none := by rw [← HQ.out, if_neg (by rw [E0.out]; decide), if_neg (by rw [E1.out]; decide), if_neg (by rw [E2.out]; decide), if_pos E3.out, List.drop_drop, hq]; rfl
      exact ⟨rfl, hb10, HK0.out.trans hk10 (Or.inl rfl), Or.inl ⟨by rw [hQ]; rfl, rfl⟩⟩
     ·have HQ6 := Lib.hid (show Q = some (⟨7, ⟨#[]⟩, ⟨#[]⟩, [], ks⟩, l1, r) by rw [← HQ.out, if_neg (by rw [E0.out]; decide), if_neg (by rw [E1.out]; decide), if_neg (by rw [E2.out]; decide), if_pos E3.out, List.drop_drop, hq]; rfl)
      have HJ2 := Lib.hid (show s.size - r.length = j2 by rw [← hr]; simp; omega)
      have HVV := Lib.hid hv10
      have y0 := (blk_cell hv10.blk 0).trans rfl
      have y1 := (blk_cell hv10.blk 1).trans rfl
      have y2 := (blk_cell hv10.blk 2).trans rfl
      have y3 := (blk_cell hv10.blk 3).trans rfl
      have y4 := (blk_cell hv10.blk 4).trans rfl
      have hKg : K ≠ g := by obtain ⟨L1, L2, L0, L3, L4, L5, L6, L7⟩ := HL.out; omega
      have hK10 := (hv10.keep.2 K (by obtain ⟨L1, L2, L0, L3, L4, L5, L6, L7⟩ := HL.out; omega) hKg (by simp)).trans HKV.out
      have HK10 := Lib.hid hK10
      have x0 := (blk_cell hK10 0).trans rfl
      have x1 := (blk_cell hK10 1).trans rfl
      have x2 := (blk_cell hK10 2).trans rfl
      have x3 := (blk_cell hK10 3).trans rfl
      have x4 := (blk_cell hK10 4).trans rfl
      have xz0 := blk_frozen hK10 0
      have xz1 := blk_frozen hK10 1
      have xz2 := blk_frozen hK10 2
      have xz3 := blk_frozen hK10 3
      have xz4 := blk_frozen hK10 4
      simp only [List.getElem?_toArray, List.getElem?_cons_zero, List.getElem?_cons_succ] at y0 y1 y2 y3 y4 x0 x1 x2 x3 x4
      clear hv10 hK10 hq hr H9 ew9 c50 z50 cB6 HM6 HM5
      go_wp2
      have hv := HVV.out
      obtain ⟨L1, L2, L0, L3, L4, L5, L6, L7⟩ := HL.out
      have hk7 := HK0.out.trans hv.keep (Or.inl rfl)
      obtain ⟨F3, gg3, F4, gg4, ev3, ev4, hMF⟩ := MF.of_rows (m := ⟨7, ⟨#[]⟩, ⟨#[]⟩, [], ks⟩) (lo' := base) (World.ownsRow_nil _ _ _ _) hv.own hv.reps (Nat.le_refl _)
      simp only at ev3 ev4
      cases ev3
      cases ev4
      have hT := nam_tail (m := ⟨7, ⟨#[]⟩, ⟨#[]⟩, [], ks⟩) (W := w10) (w := w) (w0 := w0) (g := g) (K := K) (o := pObj s j2 ((l1 : Nat) : Int)) (by omega) HK10.out hg L2 L0 hv.below hk7 hv.par (hMF.move (fun b hb => ⟨⟨by have := hb.1; have := HBS.out; omega, hb.2⟩, rfl⟩))
      rw [HQ6.out]
      simp only [Option.map_some, HJ2.out]
      exact bodyPost_ret (results_single rfl (.cell K 25 _ (0, 0) _ rfl hT.1 Try.underlying25 rfl (by kernel_rfl) .nil)) rfl hT.2
    | false =>
     have HM8 : Hid (MS w0 V w8 g B D K G s dz i (left : Int) 0) := Lib.hid (HM7.out.moved HL.out hb5 hk5 hp5)
     clear hb5 hk5 hp5 H3 cB3
     have cB := HM8.out.cB
     have H9 := Lib.hid (named175 w0 w8 g s i (left : Int) hi hs hg HM8.out.below HM8.out.par)
     have hQ : Hid (Q = (namedW (cutM 33) stepP true (s.data.toList.drop i)).map (fun p => (p.1, left, p.2))) := Lib.hid (by rw [← HQ.out, if_neg (by rw [E0.out]; decide), if_neg (by rw [E1.out]; decide), if_neg (by rw [E2.out]; decide), if_neg (by rw [E3.out]; decide)])
     go_wp2_with fail
     refine H9.out.mono ?_
     intro ee w9 hp9
     cases hq : namedW (cutM 33) stepP true (s.data.toList.drop i) with
     | none =>
      rw [hq] at hp9
      obtain ⟨rfl, hB9, hK9⟩ := hp9.none_
      have hQ2 := hQ.out
      rw [hq] at hQ2
      exact ⟨rfl, hB9, HK0.out.trans (HM8.out.keep.trans hK9 (Or.inl rfl)) (Or.inl rfl), Or.inl ⟨by rw [hQ2]; rfl, rfl⟩⟩
     | some q =>
      obtain ⟨m, r⟩ := q
      rw [hq] at hp9
      obtain ⟨A3, c3, A4, c4, rfl, hB9, hK9, hMF9, ho⟩ := hp9.some_
      have HQ6 := Lib.hid (show Q = some (m, left, r) by have h := hQ.out; rw [hq] at h; exact h)
      have hs8 := HM8.out.size
      have hKg : K ≠ g := by obtain ⟨L1, L2, L0, L3, L4, L5, L6, L7⟩ := HL.out; omega
      have hK10 := (hK9.2 K (by obtain ⟨L1, L2, L0, L3, L4, L5, L6, L7⟩ := HL.out; omega) hKg (by simp)).trans HM8.out.res
      have HK10 := Lib.hid hK10
      have x0 := (blk_cell hK10 0).trans rfl
      have x1 := (blk_cell hK10 1).trans rfl
      have x2 := (blk_cell hK10 2).trans rfl
      have x3 := (blk_cell hK10 3).trans rfl
      have x4 := (blk_cell hK10 4).trans rfl
      have xz0 := blk_frozen hK10 0
      have xz1 := blk_frozen hK10 1
      have xz2 := blk_frozen hK10 2
      have xz3 := blk_frozen hK10 3
      have xz4 := blk_frozen hK10 4
      simp only [List.getElem?_toArray, List.getElem?_cons_zero, List.getElem?_cons_succ] at x0 x1 x2 x3 x4
      have HB9 := Lib.hid hB9
      have HK9 := Lib.hid hK9
      have HMF := Lib.hid hMF9
      have HO := Lib.hid ho
      have HS8 := Lib.hid hs8
      clear hB9 hK9 hMF9 ho hK10 hp9 hq H9 cB hs8
      go_wp2
      obtain ⟨L1, L2, L0, L3, L4, L5, L6, L7⟩ := HL.out
      have hT := nam_tail (m := m) (A3 := A3) (c3 := c3) (A4 := A4) (c4 := c4) (W := w9) (w := w) (w0 := w0) (g := g) (K := K) (o := pObj s (s.size - r.length) (left : Int)) (by omega) HK10.out hg L2 L0 HB9.out (HK0.out.trans (HM8.out.keep.trans HK9.out (Or.inl rfl)) (Or.inl rfl)) HO.out (HMF.out.move (fun b hb => ⟨⟨by have := hb.1; have := HS8.out; omega, hb.2⟩, rfl⟩))
      rw [HQ6.out]
      simp only [Option.map_some]
      exact bodyPost_ret (results_single rfl (.cell K 25 _ (0, 0) _ rfl hT.1 Try.underlying25 rfl (by kernel_rfl) .nil)) rfl hT.2
end Go.Proofs.Yteafilojjdfllaa
end
section
namespace Go.Proofs.Yteafilojjdfllaa
open Go Go.RowKit Go.Proofs.YteafilojjdfllaaW.PrintWords Go.Proofs.YteafilojjdfllaaW.PrintLast Go.Proofs.YteafilojjdfllaaW.PrintMore Go.Proofs.Yteafilojjdfllaa.PAll
set_option linter.unusedVariables false
set_option linter.unusedSimpArgs false
set_option maxRecDepth 100000 in
set_option maxHeartbeats 16000000 in
theorem reads138p (cap : Value) (w0 w : World) (g : Nat) (Q : Option (S25 × Obj)) (hB : Below w0.heap.size w0 w) (hg : g < w.heap.size)
  (H : ∀ W, Below w.heap.size w W → Calls Try.prog 143 #[cap] W (RedPost w0 W g Q)) :
  Calls Try.prog 138 #[.func (.func 143) #[] #[cap]] w (ReadsPost w0 w g (Q.filter fun q => chkB q.1)) := by
 have hmf : ∀ (fn : Fn) (first cap : Array Value) (w : World), (Instr.makeFunc fn first cap).run Try.prog w = .ok (.func fn first cap) w := fun _ _ _ _ => rfl
 obtain ⟨V, eV⟩ : ∃ V, V = (w.alloc (.cells Z5 25)).alloc (.cells #[.bool false] 4) := ⟨_, rfl⟩
 have hBV : Below w.heap.size w V := eV ▸ below_alloc (below_alloc (Below.refl _ _) _) _
 have hs : V.heap.size = w.heap.size + 2 := by rw [eV, World.size_alloc, World.size_alloc]
 have k1 : V.heap[w.heap.size]? = some (.cells Z5 25 (0, 0)) := by rw [eV]; exact (Below.heap_alloc _ _ _ (by simp)).trans (blk_new w _)
 have k2 : V.heap[w.heap.size + 1]? = some (.cells #[.bool false] 4 (0, 0)) := by
  have := blk_new (w.alloc (.cells Z5 25)) (.cells #[.bool false] 4)
  rw [World.size_alloc] at this
  rw [eV]; exact this
 have HV := Lib.hid (H V hBV)
 have HB := Lib.hid (below_step hB hBV)
 have HBV := Lib.hid hBV
 clear H
 have hw0 := hB.size
 cases Q with
 | none =>
  go_enter_defers Try.func138, Try.ntmps138
  go_wp2_with fail
  rw [← eV]
  refine HV.out.mono ?_
  rintro e w5 ⟨hB5, hK5, hres⟩
  obtain rfl : e = .panicked badP := by
   rcases hres with ⟨-, h⟩ | ⟨m, o, A3, c3, A4, c4, h, -⟩
   ·exact h
   ·cases h
  have b1 := (hK5.2 w.heap.size (by omega) (by omega) (by simp)).trans k1
  have b2 := (hK5.2 (w.heap.size + 1) (by omega) (by omega) (by simp)).trans k2
  refine leaves_cons (f := 171) (args := #[.pointer (some ⟨w.heap.size, 0, none⟩), .pointer (some ⟨w.heap.size + 1, 0, none⟩)]) (by simp) (by simp [go_sem]) ?_
  refine (catch171 w0 w.heap.size (w.heap.size + 1) _ _ _ _ _ _ [] w5 hB5 hw0 (by omega) b1 b2 (by omega)).mono ?_
  rintro e u' w'' ⟨rfl, rfl, hB6, d1, d2, hs6, hk6⟩
  have y0 := blk_cell d1 0
  have y1 := blk_cell d1 1
  have y2 := blk_cell d1 2
  have y3 := blk_cell d1 3
  have y4 := blk_cell d1 4
  have x0 := blk_cell d2 0
  simp only [List.getElem?_toArray, List.getElem?_cons_zero, List.getElem?_cons_succ] at y0 y1 y2 y3 y4 x0
  simp [Leaves, settle, results, Try.results138, go_sem, y0, y1, y2, y3, y4, x0]
  exact ⟨hB6, keep_two HBV.out (Nat.le_refl _) (by omega) hK5 hs6 hk6, Or.inl ⟨rfl, rfl⟩⟩
 | some q =>
  obtain ⟨m, o⟩ := q
  go_enter_defers Try.func138, Try.ntmps138
  go_wp2_with fail
  rw [← eV]
  refine HV.out.mono ?_
  rintro e w5 ⟨hB5, hK5, hres⟩
  obtain ⟨A3, c3, A4, c4, rfl, hF, ho⟩ : ∃ A3 c3 A4 c4, e = .returned (mV m A3 c3 A4 c4) ∧ MF w5 (fun b => V.heap.size ≤ b ∧ b < w5.heap.size) m A3 c3 A4 c4 ∧ w5.heap[g]? = some o := by
   rcases hres with ⟨h, -⟩ | ⟨m', o', A3, c3, A4, c4, h, he, hF, ho⟩
   ·cases h
   ·simp only [Option.some.injEq, Prod.mk.injEq] at h
    obtain ⟨rfl, rfl⟩ := h
    exact ⟨A3, c3, A4, c4, he, hF, ho⟩
  have b1 := (hK5.2 w.heap.size (by omega) (by omega) (by simp)).trans k1
  have b2 := (hK5.2 (w.heap.size + 1) (by omega) (by omega) (by simp)).trans k2
  obtain ⟨g1, eg1⟩ : ∃ g1, w.heap.size = g1 := ⟨_, rfl⟩
  rw [eg1] at b1 b2 ⊢
  obtain ⟨g2, eg2⟩ : ∃ g2, g1 + 1 = g2 := ⟨_, rfl⟩
  rw [eg2] at b2 ⊢
  have hne : g1 ≠ g2 := by omega
  have y0 := blk_cell b1 0
  have y1 := blk_cell b1 1
  have y2 := blk_cell b1 2
  have y3 := blk_cell b1 3
  have y4 := blk_cell b1 4
  have z0 := blk_frozen b1 0
  have z1 := blk_frozen b1 1
  have z2 := blk_frozen b1 2
  have z3 := blk_frozen b1 3
  have z4 := blk_frozen b1 4
  simp only [List.getElem?_toArray, List.getElem?_cons_zero, List.getElem?_cons_succ] at y0 y1 y2 y3 y4
  obtain ⟨w6, e6⟩ : ∃ w6, w6 = ((((w5.setCell ⟨g1, 0, none⟩ (.int .i64 m.f0)).setCell ⟨g1, 1, none⟩ (.string m.f1)).setCell ⟨g1, 2, none⟩ (.string m.f2)).setCell ⟨g1, 3, none⟩ (.slice A3 m.f3.length c3)).setCell ⟨g1, 4, none⟩ (.slice A4 m.f4.length c4) := ⟨_, rfl⟩
  have HE := Lib.hid e6
  have HF := Lib.hid hF
  have HO := Lib.hid ho
  have HB5 := Lib.hid hB5
  have HK5 := Lib.hid hK5
  have HG := Lib.hid (show V.heap.size = g1 + 2 by omega)
  have HS := Lib.hid (show g < g1 by omega)
  have HW := Lib.hid (show w0.heap.size ≤ g1 by omega)
  have B1 := Lib.hid b1
  have B2 := Lib.hid b2
  have HBV1 := Lib.hid (show Below w.heap.size w V from HBV.out)
  have EG1 := Lib.hid eg1
  have EG2 := Lib.hid eg2
  clear e6 hF ho hB5 hK5 hs hg hw0 b1 b2 hres k1 k2 eg1 eg2 hBV hB eV HV HB HBV
  have D1 := Lib.hid (show w6.heap[g1]? = some (.cells #[.int .i64 m.f0, .string m.f1, .string m.f2, .slice A3 m.f3.length c3, .slice A4 m.f4.length c4] 25 (0, 0)) from by
   rw [HE.out]; exact (blk_set (blk_set (blk_set (blk_set (blk_set B1.out 0 _) 1 _) 2 _) 3 _) 4 _).trans (by rfl))
  have HOLD := Lib.hid (show ∀ i, i ≠ g1 → w6.heap[i]? = w5.heap[i]? from by
   intro i h1
   rw [HE.out]
   exact (Below.heap_setCell _ _ _ _ h1).trans ((Below.heap_setCell _ _ _ _ h1).trans ((Below.heap_setCell _ _ _ _ h1).trans ((Below.heap_setCell _ _ _ _ h1).trans (Below.heap_setCell _ _ _ _ h1)))))
  have D2 := Lib.hid ((HOLD.out g2 hne.symm).trans B2.out)
  have HM6 := Lib.hid (show MC w6 m A3 c3 A4 c4 from HF.out w6 (fun b hb => HOLD.out b (by have := HG.out; omega)))
  have HB6 := Lib.hid (show Below w0.heap.size w0 w6 from by rw [HE.out]; exact ((((HB5.out.setCell HW.out _).setCell HW.out _).setCell HW.out _).setCell HW.out _).setCell HW.out _)
  have hs6 : w6.heap.size = w5.heap.size := by rw [HE.out]; simp
  have hg1l := blk_lt D1.out
  have hg2l := blk_lt D2.out
  have hg2e : g1 < g2 := by have := EG2.out; omega
  have hggl : g < g1 := HS.out
  cases hv : chkB m with
  | false =>
   have HVV := Lib.hid hv
   clear hv
   go_wp2_with fail
   rw [← HE.out]
   (with_reducible refine (check53v w6 m A3 c3 A4 c4 false HVV.out HM6.out).mono ?_)
   rintro e w7 ⟨rfl, hb7⟩
   have c1 := (hb7.block g1 (by omega)).trans D1.out
   have c2 := (hb7.block g2 (by omega)).trans D2.out
   have y0 := blk_cell c1 0
   have y1 := blk_cell c1 1
   have y2 := blk_cell c1 2
   have y3 := blk_cell c1 3
   have y4 := blk_cell c1 4
   have z0 := blk_frozen c1 0
   have z1 := blk_frozen c1 1
   have z2 := blk_frozen c1 2
   have z3 := blk_frozen c1 3
   have z4 := blk_frozen c1 4
   have x0 := blk_cell c2 0
   have v0 := blk_frozen c2 0
   have C1 := Lib.hid c1
   have C2 := Lib.hid c2
   have HB7 := Lib.hid hb7
   simp only [List.getElem?_toArray, List.getElem?_cons_zero, List.getElem?_cons_succ] at y0 y1 y2 y3 y4 x0
   clear c1 c2 hb7
   go_wp2
   refine leaves_cons (f := 171) (args := #[.pointer (some ⟨g1, 0, none⟩), .pointer (some ⟨g2, 0, none⟩)]) (by simp) (by simp [go_sem]) ?_
   refine (idle171 _ _ _).mono ?_
   rintro e u' w8 ⟨rfl, rfl, e8⟩
   clear y0 y1 y2 y3 y4 z0 z1 z2 z3 z4 x0 v0
   have hne2 := hne.symm
   have d1 : w8.heap[g1]? = some (.cells Z5 25 (0, 0)) := by
    rw [e8]
    exact (Below.heap_setCell _ _ _ _ hne).trans ((blk_set (blk_set (blk_set (blk_set (blk_set C1.out 0 _) 1 _) 2 _) 3 _) 4 _).trans (by rfl))
   have d2 : w8.heap[g2]? = some (.cells #[.bool false] 4 (0, 0)) := by
    rw [e8]
    refine (blk_set (cs := #[.bool false]) ?_ 0 _).trans (by rfl)
    exact (Below.heap_setCell _ _ _ _ hne2).trans ((Below.heap_setCell _ _ _ _ hne2).trans ((Below.heap_setCell _ _ _ _ hne2).trans ((Below.heap_setCell _ _ _ _ hne2).trans ((Below.heap_setCell _ _ _ _ hne2).trans C2.out))))
   have hs8 : w5.heap.size ≤ w8.heap.size := by
    have := HB7.out.size
    rw [e8]; simp; omega
   have hk8 : ∀ i, i < w5.heap.size → i ≠ g1 → i ≠ g2 → w8.heap[i]? = w5.heap[i]? := by
    intro i hi h1 h2
    rw [e8]
    exact (Below.heap_setCell _ _ _ _ h2).trans ((Below.heap_setCell _ _ _ _ h1).trans ((Below.heap_setCell _ _ _ _ h1).trans ((Below.heap_setCell _ _ _ _ h1).trans ((Below.heap_setCell _ _ _ _ h1).trans ((Below.heap_setCell _ _ _ _ h1).trans ((HB7.out.block i (by omega)).trans (HOLD.out i h1)))))))
   have hB8 : Below w0.heap.size w0 w8 := by
    rw [e8]
    exact ((((((below_step HB6.out HB7.out).setCell HW.out _).setCell HW.out _).setCell HW.out _).setCell HW.out _).setCell HW.out _).setCell (Nat.le_trans HW.out (Nat.le_of_lt hg2e)) _
   clear e8
   have y0 := blk_cell d1 0
   have y1 := blk_cell d1 1
   have y2 := blk_cell d1 2
   have y3 := blk_cell d1 3
   have y4 := blk_cell d1 4
   have x0 := blk_cell d2 0
   simp only [List.getElem?_toArray, List.getElem?_cons_zero, List.getElem?_cons_succ] at y0 y1 y2 y3 y4 x0
   simp [Leaves, settle, results, Try.results138, go_sem, y0, y1, y2, y3, y4, x0]
   refine ⟨hB8, keep_two HBV1.out (by have := EG1.out; omega) (by have := EG1.out; omega) HK5.out hs8 hk8, Or.inl ⟨by simp [HVV.out], rfl⟩⟩
  | true =>
   have HVV := Lib.hid hv
   clear hv
   go_wp2_with fail
   rw [← HE.out]
   (with_reducible refine (check53v w6 m A3 c3 A4 c4 true HVV.out HM6.out).mono ?_)
   rintro e w7 ⟨rfl, hb7⟩
   have c1 := (hb7.block g1 (by omega)).trans D1.out
   have c2 := (hb7.block g2 (by omega)).trans D2.out
   have y0 := blk_cell c1 0
   have y1 := blk_cell c1 1
   have y2 := blk_cell c1 2
   have y3 := blk_cell c1 3
   have y4 := blk_cell c1 4
   have z0 := blk_frozen c1 0
   have z1 := blk_frozen c1 1
   have z2 := blk_frozen c1 2
   have z3 := blk_frozen c1 3
   have z4 := blk_frozen c1 4
   have x0 := blk_cell c2 0
   have v0 := blk_frozen c2 0
   have C1 := Lib.hid c1
   have C2 := Lib.hid c2
   have HB7 := Lib.hid hb7
   simp only [List.getElem?_toArray, List.getElem?_cons_zero, List.getElem?_cons_succ] at y0 y1 y2 y3 y4 x0
   clear c1 c2 hb7
   go_wp2
   refine leaves_cons (f := 171) (args := #[.pointer (some ⟨g1, 0, none⟩), .pointer (some ⟨g2, 0, none⟩)]) (by simp) (by simp [go_sem]) ?_
   refine (idle171 _ _ _).mono ?_
   rintro e u' w8 ⟨rfl, rfl, e8⟩
   clear y0 y1 y2 y3 y4 z0 z1 z2 z3 z4 x0 v0
   have hne2 := hne.symm
   have d1 : w8.heap[g1]? = some (.cells #[.int .i64 m.f0, .string m.f1, .string m.f2, .slice A3 m.f3.length c3, .slice A4 m.f4.length c4] 25 (0, 0)) := by
    rw [e8]
    exact (Below.heap_setCell _ _ _ _ hne).trans ((blk_set (blk_set (blk_set (blk_set (blk_set C1.out 0 _) 1 _) 2 _) 3 _) 4 _).trans (by rfl))
   have d2 : w8.heap[g2]? = some (.cells #[.bool true] 4 (0, 0)) := by
    rw [e8]
    refine (blk_set (cs := #[.bool false]) ?_ 0 _).trans (by rfl)
    exact (Below.heap_setCell _ _ _ _ hne2).trans ((Below.heap_setCell _ _ _ _ hne2).trans ((Below.heap_setCell _ _ _ _ hne2).trans ((Below.heap_setCell _ _ _ _ hne2).trans ((Below.heap_setCell _ _ _ _ hne2).trans C2.out))))
   have hs8 : w5.heap.size ≤ w8.heap.size := by
    have := HB7.out.size
    rw [e8]; simp; omega
   have hk8 : ∀ i, i < w5.heap.size → i ≠ g1 → i ≠ g2 → w8.heap[i]? = w5.heap[i]? := by
    intro i hi h1 h2
    rw [e8]
    exact (Below.heap_setCell _ _ _ _ h2).trans ((Below.heap_setCell _ _ _ _ h1).trans ((Below.heap_setCell _ _ _ _ h1).trans ((Below.heap_setCell _ _ _ _ h1).trans ((Below.heap_setCell _ _ _ _ h1).trans ((Below.heap_setCell _ _ _ _ h1).trans ((HB7.out.block i (by omega)).trans (HOLD.out i h1)))))))
   have hB8 : Below w0.heap.size w0 w8 := by
    rw [e8]
    exact ((((((below_step HB6.out HB7.out).setCell HW.out _).setCell HW.out _).setCell HW.out _).setCell HW.out _).setCell HW.out _).setCell (Nat.le_trans HW.out (Nat.le_of_lt hg2e)) _
   clear e8
   have y0 := blk_cell d1 0
   have y1 := blk_cell d1 1
   have y2 := blk_cell d1 2
   have y3 := blk_cell d1 3
   have y4 := blk_cell d1 4
   have x0 := blk_cell d2 0
   simp only [List.getElem?_toArray, List.getElem?_cons_zero, List.getElem?_cons_succ] at y0 y1 y2 y3 y4 x0
   simp [Leaves, settle, results, Try.results138, go_sem, y0, y1, y2, y3, y4, x0]
   refine ⟨hB8, keep_two HBV1.out (by have := EG1.out; omega) (by have := EG1.out; omega) HK5.out hs8 hk8, Or.inr ⟨m, o, A3, c3, A4, c4, by simp [HVV.out], rfl, ?_, ?_⟩⟩
   ·have hg := HG.out
    refine HF.out.move (fun b hb => ?_)
    obtain ⟨hb1, hb2⟩ := hb
    have := EG1.out
    have := EG2.out
    exact ⟨⟨by omega, by omega⟩, hk8 b hb2 (by omega) (by omega)⟩
   ·exact (hk8 g (by omega) (by omega) (by omega)).trans HO.out
theorem readM_zero (cut : List UInt8 → Nat) (step : List UInt8 → Step) (emp : Bool) (left : Nat) (r : List UInt8) : readM cut step emp 0 left r = none := by rw [readM.eq_def]
theorem readM_left0 (cut : List UInt8 → Nat) (step : List UInt8 → Step) (emp : Bool) (d : Nat) (r : List UInt8) : readM cut step emp d 0 r = none := by cases d <;> rw [readM.eq_def]
theorem matcher144 (w0 : World) (g : Nat) (s : ByteArray) (hs : s.size ≤ 1000000000) (hg : w0.heap.size ≤ g) : ∀ (d : Nat) (dz : Int), d ≤ 8 → dz = 9 - (d : Int) → IHp w0 g s d dz := by
 intro d
 induction d with
 | zero =>
  intro dz _ hdz w i left hl hi hB hP
  rw [readM_zero]
  cases left with
  | zero => exact mat144a w0 w g s i 0 dz hg hB hP
  | succ left => exact mat144b w0 w g s i left (by omega) dz (by omega) hg hB hP
 | succ d ih =>
  intro dz hd hdz w i left hl hi hB hP
  cases left with
  | zero =>
   rw [readM_left0]
   exact mat144a w0 w g s i (d + 1) dz hg hB hP
  | succ left => exact mat144c w0 w g s i left d (by omega) (by omega) dz (by omega) hi hs hg hB hP (ih (dz + 1) (by omega) (by omega))
/-- what the parser's closure makes of a text -/
def parseQ (s : ByteArray) : Option (S25 × Obj) := (readM (cutM 33) stepP true 8 64 s.data.toList).map fun q => (q.1, pObj s (s.size - q.2.2.length) (q.2.1 : Nat))
set_option maxRecDepth 100000 in
set_option maxHeartbeats 16000000 in
/-- the closure that parses. -/
theorem parse143 (w0 w : World) (g gp : Nat) (s : ByteArray) (hs : s.size ≤ 1000000000) (hg : w0.heap.size ≤ g) (hB : Below w0.heap.size w0 w) (hS : PB w g s 0 64) (hP : w.heap[gp]? = some (.cells #[.pointer (some ⟨g, 0, none⟩)] 170 (0, 0))) :
  Calls Try.prog 143 #[.pointer (some ⟨gp, 0, none⟩)] w (RedPost w0 w g (parseQ s)) := by
 obtain ⟨Q, eQ⟩ : ∃ Q, parseQ s = Q := ⟨_, rfl⟩
 have hM := matcher144 w0 g s hs hg 8 1 (by decide) (by decide) (w.alloc (.cells Z5 25)) 0 64 (by decide) (Nat.zero_le _) (below_alloc hB _) ((Below.heap_alloc _ _ _ hS.lt).trans hS)
 rw [List.drop_zero] at hM
 have hM' : Calls Try.prog 144 #[.pointer (some ⟨g, 0, none⟩), .int .i64 1] (w.alloc (.cells Z5 25)) (RedPost w0 (w.alloc (.cells Z5 25)) g (parseQ s)) := hM
 clear hM
 rw [eQ] at hM' ⊢
 have p0 := blk_cell ((Below.heap_alloc w (.cells Z5 25) _ (blk_lt hP)).trans hP) 0
 simp only [List.getElem?_toArray, List.getElem?_cons_zero, List.getElem?_cons_succ] at p0
 obtain ⟨V, eV⟩ : ∃ V, V = w.alloc (.cells Z5 25) := ⟨_, rfl⟩
 rw [← eV] at hM'
 obtain ⟨K, eK⟩ : ∃ K, w.heap.size = K := ⟨_, rfl⟩
 have hV4 : V.heap[K]? = some (.cells Z5 25 (0, 0)) := by rw [eV, ← eK]; exact blk_new w _
 have hKV : KeepBut w V g none := by rw [eV]; exact KeepBut.of_below (below_alloc (Below.refl w.heap.size w) _) g none
 have hVs : V.heap.size = K + 1 := by rw [eV, World.size_alloc, eK]
 have H1 := Lib.hid hM'
 have HK := Lib.hid hKV
 have HV4 := Lib.hid hV4
 have HG := Lib.hid hS.lt
 have HW := Lib.hid hB.size
 have EK := Lib.hid eK.symm
 have HVS := Lib.hid hVs
 clear hM' hB hS hP hKV hV4 eQ hVs
 go_enter Try.func143, Try.ntmps143
 go_wp2_with fail
 rw [← eV]
 refine H1.out.mono ?_
 intro e w5 hp
 cases Q with
 | none =>
  obtain ⟨rfl, hB5, hK5⟩ := hp.none_
  exact ⟨rfl, hB5, HK.out.trans hK5 (Or.inl rfl), Or.inl ⟨rfl, rfl⟩⟩
 | some q =>
  obtain ⟨m, o⟩ := q
  obtain ⟨A3, c3, A4, c4, rfl, hB5, hK5, hMF, ho⟩ := hp.some_
  have k4 := (hK5.2 K (blk_lt HV4.out) (by have := HG.out; have := EK.out; omega) (by simp)).trans HV4.out
  have HB5 := Lib.hid hB5
  have HK5 := Lib.hid (HK.out.trans hK5 (Or.inl rfl))
  have HMF := Lib.hid hMF
  have HO := Lib.hid ho
  have K4 := Lib.hid k4
  have y0 := blk_cell k4 0
  have y1 := blk_cell k4 1
  have y2 := blk_cell k4 2
  have y3 := blk_cell k4 3
  have y4 := blk_cell k4 4
  have z0 := blk_frozen k4 0
  have z1 := blk_frozen k4 1
  have z2 := blk_frozen k4 2
  have z3 := blk_frozen k4 3
  have z4 := blk_frozen k4 4
  simp only [List.getElem?_toArray, List.getElem?_cons_zero, List.getElem?_cons_succ] at y0 y1 y2 y3 y4
  clear hB5 hK5 hMF ho k4 hp eV
  go_wp2
  have hT := red_tail (W := w5) (w := w) (o := o) (m := m) EK.out K4.out hg HG.out HW.out HB5.out HK5.out HO.out (HMF.out.move (fun b hb => ⟨⟨by have := hb.1; have := HVS.out; omega, hb.2⟩, rfl⟩))
  exact bodyPost_ret (results_single rfl (.cell K 25 _ (0, 0) _ rfl hT.1 Try.underlying25 rfl (by kernel_rfl) .nil)) rfl hT.2
/-- what Parse makes of a text that is not nested too deep -/
def parseM (s : ByteArray) : Option S25 := match readM (cutM 33) stepP true 8 64 s.data.toList with
 | none => none
 | some q => if chkB q.1 = true ∧ tB q.1 = s then some q.1 else none
theorem parse_cases (s : ByteArray) : ((parseQ s).filter (fun q => chkB q.1) = none ∧ parseM s = none) ∨ (∃ m o, (parseQ s).filter (fun q => chkB q.1) = some (m, o) ∧ chkB m = true ∧ tB m ≠ s ∧ parseM s = none) ∨ ∃ m o, (parseQ s).filter (fun q => chkB q.1) = some (m, o) ∧ chkB m = true ∧ tB m = s ∧ parseM s = some m := by
 unfold parseQ parseM
 cases h : readM (cutM 33) stepP true 8 64 s.data.toList with
 | none => exact Or.inl ⟨rfl, rfl⟩
 | some q =>
  cases hc : chkB q.1 with
  | false => exact Or.inl ⟨by simp [Option.filter, hc], by simp [hc]⟩
  | true =>
   by_cases ht : tB q.1 = s
   ·exact Or.inr (Or.inr ⟨q.1, pObj s (s.size - q.2.2.length) (q.2.1 : Nat), by simp only [Option.map_some, Option.filter, hc, if_true], hc, ht, by simp [hc, ht]⟩)
   ·exact Or.inr (Or.inl ⟨q.1, pObj s (s.size - q.2.2.length) (q.2.1 : Nat), by simp only [Option.map_some, Option.filter, hc, if_true], hc, ht, by simp [ht]⟩)
/-- how Parse ends -/
def ParP (w : World) (dp : Bool) (Q : Option S25) (e : Ending) (w' : World) : Prop :=
 Below w.heap.size w w' ∧ ((dp = true ∧ e = .returned (.tuple #[.agg Z5, .int .i64 18])) ∨ (dp = false ∧ Q = none ∧ e = .returned (.tuple #[.agg Z5, .int .i64 17])) ∨ ∃ m A3 c3 A4 c4, dp = false ∧ Q = some m ∧ e = .returned (.tuple #[mV m A3 c3 A4 c4, .int .i64 0]) ∧ MF w' (fun b => w.heap.size ≤ b ∧ b < w'.heap.size) m A3 c3 A4 c4)
theorem text_of {m : S25} {A3 : Option Addr} {c3 : Nat} {A4 : Option Addr} {c4 : Nat} (w : World) (hc : chkB m = true) (hM : MC w m A3 c3 A4 c4) (t : ByteArray) (ht : tB m = t) :
  Calls Try.prog 110 #[.agg #[.int .i64 m.f0, .string m.f1, .string m.f2, .slice A3 m.f3.length c3, .slice A4 m.f4.length c4]] w fun e w' => e = .returned (.string t) ∧ Below w.heap.size w w' := by
 obtain ⟨h1, h2, h3, h4⟩ := chk_def.1 hc
 rw [← ht]
 exact text110 _ m (Nat.le_refl _) h1 (by omega) (by omega) A3 c3 A4 c4 w hM
/-- the result is laid -/
theorem par_tail {w W : World} {K : Nat} (a0 a1 a2 a3 a4 : Value) (hK : w.heap.size ≤ K) (hb : W.heap[K]? = some (.cells Z5 25 (0, 0))) (hB : Below w.heap.size w W) :
  (((((W.setCell ⟨K, 0, none⟩ a0).setCell ⟨K, 1, none⟩ a1).setCell ⟨K, 2, none⟩ a2).setCell ⟨K, 3, none⟩ a3).setCell ⟨K, 4, none⟩ a4).heap[K]? = some (.cells #[a0, a1, a2, a3, a4] 25 (0, 0)) ∧
  Below w.heap.size w (((((W.setCell ⟨K, 0, none⟩ a0).setCell ⟨K, 1, none⟩ a1).setCell ⟨K, 2, none⟩ a2).setCell ⟨K, 3, none⟩ a3).setCell ⟨K, 4, none⟩ a4) :=
 ⟨(blk_set (blk_set (blk_set (blk_set (blk_set hb 0 _) 1 _) 2 _) 3 _) 4 _).trans (by rfl), ((((hB.setCell hK _).setCell hK _).setCell hK _).setCell hK _).setCell hK _⟩
set_option maxRecDepth 100000 in
set_option maxHeartbeats 16000000 in
/-- match.Parse. -/
theorem parse92 (w : World) (s : ByteArray) (hs : s.size ≤ 1000000000) : Calls Try.prog 92 #[.string s] w (ParP w (deepW 0 false s.data.toList) (parseM s)) := by
 obtain ⟨dp, edp⟩ : ∃ dp, deepW 0 false s.data.toList = dp := ⟨_, rfl⟩
 have hD := deep142 (w.alloc (.cells Z5 25)) s hs
 rw [edp] at hD ⊢
 clear edp
 have HD := Lib.hid hD
 clear hD
 cases dp with
 | true =>
  go_enter Try.func92, Try.ntmps92
  go_wp2_with fail
  refine HD.out.mono ?_
  rintro e w1 ⟨rfl, hw1⟩
  obtain ⟨R0, e0⟩ : ∃ R0, w.heap.size = R0 := ⟨_, rfl⟩
  have K0 : Hid (w1.heap[R0]? = some (.cells Z5 25 (0, 0))) := Lib.hid (by rw [hw1, ← e0]; exact blk_new w _)
  have HB1 : Hid (Below w.heap.size w w1) := Lib.hid (by rw [hw1]; exact below_alloc (Below.refl _ _) _)
  have HR0 := Lib.hid e0
  rw [e0]
  have y0 := blk_cell K0.out 0
  have z0 := blk_frozen K0.out 0
  have y1 := blk_cell K0.out 1
  have z1 := blk_frozen K0.out 1
  have y2 := blk_cell K0.out 2
  have z2 := blk_frozen K0.out 2
  have y3 := blk_cell K0.out 3
  have z3 := blk_frozen K0.out 3
  have y4 := blk_cell K0.out 4
  have z4 := blk_frozen K0.out 4
  simp only [List.getElem?_toArray, List.getElem?_cons_zero, List.getElem?_cons_succ] at y0 y1 y2 y3 y4
  clear hw1 e0
  go_wp2
  obtain ⟨t2, t3⟩ := par_tail (.int .i64 0) (.string ⟨#[]⟩) (.string ⟨#[]⟩) (.slice none 0 0) (.slice none 0 0) (Nat.le_of_eq HR0.out) K0.out HB1.out
  exact bodyPost_ret (results_list (vs := [.agg Z5, .int .i64 18]) rfl (by decide) (.cell R0 25 _ (0, 0) _ rfl t2 Try.underlying25 rfl (by kernel_rfl) (.tmp .nil))) rfl ⟨t3, Or.inl ⟨rfl, rfl⟩⟩
 | false =>
  obtain ⟨V, eV⟩ : ∃ V, V = ((w.alloc (.cells Z5 25)).alloc (.cells #[.string s, .int .i64 0, .int .i64 64] 172)).alloc (.cells #[.pointer (some ⟨w.heap.size + 1, 0, none⟩)] 170) := ⟨_, rfl⟩
  have hs1 : V.heap.size = w.heap.size + 3 := by rw [eV]; simp
  have hBV : Below w.heap.size w V := by rw [eV]; exact below_alloc (below_alloc (below_alloc (Below.refl _ _) _) _) _
  have k0 : V.heap[w.heap.size]? = some (.cells Z5 25 (0, 0)) := by rw [eV]; exact (Below.heap_alloc _ _ _ (by simp; omega)).trans ((Below.heap_alloc _ _ _ (by simp)).trans (blk_new w _))
  have k1 : PB V (w.heap.size + 1) s 0 64 := by
   have := blk_new (w.alloc (.cells Z5 25)) (.cells #[.string s, .int .i64 0, .int .i64 64] 172)
   rw [World.size_alloc] at this
   rw [eV]; exact (Below.heap_alloc _ _ _ (by simp)).trans this
  have k2 : V.heap[w.heap.size + 2]? = some (.cells #[.pointer (some ⟨w.heap.size + 1, 0, none⟩)] 170 (0, 0)) := by
   have := blk_new ((w.alloc (.cells Z5 25)).alloc (.cells #[.string s, .int .i64 0, .int .i64 64] 172)) (.cells #[.pointer (some ⟨w.heap.size + 1, 0, none⟩)] 170)
   rw [World.size_alloc, World.size_alloc] at this
   rw [eV]; exact this
  have hR := reads138p (.pointer (some ⟨w.heap.size + 2, 0, none⟩)) w V (w.heap.size + 1) (parseQ s) hBV (by omega) (fun W hW => parse143 w W (w.heap.size + 1) (w.heap.size + 2) s hs (by omega) (below_step hBV hW) ((hW.block _ (by omega)).trans k1) ((hW.block _ (by omega)).trans k2))
  have hQ := parse_cases s
  obtain ⟨Q, eQ⟩ : ∃ Q, (parseQ s).filter (fun q => chkB q.1) = Q := ⟨_, rfl⟩
  rw [eQ] at hR hQ
  obtain ⟨M, eM⟩ : ∃ M, parseM s = M := ⟨_, rfl⟩
  rw [eM] at hQ ⊢
  have hmf : ∀ (fn : Fn) (first cap : Array Value) (w : World), (Instr.makeFunc fn first cap).run Try.prog w = .ok (.func fn first cap) w := fun _ _ _ _ => rfl
  obtain ⟨R0, e0⟩ : ∃ R0, w.heap.size = R0 := ⟨_, rfl⟩
  obtain ⟨R1, e1⟩ : ∃ R1, R0 + 1 = R1 := ⟨_, rfl⟩
  obtain ⟨R2, e2⟩ : ∃ R2, R1 + 1 = R2 := ⟨_, rfl⟩
  have e2' : w.heap.size + 2 = R2 := by omega
  have e1' : w.heap.size + 1 = R1 := by omega
  rw [e1'] at k1 k2 eV
  rw [e2'] at k2
  rw [e2'] at hR
  rw [e0] at k0
  have H1 := Lib.hid hR
  have HQ := Lib.hid hQ
  have HBV := Lib.hid hBV
  have HS := Lib.hid (show V.heap.size = R0 + 3 by omega)
  have K0 := Lib.hid k0
  have HR0 := Lib.hid e0
  clear hR hQ hBV hs1 k0 k1 k2 eQ eM e1' e2'
  go_enter Try.func92, Try.ntmps92
  go_wp2_with fail
  refine HD.out.mono ?_
  rintro e wd ⟨rfl, rfl⟩
  go_wp2_with fail
  rw [← eV]
  refine H1.out.mono ?_
  rintro e w5 ⟨hB5, hK5, hres⟩
  have hs5 := hK5.1
  have hVs := HS.out
  have k0 := (hK5.2 R0 (by omega) (by omega) (by simp)).trans K0.out
  have HB5 := Lib.hid hB5
  have HL := Lib.hid (show R0 < w5.heap.size by omega)
  rcases hres with ⟨rfl, rfl⟩ | ⟨m, o, A3, c3, A4, c4, rfl, rfl, hMF, ho⟩
  ·obtain rfl : M = none := by
    rcases HQ.out with ⟨-, h⟩ | ⟨m, o, h, -⟩ | ⟨m, o, h, -⟩
    ·exact h
    ·cases h
    ·cases h
   have k0' : (w5.alloc (.cells Z5 25)).heap[R0]? = some (.cells Z5 25 (0, 0)) := (Below.heap_alloc _ _ _ HL.out).trans k0
   have K0' := Lib.hid k0'
   have y0 := blk_cell k0' 0
   have z0 := blk_frozen k0' 0
   have y1 := blk_cell k0' 1
   have z1 := blk_frozen k0' 1
   have y2 := blk_cell k0' 2
   have z2 := blk_frozen k0' 2
   have y3 := blk_cell k0' 3
   have z3 := blk_frozen k0' 3
   have y4 := blk_cell k0' 4
   have z4 := blk_frozen k0' 4
   simp only [List.getElem?_toArray, List.getElem?_cons_zero, List.getElem?_cons_succ] at y0 y1 y2 y3 y4
   clear k0 k0' hB5 hK5 hs5 eV hVs e0 e1 e2
   go_wp2
   obtain ⟨t2, t3⟩ := par_tail (.int .i64 0) (.string ⟨#[]⟩) (.string ⟨#[]⟩) (.slice none 0 0) (.slice none 0 0) (Nat.le_of_eq HR0.out) K0'.out (below_alloc HB5.out (.cells Z5 25))
   exact bodyPost_ret (results_list (vs := [.agg Z5, .int .i64 17]) rfl (by decide) (.cell R0 25 _ (0, 0) _ rfl t2 Try.underlying25 rfl (by kernel_rfl) (.tmp .nil))) rfl ⟨t3, Or.inr (Or.inl ⟨rfl, rfl, rfl⟩)⟩
  ·have hQQ : chkB m = true ∧ ((tB m ≠ s ∧ M = none) ∨ (tB m = s ∧ M = some m)) := by
    rcases HQ.out with ⟨h, -⟩ | ⟨m', o', h, h1, h2, h3⟩ | ⟨m', o', h, h1, h2, h3⟩
    ·cases h
    ·simp only [Option.some.injEq, Prod.mk.injEq] at h
     obtain ⟨rfl, rfl⟩ := h
     exact ⟨h1, Or.inl ⟨h2, h3⟩⟩
    ·simp only [Option.some.injEq, Prod.mk.injEq] at h
     obtain ⟨rfl, rfl⟩ := h
     exact ⟨h1, Or.inr ⟨h2, h3⟩⟩
   obtain ⟨t, et⟩ : ∃ t, tB m = t := ⟨_, rfl⟩
   obtain ⟨w6, e6⟩ : ∃ w6, w6 = w5.alloc (.cells #[.int .i64 m.f0, .string m.f1, .string m.f2, .slice A3 m.f3.length c3, .slice A4 m.f4.length c4] 25) := ⟨_, rfl⟩
   have hB6 : Below w5.heap.size w5 w6 := by rw [e6]; exact below_alloc (Below.refl _ _) _
   have k6 := (hB6.block R0 HL.out).trans k0
   have m6 : w6.heap[w5.heap.size]? = some (.cells #[.int .i64 m.f0, .string m.f1, .string m.f2, .slice A3 m.f3.length c3, .slice A4 m.f4.length c4] 25 (0, 0)) := by rw [e6]; exact blk_new w5 _
   have hMF6 : MF w6 (fun b => w.heap.size ≤ b ∧ b < w6.heap.size ∧ b ≠ R0) m A3 c3 A4 c4 := hMF.move (fun b hb => ⟨⟨by omega, by have := hb.2; have := hB6.size; omega, by have := hb.1; omega⟩, hB6.block b hb.2⟩)
   have H2 := Lib.hid (text_of w6 hQQ.1 hMF6.now t et)
   have HT := Lib.hid (show (t ≠ s ∧ M = none) ∨ (t = s ∧ M = some m) by rw [← et]; exact hQQ.2)
   have HB6 := Lib.hid (below_step hB5 hB6)
   have K6 := Lib.hid k6
   have M6 := Lib.hid m6
   have HMF6 := Lib.hid hMF6
   obtain ⟨gm, egm⟩ : ∃ gm, w5.heap.size = gm := ⟨_, rfl⟩
   rw [egm] at M6
   have hne : R0 ≠ gm := by have := HL.out; omega
   have y0 := blk_cell M6.out 0
   have y1 := blk_cell M6.out 1
   have y2 := blk_cell M6.out 2
   have y3 := blk_cell M6.out 3
   have y4 := blk_cell M6.out 4
   simp only [List.getElem?_toArray, List.getElem?_cons_zero, List.getElem?_cons_succ] at y0 y1 y2 y3 y4
   clear k0 k6 m6 hMF6 hMF hB5 hK5 hs5 eV hVs e0 e1 e2 hQQ et hB6 ho
   go_upto_region 5 with fail
   rw [← e6]
   clear e6
   go_wp2_with fail
   (with_reducible refine H2.out.mono ?_)
   rintro e w7 ⟨rfl, hb7⟩
   have k7 := (hb7.block R0 (blk_lt K6.out)).trans K6.out
   have m7 := (hb7.block gm (blk_lt M6.out)).trans M6.out
   have K7 := Lib.hid k7
   have HB7 := Lib.hid (below_step HB6.out hb7)
   have HMF7 := Lib.hid (HMF6.out.move (Y := w7) (T := fun b => w.heap.size ≤ b ∧ b < w7.heap.size ∧ b ≠ R0) (fun b hb => ⟨⟨hb.1, by have := hb.2.1; have := hb7.size; omega, hb.2.2⟩, hb7.block b hb.2.1⟩))
   have x0 := blk_cell m7 0
   have x1 := blk_cell m7 1
   have x2 := blk_cell m7 2
   have x3 := blk_cell m7 3
   have x4 := blk_cell m7 4
   have y0 := blk_cell k7 0
   have z0 := blk_frozen k7 0
   have y1 := blk_cell k7 1
   have z1 := blk_frozen k7 1
   have y2 := blk_cell k7 2
   have z2 := blk_frozen k7 2
   have y3 := blk_cell k7 3
   have z3 := blk_frozen k7 3
   have y4 := blk_cell k7 4
   have z4 := blk_frozen k7 4
   simp only [List.getElem?_toArray, List.getElem?_cons_zero, List.getElem?_cons_succ] at y0 y1 y2 y3 y4 x0 x1 x2 x3 x4
   clear k7 m7 hb7 H2
   by_cases ht : t = s
   ·have hte : (t.toList == s.toList) = true := by rw [ht]; exact beq_self_eq_true _
    have hM : M = some m := by
     rcases HT.out with ⟨h, -⟩ | ⟨-, h⟩
     ·exact absurd ht h
     ·exact h
    have HM := Lib.hid hM
    clear ht hM
    go_wp2
    obtain ⟨t2, t3⟩ := par_tail (.int .i64 m.f0) (.string m.f1) (.string m.f2) (.slice A3 m.f3.length c3) (.slice A4 m.f4.length c4) (Nat.le_of_eq HR0.out) K7.out HB7.out
    refine bodyPost_ret (results_list (vs := [.agg #[.int .i64 m.f0, .string m.f1, .string m.f2, .slice A3 m.f3.length c3, .slice A4 m.f4.length c4], .int .i64 0]) rfl (by simp) (.cell R0 25 _ (0, 0) _ rfl t2 Try.underlying25 rfl (by kernel_rfl) (.tmp .nil))) rfl ⟨t3, Or.inr (Or.inr ⟨m, A3, c3, A4, c4, rfl, HM.out, rfl, HMF7.out.move (fun b hb => ⟨⟨hb.1, by simp only [World.size_setCell]; exact hb.2.1⟩, ?_⟩)⟩)⟩
    have hne : b ≠ R0 := hb.2.2
    exact (Below.heap_setCell _ _ _ _ hne).trans ((Below.heap_setCell _ _ _ _ hne).trans ((Below.heap_setCell _ _ _ _ hne).trans ((Below.heap_setCell _ _ _ _ hne).trans (Below.heap_setCell _ _ _ _ hne))))
   ·have hte : (t.toList == s.toList) = false := by rw [beq_eq_false_iff_ne]; exact fun h => ht (toList_iff.1 h)
    have hM : M = none := by
     rcases HT.out with ⟨-, h⟩ | ⟨h, -⟩
     ·exact h
     ·exact absurd h ht
    have HM := Lib.hid hM
    clear ht hM
    go_wp2
    obtain ⟨t2, t3⟩ := par_tail (.int .i64 0) (.string ⟨#[]⟩) (.string ⟨#[]⟩) (.slice none 0 0) (.slice none 0 0) (Nat.le_of_eq HR0.out) K7.out HB7.out
    exact bodyPost_ret (results_list (vs := [.agg Z5, .int .i64 17]) rfl (by decide) (.cell R0 25 _ (0, 0) _ rfl t2 Try.underlying25 rfl (by kernel_rfl) (.tmp .nil))) rfl ⟨t3, Or.inr (Or.inl ⟨rfl, HM.out, rfl⟩)⟩
end Go.Proofs.Yteafilojjdfllaa
end
section
namespace Go.Proofs.Yteafilojjdfllaa
open Go Go.RowKit Go.Proofs.YteafilojjdfllaaW.PrintWords Go.Proofs.YteafilojjdfllaaW.PrintLast Go.Proofs.YteafilojjdfllaaW.PrintMore Go.Proofs.Yteafilojjdfllaa.PAll
set_option linter.unusedVariables false
set_option linter.unusedSimpArgs false
theorem read146 (w0 : World) (g gn : Nat) (s : ByteArray) (hs : s.size ≤ 1000000000) (hg : w0.heap.size ≤ g) (hgn : w0.heap.size ≤ gn) (hne : g ≠ gn) : ∀ (d : Nat), IHd w0 g gn s d := by
 intro d
 induction d with
 | zero => intro w i left nz _ h; omega
 | succ d ih =>
  intro w i left nz hl hld hi hB hS hN hnz
  cases left with
  | zero =>
   rw [show readM cutN stepR false (d + 1) 0 (s.data.toList.drop i) = none by rw [readM.eq_def]]
   exact rd146a w0 w g gn s i d hi hs hg hgn hne hB hS nz hN (by omega)
  | succ left =>
   have hnz' : nz = 63 - (left : Int) := by omega
   cases h42 : nextB 42 (s.data.toList.drop i) with
   | true => exact rd146s w0 w g gn s i left d (by omega) hi hs hg hgn hne hB hS nz hN hnz' h42
   | false =>
    cases h38 : nextB 38 (s.data.toList.drop i) with
    | true => exact rd146k5 w0 w g gn s i left d (by omega) hi hs hg hgn hne hB hS nz hN hnz' h42 h38 (by omega) ih
    | false =>
     cases h124 : nextB 124 (s.data.toList.drop i) with
     | true => exact rd146k6 w0 w g gn s i left d (by omega) hi hs hg hgn hne hB hS nz hN hnz' h42 h38 h124 (by omega) ih
     | false =>
      cases h33 : nextB 33 (s.data.toList.drop i) with
      | true => exact rd146k7 w0 w g gn s i left d (by omega) hi hs hg hgn hne hB hS nz hN hnz' h42 h38 h124 h33 (by omega) ih
      | false =>
       cases h61 : nextB 61 (s.data.toList.drop (nameEnd s i)) with
       | true => exact rd146n1 w0 w g gn s i left d (by omega) hi hs hg hgn hne hB hS nz hN hnz' h42 h38 h124 h33 h61
       | false =>
        cases hb33 : nextB 33 (s.data.toList.drop (nameEnd s i)) with
        | true => exact rd146n2 w0 w g gn s i left d (by omega) hi hs hg hgn hne hB hS nz hN hnz' h42 h38 h124 h33 h61 hb33
        | false =>
         cases h94 : nextB 94 (s.data.toList.drop (nameEnd s i)) with
         | true => exact rd146n3 w0 w g gn s i left d (by omega) hi hs hg hgn hne hB hS nz hN hnz' h42 h38 h124 h33 h61 hb33 h94
         | false => exact rd146n4 w0 w g gn s i left d (by omega) hi hs hg hgn hne hB hS nz hN hnz' h42 h38 h124 h33 h61 hb33 h94
theorem unq_bound {step : List UInt8 → Step} : ∀ (n : Nat) (l v t : List UInt8), l.length ≤ n → unqW step l = some (v, t) → v.length ≤ l.length
 | 0, l, v, t, hn, h => by
  have : l = [] := List.length_eq_zero_iff.1 (by omega)
  subst this
  rw [unqW] at h
  cases h
 | n + 1, [], v, t, hn, h => by rw [unqW] at h; cases h
 | n + 1, x :: r, v, t, hn, h => by
  rw [unq_cons] at h
  cases hs : step (x :: r) with
  | stop => rw [hs] at h; cases h
  | done => rw [hs] at h; simp only [Option.some.injEq, Prod.mk.injEq] at h; rw [← h.1]; exact Nat.zero_le _
  | byte c k =>
   rw [hs] at h
   obtain ⟨q, hq, e⟩ := map_some' h
   simp only [Prod.mk.injEq] at e
   have := unq_bound n (r.drop k) q.1 q.2 (by simp only [List.length_drop]; simp only [List.length_cons] at hn; omega) hq
   rw [← e.1]
   simp only [List.length_cons, List.length_drop] at this ⊢
   omega
theorem val_bound {step : List UInt8 → Step} {l v t : List UInt8} (h : valW step l = some (v, t)) : v.length ≤ l.length := by
 unfold valW at h
 split at h
 ·have := unq_bound _ _ _ _ (Nat.le_refl _) h
  simp only [List.length_cons]
  omega
 ·cases h
theorem vals_bound {step : List UInt8 → Step} (B : Nat) : ∀ (k : Nat) (r : List UInt8) (x : List ByteArray) (t : List UInt8), r.length ≤ B → valsW step k r = some (x, t) → ∀ u ∈ x, u.size ≤ B
 | 0, r, x, t, _, h => by rw [valsW] at h; cases h
 | k + 1, r, x, t, hB, h => by
  rw [valsW] at h
  cases hv : valW step r with
  | none => rw [hv] at h; cases h
  | some q =>
   obtain ⟨v, l⟩ := q
   rw [hv] at h
   have hs := val_suffix hv
   have hb := val_bound hv
   have hl := hs.length_le
   have hv' : (⟨v.toArray⟩ : ByteArray).size ≤ B := by show v.toArray.size ≤ B; simp; omega
   cases l with
   | nil => cases h
   | cons c l =>
    simp only at h
    simp only [List.length_cons] at hl
    split at h
    ·simp only [Option.some.injEq, Prod.mk.injEq] at h
     rw [← h.1]
     intro u hu
     simp only [List.mem_cons, List.not_mem_nil, or_false] at hu
     rw [hu]
     exact hv'
    ·split at h
     ·obtain ⟨p, hp, e⟩ := map_some' h
      simp only [Prod.mk.injEq] at e
      rw [← e.1]
      intro u hu
      rcases List.mem_cons.1 hu with rfl | hu
      ·exact hv'
      ·exact vals_bound B k l p.1 p.2 (by omega) hp u hu
     ·cases h
theorem ba_size (l : List UInt8) : (⟨l.toArray⟩ : ByteArray).size = l.length := by show l.toArray.size = _; simp
theorem named_bound {cut : List UInt8 → Nat} {step : List UInt8 → Step} {emp : Bool} {B : Nat} (h140 : B ≤ 140737488351232) {r : List UInt8} {m : S25} {t : List UInt8} (hB : r.length ≤ B) (h : namedW cut step emp r = some (m, t)) : boundM m := by
 unfold namedW at h
 simp only at h
 have hn : (⟨(r.take (cut r)).toArray⟩ : ByteArray).size ≤ 140737488351232 := by rw [ba_size, List.length_take]; omega
 generalize (⟨(r.take (cut r)).toArray⟩ : ByteArray) = nm at h hn
 have hd : (r.drop (cut r)).length ≤ B := by rw [List.length_drop]; omega
 generalize r.drop (cut r) = q at h hd
 have one : ∀ (op : Int) (q : List UInt8), q.length ≤ B → ∀ p, valW step q = some p → boundM ⟨op, nm, ⟨p.1.toArray⟩, [], []⟩ := fun op q hq p hp => by
  have := val_bound (v := p.1) (t := p.2) hp
  rw [boundM_mk]
  exact ⟨hn, by rw [ba_size]; omega, fun u hu => (by cases hu), trivial⟩
 match q with
 | [] => cases h
 | c :: q =>
  simp only at h
  simp only [List.length_cons] at hd
  split at h
  ·obtain ⟨p, hp, e⟩ := map_some' h
   simp only [Prod.mk.injEq] at e
   rw [← e.1]
   exact one 1 q (by omega) p hp
  ·split at h
   ·match q with
    | [] => cases h
    | e :: q =>
     simp only at h
     simp only [List.length_cons] at hd
     split at h
     ·obtain ⟨p, hp, e⟩ := map_some' h
      simp only [Prod.mk.injEq] at e
      rw [← e.1]
      exact one 2 q (by omega) p hp
     ·cases h
   ·split at h
    ·match q with
     | [] => cases h
     | e :: q =>
      simp only at h
      simp only [List.length_cons] at hd
      split at h
      ·obtain ⟨p, hp, e⟩ := map_some' h
       simp only [Prod.mk.injEq] at e
       rw [← e.1]
       exact one 3 q (by omega) p hp
      ·cases h
    ·split at h
     ·match q with
      | [] => cases h
      | e :: q =>
       simp only at h
       simp only [List.length_cons] at hd
       split at h
       ·split at h
        ·simp only [Option.some.injEq, Prod.mk.injEq] at h
         rw [← h.1, boundM_mk]
         exact ⟨hn, Nat.zero_le _, fun u hu => (by cases hu), trivial⟩
        ·obtain ⟨p, hp, e⟩ := map_some' h
         simp only [Prod.mk.injEq] at e
         rw [← e.1, boundM_mk]
         exact ⟨hn, Nat.zero_le _, fun u hu => Nat.le_trans (vals_bound B 17 q p.1 p.2 (by omega) hp u hu) h140, trivial⟩
       ·cases h
     ·cases h
theorem readML_bound {cut : List UInt8 → Nat} {step : List UInt8 → Step} {emp : Bool} (B d : Nat) (ih : ∀ (left : Nat) (r : List UInt8) (m : S25) (l' : Nat) (t : List UInt8), r.length ≤ B → readM cut step emp d left r = some (m, l', t) → boundM m) :
  ∀ (k left : Nat) (r : List UInt8) (x : List S25) (l' : Nat) (t : List UInt8), r.length ≤ B → readML cut step emp d k left r = some (x, l', t) → boundL x
 | 0, left, r, x, l', t, _, h => by rw [readML] at h; cases h
 | k + 1, left, r, x, l', t, hB, h => by
  rw [readML_rest] at h
  cases hv : readM cut step emp d left r with
  | none => rw [hv] at h; cases h
  | some q =>
   obtain ⟨m, l1, l⟩ := q
   rw [hv] at h
   have hm := ih _ _ _ _ _ hB hv
   have hl := (readM_suf _ _ _ _ _ _ hv).1.length_le
   obtain ⟨p, hp, e⟩ := map_some' h
   simp only [Prod.mk.injEq] at e
   rw [← e.1]
   refine ⟨hm, ?_⟩
   unfold restK at hp
   split at hp
   ·simp only [Option.some.injEq] at hp
    rw [← hp]
    trivial
   ·split at hp
    ·exact readML_bound B d ih k l1 (l.drop 1) p.1 p.2.1 p.2.2 (by rw [List.length_drop]; omega) hp
    ·cases hp
theorem readM_bound {cut : List UInt8 → Nat} {step : List UInt8 → Step} {emp : Bool} (h0 : namedW cut step emp [] = none) {B : Nat} (h140 : B ≤ 140737488351232) : ∀ (d left : Nat) (r : List UInt8) (m : S25) (l' : Nat) (t : List UInt8), r.length ≤ B → readM cut step emp d left r = some (m, l', t) → boundM m
 | 0, left, r, m, l', t, _, h => by rw [readM.eq_def] at h; cases h
 | d + 1, 0, r, m, l', t, _, h => by rw [readM.eq_def] at h; cases h
 | d + 1, left + 1, r, m, l', t, hB, h => by
  rw [readM_step _ _ _ _ _ _ h0] at h
  have kids : ∀ (op : Int) p, listK cut step emp d left (r.drop 1) = some p → boundM ⟨op, ⟨#[]⟩, ⟨#[]⟩, [], p.1⟩ := fun op p hp => by
   rw [boundM_mk]
   refine ⟨Nat.zero_le _, Nat.zero_le _, fun u hu => (by cases hu), ?_⟩
   unfold listK at hp
   split at hp
   ·split at hp
    ·simp only [Option.some.injEq] at hp
     rw [← hp]
     trivial
    ·exact readML_bound B d (fun left r m l' t h1 h2 => readM_bound h0 h140 d left r m l' t h1 h2) _ _ _ p.1 p.2.1 p.2.2 (by simp only [List.length_drop]; omega) hp
   ·cases hp
  split at h
  ·simp only [Option.some.injEq, Prod.mk.injEq] at h
   rw [← h.1, boundM_mk]
   exact ⟨Nat.zero_le _, Nat.zero_le _, fun u hu => (by cases hu), trivial⟩
  ·split at h
   ·obtain ⟨p, hp, e⟩ := map_some' h
    simp only [Prod.mk.injEq] at e
    rw [← e.1]
    exact kids 5 p hp
   ·split at h
    ·obtain ⟨p, hp, e⟩ := map_some' h
     simp only [Prod.mk.injEq] at e
     rw [← e.1]
     exact kids 6 p hp
    ·split at h
     ·obtain ⟨p, hp, e⟩ := map_some' h
      simp only [Prod.mk.injEq] at e
      rw [← e.1]
      exact kids 7 p hp
     ·obtain ⟨p, hp, e⟩ := map_some' h
      simp only [Prod.mk.injEq] at e
      rw [← e.1]
      exact named_bound h140 hB (m := p.1) (t := p.2) hp
/-- what the document's Parse makes of a text that is not nested too deep -/
def parseD (s : ByteArray) : Option S25 := match readM cutN stepR false 65 64 s.data.toList with
 | none => none
 | some q => if chkB q.1 = true ∧ tB q.1 = s then some q.1 else none
theorem parseD_some {s : ByteArray} {m : S25} (h : parseD s = some m) : chkB m = true ∧ tB m = s := by
 unfold parseD at h
 split at h
 ·cases h
 ·next q hq =>
  split at h
  ·next hc => cases h; exact hc
  ·cases h
set_option maxRecDepth 100000 in
set_option maxHeartbeats 16000000 in
/-- the document's Parse. -/
theorem parse94 (w : World) (s : ByteArray) (hs : s.size ≤ 1000000000) : Calls Try.prog 94 #[.string s] w (ParP w (deepW 0 false s.data.toList) (parseD s)) := by
 obtain ⟨dp, edp⟩ : ∃ dp, deepW 0 false s.data.toList = dp := ⟨_, rfl⟩
 have hD := deep145 (w.alloc (.cells Z5 25)) s hs
 rw [edp] at hD ⊢
 clear edp
 have HD := Lib.hid hD
 clear hD
 cases dp with
 | true =>
  go_enter Try.func94, Try.ntmps94
  go_wp2_with fail
  refine HD.out.mono ?_
  rintro e w1 ⟨rfl, hw1⟩
  obtain ⟨R0, e0⟩ : ∃ R0, w.heap.size = R0 := ⟨_, rfl⟩
  have K0 : Hid (w1.heap[R0]? = some (.cells Z5 25 (0, 0))) := Lib.hid (by rw [hw1, ← e0]; exact blk_new w _)
  have HB1 : Hid (Below w.heap.size w w1) := Lib.hid (by rw [hw1]; exact below_alloc (Below.refl _ _) _)
  have HR0 := Lib.hid e0
  rw [e0]
  have y0 := blk_cell K0.out 0
  have z0 := blk_frozen K0.out 0
  have y1 := blk_cell K0.out 1
  have z1 := blk_frozen K0.out 1
  have y2 := blk_cell K0.out 2
  have z2 := blk_frozen K0.out 2
  have y3 := blk_cell K0.out 3
  have z3 := blk_frozen K0.out 3
  have y4 := blk_cell K0.out 4
  have z4 := blk_frozen K0.out 4
  simp only [List.getElem?_toArray, List.getElem?_cons_zero, List.getElem?_cons_succ] at y0 y1 y2 y3 y4
  clear hw1 e0
  go_wp2
  obtain ⟨t2, t3⟩ := par_tail (.int .i64 0) (.string ⟨#[]⟩) (.string ⟨#[]⟩) (.slice none 0 0) (.slice none 0 0) (Nat.le_of_eq HR0.out) K0.out HB1.out
  exact bodyPost_ret (results_list (vs := [.agg Z5, .int .i64 18]) rfl (by decide) (.cell R0 25 _ (0, 0) _ rfl t2 Try.underlying25 rfl (by kernel_rfl) (.tmp .nil))) rfl ⟨t3, Or.inl ⟨rfl, rfl⟩⟩
 | false =>
  obtain ⟨V, eV⟩ : ∃ V, V = ((w.alloc (.cells Z5 25)).alloc (.cells #[.string s, .int .i64 0, .bool false] 159)).alloc (.cells #[.int .i64 0] 3) := ⟨_, rfl⟩
  have hs1 : V.heap.size = w.heap.size + 3 := by rw [eV]; simp
  have hBV : Below w.heap.size w V := by rw [eV]; exact below_alloc (below_alloc (below_alloc (Below.refl _ _) _) _) _
  have k0 : V.heap[w.heap.size]? = some (.cells Z5 25 (0, 0)) := by rw [eV]; exact (Below.heap_alloc _ _ _ (by simp; omega)).trans ((Below.heap_alloc _ _ _ (by simp)).trans (blk_new w _))
  have k1 : SB V (w.heap.size + 1) s 0 false := by
   have := blk_new (w.alloc (.cells Z5 25)) (.cells #[.string s, .int .i64 0, .bool false] 159)
   rw [World.size_alloc] at this
   rw [eV]; exact (Below.heap_alloc _ _ _ (by simp)).trans this
  have k2 : NB V (w.heap.size + 2) 0 := by
   have := blk_new ((w.alloc (.cells Z5 25)).alloc (.cells #[.string s, .int .i64 0, .bool false] 159)) (.cells #[.int .i64 0] 3)
   rw [World.size_alloc, World.size_alloc] at this
   rw [eV]; exact this
  have hR := read146 w (w.heap.size + 1) (w.heap.size + 2) s hs (by omega) (by omega) (by omega) 65 V 0 64 0 (by decide) (by decide) (Nat.zero_le _) hBV k1 k2 (by decide)
  rw [List.drop_zero] at hR
  obtain ⟨Q, eQ⟩ : ∃ Q, readM cutN stepR false 65 64 s.data.toList = Q := ⟨_, rfl⟩
  rw [eQ] at hR
  obtain ⟨M, eM⟩ : ∃ M, parseD s = M := ⟨_, rfl⟩
  rw [eM]
  have HQ : Hid ((Q = none → M = none) ∧ ∀ m l t, Q = some (m, l, t) → boundM m ∧ (chkB m = false → M = none) ∧ (chkB m = true → tB m ≠ s → M = none) ∧ (chkB m = true → tB m = s → M = some m)) := Lib.hid (by
   rw [← eM]
   unfold parseD
   rw [eQ]
   refine ⟨fun h => by rw [h], fun m l t h => ?_⟩
   have hb := readM_bound (cut := cutN) (step := stepR) (emp := false) rfl (B := 1000000000) (by decide) 65 64 s.data.toList m l t (by simpa using hs) (eQ.trans h)
   rw [h]
   refine ⟨hb, fun hc => ?_, fun hc ht => ?_, fun hc ht => ?_⟩
   ·simp [hc]
   ·simp [ht]
   ·simp [hc, ht])
  obtain ⟨R0, e0⟩ : ∃ R0, w.heap.size = R0 := ⟨_, rfl⟩
  obtain ⟨R1, e1⟩ : ∃ R1, R0 + 1 = R1 := ⟨_, rfl⟩
  obtain ⟨R2, e2⟩ : ∃ R2, R1 + 1 = R2 := ⟨_, rfl⟩
  have e2' : w.heap.size + 2 = R2 := by omega
  have e1' : w.heap.size + 1 = R1 := by omega
  rw [e1', e2'] at hR
  rw [e0] at k0
  have H1 := Lib.hid hR
  have HBV := Lib.hid hBV
  have HS := Lib.hid (show V.heap.size = R0 + 3 by omega)
  have K0 := Lib.hid k0
  have HR0 := Lib.hid e0
  clear hR hBV hs1 k0 k1 k2 eQ eM e1' e2'
  go_enter Try.func94, Try.ntmps94
  go_wp2_with fail
  refine HD.out.mono ?_
  rintro e wd ⟨rfl, rfl⟩
  go_wp2_with fail
  rw [← eV]
  refine H1.out.mono ?_
  intro e w5 hp5
  obtain ⟨x0, x1, x2, B3, m3, e3, B4, m4, e4, i5, b5, nz5, rfl, hB5, hK5, hS5, hN5, hi5, HT5⟩ := rd_any hp5
  have hs5 := hK5.1
  have hVs := HS.out
  have k0 := (hK5.2 R0 (by omega) (by omega) (by simp; omega)).trans K0.out
  have HL := Lib.hid (show R0 < w5.heap.size by omega)
  obtain ⟨w6, e6⟩ : ∃ w6, w6 = w5.alloc (.cells #[.int .i64 x0, .string x1, .string x2, .slice B3 m3 e3, .slice B4 m4 e4] 25) := ⟨_, rfl⟩
  have hB6 : Below w5.heap.size w5 w6 := by rw [e6]; exact below_alloc (Below.refl _ _) _
  have K6 := Lib.hid ((hB6.block R0 HL.out).trans k0)
  have m6 : w6.heap[w5.heap.size]? = some (.cells #[.int .i64 x0, .string x1, .string x2, .slice B3 m3 e3, .slice B4 m4 e4] 25 (0, 0)) := by rw [e6]; exact blk_new w5 _
  have HB6 := Lib.hid (below_step hB5 hB6)
  have s6 := (hS5.below hB6).c2
  obtain ⟨gm, egm⟩ : ∃ gm, w5.heap.size = gm := ⟨_, rfl⟩
  rw [egm] at m6
  have hne : R0 ≠ gm := by have := HL.out; omega
  have HBB := Lib.hid hB6
  have M6 := Lib.hid m6
  clear k0 hB5 hK5 hS5 hN5 hp5 hs5 eV hVs e0 e1 e2 m6 hB6 H1 hi5
  go_upto_region 6 with fail
  rw [← e6]
  clear e6
  have y0 := blk_cell K6.out 0
  have z0 := blk_frozen K6.out 0
  have y1 := blk_cell K6.out 1
  have z1 := blk_frozen K6.out 1
  have y2 := blk_cell K6.out 2
  have z2 := blk_frozen K6.out 2
  have y3 := blk_cell K6.out 3
  have z3 := blk_frozen K6.out 3
  have y4 := blk_cell K6.out 4
  have z4 := blk_frozen K6.out 4
  have c0 := blk_cell M6.out 0
  have c1 := blk_cell M6.out 1
  have c2 := blk_cell M6.out 2
  have c3 := blk_cell M6.out 3
  have c4 := blk_cell M6.out 4
  simp only [List.getElem?_toArray, List.getElem?_cons_zero, List.getElem?_cons_succ] at y0 y1 y2 y3 y4
  simp only [List.getElem?_toArray, List.getElem?_cons_zero, List.getElem?_cons_succ] at c0 c1 c2 c3 c4
  cases b5 with
  | true =>
   have HM : Hid (M = none) := Lib.hid (by
    rcases HT5.out with ⟨-, h⟩ | ⟨h, -⟩
    ·exact HQ.out.1 h
    ·cases h)
   clear HT5 HQ
   go_wp2
   obtain ⟨t2, t3⟩ := par_tail (.int .i64 0) (.string ⟨#[]⟩) (.string ⟨#[]⟩) (.slice none 0 0) (.slice none 0 0) (Nat.le_of_eq HR0.out) K6.out HB6.out
   exact bodyPost_ret (results_list (vs := [.agg Z5, .int .i64 17]) rfl (by decide) (.cell R0 25 _ (0, 0) _ rfl t2 Try.underlying25 rfl (by kernel_rfl) (.tmp .nil))) rfl ⟨t3, Or.inr (Or.inl ⟨rfl, HM.out, rfl⟩)⟩
  | false =>
   obtain ⟨m, l, hQ, rfl, rfl, rfl, rfl, rfl, hMF, -⟩ : ∃ (m : S25) (l : Nat), Q = some (m, l, s.data.toList.drop i5) ∧ x0 = m.f0 ∧ x1 = m.f1 ∧ x2 = m.f2 ∧ m3 = m.f3.length ∧ m4 = m.f4.length ∧ MF w5 (fun b => V.heap.size ≤ b ∧ b < w5.heap.size) m B3 e3 B4 e4 ∧ nz5 = 64 - (l : Int) := by
    rcases HT5.out with ⟨h, -⟩ | ⟨-, h⟩
    ·cases h
    ·exact h
   obtain ⟨hbM, q1, q2, q3⟩ := HQ.out.2 m l _ hQ
   have hMF6 : MF w6 (fun b => w.heap.size ≤ b ∧ b < w6.heap.size ∧ b ≠ R0) m B3 e3 B4 e4 := hMF.move (fun b hb => ⟨⟨by have := hb.1; have := HS.out; have := HR0.out; omega, by have := hb.2; have := HBB.out.size; omega, by have := hb.1; have := HS.out; omega⟩, HBB.out.block b hb.2⟩)
   have HMF6 := Lib.hid hMF6
   obtain ⟨v, hv⟩ : ∃ v, chkB m = v := ⟨_, rfl⟩
   have H2 := Lib.hid (check36v w6 m B3 e3 B4 e4 v hv hbM hMF6.now)
   have HV := Lib.hid hv
   have HQ1 := Lib.hid (And.intro q1 (And.intro q2 q3))
   clear hMF6 hMF hQ hbM q1 q2 q3 HT5 HQ hv
   go_wp2_with fail
   (with_reducible refine H2.out.mono ?_)
   rintro e w7 ⟨rfl, hb7⟩
   have K7 := Lib.hid ((hb7.block R0 (blk_lt K6.out)).trans K6.out)
   have M7 := Lib.hid ((hb7.block gm (blk_lt M6.out)).trans M6.out)
   have HB7 := Lib.hid (below_step HB6.out hb7)
   have HMF7 := Lib.hid (HMF6.out.move (Y := w7) (T := fun b => w.heap.size ≤ b ∧ b < w7.heap.size ∧ b ≠ R0) (fun b hb => ⟨⟨hb.1, by have := hb.2.1; have := hb7.size; omega, hb.2.2⟩, hb7.block b hb.2.1⟩))
   clear hb7 H2 y0 y1 y2 y3 y4 z0 z1 z2 z3 z4 c0 c1 c2 c3 c4 s6
   have y0 := blk_cell K7.out 0
   have z0 := blk_frozen K7.out 0
   have y1 := blk_cell K7.out 1
   have z1 := blk_frozen K7.out 1
   have y2 := blk_cell K7.out 2
   have z2 := blk_frozen K7.out 2
   have y3 := blk_cell K7.out 3
   have z3 := blk_frozen K7.out 3
   have y4 := blk_cell K7.out 4
   have z4 := blk_frozen K7.out 4
   have c0 := blk_cell M7.out 0
   have c1 := blk_cell M7.out 1
   have c2 := blk_cell M7.out 2
   have c3 := blk_cell M7.out 3
   have c4 := blk_cell M7.out 4
   simp only [List.getElem?_toArray, List.getElem?_cons_zero, List.getElem?_cons_succ] at y0 y1 y2 y3 y4 c0 c1 c2 c3 c4
   cases v with
   | false =>
    have HM := Lib.hid (HQ1.out.1 HV.out)
    clear HQ1
    go_wp2
    obtain ⟨t2, t3⟩ := par_tail (.int .i64 0) (.string ⟨#[]⟩) (.string ⟨#[]⟩) (.slice none 0 0) (.slice none 0 0) (Nat.le_of_eq HR0.out) K7.out HB7.out
    exact bodyPost_ret (results_list (vs := [.agg Z5, .int .i64 17]) rfl (by decide) (.cell R0 25 _ (0, 0) _ rfl t2 Try.underlying25 rfl (by kernel_rfl) (.tmp .nil))) rfl ⟨t3, Or.inr (Or.inl ⟨rfl, HM.out, rfl⟩)⟩
   | true =>
    obtain ⟨t, et⟩ : ∃ t, tB m = t := ⟨_, rfl⟩
    have h3 : Calls Try.prog 93 #[.agg #[.int .i64 m.f0, .string m.f1, .string m.f2, .slice B3 m.f3.length e3, .slice B4 m.f4.length e4]] w7 fun e w' => e = .returned (.string t) ∧ Below w7.heap.size w7 w' := by
     obtain ⟨h1, h2, h3, h4⟩ := chk_def.1 HV.out
     rw [← et]
     exact text93 _ m (Nat.le_refl _) h1 (by omega) (by omega) B3 e3 B4 e4 w7 HMF7.out.now
    have H3 := Lib.hid h3
    have HT := Lib.hid (And.intro (HQ1.out.2.1 HV.out) (HQ1.out.2.2 HV.out))
    rw [et] at HT
    clear h3 HQ1 et
    go_wp2_with fail
    (with_reducible refine H3.out.mono ?_)
    rintro e w8 ⟨rfl, hb8⟩
    have K8 := Lib.hid ((hb8.block R0 (blk_lt K7.out)).trans K7.out)
    have m8 := (hb8.block gm (blk_lt M7.out)).trans M7.out
    have HB8 := Lib.hid (below_step HB7.out hb8)
    have HMF8 := Lib.hid (HMF7.out.move (Y := w8) (T := fun b => w.heap.size ≤ b ∧ b < w8.heap.size ∧ b ≠ R0) (fun b hb => ⟨⟨hb.1, by have := hb.2.1; have := hb8.size; omega, hb.2.2⟩, hb8.block b hb.2.1⟩))
    clear y0 y1 y2 y3 y4 z0 z1 z2 z3 z4 c0 c1 c2 c3 c4
    have y0 := blk_cell K8.out 0
    have z0 := blk_frozen K8.out 0
    have y1 := blk_cell K8.out 1
    have z1 := blk_frozen K8.out 1
    have y2 := blk_cell K8.out 2
    have z2 := blk_frozen K8.out 2
    have y3 := blk_cell K8.out 3
    have z3 := blk_frozen K8.out 3
    have y4 := blk_cell K8.out 4
    have z4 := blk_frozen K8.out 4
    have c0 := blk_cell m8 0
    have c1 := blk_cell m8 1
    have c2 := blk_cell m8 2
    have c3 := blk_cell m8 3
    have c4 := blk_cell m8 4
    simp only [List.getElem?_toArray, List.getElem?_cons_zero, List.getElem?_cons_succ] at y0 y1 y2 y3 y4 c0 c1 c2 c3 c4
    clear m8 hb8 H3
    by_cases ht : t = s
    ·have hte : (t.toList == s.toList) = true := by rw [ht]; exact beq_self_eq_true _
     have HM := Lib.hid (HT.out.2 ht)
     clear ht HT
     go_wp2
     obtain ⟨t2, t3⟩ := par_tail (.int .i64 m.f0) (.string m.f1) (.string m.f2) (.slice B3 m.f3.length e3) (.slice B4 m.f4.length e4) (Nat.le_of_eq HR0.out) K8.out HB8.out
     refine bodyPost_ret (results_list (vs := [.agg #[.int .i64 m.f0, .string m.f1, .string m.f2, .slice B3 m.f3.length e3, .slice B4 m.f4.length e4], .int .i64 0]) rfl (by simp) (.cell R0 25 _ (0, 0) _ rfl t2 Try.underlying25 rfl (by kernel_rfl) (.tmp .nil))) rfl ⟨t3, Or.inr (Or.inr ⟨m, B3, e3, B4, e4, rfl, HM.out, rfl, HMF8.out.move (fun b hb => ⟨⟨hb.1, by simp only [World.size_setCell]; exact hb.2.1⟩, ?_⟩)⟩)⟩
     have hne : b ≠ R0 := hb.2.2
     exact (Below.heap_setCell _ _ _ _ hne).trans ((Below.heap_setCell _ _ _ _ hne).trans ((Below.heap_setCell _ _ _ _ hne).trans ((Below.heap_setCell _ _ _ _ hne).trans (Below.heap_setCell _ _ _ _ hne))))
    ·have hte : (t.toList == s.toList) = false := by rw [beq_eq_false_iff_ne]; exact fun h => ht (toList_iff.1 h)
     have HM := Lib.hid (HT.out.1 ht)
     clear ht HT
     go_wp2
     obtain ⟨t2, t3⟩ := par_tail (.int .i64 0) (.string ⟨#[]⟩) (.string ⟨#[]⟩) (.slice none 0 0) (.slice none 0 0) (Nat.le_of_eq HR0.out) K8.out HB8.out
     exact bodyPost_ret (results_list (vs := [.agg Z5, .int .i64 17]) rfl (by decide) (.cell R0 25 _ (0, 0) _ rfl t2 Try.underlying25 rfl (by kernel_rfl) (.tmp .nil))) rfl ⟨t3, Or.inr (Or.inl ⟨rfl, HM.out, rfl⟩)⟩
end Go.Proofs.Yteafilojjdfllaa
end
section
namespace Go.Proofs.Yteafilojjdfllaa
open Go Go.RowKit Go.Proofs.YteafilojjdfllaaW.PrintWords Go.Proofs.YteafilojjdfllaaW.PrintLast Go.Proofs.YteafilojjdfllaaW.PrintMore Go.Proofs.Yteafilojjdfllaa.PAll
/-- a row of one element -/
theorem C_one' {α : Type} {d : Kd α} {W : World} {g : Nat} {x : α} {cs : List Value} {t : TypeId} (hb : W.heap[g]? = some (.cells ⟨cs⟩ t (0, 0))) (hK : d.K W x cs) : d.C W (some ⟨g, 0, none⟩) 1 [x] := by
 refine ⟨rfl, by decide, fun _ => ⟨⟨g, 0, none⟩, rfl, fun j p hj => ?_⟩⟩
 have hj0 : j = 0 := by
  cases j with
  | zero => rfl
  | succ j => simp at hj
 subst hj0
 cases hj
 refine ⟨cs, d.K_len hK, hK, fun i u hu => ?_⟩
 have := blk_cell hb i
 have e : (⟨g, 0, none⟩ : Addr).add (0 * d.sz + i) = ⟨g, i, none⟩ := by simp [Addr.add]; exact Eq.symm
 rw [e]
 simpa [hu] using this
/-- a row of two elements -/
theorem C_two {α : Type} {d : Kd α} {W : World} {g : Nat} {x y : α} {cs ds : List Value} {t : TypeId} (hb : W.heap[g]? = some (.cells ⟨cs ++ ds⟩ t (0, 0))) (hx : d.K W x cs) (hy : d.K W y ds) : d.C W (some ⟨g, 0, none⟩) 2 [x, y] := by
 have l1 := d.K_len hx
 have l2 := d.K_len hy
 refine ⟨rfl, by decide, fun _ => ⟨⟨g, 0, none⟩, rfl, fun j p hj => ?_⟩⟩
 have hat : ∀ i, (⟨g, 0, none⟩ : Addr).add i = ⟨g, i, none⟩ := fun i => add_plain g i
 match j, hj with
 | 0, hj =>
  cases hj
  refine ⟨cs, l1, hx, fun i u hu => ?_⟩
  have hi := (List.getElem?_eq_some_iff.1 hu).1
  have := blk_cell hb i
  rw [hat]
  rw [show 0 * d.sz + i = i by omega, this]
  simp [List.getElem?_append_left hi, hu]
 | 1, hj =>
  cases hj
  refine ⟨ds, l2, hy, fun i u hu => ?_⟩
  have := blk_cell hb (d.sz + i)
  rw [hat]
  rw [show 1 * d.sz + i = d.sz + i by omega, this, ← l1]
  simp only [List.getElem?_toArray]
  rw [List.getElem?_append_right (by omega), show cs.length + i - cs.length = i by omega, hu]
def exMI : S25 := ⟨2, ⟨#[97]⟩, ⟨#[49]⟩, [], []⟩
def exMK : S25 := ⟨1, ⟨#[97]⟩, ⟨#[120]⟩, [], []⟩
def exMN : S25 := ⟨7, ⟨#[]⟩, ⟨#[]⟩, [], [exMK]⟩
def exMA : S25 := ⟨5, ⟨#[]⟩, ⟨#[]⟩, [], [z25, exMN]⟩
def exML : List S68 := [⟨⟨#[98]⟩, ⟨#[50]⟩⟩]
theorem exM_chk : chkB exMA = true := by kernel_rfl
theorem exM_ev : evalB exML exMA = true := by kernel_rfl
theorem exM_evI : evalB exML exMI = true := by kernel_rfl
theorem exM_text : tB exMA = ⟨#[38, 40, 42, 44, 33, 40, 97, 61, 34, 120, 34, 41, 41]⟩ := by kernel_rfl
theorem k68_one (W : World) (x : S68) : k68.K W x [.string x.f0, .string x.f1] := k68.K_of_M (k68_mkM W 0 (fun _ => True) x)
theorem exEvalI (W : World) (A : Option Addr) (hC : Kd.C k68 W A 1 exML) : Calls Try.prog 55 #[.agg #[.int .i64 2, .string ⟨#[97]⟩, .string ⟨#[49]⟩, .slice none 0 0, .slice none 0 0], .slice A 1 1] W fun e w' => e = .returned (.bool true) ∧ Below W.heap.size W w' :=
 Eval55 W exMI none 0 none 0 A 1 exML true exM_evI (by decide) ⟨Nat.le_refl _, Kd.C_nil _ _, Nat.le_refl _, Kd.C_nil _ _⟩ (by decide) (by decide) hC
theorem exTextA (W : World) (A : Option Addr) (hM : MC W exMA none 0 A 2) : Calls Try.prog 61 #[.agg #[.int .i64 5, .string ⟨#[]⟩, .string ⟨#[]⟩, .slice none 0 0, .slice A 2 2]] W fun e w' => e = .returned (.string ⟨#[38, 40, 42, 44, 33, 40, 97, 61, 34, 120, 34, 41, 41]⟩) ∧ Below W.heap.size W w' := by
 have h := Text61 W exMA none 0 A 2 exM_chk hM
 rw [exM_text] at h
 exact h
theorem exCheckA (W : World) (A : Option Addr) (hM : MC W exMA none 0 A 2) : Calls Try.prog 53 #[.agg #[.int .i64 5, .string ⟨#[]⟩, .string ⟨#[]⟩, .slice none 0 0, .slice A 2 2]] W fun e w' => e = .returned (.bool true) ∧ Below W.heap.size W w' := check53v W exMA none 0 A 2 true exM_chk hM
theorem exEvalA (W : World) (A B : Option Addr) (hM : MC W exMA none 0 A 2) (hC : Kd.C k68 W B 1 exML) : Calls Try.prog 55 #[.agg #[.int .i64 5, .string ⟨#[]⟩, .string ⟨#[]⟩, .slice none 0 0, .slice A 2 2], .slice B 1 1] W fun e w' => e = .returned (.bool true) ∧ Below W.heap.size W w' :=
 Eval55 W exMA none 0 A 2 B 1 exML true exM_ev (by decide) hM (by decide) (by decide) hC
/-- the example in memory -/
theorem exM_world (w : World) : ∃ W : World, ((((w.alloc (.cells #[.string ⟨#[98]⟩, .string ⟨#[50]⟩] 68)).alloc (.cells #[.int .i64 1, .string ⟨#[97]⟩, .string ⟨#[120]⟩, .slice none 0 0, .slice none 0 0] 25)).alloc (.cells #[.int .i64 0, .string ⟨#[]⟩, .string ⟨#[]⟩, .slice none 0 0, .slice none 0 0, .int .i64 7, .string ⟨#[]⟩, .string ⟨#[]⟩, .slice none 0 0, .slice (some ⟨w.heap.size + 1, 0, none⟩) 1 1] 25)).alloc (.cells #[.int .i64 5, .string ⟨#[]⟩, .string ⟨#[]⟩, .slice none 0 0, .slice (some ⟨w.heap.size + 1 + 1, 0, none⟩) 2 2] 25)) = W ∧ Below w.heap.size w W ∧ Kd.C k68 W (some ⟨w.heap.size, 0, none⟩) exML.length exML ∧ MC W exMA none 0 (some ⟨w.heap.size + 1 + 1, 0, none⟩) 2 ∧
  BoxM W (w.heap.size + 1 + 1 + 1) 5 ⟨#[]⟩ ⟨#[]⟩ (.slice none 0 0) (.slice (some ⟨w.heap.size + 1 + 1, 0, none⟩) 2 2) := by
 refine ⟨_, rfl, below_alloc (below_alloc (below_alloc (below_alloc (Below.refl _ _) _) _) _) _, ?_, ?_, ?_⟩
 ·have h := blk_new w (.cells #[.string ⟨#[98]⟩, .string ⟨#[50]⟩] 68)
  have hC : Kd.C k68 (w.alloc (.cells #[.string ⟨#[98]⟩, .string ⟨#[50]⟩] 68)) (some ⟨w.heap.size, 0, none⟩) 1 exML := C_one' h (k68_one _ ⟨⟨#[98]⟩, ⟨#[50]⟩⟩)
  exact Kd.C_alloc (Kd.C_alloc (Kd.C_alloc hC _) _) _
 ·refine ⟨Nat.le_refl _, Kd.C_nil _ _, Nat.le_refl _, ?_⟩
  refine Kd.C_alloc ?_ _
  have h := blk_new ((w.alloc (.cells #[.string ⟨#[98]⟩, .string ⟨#[50]⟩] 68)).alloc (.cells #[.int .i64 1, .string ⟨#[97]⟩, .string ⟨#[120]⟩, .slice none 0 0, .slice none 0 0] 25)) (.cells #[.int .i64 0, .string ⟨#[]⟩, .string ⟨#[]⟩, .slice none 0 0, .slice none 0 0, .int .i64 7, .string ⟨#[]⟩, .string ⟨#[]⟩, .slice none 0 0, .slice (some ⟨w.heap.size + 1, 0, none⟩) 1 1] 25)
  have e : ((w.alloc (.cells #[.string ⟨#[98]⟩, .string ⟨#[50]⟩] 68)).alloc (.cells #[.int .i64 1, .string ⟨#[97]⟩, .string ⟨#[120]⟩, .slice none 0 0, .slice none 0 0] 25)).heap.size = w.heap.size + 1 + 1 := by simp
  rw [e] at h
  have hk := blk_new (w.alloc (.cells #[.string ⟨#[98]⟩, .string ⟨#[50]⟩] 68)) (.cells #[.int .i64 1, .string ⟨#[97]⟩, .string ⟨#[120]⟩, .slice none 0 0, .slice none 0 0] 25)
  rw [World.size_alloc] at hk
  have hK : Kd.C k25 ((w.alloc (.cells #[.string ⟨#[98]⟩, .string ⟨#[50]⟩] 68)).alloc (.cells #[.int .i64 1, .string ⟨#[97]⟩, .string ⟨#[120]⟩, .slice none 0 0, .slice none 0 0] 25)) (some ⟨w.heap.size + 1, 0, none⟩) 1 [exMK] :=
   C_one' hk (k25_mk _ exMK (Nat.le_refl _) (Kd.C_nil _ _) (Nat.le_refl _) (Kd.C_nil _ _))
  exact C_two (cs := [.int .i64 0, .string ⟨#[]⟩, .string ⟨#[]⟩, .slice none 0 0, .slice none 0 0]) (ds := [.int .i64 7, .string ⟨#[]⟩, .string ⟨#[]⟩, .slice none 0 0, .slice (some ⟨w.heap.size + 1, 0, none⟩) 1 1]) h
   (k25_mk _ z25 (Nat.le_refl _) (Kd.C_nil _ _) (Nat.le_refl _) (Kd.C_nil _ _)) (k25_mk _ exMN (Nat.le_refl _) (Kd.C_nil _ _) (Nat.le_refl _) (Kd.C_alloc hK _))
 ·have h := blk_new (((w.alloc (.cells #[.string ⟨#[98]⟩, .string ⟨#[50]⟩] 68)).alloc (.cells #[.int .i64 1, .string ⟨#[97]⟩, .string ⟨#[120]⟩, .slice none 0 0, .slice none 0 0] 25)).alloc (.cells #[.int .i64 0, .string ⟨#[]⟩, .string ⟨#[]⟩, .slice none 0 0, .slice none 0 0, .int .i64 7, .string ⟨#[]⟩, .string ⟨#[]⟩, .slice none 0 0, .slice (some ⟨w.heap.size + 1, 0, none⟩) 1 1] 25)) (.cells #[.int .i64 5, .string ⟨#[]⟩, .string ⟨#[]⟩, .slice none 0 0, .slice (some ⟨w.heap.size + 1 + 1, 0, none⟩) 2 2] 25)
  rw [World.size_alloc, World.size_alloc, World.size_alloc] at h
  exact h
set_option maxRecDepth 100000 in
set_option maxHeartbeats 4000000 in
/-- varvelaw12.awake. -/
theorem awake52 (w : World) : Calls Try.prog 52 #[] w fun e w' => e = .returned (.bool true) ∧ Below w.heap.size w w' := by
 obtain ⟨W3, e3, hB, hL, hM, hX⟩ := exM_world w
 have E3 := Lib.hid e3
 clear e3
 go_enter Try.func52, Try.ntmps52
 go_wp2_with fail
 rw [E3.out]
 (with_reducible refine (exEvalI _ _ hL).mono ?_)
 rintro e w1 ⟨rfl, hb1⟩
 have hX1 := hX.below hb1
 have hB1 := below_step hB hb1
 have hM1 := hM.below hb1
 have hL1 := Kd.C_below hL hb1
 have c0 := hX1.c0
 have c1 := hX1.c1
 have c2 := hX1.c2
 have c3 := hX1.c3
 have c4 := hX1.c4
 clear hX hB hM hL hb1
 go_wp2_with fail
 (with_reducible refine (exTextA _ _ hM1).mono ?_)
 rintro e w2 ⟨rfl, hb2⟩
 have hX2 := hX1.below hb2
 have hB2 := below_step hB1 hb2
 have hM2 := hM1.below hb2
 have hL2 := Kd.C_below hL1 hb2
 have c0 := hX2.c0
 have c1 := hX2.c1
 have c2 := hX2.c2
 have c3 := hX2.c3
 have c4 := hX2.c4
 clear hX1 hB1 hM1 hL1 hb2
 go_wp2_with fail
 (with_reducible refine (exCheckA _ _ hM2).mono ?_)
 rintro e w3 ⟨rfl, hb3⟩
 have hX3 := hX2.below hb3
 have hB3 := below_step hB2 hb3
 have hM3 := hM2.below hb3
 have hL3 := Kd.C_below hL2 hb3
 have c0 := hX3.c0
 have c1 := hX3.c1
 have c2 := hX3.c2
 have c3 := hX3.c3
 have c4 := hX3.c4
 clear hX2 hB2 hM2 hL2 hb3
 go_wp2_with fail
 (with_reducible refine (exEvalA _ _ _ hM3 hL3).mono ?_)
 rintro e w4 ⟨rfl, hb4⟩
 go_wp2_with fail
 go_ret
 exact ⟨rfl, below_step hB3 hb4⟩
end Go.Proofs.Yteafilojjdfllaa
end
section
namespace Go.Proofs.Yteafilojjdfllaa
open Go Go.RowKit Go.Proofs.YteafilojjdfllaaW.PrintWords Go.Proofs.YteafilojjdfllaaW.PrintLast Go.Proofs.YteafilojjdfllaaW.PrintMore Go.Proofs.Yteafilojjdfllaa.PAll
set_option linter.unusedVariables false
set_option linter.unusedSimpArgs false
/-- a matcher's text, parsed -/
theorem parseM_text {m : S25} (h : chkB m = true) : parseM (tB m) = some m ∧ deepW 0 false (tB m).data.toList = false := by
 obtain ⟨h1, h2, h3, h4⟩ := chk_def.1 h
 have e : (tB m).data.toList = textM m := rfl
 have hr := readM_text (emp := true) right_P cuts_M _ m 8 64 [] (Nat.le_refl _) h1 (by omega) (by omega) (by omega)
 have hd := deep_text _ m 0 [] (Nat.le_refl _) h1 (by omega)
 rw [List.append_nil] at hr hd
 constructor
 ·unfold parseM
  rw [e, hr]
  simp [h]
 ·rw [e, hd, deepW]
theorem parseM_some {s : ByteArray} {m : S25} (h : parseM s = some m) : chkB m = true ∧ tB m = s := by
 unfold parseM at h
 split at h
 ·cases h
 ·next q hq =>
  split at h
  ·next hc => cases h; exact hc
  ·cases h
end Go.Proofs.Yteafilojjdfllaa
end
section
namespace Go.Proofs.Yteafilojjdfllaa
open Go Go.RowKit Go.Proofs.YteafilojjdfllaaW.PrintWords Go.Proofs.YteafilojjdfllaaW.PrintLast Go.Proofs.YteafilojjdfllaaW.PrintMore Go.Proofs.Yteafilojjdfllaa.PAll
set_option maxRecDepth 100000 in
set_option maxHeartbeats 8000000 in
theorem same90 : ∀ (N : Nat) (m : S25), nodesM m ≤ N → nodesM m ≤ 1000 → m.f3.length ≤ 1000 → wideM m → ∀ (A3 : Option Addr) (c3 : Nat) (A4 : Option Addr) (c4 : Nat) (B3 : Option Addr) (d3 : Nat) (B4 : Option Addr) (d4 : Nat) (w : World), MC w m A3 c3 A4 c4 → MC w m B3 d3 B4 d4 →
  Calls Try.prog 90 #[.agg #[.int .i64 m.f0, .string m.f1, .string m.f2, .slice A3 m.f3.length c3, .slice A4 m.f4.length c4], .agg #[.int .i64 m.f0, .string m.f1, .string m.f2, .slice B3 m.f3.length d3, .slice B4 m.f4.length d4]] w fun e w' => e = .returned (.bool true) ∧ Below w.heap.size w w' := by
 intro N
 induction N with
 | zero => intro m h; rw [nodesM_mk] at h; omega
 | succ N ih =>
  rintro ⟨op, t1, t2, vs, ks⟩ hN h1000 hv1000 hw
  have IH := Lib.hid ih
  clear ih
  intro A3 c3 A4 c4 B3 d3 B4 d4 w hM hM'
  obtain ⟨hw1, hw2⟩ := (wideM_mk _).1 hw
  simp only at hw1 hv1000 hM hM'
  have Hw2 := Lib.hid hw2
  have hks : ks.length ≤ 1000 := by have := len_nodes ks; rw [nodesM_mk] at h1000; simp only at h1000; omega
  obtain ⟨V0, eV0⟩ : ∃ V0, V0 = w.alloc (.cells #[.int .i64 op, .string t1, .string t2, .slice A3 vs.length c3, .slice A4 ks.length c4] 25) := ⟨_, rfl⟩
  obtain ⟨V, eV⟩ : ∃ V, V = V0.alloc (.cells #[.int .i64 op, .string t1, .string t2, .slice B3 vs.length d3, .slice B4 ks.length d4] 25) := ⟨_, rfl⟩
  have hs0 : V0.heap.size = w.heap.size + 1 := by rw [eV0]; simp
  have hB0 : Below w.heap.size w V := by rw [eV, eV0]; exact below_alloc (below_alloc (Below.refl _ _) _) _
  have hX : BoxM V w.heap.size op t1 t2 (.slice A3 vs.length c3) (.slice A4 ks.length c4) := by rw [eV]; exact blk_alloc (by rw [eV0]; exact blk_new w _) _
  have hY : BoxM V (w.heap.size + 1) op t1 t2 (.slice B3 vs.length d3) (.slice B4 ks.length d4) := by rw [eV, ← hs0]; exact blk_new V0 _
  have HM := Lib.hid hM
  have HM' := Lib.hid hM'
  clear hM hM' hw hw2
  have hq : (op == op) = true := beq_self_eq_true _
  have x0 := hX.c0
  have x1 := hX.c1
  have x2 := hX.c2
  have x3 := hX.c3
  have x4 := hX.c4
  have y0 := hY.c0
  have y1 := hY.c1
  have y2 := hY.c2
  have y3 := hY.c3
  have y4 := hY.c4
  go_enter Try.func90, Try.ntmps90
  go_wp2_with fail
  rw [← eV0, ← eV]
  clear eV eV0 hs0
  go_loopw [5] (fun u5 wr => ∃ (j : Nat), u5 = .int .i64 j ∧ j ≤ vs.length ∧ Below V.heap.size V wr)
   (fun u5 _ => vs.length - (intOf u5).toNat)
  case atStart => exact ⟨0, rfl, Nat.zero_le _, Below.refl _ _⟩
  case round =>
   obtain ⟨j, rfl, hj, hB⟩ := hrel
   clear x0 x1 x2 x3 x4 y0 y1 y2 y3 y4
   have x3 := (hX.below hB).c3
   have x4 := (hX.below hB).c4
   have y3 := (hY.below hB).c3
   have y4 := (hY.below hB).c4
   by_cases hlt : j < vs.length
   ·obtain ⟨ad, rfl, a0⟩ := Kd.at_string (Kd.C_below (Kd.C_below HM.out.2.1 hB0) hB) (j : Int) (by omega) (by show (j : Int) < (vs.length : Int); omega)
    obtain ⟨ad2, rfl, b0⟩ := Kd.at_string (Kd.C_below (Kd.C_below HM'.out.2.1 hB0) hB) (j : Int) (by omega) (by show (j : Int) < (vs.length : Int); omega)
    simp only [Int.toNat_natCast] at a0 b0
    go_wp2
    go_quiet (fail)
    go_wp2
    go_roundw
    case rel => exact ⟨j + 1, by go_num, by omega, by repeat (first | exact hB | apply pw_below_drewN | apply below_drew)⟩
    case measure => simp [intOf]; omega
   ·obtain rfl : j = vs.length := by omega
    rename World => wo
    go_wp2
    go_loopw [6] (fun u6 wr => ∃ (i : Nat), u6 = .int .i64 i ∧ i ≤ ks.length ∧ Below V.heap.size V wr)
     (fun u6 _ => ks.length - (intOf u6).toNat)
    case atStart => exact ⟨0, rfl, Nat.zero_le _, hB⟩
    case round =>
     obtain ⟨i, rfl, hi, hBi⟩ := hrel
     clear x3 x4 y3 y4
     have x4 := (hX.below hBi).c4
     have y4 := (hY.below hBi).c4
     by_cases hlt2 : i < ks.length
     ·obtain ⟨ad, F3, e3, F4, e4, rfl, hMk, k0, k1, k2, k3, k4⟩ := ((HM.out.below hB0).below hBi).kid i hlt2
      obtain ⟨ad2, G3, g3, G4, g4, rfl, hMq, q0, q1, q2, q3, q4⟩ := ((HM'.out.below hB0).below hBi).kid i hlt2
      simp only at hMk hMq k0 k1 k2 k3 k4 q0 q1 q2 q3 q4
      have hmem : ks.getD i z25 ∈ ks := by simp [List.getD_eq_getElem?_getD, hlt2]
      have hsmall := nodes_lt ⟨op, t1, t2, vs, ks⟩ _ hmem
      have Hwk := Lib.hid (wideL_at Hw2.out hlt2)
      obtain ⟨kid, ek⟩ : ∃ kid, ks.getD i z25 = kid := ⟨_, rfl⟩
      rw [ek] at hMk hMq k0 k1 k2 k3 k4 q0 q1 q2 q3 q4 hsmall Hwk
      clear ek hmem
      have HMk := Lib.hid (hMk.below (below_drew (Below.refl _ _)))
      have HMq := Lib.hid (hMq.below (below_drew (Below.refl _ _)))
      clear hMk hMq
      have hv1 : kid.f3.length ≤ 1000 := by have := ((wideM_mk _).1 Hwk.out).1; omega
      go_wp2
      go_region_held3 (fun w' => w'.cell? ⟨w.heap.size, 4, none⟩ = some (.slice (some ad) ks.length c4) ∧ w'.cell? ⟨w.heap.size + 1, 4, none⟩ = some (.slice (some ad2) ks.length d4) ∧ w'.cell? (ad.add (i * 5)) = some (.int .i64 kid.f0) ∧ w'.cell? ⟨(ad.add (i * 5)).block, (ad.add (i * 5)).off + 1, none⟩ = some (.string kid.f1) ∧ w'.cell? ⟨(ad.add (i * 5)).block, (ad.add (i * 5)).off + 2, none⟩ = some (.string kid.f2) ∧ w'.cell? ⟨(ad.add (i * 5)).block, (ad.add (i * 5)).off + 3, none⟩ = some (.slice F3 kid.f3.length e3) ∧ w'.cell? ⟨(ad.add (i * 5)).block, (ad.add (i * 5)).off + 4, none⟩ = some (.slice F4 kid.f4.length e4) ∧ w'.cell? (ad2.add (i * 5)) = some (.int .i64 kid.f0) ∧ w'.cell? ⟨(ad2.add (i * 5)).block, (ad2.add (i * 5)).off + 1, none⟩ = some (.string kid.f1) ∧ w'.cell? ⟨(ad2.add (i * 5)).block, (ad2.add (i * 5)).off + 2, none⟩ = some (.string kid.f2) ∧ w'.cell? ⟨(ad2.add (i * 5)).block, (ad2.add (i * 5)).off + 3, none⟩ = some (.slice G3 kid.f3.length g3) ∧ w'.cell? ⟨(ad2.add (i * 5)).block, (ad2.add (i * 5)).off + 4, none⟩ = some (.slice G4 kid.f4.length g4) ∧ Below V.heap.size V w')
       (first | exact ⟨x4, y4, k0, k1, k2, k3, k4, q0, q1, q2, q3, q4, below_drew hBi⟩ | exact ⟨pw_cell_below hb5 x4, pw_cell_below hb5 y4, pw_cell_below hb5 k0, pw_cell_below hb5 k1, pw_cell_below hb5 k2, pw_cell_below hb5 k3, pw_cell_below hb5 k4, pw_cell_below hb5 q0, pw_cell_below hb5 q1, pw_cell_below hb5 q2, pw_cell_below hb5 q3, pw_cell_below hb5 q4, below_step (below_drew hBi) hb5⟩)
       (first | (go_at_call 90; (with_reducible refine (IH.out kid (by omega) (by omega) hv1 Hwk.out F3 e3 F4 e4 G3 g3 G4 g4 _ HMk.out HMq.out).mono ?_); rintro e w5 ⟨rfl, hb5⟩))
      rename_i hS
      have hbel := hS.2.2.2.2.2.2.2.2.2.2.2.2
      clear hS
      go_wp2
      go_roundw
      case rel => exact ⟨i + 1, by go_num, by omega, hbel⟩
      case measure => simp [intOf]; omega
     ·obtain rfl : i = ks.length := by omega
      go_wp2
      go_ret
      exact ⟨rfl, below_step hB0 hBi⟩
end Go.Proofs.Yteafilojjdfllaa
end
section
namespace Go.Proofs.Yteafilojjdfllaa
open Go Go.RowKit Go.Proofs.YteafilojjdfllaaW.PrintWords Go.Proofs.YteafilojjdfllaaW.PrintLast Go.Proofs.YteafilojjdfllaaW.PrintMore Go.Proofs.Yteafilojjdfllaa.PAll
set_option linter.unusedVariables false
set_option linter.unusedSimpArgs false
theorem wideL_all : ∀ (ks : List S25), (∀ k ∈ ks, wideM k) → wideL ks
 | [], _ => trivial
 | k :: ks, h => ⟨h k (List.mem_cons_self ..), wideL_all ks (fun x hx => h x (List.mem_cons_of_mem _ hx))⟩
theorem ok_wide2 : ∀ (N : Nat) (m : S25), nodesM m ≤ N → okM m = true → wideM m
 | 0, m, h, _ => by rw [nodesM_mk] at h; omega
 | N + 1, m, h, hok => by
  rw [wideM_mk]
  rcases shape hok with rfl | ⟨op, n, v, ho, hn, rfl⟩ | ⟨n, vs, hn, rfl⟩ | ⟨op, ks, ho, hk, rfl⟩
  ·exact ⟨by simp, trivial⟩
  ·exact ⟨by simp, trivial⟩
  ·exact ⟨by have := ok_vals16 hok; simp only; omega, trivial⟩
  ·refine ⟨by simp, wideL_all ks (fun k hkm => ok_wide2 N k ?_ (okL_mem hk hkm))⟩
   have := nodes_lt ⟨op, ⟨#[]⟩, ⟨#[]⟩, [], ks⟩ k hkm
   omega
/-- what the document's Parse makes of a matcher's text -/
theorem parseD_text {m : S25} (h : chkB m = true) : parseD (tB m) = some m := by
 obtain ⟨h1, h2, h3, h4⟩ := chk_def.1 h
 have e : (tB m).data.toList = textM m := rfl
 have hr := readM_text (emp := false) right_R cuts_N _ m 65 64 [] (Nat.le_refl _) h1 (by omega) (by omega) (by omega)
 rw [List.append_nil] at hr
 unfold parseD
 rw [e, hr]
 simp [h]
theorem parse_same (s : ByteArray) : parseM s = parseD s := by
 cases hM : parseM s with
 | some m =>
  obtain ⟨h1, h2⟩ := parseM_some hM
  rw [← h2, parseD_text h1]
 | none =>
  cases hD : parseD s with
  | none => rfl
  | some m =>
   obtain ⟨h1, h2⟩ := parseD_some hD
   rw [← h2, (parseM_text h1).1] at hM
   cases hM
theorem same_ok {m : S25} {A3 : Option Addr} {c3 : Nat} {A4 : Option Addr} {c4 : Nat} {B3 : Option Addr} {d3 : Nat} {B4 : Option Addr} {d4 : Nat} (w : World) (hc : chkB m = true) (hM : MC w m A3 c3 A4 c4) (hN : MC w m B3 d3 B4 d4) :
  Calls Try.prog 90 #[mV m A3 c3 A4 c4, mV m B3 d3 B4 d4] w fun e w' => e = .returned (.bool true) ∧ Below w.heap.size w w' := by
 obtain ⟨h1, h2, h3, h4⟩ := chk_def.1 hc
 have hw := ok_wide2 _ m (Nat.le_refl _) h1
 have := (wideM_mk m).1 hw
 exact same90 _ m (Nat.le_refl _) (by omega) (by omega) hw A3 c3 A4 c4 B3 d3 B4 d4 w hM hN
/-- what both hand back -/
def resM (dp : Bool) (M : Option S25) : S25 × Int := if dp = true then (z25, 18) else match M with
 | none => (z25, 17)
 | some m => (m, 0)
theorem ParP.any {w w' : World} {dp : Bool} {M : Option S25} {e : Ending} {m : S25} {cd : Int} (hr : resM dp M = (m, cd)) (h : ParP w dp M e w') : (∃ A3 c3 A4 c4, e = .returned (.tuple #[mV m A3 c3 A4 c4, .int .i64 cd]) ∧ MC w' m A3 c3 A4 c4) ∧ Below w.heap.size w w' := by
 have hz : ∀ W, MC W z25 none 0 none 0 := fun W => ⟨Nat.le_refl _, Kd.C_nil _ _, Nat.le_refl _, Kd.C_nil _ _⟩
 obtain ⟨hb, h⟩ := h
 refine ⟨?_, hb⟩
 rcases h with ⟨rfl, rfl⟩ | ⟨rfl, rfl, rfl⟩ | ⟨m', A3, c3, A4, c4, rfl, rfl, rfl, hMF⟩
 ·cases hr
  exact ⟨none, 0, none, 0, rfl, hz _⟩
 ·cases hr
  exact ⟨none, 0, none, 0, rfl, hz _⟩
 ·cases hr
  exact ⟨A3, c3, A4, c4, rfl, hMF.now⟩
set_option maxRecDepth 100000 in
set_option maxHeartbeats 16000000 in
theorem matchParses_walk (w : World) (s : ByteArray) :
  Calls Try.prog 29 #[.string s] w fun e w' => e = .returned (.bool true) ∧ Below w.heap.size w w' := by
 by_cases hlen : 20000 < s.size
 ·have hI : (20000 : Int) < (s.size : Int) := by omega
  go_enter Try.func29, Try.ntmps29
  go_wp2_with fail
  (with_reducible refine (awake52 w).mono ?_)
  rintro e w9 ⟨rfl, hb⟩
  go_wp2_with fail
  go_ret
  exact ⟨rfl, hb⟩
 ·have hI : ¬ (20000 : Int) < (s.size : Int) := by omega
  obtain ⟨dp, edp⟩ : ∃ dp, deepW 0 false s.data.toList = dp := ⟨_, rfl⟩
  obtain ⟨M, eM⟩ : ∃ M, parseM s = M := ⟨_, rfl⟩
  obtain ⟨⟨m, cd⟩, eR⟩ : ∃ r, resM dp M = r := ⟨_, rfl⟩
  have hP : ∀ W, Calls Try.prog 92 #[.string s] W fun e w' => (∃ A3 c3 A4 c4, e = .returned (.tuple #[mV m A3 c3 A4 c4, .int .i64 cd]) ∧ MC w' m A3 c3 A4 c4) ∧ Below W.heap.size W w' := fun W => by
   have h := parse92 W s (by omega)
   rw [eM, edp] at h
   exact h.mono fun e w' h => h.any eR
  have hD : ∀ W, Calls Try.prog 94 #[.string s] W fun e w' => (∃ A3 c3 A4 c4, e = .returned (.tuple #[mV m A3 c3 A4 c4, .int .i64 cd]) ∧ MC w' m A3 c3 A4 c4) ∧ Below W.heap.size W w' := fun W => by
   have h := parse94 W s (by omega)
   rw [← parse_same s, eM, edp] at h
   exact h.mono fun e w' h => h.any eR
  have hck : chkB m = true := by
   unfold resM at eR
   cases dp with
   | true => cases eR; kernel_rfl
   | false =>
    cases M with
    | none => cases eR; kernel_rfl
    | some m' => cases eR; exact (parseM_some eM).1
  have HP := Lib.hid hP
  have HD := Lib.hid hD
  have HC := Lib.hid hck
  clear hP hD hck eM edp eR hlen
  go_enter Try.func29, Try.ntmps29
  go_wp2_with fail
  refine (HP.out _).mono ?_
  rintro e w1 ⟨⟨A3, c3, A4, c4, rfl, hMA⟩, hb1⟩
  obtain ⟨g1, eg1⟩ : ∃ g1, w1.heap.size = g1 := ⟨_, rfl⟩
  obtain ⟨w2, e2⟩ : ∃ w2, w2 = w1.alloc (.cells #[.int .i64 m.f0, .string m.f1, .string m.f2, .slice A3 m.f3.length c3, .slice A4 m.f4.length c4] 25) := ⟨_, rfl⟩
  have hb2 : Below w1.heap.size w1 w2 := by rw [e2]; exact below_alloc (Below.refl _ _) _
  have HG2 : Hid (w2.heap[g1]? = some (.cells #[.int .i64 m.f0, .string m.f1, .string m.f2, .slice A3 m.f3.length c3, .slice A4 m.f4.length c4] 25 (0, 0))) := Lib.hid (by rw [e2, ← eg1]; exact blk_new w1 _)
  have HM2 := Lib.hid (hMA.below hb2)
  have HB2 := Lib.hid (below_step hb1 hb2)
  have EG1 := Lib.hid eg1
  have E2 := Lib.hid e2
  clear hMA hb1 hb2 eg1 e2
  go_upto_region 4 with fail
  rw [EG1.out, ← E2.out]
  clear EG1 E2
  go_wp2_with fail
  refine (HD.out _).mono ?_
  rintro e w3 ⟨⟨B3, d3, B4, d4, rfl, hMB⟩, hb3⟩
  obtain ⟨g3, eg3⟩ : ∃ g3, w3.heap.size = g3 := ⟨_, rfl⟩
  obtain ⟨w4, e4⟩ : ∃ w4, w4 = w3.alloc (.cells #[.int .i64 m.f0, .string m.f1, .string m.f2, .slice B3 m.f3.length d3, .slice B4 m.f4.length d4] 25) := ⟨_, rfl⟩
  have hb4 : Below w3.heap.size w3 w4 := by rw [e4]; exact below_alloc (Below.refl _ _) _
  have hb24 := below_step hb3 hb4
  have HG4 : Hid (w4.heap[g3]? = some (.cells #[.int .i64 m.f0, .string m.f1, .string m.f2, .slice B3 m.f3.length d3, .slice B4 m.f4.length d4] 25 (0, 0))) := Lib.hid (by rw [e4, ← eg3]; exact blk_new w3 _)
  have hG24 := (hb24.block g1 (blk_lt HG2.out)).trans HG2.out
  have H5 := Lib.hid (same_ok w4 HC.out (HM2.out.below hb24) (hMB.below hb4))
  have HB4 := Lib.hid (below_step HB2.out hb24)
  have EG3 := Lib.hid eg3
  have E4 := Lib.hid e4
  have x0 := blk_cell hG24 0
  have x1 := blk_cell hG24 1
  have x2 := blk_cell hG24 2
  have x3 := blk_cell hG24 3
  have x4 := blk_cell hG24 4
  have y0 := blk_cell HG4.out 0
  have y1 := blk_cell HG4.out 1
  have y2 := blk_cell HG4.out 2
  have y3 := blk_cell HG4.out 3
  have y4 := blk_cell HG4.out 4
  simp only [List.getElem?_toArray, List.getElem?_cons_zero, List.getElem?_cons_succ] at x0 x1 x2 x3 x4 y0 y1 y2 y3 y4
  clear hMB hb3 hb4 hb24 hG24 eg3 e4
  go_upto_region 5 with fail
  rw [EG3.out, ← E4.out]
  clear EG3 E4
  go_wp2_with fail
  (with_reducible refine H5.out.mono ?_)
  rintro e w5 ⟨rfl, hb5⟩
  have HB5 := Lib.hid (below_step HB4.out hb5)
  clear hb5 H5
  go_wp2_with fail
  (with_reducible refine (awake52 w5).mono ?_)
  rintro e w6 ⟨rfl, hb6⟩
  go_wp2_with fail
  go_ret
  exact ⟨rfl, below_step HB5.out hb6⟩
end Go.Proofs.Yteafilojjdfllaa
end
section
namespace Go.Proofs.Yteafilojjdfllaa.matchParses
open Go.ChangeShapes Go.WideShapes Go.ChangeAt Go.RowKit Go.Proofs.YteafilojjdfllaaW.PrintWords Go.Proofs.Yteafilojjdfllaa.PAll
set_option linter.unusedVariables false
set_option maxRecDepth 100000 in
theorem lifted (os : Os) (started : os.Started) (H : Type) (enc : TypeId × Value → H) :
  ReturnsInHanded {} Try.checked os 29 .any (Rows.matchParsesSpec.pre6 enc Try.prog Try.f29 Rows.matchParsesRow.domain false) (Rows.matchParsesSpec.post enc Try.prog Try.f29 false true false false) := by
 refine returnsInHanded_of_change_sized (C := Try.checked) own started (by kernel_rfl) Try.func29
  (ChangeSpec.witness6 (enc := enc) (C := Try.checked) false ⟨#[], #[.string ⟨#[]⟩], []⟩ 20 (by kernel_rfl) (by kernel_rfl) (by kernel_rfl) (by kernel_rfl)) ?_
 intro W base args ds gs before hval0 hW hcnd hsz0 _
 have hsz : (DataW.weightsEach Try.prog (Try.f29.params.toList ++ Rows.matchParsesSpec.plain.varTypes Try.prog) (ds ++ gs)).all (· ≤ reachBytes) = true := hsz0
 have hval : ∀ (j : Nat) t v, Try.f29.params[j]? = some t → args[j]? = some v → Value.okWide Try.prog W .any base t v := hval0
 have hW' := hW
 obtain ⟨p, q, hA0, hV, rfl, hfz, hnd⟩ := hW
 have hA : DataW.TrodAll enc Try.prog W 0 (fun _ => true) true Try.f29.params.toList args.toList ds p := hA0
 rw [Try.params29] at hA hval hsz
 have hA0' := hA0
 obtain ⟨v0, vs0, d0, ds0, p0, q0, hargs, rfl, rfl, h0, r0⟩ := trodAll_cons hA
 obtain ⟨rfl, rfl, rfl⟩ := trodAll_nil r0
 obtain rfl : args = #[v0] := by cases args; simp_all
 obtain ⟨rfl, rfl⟩ := trodVars_none hV
 obtain ⟨s0, rfl, hs0⟩ := open_str (hval 0 9 v0 rfl rfl) h0 (hw_of (j := 0) hsz rfl rfl)
 clear hA0 hval0
 refine (matchParses_walk W s0).mono fun e W' ⟨he, bel⟩ => ?_
 subst he
 exact ⟨_, rfl, _, _, _, [], _, [], hW', trodAll_mk1 (shut_bool Try.underlying4 _), trodAll_below bel (by rw [Try.params29]; intro t ht; simp only [List.mem_cons, List.not_mem_nil, or_false] at ht; subst ht; exact ⟨by kernel_rfl, of_decide_eq_true (by kernel_rfl)⟩) hA0', rfl, bel.frame _, fun h => by cases h⟩
theorem closed : joinedFacts Try.prog 29 Try.f29 Rows.matchParsesSpec Rows.matchParsesRow = true := by
 unfold joinedFacts
 rw [pf_laid, pf_maps, pf_stops, pf_knobs, pf_plain, pf_heard, pf_enter, pf_lifts, pf_make]
 kernel_rfl
theorem inst : Try.f29.isInstance Try.prog Rows.matchParsesRow.origin Rows.matchParsesRow.targs := of_decide_eq_true (by kernel_rfl)
theorem wrap : Try.f29.isWrapper Try.prog Rows.matchParsesRow.wrapper Rows.matchParsesRow.mainSum := by
 unfold Func.isWrapper; first | (rw [if_pos (by decide +kernel)]; kernel_rfl) | (rw [if_neg (by decide +kernel)]; exact ⟨rfl, rfl⟩)
theorem over : Rows.matchParsesRow.holds Try.pinned (OpenSpec.ofChange Rows.matchParsesSpec) :=
 OpenClaim.holds_of_wide 29 Try.f29 rfl rfl rfl rfl rfl rfl rfl ⟨rfl, rfl, rfl, rfl, rfl⟩ rfl rfl rfl rfl rfl (by kernel_rfl) Try.func29 closed inst wrap
  (fun os started H enc _ => lifted os started H enc)
end Go.Proofs.Yteafilojjdfllaa.matchParses
namespace Go.Proofs.Yteafilojjdfllaa
theorem matchParses_holds : Rows.MatchParsesSaid := matchParses.over
#print axioms matchParses_holds
end Go.Proofs.Yteafilojjdfllaa
end
