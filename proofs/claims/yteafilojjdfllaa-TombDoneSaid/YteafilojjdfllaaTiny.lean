/- Own text: Tiny: what it says yes to has bounds. -/
import Derived.Test.YteafilojjdfllaaLook
namespace Go.Proofs.Yteafilojjdfllaa
open Go Go.RowKit Go.Proofs.YteafilojjdfllaaW.PrintWords Go.Proofs.YteafilojjdfllaaW.PrintLast Go.Proofs.YteafilojjdfllaaW.PrintMore Go.Proofs.Yteafilojjdfllaa.PAll

mutual
/-- not too many values -/
def wideM : S25 → Prop
  | ⟨_, _, _, vs, ks⟩ => vs.length ≤ 40 ∧ wideL ks
def wideL : List S25 → Prop
  | [] => True
  | k :: ks => wideM k ∧ wideL ks
end
theorem wideM_mk (m : S25) : wideM m ↔ m.f3.length ≤ 40 ∧ wideL m.f4 := by cases m; simp [wideM]
theorem wideL_take : ∀ {ks : List S25} {j : Nat}, j < ks.length → wideL (ks.take j) → wideM (ks.getD j z25) → wideL (ks.take (j + 1))
  | [], j, h, _, _ => by simp at h
  | k :: ks, 0, _, _, h => by simpa [wideL] using h
  | k :: ks, j + 1, hj, h1, h2 => by
    simp only [List.take_succ_cons, wideL] at h1 ⊢
    exact ⟨h1.1, wideL_take (by simpa using hj) h1.2 (by simpa using h2)⟩
theorem boundL_take : ∀ {ks : List S25} {j : Nat}, j < ks.length → boundL (ks.take j) → boundM (ks.getD j z25) → boundL (ks.take (j + 1))
  | [], j, h, _, _ => by simp at h
  | k :: ks, 0, _, _, h => by simpa [boundL] using h
  | k :: ks, j + 1, hj, h1, h2 => by
    simp only [List.take_succ_cons, boundL] at h1 ⊢
    exact ⟨h1.1, boundL_take (by simpa using hj) h1.2 (by simpa using h2)⟩
theorem depthL_take : ∀ {ks : List S25} {j : Nat}, j < ks.length → depthL (ks.take (j + 1)) = max (depthL (ks.take j)) (depthM (ks.getD j z25))
  | [], j, h => by simp at h
  | k :: ks, 0, _ => by simp [depthL]
  | k :: ks, j + 1, hj => by
    have := depthL_take (ks := ks) (j := j) (by simpa using hj)
    simp only [List.take_succ_cons, depthL, this, List.getD_cons_succ]; omega

/-- what Tiny says yes to -/
def tinyP (d : Int) (m : S25) : Prop := d + depthM m ≤ 12 ∧ boundM m ∧ wideM m ∧ nodesM m ≤ 200

def Cnt (W : World) (g : Nat) (n : Int) : Prop := W.heap[g]? = some (.cells #[.int .i64 n] 3 (0, 0))
theorem Cnt.c {W : World} {g : Nat} {n : Int} (h : Cnt W g n) : W.cell? ⟨g, 0, none⟩ = some (.int .i64 n) := (blk_cell h 0).trans rfl
theorem Cnt.z {W : World} {g : Nat} {n : Int} (h : Cnt W g n) : W.frozen? ⟨g, 0, none⟩ = false := blk_frozen h 0
theorem Cnt.lt {W : World} {g : Nat} {n : Int} (h : Cnt W g n) : g < W.heap.size := (Array.getElem?_eq_some_iff.1 h).1
theorem Cnt.set {W : World} {g : Nat} {n : Int} (h : Cnt W g n) (x : Int) : Cnt (W.setCell ⟨g, 0, none⟩ (.int .i64 x)) g x := by simpa [Cnt] using blk_set h 0 (.int .i64 x)
theorem Cnt.below {W X : World} {g : Nat} {n : Int} (h : Cnt W g n) (hb : Below W.heap.size W X) : Cnt X g n := (hb.block g h.lt).trans h
theorem Cnt.alloc {W : World} {g : Nat} {n : Int} (h : Cnt W g n) (o : Obj) : Cnt (W.alloc o) g n := h.below (below_alloc (Below.refl _ _) o)

def TinyPost (w0 w : World) (g : Nat) (d : Int) (m : S25) (n : Int) (e : Ending) (w' : World) : Prop :=
  ∃ (v : Bool) (n' : Int), e = .returned (.bool v) ∧ Below w0.heap.size w0 w' ∧ KeepBut w w' g none ∧ Cnt w' g n' ∧ (v = true → d + depthM m ≤ 12 ∧ boundM m ∧ wideM m ∧ n' = n + nodesM m ∧ n' ≤ 200)
theorem TinyPost.no {w0 w w' : World} {g : Nat} {d : Int} {m : S25} {n n' : Int} (hB : Below w0.heap.size w0 w') (hK : KeepBut w w' g none) (hC : Cnt w' g n') : TinyPost w0 w g d m n (.returned (.bool false)) w' :=
  ⟨false, n', rfl, hB, hK, hC, fun h => by cases h⟩

set_option maxRecDepth 100000 in
set_option maxHeartbeats 8000000 in
theorem tiny95 : ∀ (N : Nat) (m : S25), nodesM m ≤ N → ∀ (d n : Int) (A3 : Option Addr) (c3 : Nat) (A4 : Option Addr) (c4 : Nat) (g : Nat) (w0 w : World), 0 ≤ d → d ≤ 100 → 0 ≤ n → n ≤ 200 →
    MC w0 m A3 c3 A4 c4 → Below w0.heap.size w0 w → w0.heap.size ≤ g → Cnt w g n →
    Calls Try.prog 95 #[.agg #[.int .i64 m.f0, .string m.f1, .string m.f2, .slice A3 m.f3.length c3, .slice A4 m.f4.length c4], .pointer (some ⟨g, 0, none⟩), .int .i64 d] w (TinyPost w0 w g d m n) := by
  intro N
  induction N with
  | zero => intro m h; rw [nodesM_mk] at h; omega
  | succ N ih =>
    rintro ⟨op, t1, t2, vs, ks⟩ hN
    have IH := Lib.hid ih
    clear ih
    intro d n A3 c3 A4 c4 g w0 w hd0 hd1 hn0 hn1 hM hB hg hC
    have hgl := hC.lt
    have hne : w.heap.size ≠ g := by omega
    have q0 := hC.c
    have z0 := hC.z
    have r0 := (hC.alloc (.cells #[.int .i64 op, .string t1, .string t2, .slice A3 vs.length c3, .slice A4 ks.length c4] 25)).c
    have s0 := (hC.alloc (.cells #[.int .i64 op, .string t1, .string t2, .slice A3 vs.length c3, .slice A4 ks.length c4] 25)).z
    have hC2 := (hC.set (n + 1)).alloc (.cells #[.int .i64 op, .string t1, .string t2, .slice A3 vs.length c3, .slice A4 ks.length c4] 25)
    have q1 := hC2.c
    have hB2 : Below w0.heap.size w0 ((w.setCell ⟨g, 0, none⟩ (.int .i64 (n + 1))).alloc (.cells #[.int .i64 op, .string t1, .string t2, .slice A3 vs.length c3, .slice A4 ks.length c4] 25)) := below_alloc (hB.setCell hg _) _
    have hK2 : KeepBut w ((w.setCell ⟨g, 0, none⟩ (.int .i64 (n + 1))).alloc (.cells #[.int .i64 op, .string t1, .string t2, .slice A3 vs.length c3, .slice A4 ks.length c4] 25)) g none := ((KeepBut.refl w g none).set_ 0 _).trans (KeepBut.of_below (below_alloc (Below.refl _ _) _) g none) (.inl rfl)
    have hX2 : BoxM ((w.setCell ⟨g, 0, none⟩ (.int .i64 (n + 1))).alloc (.cells #[.int .i64 op, .string t1, .string t2, .slice A3 vs.length c3, .slice A4 ks.length c4] 25)) w.heap.size op t1 t2 (.slice A3 vs.length c3) (.slice A4 ks.length c4) := by
      have := blk_new (w.setCell ⟨g, 0, none⟩ (.int .i64 (n + 1))) (.cells #[.int .i64 op, .string t1, .string t2, .slice A3 vs.length c3, .slice A4 ks.length c4] 25)
      simpa [BoxM] using this
    have x1 := hX2.c1
    have x2 := hX2.c2
    have x3 := hX2.c3
    have x4 := hX2.c4
    by_cases h200 : 200 < n + 1
    · go_enter Try.func95, Try.ntmps95
      go_wp2
      go_ret
      exact TinyPost.no hB2 hK2 hC2
    by_cases h11 : 11 < d
    · go_enter Try.func95, Try.ntmps95
      go_wp2
      go_ret
      exact TinyPost.no hB2 hK2 hC2
    by_cases h300 : 300 < t1.size
    · go_enter Try.func95, Try.ntmps95
      go_wp2
      go_ret
      exact TinyPost.no hB2 hK2 hC2
    by_cases h5000 : 5000 < t2.size
    · go_enter Try.func95, Try.ntmps95
      go_wp2
      go_ret
      exact TinyPost.no hB2 hK2 hC2
    by_cases h40 : 40 < vs.length
    · go_enter Try.func95, Try.ntmps95
      go_wp2
      go_ret
      exact TinyPost.no hB2 hK2 hC2
    go_enter Try.func95, Try.ntmps95
    go_wp2
    clear q0 z0 r0 s0 q1
    obtain ⟨W2, e2⟩ : ∃ W2, (w.setCell ⟨g, 0, none⟩ (.int .i64 (n + 1))).alloc (.cells #[.int .i64 op, .string t1, .string t2, .slice A3 vs.length c3, .slice A4 ks.length c4] 25) = W2 := ⟨_, rfl⟩
    rw [e2] at hC2 hB2 hK2 hX2 x1 x2 x3 x4 ⊢
    clear e2
    go_loopw [7] (fun u7 wr => ∃ j : Nat, u7 = .int .i64 j ∧ j ≤ vs.length ∧ wr = W2 ∧ Hid (∀ i, i < j → (vs.getD i ByteArray.empty).size ≤ 300))
      (fun u7 _ => vs.length - (intOf u7).toNat)
    case atStart => exact ⟨0, rfl, Nat.zero_le _, rfl, Lib.hid (fun i h => by omega)⟩
    case round =>
      obtain ⟨j, rfl, hj, rfl, hall⟩ := hrel
      by_cases hlt : j < vs.length
      · obtain ⟨ad, rfl, hcell⟩ := hM.value j hlt
        have hcell := pw_cell_below hB2 hcell
        simp only at hcell
        obtain ⟨v, ev⟩ : ∃ v, vs.getD j ByteArray.empty = v := ⟨_, rfl⟩
        rw [ev] at hcell
        have Ev := Lib.hid ev
        clear ev
        by_cases hv : 300 < v.size
        · go_wp2
          go_ret
          exact TinyPost.no hB2 hK2 hC2
        · go_wp2
          go_roundw
          case rel =>
            refine ⟨j + 1, by go_num, by omega, trivial, Lib.hid ?_⟩
            intro i hi
            by_cases e : i = j
            · subst e; rw [Ev.out]; omega
            · exact hall.out i (by omega)
          case measure => simp [intOf]; omega
      · obtain rfl : j = vs.length := by omega
        have Hvs := Lib.hid (show ∀ u ∈ vs, u.size ≤ 140737488351232 from fun u hu => by
          obtain ⟨i, hi, rfl⟩ := List.getElem_of_mem hu
          have := hall.out i hi
          simp [List.getD_eq_getElem?_getD, hi] at this
          omega)
        clear hall
        have hlen := hM.2.2.2.2.1
        go_wp2
        go_loopw [8] (fun u8 wr2 => ∃ (j : Nat) (nj : Int), u8 = .int .i64 j ∧ j ≤ ks.length ∧ Cnt wr2 g nj ∧ 0 ≤ nj ∧ nj ≤ 200 ∧ BoxM wr2 w.heap.size op t1 t2 (.slice A3 vs.length c3) (.slice A4 ks.length c4) ∧ Below w0.heap.size w0 wr2 ∧ KeepBut w wr2 g none ∧ Hid (nj = n + 1 + nodesL (ks.take j) ∧ d + 1 + depthL (ks.take j) ≤ 12 ∧ boundL (ks.take j) ∧ wideL (ks.take j)))
          (fun u8 _ => ks.length - (intOf u8).toNat)
        case atStart => exact ⟨0, n + 1, rfl, Nat.zero_le _, hC2, by omega, by omega, hX2, hB2, hK2, Lib.hid ⟨by simp [nodesL], by simp [depthL]; omega, by simp [boundL], by simp [wideL]⟩⟩
        case round =>
          clear x1 x2 x3 x4 hC2 hB2 hK2 hX2
          obtain ⟨j, nj, rfl, hj, hCr, hnj0, hnj1, hXr, hBr, hKr, hfacts⟩ := hrel
          have y4 := hXr.c4
          by_cases hlt : j < ks.length
          · obtain ⟨ad, B3, e3, B4, e4, rfl, hMk, k0, k1, k2, k3, k4⟩ := hM.kid j hlt
            simp only at k0 k1 k2 k3 k4 hMk
            have k0 := pw_cell_below hBr k0
            have k1 := pw_cell_below hBr k1
            have k2 := pw_cell_below hBr k2
            have k3 := pw_cell_below hBr k3
            have k4 := pw_cell_below hBr k4
            have hmem : ks.getD j z25 ∈ ks := by simp [List.getD_eq_getElem?_getD, hlt]
            have hsmall := nodes_lt ⟨op, t1, t2, vs, ks⟩ _ hmem
            have Hn4 := Lib.hid (nodesL_split ks j hlt)
            have Hd4 := Lib.hid (depthL_take hlt)
            have Hb4 := Lib.hid (fun h1 h2 => boundL_take hlt h1 h2)
            have Hw4 := Lib.hid (fun h1 h2 => wideL_take hlt h1 h2)
            obtain ⟨kid, ek⟩ : ∃ kid, ks.getD j z25 = kid := ⟨_, rfl⟩
            rw [ek] at hMk k0 k1 k2 k3 k4 hsmall Hn4 Hd4 Hb4 Hw4
            clear ek hmem
            go_wp2_with fail
            (with_reducible refine (IH.out kid (by omega) (d + 1) nj B3 e3 B4 e4 g w0 _ (by omega) (by omega) (by omega) (by omega) hMk hBr hg hCr).mono ?_)
            rintro e w5 ⟨v, n5, rfl, hB5, hK5, hC5, hyes⟩
            have hX5 := hXr.keep hK5 hne
            have Hyes := Lib.hid hyes
            clear hyes k0 k1 k2 k3 k4
            cases v with
            | false =>
              go_wp2_with fail
              go_ret
              exact TinyPost.no hB5 (hKr.trans hK5 (.inl rfl)) hC5
            | true =>
              obtain ⟨f1, f2, f3, f4, f5⟩ := Hyes.out rfl
              have F1 := Lib.hid f1
              have F2 := Lib.hid f2
              have F3 := Lib.hid f3
              have F4 := Lib.hid f4
              clear f1 f2 f3 f4
              go_wp2_with fail
              go_roundw
              case rel =>
                obtain ⟨g1, g2, g3, g4⟩ := hfacts.out
                refine ⟨j + 1, n5, by go_num, by omega, hC5, by have := F4.out; omega, f5, hX5, hB5, hKr.trans hK5 (.inl rfl), Lib.hid ⟨?_, ?_, Hb4.out g3 F2.out, Hw4.out g4 F3.out⟩⟩
                · rw [F4.out, g1, Hn4.out]; omega
                · have := F1.out
                  rw [Hd4.out]; omega
              case measure => simp [intOf]; omega
          · obtain rfl : j = ks.length := by omega
            have hres : TinyPost w0 w g d ⟨op, t1, t2, vs, ks⟩ n (.returned (.bool true)) wr := by
              obtain ⟨g1, g2, g3, g4⟩ := hfacts.out
              rw [List.take_length] at g1 g2 g3 g4
              exact ⟨true, nj, rfl, hBr, hKr, hCr, fun _ => ⟨by rw [depthM_mk]; simp only; omega, (boundM_mk _).2 ⟨by simp only; omega, by simp only; omega, Hvs.out, g3⟩, (wideM_mk _).2 ⟨by simp only; omega, g4⟩, by rw [nodesM_mk]; simp only; omega, hnj1⟩⟩
            go_wp2
            go_ret
            exact hres

set_option maxRecDepth 100000 in
set_option maxHeartbeats 4000000 in
/-- Tiny. -/
theorem tiny31 (w : World) (m : S25) (A3 : Option Addr) (c3 : Nat) (A4 : Option Addr) (c4 : Nat) (hM : MC w m A3 c3 A4 c4) :
    Calls Try.prog 31 #[.agg #[.int .i64 m.f0, .string m.f1, .string m.f2, .slice A3 m.f3.length c3, .slice A4 m.f4.length c4]] w fun e w' => ∃ v : Bool, e = .returned (.bool v) ∧ Below w.heap.size w w' ∧ (v = true → tinyP 0 m) := by
  have hB : Below w.heap.size w ((w.alloc (.cells #[.int .i64 m.f0, .string m.f1, .string m.f2, .slice A3 m.f3.length c3, .slice A4 m.f4.length c4] 25)).alloc (.cells #[.int .i64 0] 3)) := below_alloc (below_alloc (Below.refl _ _) _) _
  have hC : Cnt ((w.alloc (.cells #[.int .i64 m.f0, .string m.f1, .string m.f2, .slice A3 m.f3.length c3, .slice A4 m.f4.length c4] 25)).alloc (.cells #[.int .i64 0] 3)) (w.heap.size + 1) 0 := by
    have := blk_new (w.alloc (.cells #[.int .i64 m.f0, .string m.f1, .string m.f2, .slice A3 m.f3.length c3, .slice A4 m.f4.length c4] 25)) (.cells #[.int .i64 0] 3)
    rwa [World.size_alloc] at this
  have hh := tiny95 (nodesM m) m (Nat.le_refl _) 0 0 A3 c3 A4 c4 (w.heap.size + 1) w _ (by decide) (by decide) (by decide) (by decide) hM hB (by omega) hC
  go_enter Try.func31, Try.ntmps31
  go_wp2_with fail
  (with_reducible refine hh.mono ?_)
  rintro e w5 ⟨v, n', rfl, hB5, -, -, hyes⟩
  have Hyes := Lib.hid hyes
  clear hyes
  go_wp2_with fail
  go_ret
  exact ⟨v, rfl, hB5, fun h => by
    obtain ⟨h1, h2, h3, h4, h5⟩ := Hyes.out h
    exact ⟨h1, h2, h3, by omega⟩⟩
end Go.Proofs.Yteafilojjdfllaa
