/- Own text: match.Check's walk: room.holds goes through a matcher as chk does. -/
import Derived.Test.YteafilojjdfllaaVals
import Derived.Lib.Hide
import Derived.RegionTactic
import Derived.ChangeAlike
namespace Go.Proofs.Yteafilojjdfllaa
open Go Go.RowKit Go.Proofs.YteafilojjdfllaaW.PrintWords Go.Proofs.YteafilojjdfllaaW.PrintLast Go.Proofs.YteafilojjdfllaaW.PrintMore Go.Proofs.Yteafilojjdfllaa.PAll

/-- a matcher's values and kids lie there -/
def MC (w : World) (m : S25) (A3 : Option Addr) (c3 : Nat) (A4 : Option Addr) (c4 : Nat) : Prop :=
  m.f3.length ≤ c3 ∧ Kd.C Kd.string w A3 m.f3.length m.f3 ∧ m.f4.length ≤ c4 ∧ Kd.C k25 w A4 m.f4.length m.f4
theorem MC.below {w W : World} {m : S25} {A3 : Option Addr} {c3 : Nat} {A4 : Option Addr} {c4 : Nat} (h : MC w m A3 c3 A4 c4) (hb : Below w.heap.size w W) : MC W m A3 c3 A4 c4 :=
  ⟨h.1, Kd.C_below h.2.1 hb, h.2.2.1, Kd.C_below h.2.2.2 hb⟩
/-- the room's block -/
def Room (W : World) (g : Nat) (n b : Int) : Prop := W.heap[g]? = some (.cells #[.int .i64 n, .int .i64 b] 130 (0, 0))
theorem Room.c0 {W : World} {g : Nat} {n b : Int} (h : Room W g n b) : W.cell? ⟨g, 0, none⟩ = some (.int .i64 n) := (blk_cell h 0).trans rfl
theorem Room.c1 {W : World} {g : Nat} {n b : Int} (h : Room W g n b) : W.cell? ⟨g, 1, none⟩ = some (.int .i64 b) := (blk_cell h 1).trans rfl
theorem Room.z0 {W : World} {g : Nat} {n b : Int} (h : Room W g n b) : W.frozen? ⟨g, 0, none⟩ = false := blk_frozen h 0
theorem Room.z1 {W : World} {g : Nat} {n b : Int} (h : Room W g n b) : W.frozen? ⟨g, 1, none⟩ = false := blk_frozen h 1
theorem Room.lt {W : World} {g : Nat} {n b : Int} (h : Room W g n b) : g < W.heap.size := (Array.getElem?_eq_some_iff.1 h).1
theorem Room.set0 {W : World} {g : Nat} {n b : Int} (h : Room W g n b) (x : Int) : Room (W.setCell ⟨g, 0, none⟩ (.int .i64 x)) g x b := by simpa [Room] using blk_set h 0 (.int .i64 x)
theorem Room.set1 {W : World} {g : Nat} {n b : Int} (h : Room W g n b) (x : Int) : Room (W.setCell ⟨g, 1, none⟩ (.int .i64 x)) g n x := by simpa [Room] using blk_set h 1 (.int .i64 x)
theorem Room.below {W X : World} {g : Nat} {n b : Int} (h : Room W g n b) (hb : Below W.heap.size W X) : Room X g n b := (hb.block g h.lt).trans h
theorem Room.alloc {W : World} {g : Nat} {n b : Int} (h : Room W g n b) (o : Obj) : Room (W.alloc o) g n b := h.below (below_alloc (Below.refl _ _) o)

theorem alone157 (w : World) (m : S25) (A3 : Option Addr) (c3 : Nat) (A4 : Option Addr) (c4 : Nat) (v : Bool) (hv : aloneB m = v) (h : MC w m A3 c3 A4 c4) :
    Calls Try.prog 157 #[.agg #[.int .i64 m.f0, .string m.f1, .string m.f2, .slice A3 m.f3.length c3, .slice A4 m.f4.length c4]] w fun e w' => e = .returned (.bool v) ∧ Below w.heap.size w w' :=
  match_alone.calls 50 m.f0 m.f1 m.f2 A3 c3 m.f3 A4 c4 m.f4 v w h.2.1 h.1 h.2.2.2 h.2.2.1 (hv ▸ match_alone.val m 50 (by omega))

/-- how a walk over a matcher with a room ends -/
def HoldsPost (w0 w : World) (g : Nat) (d : Int) (m : S25) (n b : Int) (e : Ending) (w' : World) : Prop :=
  e = .returned (.bool (chk d m n b)) ∧ Below w0.heap.size w0 w' ∧ KeepBut w w' g none ∧ ∃ n' b', Room w' g n' b' ∧ (chk d m n b = true → n' = n - nodesM m ∧ b' = b - bytesM m)
theorem HoldsPost.no {w0 w w' : World} {g : Nat} {d : Int} {m : S25} {n b n' b' : Int} (h : chk d m n b = false) (hB : Below w0.heap.size w0 w') (hK : KeepBut w w' g none) (hR : Room w' g n' b') : HoldsPost w0 w g d m n b (.returned (.bool false)) w' :=
  ⟨by rw [h], hB, hK, n', b', hR, fun e => by rw [h] at e; cases e⟩

theorem alone_bounds {m : S25} (h : aloneB m = true) : m.f1.size ≤ 32 ∧ m.f2.size ≤ 64 ∧ m.f3.length ≤ 16 ∧ ∀ v ∈ m.f3, v.size ≤ 64 := by
  have hp : plainB m = true → m.f1.size ≤ 32 ∧ m.f2.size ≤ 64 ∧ m.f3.length ≤ 16 ∧ ∀ v ∈ m.f3, v.size ≤ 64 := by
    intro h
    unfold plainB at h
    obtain ⟨h1, h2, h3⟩ := of_decide_eq_true h
    have z : ∀ s : ByteArray, s.toList = [] → s.size = 0 := fun s h => by
      have := congrArg List.length h
      rw [ByteArray.toList_eq, Array.length_toList] at this
      exact this
    have e3 := List.eq_nil_of_length_eq_zero h3
    rw [e3]
    exact ⟨by rw [z _ h1]; omega, by rw [z _ h2]; omega, by simp, fun v hv => by cases hv⟩
  have hn : nameB m.f1 = true → m.f1.size ≤ 32 := by
    intro h
    unfold nameB at h
    rw [Bool.and_eq_true] at h
    have h1 := of_decide_eq_true h.1
    exact h1.2.1
  unfold aloneB at h
  split at h
  · rw [Bool.and_eq_true] at h; exact hp h.1
  · split at h
    · rw [Bool.and_eq_true] at h
      have h2 := of_decide_eq_true h.2
      have e3 := List.eq_nil_of_length_eq_zero h2.2.2
      rw [e3]
      exact ⟨hn h.1, h2.1, by simp, fun v hv => by cases hv⟩
    · split at h
      · rw [Bool.and_eq_true, Bool.and_eq_true] at h
        obtain ⟨⟨h1, h2⟩, h3⟩ := h
        have h2 := of_decide_eq_true h2
        unfold valuesB at h3
        rw [Bool.and_eq_true, Bool.and_eq_true] at h3
        obtain ⟨⟨h3, h4⟩, _⟩ := h3
        have h3 := of_decide_eq_true h3
        refine ⟨hn h1, ?_, h3.2, fun v hv => of_decide_eq_true (List.all_eq_true.1 h4 v hv)⟩
        have := congrArg List.length h2.2
        rw [ByteArray.toList_eq, Array.length_toList] at this
        have : m.f2.size = 0 := this
        omega
      · split at h
        · exact hp h
        · split at h
          · rw [Bool.and_eq_true] at h; exact hp h.1
          · cases h
theorem sizes_le : ∀ (vs : List ByteArray), (∀ v ∈ vs, v.size ≤ 64) → sizes vs ≤ vs.length * 64
  | [], _ => by simp [sizes]
  | v :: vs, h => by
    have h1 := h v (by simp)
    have h2 := sizes_le vs (fun u hu => h u (List.mem_cons_of_mem _ hu))
    simp only [sizes, List.length_cons, Nat.succ_mul]; omega

/-- a kid, where it lies -/
theorem MC.kid {w : World} {m : S25} {A3 : Option Addr} {c3 : Nat} {A4 : Option Addr} {c4 : Nat} (h : MC w m A3 c3 A4 c4) (j : Nat) (hj : j < m.f4.length) :
    ∃ (ad : Addr) (B3 : Option Addr) (e3 : Nat) (B4 : Option Addr) (e4 : Nat), A4 = some ad ∧ MC w (m.f4.getD j z25) B3 e3 B4 e4 ∧
      w.cell? (ad.add (j * 5)) = some (.int .i64 (m.f4.getD j z25).f0) ∧ w.cell? ⟨(ad.add (j * 5)).block, (ad.add (j * 5)).off + 1, none⟩ = some (.string (m.f4.getD j z25).f1) ∧ w.cell? ⟨(ad.add (j * 5)).block, (ad.add (j * 5)).off + 2, none⟩ = some (.string (m.f4.getD j z25).f2) ∧
      w.cell? ⟨(ad.add (j * 5)).block, (ad.add (j * 5)).off + 3, none⟩ = some (.slice B3 (m.f4.getD j z25).f3.length e3) ∧ w.cell? ⟨(ad.add (j * 5)).block, (ad.add (j * 5)).off + 4, none⟩ = some (.slice B4 (m.f4.getD j z25).f4.length e4) := by
  obtain ⟨ad, B3, e3, B4, e4, hA, c0, c1, c2, c3', c4', h3, h4, h5, h6⟩ := at_T25 h.2.2.2 (j : Int) (by omega) (by omega)
  simp only [Int.toNat_natCast, show rd_T25 m.f4 (j : Int) = m.f4.getD j z25 by simp [rd_T25]] at c0 c1 c2 c3' c4' h3 h4 h5 h6
  exact ⟨ad, B3, e3, B4, e4, hA, ⟨h3, h4, h5, h6⟩, c0, c1, c2, c3', c4'⟩
theorem MC.value {w : World} {m : S25} {A3 : Option Addr} {c3 : Nat} {A4 : Option Addr} {c4 : Nat} (h : MC w m A3 c3 A4 c4) (j : Nat) (hj : j < m.f3.length) :
    ∃ ad : Addr, A3 = some ad ∧ w.cell? (ad.add j) = some (.string (m.f3.getD j ByteArray.empty)) := by
  obtain ⟨ad, hA, c⟩ := Kd.at_string h.2.1 (j : Int) (by omega) (by omega)
  simp only [Int.toNat_natCast, rdOf_nat] at c
  exact ⟨ad, hA, c⟩

set_option maxRecDepth 100000 in
set_option maxHeartbeats 8000000 in
theorem holds106 : ∀ (N : Nat) (m : S25), nodesM m ≤ N → ∀ (d n b : Int) (A3 : Option Addr) (c3 : Nat) (A4 : Option Addr) (c4 : Nat) (g : Nat) (w0 w : World), 0 ≤ d → d ≤ 100 → 0 ≤ n → n ≤ 64 → 0 ≤ b → b ≤ 4096 →
    MC w0 m A3 c3 A4 c4 → Below w0.heap.size w0 w → w0.heap.size ≤ g → Room w g n b →
    Calls Try.prog 106 #[.pointer (some ⟨g, 0, none⟩), .agg #[.int .i64 m.f0, .string m.f1, .string m.f2, .slice A3 m.f3.length c3, .slice A4 m.f4.length c4], .int .i64 d] w (HoldsPost w0 w g d m n b) := by
  intro N
  induction N with
  | zero => intro m h; rw [nodesM_mk] at h; omega
  | succ N ih =>
    intro m hN
    have IH := Lib.hid ih
    clear ih
    intro d n b A3 c3 A4 c4 g w0 w hd0 hd1 hn0 hn1 hb0 hb1 hM hB hg hR
    have hgl := hR.lt
    have q0 := hR.c0
    have z0 := hR.z0
    have r0 := (hR.alloc (.cells #[.int .i64 m.f0, .string m.f1, .string m.f2, .slice A3 m.f3.length c3, .slice A4 m.f4.length c4] 25)).c0
    have s0 := (hR.alloc (.cells #[.int .i64 m.f0, .string m.f1, .string m.f2, .slice A3 m.f3.length c3, .slice A4 m.f4.length c4] 25)).z0
    have hR2 := (hR.set0 (n - 1)).alloc (.cells #[.int .i64 m.f0, .string m.f1, .string m.f2, .slice A3 m.f3.length c3, .slice A4 m.f4.length c4] 25)
    have q1 := hR2.c0
    have hB2 : Below w0.heap.size w0 ((w.setCell ⟨g, 0, none⟩ (.int .i64 (n - 1))).alloc (.cells #[.int .i64 m.f0, .string m.f1, .string m.f2, .slice A3 m.f3.length c3, .slice A4 m.f4.length c4] 25)) := below_alloc (hB.setCell hg _) _
    have hK2 : KeepBut w ((w.setCell ⟨g, 0, none⟩ (.int .i64 (n - 1))).alloc (.cells #[.int .i64 m.f0, .string m.f1, .string m.f2, .slice A3 m.f3.length c3, .slice A4 m.f4.length c4] 25)) g none := ((KeepBut.refl w g none).set_ 0 _).trans (KeepBut.of_below (below_alloc (Below.refl _ _) _) g none) (.inl rfl)
    by_cases hd : 8 < d
    · have hc : chk d m n b = false := chk_false_of (fun h => by omega)
      go_enter Try.func106, Try.ntmps106
      go_wp2
      go_ret
      exact HoldsPost.no hc hB2 hK2 hR2
    · by_cases hn : n - 1 < 0
      · have hc : chk d m n b = false := chk_false_of (fun h => by omega)
        go_enter Try.func106, Try.ntmps106
        go_wp2
        go_ret
        exact HoldsPost.no hc hB2 hK2 hR2
      · cases ha : aloneB m with
        | false =>
          have hc : chk d m n b = false := chk_false_of (fun h => by rw [ha] at h; exact absurd h.2.2.1 (by decide))
          have Ha := Lib.hid ha
          clear ha
          go_enter Try.func106, Try.ntmps106
          go_wp2_with fail
          (with_reducible refine (alone157 _ m A3 c3 A4 c4 false Ha.out (hM.below hB2)).mono ?_)
          rintro e w1 ⟨rfl, hb3⟩
          go_wp2_with fail
          go_ret
          exact HoldsPost.no hc (below_step hB2 hb3) (hK2.trans (KeepBut.of_below hb3 g none) (.inl rfl)) (hR2.below hb3)
        | true =>
          obtain ⟨hz1, hz2, hz3, hz4⟩ := alone_bounds ha
          have Hz4 := Lib.hid hz4
          have Ha := Lib.hid ha
          clear ha hz4
          go_enter Try.func106, Try.ntmps106
          go_wp2_with fail
          (with_reducible refine (alone157 _ m A3 c3 A4 c4 true Ha.out (hM.below hB2)).mono ?_)
          rintro e w1 ⟨rfl, hb3⟩
          have hB3 := below_step hB2 hb3
          have hR3 := hR2.below hb3
          have hK3 := hK2.trans (KeepBut.of_below hb3 g none) (.inl rfl)
          have hne : w.heap.size ≠ g := by omega
          have hw : ∀ o : Nat, w1.cell? ⟨w.heap.size, o, none⟩ = (#[Value.int .i64 m.f0, .string m.f1, .string m.f2, .slice A3 m.f3.length c3, .slice A4 m.f4.length c4])[o]? := fun o => (hb3.cell (p := ⟨w.heap.size, o, none⟩) (by simp)).trans (by
            have := blk_cell (blk_new (w.setCell ⟨g, 0, none⟩ (.int .i64 (n - 1))) (.cells #[.int .i64 m.f0, .string m.f1, .string m.f2, .slice A3 m.f3.length c3, .slice A4 m.f4.length c4] 25)) o
            simpa using this)
          have x1 := hw 1
          have x2 := hw 2
          have x3 := hw 3
          have x4 := hw 4
          simp only [List.getElem?_toArray, List.getElem?_cons_succ, List.getElem?_cons_zero] at x1 x2 x3 x4
          have q2 := hR3.c1
          have z2 := hR3.z1
          clear hw
          clear q0 z0 r0 s0 q1
          go_wp2
          go_region
          have hR4 : Room (w1.setCell ⟨g, 1, none⟩ (.int .i64 (b - (m.f1.size + m.f2.size : Int)))).drew g (n - 1) (b - (m.f1.size + m.f2.size : Int)) := hR3.set1 _
          have hB4 : Below w0.heap.size w0 (w1.setCell ⟨g, 1, none⟩ (.int .i64 (b - (m.f1.size + m.f2.size : Int)))).drew := (hB3.setCell hg _).drew
          have hK4 : KeepBut w (w1.setCell ⟨g, 1, none⟩ (.int .i64 (b - (m.f1.size + m.f2.size : Int)))).drew g none := hK3.set_ 1 _
          have hsz0 := sizes_le m.f3 Hz4.out
          go_wp2
          have y4 : (w1.setCell ⟨g, 1, none⟩ (.int .i64 (b - (m.f1.size + m.f2.size : Int)))).drew.cell? ⟨w.heap.size, 4, none⟩ = some (.slice A4 m.f4.length c4) := by go_simp
          clear x1 x2 x3 x4 q2 z2 hR3 hR2 hB3 hB2 hK3 hK2
          obtain ⟨W4, e4⟩ : ∃ W4, (w1.setCell ⟨g, 1, none⟩ (.int .i64 (b - (m.f1.size + m.f2.size : Int)))).drew = W4 := ⟨_, rfl⟩
          rw [e4] at hR4 hB4 hK4 y4 ⊢
          clear e4 hb3
          go_loopw [49] (fun u49 wr => ∃ j : Nat, u49 = .int .i64 j ∧ j ≤ m.f3.length ∧ wr.cell? ⟨w.heap.size, 4, none⟩ = some (.slice A4 m.f4.length c4) ∧ Room wr g (n - 1) (b - (m.f1.size + m.f2.size : Int) - sizes (m.f3.take j)) ∧ Below w0.heap.size w0 wr ∧ KeepBut w wr g none)
            (fun u49 _ => m.f3.length - (intOf u49).toNat)
          case atStart => exact ⟨0, rfl, Nat.zero_le _, y4, by simpa [sizes] using hR4, hB4, hK4⟩
          case round =>
            clear y4 hR4 hB4 hK4
            obtain ⟨j, rfl, hj, y4, hR4, hB4, hK4⟩ := hrel
            have hsj : sizes (m.f3.take j) ≤ 16 * 64 := by
              have h1 := sizes_le (m.f3.take j) (fun v hv => Hz4.out v (List.mem_of_mem_take hv))
              have h2 : (m.f3.take j).length ≤ 16 := by rw [List.length_take]; omega
              have h3 : (m.f3.take j).length * 64 ≤ 16 * 64 := Nat.mul_le_mul_right _ h2
              omega
            by_cases hlt : j < m.f3.length
            · have hsp := Lib.hid (sizes_split m.f3 j hlt)
              obtain ⟨ad, rfl, hcell⟩ := hM.value j hlt
              have hcell := pw_cell_below hB4 hcell
              have hv64 : (m.f3.getD j ByteArray.empty).size ≤ 64 := Hz4.out _ (by simp [List.getD_eq_getElem?_getD, hlt])
              obtain ⟨v, hv⟩ : ∃ v, m.f3.getD j ByteArray.empty = v := ⟨_, rfl⟩
              rw [hv] at hcell hsp hv64
              obtain ⟨s, hs⟩ : ∃ s, sizes (m.f3.take j) = s := ⟨_, rfl⟩
              rw [hs] at hR4 hsj hsp
              have q1 := hR4.c1
              have z1 := hR4.z1
              clear hv hs
              go_wp2
              go_roundw
              case rel =>
                refine ⟨j + 1, by go_num, by omega, ?_, ?_, hB4.setCell hg _, hK4.set_ 1 _⟩
                · rw [World.cell?_setCell_far _ _ _ _ (fun e => hne e.symm)]
                  exact y4
                · have := hR4.set1 (b - (m.f1.size + m.f2.size : Int) - s - v.size)
                  rw [hsp.out, show b - (m.f1.size + m.f2.size : Int) - ((s + v.size : Nat) : Int) = b - (m.f1.size + m.f2.size : Int) - s - v.size by omega]
                  exact this
              case measure => simp [intOf]; omega
            · obtain rfl : j = m.f3.length := by omega
              rw [List.take_length] at hR4 hsj
              have q1 := hR4.c1
              have z1 := hR4.z1
              obtain ⟨s, hs⟩ : ∃ s, sizes m.f3 = s := ⟨_, rfl⟩
              rw [hs] at hR4 hsj q1 hsz0
              have Hs := Lib.hid hs
              clear hs
              by_cases hneg : b - (m.f1.size + m.f2.size : Int) - s < 0
              · have hc : chk d m n b = false := chk_false_of (fun h => by have := h.2.2.2.1; rw [Hs.out] at this; omega)
                go_wp2
                go_ret
                exact HoldsPost.no hc hB4 hK4 hR4
              · have Hchk := Lib.hid (show chk d m n b = chkL (d + 1) m.f4 (n - 1) (b - (m.f1.size + m.f2.size : Int) - s) from by
                  rw [Bool.eq_iff_iff, chk_iff, Hs.out]
                  constructor
                  · rintro ⟨_, _, _, _, h⟩
                    rw [show b - (m.f1.size + m.f2.size : Int) - s = b - ((m.f1.size + m.f2.size : Int) + s) by omega]; exact h
                  · intro h
                    rw [show b - (m.f1.size + m.f2.size : Int) - s = b - ((m.f1.size + m.f2.size : Int) + s) by omega] at h
                    exact ⟨by omega, by omega, Ha.out, by omega, h⟩)
                have Hnod := Lib.hid (nodesM_mk m)
                have Hbyt := Lib.hid (show bytesM m = m.f1.size + m.f2.size + s + bytesL m.f4 from by rw [bytesM_mk, Hs.out])
                obtain ⟨b1, hb1⟩ : ∃ b1, b - (m.f1.size + m.f2.size : Int) - s = b1 := ⟨_, rfl⟩
                rw [hb1] at hR4 q1 hneg Hchk
                have Hb1 := Lib.hid hb1
                have hbb : b1 ≤ 4096 := by omega
                clear hb1
                have hlen4 := hM.2.2.2.2.1
                go_wp2
                clear y4 q1 z1
                go_loopw [71] (fun u71 wx => ∃ (j : Nat) (n' b' : Int), u71 = .int .i64 j ∧ j ≤ m.f4.length ∧ Room wx g n' b' ∧ 0 ≤ n' ∧ 0 ≤ b' ∧ n' ≤ 64 ∧ b' ≤ 4096 ∧ n' = n - 1 - nodesL (m.f4.take j) ∧ b' = b1 - bytesL (m.f4.take j) ∧ chkL (d + 1) m.f4 (n - 1) b1 = chkL (d + 1) (m.f4.drop j) n' b' ∧ Below w0.heap.size w0 wx ∧ KeepBut w wx g none)
                  (fun u71 _ => m.f4.length - (intOf u71).toNat)
                case atStart => exact ⟨0, n - 1, b1, rfl, Nat.zero_le _, hR4, by omega, by omega, by omega, by omega, by simp [nodesL], by simp [bytesL], by simp, hB4, hK4⟩
                case round =>
                  clear hR4 hB4 hK4
                  obtain ⟨j, n', b', rfl, hj, hR4, hn1', hb1', hn2', hb2', hne1, hbe1, hce, hB4, hK4⟩ := hrel
                  have Hne1 := Lib.hid hne1
                  have Hbe1 := Lib.hid hbe1
                  have Hce := Lib.hid hce
                  clear hne1 hbe1 hce
                  by_cases hlt : j < m.f4.length
                  · obtain ⟨ad, B3, e3, B4, e4, rfl, hMk, k0, k1, k2, k3, k4⟩ := hM.kid j hlt
                    have k0 := pw_cell_below hB4 k0
                    have k1 := pw_cell_below hB4 k1
                    have k2 := pw_cell_below hB4 k2
                    have k3 := pw_cell_below hB4 k3
                    have k4 := pw_cell_below hB4 k4
                    have hmem : m.f4.getD j z25 ∈ m.f4 := by simp [List.getD_eq_getElem?_getD, hlt]
                    have hsmall := nodes_lt m _ hmem
                    have Hdrop := Lib.hid (chkL_drop (d + 1) m.f4 j hlt n' b')
                    have Hn4 := Lib.hid (nodesL_split m.f4 j hlt)
                    have Hb4 := Lib.hid (bytesL_split m.f4 j hlt)
                    obtain ⟨kid, ek⟩ : ∃ kid, m.f4.getD j z25 = kid := ⟨_, rfl⟩
                    rw [ek] at hMk k0 k1 k2 k3 k4 hsmall Hdrop Hn4 Hb4
                    clear ek hmem
                    go_wp2_with fail
                    (with_reducible refine (IH.out kid (by omega) (d + 1) n' b' B3 e3 B4 e4 g w0 _ (by omega) (by omega) (by omega) (by omega) (by omega) (by omega) hMk (below_alloc hB4 _) hg (hR4.alloc _)).mono ?_)
                    rintro e w5 ⟨rfl, hB5, hK5, n5, b5, hR5, hyes⟩
                    cases hk : chk (d + 1) kid n' b' with
                    | false =>
                      have hc : chk d m n b = false := by
                        rw [Hchk.out, Hce.out, ← Bool.not_eq_true, Hdrop.out]
                        exact fun h => by rw [hk] at h; cases h.1
                      go_wp2_with fail
                      go_ret
                      exact HoldsPost.no hc hB5 (hK4.trans ((KeepBut.of_below (below_alloc (Below.refl _ _) _) g none).trans hK5 (.inl rfl)) (.inl rfl)) hR5
                    | true =>
                      obtain ⟨e1, e2⟩ := hyes hk
                      have E1 := Lib.hid e1
                      have E2 := Lib.hid e2
                      have Hk := Lib.hid hk
                      clear e1 e2 hyes hk
                      go_wp2_with fail
                      go_roundw
                      case rel =>
                        have hd := chk_def.1 Hk.out
                        refine ⟨j + 1, n5, b5, by go_num, by omega, hR5, ?_, ?_, ?_, ?_, ?_, ?_, ?_, hB5, hK4.trans ((KeepBut.of_below (below_alloc (Below.refl _ _) _) g none).trans hK5 (.inl rfl)) (.inl rfl)⟩
                        · rw [E1.out]; omega
                        · rw [E2.out]; omega
                        · rw [E1.out]; omega
                        · rw [E2.out]; omega
                        · rw [E1.out, Hne1.out, Hn4.out]; omega
                        · rw [E2.out, Hbe1.out, Hb4.out]; omega
                        · rw [Hce.out, Bool.eq_iff_iff, Hdrop.out, E1.out, E2.out]
                          exact ⟨fun h => h.2, fun h => ⟨Hk.out, h⟩⟩
                      case measure => simp [intOf]; omega
                  · obtain rfl : j = m.f4.length := by omega
                    have hc : chk d m n b = true := by
                      rw [Hchk.out, Hce.out, List.drop_length, chkL_nil]
                      omega
                    have hres : HoldsPost w0 w g d m n b (.returned (.bool true)) wr := ⟨by rw [hc], hB4, hK4, n', b', hR4, fun _ => by
                      rw [Hne1.out, Hbe1.out, List.take_length, Hnod.out, Hbyt.out, ← Hb1.out]
                      exact ⟨by omega, by omega⟩⟩
                    clear Hchk hc
                    go_wp2
                    go_ret
                    exact hres

set_option maxRecDepth 100000 in
set_option maxHeartbeats 4000000 in
/-- match.Check. -/
theorem check53 (w : World) (m : S25) (A3 : Option Addr) (c3 : Nat) (A4 : Option Addr) (c4 : Nat) (hM : MC w m A3 c3 A4 c4) :
    Calls Try.prog 53 #[.agg #[.int .i64 m.f0, .string m.f1, .string m.f2, .slice A3 m.f3.length c3, .slice A4 m.f4.length c4]] w fun e w' => e = .returned (.bool (chkB m)) ∧ Below w.heap.size w w' := by
  have hb : Below w.heap.size w ((w.alloc (.cells #[.int .i64 m.f0, .string m.f1, .string m.f2, .slice A3 m.f3.length c3, .slice A4 m.f4.length c4] 25)).alloc (.cells #[.int .i64 64, .int .i64 4096] 130)) := below_alloc (below_alloc (Below.refl _ _) _) _
  have hr : Room ((w.alloc (.cells #[.int .i64 m.f0, .string m.f1, .string m.f2, .slice A3 m.f3.length c3, .slice A4 m.f4.length c4] 25)).alloc (.cells #[.int .i64 64, .int .i64 4096] 130)) (w.heap.size + 1) 64 4096 := by
    have := blk_new (w.alloc (.cells #[.int .i64 m.f0, .string m.f1, .string m.f2, .slice A3 m.f3.length c3, .slice A4 m.f4.length c4] 25)) (.cells #[.int .i64 64, .int .i64 4096] 130)
    rwa [World.size_alloc] at this
  have hh := holds106 (nodesM m) m (Nat.le_refl _) 1 64 4096 A3 c3 A4 c4 (w.heap.size + 1) w _ (by decide) (by decide) (by decide) (by decide) (by decide) (by decide) hM hb (by omega) hr
  go_enter Try.func53, Try.ntmps53
  go_wp2_with fail
  (with_reducible refine hh.mono ?_)
  rintro e w5 ⟨rfl, hB5, -, -⟩
  go_wp2_with fail
  go_ret
  exact ⟨rfl, hB5⟩
end Go.Proofs.Yteafilojjdfllaa
