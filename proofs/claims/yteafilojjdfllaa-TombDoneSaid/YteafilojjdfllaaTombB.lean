/- Own text: the document's own Check of a tomb; Eval; Covers. -/
import Derived.Test.YteafilojjdfllaaTombA
namespace Go.Proofs.Yteafilojjdfllaa
open Go Go.RowKit Go.Proofs.YteafilojjdfllaaW.PrintWords Go.Proofs.YteafilojjdfllaaW.PrintLast Go.Proofs.YteafilojjdfllaaW.PrintMore Go.Proofs.Yteafilojjdfllaa.PAll

/-- a tomb's block -/
def BoxT (W : World) (g : Nat) (s o : Int) (t1 t2 : ByteArray) (v3 v4 : Value) (a b : Int) : Prop := W.heap[g]? = some (.cells #[.int .i64 s, .int .i64 o, .string t1, .string t2, v3, v4, .int .i64 a, .int .i64 b] 27 (0, 0))
theorem BoxT.below {w W : World} {g : Nat} {s o : Int} {t1 t2 : ByteArray} {v3 v4 : Value} {a b : Int} (h : BoxT w g s o t1 t2 v3 v4 a b) (hb : Below w.heap.size w W) : BoxT W g s o t1 t2 v3 v4 a b := by
  refine (hb.block g ?_).trans h
  have := Array.getElem?_eq_some_iff.1 h
  exact this.1
theorem BoxT.all {W : World} {g : Nat} {s o : Int} {t1 t2 : ByteArray} {v3 v4 : Value} {a b : Int} (h : BoxT W g s o t1 t2 v3 v4 a b) :
    W.cell? ⟨g, 0, none⟩ = some (.int .i64 s) ∧ W.cell? ⟨g, 1, none⟩ = some (.int .i64 o) ∧ W.cell? ⟨g, 2, none⟩ = some (.string t1) ∧ W.cell? ⟨g, 3, none⟩ = some (.string t2) ∧ W.cell? ⟨g, 4, none⟩ = some v3 ∧ W.cell? ⟨g, 5, none⟩ = some v4 ∧ W.cell? ⟨g, 6, none⟩ = some (.int .i64 a) ∧ W.cell? ⟨g, 7, none⟩ = some (.int .i64 b) :=
  ⟨(blk_cell h 0).trans rfl, (blk_cell h 1).trans rfl, (blk_cell h 2).trans rfl, (blk_cell h 3).trans rfl, (blk_cell h 4).trans rfl, (blk_cell h 5).trans rfl, (blk_cell h 6).trans rfl, (blk_cell h 7).trans rfl⟩
/-- a row's block -/
def BoxR (W : World) (g : Nat) (v0 : Value) (at_ : Int) (v2 v3 : Value) (u0 u1 u2 u3 : Int) : Prop := W.heap[g]? = some (.cells #[v0, .int .i64 at_, v2, v3, .int .u64 u0, .int .u64 u1, .int .u64 u2, .int .u64 u3] 37 (0, 0))
theorem BoxR.below {w W : World} {g : Nat} {v0 : Value} {at_ : Int} {v2 v3 : Value} {u0 u1 u2 u3 : Int} (h : BoxR w g v0 at_ v2 v3 u0 u1 u2 u3) (hb : Below w.heap.size w W) : BoxR W g v0 at_ v2 v3 u0 u1 u2 u3 := by
  refine (hb.block g ?_).trans h
  have := Array.getElem?_eq_some_iff.1 h
  exact this.1
theorem BoxR.all {W : World} {g : Nat} {v0 : Value} {at_ : Int} {v2 v3 : Value} {u0 u1 u2 u3 : Int} (h : BoxR W g v0 at_ v2 v3 u0 u1 u2 u3) :
    W.cell? ⟨g, 0, none⟩ = some v0 ∧ W.cell? ⟨g, 1, none⟩ = some (.int .i64 at_) ∧ W.cell? ⟨g, 2, none⟩ = some v2 ∧ W.cell? ⟨g, 3, none⟩ = some v3 ∧ W.cell? ⟨g, 4, none⟩ = some (.int .u64 u0) ∧ W.cell? ⟨g, 5, none⟩ = some (.int .u64 u1) ∧ W.cell? ⟨g, 6, none⟩ = some (.int .u64 u2) ∧ W.cell? ⟨g, 7, none⟩ = some (.int .u64 u3) :=
  ⟨(blk_cell h 0).trans rfl, (blk_cell h 1).trans rfl, (blk_cell h 2).trans rfl, (blk_cell h 3).trans rfl, (blk_cell h 4).trans rfl, (blk_cell h 5).trans rfl, (blk_cell h 6).trans rfl, (blk_cell h 7).trans rfl⟩

/-- does a tomb cover a row? -/
def coverB (t : S27) (r : S37) : Bool := decide (t.f2 ≤ r.f1) && decide (r.f1 < t.f3) && evalB r.f0 t.f1

set_option maxRecDepth 100000 in
set_option maxHeartbeats 4000000 in
/-- tomb.Covers. -/
theorem Covers37 (w : World) (t : S27) (r : S37) (A3 : Option Addr) (c3 : Nat) (A4 : Option Addr) (c4 : Nat) (A1 : Option Addr) (c1 : Nat) (A5 : Option Addr) (n5 c5 : Nat) (A6 : Option Addr) (n6 c6 : Nat) (v : Bool) (hv : coverB t r = v) (h1000 : nodesM t.f1 ≤ 1000) (hM : MC w t.f1 A3 c3 A4 c4) (hl : r.f0.length ≤ 4000000000000000000) (h1 : r.f0.length ≤ c1) (g1 : Kd.C k68 w A1 r.f0.length r.f0) :
    Calls Try.prog 37 #[.agg #[.int .i64 t.f0, .int .i64 t.f1.f0, .string t.f1.f1, .string t.f1.f2, .slice A3 t.f1.f3.length c3, .slice A4 t.f1.f4.length c4, .int .i64 t.f2, .int .i64 t.f3], .agg #[.slice A1 r.f0.length c1, .int .i64 r.f1, .slice A5 n5 c5, .slice A6 n6 c6, .int .u64 r.f2.f2.f0, .int .u64 r.f2.f2.f1, .int .u64 r.f2.f2.f2, .int .u64 r.f2.f2.f3]] w fun e w' => e = .returned (.bool v) ∧ Below w.heap.size w w' := by
  obtain ⟨s, m, a, b⟩ := t
  obtain ⟨l, at_, ⟨bs, hs, ⟨u0, u1, u2, u3⟩⟩⟩ := r
  simp only at h1000 hM hl h1 g1 ⊢
  unfold coverB at hv
  simp only at hv
  have hB0 : Below w.heap.size w ((w.alloc (.cells #[.int .i64 s, .int .i64 m.f0, .string m.f1, .string m.f2, .slice A3 m.f3.length c3, .slice A4 m.f4.length c4, .int .i64 a, .int .i64 b] 27)).alloc (.cells #[.slice A1 l.length c1, .int .i64 at_, .slice A5 n5 c5, .slice A6 n6 c6, .int .u64 u0, .int .u64 u1, .int .u64 u2, .int .u64 u3] 37)) := below_alloc (below_alloc (Below.refl _ _) _) _
  have hM0 := hM.below hB0
  have G1 := Lib.hid (Kd.C_below g1 hB0)
  clear g1
  by_cases h2 : a ≤ at_
  · by_cases h3 : at_ < b
    · rw [decide_eq_true h2, decide_eq_true h3, Bool.true_and, Bool.true_and] at hv
      have Hv := Lib.hid hv
      clear hv
      go_enter Try.func37, Try.ntmps37
      go_wp2_with fail
      (with_reducible refine (Eval55 _ m A3 c3 A4 c4 A1 c1 l v Hv.out h1000 hM0 hl h1 G1.out).mono ?_)
      rintro e w1 ⟨rfl, hb1⟩
      go_wp2_with fail
      go_ret
      exact ⟨rfl, below_step hB0 hb1⟩
    · rw [decide_eq_false h3, Bool.and_false, Bool.false_and] at hv
      subst hv
      go_enter Try.func37, Try.ntmps37
      go_wp2_with fail
      go_ret
      exact ⟨rfl, hB0⟩
  · rw [decide_eq_false h2, Bool.false_and, Bool.false_and] at hv
    subst hv
    go_enter Try.func37, Try.ntmps37
    go_wp2_with fail
    go_ret
    exact ⟨rfl, hB0⟩

end Go.Proofs.Yteafilojjdfllaa
