/- Own text: the law TombChecks, walked. -/
import Derived.Test.YteafilojjdfllaaRefCov
import Derived.Test.YteafilojjdfllaaTombD
import Derived.Test.YteafilojjdfllaaTombRef
namespace Go.Proofs.Yteafilojjdfllaa
open Go Go.RowKit Go.Proofs.YteafilojjdfllaaW.PrintWords Go.Proofs.YteafilojjdfllaaW.PrintLast Go.Proofs.YteafilojjdfllaaW.PrintMore Go.Proofs.Yteafilojjdfllaa.PAll
set_option linter.unusedSimpArgs false

/-- the two boxes lie as they were laid -/
def KTR (w W : World) (t : S27) (r : S37) (v4 v5 u0 u2 u3 : Value) : Prop :=
  Below w.heap.size w W ∧ BoxT W w.heap.size t.f0 t.f1.f0 t.f1.f1 t.f1.f2 v4 v5 t.f2 t.f3 ∧ BoxR W (w.heap.size + 1) u0 r.f1 u2 u3 r.f2.f2.f0 r.f2.f2.f1 r.f2.f2.f2 r.f2.f2.f3
theorem KTR.step {w W W' : World} {t : S27} {r : S37} {v4 v5 u0 u2 u3 : Value} (h : KTR w W t r v4 v5 u0 u2 u3) (hb : Below W.heap.size W W') : KTR w W' t r v4 v5 u0 u2 u3 :=
  ⟨below_step h.1 hb, h.2.1.below hb, h.2.2.below hb⟩
theorem KTR.bel {w W : World} {t : S27} {r : S37} {v4 v5 u0 u2 u3 : Value} (h : KTR w W t r v4 v5 u0 u2 u3) : Below w.heap.size w W := h.1
theorem KTR.drew {w W : World} {t : S27} {r : S37} {v4 v5 u0 u2 u3 : Value} (h : KTR w W t r v4 v5 u0 u2 u3) : KTR w W.drew t r v4 v5 u0 u2 u3 := h.step (below_drew (Below.refl _ _))
/-- what the calls of the law leave -/
def KPost (w W : World) (t : S27) (r : S37) (v4 v5 u0 u2 u3 : Value) (W' : World) : Prop :=
  KTR w W' t r v4 v5 u0 u2 u3 ∧ Below W.heap.size W W' ∧
  (W'.cell? ⟨w.heap.size, 0, none⟩ = some (.int .i64 t.f0) ∧ W'.cell? ⟨w.heap.size, 1, none⟩ = some (.int .i64 t.f1.f0) ∧ W'.cell? ⟨w.heap.size, 2, none⟩ = some (.string t.f1.f1) ∧ W'.cell? ⟨w.heap.size, 3, none⟩ = some (.string t.f1.f2) ∧ W'.cell? ⟨w.heap.size, 4, none⟩ = some v4 ∧ W'.cell? ⟨w.heap.size, 5, none⟩ = some v5 ∧ W'.cell? ⟨w.heap.size, 6, none⟩ = some (.int .i64 t.f2) ∧ W'.cell? ⟨w.heap.size, 7, none⟩ = some (.int .i64 t.f3)) ∧
  (W'.cell? ⟨w.heap.size + 1, 0, none⟩ = some u0 ∧ W'.cell? ⟨w.heap.size + 1, 1, none⟩ = some (.int .i64 r.f1) ∧ W'.cell? ⟨w.heap.size + 1, 2, none⟩ = some u2 ∧ W'.cell? ⟨w.heap.size + 1, 3, none⟩ = some u3 ∧ W'.cell? ⟨w.heap.size + 1, 4, none⟩ = some (.int .u64 r.f2.f2.f0) ∧ W'.cell? ⟨w.heap.size + 1, 5, none⟩ = some (.int .u64 r.f2.f2.f1) ∧ W'.cell? ⟨w.heap.size + 1, 6, none⟩ = some (.int .u64 r.f2.f2.f2) ∧ W'.cell? ⟨w.heap.size + 1, 7, none⟩ = some (.int .u64 r.f2.f2.f3))
theorem KTR.post {w W W' : World} {t : S27} {r : S37} {v4 v5 u0 u2 u3 : Value} (h : KTR w W t r v4 v5 u0 u2 u3) (hb : Below W.heap.size W W') : KPost w W t r v4 v5 u0 u2 u3 W' := by
  have h' := h.step hb
  exact ⟨h', hb, h'.2.1.all, h'.2.2.all⟩
theorem KTR.calls {w W : World} {t : S27} {r : S37} {v4 v5 u0 u2 u3 : Value} {f : FuncId} {args : Array Value} {Q : Ending → World → Prop} (h : KTR w W t r v4 v5 u0 u2 u3) (hc : Calls Try.prog f args W fun e W' => Q e W' ∧ Below W.heap.size W W') :
    Calls Try.prog f args W fun e W' => Q e W' ∧ KPost w W t r v4 v5 u0 u2 u3 W' := hc.mono fun _ _ ⟨hq, hb⟩ => ⟨hq, h.post hb⟩

section
variable {w W : World} {t : S27} {r : S37} {A3 A4 A0 A5 A6 : Option Addr} {c3 c4 c0 c5 c6 : Nat}
/-- the law's state, by its lists -/
abbrev KS (w W : World) (t : S27) (r : S37) (A3 : Option Addr) (c3 : Nat) (A4 : Option Addr) (c4 : Nat) (A0 : Option Addr) (c0 : Nat) (A5 : Option Addr) (c5 : Nat) (A6 : Option Addr) (c6 : Nat) : Prop :=
  KTR w W t r (.slice A3 t.f1.f3.length c3) (.slice A4 t.f1.f4.length c4) (.slice A0 r.f0.length c0) (.slice A5 r.f2.f0.length c5) (.slice A6 r.f2.f1.length c6)
abbrev KP (w W : World) (t : S27) (r : S37) (A3 : Option Addr) (c3 : Nat) (A4 : Option Addr) (c4 : Nat) (A0 : Option Addr) (c0 : Nat) (A5 : Option Addr) (c5 : Nat) (A6 : Option Addr) (c6 : Nat) (W' : World) : Prop :=
  KPost w W t r (.slice A3 t.f1.f3.length c3) (.slice A4 t.f1.f4.length c4) (.slice A0 r.f0.length c0) (.slice A5 r.f2.f0.length c5) (.slice A6 r.f2.f1.length c6) W'
theorem x34 (h : KS w W t r A3 c3 A4 c4 A0 c0 A5 c5 A6 c6) (ht : tinyP 0 t.f1) (hM : MC w t.f1 A3 c3 A4 c4) :
    Calls Try.prog 34 #[.agg #[.int .i64 t.f0, .int .i64 t.f1.f0, .string t.f1.f1, .string t.f1.f2, .slice A3 t.f1.f3.length c3, .slice A4 t.f1.f4.length c4, .int .i64 t.f2, .int .i64 t.f3]] W fun e W' =>
      (∃ D3 d3 D4 d4, e = .returned (.agg #[.int .i64 t.f0, .int .i64 t.f1.f0, .string t.f1.f1, .string t.f1.f2, .slice D3 t.f1.f3.length d3, .slice D4 t.f1.f4.length d4, .int .i64 t.f2, .int .i64 t.f3]) ∧ MC W' t.f1 D3 d3 D4 d4) ∧ KP w W t r A3 c3 A4 c4 A0 c0 A5 c5 A6 c6 W' :=
  h.calls ((tomb34 W t.f0 t.f2 t.f3 t.f1 A3 c3 A4 c4 ht (hM.below h.1)).mono fun e W' ⟨cs, he, hK, hb⟩ => by
    obtain ⟨D3, d3, D4, d4, rfl, q1, q2, q3, q4⟩ := k27_open (Kd.FK_now hK)
    exact ⟨⟨D3, d3, D4, d4, he, q1, q2, q3, q4⟩, hb⟩)
theorem x33 {D3 D4 : Option Addr} {d3 d4 : Nat} {v : Bool} (hv : tombB t.f0 t.f2 t.f3 t.f1 = v) (h : KS w W t r A3 c3 A4 c4 A0 c0 A5 c5 A6 c6) (hM : MC W t.f1 D3 d3 D4 d4) :
    Calls Try.prog 33 #[.agg #[.int .i64 t.f0, .int .i64 t.f1.f0, .string t.f1.f1, .string t.f1.f2, .slice D3 t.f1.f3.length d3, .slice D4 t.f1.f4.length d4, .int .i64 t.f2, .int .i64 t.f3]] W fun e W' =>
      e = .returned (.bool v) ∧ KP w W t r A3 c3 A4 c4 A0 c0 A5 c5 A6 c6 W' := h.calls (hv ▸ tombCheck33 W t.f0 t.f2 t.f3 t.f1 D3 d3 D4 d4 hM)
theorem x35 {v : Bool} (hv : tombB t.f0 t.f2 t.f3 t.f1 = v) (h : KS w W t r A3 c3 A4 c4 A0 c0 A5 c5 A6 c6) (ht : tinyP 0 t.f1) (hM : MC w t.f1 A3 c3 A4 c4) :
    Calls Try.prog 35 #[.agg #[.int .i64 t.f0, .int .i64 t.f1.f0, .string t.f1.f1, .string t.f1.f2, .slice A3 t.f1.f3.length c3, .slice A4 t.f1.f4.length c4, .int .i64 t.f2, .int .i64 t.f3]] W fun e W' =>
      e = .returned (.bool v) ∧ KP w W t r A3 c3 A4 c4 A0 c0 A5 c5 A6 c6 W' := h.calls (hv ▸ refCheck35 W t.f0 t.f2 t.f3 t.f1 A3 c3 A4 c4 ht.2.1 (hM.below h.1))
theorem x36 {v : Bool} (hv : chkB t.f1 = v) (h : KS w W t r A3 c3 A4 c4 A0 c0 A5 c5 A6 c6) (ht : tinyP 0 t.f1) (hM : MC w t.f1 A3 c3 A4 c4) :
    Calls Try.prog 36 #[.agg #[.int .i64 t.f1.f0, .string t.f1.f1, .string t.f1.f2, .slice A3 t.f1.f3.length c3, .slice A4 t.f1.f4.length c4]] W fun e W' =>
      e = .returned (.bool v) ∧ KP w W t r A3 c3 A4 c4 A0 c0 A5 c5 A6 c6 W' := h.calls (check36v W t.f1 A3 c3 A4 c4 v hv ht.2.1 (hM.below h.1))
theorem x32 (h : KS w W t r A3 c3 A4 c4 A0 c0 A5 c5 A6 c6) : Calls Try.prog 32 #[] W fun e W' => e = .returned (.bool true) ∧ KP w W t r A3 c3 A4 c4 A0 c0 A5 c5 A6 c6 W' := h.calls (awake32 W)
/-- a row's lists, as the law finds them -/
def RowsOf (w : World) (r : S37) (A0 : Option Addr) (c0 : Nat) (A5 : Option Addr) (c5 : Nat) (A6 : Option Addr) (c6 : Nat) : Prop :=
  r.f0.length ≤ c0 ∧ Kd.C k68 w A0 r.f0.length r.f0 ∧ r.f2.f0.length ≤ c5 ∧ Kd.C k181 w A5 r.f2.f0.length r.f2.f0 ∧ r.f2.f1.length ≤ c6 ∧ Kd.C (Kd.int .u64) w A6 r.f2.f1.length r.f2.f1
theorem RowsOf.below {w W : World} (h : RowsOf w r A0 c0 A5 c5 A6 c6) (hb : Below w.heap.size w W) : RowsOf W r A0 c0 A5 c5 A6 c6 :=
  ⟨h.1, Kd.C_below h.2.1 hb, h.2.2.1, Kd.C_below h.2.2.2.1 hb, h.2.2.2.2.1, Kd.C_below h.2.2.2.2.2 hb⟩
/-- a row's sizes -/
def RowSz (r : S37) : Prop := r.f0.length * 32 ≤ 140737488351232 ∧ r.f2.f0.length * 16 ≤ 140737488351232 ∧ r.f2.f1.length * 8 ≤ 140737488351232
theorem x38 (h : KS w W t r A3 c3 A4 c4 A0 c0 A5 c5 A6 c6) (hz : RowSz r) (hR : RowsOf w r A0 c0 A5 c5 A6 c6) :
    Calls Try.prog 38 #[.agg #[.slice A0 r.f0.length c0, .int .i64 r.f1, .slice A5 r.f2.f0.length c5, .slice A6 r.f2.f1.length c6, .int .u64 r.f2.f2.f0, .int .u64 r.f2.f2.f1, .int .u64 r.f2.f2.f2, .int .u64 r.f2.f2.f3]] W fun e W' =>
      (∃ D0 d0 D5 d5 D6 d6, e = .returned (.agg #[.slice D0 r.f0.length d0, .int .i64 r.f1, .slice D5 r.f2.f0.length d5, .slice D6 r.f2.f1.length d6, .int .u64 r.f2.f2.f0, .int .u64 r.f2.f2.f1, .int .u64 r.f2.f2.f2, .int .u64 r.f2.f2.f3]) ∧ RowsOf W' r D0 d0 D5 d5 D6 d6) ∧ KP w W t r A3 c3 A4 c4 A0 c0 A5 c5 A6 c6 W' := by
  obtain ⟨h1, h2, h3, h4, h5, h6⟩ := hR.below h.1
  obtain ⟨z1, z2, z3⟩ := hz
  exact h.calls ((row38 W r A0 c0 A5 c5 A6 c6 (by omega) h1 h2 (by omega) h3 h4 (by omega) h5 h6).mono fun e W' ⟨cs, he, hK, hb⟩ => by
    obtain ⟨D0, d0, D5, d5, D6, d6, rfl, q1, q2, q3, q4, q5, q6⟩ := k37_open (Kd.FK_now hK)
    exact ⟨⟨D0, d0, D5, d5, D6, d6, he, q1, q2, q3, q4, q5, q6⟩, hb⟩)
theorem x37 {D3 D4 D0 D5 D6 : Option Addr} {d3 d4 d0 d5 d6 : Nat} {v : Bool} (hv : coverB t r = v) (h : KS w W t r A3 c3 A4 c4 A0 c0 A5 c5 A6 c6) (ht : tinyP 0 t.f1) (hl : r.f0.length ≤ 50) (hM : MC W t.f1 D3 d3 D4 d4) (hR : RowsOf W r D0 d0 D5 d5 D6 d6) :
    Calls Try.prog 37 #[.agg #[.int .i64 t.f0, .int .i64 t.f1.f0, .string t.f1.f1, .string t.f1.f2, .slice D3 t.f1.f3.length d3, .slice D4 t.f1.f4.length d4, .int .i64 t.f2, .int .i64 t.f3], .agg #[.slice D0 r.f0.length d0, .int .i64 r.f1, .slice D5 r.f2.f0.length d5, .slice D6 r.f2.f1.length d6, .int .u64 r.f2.f2.f0, .int .u64 r.f2.f2.f1, .int .u64 r.f2.f2.f2, .int .u64 r.f2.f2.f3]] W fun e W' =>
      e = .returned (.bool v) ∧ KP w W t r A3 c3 A4 c4 A0 c0 A5 c5 A6 c6 W' :=
  h.calls (Covers37 W t r D3 d3 D4 d4 D0 d0 D5 r.f2.f0.length d5 D6 r.f2.f1.length d6 v hv (by have := ht.2.2.2; omega) hM (by omega) hR.1 hR.2.1)
theorem x39 {v : Bool} (hv : coverB t r = v) (hok : chkB t.f1 = true) (h : KS w W t r A3 c3 A4 c4 A0 c0 A5 c5 A6 c6) (ht : tinyP 0 t.f1) (hl : r.f0.length ≤ 50) (hM : MC w t.f1 A3 c3 A4 c4) (hR : RowsOf w r A0 c0 A5 c5 A6 c6) :
    Calls Try.prog 39 #[.agg #[.int .i64 t.f0, .int .i64 t.f1.f0, .string t.f1.f1, .string t.f1.f2, .slice A3 t.f1.f3.length c3, .slice A4 t.f1.f4.length c4, .int .i64 t.f2, .int .i64 t.f3], .agg #[.slice A0 r.f0.length c0, .int .i64 r.f1, .slice A5 r.f2.f0.length c5, .slice A6 r.f2.f1.length c6, .int .u64 r.f2.f2.f0, .int .u64 r.f2.f2.f1, .int .u64 r.f2.f2.f2, .int .u64 r.f2.f2.f3]] W fun e W' =>
      e = .returned (.bool v) ∧ KP w W t r A3 c3 A4 c4 A0 c0 A5 c5 A6 c6 W' := by
  obtain ⟨h1, h2, h3, h4, h5, h6⟩ := hR.below h.1
  exact h.calls (refCovers39 W t r A3 c3 A4 c4 A0 c0 A5 c5 A6 c6 v hv (by have := ht.2.2.2; omega) hok (hM.below h.1) (by omega) h1 h2 h3 h4 h5 h6)
end

noncomputable def tabT5 : Bool × List (List Nat × List Nat) := rtab .any (opsOf Try.f3 5)
theorem tabT5_eq : rtab .any (opsOf Try.f3 5) = tabT5 := rfl
set_option maxRecDepth 100000 in
set_option maxHeartbeats 8000000 in
theorem tombChecks_walk (w : World) (t : S27) (r : S37) (A3 : Option Addr) (c3 : Nat) (A4 : Option Addr) (c4 : Nat) (A0 : Option Addr) (c0 : Nat) (A5 : Option Addr) (c5 : Nat) (A6 : Option Addr) (c6 : Nat) (hz : RowSz r) (hM : MC w t.f1 A3 c3 A4 c4) (hR : RowsOf w r A0 c0 A5 c5 A6 c6) :
    Calls Try.prog 3 #[.agg #[.int .i64 t.f0, .int .i64 t.f1.f0, .string t.f1.f1, .string t.f1.f2, .slice A3 t.f1.f3.length c3, .slice A4 t.f1.f4.length c4, .int .i64 t.f2, .int .i64 t.f3], .agg #[.slice A0 r.f0.length c0, .int .i64 r.f1, .slice A5 r.f2.f0.length c5, .slice A6 r.f2.f1.length c6, .int .u64 r.f2.f2.f0, .int .u64 r.f2.f2.f1, .int .u64 r.f2.f2.f2, .int .u64 r.f2.f2.f3]] w fun e w' => e = .returned (.bool true) ∧ Below w.heap.size w w' := by
  have hK0 : KS w ((w.alloc (.cells #[.int .i64 t.f0, .int .i64 t.f1.f0, .string t.f1.f1, .string t.f1.f2, .slice A3 t.f1.f3.length c3, .slice A4 t.f1.f4.length c4, .int .i64 t.f2, .int .i64 t.f3] 27)).alloc (.cells #[.slice A0 r.f0.length c0, .int .i64 r.f1, .slice A5 r.f2.f0.length c5, .slice A6 r.f2.f1.length c6, .int .u64 r.f2.f2.f0, .int .u64 r.f2.f2.f1, .int .u64 r.f2.f2.f2, .int .u64 r.f2.f2.f3] 37)) t r A3 c3 A4 c4 A0 c0 A5 c5 A6 c6 := by
    refine ⟨below_alloc (below_alloc (Below.refl _ _) _) _, (Below.heap_alloc _ _ _ (by simp)).trans (blk_new w _), ?_⟩
    have := blk_new (w.alloc (.cells #[.int .i64 t.f0, .int .i64 t.f1.f0, .string t.f1.f1, .string t.f1.f2, .slice A3 t.f1.f3.length c3, .slice A4 t.f1.f4.length c4, .int .i64 t.f2, .int .i64 t.f3] 27)) (.cells #[.slice A0 r.f0.length c0, .int .i64 r.f1, .slice A5 r.f2.f0.length c5, .slice A6 r.f2.f1.length c6, .int .u64 r.f2.f2.f0, .int .u64 r.f2.f2.f1, .int .u64 r.f2.f2.f2, .int .u64 r.f2.f2.f3] 37)
    rwa [World.size_alloc] at this
  by_cases hlen : (r.f0.length : Int) > 50
  · go_enter Try.func3, Try.ntmps3
    go_wp2_with fail
    (with_reducible refine (tiny31 _ t.f1 A3 c3 A4 c4 (hM.below hK0.bel)).mono ?_)
    rintro e w1 ⟨v, rfl, hb1, -⟩
    obtain ⟨hK1, -, -, g0, g1, g2, g3, g4, g5, g6, g7⟩ := hK0.post hb1
    cases v with
    | false =>
      go_wp2_with fail
      (with_reducible refine (x32 hK1).mono ?_)
      rintro e w2 ⟨rfl, hK2⟩
      go_wp2_with fail
      go_ret
      exact ⟨rfl, hK2.1.bel⟩
    | true =>
      go_wp2_with fail
      (with_reducible refine (x32 hK1).mono ?_)
      rintro e w2 ⟨rfl, hK2⟩
      go_wp2_with fail
      go_ret
      exact ⟨rfl, hK2.1.bel⟩
  · have hl50 : r.f0.length ≤ 50 := by omega
    go_enter Try.func3, Try.ntmps3
    go_wp2_with fail
    (with_reducible refine (tiny31 _ t.f1 A3 c3 A4 c4 (hM.below hK0.bel)).mono ?_)
    rintro e w1 ⟨v, rfl, hb1, htn⟩
    obtain ⟨hK1, -, ⟨e0, e1, e2, e3, e4, e5, e6, e7⟩, g0, g1, g2, g3, g4, g5, g6, g7⟩ := hK0.post hb1
    cases v with
    | false =>
      go_wp2_with fail
      (with_reducible refine (x32 hK1).mono ?_)
      rintro e w2 ⟨rfl, hK2⟩
      go_wp2_with fail
      go_ret
      exact ⟨rfl, hK2.1.bel⟩
    | true =>
      have HT := Lib.hid (htn rfl)
      obtain ⟨vt, hvt⟩ : ∃ vt, tombB t.f0 t.f2 t.f3 t.f1 = vt := ⟨_, rfl⟩
      have HVT := Lib.hid hvt
      clear htn hvt hK0 hb1
      have hk := hK1.drew
      go_wp2_with fail
      go_region_held3 (fun w' => w'.cell? ⟨w.heap.size, 0, none⟩ = some (.int .i64 t.f0) ∧ w'.cell? ⟨w.heap.size, 1, none⟩ = some (.int .i64 t.f1.f0) ∧ w'.cell? ⟨w.heap.size, 2, none⟩ = some (.string t.f1.f1) ∧ w'.cell? ⟨w.heap.size, 3, none⟩ = some (.string t.f1.f2) ∧ w'.cell? ⟨w.heap.size, 4, none⟩ = some (.slice A3 t.f1.f3.length c3) ∧ w'.cell? ⟨w.heap.size, 5, none⟩ = some (.slice A4 t.f1.f4.length c4) ∧ w'.cell? ⟨w.heap.size, 6, none⟩ = some (.int .i64 t.f2) ∧ w'.cell? ⟨w.heap.size, 7, none⟩ = some (.int .i64 t.f3) ∧ KS w w' t r A3 c3 A4 c4 A0 c0 A5 c5 A6 c6)
        (first | exact ⟨by assumption, by assumption, by assumption, by assumption, by assumption, by assumption, by assumption, by assumption, by assumption⟩)
        (first | (go_at_call 34; (with_reducible refine (x34 (by assumption) HT.out hM).mono ?_); rintro e w34 ⟨⟨D3, d3, D4, d4, rfl, hMT⟩, hk, hb34, ⟨e0, e1, e2, e3, e4, e5, e6, e7⟩, g0, g1, g2, g3, g4, g5, g6, g7⟩) | (go_at_call 33; (with_reducible refine (x33 HVT.out (by assumption) hMT).mono ?_); rintro e w33 ⟨rfl, hk, hb33, ⟨e0, e1, e2, e3, e4, e5, e6, e7⟩, g0, g1, g2, g3, g4, g5, g6, g7⟩) | (go_at_call 35; (with_reducible refine (x35 HVT.out (by assumption) HT.out hM).mono ?_); rintro e w35 ⟨rfl, hk, hb35, ⟨e0, e1, e2, e3, e4, e5, e6, e7⟩, g0, g1, g2, g3, g4, g5, g6, g7⟩))
      rename_i hS
      obtain ⟨e0, e1, e2, e3, e4, e5, e6, e7, hk⟩ := hS
      replace hk := hk.drew
      obtain ⟨g0, g1, g2, g3, g4, g5, g6, g7⟩ := hk.2.2.all
      obtain ⟨e0, e1, e2, e3, e4, e5, e6, e7⟩ := hk.2.1.all
      cases hc : chkB t.f1 with
      | false =>
        have HC := Lib.hid hc
        clear hc
        go_wp2_with fail
        refine start_ (n := 19) (S := (fun w' => w'.cell? ⟨w.heap.size, 0, none⟩ = some (.int .i64 t.f0) ∧ w'.cell? ⟨w.heap.size, 1, none⟩ = some (.int .i64 t.f1.f0) ∧ w'.cell? ⟨w.heap.size, 2, none⟩ = some (.string t.f1.f1) ∧ w'.cell? ⟨w.heap.size, 3, none⟩ = some (.string t.f1.f2) ∧ w'.cell? ⟨w.heap.size, 4, none⟩ = some (.slice A3 t.f1.f3.length c3) ∧ w'.cell? ⟨w.heap.size, 5, none⟩ = some (.slice A4 t.f1.f4.length c4) ∧ w'.cell? ⟨w.heap.size, 6, none⟩ = some (.int .i64 t.f2) ∧ w'.cell? ⟨w.heap.size, 7, none⟩ = some (.int .i64 t.f3) ∧ w'.cell? ⟨w.heap.size + 1, 0, none⟩ = some (.slice A0 r.f0.length c0) ∧ w'.cell? ⟨w.heap.size + 1, 1, none⟩ = some (.int .i64 r.f1) ∧ w'.cell? ⟨w.heap.size + 1, 2, none⟩ = some (.slice A5 r.f2.f0.length c5) ∧ w'.cell? ⟨w.heap.size + 1, 3, none⟩ = some (.slice A6 r.f2.f1.length c6) ∧ w'.cell? ⟨w.heap.size + 1, 4, none⟩ = some (.int .u64 r.f2.f2.f0) ∧ w'.cell? ⟨w.heap.size + 1, 5, none⟩ = some (.int .u64 r.f2.f2.f1) ∧ w'.cell? ⟨w.heap.size + 1, 6, none⟩ = some (.int .u64 r.f2.f2.f2) ∧ w'.cell? ⟨w.heap.size + 1, 7, none⟩ = some (.int .u64 r.f2.f2.f3) ∧ KS w w' t r A3 c3 A4 c4 A0 c0 A5 c5 A6 c6)) (ds := []) #[false, false, false, false, false, false, false, false, false, false, false, false, false, false, false, false, false, false, false] (by kernel_rfl) rfl rfl ⟨by assumption, by assumption, by assumption, by assumption, by assumption, by assumption, by assumption, by assumption, by assumption, by assumption, by assumption, by assumption, by assumption, by assumption, by assumption, by assumption, by assumption⟩ (fun hHeld => ?_)
        refine with_tab (T := tabT5) tabT5_eq (fun HT_ => ?_)
        refine pure_ (i := 0) (N := some 22) (v := ?_) (a' := ?_) #[true, false, false, false, false, false, false, false, false, false, false, false, false, false, false, false, false, false, false] rfl rfl (any_of HT_.out (by kernel_rfl)) (fun _ _ _ h => h) (Or.inl ⟨by rfl, ?_⟩) ?_ ?_
        rotate_left
        · intro w'
          go_simp
          with_reducible rfl
        rotate_left
        · simp only [Act.put, List.setIfInBounds_toArray, List.set_cons_zero, List.set_cons_succ, i64_w, i32_w]
          rfl
        refine take_ (i := 1) (N := some 23) (v := ?_) (a' := ?_) #[true, true, false, false, false, false, false, false, false, false, false, false, false, false, false, false, false, false, false] rfl rfl (take_of HT_.out (by kernel_rfl)) (fun _ _ _ h => h) (Or.inl ⟨by rfl, ?_⟩) hHeld ?_ ?_
        rotate_left
        · rintro w' ⟨s0, s1, s2, s3, s4, s5, s6, s7, s8, s9, s10, s11, s12, s13, s14, s15, -⟩
          go_simp
          with_reducible rfl
        rotate_left
        · simp only [Act.put, List.setIfInBounds_toArray, List.set_cons_zero, List.set_cons_succ, i64_w, i32_w]
          rfl
        refine one_ (i := 2) (N := some 24) #[true, true, true, false, false, false, false, false, false, false, false, false, false, false, false, false, false, false, false] rfl rfl (one_of HT_.out (by kernel_rfl)) (by decide) (fun K hK => ?_)
        refine goes_ Try.func36 (by kernel_rfl) rfl #[.agg #[.int .i64 t.f1.f0, .string t.f1.f1, .string t.f1.f2, .slice A3 t.f1.f3.length c3, .slice A4 t.f1.f4.length c4]] (by rfl) rfl rfl (by (try simp only [List.map_toArray, List.map_cons, List.map_nil]); first | done | rfl) ?_
        (with_reducible refine (x36 HC.out hk HT.out hM).mono ?_)
        rintro e w36 ⟨rfl, hk, hb36, ⟨e0, e1, e2, e3, e4, e5, e6, e7⟩, g0, g1, g2, g3, g4, g5, g6, g7⟩
        refine ⟨_, rfl, ?_⟩
        clear hHeld
        refine hK.out _ _ ⟨by assumption, by assumption, by assumption, by assumption, by assumption, by assumption, by assumption, by assumption, by assumption, by assumption, by assumption, by assumption, by assumption, by assumption, by assumption, by assumption, by assumption⟩ (fun hHeld => ?_)
        clear hK K
        simp only [Act.put, List.setIfInBounds_toArray, List.set_cons_zero, List.set_cons_succ]
        refine pure_ (i := 3) (N := some 25) (v := ?_) (a' := ?_) #[true, true, true, true, false, false, false, false, false, false, false, false, false, false, false, false, false, false, false] rfl rfl (any_of HT_.out (by kernel_rfl)) (fun _ _ _ h => h) (Or.inl ⟨by rfl, ?_⟩) ?_ ?_
        rotate_left
        · intro w'
          go_simp
          with_reducible rfl
        rotate_left
        · simp only [Act.put, List.setIfInBounds_toArray, List.set_cons_zero, List.set_cons_succ, i64_w, i32_w]
          rfl
        refine pure_ (i := 4) (N := some 26) (v := ?_) (a' := ?_) #[true, true, true, true, true, false, false, false, false, false, false, false, false, false, false, false, false, false, false] rfl rfl (any_of HT_.out (by kernel_rfl)) (fun _ _ _ h => h) (Or.inl ⟨by rfl, ?_⟩) ?_ ?_
        rotate_left
        · intro w'
          go_simp
          with_reducible rfl
        rotate_left
        · simp only [Act.put, List.setIfInBounds_toArray, List.set_cons_zero, List.set_cons_succ, i64_w, i32_w]
          rfl
        refine pure_ (i := 5) (N := some 27) (v := undef) (a' := ?_) #[true, true, true, true, true, true, false, false, false, false, false, false, false, false, false, false, false, false, false] rfl rfl (any_of HT_.out (by kernel_rfl)) (fun _ _ _ h => h) (Or.inr ⟨by rfl, rfl⟩) ?_ ?_
        rotate_left
        · simp only [Act.put, List.setIfInBounds_toArray, List.set_cons_zero, List.set_cons_succ, i64_w, i32_w]
          rfl
        refine pure_ (i := 6) (N := some 28) (v := undef) (a' := ?_) #[true, true, true, true, true, true, true, false, false, false, false, false, false, false, false, false, false, false, false] rfl rfl (any_of HT_.out (by kernel_rfl)) (fun _ _ _ h => h) (Or.inr ⟨by rfl, rfl⟩) ?_ ?_
        rotate_left
        · simp only [Act.put, List.setIfInBounds_toArray, List.set_cons_zero, List.set_cons_succ, i64_w, i32_w]
          rfl
        refine pure_ (i := 7) (N := some 29) (v := undef) (a' := ?_) #[true, true, true, true, true, true, true, true, false, false, false, false, false, false, false, false, false, false, false] rfl rfl (any_of HT_.out (by kernel_rfl)) (fun _ _ _ h => h) (Or.inr ⟨by rfl, rfl⟩) ?_ ?_
        rotate_left
        · simp only [Act.put, List.setIfInBounds_toArray, List.set_cons_zero, List.set_cons_succ, i64_w, i32_w]
          rfl
        refine pure_ (i := 8) (N := some 30) (v := undef) (a' := ?_) #[true, true, true, true, true, true, true, true, true, false, false, false, false, false, false, false, false, false, false] rfl rfl (any_of HT_.out (by kernel_rfl)) (fun _ _ _ h => h) (Or.inr ⟨by rfl, rfl⟩) ?_ ?_
        rotate_left
        · simp only [Act.put, List.setIfInBounds_toArray, List.set_cons_zero, List.set_cons_succ, i64_w, i32_w]
          rfl
        refine pure_ (i := 9) (N := some 31) (v := undef) (a' := ?_) #[true, true, true, true, true, true, true, true, true, true, false, false, false, false, false, false, false, false, false] rfl rfl (any_of HT_.out (by kernel_rfl)) (fun _ _ _ h => h) (Or.inr ⟨by rfl, rfl⟩) ?_ ?_
        rotate_left
        · simp only [Act.put, List.setIfInBounds_toArray, List.set_cons_zero, List.set_cons_succ, i64_w, i32_w]
          rfl
        refine pure_ (i := 10) (N := some 32) (v := undef) (a' := ?_) #[true, true, true, true, true, true, true, true, true, true, true, false, false, false, false, false, false, false, false] rfl rfl (any_of HT_.out (by kernel_rfl)) (fun _ _ _ h => h) (Or.inr ⟨by rfl, rfl⟩) ?_ ?_
        rotate_left
        · simp only [Act.put, List.setIfInBounds_toArray, List.set_cons_zero, List.set_cons_succ, i64_w, i32_w]
          rfl
        refine pure_ (i := 11) (N := some 33) (v := undef) (a' := ?_) #[true, true, true, true, true, true, true, true, true, true, true, true, false, false, false, false, false, false, false] rfl rfl (any_of HT_.out (by kernel_rfl)) (fun _ _ _ h => h) (Or.inr ⟨by rfl, rfl⟩) ?_ ?_
        rotate_left
        · simp only [Act.put, List.setIfInBounds_toArray, List.set_cons_zero, List.set_cons_succ, i64_w, i32_w]
          rfl
        refine pure_ (i := 12) (N := some 34) (v := undef) (a' := ?_) #[true, true, true, true, true, true, true, true, true, true, true, true, true, false, false, false, false, false, false] rfl rfl (any_of HT_.out (by kernel_rfl)) (fun _ _ _ h => h) (Or.inr ⟨by rfl, rfl⟩) ?_ ?_
        rotate_left
        · simp only [Act.put, List.setIfInBounds_toArray, List.set_cons_zero, List.set_cons_succ, i64_w, i32_w]
          rfl
        refine pure_ (i := 13) (N := some 35) (v := undef) (a' := ?_) #[true, true, true, true, true, true, true, true, true, true, true, true, true, true, false, false, false, false, false] rfl rfl (any_of HT_.out (by kernel_rfl)) (fun _ _ _ h => h) (Or.inr ⟨by rfl, rfl⟩) ?_ ?_
        rotate_left
        · simp only [Act.put, List.setIfInBounds_toArray, List.set_cons_zero, List.set_cons_succ, i64_w, i32_w]
          rfl
        refine pure_ (i := 14) (N := some 36) (v := ?_) (a' := ?_) #[true, true, true, true, true, true, true, true, true, true, true, true, true, true, true, false, false, false, false] rfl rfl (any_of HT_.out (by kernel_rfl)) (fun _ _ _ h => h) (Or.inl ⟨by rfl, ?_⟩) ?_ ?_
        rotate_left
        · intro w'
          go_simp
          with_reducible rfl
        rotate_left
        · simp only [Act.put, List.setIfInBounds_toArray, List.set_cons_zero, List.set_cons_succ, i64_w, i32_w]
          rfl
        refine pure_ (i := 15) (N := some 37) (v := ?_) (a' := ?_) #[true, true, true, true, true, true, true, true, true, true, true, true, true, true, true, true, false, false, false] rfl rfl (any_of HT_.out (by kernel_rfl)) (fun _ _ _ h => h) (Or.inl ⟨by rfl, ?_⟩) ?_ ?_
        rotate_left
        · intro w'
          go_simp
          with_reducible rfl
        rotate_left
        · simp only [Act.put, List.setIfInBounds_toArray, List.set_cons_zero, List.set_cons_succ, i64_w, i32_w]
          rfl
        refine one_ (i := 16) (N := some 38) #[true, true, true, true, true, true, true, true, true, true, true, true, true, true, true, true, true, false, false] rfl rfl (one_of HT_.out (by kernel_rfl)) (by decide) (fun K hK => ?_)
        refine goes_ Try.func32 (by kernel_rfl) rfl #[] (by rfl) rfl rfl (by (try simp only [List.map_toArray, List.map_cons, List.map_nil]); first | done | rfl) ?_
        (with_reducible refine (x32 hk).mono ?_)
        rintro e w32 ⟨rfl, hk, hb32, ⟨e0, e1, e2, e3, e4, e5, e6, e7⟩, g0, g1, g2, g3, g4, g5, g6, g7⟩
        refine ⟨_, rfl, ?_⟩
        clear hHeld
        refine hK.out _ _ ⟨by assumption, by assumption, by assumption, by assumption, by assumption, by assumption, by assumption, by assumption, by assumption, by assumption, by assumption, by assumption, by assumption, by assumption, by assumption, by assumption, by assumption⟩ (fun hHeld => ?_)
        clear hK K
        simp only [Act.put, List.setIfInBounds_toArray, List.set_cons_zero, List.set_cons_succ]
        refine pure_ (i := 17) (N := some 39) (v := ?_) (a' := ?_) #[true, true, true, true, true, true, true, true, true, true, true, true, true, true, true, true, true, true, false] rfl rfl (any_of HT_.out (by kernel_rfl)) (fun _ _ _ h => h) (Or.inl ⟨by rfl, ?_⟩) ?_ ?_
        rotate_left
        · intro w'
          go_simp
          with_reducible rfl
        rotate_left
        · simp only [Act.put, List.setIfInBounds_toArray, List.set_cons_zero, List.set_cons_succ, i64_w, i32_w]
          rfl
        refine pure_ (i := 18) (N := some 4) (v := ?_) (a' := ?_) #[true, true, true, true, true, true, true, true, true, true, true, true, true, true, true, true, true, true, true] rfl rfl (any_of HT_.out (by kernel_rfl)) (fun _ _ _ h => h) (Or.inl ⟨by rfl, ?_⟩) ?_ ?_
        rotate_left
        · intro w'
          go_simp
          with_reducible rfl
        rotate_left
        · simp only [Act.put, List.setIfInBounds_toArray, List.set_cons_zero, List.set_cons_succ, i64_w, i32_w]
          rfl
        refine done_ (done_of HT_.out (by kernel_rfl)) ?_
        have hbel := KTR.bel (by assumption)
        go_wp2_with fail
        go_ret
        exact ⟨rfl, hbel⟩
      | true =>
        have HC := Lib.hid hc
        obtain ⟨vc, hvc⟩ : ∃ vc, coverB t r = vc := ⟨_, rfl⟩
        have HVC := Lib.hid hvc
        clear hc hvc
        cases vc with
        | true =>
          go_wp2_with fail
          go_region_held3 (fun w' => w'.cell? ⟨w.heap.size, 0, none⟩ = some (.int .i64 t.f0) ∧ w'.cell? ⟨w.heap.size, 1, none⟩ = some (.int .i64 t.f1.f0) ∧ w'.cell? ⟨w.heap.size, 2, none⟩ = some (.string t.f1.f1) ∧ w'.cell? ⟨w.heap.size, 3, none⟩ = some (.string t.f1.f2) ∧ w'.cell? ⟨w.heap.size, 4, none⟩ = some (.slice A3 t.f1.f3.length c3) ∧ w'.cell? ⟨w.heap.size, 5, none⟩ = some (.slice A4 t.f1.f4.length c4) ∧ w'.cell? ⟨w.heap.size, 6, none⟩ = some (.int .i64 t.f2) ∧ w'.cell? ⟨w.heap.size, 7, none⟩ = some (.int .i64 t.f3) ∧ w'.cell? ⟨w.heap.size + 1, 0, none⟩ = some (.slice A0 r.f0.length c0) ∧ w'.cell? ⟨w.heap.size + 1, 1, none⟩ = some (.int .i64 r.f1) ∧ w'.cell? ⟨w.heap.size + 1, 2, none⟩ = some (.slice A5 r.f2.f0.length c5) ∧ w'.cell? ⟨w.heap.size + 1, 3, none⟩ = some (.slice A6 r.f2.f1.length c6) ∧ w'.cell? ⟨w.heap.size + 1, 4, none⟩ = some (.int .u64 r.f2.f2.f0) ∧ w'.cell? ⟨w.heap.size + 1, 5, none⟩ = some (.int .u64 r.f2.f2.f1) ∧ w'.cell? ⟨w.heap.size + 1, 6, none⟩ = some (.int .u64 r.f2.f2.f2) ∧ w'.cell? ⟨w.heap.size + 1, 7, none⟩ = some (.int .u64 r.f2.f2.f3) ∧ KS w w' t r A3 c3 A4 c4 A0 c0 A5 c5 A6 c6)
            (first | exact ⟨by assumption, by assumption, by assumption, by assumption, by assumption, by assumption, by assumption, by assumption, by assumption, by assumption, by assumption, by assumption, by assumption, by assumption, by assumption, by assumption, by assumption⟩)
            (first | (go_at_call 36; (with_reducible refine (x36 HC.out (by assumption) HT.out hM).mono ?_); rintro e w36 ⟨rfl, hk, hb36, ⟨e0, e1, e2, e3, e4, e5, e6, e7⟩, g0, g1, g2, g3, g4, g5, g6, g7⟩) | (go_at_call 34; (with_reducible refine (x34 (by assumption) HT.out hM).mono ?_); rintro e w34 ⟨⟨D3, d3, D4, d4, rfl, hMC⟩, hk, hb34, ⟨e0, e1, e2, e3, e4, e5, e6, e7⟩, g0, g1, g2, g3, g4, g5, g6, g7⟩) | (go_at_call 38; (with_reducible refine (x38 (by assumption) hz hR).mono ?_); rintro e w38 ⟨⟨D0, d0, D5, d5, D6, d6, rfl, hRC⟩, hk, hb38, ⟨e0, e1, e2, e3, e4, e5, e6, e7⟩, g0, g1, g2, g3, g4, g5, g6, g7⟩) | (go_at_call 37; (with_reducible refine (x37 HVC.out (by assumption) HT.out hl50 (hMC.below (by assumption)) hRC).mono ?_); rintro e w37 ⟨rfl, hk, hb37, ⟨e0, e1, e2, e3, e4, e5, e6, e7⟩, g0, g1, g2, g3, g4, g5, g6, g7⟩) | (go_at_call 39; (with_reducible refine (x39 HVC.out HC.out (by assumption) HT.out hl50 hM hR).mono ?_); rintro e w39 ⟨rfl, hk, hb39, ⟨e0, e1, e2, e3, e4, e5, e6, e7⟩, g0, g1, g2, g3, g4, g5, g6, g7⟩) | (go_at_call 32; (with_reducible refine (x32 (by assumption)).mono ?_); rintro e w32 ⟨rfl, hk, hb32, ⟨e0, e1, e2, e3, e4, e5, e6, e7⟩, g0, g1, g2, g3, g4, g5, g6, g7⟩))
          rename_i hS
          have hbel := hS.2.2.2.2.2.2.2.2.2.2.2.2.2.2.2.2.bel
          clear hS
          go_wp2_with fail
          go_ret
          exact ⟨rfl, hbel⟩
        | false =>
          go_wp2_with fail
          go_region_held3 (fun w' => w'.cell? ⟨w.heap.size, 0, none⟩ = some (.int .i64 t.f0) ∧ w'.cell? ⟨w.heap.size, 1, none⟩ = some (.int .i64 t.f1.f0) ∧ w'.cell? ⟨w.heap.size, 2, none⟩ = some (.string t.f1.f1) ∧ w'.cell? ⟨w.heap.size, 3, none⟩ = some (.string t.f1.f2) ∧ w'.cell? ⟨w.heap.size, 4, none⟩ = some (.slice A3 t.f1.f3.length c3) ∧ w'.cell? ⟨w.heap.size, 5, none⟩ = some (.slice A4 t.f1.f4.length c4) ∧ w'.cell? ⟨w.heap.size, 6, none⟩ = some (.int .i64 t.f2) ∧ w'.cell? ⟨w.heap.size, 7, none⟩ = some (.int .i64 t.f3) ∧ w'.cell? ⟨w.heap.size + 1, 0, none⟩ = some (.slice A0 r.f0.length c0) ∧ w'.cell? ⟨w.heap.size + 1, 1, none⟩ = some (.int .i64 r.f1) ∧ w'.cell? ⟨w.heap.size + 1, 2, none⟩ = some (.slice A5 r.f2.f0.length c5) ∧ w'.cell? ⟨w.heap.size + 1, 3, none⟩ = some (.slice A6 r.f2.f1.length c6) ∧ w'.cell? ⟨w.heap.size + 1, 4, none⟩ = some (.int .u64 r.f2.f2.f0) ∧ w'.cell? ⟨w.heap.size + 1, 5, none⟩ = some (.int .u64 r.f2.f2.f1) ∧ w'.cell? ⟨w.heap.size + 1, 6, none⟩ = some (.int .u64 r.f2.f2.f2) ∧ w'.cell? ⟨w.heap.size + 1, 7, none⟩ = some (.int .u64 r.f2.f2.f3) ∧ KS w w' t r A3 c3 A4 c4 A0 c0 A5 c5 A6 c6)
            (first | exact ⟨by assumption, by assumption, by assumption, by assumption, by assumption, by assumption, by assumption, by assumption, by assumption, by assumption, by assumption, by assumption, by assumption, by assumption, by assumption, by assumption, by assumption⟩)
            (first | (go_at_call 36; (with_reducible refine (x36 HC.out (by assumption) HT.out hM).mono ?_); rintro e w36 ⟨rfl, hk, hb36, ⟨e0, e1, e2, e3, e4, e5, e6, e7⟩, g0, g1, g2, g3, g4, g5, g6, g7⟩) | (go_at_call 34; (with_reducible refine (x34 (by assumption) HT.out hM).mono ?_); rintro e w34 ⟨⟨D3, d3, D4, d4, rfl, hMC⟩, hk, hb34, ⟨e0, e1, e2, e3, e4, e5, e6, e7⟩, g0, g1, g2, g3, g4, g5, g6, g7⟩) | (go_at_call 38; (with_reducible refine (x38 (by assumption) hz hR).mono ?_); rintro e w38 ⟨⟨D0, d0, D5, d5, D6, d6, rfl, hRC⟩, hk, hb38, ⟨e0, e1, e2, e3, e4, e5, e6, e7⟩, g0, g1, g2, g3, g4, g5, g6, g7⟩) | (go_at_call 37; (with_reducible refine (x37 HVC.out (by assumption) HT.out hl50 (hMC.below (by assumption)) hRC).mono ?_); rintro e w37 ⟨rfl, hk, hb37, ⟨e0, e1, e2, e3, e4, e5, e6, e7⟩, g0, g1, g2, g3, g4, g5, g6, g7⟩) | (go_at_call 39; (with_reducible refine (x39 HVC.out HC.out (by assumption) HT.out hl50 hM hR).mono ?_); rintro e w39 ⟨rfl, hk, hb39, ⟨e0, e1, e2, e3, e4, e5, e6, e7⟩, g0, g1, g2, g3, g4, g5, g6, g7⟩) | (go_at_call 32; (with_reducible refine (x32 (by assumption)).mono ?_); rintro e w32 ⟨rfl, hk, hb32, ⟨e0, e1, e2, e3, e4, e5, e6, e7⟩, g0, g1, g2, g3, g4, g5, g6, g7⟩))
          rename_i hS
          have hbel := hS.2.2.2.2.2.2.2.2.2.2.2.2.2.2.2.2.bel
          clear hS
          go_wp2_with fail
          go_ret
          exact ⟨rfl, hbel⟩
end Go.Proofs.Yteafilojjdfllaa
