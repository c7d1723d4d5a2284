/- Own text: what the laws about matchers keep: the matchers' boxes; the calls that they make, with what they leave. -/
import Derived.Test.YteafilojjdfllaaLists
import Derived.Test.YteafilojjdfllaaAwakeM
namespace Go.Proofs.Yteafilojjdfllaa
open Go Go.RowKit Go.Proofs.YteafilojjdfllaaW.PrintWords Go.Proofs.YteafilojjdfllaaW.PrintLast Go.Proofs.YteafilojjdfllaaW.PrintMore Go.Proofs.Yteafilojjdfllaa.PAll

/-- a matcher's box and what its cells tell -/
def CellsM (W : World) (g : Nat) (m : S25) (v3 v4 : Value) : Prop :=
  W.cell? ⟨g, 0, none⟩ = some (.int .i64 m.f0) ∧ W.cell? ⟨g, 1, none⟩ = some (.string m.f1) ∧ W.cell? ⟨g, 2, none⟩ = some (.string m.f2) ∧ W.cell? ⟨g, 3, none⟩ = some v3 ∧ W.cell? ⟨g, 4, none⟩ = some v4
theorem BoxM.cells {W : World} {g : Nat} {m : S25} {v3 v4 : Value} (h : BoxM W g m.f0 m.f1 m.f2 v3 v4) : CellsM W g m v3 v4 := ⟨h.c0, h.c1, h.c2, h.c3, h.c4⟩
/-- the law's state: one matcher's box -/
def KM (w W : World) (m : S25) (v3 v4 : Value) : Prop := Below w.heap.size w W ∧ BoxM W w.heap.size m.f0 m.f1 m.f2 v3 v4
theorem KM.bel {w W : World} {m : S25} {v3 v4 : Value} (h : KM w W m v3 v4) : Below w.heap.size w W := h.1
theorem KM.step {w W W' : World} {m : S25} {v3 v4 : Value} (h : KM w W m v3 v4) (hb : Below W.heap.size W W') : KM w W' m v3 v4 := ⟨below_step h.1 hb, h.2.below hb⟩
theorem KM.drew {w W : World} {m : S25} {v3 v4 : Value} (h : KM w W m v3 v4) : KM w W.drew m v3 v4 := h.step (below_drew (Below.refl _ _))
theorem KM.cells {w W : World} {m : S25} {v3 v4 : Value} (h : KM w W m v3 v4) : CellsM W w.heap.size m v3 v4 := h.2.cells
def KMP (w W : World) (m : S25) (v3 v4 : Value) (W' : World) : Prop := KM w W' m v3 v4 ∧ Below W.heap.size W W' ∧ CellsM W' w.heap.size m v3 v4
theorem KM.post {w W W' : World} {m : S25} {v3 v4 : Value} (h : KM w W m v3 v4) (hb : Below W.heap.size W W') : KMP w W m v3 v4 W' := ⟨h.step hb, hb, (h.step hb).cells⟩
theorem KM.calls {w W : World} {m : S25} {v3 v4 : Value} {f : FuncId} {args : Array Value} {Q : Ending → World → Prop} (h : KM w W m v3 v4) (hc : Calls Try.prog f args W fun e W' => Q e W' ∧ Below W.heap.size W W') :
    Calls Try.prog f args W fun e W' => Q e W' ∧ KMP w W m v3 v4 W' := hc.mono fun _ _ ⟨hq, hb⟩ => ⟨hq, h.post hb⟩
theorem KM.new (w : World) (m : S25) (v3 v4 : Value) : KM w (w.alloc (.cells #[.int .i64 m.f0, .string m.f1, .string m.f2, v3, v4] 25)) m v3 v4 := ⟨below_alloc (Below.refl _ _) _, blk_new w _⟩
section
variable (W : World) (m : S25) (A3 : Option Addr) (c3 : Nat) (A4 : Option Addr) (c4 : Nat)
theorem c54 (ht : tinyP 0 m) (hM : MC W m A3 c3 A4 c4) :
    Calls Try.prog 54 #[.agg #[.int .i64 m.f0, .string m.f1, .string m.f2, .slice A3 m.f3.length c3, .slice A4 m.f4.length c4]] W fun e W' =>
      (∃ D3 d3 D4 d4, e = .returned (.agg #[.int .i64 m.f0, .string m.f1, .string m.f2, .slice D3 m.f3.length d3, .slice D4 m.f4.length d4]) ∧ MC W' m D3 d3 D4 d4) ∧ Below W.heap.size W W' :=
  (matcher54 W m A3 c3 A4 c4 ht hM).mono fun _ _ ⟨D3, d3, D4, d4, he, hm, hb⟩ => ⟨⟨D3, d3, D4, d4, he, hm.now⟩, hb⟩
theorem c31 (hM : MC W m A3 c3 A4 c4) :
    Calls Try.prog 31 #[.agg #[.int .i64 m.f0, .string m.f1, .string m.f2, .slice A3 m.f3.length c3, .slice A4 m.f4.length c4]] W fun e W' => (∃ v : Bool, e = .returned (.bool v) ∧ (v = true → tinyP 0 m)) ∧ Below W.heap.size W W' :=
  (tiny31 W m A3 c3 A4 c4 hM).mono fun _ _ ⟨v, he, hb, ht⟩ => ⟨⟨v, he, ht⟩, hb⟩
theorem c56 (A : Option Addr) (c : Nat) (xs : List S68) (hl : xs.length ≤ 100) (hc : xs.length ≤ c) (hC : Kd.C k68 W A xs.length xs) :
    Calls Try.prog 56 #[.slice A xs.length c] W fun e W' => (∃ D d, e = .returned (.slice D xs.length d) ∧ xs.length ≤ d ∧ Kd.C k68 W' D xs.length xs) ∧ Below W.heap.size W W' :=
  (list56 W A c xs (by omega) hc hC).mono fun _ _ ⟨D, d, he, hf, hb⟩ => ⟨⟨D, d, he, hf.now.1, hf.now.2⟩, hb⟩
theorem c55 (v : Bool) (A1 : Option Addr) (c1 : Nat) (l : List S68) (hv : evalB l m = v) (ht : tinyP 0 m) (hM : MC W m A3 c3 A4 c4) (hl : l.length ≤ 1000) (h1 : l.length ≤ c1) (g1 : Kd.C k68 W A1 l.length l) :
    Calls Try.prog 55 #[.agg #[.int .i64 m.f0, .string m.f1, .string m.f2, .slice A3 m.f3.length c3, .slice A4 m.f4.length c4], .slice A1 l.length c1] W fun e W' => e = .returned (.bool v) ∧ Below W.heap.size W W' :=
  Eval55 W m A3 c3 A4 c4 A1 c1 l v hv (by have := ht.2.2.2; omega) hM (by omega) h1 g1
end

section
variable {w W : World} {m n : S25} {A3 A4 B3 B4 : Option Addr} {c3 c4 b3 b4 : Nat}
theorem m54 (h : KM w W m (.slice A3 m.f3.length c3) (.slice A4 m.f4.length c4)) (ht : tinyP 0 m) (hM : MC w m A3 c3 A4 c4) :
    Calls Try.prog 54 #[.agg #[.int .i64 m.f0, .string m.f1, .string m.f2, .slice A3 m.f3.length c3, .slice A4 m.f4.length c4]] W fun e W' => (∃ D3 d3 D4 d4, e = .returned (.agg #[.int .i64 m.f0, .string m.f1, .string m.f2, .slice D3 m.f3.length d3, .slice D4 m.f4.length d4]) ∧ MC W' m D3 d3 D4 d4) ∧ KMP w W m (.slice A3 m.f3.length c3) (.slice A4 m.f4.length c4) W' := h.calls (c54 W m A3 c3 A4 c4 ht (hM.below h.1))
theorem m53 {D3 D4 : Option Addr} {d3 d4 : Nat} {v : Bool} (hv : chkB m = v) (h : KM w W m (.slice A3 m.f3.length c3) (.slice A4 m.f4.length c4)) (hM : MC W m D3 d3 D4 d4) :
    Calls Try.prog 53 #[.agg #[.int .i64 m.f0, .string m.f1, .string m.f2, .slice D3 m.f3.length d3, .slice D4 m.f4.length d4]] W fun e W' => e = .returned (.bool v) ∧ KMP w W m (.slice A3 m.f3.length c3) (.slice A4 m.f4.length c4) W' := h.calls (check53v W m D3 d3 D4 d4 v hv hM)
theorem m36 {v : Bool} (hv : chkB m = v) (h : KM w W m (.slice A3 m.f3.length c3) (.slice A4 m.f4.length c4)) (ht : tinyP 0 m) (hM : MC w m A3 c3 A4 c4) :
    Calls Try.prog 36 #[.agg #[.int .i64 m.f0, .string m.f1, .string m.f2, .slice A3 m.f3.length c3, .slice A4 m.f4.length c4]] W fun e W' => e = .returned (.bool v) ∧ KMP w W m (.slice A3 m.f3.length c3) (.slice A4 m.f4.length c4) W' := h.calls (check36v W m A3 c3 A4 c4 v hv ht.2.1 (hM.below h.1))
theorem m31 (h : KM w W m (.slice A3 m.f3.length c3) (.slice A4 m.f4.length c4)) (hM : MC w m A3 c3 A4 c4) :
    Calls Try.prog 31 #[.agg #[.int .i64 m.f0, .string m.f1, .string m.f2, .slice A3 m.f3.length c3, .slice A4 m.f4.length c4]] W fun e W' => (∃ v : Bool, e = .returned (.bool v) ∧ (v = true → tinyP 0 m)) ∧ KMP w W m (.slice A3 m.f3.length c3) (.slice A4 m.f4.length c4) W' := h.calls (c31 W m A3 c3 A4 c4 (hM.below h.1))
theorem m52 (h : KM w W m (.slice A3 m.f3.length c3) (.slice A4 m.f4.length c4)) : Calls Try.prog 52 #[] W fun e W' => e = .returned (.bool true) ∧ KMP w W m (.slice A3 m.f3.length c3) (.slice A4 m.f4.length c4) W' := h.calls (awake52 W)
theorem m55 {D3 D4 : Option Addr} {d3 d4 : Nat} {v : Bool} {A1 : Option Addr} {c1 : Nat} {l : List S68} (hv : evalB l m = v) (h : KM w W m (.slice A3 m.f3.length c3) (.slice A4 m.f4.length c4)) (ht : tinyP 0 m) (hM : MC W m D3 d3 D4 d4) (hl : l.length ≤ 1000) (h1 : l.length ≤ c1) (g1 : Kd.C k68 W A1 l.length l) :
    Calls Try.prog 55 #[.agg #[.int .i64 m.f0, .string m.f1, .string m.f2, .slice D3 m.f3.length d3, .slice D4 m.f4.length d4], .slice A1 l.length c1] W fun e W' => e = .returned (.bool v) ∧ KMP w W m (.slice A3 m.f3.length c3) (.slice A4 m.f4.length c4) W' := h.calls (c55 W m D3 d3 D4 d4 v A1 c1 l hv ht hM hl h1 g1)
theorem m56 {A1 : Option Addr} {c1 : Nat} {l : List S68} (h : KM w W m (.slice A3 m.f3.length c3) (.slice A4 m.f4.length c4)) (hl : l.length ≤ 100) (h1 : l.length ≤ c1) (g1 : Kd.C k68 w A1 l.length l) :
    Calls Try.prog 56 #[.slice A1 l.length c1] W fun e W' => (∃ D d, e = .returned (.slice D l.length d) ∧ l.length ≤ d ∧ Kd.C k68 W' D l.length l) ∧ KMP w W m (.slice A3 m.f3.length c3) (.slice A4 m.f4.length c4) W' := h.calls (c56 W A1 c1 l hl h1 (Kd.C_below g1 h.1))
end
end Go.Proofs.Yteafilojjdfllaa
