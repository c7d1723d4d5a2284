/- Own text: match.Same; what MatchSame calls. -/
import Derived.Test.YteafilojjdfllaaMLawB
import Derived.Test.YteafilojjdfllaaTxtS
namespace Go.Proofs.Yteafilojjdfllaa
open Go Go.RowKit Go.Proofs.YteafilojjdfllaaW.PrintWords Go.Proofs.YteafilojjdfllaaW.PrintLast Go.Proofs.YteafilojjdfllaaW.PrintMore Go.Proofs.Yteafilojjdfllaa.PAll

theorem tB_inj {m n : S25} (h : okM m = true) (h' : okM n = true) (he : tB m = tB n) : m = n := by
  have e : textM m = textM n := by
    have := congrArg (fun b : ByteArray => b.data.toList) he
    simpa [tB] using this
  exact (textM_pre _ m n [] [] (Nat.le_refl _) h h' (by rw [e])).1
theorem same109 (w : World) (m n : S25) (A3 : Option Addr) (c3 : Nat) (A4 : Option Addr) (c4 : Nat) (B3 : Option Addr) (b3 : Nat) (B4 : Option Addr) (b4 : Nat) (v : Bool) (hv : sameB m n = v) (hok : okM m = true) (h1000 : nodesM m ≤ 1000) (hM : MC w m A3 c3 A4 c4) (hN : MC w n B3 b3 B4 b4) :
    Calls Try.prog 109 #[.agg #[.int .i64 m.f0, .string m.f1, .string m.f2, .slice A3 m.f3.length c3, .slice A4 m.f4.length c4], .agg #[.int .i64 n.f0, .string n.f1, .string n.f2, .slice B3 n.f3.length b3, .slice B4 n.f4.length b4]] w fun e w' => e = .returned (.bool v) ∧ Below w.heap.size w w' :=
  match_same.calls (30 + 50 * nodesM m) m.f0 m.f1 m.f2 A3 c3 m.f3 A4 c4 m.f4 n.f0 n.f1 n.f2 B3 b3 n.f3 B4 b4 n.f4 v w hM.2.1 hM.1 hM.2.2.2 hM.2.2.1 hN.2.1 hN.1 hN.2.2.2 hN.2.2.1 (hv ▸ same_val _ m n (Nat.le_refl _) h1000 hok _ (Nat.le_refl _))

set_option maxRecDepth 100000 in
set_option maxHeartbeats 4000000 in
/-- match.Same of two that may be. -/
theorem Same60 (w : World) (m n : S25) (A3 : Option Addr) (c3 : Nat) (A4 : Option Addr) (c4 : Nat) (B3 : Option Addr) (b3 : Nat) (B4 : Option Addr) (b4 : Nat) (v : Bool) (hv : sameB m n = v) (hc : chkB m = true) (hd : chkB n = true) (h1000 : nodesM m ≤ 1000) (hM : MC w m A3 c3 A4 c4) (hN : MC w n B3 b3 B4 b4) :
    Calls Try.prog 60 #[.agg #[.int .i64 m.f0, .string m.f1, .string m.f2, .slice A3 m.f3.length c3, .slice A4 m.f4.length c4], .agg #[.int .i64 n.f0, .string n.f1, .string n.f2, .slice B3 n.f3.length b3, .slice B4 n.f4.length b4]] w fun e w' => e = .returned (.bool v) ∧ Below w.heap.size w w' := by
  have hk := K2.new w m n (.slice A3 m.f3.length c3) (.slice A4 m.f4.length c4) (.slice B3 n.f3.length b3) (.slice B4 n.f4.length b4)
  have HC := Lib.hid hc
  have HD := Lib.hid hd
  have Hok := Lib.hid (chk_def.1 hc).1
  have HV := Lib.hid hv
  clear hc hd hv
  go_enter Try.func60, Try.ntmps60
  go_wp2_with fail
  (with_reducible refine (hk.calls (check53v _ m A3 c3 A4 c4 true HC.out (hM.below hk.bel))).mono ?_)
  rintro e w1 ⟨rfl, hk, -, ⟨e0, e1, e2, e3, e4⟩, g0, g1, g2, g3, g4⟩
  go_wp2_with fail
  (with_reducible refine (hk.calls (check53v _ n B3 b3 B4 b4 true HD.out (hN.below hk.bel))).mono ?_)
  rintro e w2 ⟨rfl, hk, -, ⟨e0, e1, e2, e3, e4⟩, g0, g1, g2, g3, g4⟩
  go_wp2_with fail
  (with_reducible refine (same109 _ m n A3 c3 A4 c4 B3 b3 B4 b4 v HV.out Hok.out h1000 (hM.below hk.bel) (hN.below hk.bel)).mono ?_)
  rintro e w3 ⟨rfl, hb3⟩
  go_wp2_with fail
  go_ret
  exact ⟨rfl, below_step hk.1 hb3⟩

section
variable {w W : World} {m n : S25} {A3 A4 B3 B4 : Option Addr} {c3 c4 b3 b4 : Nat}
theorem t60 {v : Bool} (hv : sameB m n = v) (hc : chkB m = true) (hd : chkB n = true) (h : K2 w W m n (.slice A3 m.f3.length c3) (.slice A4 m.f4.length c4) (.slice B3 n.f3.length b3) (.slice B4 n.f4.length b4)) (ht : tinyP 0 m) (_hu : tinyP 0 n) (hM : MC w m A3 c3 A4 c4) (hN : MC w n B3 b3 B4 b4) :
    Calls Try.prog 60 #[.agg #[.int .i64 m.f0, .string m.f1, .string m.f2, .slice A3 m.f3.length c3, .slice A4 m.f4.length c4], .agg #[.int .i64 n.f0, .string n.f1, .string n.f2, .slice B3 n.f3.length b3, .slice B4 n.f4.length b4]] W fun e W' => e = .returned (.bool v) ∧ K2P w W m n (.slice A3 m.f3.length c3) (.slice A4 m.f4.length c4) (.slice B3 n.f3.length b3) (.slice B4 n.f4.length b4) W' :=
  h.calls (Same60 W m n A3 c3 A4 c4 B3 b3 B4 b4 v hv hc hd (by have := ht.2.2.2; omega) (hM.below h.1) (hN.below h.1))
theorem t60s {v : Bool} {D3 D4 : Option Addr} {d3 d4 : Nat} (hv : sameB m m = v) (hc : chkB m = true) (h : K2 w W m n (.slice A3 m.f3.length c3) (.slice A4 m.f4.length c4) (.slice B3 n.f3.length b3) (.slice B4 n.f4.length b4)) (ht : tinyP 0 m) (hM : MC w m A3 c3 A4 c4) (hN : MC W m D3 d3 D4 d4) :
    Calls Try.prog 60 #[.agg #[.int .i64 m.f0, .string m.f1, .string m.f2, .slice A3 m.f3.length c3, .slice A4 m.f4.length c4], .agg #[.int .i64 m.f0, .string m.f1, .string m.f2, .slice D3 m.f3.length d3, .slice D4 m.f4.length d4]] W fun e W' => e = .returned (.bool v) ∧ K2P w W m n (.slice A3 m.f3.length c3) (.slice A4 m.f4.length c4) (.slice B3 n.f3.length b3) (.slice B4 n.f4.length b4) W' :=
  h.calls (Same60 W m m A3 c3 A4 c4 D3 d3 D4 d4 v hv hc hc (by have := ht.2.2.2; omega) (hM.below h.1) hN)
theorem t61 (hc : chkB m = true) (h : K2 w W m n (.slice A3 m.f3.length c3) (.slice A4 m.f4.length c4) (.slice B3 n.f3.length b3) (.slice B4 n.f4.length b4)) (hM : MC w m A3 c3 A4 c4) :
    Calls Try.prog 61 #[.agg #[.int .i64 m.f0, .string m.f1, .string m.f2, .slice A3 m.f3.length c3, .slice A4 m.f4.length c4]] W fun e W' => e = .returned (.string (tB m)) ∧ K2P w W m n (.slice A3 m.f3.length c3) (.slice A4 m.f4.length c4) (.slice B3 n.f3.length b3) (.slice B4 n.f4.length b4) W' := h.calls (Text61 W m A3 c3 A4 c4 hc (hM.below h.1))
theorem t61' (hc : chkB n = true) (h : K2 w W m n (.slice A3 m.f3.length c3) (.slice A4 m.f4.length c4) (.slice B3 n.f3.length b3) (.slice B4 n.f4.length b4)) (hN : MC w n B3 b3 B4 b4) :
    Calls Try.prog 61 #[.agg #[.int .i64 n.f0, .string n.f1, .string n.f2, .slice B3 n.f3.length b3, .slice B4 n.f4.length b4]] W fun e W' => e = .returned (.string (tB n)) ∧ K2P w W m n (.slice A3 m.f3.length c3) (.slice A4 m.f4.length c4) (.slice B3 n.f3.length b3) (.slice B4 n.f4.length b4) W' := h.calls (Text61 W n B3 b3 B4 b4 hc (hN.below h.1))
end
end Go.Proofs.Yteafilojjdfllaa
