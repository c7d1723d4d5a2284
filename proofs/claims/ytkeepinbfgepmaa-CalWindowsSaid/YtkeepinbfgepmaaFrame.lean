/- The frame of a law's row: out of a contract that says 'it returns true and nothing that was there has turned', the row; a config as an argument, opened. -/
import Derived.Test.YtkeepinbfgepmaaRows
import Derived.WalkKit
import Derived.ProofKit
import Derived.OpenShut
import Derived.ChangeOld
import Derived.Below
import Derived.Carry
import Derived.SizedLaws
namespace Go.Proofs.Ytkeepinbfgepmaa
open Go.ChangeShapes Go.WideShapes Go.ChangeAt Go.RowKit
theorem own : ownKnob Try.prog.godebug = none := by kernel_rfl
theorem laidOut : laidOutB Try.prog = true := by kernel_rfl

/-- below the heap's old size nothing has turned: so all arguments read as they did -/
theorem trodAll_below {H : Type} {enc : TypeId × Value → H} {W W' : World} (hb : Below W.heap.size W W') : ∀ {ts : List TypeId} {vs : List Value} {ds : List (DataW H)} {ps : List MemPlace},
    (∀ t ∈ ts, Try.prog.readableRec t = true ∧ t < Try.prog.types.size) →
    DataW.TrodAll enc Try.prog W 0 (fun _ => true) true ts vs ds ps → DataW.TrodAll enc Try.prog W' 0 (fun b => decide (b < W.heap.size)) true ts vs ds ps
  | [], vs, ds, ps, _, h => by
    obtain ⟨rfl, rfl, rfl⟩ := trodAll_nil h
    exact trodAll_mk0
  | t :: ts, vs, ds, ps, hr, h => by
    obtain ⟨v0, vs0, d0, ds0, p0, q0, rfl, rfl, rfl, h0, r0⟩ := trodAll_cons h
    have ht := hr t (List.mem_cons_self ..)
    refine trodAll_cons_mk (Below.trod laidOut ht.1 ht.2 h0 hb ?_) (trodAll_below hb (fun u hu => hr u (List.mem_cons_of_mem _ hu)) r0)
    obtain ⟨n, hn⟩ := h0
    exact DataW.trod_lt n t _ _ hn

theorem i64_bounds {n : Int} (h : (Lit.int .i64 n).wf = true) : -9223372036854775808 ≤ n ∧ n ≤ 9223372036854775807 := bounds_i64 h

theorem array5 {α : Type} {cs : Array α} (h : cs.size = 5) : ∃ c0 c1 c2 c3 c4, cs = #[c0, c1, c2, c3, c4] := by
  obtain ⟨l⟩ := cs
  match l, h with
  | [c0, c1, c2, c3, c4], _ => exact ⟨c0, c1, c2, c3, c4, rfl⟩

theorem int_cell {H : Type} {enc : TypeId × Value → H} {w : World} {base : Nat} {sp : Nat → Bool} {held : Bool} {n : Nat} {c : Value} {x : DataW H × List MemPlace} (h : DataW.trod enc Try.prog w base sp held n 3 [c] = some x) : ∃ a : Int, c = .int .i64 a ∧ -9223372036854775808 ≤ a ∧ a ≤ 9223372036854775807 := by
  obtain ⟨a, h1, _, hw⟩ := DataW.trod_int Try.underlying3 h
  simp at h1
  exact ⟨a, h1, bounds_i64 hw⟩

/-- a config: five numbers -/
theorem open_conf {H : Type} {enc : TypeId × Value → H} {W : World} {base : Nat} {v : Value} {d : DataW H} {p : List MemPlace} (hv : Value.okWide Try.prog W .any base 41 v) (h : DataW.Trod enc Try.prog W 0 (fun _ => true) true 41 v d p) :
    ∃ s k0 k1 k2 k3 : Int, v = .agg #[.int .i64 s, .int .i64 k0, .int .i64 k1, .int .i64 k2, .int .i64 k3] := by
  obtain ⟨cs, rfl, hsz⟩ := okWide_struct Try.underlying41 hv
  have hC : Try.prog.cellsOf 41 = 5 := by kernel_rfl
  have hC4 : Try.prog.cellsOf 39 = 4 := by kernel_rfl
  have hC1 : Try.prog.cellsOf 3 = 1 := by kernel_rfl
  obtain ⟨c0, c1, c2, c3, c4, rfl⟩ := array5 (hsz.trans hC)
  obtain ⟨fuel, hf⟩ := h
  obtain ⟨xs, n, _, _, _, hl, hx⟩ := DataW.trod_struct Try.underlying41 hf
  have x0 := hx 0 { name := "Slack", type := 3, offset := 0, embedded := false, tag := "", pkgPath := "", byteOffset := 0 } rfl
  have x1 := hx 1 { name := "Keep", type := 39, offset := 1, embedded := false, tag := "", pkgPath := "", byteOffset := 8 } rfl
  have hxl : xs.length = 2 := by assumption
  obtain ⟨y0, hy0⟩ : ∃ y, xs[0]? = some y := ⟨_, List.getElem?_eq_getElem (by omega)⟩
  obtain ⟨y1, hy1⟩ : ∃ y, xs[1]? = some y := ⟨_, List.getElem?_eq_getElem (by omega)⟩
  rw [hy0] at x0
  rw [hy1] at x1
  dsimp only at x0 x1
  rw [hC1] at x0
  rw [hC4] at x1
  obtain ⟨zs, m, _, _, _, hzl, hz⟩ := DataW.trod_array Try.underlying39 x1
  have zz : ∀ i, i < 4 → ∃ z, zs[i]? = some z := fun i hi => ⟨_, List.getElem?_eq_getElem (by omega)⟩
  simp only [hC1] at hz
  obtain ⟨z0, e0⟩ := zz 0 (by omega)
  obtain ⟨z1, e1⟩ := zz 1 (by omega)
  obtain ⟨z2, e2⟩ := zz 2 (by omega)
  obtain ⟨z3, e3⟩ := zz 3 (by omega)
  have g0 := hz 0 (by omega)
  have g1 := hz 1 (by omega)
  have g2 := hz 2 (by omega)
  have g3 := hz 3 (by omega)
  rw [e0] at g0
  rw [e1] at g1
  rw [e2] at g2
  rw [e3] at g3
  simp [Value.cells] at x0 g0 g1 g2 g3
  obtain ⟨s, rfl, _⟩ := int_cell x0
  obtain ⟨k0, rfl, _⟩ := int_cell g0
  obtain ⟨k1, rfl, _⟩ := int_cell g1
  obtain ⟨k2, rfl, _⟩ := int_cell g2
  obtain ⟨k3, rfl, _⟩ := int_cell g3
  exact ⟨s, k0, k1, k2, k3, rfl⟩
end Go.Proofs.Ytkeepinbfgepmaa
