/- The frame of a law's row: out of a contract that says 'it returns true and nothing that was there has turned', the row; a list, a list of lists as an argument, opened. -/
import Derived.Test.YtdjiaooieiboaaaRows
import Derived.Test.YtdjiaooieiboaaaIterI
import Derived.WalkKit
import Derived.ProofKit
import Derived.OpenShut
import Derived.ChangeOld
import Derived.Below
import Derived.Carry
import Derived.SizedLaws
import Derived.Deep.Matrix
namespace Go.Proofs.Ytdjiaooieiboaaa
open Go.ChangeShapes Go.WideShapes Go.ChangeAt Go.RowKit Go.Proofs.YtdjiaooieiboaaaW.PrintWords
theorem own : ownKnob Try.prog.godebug = none := by kernel_rfl
theorem laidOut : laidOutB Try.prog = true := by kernel_rfl

/-- below the heap's old size nothing has turned: so all arguments read as they did -/
theorem trodAll_below {H : Type} {enc : TypeId × Value → H} {W W' : World} (hb : Below W.heap.size W W') : ∀ {ts : List TypeId} {vs : List Value} {ds : List (DataW H)} {ps : List MemPlace},
    (∀ t ∈ ts, Try.prog.readableRec t = true ∧ t < Try.prog.types.size) →
    DataW.TrodAll enc Try.prog W 0 (fun _ => true) true ts vs ds ps → DataW.TrodAll enc Try.prog W' 0 (fun b => decide (b < W.heap.size)) true ts vs ds ps
  | [], vs, ds, ps, _, h => by
    obtain ⟨rfl, rfl, rfl⟩ := trodAll_nil h
    exact trodAll_mk0
  | t :: ts, vs, ds, ps, hr, h => by
    obtain ⟨v0, vs0, d0, ds0, p0, q0, rfl, rfl, rfl, h0, r0⟩ := trodAll_cons h
    have ht := hr t (List.mem_cons_self ..)
    refine trodAll_cons_mk (Below.trod laidOut ht.1 ht.2 h0 hb ?_) (trodAll_below hb (fun u hu => hr u (List.mem_cons_of_mem _ hu)) r0)
    obtain ⟨n, hn⟩ := h0
    exact DataW.trod_lt n t _ _ hn

theorem maxLen_eq : maxLen = 9223372036854775807 := by decide

/-- a list of whole numbers -/
theorem open_list {H : Type} {enc : TypeId × Value → H} {W : World} {base : Nat} {v : Value} {d : DataW H} {p : List MemPlace} (hv : Value.okWide Try.prog W .any base 22 v) (h : DataW.Trod enc Try.prog W 0 (fun _ => true) true 22 v d p) :
    ∃ (A : Option Addr) (c : Nat) (l : List Int), v = .slice A l.length c ∧ SL W A c l ∧ l.length ≤ 9223372036854775807 := by
  obtain ⟨a, len, cap, rfl⟩ := okWide_slice Try.underlying22 hv
  obtain ⟨fuel, hf⟩ := h
  rcases open_ints Try.underlying22 Try.underlying3 (by kernel_rfl) hf with ⟨hcs, _⟩ | ⟨x, l, c, zs, hcs, _, hl, hm, hz, _, hcell, _⟩
  · simp [Value.cells] at hcs
    obtain ⟨rfl, rfl, rfl⟩ := hcs
    exact ⟨none, 0, [], rfl, SL.nil _ _ _, by simp⟩
  · simp [Value.cells] at hcs
    obtain ⟨rfl, rfl, rfl⟩ := hcs
    have hz' : zs.length = cap := by simpa using hz
    have hlen : (zs.take len).length = len := by rw [List.length_take]; omega
    have hmx := maxLen_eq
    refine ⟨some x, cap, zs.take len, by rw [hlen], ⟨by omega, rfl, by omega, fun hp => ⟨x, rfl, fun j hj => ?_⟩⟩, by omega⟩
    have hj' : j < len := by omega
    rw [hcell j (by omega)]
    simp [List.getD_eq_getElem?_getD, hj']

/-- a list of lists of whole numbers -/
theorem open_lists {H : Type} {enc : TypeId × Value → H} {W : World} {base : Nat} {v : Value} {d : DataW H} {p : List MemPlace} (hv : Value.okWide Try.prog W .any base 32 v) (h : DataW.Trod enc Try.prog W 0 (fun _ => true) true 32 v d p) :
    ∃ (A : Option Addr) (c : Nat) (ls : List (List Int)), v = .slice A ls.length c ∧ RL W (.slice A ls.length c) ls ∧ ls.length ≤ 9223372036854775807 ∧ ∀ l ∈ ls, l.length ≤ 9223372036854775807 := by
  obtain ⟨a, len, cap, rfl⟩ := okWide_slice Try.underlying32 hv
  obtain ⟨fuel, hf⟩ := h
  have hmx := maxLen_eq
  rcases Go.Deep.open_int_rows Try.underlying32 Try.underlying22 Try.underlying3 (by kernel_rfl) (by kernel_rfl) hf with ⟨hcs, _⟩ | ⟨x, l, c, A, L, C, Z, hcs, _, hl, hm, _, hrow⟩
  · simp [Value.cells] at hcs
    obtain ⟨rfl, rfl, rfl⟩ := hcs
    exact ⟨none, 0, [], rfl, ⟨none, 0, rfl, Nat.le_refl _, fun i hi => by simp at hi⟩, by simp, by simp⟩
  · simp [Value.cells] at hcs
    obtain ⟨rfl, rfl, rfl⟩ := hcs
    have hls : ((List.range len).map fun r => (Z r).take (L r)).length = len := by simp
    have hget : ∀ i, i < len → ((List.range len).map fun r => (Z r).take (L r)).getD i [] = (Z i).take (L i) := by
      intro i hi
      simp [List.getD_eq_getElem?_getD, hi]
    have hL : ∀ i, i < len → ((Z i).take (L i)).length = L i := by
      intro i hi
      obtain ⟨_, h1, h2, h3, _⟩ := hrow i (by omega)
      rw [List.length_take]; omega
    refine ⟨some x, cap, (List.range len).map fun r => (Z r).take (L r), by rw [hls], ⟨some x, cap, by rw [hls], by omega, fun i hi => ?_⟩, by omega, ?_⟩
    · rw [hls] at hi
      obtain ⟨hcell, h1, h2, h3, _, h5, h6⟩ := hrow i (by omega)
      refine ⟨x, _, rfl, hcell, A i, C i, ?_, ?_, ?_⟩
      · rw [hget i hi, hL i hi]
      · rw [hget i hi, hL i hi]; exact h1
      · rw [hget i hi]
        refine ⟨rfl, by rw [hL i hi]; omega, fun hp => ?_⟩
        rw [hL i hi] at hp ⊢
        cases hA : A i with
        | none => have := h5 hA; omega
        | some a' =>
          refine ⟨a', rfl, fun j hj => ?_⟩
          obtain ⟨_, h7⟩ := h6 a' hA
          rw [h7 j (by omega)]
          simp [List.getD_eq_getElem?_getD, hj]
    · intro l hl'
      obtain ⟨r, hr, rfl⟩ := List.mem_map.1 hl'
      rw [hL r (by simpa using hr)]
      obtain ⟨_, h1, h2, _⟩ := hrow r (by have := List.mem_range.1 hr; omega)
      omega
end Go.Proofs.Ytdjiaooieiboaaa
