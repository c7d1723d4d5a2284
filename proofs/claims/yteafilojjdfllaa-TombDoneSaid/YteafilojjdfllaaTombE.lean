/- Own text: lists left by calls; Place. -/
import Derived.Test.YteafilojjdfllaaRT
namespace Go.Proofs.Yteafilojjdfllaa
open Go Go.RowKit Go.Proofs.YteafilojjdfllaaW.PrintWords Go.Proofs.YteafilojjdfllaaW.PrintLast Go.Proofs.YteafilojjdfllaaW.PrintMore Go.Proofs.Yteafilojjdfllaa.PAll

theorem okT.tiny {l : List S27} (h : okT l) : ∀ x ∈ l, tinyP 0 x.f1 := fun t ht => (h t ht).1
theorem okT.nodes {l : List S27} (h : okT l) : ∀ x ∈ l, nodesM x.f1 ≤ 1000 := fun t ht => Nat.le_trans (h t ht).1.2.2.2 (by decide)
/-- a list that a call left, further on -/
theorem Made.C {α : Type} {d : Kd α} {xs : List α} {w w' : World} {e : Ending} (h : Made d xs w e w') : ∃ D c, e = .returned (.slice D xs.length c) ∧ xs.length ≤ c ∧ d.C w' D xs.length xs ∧ Below w.heap.size w w' := by
  obtain ⟨⟨D, c, h1, h2, h3⟩, hb⟩ := h
  exact ⟨D, c, h1, h2, h3, hb⟩
set_option maxRecDepth 100000 in
set_option maxHeartbeats 8000000 in
/-- varvelaw00.Place. -/
theorem place46 (w : World) (a n : Int) (h0 : 0 < n) (h1 : n ≤ 4611686018427387904) :
    Calls Try.prog 46 #[.int .i64 a, .int .i64 n] w fun e w' => ∃ i : Nat, e = .returned (.int .i64 (i : Int)) ∧ (i : Int) < n ∧ Below w.heap.size w w' := by
  have c3b0 : (n == 0) = false := beq_eq_false_iff_ne.mpr (by omega)
  have c3b1 : (n != 0) = true := bne_iff_ne.mpr (by omega)
  have hlt := Int.tmod_lt_of_pos a h0
  have hge : -n < Int.tmod a n := by have := Int.lt_tmod_of_pos a h0; omega
  by_cases c4 : (Int.tmod a n) < 0
  · have hx : wrap64 (Int.tmod a n + n) = Int.tmod a n + n := by unfold wrap64; omega
    obtain ⟨i, hi⟩ : ∃ i : Nat, Int.tmod a n + n = (i : Int) := ⟨(Int.tmod a n + n).toNat, by omega⟩
    go_enter Try.func46, Try.ntmps46
    go_wp2
    go_ret
    exact ⟨i, by simp [*], by omega, by repeat (first | exact Below.refl _ _ | apply below_drew)⟩
  · obtain ⟨i, hi⟩ : ∃ i : Nat, Int.tmod a n = (i : Int) := ⟨(Int.tmod a n).toNat, by omega⟩
    go_enter Try.func46, Try.ntmps46
    go_wp2
    go_ret
    exact ⟨i, by simp [*], by omega, by repeat (first | exact Below.refl _ _ | apply below_drew)⟩
end Go.Proofs.Yteafilojjdfllaa
