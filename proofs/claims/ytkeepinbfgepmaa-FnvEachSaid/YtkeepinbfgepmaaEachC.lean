/- The call that makes the iterator; the call that gathers what it tells. -/
import Derived.Test.YtkeepinbfgepmaaEachB
namespace Go.Proofs.Ytkeepinbfgepmaa.Each
open Go.RowKit Go.Proofs.Ytkeepinbfgepmaa Go.Proofs.Ytkeepinbfgepmaa.PFnvEach Go.Proofs.YtkeepinbfgepmaaW.PrintWords Go.Proofs.YtkeepinbfgepmaaW.PrintLast

theorem each_any (A : Option Addr) (n c : Nat) (w : World) :
    Calls Try.prog 22 #[.slice A n c] w fun e w' => e = .returned (.func (.func 41) #[] #[.pointer (some ⟨w.heap.size, 0, none⟩)]) ∧ w.alloc (.cells #[.slice A n c] 31) = w' := by
  go_enter Try.func22, Try.ntmps22
  go_wp2
  go_ret
  exact ⟨rfl, rfl⟩

/-- what a gathering call hands back: a slice of its own, and below w all is as it was -/
def Gathers (w : World) (xs : List Int) (e : Ending) (w' : World) : Prop :=
  ∃ A c, e = .returned (.slice A xs.length c) ∧ xs.length ≤ c ∧ w'.ownsRow (w.heap.size + 2) 22 1 (.slice A xs.length c) xs.length (nums .u64 xs) ∧ Below w.heap.size w w'

theorem hashes_any (w : World) (m : Int) (A : Option Addr) (n c e : Nat) (ss : List ByteArray) (hm : 1 ≤ m) (hcell : w.cell? ⟨e, 0, none⟩ = some (.slice A n c)) (hr : Texts w A n ss)
    (hn : n * 16 ≤ 140737488351232) (hsz : ∀ i, i < n → (ss.getD i ByteArray.empty).size ≤ 140737488351232) :
    Calls Try.prog 24 #[.func (.func 41) #[] #[.pointer (some ⟨e, 0, none⟩)], .int .i64 m] w (Gathers w ((ss.map hashOf).take m.toNat)) := by
  have hc0 : Col w ((w.alloc (.cells #[.int .i64 m] 3)).alloc (.cells #[.slice none 0 0] 32)) [] m := by
    refine ⟨((Below.refl _ _).alloc (Nat.le_refl _) _).alloc (by simp) _, blk_alloc (blk_new _ _) _, .slice none 0 0, ?_, own_nil _ _ _ _⟩
    have := blk_new (w.alloc (.cells #[.int .i64 m] 3)) (.cells #[.slice none 0 0] 32)
    simpa using this
  have Hc := Lib.hid (each1_any w _ m A n c e ss hc0 hm hcell hr hn hsz)
  clear hr hsz hcell hc0
  obtain ⟨xs, ex⟩ : ∃ xs, (ss.map hashOf).take m.toNat = xs := ⟨_, rfl⟩
  rw [ex] at Hc ⊢
  clear ex
  have hnf : ∀ w : World, (binOp .eql 34 (.func (.func 41) #[] #[.pointer (some ⟨e, 0, none⟩)]) .nilFunc).run Try.prog w = .ok (.bool false) w := fun _ => by kernel_rfl
  go_enter Try.func24, Try.ntmps24
  go_wp2_with fail
  refine Hc.out.mono ?_
  rintro e1 w1 ⟨rfl, hb, hm1, v, hv, hown⟩
  have c1 := blk_cell hv 0
  simp only [List.getElem?_toArray, List.getElem?_cons_zero] at c1
  obtain ⟨A1, cp, rfl, hcp, hrd⟩ := own_reads_of_le (enc := .int .u64) (d := 0) hown
  have Hown := Lib.hid hown
  clear hown hrd hm1 hv Hc
  go_wp2
  go_ret
  exact ⟨A1, cp, rfl, hcp, Hown.out, hb⟩
end Go.Proofs.Ytkeepinbfgepmaa.Each
