/- The call that gathers windows; how many the document wants. -/
import Derived.Test.YtkeepinbfgepmaaWinA
namespace Go.Proofs.Ytkeepinbfgepmaa.Win
open Go.RowKit Go.Proofs.Ytkeepinbfgepmaa Go.Proofs.YtkeepinbfgepmaaW.PrintWords

/-- what a gathering call hands back, told from the world wa on -/
def Told (wa : World) (xs : List (Int × Int)) (e : Ending) (w' : World) : Prop :=
  ∃ A c, e = .returned (.slice A xs.length c) ∧ xs.length ≤ c ∧ ReadsRow Two 2 w' A xs.length xs ∧ Below wa.heap.size wa w'

theorem gather_any (w wa : World) (m s t n : Int) (e : Nat) (xs : List (Int × Int)) (hm : 1 ≤ m) (hs : -9223372036854775808 ≤ s ∧ s ≤ 9223372036854775807) (hb : Below wa.heap.size wa w)
    (hx : (Good s t n ∧ xs = wins s t (min m n).toNat) ∨ (¬ Good s t n ∧ xs = []))
    (c0 : wa.cell? ⟨e, 0, none⟩ = some (.int .i64 s)) (c1 : wa.cell? ⟨e + 1, 0, none⟩ = some (.int .i64 t)) (c2 : wa.cell? ⟨e + 2, 0, none⟩ = some (.int .i64 n)) :
    Calls Try.prog 40 #[.func (.func 46) #[] #[.pointer (some ⟨e + 1, 0, none⟩), .pointer (some ⟨e + 2, 0, none⟩), .pointer (some ⟨e, 0, none⟩)], .int .i64 m] w (Told wa xs) := by
  have hc0 : Col w ((w.alloc (.cells #[.int .i64 m] 3)).alloc (.cells #[.slice none 0 0] 55)) [] m := by
    refine ⟨((Below.refl _ _).alloc (Nat.le_refl _) _).alloc (by simp) _, blk_alloc (blk_new _ _) _, .slice none 0 0, ?_, OwnRow.none_ _ _ _ _ _⟩
    have := blk_new (w.alloc (.cells #[.int .i64 m] 3)) (.cells #[.slice none 0 0] 55)
    simpa using this
  have d0 := pw_cell_below hb c0
  have d1 := pw_cell_below hb c1
  have d2 := pw_cell_below hb c2
  have hcall : Calls Try.prog 46 #[.func (.func 47) #[] #[.pointer (some ⟨w.heap.size + 1, 0, none⟩), .pointer (some ⟨w.heap.size, 0, none⟩)], .pointer (some ⟨e + 1, 0, none⟩), .pointer (some ⟨e + 2, 0, none⟩), .pointer (some ⟨e, 0, none⟩)] ((w.alloc (.cells #[.int .i64 m] 3)).alloc (.cells #[.slice none 0 0] 55)) (ColPost w xs m (.returned (.tuple #[]))) := by
    rcases hx with ⟨hg, rfl⟩ | ⟨hg, rfl⟩
    · exact iter_good w _ m s t n e hc0 hm hg d0 d1 d2
    · exact iter_bad w _ m s t n e hc0 hg hs d0 d1 d2
  have Hc := Lib.hid hcall
  have hnf : ∀ w : World, (binOp .eql 53 (.func (.func 46) #[] #[.pointer (some ⟨e + 1, 0, none⟩), .pointer (some ⟨e + 2, 0, none⟩), .pointer (some ⟨e, 0, none⟩)]) .nilFunc).run Try.prog w = .ok (.bool false) w := fun _ => by kernel_rfl
  clear hcall hc0 d0 d1 d2 c0 c1 c2 hx
  go_enter Try.func40, Try.ntmps40
  go_wp2_with fail
  refine Hc.out.mono ?_
  rintro e1 w1 ⟨rfl, hb1, hm1, v, hv, hown⟩
  have k1 := blk_cell hv 0
  simp only [List.getElem?_toArray, List.getElem?_cons_zero] at k1
  obtain ⟨A1, cp, rfl, hcp, hrd⟩ := hown.reads
  have Hrd := Lib.hid hrd
  clear hown hrd hm1 hv Hc hnf
  go_wp2
  go_ret
  exact ⟨A1, cp, rfl, hcp, Hrd.out, hb.trans (hb1.mono hb.size)⟩

theorem ref_good (s t n : Int) (w : World) (hg : Good s t n) : Calls Try.prog 38 #[.int .i64 s, .int .i64 t, .int .i64 n] w fun e w' => e = .returned (.int .i64 n) ∧ w = w' := by
  obtain ⟨g1, g2, g3, g4, g5⟩ := hg
  have hn40 : n ≤ 1099511627776 := by have h := Int.ediv_le_self (b := t) (show 0 ≤ 1099511627776 - s by omega); omega
  have ht40 : t ≤ 1099511627776 := by
    rcases Int.lt_or_le 1099511627776 t with h | h
    · have : (1099511627776 - s) / t = 0 := Int.ediv_eq_zero_of_lt (by omega) (by omega)
      omega
    · exact h
  go_enter Try.func38, Try.ntmps38
  go_wp2
  go_ret
  exact ⟨rfl, rfl⟩

theorem ref_bad (s t n : Int) (w : World) (hg : ¬ Good s t n) : Calls Try.prog 38 #[.int .i64 s, .int .i64 t, .int .i64 n] w fun e w' => e = .returned (.int .i64 0) ∧ w = w' := by
  go_enter Try.func38, Try.ntmps38
  go_wp2
  all_goals first | (go_ret; exact ⟨rfl, rfl⟩) | (exfalso; refine hg ⟨by omega, by omega, by omega, by omega, ?_⟩; assumption)
end Go.Proofs.Ytkeepinbfgepmaa.Win
