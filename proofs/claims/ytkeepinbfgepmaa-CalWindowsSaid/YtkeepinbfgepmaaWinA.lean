/- Contracts round the iterator over windows: the collector that is handed to it, the iterator, the collecting call. -/
import Derived.Test.YtkeepinbfgepmaaCalF
import Derived.Test.YtkeepinbfgepmaaWWords
import Derived.Handy
import Derived.Deep.QuietTactic
import Derived.BigQuiet
namespace Go.Proofs.Ytkeepinbfgepmaa.Win
open Go.RowKit Go.Proofs.Ytkeepinbfgepmaa Go.Proofs.YtkeepinbfgepmaaW.PrintWords

/-- a window's two cells -/
def Two (p : Int × Int) (cs : List Value) : Prop := cs = [.int .i64 p.1, .int .i64 p.2]
/-- the collector's state: below w0 all is as it was; the bound m in the first new block, what has been gathered in the second -/
def Col (w0 w : World) (xs : List (Int × Int)) (m : Int) : Prop :=
  Below w0.heap.size w0 w ∧ w.heap[w0.heap.size]? = some (.cells #[.int .i64 m] 3 (0, 0)) ∧ ∃ v, w.heap[w0.heap.size + 1]? = some (.cells #[v] 55 (0, 0)) ∧ OwnRow Two 57 2 w (w0.heap.size + 2) v xs
def ColPost (w0 : World) (xs : List (Int × Int)) (m : Int) (e0 : Ending) (e : Ending) (w' : World) : Prop := e = e0 ∧ Col w0 w' xs m
theorem info57 : (Try.prog.info? 57).map (fun i => (i.zero, i.size, i.bytes)) = some (some (.agg #[.int .i64 0, .int .i64 0]), 2, 16) := by kernel_rfl

theorem yield_any (w0 w : World) (xs : List (Int × Int)) (m x y : Int) (b : Bool) (hc : Col w0 w xs m) (hl : (xs.length + 1) * 16 ≤ 140737488355328) (hb : decide ((xs.length : Int) + 1 < m) = b) :
    Calls Try.prog 47 #[.int .i64 x, .int .i64 y, .pointer (some ⟨w0.heap.size + 1, 0, none⟩), .pointer (some ⟨w0.heap.size, 0, none⟩)] w (ColPost w0 (xs ++ [(x, y)]) m (.returned (.bool b))) := by
  obtain ⟨hbel, hm, v, hv, hown⟩ := hc
  have hs := hbel.size
  have c1 := blk_cell hv 0
  have c2 := blk_cell hm 0
  have f1 := blk_frozen hv 0
  simp only [List.getElem?_toArray, List.getElem?_cons_zero] at c1 c2
  have Hb := Lib.hid hb
  clear hb
  have hlt := blk_lt hv
  have hne := hown.ne_block hv (by decide)
  have hne2 := hown.ne_block hm (by decide)
  go_enter Try.func47, Try.ntmps47
  go_wp2_with (at_builtin; refine OwnRow.append (R := Two) (w0 := w) (W := w) (w0.heap.size + 2) rfl (.tmp 7) (.tmp 11) 55 57 (.agg #[.int .i64 0, .int .i64 0]) 2 16 rfl Try.underlying55 info57 rfl (by decide) (by decide) v xs (x, y) [.int .i64 x, .int .i64 y] rfl rfl rfl rfl (by simp [Value.oneCell']) hown ?_ ?_ hl ?_)
  · exact Below.refl _ _
  · omega
  intro v1 w1 hown1 hB hg hat
  obtain ⟨A, c, hv1, hc1⟩ := hown1.slice_
  subst hv1
  have hvb := blk_grown hv hg hne
  have hmb := blk_grown hm hg hne2
  have c3 := blk_cell hmb 0
  have c4 := blk_cell hvb 0
  have f2 := blk_frozen hvb 0
  simp only [List.getElem?_toArray, List.getElem?_cons_zero] at c3 c4
  have c5 : (w1.setCell ⟨w0.heap.size + 1, 0, none⟩ (.slice A (xs ++ [(x, y)]).length c)).cell? ⟨w0.heap.size, 0, none⟩ = some (.int .i64 m) := by
    have := blk_cell (blk_far hmb (p := ⟨w0.heap.size + 1, 0, none⟩) (by simp) (.slice A (xs ++ [(x, y)]).length c)) 0
    simpa using this
  clear hat
  have Hown := Lib.hid hown
  have Hown1 := Lib.hid hown1
  clear hown hown1
  go_wp2
  go_ret
  refine ⟨ret_b Hb.out, (hbel.trans (hB.mono (by omega))).setCell (by simp) _, blk_far hmb (by simp) _, _, by simpa using blk_set hvb 0 _, ?_⟩
  have h := Hown1.out.set_ hvb (by decide) 0 (.slice A (xs ++ [(x, y)]).length c)
  simpa using h

theorem windows_any (s t n : Int) (w : World) :
    Calls Try.prog 39 #[.int .i64 s, .int .i64 t, .int .i64 n] w fun e w' => e = .returned (.func (.func 46) #[] #[.pointer (some ⟨w.heap.size + 1, 0, none⟩), .pointer (some ⟨w.heap.size + 2, 0, none⟩), .pointer (some ⟨w.heap.size, 0, none⟩)]) ∧ ((w.alloc (.cells #[.int .i64 s] 3)).alloc (.cells #[.int .i64 t] 3)).alloc (.cells #[.int .i64 n] 3) = w' := by
  go_enter Try.func39, Try.ntmps39
  go_wp2
  go_ret
  exact ⟨rfl, rfl⟩

/-- the first N windows -/
def wins (s t : Int) : Nat → List (Int × Int)
  | 0 => []
  | k + 1 => wins s t k ++ [(s + k * t, s + k * t + t)]
theorem wins_len (s t : Int) : ∀ k, (wins s t k).length = k
  | 0 => rfl
  | k + 1 => by simp [wins, wins_len s t k]
/-- may there be such windows? -/
def Good (s t n : Int) : Prop := 1 ≤ t ∧ 1 ≤ n ∧ 0 ≤ s ∧ s ≤ 1099511627776 ∧ n ≤ (1099511627776 - s) / t
theorem good_bound {s t n : Int} (h : Good s t n) (k : Nat) (hk : (k : Int) ≤ n) : 0 ≤ (k : Int) * t ∧ (k : Int) * t ≤ 1099511627776 - s := by
  obtain ⟨h1, h2, h3, h4, h5⟩ := h
  refine ⟨Int.mul_nonneg (by omega) (by omega), ?_⟩
  have a := Int.mul_le_mul_of_nonneg_right (Int.le_trans hk h5) (show 0 ≤ t by omega)
  have b := Int.ediv_mul_le (1099511627776 - s) (show t ≠ 0 by omega)
  omega

theorem Col.drewN {w0 w : World} {xs : List (Int × Int)} {m : Int} (h : Col w0 w xs m) (n : Nat) : Col w0 (w.drewN n) xs m := by
  obtain ⟨h1, h2, v, h3, h4⟩ := h
  exact ⟨below_drewN h1 n, h2, v, h3, h4.below (below_drewN (Below.refl _ _) n)⟩

set_option maxHeartbeats 1000000 in
theorem iter_good (w0 w : World) (m s t n : Int) (e : Nat) (hc : Col w0 w [] m) (hm : 1 ≤ m) (hg : Good s t n)
    (c0 : w0.cell? ⟨e, 0, none⟩ = some (.int .i64 s)) (c1 : w0.cell? ⟨e + 1, 0, none⟩ = some (.int .i64 t)) (c2 : w0.cell? ⟨e + 2, 0, none⟩ = some (.int .i64 n)) :
    Calls Try.prog 46 #[.func (.func 47) #[] #[.pointer (some ⟨w0.heap.size + 1, 0, none⟩), .pointer (some ⟨w0.heap.size, 0, none⟩)], .pointer (some ⟨e + 1, 0, none⟩), .pointer (some ⟨e + 2, 0, none⟩), .pointer (some ⟨e, 0, none⟩)] w (ColPost w0 (wins s t (min m n).toNat) m (.returned (.tuple #[]))) := by
  have d0 := pw_cell_below hc.1 c0
  have d1 := pw_cell_below hc.1 c1
  have d2 := pw_cell_below hc.1 c2
  obtain ⟨g1, g2, g3, g4, g5⟩ := hg
  have q1 : decide (t < 1) = false := by simp; omega
  have q2 : decide (n < 1) = false := by simp; omega
  have q3 : decide (s < 0) = false := by simp; omega
  have q4 : decide (1099511627776 < s) = false := by simp; omega
  have hn40 : n ≤ 1099511627776 := by have h := Int.ediv_le_self (b := t) (show 0 ≤ 1099511627776 - s by omega); omega
  go_enter Try.func46, Try.ntmps46
  go_wp2
  go_quiet (fail)
  go_wp2
  have hcn := hc.drewN nq
  have hgood := Lib.hid (show Good s t n from ⟨g1, g2, g3, g4, g5⟩)
  clear hc d0 d1 d2 q1 q2 q3 q4
  go_loopw [30] (fun i wr => ∃ k : Nat, (k : Int) ≤ n ∧ i = .int .i64 k ∧ (k : Int) < m ∧ Col w0 wr (wins s t k) m) (fun i _ => n.toNat - (intOf i).toNat)
  case atStart => exact ⟨0, by omega, rfl, by omega, hcn⟩
  case round =>
    obtain ⟨k, hk, rfl, hkm, hcol⟩ := hrel
    have e0 := pw_cell_below hcol.1 c0
    have e1 := pw_cell_below hcol.1 c1
    have e2 := pw_cell_below hcol.1 c2
    by_cases hlt : (k : Int) < n
    · obtain ⟨b1, b2⟩ := good_bound hgood.out k hk
      have b3 := good_bound hgood.out (k + 1) (by omega)
      have b4 : ((k + 1 : Nat) : Int) * t = (k : Int) * t + t := by
        rw [Int.natCast_add, Int.add_mul]; simp
      have b5 : (k : Int) * t + t ≤ 1099511627776 - s := by omega
      have hl := wins_len s t k
      obtain ⟨xs, exs⟩ : ∃ xs, wins s t k = xs := ⟨_, rfl⟩
      have hw : wins s t (k + 1) = xs ++ [(s + k * t, s + k * t + t)] := by rw [← exs]; rfl
      rw [exs] at hl hcol
      have Hl := Lib.hid hl
      have Hw := Lib.hid hw
      clear hl hw exs b3 b4 hcn c0 c1 c2
      by_cases hb : (k : Int) + 1 < m
      · go_wp2_with (go_at_call 47; (with_reducible refine (yield_any w0 _ xs m (s + ↑k * t) (s + ↑k * t + t) true (by assumption) (by rw [Hl.out]; omega) (by rw [Hl.out]; simpa using hb)).mono ?_); rintro e w2 ⟨rfl, hc2⟩)
        go_roundw
        case rel => exact ⟨k + 1, by omega, by go_num, by omega, by rw [Hw.out]; assumption⟩
        case measure => simp [intOf]; omega
      · have em : (min m n).toNat = k + 1 := by omega
        have Hem := Lib.hid em
        clear em
        go_wp2_with (go_at_call 47; (with_reducible refine (yield_any w0 _ xs m (s + ↑k * t) (s + ↑k * t + t) false (by assumption) (by rw [Hl.out]; omega) (by rw [Hl.out]; simpa using hb)).mono ?_); rintro e w2 ⟨rfl, hc2⟩)
        go_end0
        exact ⟨rfl, by rw [Hem.out, Hw.out]; assumption⟩
    · have ek : (min m n).toNat = k := by omega
      have Hek := Lib.hid ek
      clear ek
      go_wp2
      go_end0
      exact ⟨rfl, by rw [Hek.out]; exact hcol⟩

theorem iter_bad (w0 w : World) (m s t n : Int) (e : Nat) (hc : Col w0 w [] m) (hg : ¬ Good s t n) (hs : -9223372036854775808 ≤ s ∧ s ≤ 9223372036854775807)
    (c0 : w0.cell? ⟨e, 0, none⟩ = some (.int .i64 s)) (c1 : w0.cell? ⟨e + 1, 0, none⟩ = some (.int .i64 t)) (c2 : w0.cell? ⟨e + 2, 0, none⟩ = some (.int .i64 n)) :
    Calls Try.prog 46 #[.func (.func 47) #[] #[.pointer (some ⟨w0.heap.size + 1, 0, none⟩), .pointer (some ⟨w0.heap.size, 0, none⟩)], .pointer (some ⟨e + 1, 0, none⟩), .pointer (some ⟨e + 2, 0, none⟩), .pointer (some ⟨e, 0, none⟩)] w (ColPost w0 [] m (.returned (.tuple #[]))) := by
  have d0 := pw_cell_below hc.1 c0
  have d1 := pw_cell_below hc.1 c1
  have d2 := pw_cell_below hc.1 c2
  by_cases g1 : t < 1
  · have q1 : decide (t < 1) = true := by simp; omega
    go_enter Try.func46, Try.ntmps46
    go_wp2
    go_quiet (fail)
    go_wp2
    go_end0
    exact ⟨rfl, hc.drewN _⟩
  have q1 : decide (t < 1) = false := by simp; omega
  by_cases g2 : n < 1
  · have q2 : decide (n < 1) = true := by simp; omega
    go_enter Try.func46, Try.ntmps46
    go_wp2
    go_quiet (fail)
    go_wp2
    go_end0
    exact ⟨rfl, hc.drewN _⟩
  have q2 : decide (n < 1) = false := by simp; omega
  by_cases g3 : s < 0
  · have q3 : decide (s < 0) = true := by simp; omega
    go_enter Try.func46, Try.ntmps46
    go_wp2
    go_quiet (fail)
    go_wp2
    go_end0
    exact ⟨rfl, hc.drewN _⟩
  have q3 : decide (s < 0) = false := by simp; omega
  by_cases g4 : 1099511627776 < s
  · have q4 : decide (1099511627776 < s) = true := by simp; omega
    go_enter Try.func46, Try.ntmps46
    go_wp2
    go_quiet (fail)
    go_wp2
    go_end0
    exact ⟨rfl, hc.drewN _⟩
  have q4 : decide (1099511627776 < s) = false := by simp; omega
  have q5 : (1099511627776 - s) / t < n := by
    rcases Int.lt_or_le ((1099511627776 - s) / t) n with h | h
    · exact h
    · exact absurd ⟨by omega, by omega, by omega, by omega, h⟩ hg
  have hgs : 1 ≤ t := by omega
  have hgn : 0 ≤ s := by omega
  have hgm : s ≤ 1099511627776 := by omega
  go_enter Try.func46, Try.ntmps46
  go_wp2
  go_quiet (fail)
  go_wp2
  go_end0
  exact ⟨rfl, hc.drewN _⟩
end Go.Proofs.Ytkeepinbfgepmaa.Win
