/- Contracts round an iterator over hashes: the collector that is handed to it, the iterator's loop, the collecting call. -/
import Derived.Test.YtkeepinbfgepmaaPFnvEachx1
import Derived.Test.YtkeepinbfgepmaaFnvPlain
import Derived.Test.YtkeepinbfgepmaaCalF
namespace Go.Proofs.Ytkeepinbfgepmaa.Each
open Go.RowKit Go.Proofs.Ytkeepinbfgepmaa Go.Proofs.Ytkeepinbfgepmaa.PFnvEach Go.Proofs.YtkeepinbfgepmaaW.PrintWords Go.Proofs.YtkeepinbfgepmaaW.PrintLast

/-- the collector's state: below w0 all is as it was; the bound m in the first new block, what has been gathered in the second -/
def Col (w0 w : World) (xs : List Int) (m : Int) : Prop :=
  Below w0.heap.size w0 w ∧ w.heap[w0.heap.size]? = some (.cells #[.int .i64 m] 3 (0, 0)) ∧ ∃ v, w.heap[w0.heap.size + 1]? = some (.cells #[v] 32 (0, 0)) ∧ w.ownsRow (w0.heap.size + 2) 22 1 v xs.length (nums .u64 xs)
def ColPost (w0 : World) (xs : List Int) (m : Int) (e0 : Ending) (e : Ending) (w' : World) : Prop := e = e0 ∧ Col w0 w' xs m

theorem info22 : (Try.prog.info? 22).map (fun i => (i.zero, i.size, i.bytes)) = some (some (.int .u64 0), 1, 8) := by kernel_rfl

theorem yield_any (w0 w : World) (xs : List Int) (m x : Int) (b : Bool) (hc : Col w0 w xs m) (hl : (xs.length + 1) * 8 ≤ 140737488355328) (hb : decide ((xs.length : Int) + 1 < m) = b) :
    Calls Try.prog 42 #[.int .u64 x, .pointer (some ⟨w0.heap.size + 1, 0, none⟩), .pointer (some ⟨w0.heap.size, 0, none⟩)] w (ColPost w0 (xs ++ [x]) m (.returned (.bool b))) := by
  obtain ⟨hbel, hm, v, hv, hown⟩ := hc
  have hs := hbel.size
  have c1 := blk_cell hv 0
  have c2 := blk_cell hm 0
  have f1 := blk_frozen hv 0
  simp only [List.getElem?_toArray, List.getElem?_cons_zero] at c1 c2
  have Hb := Lib.hid hb
  clear hb
  go_enter Try.func42, Try.ntmps42
  have hlt := blk_lt hv
  have hne := own_ne hown hv (by decide)
  have hne2 := own_ne hown hm (by decide)
  go_wp2_with (at_builtin; refine print_append_of (w0 := w) (W := w) (.int .u64) (w0.heap.size + 2) rfl (.tmp 5) (.tmp 7) 32 22 (.int .u64 0) 8 rfl Try.underlying32 info22 rfl (by decide) v xs x rfl rfl rfl hown ?_ ?_ hl ?_)
  · exact Below.refl _ _
  · omega
  intro v1 w1 hown1 hB hg hat
  obtain ⟨A, c, hv1, hc1, hr1⟩ := own_reads_of_le (enc := .int .u64) (d := 0) hown1
  subst hv1
  have hvb := blk_grown hv hg hne
  have hmb := blk_grown hm hg hne2
  have c3 := blk_cell hmb 0
  have c4 := blk_cell hvb 0
  have f2 := blk_frozen hvb 0
  simp only [List.getElem?_toArray, List.getElem?_cons_zero] at c3 c4
  have c5 : (w1.setCell ⟨w0.heap.size + 1, 0, none⟩ (.slice A (xs ++ [x]).length c)).cell? ⟨w0.heap.size, 0, none⟩ = some (.int .i64 m) := by
    have := blk_cell (blk_far hmb (p := ⟨w0.heap.size + 1, 0, none⟩) (by simp) (.slice A (xs ++ [x]).length c)) 0
    simpa using this
  clear hat hr1
  have Hown := Lib.hid hown
  have Hown1 := Lib.hid hown1
  clear hown hown1
  go_wp2
  go_ret
  have hown1 := Hown1.out
  have hne3 := own_ne hown1 hvb (by decide)
  refine ⟨ret_b Hb.out, (hbel.trans (hB.mono (by omega))).setCell (by simp) _, blk_far hmb (by simp) _, _, by simpa using blk_set hvb 0 _, ?_⟩
  simpa [encs, nums] using own_setCell hown1 (p := ⟨w0.heap.size + 1, 0, none⟩) hne3 _

/-- what the collector has when n of the numbers have come -/
theorem col_stop (m : Int) (k : Nat) (b : Bool) (hb : decide ((k : Int) + 1 < m) = b) : (b = true → (k : Int) + 1 < m) ∧ (b = false → m ≤ (k : Int) + 1) := by
  cases b <;> simp at hb ⊢ <;> omega

/-- a text's hash -/
def hashOf (s : ByteArray) : Int := FnvPlain.go s.size 14695981039346656037 s 0

theorem more_l0 (s : ByteArray) (hs : s.size ≤ 140737488351233) : ∀ (d k : Nat) (h i : Int), 0 ≤ i → i + d = s.size → d < k → fnv_More.l0 k h s (s.size : Int) i = some (FnvPlain.go d h s i)
  | 0, k, h, i, h0, hd, hk => by
    obtain ⟨k, rfl⟩ : ∃ m, k = m + 1 := ⟨k - 1, by omega⟩
    simp only [fnv_More.l0, FnvPlain.go]
    rw [if_neg (by omega)]
  | d + 1, k, h, i, h0, hd, hk => by
    obtain ⟨k, rfl⟩ : ∃ m, k = m + 1 := ⟨k - 1, by omega⟩
    simp only [fnv_More.l0, FnvPlain.go]
    rw [if_pos (by omega), if_pos h0, if_pos (by omega)]
    rw [show wrap64 (i + 1) = i + 1 from by unfold wrap64; omega]
    exact more_l0 s hs d k _ _ (by omega) (by omega) (by omega)
theorem ref_l0 (s : ByteArray) (hs : s.size ≤ 140737488351232) : ∀ (d k : Nat) (h i : Int), 0 ≤ i → i + d = s.size → d < k → varveref06_More.l0 k h s i = some (FnvPlain.go d h s i)
  | 0, k, h, i, h0, hd, hk => by
    obtain ⟨k, rfl⟩ : ∃ m, k = m + 1 := ⟨k - 1, by omega⟩
    simp only [varveref06_More.l0, FnvPlain.go]
    rw [if_neg (by omega)]
  | d + 1, k, h, i, h0, hd, hk => by
    obtain ⟨k, rfl⟩ : ∃ m, k = m + 1 := ⟨k - 1, by omega⟩
    simp only [varveref06_More.l0, FnvPlain.go]
    rw [if_pos (by omega), if_pos h0]
    rw [show wrap64 (i + 1) = i + 1 from by unfold wrap64; omega, FnvPlain.rnd_shifts]
    exact ref_l0 s hs d k _ _ (by omega) (by omega) (by omega)
theorem of_any (s : ByteArray) (w : World) (hs : s.size ≤ 140737488351232) : Calls Try.prog 16 #[.string s] w fun e w' => e = .returned (.int .u64 (hashOf s)) ∧ Drawn0 w w' :=
  fnv_Of.calls (s.size + 1) s _ w (by unfold fnv_Of.f fnv_More.f; rw [more_l0 s (by omega) s.size _ _ _ (by omega) (by omega) (by omega)]; rfl)
theorem ofRef_any (s : ByteArray) (w : World) (hs : s.size ≤ 140737488351232) : Calls Try.prog 17 #[.string s] w fun e w' => e = .returned (.int .u64 (hashOf s)) ∧ Drawn0 w w' :=
  varveref06_Of.calls (s.size + 1) s _ w (by unfold varveref06_Of.f varveref06_More.f; rw [ref_l0 s hs s.size _ _ _ (by omega) (by omega) (by omega)]; rfl)
end Go.Proofs.Ytkeepinbfgepmaa.Each
