/- Own text: label.Make's comparison; the insertion sort of labels; SortStableFunc of few labels. -/
import Derived.Shelf.SlSortCmp.KitK
import Derived.Test.YteafilojjdfllaaShelf
import Derived.Test.YteafilojjdfllaaShelfS
import Derived.Test.YteafilojjdfllaaSortP
import Derived.Lib.Hide
namespace Go.Proofs.Yteafilojjdfllaa
open Go Go.RowKit Go.Sort Go.Proofs.YteafilojjdfllaaW.PrintWords Go.Proofs.YteafilojjdfllaaW.PrintLast Go.Proofs.YteafilojjdfllaaW.PrintMore Go.Proofs.Yteafilojjdfllaa.PAll

instance : Inhabited S68 := ⟨z68⟩
def encL (x : S68) : List Value := [.string x.f0, .string x.f1]
def cfN (x y : S68) : Int := Lib.compareBytes x.f0.data.toList y.f0.data.toList
theorem encL_len (x : S68) : (encL x).length = 2 := rfl
theorem encL_one (x : S68) : ∀ v ∈ encL x, v.oneCell' = true := by
  intro v hv
  simp only [encL, List.mem_cons, List.not_mem_nil, or_false] at hv
  rcases hv with rfl | rfl <;> rfl
theorem lt_cfN : ltOf cfN = ltN := by funext x y; rfl
theorem swo_N : SWO (ltOf cfN) := by
  rw [lt_cfN]
  refine ⟨ltN_irr, fun x y z h h' => ltN_trans h h', fun x y z h h' => ?_⟩
  have h1 : leN y x := h
  have h2 : leN z y := h'
  exact leN_trans h2 h1

set_option maxRecDepth 100000 in
set_option maxHeartbeats 4000000 in
/-- label.Make$1. -/
theorem cmp112 (w : World) (x y : S68) :
    Calls Try.prog 112 #[.agg #[.string x.f0, .string x.f1], .agg #[.string y.f0, .string y.f1]] w fun e w' => e = .returned (.int .i64 (cfN x y)) ∧ w' = (w.alloc (.cells #[.string x.f0, .string x.f1] 68)).alloc (.cells #[.string y.f0, .string y.f1] 68) := by
  have hX : ((w.alloc (.cells #[.string x.f0, .string x.f1] 68)).alloc (.cells #[.string y.f0, .string y.f1] 68)).heap[w.heap.size]? = some (.cells #[.string x.f0, .string x.f1] 68 (0, 0)) := (Below.heap_alloc _ _ _ (by simp)).trans (blk_new w _)
  have hY := blk_new (w.alloc (.cells #[.string x.f0, .string x.f1] 68)) (.cells #[.string y.f0, .string y.f1] 68)
  rw [World.size_alloc] at hY
  have x0 := blk_cell hX 0
  have y0 := blk_cell hY 0
  simp only [List.getElem?_toArray, List.getElem?_cons_zero] at x0 y0
  clear hX hY
  go_enter Try.func112, Try.ntmps112
  go_wp2_with fail
  (with_reducible refine (Try.strings_Compare _ _ _).mono ?_)
  rintro e w1 ⟨rfl, rfl⟩
  go_wp2_with fail
  go_ret
  exact ⟨rfl, rfl⟩

theorem cmpLays (blk off size : Nat) (w : World) : CmpLays Try.prog 112 #[] encL 2 cfN blk off size w := by
  intro m os dk _ x y
  refine (cmp112 (sortWorldK encL 2 w blk off m dk os) x y).mono ?_
  rintro e w' ⟨rfl, rfl⟩
  exact ⟨rfl, 0, #[.cells #[.string x.f0, .string x.f1] 68] ++ #[.cells #[.string y.f0, .string y.f1] 68], by rw [alloc_eq_grow, alloc_eq_grow, grow_grow]; rfl⟩

/-- slices.insertionSortCmpFunc over labels, by their names. -/
theorem ins180 (blk off cap a b : Nat) (d : Array S68) (w : World) (hH : HoldsK encL 2 w blk off d) (hblk : blk < w.heap.size) (hab : a ≤ b) (hb : b ≤ d.size) (hsz : d.size < 4611686018427387904) :
    Calls Try.prog 180 #[.slice (some ⟨blk, off, none⟩) d.size cap, .int .i64 a, .int .i64 b, .func (.func 112) #[] #[]] w fun e w' =>
      e = .returned (.tuple #[]) ∧ ∃ n d' os, w' = sortWorldK encL 2 w blk off n d' os ∧ PermIn a b d d' ∧ SortedIn ltN a b d' := by
  have h := AnyQ.insertionSortCmpFunc Try.lays180 2 Try.isAgg68 Try.sizeOf68 encL encL_len encL_one cfN 112 #[] blk off cap a b d w (enters_of Try.func112 (by kernel_rfl) rfl) (cmpLays blk off d.size w) hH hblk hab hb hsz
  refine Calls.mono h ?_
  rintro e w' ⟨rfl, n, os, rfl⟩
  have hs := insertionSort_holds (lt := ltOf cfN) swo_N d a b hab hb
  exact ⟨rfl, n, _, os, rfl, hs.1, by rw [← lt_cfN]; exact hs.2⟩

set_option maxRecDepth 100000 in
set_option maxHeartbeats 4000000 in
/-- slices.stableCmpFunc over fewer than twenty labels. -/
theorem stable160s (blk off cap : Nat) (d : Array S68) (w : World) (hH : HoldsK encL 2 w blk off d) (hblk : blk < w.heap.size) (hsz : d.size < 20) :
    Calls Try.prog 160 #[.slice (some ⟨blk, off, none⟩) d.size cap, .int .i64 d.size, .func (.func 112) #[] #[]] w fun e w' =>
      e = .returned (.tuple #[]) ∧ ∃ n d' os, w' = sortWorldK encL 2 w blk off n d' os ∧ PermIn 0 d.size d d' ∧ SortedIn ltN 0 d.size d' := by
  have h := Lib.hid (show Calls Try.prog 180 #[.slice (some ⟨blk, off, none⟩) d.size cap, .int .i64 0, .int .i64 d.size, .func (.func 112) #[] #[]] w fun e w' =>
      e = .returned (.tuple #[]) ∧ ∃ n d' os, w' = sortWorldK encL 2 w blk off n d' os ∧ PermIn 0 d.size d d' ∧ SortedIn ltN 0 d.size d' from ins180 blk off cap 0 d.size d w hH hblk (Nat.zero_le _) (Nat.le_refl _) (by omega))
  clear hH
  go_enter Try.func160, Try.ntmps160
  go_wp2
  refine wp_loop_rounds 1 ?_
  rw [rounds_succ]
  go_wp2_with fail
  (with_reducible refine h.out.mono ?_)
  rintro e w1 ⟨rfl, n, d', os, rfl, hP, hS⟩
  go_wp2
  refine wp_loop_rounds 1 ?_
  rw [rounds_succ]
  go_wp2
  go_end0
  exact ⟨rfl, n, d', os, rfl, hP, hS⟩

set_option maxRecDepth 100000 in
set_option maxHeartbeats 4000000 in
/-- slices.SortStableFunc over fewer than twenty labels. -/
theorem sort111s (blk off cap : Nat) (d : Array S68) (w : World) (hH : HoldsK encL 2 w blk off d) (hblk : blk < w.heap.size) (hsz : d.size < 20) :
    Calls Try.prog 111 #[.slice (some ⟨blk, off, none⟩) d.size cap, .func (.func 112) #[] #[]] w fun e w' =>
      e = .returned (.tuple #[]) ∧ ∃ n d' os, w' = sortWorldK encL 2 w blk off n d' os ∧ PermIn 0 d.size d d' ∧ SortedIn ltN 0 d.size d' := by
  have h := Lib.hid (stable160s blk off cap d w hH hblk hsz)
  clear hH
  go_enter Try.func111, Try.ntmps111
  go_wp2_with fail
  (with_reducible refine h.out.mono ?_)
  rintro e w1 ⟨rfl, n, d', os, rfl, hP, hS⟩
  go_wp2
  go_end0
  exact ⟨rfl, n, d', os, rfl, hP, hS⟩
set_option maxRecDepth 100000 in
set_option maxHeartbeats 4000000 in
theorem ins180z (w : World) :
    Calls Try.prog 180 #[.slice none 0 0, .int .i64 0, .int .i64 0, .func (.func 112) #[] #[]] w fun e w' => e = .returned (.tuple #[]) ∧ w' = w := by
  go_enter Try.func180, Try.ntmps180
  go_wp2
  refine wp_loop_rounds 1 ?_
  rw [rounds_succ]
  go_wp2
  go_end0
  exact ⟨rfl, rfl⟩
set_option maxRecDepth 100000 in
set_option maxHeartbeats 4000000 in
/-- .. over none. -/
theorem stable160z (w : World) :
    Calls Try.prog 160 #[.slice none 0 0, .int .i64 0, .func (.func 112) #[] #[]] w fun e w' => e = .returned (.tuple #[]) ∧ w' = w := by
  go_enter Try.func160, Try.ntmps160
  go_wp2
  refine wp_loop_rounds 1 ?_
  rw [rounds_succ]
  go_wp2_with fail
  (with_reducible refine (ins180z _).mono ?_)
  rintro e w1 ⟨rfl, rfl⟩
  go_wp2
  refine wp_loop_rounds 1 ?_
  rw [rounds_succ]
  go_wp2
  go_end0
  exact ⟨rfl, rfl⟩
set_option maxRecDepth 100000 in
set_option maxHeartbeats 4000000 in
theorem sort111z (w : World) :
    Calls Try.prog 111 #[.slice none 0 0, .func (.func 112) #[] #[]] w fun e w' => e = .returned (.tuple #[]) ∧ w' = w := by
  go_enter Try.func111, Try.ntmps111
  go_wp2_with fail
  (with_reducible refine (stable160z _).mono ?_)
  rintro e w1 ⟨rfl, rfl⟩
  go_wp2
  go_end0
  exact ⟨rfl, rfl⟩

/-! ### the row of labels, in memory of one's own -/
theorem flat_get (l : List S68) (i : Nat) (hi : i < l.length * 2) : (flatK encL 2 l.toArray)[i]! = (l.flatMap encL).getD i default := by
  rw [get_flatK _ _ _ _ (by simpa using hi)]
  have : ∀ (l : List S68) (i : Nat), i < l.length * 2 → (encL (l.toArray[i / 2]!))[i % 2]! = (l.flatMap encL).getD i default := by
    intro l
    induction l with
    | nil => intro i hi; simp at hi
    | cons x l ih =>
      intro i hi
      match i with
      | 0 => rfl
      | 1 => rfl
      | i + 2 =>
        have h1 := ih i (by simp only [List.length_cons] at hi; omega)
        rw [show (i + 2) / 2 = i / 2 + 1 by omega, show (i + 2) % 2 = i % 2 by omega]
        simpa [encL] using h1
  exact this l i hi
theorem holds_of_own {w : World} {base g cap : Nat} {l : List S68} (h : w.ownsRow base 68 2 (.slice (some ⟨g, 0, none⟩) l.length cap) l.length (l.flatMap encL)) : HoldsK encL 2 w g 0 l.toArray := by
  intro j hj
  have hj' : j < l.length * 2 := by simpa using hj
  have h1 := World.ownsRow.cellAt h j hj'
  have h2 := World.ownsRow.frozenAt h j
  rw [Nat.zero_add, h1, h2]
  refine ⟨?_, rfl⟩
  show _ = some ((flatK encL 2 l.toArray)[j]!)
  rw [flat_get l j hj', List.getD_eq_getElem?_getD]
  have hlen := h.1
  rw [List.getElem?_eq_getElem (by rw [hlen]; exact hj')]
  rfl
/-- labels that lie in a block, read as a list -/
theorem C_of_holds {w : World} {g : Nat} {d : Array S68} (h : HoldsK encL 2 w g 0 d) (hd : d.size * 32 ≤ 140737488355328) : Kd.C k68 w (some ⟨g, 0, none⟩) d.size d.toList := by
  refine ⟨by simp, by omega, fun _ => ⟨⟨g, 0, none⟩, rfl, fun j p hj => ?_⟩⟩
  obtain ⟨hj1, hj2⟩ := List.getElem?_eq_some_iff.1 hj
  have hj3 : j < d.size := by simpa using hj1
  have hp : d[j]! = p := by rw [getElem!_pos d j hj3, ← hj2]; simp
  have c0 := (HoldsK.cell h hj3 (c := 0) (by decide)).1
  have c1 := (HoldsK.cell h hj3 (c := 1) (by decide)).1
  rw [hp] at c0 c1
  refine ⟨encL p, rfl, k68_mk w p, fun i u hu => ?_⟩
  have e : (⟨g, 0, none⟩ : Addr).add (j * k68.sz + i) = ⟨g, 0 + j * 2 + i, none⟩ := by
    show Addr.add _ (j * 2 + i) = _
    simp [Addr.add]
    intros; omega
  rw [e]
  match i with
  | 0 => cases hu; exact c0
  | 1 => cases hu; exact c1
  | i + 2 => simp [encL] at hu
/-- what the sort leaves alone -/
theorem below_sorted {w : World} {g : Nat} {n : Nat} {d : Array S68} {os : Array Obj} {B : Nat} (hB : B ≤ g) (hg : g < w.heap.size) : Below B w (sortWorldK encL 2 w g 0 n d os) := by
  refine ⟨rfl, rfl, rfl, ?_, fun b hb => ?_⟩
  · unfold sortWorldK
    rw [size_grow, size_putRowK]
    exact Nat.le_add_right _ _
  · have hne : b ≠ g := by omega
    show ((putRowK encL 2 (Sort.ahead w n) g 0 d).heap ++ os)[b]? = _
    rw [Array.getElem?_append_left (by rw [size_putRowK]; show b < w.heap.size; omega)]
    show (w.heap.modify g _)[b]? = _
    rw [Array.getElem?_modify, if_neg (fun e => hne e.symm)]
end Go.Proofs.Yteafilojjdfllaa
