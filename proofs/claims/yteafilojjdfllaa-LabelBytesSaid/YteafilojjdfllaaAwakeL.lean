/- Own text: LabSort, LabMake, LabKit, LabText, AwakeL, laid into one text. -/
import Derived.Shelf.SlSortCmp.KitK
import Derived.Test.YteafilojjdfllaaShelf
import Derived.Test.YteafilojjdfllaaShelfS
import Derived.Test.YteafilojjdfllaaSortP
import Derived.Lib.Hide
import Derived.Test.YteafilojjdfllaaLabChk
import Derived.Test.YteafilojjdfllaaPAllx6
import Derived.Test.YteafilojjdfllaaPAllx9
import Derived.Test.YteafilojjdfllaaQJ
namespace Go.Proofs.Yteafilojjdfllaa
section
open Go Go.RowKit Go.Sort Go.Proofs.YteafilojjdfllaaW.PrintWords Go.Proofs.YteafilojjdfllaaW.PrintLast Go.Proofs.YteafilojjdfllaaW.PrintMore Go.Proofs.Yteafilojjdfllaa.PAll

instance : Inhabited S68 := ⟨z68⟩
def encL (x : S68) : List Value := [.string x.f0, .string x.f1]
def cfN (x y : S68) : Int := Lib.compareBytes x.f0.data.toList y.f0.data.toList
theorem encL_len (x : S68) : (encL x).length = 2 := rfl
theorem encL_one (x : S68) : ∀ v ∈ encL x, v.oneCell' = true := by
  intro v hv
  simp only [encL, List.mem_cons, List.not_mem_nil, or_false] at hv
  rcases hv with rfl | rfl <;> rfl
theorem lt_cfN : ltOf cfN = ltN := by funext x y; rfl
theorem swo_N : SWO (ltOf cfN) := by
  rw [lt_cfN]
  refine ⟨ltN_irr, fun x y z h h' => ltN_trans h h', fun x y z h h' => ?_⟩
  have h1 : leN y x := h
  have h2 : leN z y := h'
  exact leN_trans h2 h1

set_option maxRecDepth 100000 in
set_option maxHeartbeats 4000000 in
/-- label.Make$1. -/
theorem cmp112 (w : World) (x y : S68) :
    Calls Try.prog 112 #[.agg #[.string x.f0, .string x.f1], .agg #[.string y.f0, .string y.f1]] w fun e w' => e = .returned (.int .i64 (cfN x y)) ∧ w' = (w.alloc (.cells #[.string x.f0, .string x.f1] 68)).alloc (.cells #[.string y.f0, .string y.f1] 68) := by
  have hX : ((w.alloc (.cells #[.string x.f0, .string x.f1] 68)).alloc (.cells #[.string y.f0, .string y.f1] 68)).heap[w.heap.size]? = some (.cells #[.string x.f0, .string x.f1] 68 (0, 0)) := (Below.heap_alloc _ _ _ (by simp)).trans (blk_new w _)
  have hY := blk_new (w.alloc (.cells #[.string x.f0, .string x.f1] 68)) (.cells #[.string y.f0, .string y.f1] 68)
  rw [World.size_alloc] at hY
  have x0 := blk_cell hX 0
  have y0 := blk_cell hY 0
  simp only [List.getElem?_toArray, List.getElem?_cons_zero] at x0 y0
  clear hX hY
  go_enter Try.func112, Try.ntmps112
  go_wp2_with fail
  (with_reducible refine (Try.strings_Compare _ _ _).mono ?_)
  rintro e w1 ⟨rfl, rfl⟩
  go_wp2_with fail
  go_ret
  exact ⟨rfl, rfl⟩

theorem cmpLays (blk off size : Nat) (w : World) : CmpLays Try.prog 112 #[] encL 2 cfN blk off size w := by
  intro m os dk _ x y
  refine (cmp112 (sortWorldK encL 2 w blk off m dk os) x y).mono ?_
  rintro e w' ⟨rfl, rfl⟩
  exact ⟨rfl, 0, #[.cells #[.string x.f0, .string x.f1] 68] ++ #[.cells #[.string y.f0, .string y.f1] 68], by rw [alloc_eq_grow, alloc_eq_grow, grow_grow]; rfl⟩

/-- slices.insertionSortCmpFunc over labels, by their names. -/
theorem ins180 (blk off cap a b : Nat) (d : Array S68) (w : World) (hH : HoldsK encL 2 w blk off d) (hblk : blk < w.heap.size) (hab : a ≤ b) (hb : b ≤ d.size) (hsz : d.size < 4611686018427387904) :
    Calls Try.prog 180 #[.slice (some ⟨blk, off, none⟩) d.size cap, .int .i64 a, .int .i64 b, .func (.func 112) #[] #[]] w fun e w' =>
      e = .returned (.tuple #[]) ∧ ∃ n d' os, w' = sortWorldK encL 2 w blk off n d' os ∧ PermIn a b d d' ∧ SortedIn ltN a b d' := by
  have h := AnyQ.insertionSortCmpFunc Try.lays180 2 Try.isAgg68 Try.sizeOf68 encL encL_len encL_one cfN 112 #[] blk off cap a b d w (enters_of Try.func112 (by kernel_rfl) rfl) (cmpLays blk off d.size w) hH hblk hab hb hsz
  refine Calls.mono h ?_
  rintro e w' ⟨rfl, n, os, rfl⟩
  have hs := insertionSort_holds (lt := ltOf cfN) swo_N d a b hab hb
  exact ⟨rfl, n, _, os, rfl, hs.1, by rw [← lt_cfN]; exact hs.2⟩

set_option maxRecDepth 100000 in
set_option maxHeartbeats 4000000 in
/-- slices.stableCmpFunc over fewer than twenty labels. -/
theorem stable160s (blk off cap : Nat) (d : Array S68) (w : World) (hH : HoldsK encL 2 w blk off d) (hblk : blk < w.heap.size) (hsz : d.size < 20) :
    Calls Try.prog 160 #[.slice (some ⟨blk, off, none⟩) d.size cap, .int .i64 d.size, .func (.func 112) #[] #[]] w fun e w' =>
      e = .returned (.tuple #[]) ∧ ∃ n d' os, w' = sortWorldK encL 2 w blk off n d' os ∧ PermIn 0 d.size d d' ∧ SortedIn ltN 0 d.size d' := by
  have h := Lib.hid (show Calls Try.prog 180 #[.slice (some ⟨blk, off, none⟩) d.size cap, .int .i64 0, .int .i64 d.size, .func (.func 112) #[] #[]] w fun e w' =>
      e = .returned (.tuple #[]) ∧ ∃ n d' os, w' = sortWorldK encL 2 w blk off n d' os ∧ PermIn 0 d.size d d' ∧ SortedIn ltN 0 d.size d' from ins180 blk off cap 0 d.size d w hH hblk (Nat.zero_le _) (Nat.le_refl _) (by omega))
  clear hH
  go_enter Try.func160, Try.ntmps160
  go_wp2
  refine wp_loop_rounds 1 ?_
  rw [rounds_succ]
  go_wp2_with fail
  (with_reducible refine h.out.mono ?_)
  rintro e w1 ⟨rfl, n, d', os, rfl, hP, hS⟩
  go_wp2
  refine wp_loop_rounds 1 ?_
  rw [rounds_succ]
  go_wp2
  go_end0
  exact ⟨rfl, n, d', os, rfl, hP, hS⟩

set_option maxRecDepth 100000 in
set_option maxHeartbeats 4000000 in
/-- slices.SortStableFunc over fewer than twenty labels. -/
theorem sort111s (blk off cap : Nat) (d : Array S68) (w : World) (hH : HoldsK encL 2 w blk off d) (hblk : blk < w.heap.size) (hsz : d.size < 20) :
    Calls Try.prog 111 #[.slice (some ⟨blk, off, none⟩) d.size cap, .func (.func 112) #[] #[]] w fun e w' =>
      e = .returned (.tuple #[]) ∧ ∃ n d' os, w' = sortWorldK encL 2 w blk off n d' os ∧ PermIn 0 d.size d d' ∧ SortedIn ltN 0 d.size d' := by
  have h := Lib.hid (stable160s blk off cap d w hH hblk hsz)
  clear hH
  go_enter Try.func111, Try.ntmps111
  go_wp2_with fail
  (with_reducible refine h.out.mono ?_)
  rintro e w1 ⟨rfl, n, d', os, rfl, hP, hS⟩
  go_wp2
  go_end0
  exact ⟨rfl, n, d', os, rfl, hP, hS⟩
set_option maxRecDepth 100000 in
set_option maxHeartbeats 4000000 in
theorem ins180z (w : World) :
    Calls Try.prog 180 #[.slice none 0 0, .int .i64 0, .int .i64 0, .func (.func 112) #[] #[]] w fun e w' => e = .returned (.tuple #[]) ∧ w' = w := by
  go_enter Try.func180, Try.ntmps180
  go_wp2
  refine wp_loop_rounds 1 ?_
  rw [rounds_succ]
  go_wp2
  go_end0
  exact ⟨rfl, rfl⟩
set_option maxRecDepth 100000 in
set_option maxHeartbeats 4000000 in
/-- .. over none. -/
theorem stable160z (w : World) :
    Calls Try.prog 160 #[.slice none 0 0, .int .i64 0, .func (.func 112) #[] #[]] w fun e w' => e = .returned (.tuple #[]) ∧ w' = w := by
  go_enter Try.func160, Try.ntmps160
  go_wp2
  refine wp_loop_rounds 1 ?_
  rw [rounds_succ]
  go_wp2_with fail
  (with_reducible refine (ins180z _).mono ?_)
  rintro e w1 ⟨rfl, rfl⟩
  go_wp2
  refine wp_loop_rounds 1 ?_
  rw [rounds_succ]
  go_wp2
  go_end0
  exact ⟨rfl, rfl⟩
set_option maxRecDepth 100000 in
set_option maxHeartbeats 4000000 in
theorem sort111z (w : World) :
    Calls Try.prog 111 #[.slice none 0 0, .func (.func 112) #[] #[]] w fun e w' => e = .returned (.tuple #[]) ∧ w' = w := by
  go_enter Try.func111, Try.ntmps111
  go_wp2_with fail
  (with_reducible refine (stable160z _).mono ?_)
  rintro e w1 ⟨rfl, rfl⟩
  go_wp2
  go_end0
  exact ⟨rfl, rfl⟩

/-! ### the row of labels, in memory of one's own -/
theorem flat_get (l : List S68) (i : Nat) (hi : i < l.length * 2) : (flatK encL 2 l.toArray)[i]! = (l.flatMap encL).getD i default := by
  rw [get_flatK _ _ _ _ (by simpa using hi)]
  have : ∀ (l : List S68) (i : Nat), i < l.length * 2 → (encL (l.toArray[i / 2]!))[i % 2]! = (l.flatMap encL).getD i default := by
    intro l
    induction l with
    | nil => intro i hi; simp at hi
    | cons x l ih =>
      intro i hi
      match i with
      | 0 => rfl
      | 1 => rfl
      | i + 2 =>
        have h1 := ih i (by simp only [List.length_cons] at hi; omega)
        rw [show (i + 2) / 2 = i / 2 + 1 by omega, show (i + 2) % 2 = i % 2 by omega]
        simpa [encL] using h1
  exact this l i hi
theorem holds_of_own {w : World} {base g cap : Nat} {l : List S68} (h : w.ownsRow base 68 2 (.slice (some ⟨g, 0, none⟩) l.length cap) l.length (l.flatMap encL)) : HoldsK encL 2 w g 0 l.toArray := by
  intro j hj
  have hj' : j < l.length * 2 := by simpa using hj
  have h1 := World.ownsRow.cellAt h j hj'
  have h2 := World.ownsRow.frozenAt h j
  rw [Nat.zero_add, h1, h2]
  refine ⟨?_, rfl⟩
  show _ = some ((flatK encL 2 l.toArray)[j]!)
  rw [flat_get l j hj', List.getD_eq_getElem?_getD]
  have hlen := h.1
  rw [List.getElem?_eq_getElem (by rw [hlen]; exact hj')]
  rfl
/-- labels that lie in a block, read as a list -/
theorem C_of_holds {w : World} {g : Nat} {d : Array S68} (h : HoldsK encL 2 w g 0 d) (hd : d.size * 32 ≤ 140737488355328) : Kd.C k68 w (some ⟨g, 0, none⟩) d.size d.toList := by
  refine ⟨by simp, by omega, fun _ => ⟨⟨g, 0, none⟩, rfl, fun j p hj => ?_⟩⟩
  obtain ⟨hj1, hj2⟩ := List.getElem?_eq_some_iff.1 hj
  have hj3 : j < d.size := by simpa using hj1
  have hp : d[j]! = p := by rw [getElem!_pos d j hj3, ← hj2]; simp
  have c0 := (HoldsK.cell h hj3 (c := 0) (by decide)).1
  have c1 := (HoldsK.cell h hj3 (c := 1) (by decide)).1
  rw [hp] at c0 c1
  refine ⟨encL p, rfl, k68_mk w p, fun i u hu => ?_⟩
  have e : (⟨g, 0, none⟩ : Addr).add (j * k68.sz + i) = ⟨g, 0 + j * 2 + i, none⟩ := by
    show Addr.add _ (j * 2 + i) = _
    simp [Addr.add]
    intros; omega
  rw [e]
  match i with
  | 0 => cases hu; exact c0
  | 1 => cases hu; exact c1
  | i + 2 => simp [encL] at hu
/-- what the sort leaves alone -/
theorem below_sorted {w : World} {g : Nat} {n : Nat} {d : Array S68} {os : Array Obj} {B : Nat} (hB : B ≤ g) (hg : g < w.heap.size) : Below B w (sortWorldK encL 2 w g 0 n d os) := by
  refine ⟨rfl, rfl, rfl, ?_, fun b hb => ?_⟩
  · unfold sortWorldK
    rw [size_grow, size_putRowK]
    exact Nat.le_add_right _ _
  · have hne : b ≠ g := by omega
    show ((putRowK encL 2 (Sort.ahead w n) g 0 d).heap ++ os)[b]? = _
    rw [Array.getElem?_append_left (by rw [size_putRowK]; show b < w.heap.size; omega)]
    show (w.heap.modify g _)[b]? = _
    rw [Array.getElem?_modify, if_neg (fun e => hne e.symm)]
end
section
open Go Go.RowKit Go.Sort Go.Proofs.YteafilojjdfllaaW.PrintWords Go.Proofs.YteafilojjdfllaaW.PrintLast Go.Proofs.YteafilojjdfllaaW.PrintMore Go.Proofs.Yteafilojjdfllaa.PAll
set_option linter.unusedSimpArgs false

theorem infoLb : (Try.prog.info? 68).map (fun i => (i.zero, i.size, i.bytes)) = some (some (.agg #[.string ⟨#[]⟩, .string ⟨#[]⟩]), 2, 32) := by kernel_rfl
theorem emp_list : (⟨#[]⟩ : ByteArray).toList = [] := by rw [ByteArray.toList_eq]
theorem ba_nilD {b : ByteArray} (h : b.toList = []) : b = ⟨#[]⟩ := by
  rw [ByteArray.toList_eq] at h
  cases b
  simp only at h
  rw [Array.toList_eq_nil_iff.1 h]
theorem check62z (w : World) : Calls Try.prog 62 #[.slice none 0 0] w fun e w' => e = .returned (.bool false) ∧ Below w.heap.size w w' :=
  check62 w [] none 0 (Kd.C_nil _ _)
theorem full_snoc (l : List S68) (x : S68) : fullS (l ++ [x]) = fullS l ++ (if 1 ≤ x.f1.size then [x] else []) := by
  unfold fullS
  rw [List.filter_append]
  by_cases h : 1 ≤ x.f1.size <;> simp [h]
theorem full_len (l : List S68) : (fullS l).length ≤ l.length := List.length_filter_le _ _
theorem takeSn {α : Type} (xs : List α) (z : α) (j : Nat) (h : j < xs.length) : xs.take (j + 1) = xs.take j ++ [xs.getD j z] := by
  rw [List.take_succ_eq_append_getElem h]; simp [List.getD_eq_getElem?_getD, h]
/-- a sorted array of the same elements is the set, or none is -/
theorem sorted_make (l : List S68) (d' : Array S68) (hP : PermIn 0 (fullS l).toArray.size (fullS l).toArray d') (hS : SortedIn ltN 0 (fullS l).toArray.size d') : d'.toList.Perm (fullS l) ∧ d'.toList.Pairwise leN := by
  obtain ⟨h1, -, h3⟩ := hP
  have hsz : d'.size = (fullS l).length := by rw [h1]; simp
  have e1 : (d'.extract 0 (fullS l).toArray.size) = d' := by
    rw [show (fullS l).toArray.size = d'.size by rw [h1]]; simp
  have e2 : ((fullS l).toArray.extract 0 (fullS l).toArray.size).toList = fullS l := by simp
  rw [e1, e2] at h3
  refine ⟨h3, ?_⟩
  rw [List.pairwise_iff_getElem]
  intro i j hi hj hij
  have hj' : j < d'.size := by simpa using hj
  have hi' : i < d'.size := by simpa using hi
  have := hS i j (Nat.zero_le _) hij (by rw [← h1]; exact hj')
  rw [getElem!_pos d' j hj', getElem!_pos d' i hi'] at this
  simpa [leN] using this
theorem chk_sorted {l x : List S68} (h1 : x.Perm (fullS l)) (h2 : x.Pairwise leN) : makeS l = if chkS x then some x else none := by
  unfold makeS
  by_cases hc : chkS x = true
  · have : sortN (fullS l) = x := by
      have hr := hc
      unfold chkS at hr
      rw [Bool.and_eq_true] at hr
      exact (rise_uniq _ _ (h1.trans (sortN_perm _).symm) ((risesN_pair _).1 hr.2) (sortN_sorted _)).symm
    rw [this]
  · rw [if_neg hc]
    by_cases hd : chkS (sortN (fullS l)) = true
    · exfalso
      have hr := hd
      unfold chkS at hr
      rw [Bool.and_eq_true] at hr
      have : sortN (fullS l) = x := rise_uniq _ _ ((sortN_perm _).trans h1.symm) ((risesN_pair _).1 hr.2) h2
      rw [this] at hd
      exact hc hd
    · rw [if_neg hd]
/-- what Make answers -/
def MakePost (w : World) (o : Option (List S68)) (e : Ending) (w' : World) : Prop :=
  (match o with
    | some x => ∃ A c, e = .returned (.tuple #[.slice A x.length c, .int .i64 0]) ∧ x.length ≤ c ∧ Kd.C k68 w' A x.length x
    | none => e = .returned (.tuple #[.slice none 0 0, .int .i64 5])) ∧ Below w.heap.size w w'
set_option maxRecDepth 100000 in
set_option maxHeartbeats 8000000 in
/-- label.Make, where fewer than twenty labels have a value. -/
theorem make69s (w : World) (l : List S68) (A : Option Addr) (c : Nat) (hl : l.length ≤ 1000) (hf : (fullS l).length < 20) (hC : Kd.C k68 w A l.length l) :
    Calls Try.prog 69 #[.slice A l.length c] w (MakePost w (makeS l)) := by
  have HC := Lib.hid hC
  have HF := Lib.hid hf
  clear hC hf
  obtain ⟨o, ho⟩ : ∃ o, makeS l = o := ⟨_, rfl⟩
  rw [ho]
  have HO := Lib.hid ho
  clear ho
  go_enter Try.func69, Try.ntmps69
  go_wp2
  go_loopw [4, 6, 9] (fun u4 _ u9 wr => ∃ (j : Nat), u9 = .int .i64 j ∧ j ≤ l.length ∧ wr.ownsRow w.heap.size 68 2 u4 (fullS (l.take j)).length ((fullS (l.take j)).flatMap encL) ∧ Below w.heap.size w wr)
    (fun _ _ u9 _ => l.length - (intOf u9).toNat)
  case atStart => exact ⟨0, rfl, Nat.zero_le _, by simpa [fullS] using World.ownsRow_nil w w.heap.size 68 2, Below.refl _ _⟩
  case round =>
    obtain ⟨j, rfl, hj, hO, hB⟩ := hrel
    by_cases hlt : j < l.length
    · obtain ⟨ad, rfl, a0, a1⟩ := at_lab (Kd.C_below HC.out hB) j hlt
      have Htk := Lib.hid (takeSn l z68 j hlt)
      obtain ⟨x, ex⟩ : ∃ x, l.getD j z68 = x := ⟨_, rfl⟩
      rw [ex] at a0 a1 Htk
      clear ex
      obtain ⟨V, eV⟩ : ∃ V, V = wr.alloc (.cells #[.string x.f0, .string x.f1] 68) := ⟨_, rfl⟩
      have hBV : Below wr.heap.size wr V := eV ▸ below_alloc (Below.refl _ _) _
      have hX : V.heap[wr.heap.size]? = some (.cells #[.string x.f0, .string x.f1] 68 (0, 0)) := by rw [eV]; exact blk_new wr _
      have HBw := Lib.hid (below_step hB hBV)
      have b0 : V.cell? ⟨wr.heap.size, 0, none⟩ = some (.string x.f0) := blk_cell hX 0
      have b1 : V.cell? ⟨wr.heap.size, 1, none⟩ = some (.string x.f1) := blk_cell hX 1
      have hOV := Lib.hid (pw_own_below hO hBV)
      have hfl : (fullS (l.take j)).length ≤ 1000 := Nat.le_trans (full_len _) (by simp; omega)
      obtain ⟨Au, cu, rfl⟩ := own_slice hO
      have hwV := HBw.out.size
      clear hO
      by_cases hx : x.f1 = ⟨#[]⟩
      · have hx1 : x.f1.toList.isEmpty = true := by rw [hx, emp_list]; rfl
        have HX := Lib.hid hx
        clear hx
        go_wp2_with fail
        rw [← eV]
        go_roundw
        case rel => exact ⟨j + 1, by go_num, by omega, by rw [Htk.out, full_snoc, if_neg (by rw [HX.out]; decide), List.append_nil]; exact hOV.out, HBw.out⟩
        case measure => simp [intOf]; omega
      · have hx1 : x.f1.toList.isEmpty = false := by
          cases hq : x.f1.toList.isEmpty with
          | false => rfl
          | true => exact absurd (ba_nilD (List.isEmpty_iff.1 hq)) hx
        have HX := Lib.hid (show 1 ≤ x.f1.size from by
          rcases Nat.eq_zero_or_pos x.f1.size with h | h
          · exact absurd (ByteArray.ext (Array.eq_empty_of_size_eq_zero h)) hx
          · exact h)
        clear hx
        have hsV : V.heap.size = wr.heap.size + 1 := by rw [eV]; simp
        rw [eV] at hOV HBw b0 b1
        have hsW : (wr.alloc (.cells #[.string x.f0, .string x.f1] 68)).heap.size = wr.heap.size + 1 := by simp
        have hwr := hB.size
        clear hX hBV hwV hsV eV
        go_wp2_with (at_builtin; refine print_append_cells (w0 := w) (W := wr.alloc (.cells #[.string x.f0, .string x.f1] 68)) w.heap.size rfl (.tmp 16) (.tmp 18) 28 68 (.agg #[.string ⟨#[]⟩, .string ⟨#[]⟩]) 2 32 rfl Try.underlying28 infoLb rfl (by decide) (by decide) (.slice Au (fullS (l.take j)).length cu) (fullS (l.take j)).length ((fullS (l.take j)).flatMap encL) [.string x.f0, .string x.f1] rfl (by rw [hsW]; rfl) rfl (by intro u hu; simp only [List.mem_cons, List.not_mem_nil, or_false] at hu; rcases hu with rfl | rfl <;> rfl) hOV.out HBw.out (by rw [hsW]; omega) (by omega) ?_; intro v2 w2 hown2 hb2 hg2 hat2)
        go_roundw
        case rel =>
          refine ⟨j + 1, by go_num, by omega, ?_, hb2⟩
          rw [Htk.out, full_snoc, if_pos HX.out, List.length_append, List.flatMap_append]
          exact hown2
        case measure => simp [intOf]; omega
    · obtain rfl : j = l.length := by omega
      rw [List.take_length] at hO
      rcases hO.2 with ⟨rfl, h0⟩ | ⟨g, cap, cur, rfl, hg, hblk, hcap, -, -, -⟩
      · have hnil : fullS l = [] := List.length_eq_zero_iff.1 h0
        have hon : o = none := by
          rw [← HO.out]
          unfold makeS
          rw [hnil]; rfl
        subst hon
        clear hO h0
        go_wp2_with fail
        (with_reducible refine (sort111z _).mono ?_)
        rintro e w2 ⟨rfl, rfl⟩
        go_wp2_with fail
        (with_reducible refine (check62z _).mono ?_)
        rintro e w3 ⟨rfl, hb3⟩
        go_wp2
        go_ret2
        exact ⟨rfl, below_step hB hb3⟩
      · have hH := holds_of_own hO
        have hgl : g < wr.heap.size := (Array.getElem?_eq_some_iff.1 hblk).1
        have hsz : (fullS l).toArray.size = (fullS l).length := by simp
        have hfl : (fullS l).length ≤ 1000 := Nat.le_trans (full_len _) hl
        have hs0 := sort111s g 0 cap (fullS l).toArray wr hH hgl (by rw [hsz]; exact HF.out)
        rw [hsz] at hs0
        have hs := Lib.hid hs0
        have HH := Lib.hid hH
        clear hO hblk hH hs0
        go_wp2_with fail
        (with_reducible refine hs.out.mono ?_)
        rintro e w2 ⟨rfl, n, d', os, rfl, hP, hS⟩
        obtain ⟨hp1, hp2⟩ := sorted_make l d' (by rw [hsz]; exact hP) (by rw [hsz]; exact hS)
        have hlen : d'.toList.length = (fullS l).length := hp1.length_eq
        have hlen' : d'.size = (fullS l).length := by rw [← hlen]; simp
        obtain ⟨W2, eW⟩ : ∃ W2, sortWorldK encL 2 wr g 0 n d' os = W2 := ⟨_, rfl⟩
        have HB2 := Lib.hid (show Below w.heap.size w W2 from by
          rw [← eW]; exact hB.trans (below_sorted hg hgl))
        have hH2 : HoldsK encL 2 W2 g 0 d' := by
          rw [← eW]; exact holdsK_sortWorldK encL 2 wr g 0 n _ d' os hgl HH.out (by rw [hlen', hsz])
        have hC2 := C_of_holds hH2 (by omega)
        rw [eW]
        clear eW hH2
        obtain ⟨x, ex⟩ : ∃ x, d'.toList = x := ⟨_, rfl⟩
        rw [ex] at hp1 hp2 hlen hC2
        rw [hlen', ← hlen] at hC2
        have ho : o = if chkS x then some x else none := by rw [← HO.out]; exact chk_sorted hp1 hp2
        rw [← hlen]
        have Hlen := Lib.hid hlen
        clear hP hS hp1 hp2 ex hlen' hsz hlen
        have HC2 := Lib.hid hC2
        clear hC2
        cases hc : chkS x with
        | false =>
          rw [hc] at ho
          have ho' : o = none := ho
          subst ho'
          have h62 := check62 W2 x (some ⟨g, 0, none⟩) cap HC2.out
          rw [hc] at h62
          have H62 := Lib.hid h62
          clear h62 hc ho
          go_wp2_with fail
          (with_reducible refine H62.out.mono ?_)
          rintro e w3 ⟨rfl, hb3⟩
          go_wp2
          go_ret2
          exact ⟨rfl, below_step HB2.out hb3⟩
        | true =>
          rw [hc] at ho
          have ho' : o = some x := ho
          subst ho'
          have h62 := check62 W2 x (some ⟨g, 0, none⟩) cap HC2.out
          rw [hc] at h62
          have H62 := Lib.hid h62
          have hxc : x.length ≤ cap := by rw [Hlen.out]; exact hcap
          clear h62 hc ho
          go_wp2_with fail
          (with_reducible refine H62.out.mono ?_)
          rintro e w3 ⟨rfl, hb3⟩
          go_wp2
          go_ret2
          exact ⟨⟨_, _, rfl, hxc, Kd.C_below HC2.out hb3⟩, below_step HB2.out hb3⟩
end
section
namespace Lb
open Go Go.RowKit Go.Proofs.YteafilojjdfllaaW.PrintWords Go.Proofs.YteafilojjdfllaaW.PrintLast Go.Proofs.YteafilojjdfllaaW.PrintMore Go.Proofs.Yteafilojjdfllaa.PAll
set_option linter.unusedVariables false
set_option linter.unusedSimpArgs false

theorem infoL : (Try.prog.info? 68).map (fun i => (i.zero, i.size, i.bytes)) = some (some (.agg #[.string ⟨#[]⟩, .string ⟨#[]⟩]), 2, 32) := by kernel_rfl
/-- it reads so in every world that has these blocks -/
def LF {α : Type} (d : Kd α) (W : World) (S : Nat → Prop) (A : Option Addr) (c : Nat) (xs : List α) : Prop :=
  ∀ X : World, (∀ b, S b → X.heap[b]? = W.heap[b]?) → xs.length ≤ c ∧ d.C X A xs.length xs
theorem LF.now {α : Type} {d : Kd α} {W : World} {S : Nat → Prop} {A : Option Addr} {c : Nat} {xs : List α} (h : LF d W S A c xs) : xs.length ≤ c ∧ d.C W A xs.length xs := h W (fun _ _ => rfl)
theorem LF.move {α : Type} {d : Kd α} {W Y : World} {S T : Nat → Prop} {A : Option Addr} {c : Nat} {xs : List α} (h : LF d W S A c xs) (hS : ∀ b, S b → T b ∧ Y.heap[b]? = W.heap[b]?) : LF d Y T A c xs :=
  fun X hX => h X (fun b hb => (hX b (hS b hb).1).trans (hS b hb).2)
/-- a list in new memory -/
def ListPost {α : Type} (d : Kd α) (w : World) (xs : List α) (e : Ending) (w' : World) : Prop :=
  ∃ A c, e = .returned (.slice A xs.length c) ∧ LF d w' (fun b => w.heap.size ≤ b ∧ b < w'.heap.size) A c xs ∧ Below w.heap.size w w'
theorem ListPost.of {α : Type} {d : Kd α} {e : Nat} {w w' : World} {xs : List α} {v : Value} (h : d.R e w' w.heap.size (fun k => w.heap.size ≤ k) v xs) (_hb : Below w.heap.size w w') : ∃ A c, v = .slice A xs.length c ∧ LF d w' (fun b => w.heap.size ≤ b ∧ b < w'.heap.size) A c xs := by
  obtain ⟨A, c, hv, hc, hC⟩ := Kd.R_reads h
  refine ⟨A, c, hv, fun X hX => ?_⟩
  have h2 : d.R e X w.heap.size (fun k => w.heap.size ≤ k) v xs := Kd.R_step h (fun k h1 h2 => hX k ⟨h1, h2⟩)
  obtain ⟨A', c', hv', hc', hC'⟩ := Kd.R_reads h2
  rw [hv] at hv'
  cases hv'
  exact ⟨hc', hC'⟩
set_option maxRecDepth 100000 in
set_option maxHeartbeats 2000000 in
theorem list56 (w : World) (A : Option Addr) (c : Nat) (xs : List S68) (hl : xs.length * 32 ≤ 140737488355328) (hc : xs.length ≤ c) (hC : Kd.C k68 w A xs.length xs) :
    Calls Try.prog 56 #[.slice A xs.length c] w (ListPost k68 w xs) := by
  have HC := Lib.hid hC
  clear hC
  go_enter Try.func56, Try.ntmps56
  go_wp2_with (at_builtin; refine Kd.R_append_rows k68 (Rr := Kd.K k68 w) (w0 := w) (W := w) w.heap.size rfl (.const (.slice none 0 0)) (.tmp 3) 28 68 (.agg #[.string ⟨#[]⟩, .string ⟨#[]⟩]) 32 rfl Try.underlying28 infoL rfl (by decide) (by decide) (.slice none 0 0) [] xs A xs.length c (fun k => w.heap.size ≤ k) (fun k => w.heap.size ≤ k) rfl rfl (Kd.R_nil _ _ _ _ _) HC.out (fun x cs h => by rw [k68_open h]; exact k68_mkM _ _ _ x) (fun k hk => ⟨hk, by simp [Value.ownBlock]⟩) (fun k hk => hk) (Below.refl _ _) (Nat.le_refl _) (by simpa using hl) ?_; intro v1 w1 hown1 hbel1 hg1 hat1; obtain ⟨Av, cv, rfl, hLF⟩ := ListPost.of hown1 hbel1; have HLF := Lib.hid hLF; clear hLF)
  go_ret
  exact ⟨Av, cv, by simp, HLF.out, hbel1⟩

set_option maxRecDepth 100000 in
set_option maxHeartbeats 4000000 in
theorem sameLab67 (w : World) (l : List S68) (A : Option Addr) (c : Nat) (B : Option Addr) (d : Nat) (hl : l.length ≤ 4000000000000000000)
    (hC : Kd.C k68 w A l.length l) (hD : Kd.C k68 w B l.length l) :
    Calls Try.prog 67 #[.slice A l.length c, .slice B l.length d] w fun e w' => e = .returned (.bool true) ∧ Below w.heap.size w w' := by
  have HC := Lib.hid hC
  have HD := Lib.hid hD
  clear hC hD
  have hq : (l.length == l.length) = true := beq_self_eq_true _
  go_enter Try.func67, Try.ntmps67
  go_wp2
  go_loopw [5] (fun u5 wr => ∃ (j : Nat), u5 = .int .i64 j ∧ j ≤ l.length ∧ Below w.heap.size w wr)
    (fun u5 _ => l.length - (intOf u5).toNat)
  case atStart => exact ⟨0, rfl, Nat.zero_le _, by repeat (first | exact Below.refl _ _ | apply pw_below_drewN | apply below_drew)⟩
  case round =>
    obtain ⟨j, rfl, hj, hB⟩ := hrel
    by_cases hlt : j < l.length
    · obtain ⟨ad, rfl, a0, a1⟩ := at_T68 (Kd.C_below HC.out hB) (j : Int) (by omega) (by omega)
      obtain ⟨ad2, rfl, b0, b1⟩ := at_T68 (Kd.C_below HD.out hB) (j : Int) (by omega) (by omega)
      simp only [Int.toNat_natCast] at a0 a1 b0 b1
      go_wp2
      repeat (go_quiet (fail); try go_wp2)
      go_roundw
      case rel => exact ⟨j + 1, by go_num, by omega, by repeat (first | exact hB | apply pw_below_drewN | apply below_drew)⟩
      case measure => simp [intOf]; omega
    · obtain rfl : j = l.length := by omega
      go_wp2
      go_ret
      exact ⟨rfl, by repeat (first | exact hB | apply pw_below_drewN | apply below_drew)⟩

/-- a name's value -/
def valueL (n : ByteArray) : List S68 → ByteArray
  | [] => ⟨#[]⟩
  | x :: l => if x.f0.toList = n.toList then x.f1 else valueL n l
theorem ldrop (l : List S68) (i : Nat) (h : i < l.length) : l.drop i = l.getD i z68 :: l.drop (i + 1) := by
  rw [List.drop_eq_getElem_cons h, List.getD_eq_getElem?_getD, List.getElem?_eq_getElem h, Option.getD_some]
theorem rdT68_nat (l : List S68) (i : Nat) : rd_T68 l (i : Int) = l.getD i z68 := by simp [rd_T68]
theorem value_l0 (l : List S68) (n : ByteArray) (hl : l.length ≤ 4000000000000000000) : ∀ (d i k : Nat), i ≤ l.length → l.length ≤ i + d → d < k → label_Value.l0 k n l (l.length : Int) (i : Int) = some (valueL n (l.drop i))
  | d, i, 0, _, _, h => by omega
  | d, i, k + 1, hi, hd, hk => by
    simp only [label_Value.l0, w64s i (by omega), rdT68_nat]
    by_cases hlt : i < l.length
    · have ih := value_l0 l n hl (d - 1) (i + 1) k (by omega) (by omega) (by omega)
      rw [if_pos (by omega), if_pos (by omega), if_pos (by omega), ldrop l i hlt, valueL, ih]
      split <;> rfl
    · rw [if_neg (by omega), List.drop_of_length_le (by omega), valueL]
theorem label_Value.val (l : List S68) (n : ByteArray) (hl : l.length ≤ 4000000000000000000) (k : Nat) (hk : l.length < k) : label_Value.f k l n = some (valueL n l) := by
  have := value_l0 l n hl l.length 0 k (by omega) (by omega) hk
  simpa [label_Value.f] using this
theorem rvalue_l0 (l : List S68) (n : ByteArray) (hl : l.length ≤ 4000000000000000000) : ∀ (d i k : Nat), i ≤ l.length → l.length ≤ i + d → d < k → varveref11_Value.l0 k l n (i : Int) = some (valueL n (l.drop i))
  | d, i, 0, _, _, h => by omega
  | d, i, k + 1, hi, hd, hk => by
    simp only [varveref11_Value.l0, w64s i (by omega), rdT68_nat]
    by_cases hlt : i < l.length
    · have ih := rvalue_l0 l n hl (d - 1) (i + 1) k (by omega) (by omega) (by omega)
      rw [if_pos (by omega), if_pos (by omega), ldrop l i hlt, valueL, ih]
      split <;> rfl
    · rw [if_neg (by omega), List.drop_of_length_le (by omega), valueL]
theorem varveref11_Value.val (l : List S68) (n : ByteArray) (hl : l.length ≤ 4000000000000000000) (k : Nat) (hk : l.length < k) : varveref11_Value.f k l n = some (valueL n l) := by
  have := rvalue_l0 l n hl l.length 0 k (by omega) (by omega) hk
  simpa [varveref11_Value.f] using this


theorem value65 (w : World) (l : List S68) (n : ByteArray) (A : Option Addr) (c : Nat) (hl : l.length ≤ 4000000000000000000) (hc : l.length ≤ c) (hC : Kd.C k68 w A l.length l) : Calls Try.prog 65 #[.slice A l.length c, .string n] w fun e w' => e = .returned (.string (valueL n l)) ∧ Below w.heap.size w w' :=
  label_Value.calls (l.length + 1) A c l n _ w hC hc (Lb.label_Value.val l n hl _ (Nat.lt_succ_self _))
theorem value66 (w : World) (l : List S68) (n : ByteArray) (A : Option Addr) (c : Nat) (hl : l.length ≤ 4000000000000000000) (hc : l.length ≤ c) (hC : Kd.C k68 w A l.length l) : Calls Try.prog 66 #[.slice A l.length c, .string n] w fun e w' => e = .returned (.string (valueL n l)) ∧ ∃ m, w' = w.drewN m :=
  (varveref11_Value.calls (l.length + 1) A c l n _ w hC hc (Lb.varveref11_Value.val l n hl _ (Nat.lt_succ_self _))).mono fun _ _ ⟨he, n, hn⟩ => ⟨he, n, hn⟩
end Lb
end
section
open Go Go.RowKit Go.Proofs.YteafilojjdfllaaW.PrintWords Go.Proofs.YteafilojjdfllaaW.PrintLast Go.Proofs.YteafilojjdfllaaW.PrintMore Go.Proofs.Yteafilojjdfllaa.PAll
set_option linter.unusedSimpArgs false
set_option linter.unusedVariables false

def eqB (x : S68) : ByteArray := ⟨(x.f0.data.toList ++ [61]).toArray⟩
def labB (x : S68) : ByteArray := ⟨(labL x).toArray⟩
def textB (l : List S68) : ByteArray := ⟨(textS l).toArray⟩
theorem okS_len {x : S68} (h : okS x = true) : x.f0.data.toList.length ≤ 32 ∧ x.f1.size ≤ 64 ∧ (labL x).length ≤ 400 := by
  unfold okS at h
  rw [Bool.and_eq_true, decide_eq_true_iff] at h
  have h1 := h.1
  unfold nameB at h1
  rw [Bool.and_eq_true, decide_eq_true_iff] at h1
  have e0 : x.f0.data.toList.length = x.f0.size := by simp
  have h2 := quoteT_len x.f1
  refine ⟨by omega, h.2.2, ?_⟩
  unfold labL
  rw [List.length_append, List.length_cons]
  omega
theorem textS_len (l : List S68) (h : ∀ x ∈ l, okS x = true) (h8 : l.length ≤ 9) : (textS l).length ≤ 4000 := by
  have h1 := commas_len (l.map labL)
  have h2 : ∀ (l : List S68), (∀ x ∈ l, okS x = true) → ((l.map labL).map (fun x => x.length + 1)).sum ≤ 401 * l.length := by
    intro l
    induction l with
    | nil => intro _; simp
    | cons x l ih =>
      intro h
      have := (okS_len (h x (List.mem_cons_self ..))).2.2
      have := ih (fun y hy => h y (List.mem_cons_of_mem _ hy))
      simp only [List.map_cons, List.sum_cons, List.length_cons]
      omega
  have := h2 l h
  unfold textS
  omega
/-- strings.Join at a comma, over a list of the call's own -/
theorem join126R (w : World) (base : Nat) (ok : Nat → Prop) (v : Value) (xs : List ByteArray) (ho : Kd.string.R 9 w base ok v xs) (hn : xs.length ≤ 1000000) (hl : (commas (xs.map (·.data.toList))).length ≤ 140737488355328) :
    Calls Try.prog 126 #[v, .string ⟨#[44]⟩] w fun e w' => e = .returned (.string ⟨(commas (xs.map (·.data.toList))).toArray⟩) ∧ Below w.heap.size w w' := by
  obtain ⟨A, c, rfl, hc, hC⟩ := Kd.R_reads ho
  obtain ⟨inner, hO⟩ := Kd.R_own ho
  cases xs with
  | nil => exact (Try.strings_Join_none A c ⟨#[44]⟩ w).mono fun e w' ⟨he, hw⟩ => ⟨he, by rw [hw]; exact Below.refl _ _⟩
  | cons x xs =>
    rcases hO.2 with ⟨_, h0⟩ | ⟨g, cap, cur, e1, hb, hg, hcap, _⟩
    · simp at h0
    · cases e1
      obtain ⟨ad, ea, hcell⟩ := hC.2.2 (by simp)
      cases ea
      have h := Try.strings_Join g 0 c (x :: xs) ⟨#[44]⟩ w (fun j u hu => by
        obtain ⟨cs, h1, h2, h3⟩ := hcell j u hu
        have h4 : cs = [Value.string u] := h2
        have := h3 0 (Value.string u) (by rw [h4]; rfl)
        rw [show (⟨g, 0, none⟩ : Addr).add (j * Kd.string.sz + 0) = ⟨g, 0 + j, none⟩ by show Addr.add _ (j * 1 + 0) = _; rw [Nat.mul_one, Nat.add_zero, add_plain, Nat.zero_add]] at this
        exact this) (Array.getElem?_eq_some_iff.1 hg).1 (by omega) hc (by rw [show (⟨#[44]⟩ : ByteArray).data.toList = [44] from rfl, commas_join]; exact hl)
      rw [show (⟨#[44]⟩ : ByteArray).data.toList = [44] from rfl, commas_join] at h
      exact h
noncomputable def tabT5 : Bool × List (List Nat × List Nat) := rtab .any (opsOf Try.f79 5)
theorem tabT5_eq : rtab .any (opsOf Try.f79 5) = tabT5 := rfl
set_option maxRecDepth 100000 in
set_option maxHeartbeats 8000000 in
/-- label.Text. -/
theorem text79 (w : World) (l : List S68) (A : Option Addr) (c : Nat) (h8 : l.length ≤ 9) (hok : ∀ x ∈ l, okS x = true) (hC : Kd.C k68 w A l.length l) :
    Calls Try.prog 79 #[.slice A l.length c] w fun e w' => e = .returned (.string (textB l)) ∧ Below w.heap.size w w' := by
  have HC := Lib.hid hC
  have HOK := Lib.hid hok
  clear hC hok
  go_enter Try.func79, Try.ntmps79
  go_wp2
  go_loopw [3, 5, 8] (fun u3 _ u8 wr => ∃ (j : Nat), u8 = .int .i64 j ∧ j ≤ l.length ∧ Kd.string.R 9 wr w.heap.size (fun k => w.heap.size ≤ k) u3 ((l.take j).map labB) ∧ Below w.heap.size w wr)
    (fun _ _ u8 _ => l.length - (intOf u8).toNat)
  case atStart => exact ⟨0, rfl, Nat.zero_le _, by simpa using Kd.R_nil _ _ _ _ _, Below.refl _ _⟩
  case round =>
    obtain ⟨j, rfl, hj, hR, hB⟩ := hrel
    by_cases hlt : j < l.length
    · obtain ⟨ad, rfl, a0, a1⟩ := at_lab (Kd.C_below HC.out hB) j hlt
      have Htk := Lib.hid (takeD l z68 j hlt)
      have Hx := Lib.hid (HOK.out (l.getD j z68) (by rw [List.getD_eq_getElem?_getD, List.getElem?_eq_getElem hlt]; exact List.getElem_mem hlt))
      obtain ⟨x, ex⟩ : ∃ x, l.getD j z68 = x := ⟨_, rfl⟩
      rw [ex] at a0 a1 Htk Hx
      clear ex
      obtain ⟨hl0, hl1, hl2⟩ := okS_len Hx.out
      obtain ⟨V, eV⟩ : ∃ V, V = wr.alloc (.cells #[.string x.f0, .string x.f1] 68) := ⟨_, rfl⟩
      have hBV : Below wr.heap.size wr V := eV ▸ below_alloc (Below.refl _ _) _
      have hX : V.heap[wr.heap.size]? = some (.cells #[.string x.f0, .string x.f1] 68 (0, 0)) := by rw [eV]; exact blk_new wr _
      have HBw := Lib.hid (below_step hB hBV)
      have b0 : V.cell? ⟨wr.heap.size, 0, none⟩ = some (.string x.f0) := blk_cell hX 0
      have b1 : V.cell? ⟨wr.heap.size, 1, none⟩ = some (.string x.f1) := blk_cell hX 1
      have f0 := fun W (hb : Below V.heap.size V W) => pw_cell_below hb b0
      have f1 := fun W (hb : Below V.heap.size V W) => pw_cell_below hb b1
      have hRV := Lib.hid (Kd.R_below hR hBV)
      obtain ⟨Au, cu, rfl⟩ := Kd.R_slice hR
      have hlj : ((l.take j).map labB).length = j := by rw [List.length_map, List.length_take]; omega
      rw [hlj] at hRV ⊢
      have A1 : Op.stringOp .add x.f0 ⟨#[61]⟩ = pure (.string (eqB x)) := add_to (by simp [eqB]) (by have := hl0; simp only [Array.length_toList, ByteArray.size_data] at this; simp [eqB]; omega)
      have A2 : Op.stringOp .add (eqB x) (qB x.f1) = pure (.string (labB x)) := add_to (by simp [eqB, qB, labB, labL]) (by simp [labB]; omega)
      clear b0 b1 hX hR
      go_wp2
      rw [← eV]
      clear eV a0 a1
      have hS0 : Below V.heap.size V V.drew := below_drew (Below.refl _ _)
      refine start_ (n := 11) (S := fun w' => Below V.heap.size V w') (ds := [9]) #[false, false, false, false, false, false, false, false, false, false, false] (by kernel_rfl) rfl rfl hS0 (fun hHeld => ?_)
      clear hS0
      generalize V.drew = W at hHeld ⊢
      refine with_tab (T := tabT5) tabT5_eq (fun HT_ => ?_)
      refine pure_ (i := 0) (N := some 12) (v := ?_) (a' := ?_) #[true, false, false, false, false, false, false, false, false, false, false] rfl rfl (any_of HT_.out (by kernel_rfl)) (fun _ _ _ h => h) (Or.inl ⟨by rfl, ?_⟩) ?_ ?_
      rotate_left
      · intro w'
        go_simp
        with_reducible rfl
      rotate_left
      · simp only [Act.put, List.setIfInBounds_toArray, List.set_cons_zero, List.set_cons_succ, i64_w, i32_w]
        rfl
      refine pure_ (i := 1) (N := some 13) (v := ?_) (a' := ?_) #[true, true, false, false, false, false, false, false, false, false, false] rfl rfl (any_of HT_.out (by kernel_rfl)) (fun _ _ _ h => h) (Or.inl ⟨by rfl, ?_⟩) ?_ ?_
      rotate_left
      · intro w'
        go_simp
        with_reducible rfl
      rotate_left
      · simp only [Act.put, List.setIfInBounds_toArray, List.set_cons_zero, List.set_cons_succ, i64_w, i32_w]
        rfl
      refine take_ (i := 2) (N := some 14) (v := ?_) (a' := ?_) #[true, true, true, false, false, false, false, false, false, false, false] rfl rfl (take_of HT_.out (by kernel_rfl)) (fun _ _ _ h => h) (Or.inl ⟨by rfl, ?_⟩) hHeld ?_ ?_
      rotate_left
      · intro w' hS'
        have q0 := f0 w' hS'
        have q1 := f1 w' hS'
        go_simp
        with_reducible rfl
      rotate_left
      · simp only [Act.put, List.setIfInBounds_toArray, List.set_cons_zero, List.set_cons_succ, i64_w, i32_w]
        rfl
      refine pure_ (i := 3) (N := some 15) (v := ?_) (a' := ?_) #[true, true, true, true, false, false, false, false, false, false, false] rfl rfl (any_of HT_.out (by kernel_rfl)) (fun _ _ _ h => h) (Or.inl ⟨by rfl, ?_⟩) ?_ ?_
      rotate_left
      · intro w'
        go_simp
        with_reducible rfl
      rotate_left
      · simp only [Act.put, List.setIfInBounds_toArray, List.set_cons_zero, List.set_cons_succ, i64_w, i32_w]
        rfl
      refine pure_ (i := 4) (N := some 16) (v := ?_) (a' := ?_) #[true, true, true, true, true, false, false, false, false, false, false] rfl rfl (any_of HT_.out (by kernel_rfl)) (fun _ _ _ h => h) (Or.inl ⟨by rfl, ?_⟩) ?_ ?_
      rotate_left
      · intro w'
        go_simp
        with_reducible rfl
      rotate_left
      · simp only [Act.put, List.setIfInBounds_toArray, List.set_cons_zero, List.set_cons_succ, i64_w, i32_w]
        rfl
      refine take_ (i := 5) (N := some 17) (v := ?_) (a' := ?_) #[true, true, true, true, true, true, false, false, false, false, false] rfl rfl (take_of HT_.out (by kernel_rfl)) (fun _ _ _ h => h) (Or.inl ⟨by rfl, ?_⟩) hHeld ?_ ?_
      rotate_left
      · intro w' hS'
        have q0 := f0 w' hS'
        have q1 := f1 w' hS'
        go_simp
        with_reducible rfl
      rotate_left
      · simp only [Act.put, List.setIfInBounds_toArray, List.set_cons_zero, List.set_cons_succ, i64_w, i32_w]
        rfl
      refine one_ (i := 6) (N := some 18) #[true, true, true, true, true, true, true, false, false, false, false] rfl rfl (one_of HT_.out (by kernel_rfl)) (by decide) (fun K hK => ?_)
      refine goes_ Try.func125 (by kernel_rfl) rfl #[.string x.f1] (by rfl) rfl rfl (by (try simp only [List.map_toArray, List.map_cons, List.map_nil]); first | done | rfl) ?_
      (with_reducible refine (quoted125 _ x.f1 (by omega)).mono ?_)
      rintro e W5 ⟨rfl, hB5⟩
      refine ⟨_, rfl, ?_⟩
      refine hK.out _ _ (below_step hHeld hB5) (fun hHeld => ?_)
      clear hK K
      simp only [Act.put, List.setIfInBounds_toArray, List.set_cons_zero, List.set_cons_succ]
      clear hB5
      rename World => W
      refine pure_ (i := 7) (N := some 19) (v := ?_) (a' := ?_) #[true, true, true, true, true, true, true, true, false, false, false] rfl rfl (any_of HT_.out (by kernel_rfl)) (fun _ _ _ h => h) (Or.inl ⟨by rfl, ?_⟩) ?_ ?_
      rotate_left
      · intro w'
        go_simp
        with_reducible rfl
      rotate_left
      · simp only [Act.put, List.setIfInBounds_toArray, List.set_cons_zero, List.set_cons_succ, i64_w, i32_w]
        rfl
      refine one_ (i := 8) (N := some 20) #[true, true, true, true, true, true, true, true, true, false, false] rfl rfl (one_of HT_.out (by kernel_rfl)) (by decide) (fun K hK => ?_)
      go_simp
      refine hK.out _ _ (below_alloc hHeld _) (fun hHeld2 => ?_)
      clear hK K
      try simp only [Act.put, List.setIfInBounds_toArray, List.set_cons_zero, List.set_cons_succ]
      refine last_ (i := 9) (N := some 21) #[true, true, true, true, true, true, true, true, true, true, false] rfl rfl (one_of HT_.out (by kernel_rfl)) (by decide) (fun K hK => ?_)
      refine Kd.R_append_step Kd.string (w0 := w) (W := W) w.heap.size (by rfl) (.tmp 12) (.tmp 20) 22 9 (.string ByteArray.empty) 16 rfl Try.underlying22 infoSt rfl (by decide) (by decide) (.slice Au j cu) ((l.take j).map labB) (labB x) [.string (labB x)] (fun k => w.heap.size ≤ k) (fun _ => False) rfl rfl rfl (fun k hk => hk.elim) (fun k hk => by have := hHeld.size; have := HBw.out.size; omega) (Kd.R_below hRV.out hHeld) (below_step HBw.out hHeld) (by have := hHeld.size; have := HBw.out.size; omega) (by rw [hlj]; omega) ?_
      intro v1 w2 hR2 hB2 hg2 hat2
      refine hK.out _ _ ?_
      clear hK K
      try simp only [Act.put, List.setIfInBounds_toArray, List.set_cons_zero, List.set_cons_succ]
      refine pure_ (i := 10) (N := some 3) (v := ?_) (a' := ?_) #[true, true, true, true, true, true, true, true, true, true, true] rfl rfl (any_of HT_.out (by kernel_rfl)) (fun _ _ _ h => h) (Or.inl ⟨by rfl, ?_⟩) ?_ ?_
      rotate_left
      · intro w'
        go_simp
        with_reducible rfl
      rotate_left
      · simp only [Act.put, List.setIfInBounds_toArray, List.set_cons_zero, List.set_cons_succ, i64_w, i32_w]
        rfl
      refine done_ (done_of HT_.out (by kernel_rfl)) ?_
      go_wp2
      go_roundw
      case rel => exact ⟨j + 1, by go_num, by omega, by rw [Htk.out, List.map_append]; exact hR2, hB2⟩
      case measure => simp [intOf]; omega
    · obtain rfl : j = l.length := by omega
      rw [List.take_length] at hR
      have e : (l.map labB).map (·.data.toList) = l.map labL := by simp [labB, Function.comp_def]
      have hlen := textS_len l HOK.out h8
      have hj := Lib.hid (join126R wr w.heap.size (fun k => w.heap.size ≤ k) u3 (l.map labB) hR (by simp; omega) (by rw [e]; unfold textS at hlen; omega))
      go_wp2_with fail
      (with_reducible refine hj.out.mono ?_)
      rintro e5 w5 ⟨rfl, hb5⟩
      go_wp2
      go_ret
      exact ⟨rfl, below_step hB hb5⟩
end
section
open Go Go.RowKit Go.Sort Go.Proofs.YteafilojjdfllaaW.PrintWords Go.Proofs.YteafilojjdfllaaW.PrintLast Go.Proofs.YteafilojjdfllaaW.PrintMore Go.Proofs.Yteafilojjdfllaa.PAll
set_option linter.unusedSimpArgs false

def exM : List S68 := [⟨⟨#[98]⟩, ⟨#[50]⟩⟩, ⟨⟨#[97]⟩, ⟨#[49]⟩⟩, ⟨⟨#[99]⟩, ⟨#[]⟩⟩]
def exS : List S68 := [⟨⟨#[97]⟩, ⟨#[49]⟩⟩, ⟨⟨#[98]⟩, ⟨#[50]⟩⟩]
theorem ex_make : makeS exM = some exS := by kernel_rfl
theorem ex_chk : chkS exS = true := by kernel_rfl
theorem ex_ok : ∀ x ∈ exS, okS x = true := by
  intro x hx
  simp only [exS, List.mem_cons, List.not_mem_nil, or_false] at hx
  rcases hx with rfl | rfl <;> kernel_rfl
theorem ex_text : textB exS = ⟨#[97, 61, 34, 49, 34, 44, 98, 61, 34, 50, 34]⟩ := by kernel_rfl
theorem ex_value : label_Value.f 5 exS ⟨#[98]⟩ = some ⟨#[50]⟩ := by kernel_rfl
theorem ex_name : nameB ⟨#[57]⟩ = false := by kernel_rfl
theorem exMake (w : World) (A : Option Addr) (c : Nat) (hC : Kd.C k68 w A 3 exM) : Calls Try.prog 69 #[.slice A 3 c] w fun e w' => (∃ D d, e = .returned (.tuple #[.slice D 2 d, .int .i64 0]) ∧ 2 ≤ d ∧ Kd.C k68 w' D 2 exS) ∧ Below w.heap.size w w' := by
  have h := make69s w exM A c (by decide) (by decide) hC
  rw [ex_make] at h
  exact h
theorem exText (w : World) (A : Option Addr) (c : Nat) (hC : Kd.C k68 w A 2 exS) : Calls Try.prog 79 #[.slice A 2 c] w fun e w' => e = .returned (.string ⟨#[97, 61, 34, 49, 34, 44, 98, 61, 34, 50, 34]⟩) ∧ Below w.heap.size w w' := by
  have h := text79 w exS A c (by decide) ex_ok hC
  rw [ex_text] at h
  exact h
theorem exValue (w : World) (A : Option Addr) (c : Nat) (hc : 2 ≤ c) (hC : Kd.C k68 w A 2 exS) : Calls Try.prog 65 #[.slice A 2 c, .string ⟨#[98]⟩] w fun e w' => e = .returned (.string ⟨#[50]⟩) ∧ Below w.heap.size w w' :=
  label_Value.calls 5 A c exS ⟨#[98]⟩ _ w hC hc ex_value
theorem exCheckL (w : World) (A : Option Addr) (c : Nat) (hC : Kd.C k68 w A 2 exS) : Calls Try.prog 62 #[.slice A 2 c] w fun e w' => e = .returned (.bool true) ∧ Below w.heap.size w w' := by
  have h := check62 w exS A c hC
  rw [ex_chk] at h
  exact h
theorem exName (w : World) : Calls Try.prog 63 #[.string ⟨#[57]⟩] w fun e w' => e = .returned (.bool false) ∧ Below w.heap.size w w' :=
  (name63d w _ false ex_name).mono fun _ _ ⟨he, n, hn⟩ => ⟨he, by rw [hn]; exact pw_below_drewN (Below.refl _ _) n⟩
theorem C_exM (w : World) : Kd.C k68 (w.alloc (.cells #[.string ⟨#[98]⟩, .string ⟨#[50]⟩, .string ⟨#[97]⟩, .string ⟨#[49]⟩, .string ⟨#[99]⟩, .string ⟨#[]⟩] 68)) (some ⟨w.heap.size, 0, none⟩) 3 exM := by
  have h := World.ownsRow_lit (base := w.heap.size) (e := 68) (size := 2) w #[.string ⟨#[98]⟩, .string ⟨#[50]⟩, .string ⟨#[97]⟩, .string ⟨#[49]⟩, .string ⟨#[99]⟩, .string ⟨#[]⟩] 3 (Nat.le_refl _) (by decide) rfl
  have h2 := C_of_holds (d := exM.toArray) (holds_of_own (l := exM) (cap := 3) h) (by decide)
  exact h2
set_option maxRecDepth 100000 in
set_option maxHeartbeats 4000000 in
/-- varvelaw11.awake. -/
theorem awake68 (w : World) : Calls Try.prog 68 #[] w fun e w' => e = .returned (.bool true) ∧ Below w.heap.size w w' := by
  go_enter Try.func68, Try.ntmps68
  go_wp2_with fail
  (with_reducible refine (exMake _ _ _ (C_exM w)).mono ?_)
  rintro e w1 ⟨⟨D, d, rfl, hd, hC⟩, hb1⟩
  have HB1 := Lib.hid (below_step (below_alloc (Below.refl _ _) _) hb1)
  have HC := Lib.hid hC
  clear hb1 hC
  go_wp2_with fail
  (with_reducible refine (exText _ D d HC.out).mono ?_)
  rintro e w2 ⟨rfl, hb2⟩
  have HB2 := Lib.hid (below_step HB1.out hb2)
  have HC2 := Lib.hid (Kd.C_below HC.out hb2)
  go_wp2_with fail
  (with_reducible refine (exValue _ D d hd HC2.out).mono ?_)
  rintro e w3 ⟨rfl, hb3⟩
  have HB3 := Lib.hid (below_step HB2.out hb3)
  have HC3 := Lib.hid (Kd.C_below HC2.out hb3)
  go_wp2_with fail
  (with_reducible refine (exCheckL _ D d HC3.out).mono ?_)
  rintro e w4 ⟨rfl, hb4⟩
  have HB4 := Lib.hid (below_step HB3.out hb4)
  go_wp2_with fail
  (with_reducible refine (exName _).mono ?_)
  rintro e w5 ⟨rfl, hb5⟩
  go_wp2
  go_ret
  exact ⟨rfl, below_step HB4.out hb5⟩
end
end Go.Proofs.Yteafilojjdfllaa
