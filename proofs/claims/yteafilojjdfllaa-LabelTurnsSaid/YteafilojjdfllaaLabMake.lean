/- Own text: label.Make of few labels. -/
import Derived.Test.YteafilojjdfllaaLabSort
import Derived.Test.YteafilojjdfllaaLabChk
namespace Go.Proofs.Yteafilojjdfllaa
open Go Go.RowKit Go.Sort Go.Proofs.YteafilojjdfllaaW.PrintWords Go.Proofs.YteafilojjdfllaaW.PrintLast Go.Proofs.YteafilojjdfllaaW.PrintMore Go.Proofs.Yteafilojjdfllaa.PAll
set_option linter.unusedSimpArgs false

theorem infoLb : (Try.prog.info? 68).map (fun i => (i.zero, i.size, i.bytes)) = some (some (.agg #[.string ⟨#[]⟩, .string ⟨#[]⟩]), 2, 32) := by kernel_rfl
theorem emp_list : (⟨#[]⟩ : ByteArray).toList = [] := by rw [ByteArray.toList_eq]
theorem ba_nilD {b : ByteArray} (h : b.toList = []) : b = ⟨#[]⟩ := by
  rw [ByteArray.toList_eq] at h
  cases b
  simp only at h
  rw [Array.toList_eq_nil_iff.1 h]
theorem check62z (w : World) : Calls Try.prog 62 #[.slice none 0 0] w fun e w' => e = .returned (.bool false) ∧ Below w.heap.size w w' :=
  check62 w [] none 0 (Kd.C_nil _ _)
theorem full_snoc (l : List S68) (x : S68) : fullS (l ++ [x]) = fullS l ++ (if 1 ≤ x.f1.size then [x] else []) := by
  unfold fullS
  rw [List.filter_append]
  by_cases h : 1 ≤ x.f1.size <;> simp [h]
theorem full_len (l : List S68) : (fullS l).length ≤ l.length := List.length_filter_le _ _
theorem takeSn {α : Type} (xs : List α) (z : α) (j : Nat) (h : j < xs.length) : xs.take (j + 1) = xs.take j ++ [xs.getD j z] := by
  rw [List.take_succ_eq_append_getElem h]; simp [List.getD_eq_getElem?_getD, h]
/-- a sorted array of the same elements is the set, or none is -/
theorem sorted_make (l : List S68) (d' : Array S68) (hP : PermIn 0 (fullS l).toArray.size (fullS l).toArray d') (hS : SortedIn ltN 0 (fullS l).toArray.size d') : d'.toList.Perm (fullS l) ∧ d'.toList.Pairwise leN := by
  obtain ⟨h1, -, h3⟩ := hP
  have hsz : d'.size = (fullS l).length := by rw [h1]; simp
  have e1 : (d'.extract 0 (fullS l).toArray.size) = d' := by
    rw [show (fullS l).toArray.size = d'.size by rw [h1]]; simp
  have e2 : ((fullS l).toArray.extract 0 (fullS l).toArray.size).toList = fullS l := by simp
  rw [e1, e2] at h3
  refine ⟨h3, ?_⟩
  rw [List.pairwise_iff_getElem]
  intro i j hi hj hij
  have hj' : j < d'.size := by simpa using hj
  have hi' : i < d'.size := by simpa using hi
  have := hS i j (Nat.zero_le _) hij (by rw [← h1]; exact hj')
  rw [getElem!_pos d' j hj', getElem!_pos d' i hi'] at this
  simpa [leN] using this
theorem chk_sorted {l x : List S68} (h1 : x.Perm (fullS l)) (h2 : x.Pairwise leN) : makeS l = if chkS x then some x else none := by
  unfold makeS
  by_cases hc : chkS x = true
  · have : sortN (fullS l) = x := by
      have hr := hc
      unfold chkS at hr
      rw [Bool.and_eq_true] at hr
      exact (rise_uniq _ _ (h1.trans (sortN_perm _).symm) ((risesN_pair _).1 hr.2) (sortN_sorted _)).symm
    rw [this]
  · rw [if_neg hc]
    by_cases hd : chkS (sortN (fullS l)) = true
    · exfalso
      have hr := hd
      unfold chkS at hr
      rw [Bool.and_eq_true] at hr
      have : sortN (fullS l) = x := rise_uniq _ _ ((sortN_perm _).trans h1.symm) ((risesN_pair _).1 hr.2) h2
      rw [this] at hd
      exact hc hd
    · rw [if_neg hd]
/-- what Make answers -/
def MakePost (w : World) (o : Option (List S68)) (e : Ending) (w' : World) : Prop :=
  (match o with
    | some x => ∃ A c, e = .returned (.tuple #[.slice A x.length c, .int .i64 0]) ∧ x.length ≤ c ∧ Kd.C k68 w' A x.length x
    | none => e = .returned (.tuple #[.slice none 0 0, .int .i64 5])) ∧ Below w.heap.size w w'
set_option maxRecDepth 100000 in
set_option maxHeartbeats 8000000 in
/-- label.Make, where fewer than twenty labels have a value. -/
theorem make69s (w : World) (l : List S68) (A : Option Addr) (c : Nat) (hl : l.length ≤ 1000) (hf : (fullS l).length < 20) (hC : Kd.C k68 w A l.length l) :
    Calls Try.prog 69 #[.slice A l.length c] w (MakePost w (makeS l)) := by
  have HC := Lib.hid hC
  have HF := Lib.hid hf
  clear hC hf
  obtain ⟨o, ho⟩ : ∃ o, makeS l = o := ⟨_, rfl⟩
  rw [ho]
  have HO := Lib.hid ho
  clear ho
  go_enter Try.func69, Try.ntmps69
  go_wp2
  go_loopw [4, 6, 9] (fun u4 _ u9 wr => ∃ (j : Nat), u9 = .int .i64 j ∧ j ≤ l.length ∧ wr.ownsRow w.heap.size 68 2 u4 (fullS (l.take j)).length ((fullS (l.take j)).flatMap encL) ∧ Below w.heap.size w wr)
    (fun _ _ u9 _ => l.length - (intOf u9).toNat)
  case atStart => exact ⟨0, rfl, Nat.zero_le _, by simpa [fullS] using World.ownsRow_nil w w.heap.size 68 2, Below.refl _ _⟩
  case round =>
    obtain ⟨j, rfl, hj, hO, hB⟩ := hrel
    by_cases hlt : j < l.length
    · obtain ⟨ad, rfl, a0, a1⟩ := at_lab (Kd.C_below HC.out hB) j hlt
      have Htk := Lib.hid (takeSn l z68 j hlt)
      obtain ⟨x, ex⟩ : ∃ x, l.getD j z68 = x := ⟨_, rfl⟩
      rw [ex] at a0 a1 Htk
      clear ex
      obtain ⟨V, eV⟩ : ∃ V, V = wr.alloc (.cells #[.string x.f0, .string x.f1] 68) := ⟨_, rfl⟩
      have hBV : Below wr.heap.size wr V := eV ▸ below_alloc (Below.refl _ _) _
      have hX : V.heap[wr.heap.size]? = some (.cells #[.string x.f0, .string x.f1] 68 (0, 0)) := by rw [eV]; exact blk_new wr _
      have HBw := Lib.hid (below_step hB hBV)
      have b0 : V.cell? ⟨wr.heap.size, 0, none⟩ = some (.string x.f0) := blk_cell hX 0
      have b1 : V.cell? ⟨wr.heap.size, 1, none⟩ = some (.string x.f1) := blk_cell hX 1
      have hOV := Lib.hid (pw_own_below hO hBV)
      have hfl : (fullS (l.take j)).length ≤ 1000 := Nat.le_trans (full_len _) (by simp; omega)
      obtain ⟨Au, cu, rfl⟩ := own_slice hO
      have hwV := HBw.out.size
      clear hO
      by_cases hx : x.f1 = ⟨#[]⟩
      · have hx1 : x.f1.toList.isEmpty = true := by rw [hx, emp_list]; rfl
        have HX := Lib.hid hx
        clear hx
        go_wp2_with fail
        rw [← eV]
        go_roundw
        case rel => exact ⟨j + 1, by go_num, by omega, by rw [Htk.out, full_snoc, if_neg (by rw [HX.out]; decide), List.append_nil]; exact hOV.out, HBw.out⟩
        case measure => simp [intOf]; omega
      · have hx1 : x.f1.toList.isEmpty = false := by
          cases hq : x.f1.toList.isEmpty with
          | false => rfl
          | true => exact absurd (ba_nilD (List.isEmpty_iff.1 hq)) hx
        have HX := Lib.hid (show 1 ≤ x.f1.size from by
          rcases Nat.eq_zero_or_pos x.f1.size with h | h
          · exact absurd (ByteArray.ext (Array.eq_empty_of_size_eq_zero h)) hx
          · exact h)
        clear hx
        have hsV : V.heap.size = wr.heap.size + 1 := by rw [eV]; simp
        rw [eV] at hOV HBw b0 b1
        have hsW : (wr.alloc (.cells #[.string x.f0, .string x.f1] 68)).heap.size = wr.heap.size + 1 := by simp
        have hwr := hB.size
        clear hX hBV hwV hsV eV
        go_wp2_with (at_builtin; refine print_append_cells (w0 := w) (W := wr.alloc (.cells #[.string x.f0, .string x.f1] 68)) w.heap.size rfl (.tmp 16) (.tmp 18) 28 68 (.agg #[.string ⟨#[]⟩, .string ⟨#[]⟩]) 2 32 rfl Try.underlying28 infoLb rfl (by decide) (by decide) (.slice Au (fullS (l.take j)).length cu) (fullS (l.take j)).length ((fullS (l.take j)).flatMap encL) [.string x.f0, .string x.f1] rfl (by rw [hsW]; rfl) rfl (by intro u hu; simp only [List.mem_cons, List.not_mem_nil, or_false] at hu; rcases hu with rfl | rfl <;> rfl) hOV.out HBw.out (by rw [hsW]; omega) (by omega) ?_; intro v2 w2 hown2 hb2 hg2 hat2)
        go_roundw
        case rel =>
          refine ⟨j + 1, by go_num, by omega, ?_, hb2⟩
          rw [Htk.out, full_snoc, if_pos HX.out, List.length_append, List.flatMap_append]
          exact hown2
        case measure => simp [intOf]; omega
    · obtain rfl : j = l.length := by omega
      rw [List.take_length] at hO
      rcases hO.2 with ⟨rfl, h0⟩ | ⟨g, cap, cur, rfl, hg, hblk, hcap, -, -, -⟩
      · have hnil : fullS l = [] := List.length_eq_zero_iff.1 h0
        have hon : o = none := by
          rw [← HO.out]
          unfold makeS
          rw [hnil]; rfl
        subst hon
        clear hO h0
        go_wp2_with fail
        (with_reducible refine (sort111z _).mono ?_)
        rintro e w2 ⟨rfl, rfl⟩
        go_wp2_with fail
        (with_reducible refine (check62z _).mono ?_)
        rintro e w3 ⟨rfl, hb3⟩
        go_wp2
        go_ret2
        exact ⟨rfl, below_step hB hb3⟩
      · have hH := holds_of_own hO
        have hgl : g < wr.heap.size := (Array.getElem?_eq_some_iff.1 hblk).1
        have hsz : (fullS l).toArray.size = (fullS l).length := by simp
        have hfl : (fullS l).length ≤ 1000 := Nat.le_trans (full_len _) hl
        have hs0 := sort111s g 0 cap (fullS l).toArray wr hH hgl (by rw [hsz]; exact HF.out)
        rw [hsz] at hs0
        have hs := Lib.hid hs0
        have HH := Lib.hid hH
        clear hO hblk hH hs0
        go_wp2_with fail
        (with_reducible refine hs.out.mono ?_)
        rintro e w2 ⟨rfl, n, d', os, rfl, hP, hS⟩
        obtain ⟨hp1, hp2⟩ := sorted_make l d' (by rw [hsz]; exact hP) (by rw [hsz]; exact hS)
        have hlen : d'.toList.length = (fullS l).length := hp1.length_eq
        have hlen' : d'.size = (fullS l).length := by rw [← hlen]; simp
        obtain ⟨W2, eW⟩ : ∃ W2, sortWorldK encL 2 wr g 0 n d' os = W2 := ⟨_, rfl⟩
        have HB2 := Lib.hid (show Below w.heap.size w W2 from by
          rw [← eW]; exact hB.trans (below_sorted hg hgl))
        have hH2 : HoldsK encL 2 W2 g 0 d' := by
          rw [← eW]; exact holdsK_sortWorldK encL 2 wr g 0 n _ d' os hgl HH.out (by rw [hlen', hsz])
        have hC2 := C_of_holds hH2 (by omega)
        rw [eW]
        clear eW hH2
        obtain ⟨x, ex⟩ : ∃ x, d'.toList = x := ⟨_, rfl⟩
        rw [ex] at hp1 hp2 hlen hC2
        rw [hlen', ← hlen] at hC2
        have ho : o = if chkS x then some x else none := by rw [← HO.out]; exact chk_sorted hp1 hp2
        rw [← hlen]
        have Hlen := Lib.hid hlen
        clear hP hS hp1 hp2 ex hlen' hsz hlen
        have HC2 := Lib.hid hC2
        clear hC2
        cases hc : chkS x with
        | false =>
          rw [hc] at ho
          have ho' : o = none := ho
          subst ho'
          have h62 := check62 W2 x (some ⟨g, 0, none⟩) cap HC2.out
          rw [hc] at h62
          have H62 := Lib.hid h62
          clear h62 hc ho
          go_wp2_with fail
          (with_reducible refine H62.out.mono ?_)
          rintro e w3 ⟨rfl, hb3⟩
          go_wp2
          go_ret2
          exact ⟨rfl, below_step HB2.out hb3⟩
        | true =>
          rw [hc] at ho
          have ho' : o = some x := ho
          subst ho'
          have h62 := check62 W2 x (some ⟨g, 0, none⟩) cap HC2.out
          rw [hc] at h62
          have H62 := Lib.hid h62
          have hxc : x.length ≤ cap := by rw [Hlen.out]; exact hcap
          clear h62 hc ho
          go_wp2_with fail
          (with_reducible refine H62.out.mono ?_)
          rintro e w3 ⟨rfl, hb3⟩
          go_wp2
          go_ret2
          exact ⟨⟨_, _, rfl, hxc, Kd.C_below HC2.out hb3⟩, below_step HB2.out hb3⟩
end Go.Proofs.Yteafilojjdfllaa
