/- Own text: label.Text, of labels that may be. -/
import Derived.Test.YteafilojjdfllaaQJ
import Derived.Test.YteafilojjdfllaaLabChk
namespace Go.Proofs.Yteafilojjdfllaa
open Go Go.RowKit Go.Proofs.YteafilojjdfllaaW.PrintWords Go.Proofs.YteafilojjdfllaaW.PrintLast Go.Proofs.YteafilojjdfllaaW.PrintMore Go.Proofs.Yteafilojjdfllaa.PAll
set_option linter.unusedSimpArgs false
set_option linter.unusedVariables false

def eqB (x : S68) : ByteArray := ⟨(x.f0.data.toList ++ [61]).toArray⟩
def labB (x : S68) : ByteArray := ⟨(labL x).toArray⟩
def textB (l : List S68) : ByteArray := ⟨(textS l).toArray⟩
theorem okS_len {x : S68} (h : okS x = true) : x.f0.data.toList.length ≤ 32 ∧ x.f1.size ≤ 64 ∧ (labL x).length ≤ 400 := by
  unfold okS at h
  rw [Bool.and_eq_true, decide_eq_true_iff] at h
  have h1 := h.1
  unfold nameB at h1
  rw [Bool.and_eq_true, decide_eq_true_iff] at h1
  have e0 : x.f0.data.toList.length = x.f0.size := by simp
  have h2 := quoteT_len x.f1
  refine ⟨by omega, h.2.2, ?_⟩
  unfold labL
  rw [List.length_append, List.length_cons]
  omega
theorem textS_len (l : List S68) (h : ∀ x ∈ l, okS x = true) (h8 : l.length ≤ 9) : (textS l).length ≤ 4000 := by
  have h1 := commas_len (l.map labL)
  have h2 : ∀ (l : List S68), (∀ x ∈ l, okS x = true) → ((l.map labL).map (fun x => x.length + 1)).sum ≤ 401 * l.length := by
    intro l
    induction l with
    | nil => intro _; simp
    | cons x l ih =>
      intro h
      have := (okS_len (h x (List.mem_cons_self ..))).2.2
      have := ih (fun y hy => h y (List.mem_cons_of_mem _ hy))
      simp only [List.map_cons, List.sum_cons, List.length_cons]
      omega
  have := h2 l h
  unfold textS
  omega
/-- strings.Join at a comma, over a list of the call's own -/
theorem join126R (w : World) (base : Nat) (ok : Nat → Prop) (v : Value) (xs : List ByteArray) (ho : Kd.string.R 9 w base ok v xs) (hn : xs.length ≤ 1000000) (hl : (commas (xs.map (·.data.toList))).length ≤ 140737488355328) :
    Calls Try.prog 126 #[v, .string ⟨#[44]⟩] w fun e w' => e = .returned (.string ⟨(commas (xs.map (·.data.toList))).toArray⟩) ∧ Below w.heap.size w w' := by
  obtain ⟨A, c, rfl, hc, hC⟩ := Kd.R_reads ho
  obtain ⟨inner, hO⟩ := Kd.R_own ho
  cases xs with
  | nil => exact (Try.strings_Join_none A c ⟨#[44]⟩ w).mono fun e w' ⟨he, hw⟩ => ⟨he, by rw [hw]; exact Below.refl _ _⟩
  | cons x xs =>
    rcases hO.2 with ⟨_, h0⟩ | ⟨g, cap, cur, e1, hb, hg, hcap, _⟩
    · simp at h0
    · cases e1
      obtain ⟨ad, ea, hcell⟩ := hC.2.2 (by simp)
      cases ea
      have h := Try.strings_Join g 0 c (x :: xs) ⟨#[44]⟩ w (fun j u hu => by
        obtain ⟨cs, h1, h2, h3⟩ := hcell j u hu
        have h4 : cs = [Value.string u] := h2
        have := h3 0 (Value.string u) (by rw [h4]; rfl)
        rw [show (⟨g, 0, none⟩ : Addr).add (j * Kd.string.sz + 0) = ⟨g, 0 + j, none⟩ by show Addr.add _ (j * 1 + 0) = _; rw [Nat.mul_one, Nat.add_zero, add_plain, Nat.zero_add]] at this
        exact this) (Array.getElem?_eq_some_iff.1 hg).1 (by omega) hc (by rw [show (⟨#[44]⟩ : ByteArray).data.toList = [44] from rfl, commas_join]; exact hl)
      rw [show (⟨#[44]⟩ : ByteArray).data.toList = [44] from rfl, commas_join] at h
      exact h
noncomputable def tabT5 : Bool × List (List Nat × List Nat) := rtab .any (opsOf Try.f79 5)
theorem tabT5_eq : rtab .any (opsOf Try.f79 5) = tabT5 := rfl
set_option maxRecDepth 100000 in
set_option maxHeartbeats 8000000 in
/-- label.Text. -/
theorem text79 (w : World) (l : List S68) (A : Option Addr) (c : Nat) (h8 : l.length ≤ 9) (hok : ∀ x ∈ l, okS x = true) (hC : Kd.C k68 w A l.length l) :
    Calls Try.prog 79 #[.slice A l.length c] w fun e w' => e = .returned (.string (textB l)) ∧ Below w.heap.size w w' := by
  have HC := Lib.hid hC
  have HOK := Lib.hid hok
  clear hC hok
  go_enter Try.func79, Try.ntmps79
  go_wp2
  go_loopw [3, 5, 8] (fun u3 _ u8 wr => ∃ (j : Nat), u8 = .int .i64 j ∧ j ≤ l.length ∧ Kd.string.R 9 wr w.heap.size (fun k => w.heap.size ≤ k) u3 ((l.take j).map labB) ∧ Below w.heap.size w wr)
    (fun _ _ u8 _ => l.length - (intOf u8).toNat)
  case atStart => exact ⟨0, rfl, Nat.zero_le _, by simpa using Kd.R_nil _ _ _ _ _, Below.refl _ _⟩
  case round =>
    obtain ⟨j, rfl, hj, hR, hB⟩ := hrel
    by_cases hlt : j < l.length
    · obtain ⟨ad, rfl, a0, a1⟩ := at_lab (Kd.C_below HC.out hB) j hlt
      have Htk := Lib.hid (takeD l z68 j hlt)
      have Hx := Lib.hid (HOK.out (l.getD j z68) (by rw [List.getD_eq_getElem?_getD, List.getElem?_eq_getElem hlt]; exact List.getElem_mem hlt))
      obtain ⟨x, ex⟩ : ∃ x, l.getD j z68 = x := ⟨_, rfl⟩
      rw [ex] at a0 a1 Htk Hx
      clear ex
      obtain ⟨hl0, hl1, hl2⟩ := okS_len Hx.out
      obtain ⟨V, eV⟩ : ∃ V, V = wr.alloc (.cells #[.string x.f0, .string x.f1] 68) := ⟨_, rfl⟩
      have hBV : Below wr.heap.size wr V := eV ▸ below_alloc (Below.refl _ _) _
      have hX : V.heap[wr.heap.size]? = some (.cells #[.string x.f0, .string x.f1] 68 (0, 0)) := by rw [eV]; exact blk_new wr _
      have HBw := Lib.hid (below_step hB hBV)
      have b0 : V.cell? ⟨wr.heap.size, 0, none⟩ = some (.string x.f0) := blk_cell hX 0
      have b1 : V.cell? ⟨wr.heap.size, 1, none⟩ = some (.string x.f1) := blk_cell hX 1
      have f0 := fun W (hb : Below V.heap.size V W) => pw_cell_below hb b0
      have f1 := fun W (hb : Below V.heap.size V W) => pw_cell_below hb b1
      have hRV := Lib.hid (Kd.R_below hR hBV)
      obtain ⟨Au, cu, rfl⟩ := Kd.R_slice hR
      have hlj : ((l.take j).map labB).length = j := by rw [List.length_map, List.length_take]; omega
      rw [hlj] at hRV ⊢
      have A1 : Op.stringOp .add x.f0 ⟨#[61]⟩ = pure (.string (eqB x)) := add_to (by simp [eqB]) (by have := hl0; simp only [Array.length_toList, ByteArray.size_data] at this; simp [eqB]; omega)
      have A2 : Op.stringOp .add (eqB x) (qB x.f1) = pure (.string (labB x)) := add_to (by simp [eqB, qB, labB, labL]) (by simp [labB]; omega)
      clear b0 b1 hX hR
      go_wp2
      rw [← eV]
      clear eV a0 a1
      have hS0 : Below V.heap.size V V.drew := below_drew (Below.refl _ _)
      refine start_ (n := 11) (S := fun w' => Below V.heap.size V w') (ds := [9]) #[false, false, false, false, false, false, false, false, false, false, false] (by kernel_rfl) rfl rfl hS0 (fun hHeld => ?_)
      clear hS0
      generalize V.drew = W at hHeld ⊢
      refine with_tab (T := tabT5) tabT5_eq (fun HT_ => ?_)
      refine pure_ (i := 0) (N := some 12) (v := ?_) (a' := ?_) #[true, false, false, false, false, false, false, false, false, false, false] rfl rfl (any_of HT_.out (by kernel_rfl)) (fun _ _ _ h => h) (Or.inl ⟨by rfl, ?_⟩) ?_ ?_
      rotate_left
      · intro w'
        go_simp
        with_reducible rfl
      rotate_left
      · simp only [Act.put, List.setIfInBounds_toArray, List.set_cons_zero, List.set_cons_succ, i64_w, i32_w]
        rfl
      refine pure_ (i := 1) (N := some 13) (v := ?_) (a' := ?_) #[true, true, false, false, false, false, false, false, false, false, false] rfl rfl (any_of HT_.out (by kernel_rfl)) (fun _ _ _ h => h) (Or.inl ⟨by rfl, ?_⟩) ?_ ?_
      rotate_left
      · intro w'
        go_simp
        with_reducible rfl
      rotate_left
      · simp only [Act.put, List.setIfInBounds_toArray, List.set_cons_zero, List.set_cons_succ, i64_w, i32_w]
        rfl
      refine take_ (i := 2) (N := some 14) (v := ?_) (a' := ?_) #[true, true, true, false, false, false, false, false, false, false, false] rfl rfl (take_of HT_.out (by kernel_rfl)) (fun _ _ _ h => h) (Or.inl ⟨by rfl, ?_⟩) hHeld ?_ ?_
      rotate_left
      · intro w' hS'
        have q0 := f0 w' hS'
        have q1 := f1 w' hS'
        go_simp
        with_reducible rfl
      rotate_left
      · simp only [Act.put, List.setIfInBounds_toArray, List.set_cons_zero, List.set_cons_succ, i64_w, i32_w]
        rfl
      refine pure_ (i := 3) (N := some 15) (v := ?_) (a' := ?_) #[true, true, true, true, false, false, false, false, false, false, false] rfl rfl (any_of HT_.out (by kernel_rfl)) (fun _ _ _ h => h) (Or.inl ⟨by rfl, ?_⟩) ?_ ?_
      rotate_left
      · intro w'
        go_simp
        with_reducible rfl
      rotate_left
      · simp only [Act.put, List.setIfInBounds_toArray, List.set_cons_zero, List.set_cons_succ, i64_w, i32_w]
        rfl
      refine pure_ (i := 4) (N := some 16) (v := ?_) (a' := ?_) #[true, true, true, true, true, false, false, false, false, false, false] rfl rfl (any_of HT_.out (by kernel_rfl)) (fun _ _ _ h => h) (Or.inl ⟨by rfl, ?_⟩) ?_ ?_
      rotate_left
      · intro w'
        go_simp
        with_reducible rfl
      rotate_left
      · simp only [Act.put, List.setIfInBounds_toArray, List.set_cons_zero, List.set_cons_succ, i64_w, i32_w]
        rfl
      refine take_ (i := 5) (N := some 17) (v := ?_) (a' := ?_) #[true, true, true, true, true, true, false, false, false, false, false] rfl rfl (take_of HT_.out (by kernel_rfl)) (fun _ _ _ h => h) (Or.inl ⟨by rfl, ?_⟩) hHeld ?_ ?_
      rotate_left
      · intro w' hS'
        have q0 := f0 w' hS'
        have q1 := f1 w' hS'
        go_simp
        with_reducible rfl
      rotate_left
      · simp only [Act.put, List.setIfInBounds_toArray, List.set_cons_zero, List.set_cons_succ, i64_w, i32_w]
        rfl
      refine one_ (i := 6) (N := some 18) #[true, true, true, true, true, true, true, false, false, false, false] rfl rfl (one_of HT_.out (by kernel_rfl)) (by decide) (fun K hK => ?_)
      refine goes_ Try.func125 (by kernel_rfl) rfl #[.string x.f1] (by rfl) rfl rfl (by (try simp only [List.map_toArray, List.map_cons, List.map_nil]); first | done | rfl) ?_
      (with_reducible refine (quoted125 _ x.f1 (by omega)).mono ?_)
      rintro e W5 ⟨rfl, hB5⟩
      refine ⟨_, rfl, ?_⟩
      refine hK.out _ _ (below_step hHeld hB5) (fun hHeld => ?_)
      clear hK K
      simp only [Act.put, List.setIfInBounds_toArray, List.set_cons_zero, List.set_cons_succ]
      clear hB5
      rename World => W
      refine pure_ (i := 7) (N := some 19) (v := ?_) (a' := ?_) #[true, true, true, true, true, true, true, true, false, false, false] rfl rfl (any_of HT_.out (by kernel_rfl)) (fun _ _ _ h => h) (Or.inl ⟨by rfl, ?_⟩) ?_ ?_
      rotate_left
      · intro w'
        go_simp
        with_reducible rfl
      rotate_left
      · simp only [Act.put, List.setIfInBounds_toArray, List.set_cons_zero, List.set_cons_succ, i64_w, i32_w]
        rfl
      refine one_ (i := 8) (N := some 20) #[true, true, true, true, true, true, true, true, true, false, false] rfl rfl (one_of HT_.out (by kernel_rfl)) (by decide) (fun K hK => ?_)
      go_simp
      refine hK.out _ _ (below_alloc hHeld _) (fun hHeld2 => ?_)
      clear hK K
      try simp only [Act.put, List.setIfInBounds_toArray, List.set_cons_zero, List.set_cons_succ]
      refine last_ (i := 9) (N := some 21) #[true, true, true, true, true, true, true, true, true, true, false] rfl rfl (one_of HT_.out (by kernel_rfl)) (by decide) (fun K hK => ?_)
      refine Kd.R_append_step Kd.string (w0 := w) (W := W) w.heap.size (by rfl) (.tmp 12) (.tmp 20) 22 9 (.string ByteArray.empty) 16 rfl Try.underlying22 infoSt rfl (by decide) (by decide) (.slice Au j cu) ((l.take j).map labB) (labB x) [.string (labB x)] (fun k => w.heap.size ≤ k) (fun _ => False) rfl rfl rfl (fun k hk => hk.elim) (fun k hk => by have := hHeld.size; have := HBw.out.size; omega) (Kd.R_below hRV.out hHeld) (below_step HBw.out hHeld) (by have := hHeld.size; have := HBw.out.size; omega) (by rw [hlj]; omega) ?_
      intro v1 w2 hR2 hB2 hg2 hat2
      refine hK.out _ _ ?_
      clear hK K
      try simp only [Act.put, List.setIfInBounds_toArray, List.set_cons_zero, List.set_cons_succ]
      refine pure_ (i := 10) (N := some 3) (v := ?_) (a' := ?_) #[true, true, true, true, true, true, true, true, true, true, true] rfl rfl (any_of HT_.out (by kernel_rfl)) (fun _ _ _ h => h) (Or.inl ⟨by rfl, ?_⟩) ?_ ?_
      rotate_left
      · intro w'
        go_simp
        with_reducible rfl
      rotate_left
      · simp only [Act.put, List.setIfInBounds_toArray, List.set_cons_zero, List.set_cons_succ, i64_w, i32_w]
        rfl
      refine done_ (done_of HT_.out (by kernel_rfl)) ?_
      go_wp2
      go_roundw
      case rel => exact ⟨j + 1, by go_num, by omega, by rw [Htk.out, List.map_append]; exact hR2, hB2⟩
      case measure => simp [intOf]; omega
    · obtain rfl : j = l.length := by omega
      rw [List.take_length] at hR
      have e : (l.map labB).map (·.data.toList) = l.map labL := by simp [labB, Function.comp_def]
      have hlen := textS_len l HOK.out h8
      have hj := Lib.hid (join126R wr w.heap.size (fun k => w.heap.size ≤ k) u3 (l.map labB) hR (by simp; omega) (by rw [e]; unfold textS at hlen; omega))
      go_wp2_with fail
      (with_reducible refine hj.out.mono ?_)
      rintro e5 w5 ⟨rfl, hb5⟩
      go_wp2
      go_ret
      exact ⟨rfl, below_step hB hb5⟩
end Go.Proofs.Yteafilojjdfllaa
