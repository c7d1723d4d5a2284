/- Own text: the law LabelTurns, walked. -/
import Derived.Test.YteafilojjdfllaaLawLabelMakes
import Derived.Test.YteafilojjdfllaaLabSame
namespace Go.Proofs.Yteafilojjdfllaa
open Go Go.RowKit Go.Proofs.YteafilojjdfllaaW.PrintWords Go.Proofs.YteafilojjdfllaaW.PrintLast Go.Proofs.YteafilojjdfllaaW.PrintMore Go.Proofs.Yteafilojjdfllaa.PAll
set_option linter.unusedVariables false
set_option linter.unusedSimpArgs false

set_option maxRecDepth 100000 in
set_option maxHeartbeats 8000000 in
/-- Place. -/
theorem place46t (w : World) (a n : Int) (h0 : 0 < n) (h1 : n ≤ 4611686018427387904) :
    Calls Try.prog 46 #[.int .i64 a, .int .i64 n] w fun e w' => ∃ i : Nat, e = .returned (.int .i64 (i : Int)) ∧ (i : Int) < n ∧ Below w.heap.size w w' := by
  have c3b0 : (n == 0) = false := beq_eq_false_iff_ne.mpr (by omega)
  have c3b1 : (n != 0) = true := bne_iff_ne.mpr (by omega)
  have hlt := Int.tmod_lt_of_pos a h0
  have hge : -n < Int.tmod a n := by have := Int.lt_tmod_of_pos a h0; omega
  by_cases c4 : (Int.tmod a n) < 0
  · have hx : wrap64 (Int.tmod a n + n) = Int.tmod a n + n := by unfold wrap64; omega
    obtain ⟨i, hi⟩ : ∃ i : Nat, Int.tmod a n + n = (i : Int) := ⟨(Int.tmod a n + n).toNat, by omega⟩
    go_enter Try.func46, Try.ntmps46
    go_wp2
    go_ret
    exact ⟨i, by simp [*], by omega, by repeat (first | exact Below.refl _ _ | apply below_drew)⟩
  · obtain ⟨i, hi⟩ : ∃ i : Nat, Int.tmod a n = (i : Int) := ⟨(Int.tmod a n).toNat, by omega⟩
    go_enter Try.func46, Try.ntmps46
    go_wp2
    go_ret
    exact ⟨i, by simp [*], by omega, by repeat (first | exact Below.refl _ _ | apply below_drew)⟩
/-- a list in new memory, as a row of the call's own -/
theorem listR (w : World) (A : Option Addr) (c n : Nat) (xs : List S68) (hn : xs.length = n) (hl : xs.length * 32 ≤ 140737488355328) (hc : xs.length ≤ c) (hC : Kd.C k68 w A xs.length xs) :
    Calls Try.prog 56 #[.slice A n c] w fun e w' => ∃ v, e = .returned v ∧ k68.R 68 w' w.heap.size (fun k => w.heap.size ≤ k) v xs ∧ Below w.heap.size w w' := by
  subst hn
  have HC := Lib.hid hC
  clear hC
  go_enter Try.func56, Try.ntmps56
  go_wp2_with (at_builtin; refine Kd.R_append_rows k68 (Rr := Kd.K k68 w) (w0 := w) (W := w) w.heap.size rfl (.const (.slice none 0 0)) (.tmp 3) 28 68 (.agg #[.string ⟨#[]⟩, .string ⟨#[]⟩]) 32 rfl Try.underlying28 infoLb rfl (by decide) (by decide) (.slice none 0 0) [] xs A xs.length c (fun k => w.heap.size ≤ k) (fun k => w.heap.size ≤ k) rfl rfl (Kd.R_nil _ _ _ _ _) HC.out (fun x cs h => by rw [k68_open h]; exact k68_mkM _ _ _ x) (fun k hk => ⟨hk, by simp [Value.ownBlock]⟩) (fun k hk => hk) (Below.refl _ _) (Nat.le_refl _) (by simpa using hl) ?_; intro v1 w1 hown1 hbel1 hg1 hat1; have HR1 := Lib.hid hown1; clear hown1; obtain ⟨Av, cv, rfl, hcv, hCv⟩ := Kd.R_reads HR1.out; clear hCv)
  go_ret
  exact ⟨_, rfl, by simpa using HR1.out, hbel1⟩
noncomputable def tabT17 : Bool × List (List Nat × List Nat) := rtab .any (opsOf Try.f17 4)
theorem tabT17_eq : rtab .any (opsOf Try.f17 4) = tabT17 := rfl
set_option maxRecDepth 100000 in
set_option maxHeartbeats 16000000 in
theorem labelTurns_walk (w : World) (l : List S68) (A : Option Addr) (c : Nat) (turn : Int) (name : ByteArray) (hc : l.length ≤ c) (hC : Kd.C k68 w A l.length l) (hl : l.length * 32 ≤ 140737488351232) (hs : ∀ x ∈ l, x.f0.size ≤ 140737488351232 ∧ x.f1.size ≤ 140737488351232) (hn : name.size ≤ 140737488351232) :
    Calls Try.prog 17 #[.slice A l.length c, .int .i64 turn, .string name] w fun e w' => e = .returned (.bool true) ∧ Below w.heap.size w w' := by
  have HC := Lib.hid hC
  clear hC hs
  by_cases h30 : l.length ≤ 30
  · have d1 : ¬ (30 : Int) < (l.length : Int) := by omega
    obtain ⟨i68, hi68, hs68⟩ := info68m
    go_enter Try.func17, Try.ntmps17
    go_wp2_with fail
    (with_reducible refine (place46t _ turn _ (by omega) (by omega)).mono ?_)
    rintro e w1 ⟨i, rfl, hi, hB1⟩
    have hi' : i ≤ l.length := by omega
    have s1 := cut_from (P := Try.prog) 28 68 .i64 Try.underlying28 hi68 2 hs68 A l.length c (i : Int) (by omega) (by omega)
    have s2 := cut_to (P := Try.prog) 28 68 .i64 Try.underlying28 hi68 A l.length c (i : Int) (by omega) (by omega) hc
    simp only [Int.toNat_natCast] at s1 s2
    have hDr : Kd.C k68 w (if c = i then A else A.map (·.add (i * 2))) (l.drop i).length (l.drop i) := Kd.C_drop HC.out hi' hc
    obtain ⟨B', eB'⟩ : ∃ B', (if c = i then A else A.map (·.add (i * 2))) = B' := ⟨_, rfl⟩
    rw [eB'] at s1 hDr
    clear eB'
    have HDr := Lib.hid (Kd.C_below hDr hB1)
    have hlenD : (l.drop i).length = l.length - i := List.length_drop
    have hlenT : (l.take i).length = i := by rw [List.length_take]; omega
    have hT := Kd.C_below (Kd.C_take HC.out hi') hB1
    rw [hlenT] at hT
    have HT := Lib.hid hT
    clear hDr hT
    have HB1 := Lib.hid hB1
    clear hB1
    go_wp2_with fail
    refine start_ (n := 9) (S := fun _ => True) (ds := []) #[false, false, false, false, false, false, false, false, false] (by kernel_rfl) rfl rfl trivial (fun hHeld => ?_)
    refine with_tab (T := tabT17) tabT17_eq (fun HT_ => ?_)
    refine pure_ (i := 0) (N := some 22) (v := ?_) (a' := ?_) #[true, false, false, false, false, false, false, false, false] rfl rfl (any_of HT_.out (by kernel_rfl)) (fun _ _ _ h => h) (Or.inl ⟨by rfl, ?_⟩) ?_ ?_
    rotate_left
    · intro w'
      go_simp
      with_reducible rfl
    rotate_left
    · simp only [Act.put, List.setIfInBounds_toArray, List.set_cons_zero, List.set_cons_succ, i64_w, i32_w]
      rfl
    refine pure_ (i := 1) (N := some 23) (v := ?_) (a' := ?_) #[true, true, false, false, false, false, false, false, false] rfl rfl (any_of HT_.out (by kernel_rfl)) (fun _ _ _ h => h) (Or.inl ⟨by rfl, ?_⟩) ?_ ?_
    rotate_left
    · intro w'
      go_simp
      with_reducible rfl
    rotate_left
    · simp only [Act.put, List.setIfInBounds_toArray, List.set_cons_zero, List.set_cons_succ, i64_w, i32_w]
      rfl
    refine pure_ (i := 2) (N := some 24) (v := ?_) (a' := ?_) #[true, true, true, false, false, false, false, false, false] rfl rfl (any_of HT_.out (by kernel_rfl)) (fun _ _ _ h => h) (Or.inl ⟨by rfl, ?_⟩) ?_ ?_
    rotate_left
    · intro w'
      go_simp
      with_reducible rfl
    rotate_left
    · simp only [Act.put, List.setIfInBounds_toArray, List.set_cons_zero, List.set_cons_succ, i64_w, i32_w]
      rfl
    refine pure_ (i := 4) (N := some 26) (v := ?_) (a' := ?_) #[true, true, true, false, true, false, false, false, false] rfl rfl (any_of HT_.out (by kernel_rfl)) (fun _ _ _ h => h) (Or.inl ⟨by rfl, ?_⟩) ?_ ?_
    rotate_left
    · intro w'
      go_simp
      with_reducible rfl
    rotate_left
    · simp only [Act.put, List.setIfInBounds_toArray, List.set_cons_zero, List.set_cons_succ, i64_w, i32_w]
      rfl
    refine pure_ (i := 5) (N := some 27) (v := ?_) (a' := ?_) #[true, true, true, false, true, true, false, false, false] rfl rfl (any_of HT_.out (by kernel_rfl)) (fun _ _ _ h => h) (Or.inl ⟨by rfl, ?_⟩) ?_ ?_
    rotate_left
    · intro w'
      go_simp
      with_reducible rfl
    rotate_left
    · simp only [Act.put, List.setIfInBounds_toArray, List.set_cons_zero, List.set_cons_succ, i64_w, i32_w]
      rfl
    refine pure_ (i := 6) (N := some 28) (v := ?_) (a' := ?_) #[true, true, true, false, true, true, true, false, false] rfl rfl (any_of HT_.out (by kernel_rfl)) (fun _ _ _ h => h) (Or.inl ⟨by rfl, ?_⟩) ?_ ?_
    rotate_left
    · intro w'
      go_simp
      with_reducible rfl
    rotate_left
    · simp only [Act.put, List.setIfInBounds_toArray, List.set_cons_zero, List.set_cons_succ, i64_w, i32_w]
      rfl
    refine one_ (i := 3) (N := some 25) #[true, true, true, true, true, true, true, false, false] rfl rfl (one_of HT_.out (by kernel_rfl)) (by decide) (fun K hK => ?_)
    refine goes_ Try.func56 (by kernel_rfl) rfl #[.slice B' (l.length - i : Nat) (c - i : Nat)] (by rfl) rfl rfl (by (try simp only [List.map_toArray, List.map_cons, List.map_nil]); first | done | rfl) ?_
    (with_reducible refine (listR _ B' (c - i) (l.length - i) (l.drop i) hlenD (by rw [hlenD]; omega) (by rw [hlenD]; omega) (Kd.C_below HDr.out (below_drew (Below.refl _ _)))).mono ?_)
    rintro e w2 ⟨v2, rfl, hR2, hb2⟩
    obtain ⟨A2, c2, rfl, hc2, hC2⟩ := Kd.R_reads hR2
    have HR2 := Lib.hid hR2
    have HB2 := Lib.hid (show Below w1.heap.size w1.drew w2 from hb2)
    clear hR2 hb2 hC2
    refine ⟨_, rfl, ?_⟩
    refine hK.out _ _ trivial (fun _ => ?_)
    clear hK K
    simp only [Act.put, List.setIfInBounds_toArray, List.set_cons_zero, List.set_cons_succ]
    refine one_ (i := 7) (N := some 29) #[true, true, true, true, true, true, true, true, false] rfl rfl (one_of HT_.out (by kernel_rfl)) (by decide) (fun K hK => ?_)
    refine Kd.R_append_rows_step k68 (Rr := Kd.K k68 w2) (w0 := w1.drew) (W := w2) w1.heap.size (by rfl) (.tmp 25) (.tmp 28) 28 68 (.agg #[.string ⟨#[]⟩, .string ⟨#[]⟩]) 32 rfl Try.underlying28 infoLb rfl (by decide) (by decide) (.slice A2 (l.drop i).length c2) (l.drop i) (l.take i) A i c (fun k => w1.heap.size ≤ k) (fun _ => False) rfl rfl HR2.out (Kd.C_below (Kd.C_below HT.out (below_drew (Below.refl _ _))) HB2.out) (fun x cs h => by rw [k68_open h]; exact k68_mkM _ _ _ x) (fun _ hk => hk.elim) (fun k hk => Nat.le_trans HB2.out.size hk) HB2.out HB2.out.size (by rw [hlenD]; omega) ?_
    intro v3 w3 hown3 hb3 hg3 hat3
    have HR3 := Lib.hid hown3
    have HB3 := Lib.hid hb3
    clear hown3 hb3 hg3 hat3
    refine hK.out _ _ trivial (fun _ => ?_)
    clear hK K
    simp only [Act.put, List.setIfInBounds_toArray, List.set_cons_zero, List.set_cons_succ]
    refine pure_ (i := 8) (N := some 8) (v := ?_) (a' := ?_) #[true, true, true, true, true, true, true, true, true] rfl rfl (any_of HT_.out (by kernel_rfl)) (fun _ _ _ h => h) (Or.inl ⟨by rfl, ?_⟩) ?_ ?_
    rotate_left
    · intro w'
      go_simp
      with_reducible rfl
    rotate_left
    · simp only [Act.put, List.setIfInBounds_toArray, List.set_cons_zero, List.set_cons_succ, i64_w, i32_w]
      rfl
    refine done_ (done_of HT_.out (by kernel_rfl)) ?_
    have hlen3 : (l.drop i ++ l.take i).length = l.length := by rw [List.length_append, hlenD, hlenT]; omega
    obtain ⟨L2, hL2⟩ : ∃ L2, l.drop i ++ l.take i ++ [(⟨name, ⟨#[]⟩⟩ : S68)] = L2 := ⟨_, rfl⟩
    have HP := Lib.hid (show makeS L2 = makeS l from by rw [← hL2]; exact makeS_perm _ _ (full_turn l i _))
    have hlen4 : L2.length ≤ 1000 := by rw [← hL2, List.length_append, hlen3, List.length_singleton]; omega
    have HL2 := Lib.hid hL2
    clear hL2
    go_wp2_with (at_builtin; refine Kd.R_append k68 (w0 := w1.drew) w1.heap.size rfl (.tmp 30) (.tmp 33) 28 68 (.agg #[.string ⟨#[]⟩, .string ⟨#[]⟩]) 32 rfl Try.underlying28 infoLb rfl (by decide) (by omega) v3 (l.drop i ++ l.take i) (⟨name, ⟨#[]⟩⟩ : S68) [.string name, .string ⟨#[]⟩] (fun k => w1.heap.size ≤ k) (fun _ => False) rfl (by rfl) (k68_mkM _ _ _ (⟨name, ⟨#[]⟩⟩ : S68)) (fun _ hk => hk.elim) (fun k hk => Nat.le_trans HB3.out.size hk) HR3.out HB3.out HB3.out.size (by rw [hlen3]; omega) ?_; intro v4 w4 hown4 hb4 hg4 hat4; rw [HL2.out] at hown4; have HR4 := Lib.hid hown4; have HB4 := Lib.hid hb4; clear hown4 hb4 hg4 hat4; obtain ⟨A4, c4, rfl, hc4, hC4⟩ := Kd.R_reads HR4.out; have HC4 := Lib.hid hC4; clear hC4; have hBw := below_step (below_drew HB1.out) HB4.out)
    (with_reducible refine (Lb.list56 _ A c l (by omega) hc (Kd.C_below HC.out hBw)).mono ?_)
    rintro e w5 ⟨B, d, rfl, hLF, hb5⟩
    have HD := Lib.hid hLF.now.2
    have hB5 := below_step hBw hb5
    have HC5 := Lib.hid (Kd.C_below HC4.out hb5)
    clear hLF
    cases hm : makeS l with
    | none =>
      have HM := Lib.hid hm
      have HM2 := Lib.hid (HP.out.trans hm)
      clear hm
      go_wp2_with fail
      (with_reducible refine (make69n _ l B d (by omega) HM.out HD.out).mono ?_)
      rintro e w6 ⟨rfl, hb6⟩
      have hB6 := below_step hB5 hb6
      go_wp2_with fail
      (with_reducible refine (make69n _ L2 A4 c4 hlen4 HM2.out (Kd.C_below HC5.out hb6)).mono ?_)
      rintro e w7 ⟨rfl, hb7⟩
      have hB7 := below_step hB6 hb7
      have hnn := Lib.hid (show Calls Try.prog 67 #[.slice none 0 0, .slice none 0 0] w7 fun e w' => e = .returned (.bool true) ∧ Below w7.heap.size w7 w' from Lb.sameLab67 w7 [] none 0 none 0 (by decide) (Kd.C_nil _ _) (Kd.C_nil _ _))
      go_wp2_with fail
      (with_reducible refine hnn.out.mono ?_)
      rintro e w8 ⟨rfl, hb8⟩
      have hB8 := below_step hB7 hb8
      go_wp2_with fail
      (with_reducible refine (awake68 _).mono ?_)
      rintro e w9 ⟨rfl, hb9⟩
      go_wp2
      go_ret
      exact ⟨rfl, below_step hB8 hb9⟩
    | some x =>
      have HM := Lib.hid hm
      have HM2 := Lib.hid (HP.out.trans hm)
      have HV := Lib.hid (chk_make hm)
      have hx8 : x.length ≤ 9 := by have := (chkS_iff x).1 (chk_make hm); omega
      have hx4 : x.length ≤ 4000000000000000000 := by omega
      clear hm
      go_wp2_with fail
      (with_reducible refine (make69y _ l x B d (by omega) HM.out HD.out).mono ?_)
      rintro e w6 ⟨⟨E, f, rfl, hf, hE⟩, hb6⟩
      have HE := Lib.hid hE
      clear hE
      have hB6 := below_step hB5 hb6
      go_wp2_with fail
      (with_reducible refine (make69y _ L2 x A4 c4 hlen4 HM2.out (Kd.C_below HC5.out hb6)).mono ?_)
      rintro e w7 ⟨⟨G, g, rfl, hg, hG⟩, hb7⟩
      have HG := Lib.hid hG
      clear hG
      have hB7 := below_step hB6 hb7
      have HE7 := Lib.hid (Kd.C_below HE.out hb7)
      go_wp2_with fail
      (with_reducible refine (Lb.sameLab67 _ x E f G g hx4 HE7.out HG.out).mono ?_)
      rintro e w8 ⟨rfl, hb8⟩
      have hB8 := below_step hB7 hb8
      have h62 := check62 w8 x E f (Kd.C_below HE7.out hb8)
      rw [HV.out] at h62
      have H62 := Lib.hid h62
      clear h62
      go_wp2_with fail
      (with_reducible refine H62.out.mono ?_)
      rintro e w9 ⟨rfl, hb9⟩
      have hB9 := below_step hB8 hb9
      go_wp2_with fail
      (with_reducible refine (awake68 _).mono ?_)
      rintro e w10 ⟨rfl, hb10⟩
      go_wp2
      go_ret
      exact ⟨rfl, below_step hB9 hb10⟩
  · have d1 : (30 : Int) < (l.length : Int) := by omega
    go_enter Try.func17, Try.ntmps17
    go_wp2_with fail
    (with_reducible refine (awake68 _).mono ?_)
    rintro e w2 ⟨rfl, hb2⟩
    go_wp2
    go_ret
    exact ⟨rfl, hb2⟩
end Go.Proofs.Yteafilojjdfllaa
