/- Tombs as bytes are what the document says, and are read back; any bytes are read at any place as the document reads them. No condition. -/
import Derived.Test.YteafilojjdfllaaZTombBytesE
set_option linter.unusedVariables false
set_option linter.unusedSimpArgs false
set_option maxRecDepth 100000
set_option maxHeartbeats 200000000
section
namespace Go.Proofs.Yteafilojjdfllaa
open Go Go.RowKit Go.Proofs.YteafilojjdfllaaW.PrintWords Go.Proofs.YteafilojjdfllaaW.PrintLast Go.Proofs.YteafilojjdfllaaW.PrintMore Go.Proofs.Yteafilojjdfllaa.PAll
section
theorem zDy {s : ByteArray} (h : s.size ≤ 64) : (encT s.data.toList).length ≤ 74 := by
 have h1 : s.data.toList.length = s.size := by simp
 have h2 := zBc (v := s.size) (by omega)
 unfold encT
 rw [List.length_append, h1]
 omega
section
variable {ops : Array Oper} {o : Oper} {a : Act} {Kc : Act → World → Prop} {Q : Exit → Act → World → Prop}
theorem zEb {w0 W : World} (base : Nat) (hw : Region.wanted o (yielded ops a.tmps) = true) (s x : Operand)
  (ho : o.op = .call { callee := .builtin .append, args := #[s, x], argTypes := #[85, 85] })
  (v : Value) (xs ys : List UInt8) (A : Option Addr) (m c : Nat) (hs : a.eval s = v) (hx : a.eval x = .slice A m c)
  (HO : (Kd.int .u8).R 5 W base (fun _ => True) v (bys xs)) (hm : ys.length = m) (HC : (Kd.int .u8).C W A ys.length (bys ys)) (HB : Below base w0 W) (hbase : base ≤ W.heap.size) (hl : xs.length + m ≤ 140737488355328)
  (h : ∀ v1 w1, (Kd.int .u8).R 5 w1 base (fun _ => True) v1 (bys (xs ++ ys)) → Below base w0 w1 → Kc (a.put o.dst v1) w1) :
  if Region.wanted o (yielded ops a.tmps) = true then Oper.wp Try.prog o a W Kc Q else Kc (a.put o.dst undef) W := by
 subst hm
 refine Kd.R_append_rows_step (Kd.int .u8) (Rr := Kd.K (Kd.int .u8) W) (w0 := w0) (W := W) base hw s x 85 5 (.int .u8 0) 1 ho Try.underlying85 zDe rfl (by decide) (by decide) v (bys xs) (bys ys) A ys.length c (fun _ => True) (fun _ => False) hs hx HO HC (fun x cs h => h) (fun _ hk => hk.elim) (fun _ _ => trivial) HB hbase (by rw [zBm]; omega) ?_
 intro v1 w1 h1 h2 _ _
 exact h v1 w1 (by rw [zDq]; exact h1) h2
end
theorem BPo.of {w w1 : World} {base : Nat} {v : Value} {xs : List UInt8} (h : (Kd.int .u8).R 5 w1 base (fun _ => True) v (bys xs)) (hb : Below w.heap.size w w1) : BPo w xs (.returned v) w1 := by
 obtain ⟨A, c, rfl, hc, -⟩ := Kd.R_reads h
 rw [zBm] at h hc ⊢
 exact ⟨A, _, c, rfl, zH rfl, hc, zH (R_C h), hb⟩
theorem zDj {W : World} {base : Nat} {v : Value} {xs : List UInt8} (h : (Kd.int .u8).R 5 W base (fun _ => True) v (bys xs)) : ∃ A n c, v = .slice A n c ∧ n ≤ c := by
 obtain ⟨A, c, rfl, hc, -⟩ := Kd.R_reads h
 exact ⟨A, _, c, rfl, hc⟩
noncomputable def zIh : Bool × List (List Nat × List Nat) := rtab .any (zFs Try.f89 6)
theorem zGm : rtab .any (zFs Try.f89 6) = zIh := rfl
noncomputable def tabR89_8 : Bool × List (List Nat × List Nat) := rtab .any (zFs Try.f89 8)
theorem tabR89_8_eq : rtab .any (zFs Try.f89 8) = tabR89_8 := rfl
theorem rput89 : ∀ (N : Nat) (m : S25), zAv m ≤ N → okM m = true → zAv m ≤ 64 → (encM m).length ≤ 1000000 → ∀ (A3 : Option Addr) (c3 : Nat) (A4 : Option Addr) (c4 : Nat) (w : World), MC w m A3 c3 A4 c4 →
  Calls Try.prog 89 #[.agg #[.int .i64 m.f0, .string m.f1, .string m.f2, .slice A3 m.f3.length c3, .slice A4 m.f4.length c4]] w (BPo w (encM m)) := by
 intro N
 induction N with
 | zero => intro m h; rw [zAz] at h; omega
 | succ N ih =>
 intro m hN hok h64 hlen
 have IH := zH ih
 clear ih
 intro A3 c3 A4 c4 w hM
 rcases shape hok with rfl | ⟨op, nm, v, ho, hnb, rfl⟩ | ⟨nm, vs, hnb, rfl⟩ | ⟨op, ks, ho, hk, rfl⟩
 all_goals simp only at hM ⊢
 ·have hX : BoxM (w.alloc (.cells #[.int .i64 0, .string ⟨#[]⟩, .string ⟨#[]⟩, .slice A3 0 c3, .slice A4 0 c4] 25)) w.heap.size 0 ⟨#[]⟩ ⟨#[]⟩ (.slice A3 0 c3) (.slice A4 0 c4) := zAs w _
  have hBV := zAc (Below.refl w.heap.size w) (.cells #[.int .i64 0, .string ⟨#[]⟩, .string ⟨#[]⟩, .slice A3 0 c3, .slice A4 0 c4] 25)
  obtain ⟨V, eV⟩ : ∃ V, V = (w.alloc (.cells #[.int .i64 0, .string ⟨#[]⟩, .string ⟨#[]⟩, .slice A3 0 c3, .slice A4 0 c4] 25)) := ⟨_, rfl⟩
  rw [← eV] at hX hBV
  have h1 : Calls Try.prog 118 #[.int .u64 0] V (PutPost V (encV 0)) := zDg V 0 (by decide)
  have H1 := zH h1
  have HX := zH hX
  have HBV := zH hBV
  have HM := zH hM
  have hc0 := hX.c0
  have hv10 := zBc (v := 0) (by decide)
  have hE := encM_0
  have hlt : (encM ⟨0, ⟨#[]⟩, ⟨#[]⟩, [], []⟩).length ≤ 1000000 := hlen
  rw [hE] at hlt
  simp only [List.length_append] at hlt
  have HE := zH hE
  clear hM hX hBV hE h1
  go_enter Try.func89, Try.ntmps89
  go_wp2_with fail
  rw [← eV]
  (with_reducible refine H1.out.mono ?_)
  rintro e w1 ⟨A1, n1, c1, rfl, HN1, hc1, HR1, hb1⟩
  have HX1 := zH (HX.out.below hb1)
  have HB1 := zH hb1
  have hc0 := HX1.out.c0
  obtain ⟨X0, eX0⟩ : ∃ X, encV 0 = X := ⟨_, rfl⟩
  rw [eX0] at HN1 HR1
  have hn1 : X0.length = n1 := HN1.out
  have hX010 : X0.length ≤ 10 := by rw [← eX0]; exact hv10
  have HX0 := zH eX0
  clear hb1 eV eX0 H1
  have HXf := zH (show X0 = encM ⟨0, ⟨#[]⟩, ⟨#[]⟩, [], []⟩ from by rw [← HX0.out, HE.out]; simp [zBg])
  rw [HXf.out] at HR1
  have HBf := zH (zAe HBV.out HB1.out)
  go_wp2
  go_ret
  exact BPo.of HR1.out HBf.out
 ·rcases ho with rfl | rfl | rfl
  ·have hX : BoxM (w.alloc (.cells #[.int .i64 1, .string nm, .string v, .slice A3 0 c3, .slice A4 0 c4] 25)) w.heap.size 1 nm v (.slice A3 0 c3) (.slice A4 0 c4) := zAs w _
   have hBV := zAc (Below.refl w.heap.size w) (.cells #[.int .i64 1, .string nm, .string v, .slice A3 0 c3, .slice A4 0 c4] 25)
   obtain ⟨V, eV⟩ : ∃ V, V = (w.alloc (.cells #[.int .i64 1, .string nm, .string v, .slice A3 0 c3, .slice A4 0 c4] 25)) := ⟨_, rfl⟩
   rw [← eV] at hX hBV
   have h1 : Calls Try.prog 118 #[.int .u64 1] V (PutPost V (encV 1)) := zDg V 1 (by decide)
   have H1 := zH h1
   have HX := zH hX
   have HBV := zH hBV
   have HM := zH hM
   have hc0 := hX.c0
   have hv10 := zBc (v := 1) (by decide)
   have hE := encM_1 nm v
   have hlt : (encM ⟨1, nm, v, [], []⟩).length ≤ 1000000 := hlen
   rw [hE] at hlt
   simp only [List.length_append] at hlt
   have HE := zH hE
   have hz := (zCc hok).1 (by simp)
   have hz1 : nm.size ≤ 32 := by have := hz.1; simpa using this
   have hz2 : v.size ≤ 64 := by have := hz.2; simpa using this
   have ht1 := zDy (s := nm) (by omega)
   have ht2 := zDy (s := v) (by omega)
   clear hz
   clear hM hX hBV hE h1
   go_enter Try.func89, Try.ntmps89
   go_wp2_with fail
   rw [← eV]
   (with_reducible refine H1.out.mono ?_)
   rintro e w1 ⟨A1, n1, c1, rfl, HN1, hc1, HR1, hb1⟩
   have HX1 := zH (HX.out.below hb1)
   have HB1 := zH hb1
   have hc0 := HX1.out.c0
   obtain ⟨X0, eX0⟩ : ∃ X, encV 1 = X := ⟨_, rfl⟩
   rw [eX0] at HN1 HR1
   have hn1 : X0.length = n1 := HN1.out
   have hX010 : X0.length ≤ 10 := by rw [← eX0]; exact hv10
   have HX0 := zH eX0
   clear hb1 eV eX0 H1
   go_wp2_with fail
   refine zCe (n := 10) (S := fun W => Below V.heap.size V W) (ds := []) (msk 10 [0, 1, 5, 2, 6, 3, 4, 7, 8, 9] 0).toArray (by kernel_rfl) rfl rfl (zAr HB1.out) (fun hHeld => ?_)
   refine zBh (T := zIh) zGm (fun HT_ => ?_)
   iterate 5 (first | (refine zBi HT_.out (N := some _) (v := ?_) (a' := ?_) rfl rfl (by kernel_rfl) (fun _ _ _ h => h) (Or.inl ⟨by rfl, ?_⟩) ?_ ?_; rotate_left; intro w'; go_simp; (with_reducible rfl); rotate_left; simp only [Act.put, zI, zZ, zS, zAx, zAy]; rfl) | (refine zCd HT_.out (N := some _) (v := ?_) (a' := ?_) rfl rfl (by kernel_rfl) (fun _ _ _ h => h) (Or.inl ⟨by rfl, ?_⟩) hHeld ?_ ?_; rotate_left; intro w' hh; have q1 := (HX.out.below hh).c1; have q2 := (HX.out.below hh).c2; go_simp; (with_reducible rfl); rotate_left; simp only [Act.put, zI, zZ, zS, zAx, zAy]; rfl))
   refine oneO (i := 3) (N := some 20) HT_.out rfl rfl (by kernel_rfl) (by decide) (fun K_ hK_ => ?_)
   refine zDn Try.func129 (by kernel_rfl) rfl #[.string nm] (by rfl) rfl rfl (by (try simp only [List.map_toArray, List.map_cons, List.map_nil]); first | done | rfl) ?_
   (with_reducible refine (zEq _ nm (by omega)).mono ?_)
   rintro e w5 ⟨A5, n5, c5, rfl, HN5, hc5, HR5, hb5⟩
   have HS5 := zH (Kd.R_below HR1.out (zAe (zAr (Below.refl w1.heap.size w1)) hb5))
   refine ⟨_, rfl, ?_⟩
   refine hK_.out _ _ (zAe hHeld hb5) (fun hHeld => ?_)
   clear hK_ K_
   try simp only [Act.put, zI, zZ, zS]
   refine oneO (i := 4) (N := some 21) HT_.out rfl rfl (by kernel_rfl) (by decide) (fun K_ hK_ => ?_)
   refine zEb (w0 := V) (W := w5) V.heap.size (by rfl) (.tmp 17) (.tmp 20) rfl (.slice A1 n1 c1) X0 (encT nm.data.toList) A5 n5 c5 (by rfl) (by rfl) HS5.out HN5.out (R_C HR5.out) hHeld (zAi hHeld) (by have a := HN5.out; (try simp only [List.length_append]); omega) ?_
   intro v6 w6 hown6 hb6
   have HR6 := zH hown6
   refine hK_.out _ _ hb6 (fun hHeld => ?_)
   clear hK_ K_ hown6 hb6
   try simp only [Act.put, zI, zZ, zS]
   refine oneO (i := 7) (N := some 24) HT_.out rfl rfl (by kernel_rfl) (by decide) (fun K_ hK_ => ?_)
   refine zDn Try.func129 (by kernel_rfl) rfl #[.string v] (by rfl) rfl rfl (by (try simp only [List.map_toArray, List.map_cons, List.map_nil]); first | done | rfl) ?_
   (with_reducible refine (zEq _ v (by omega)).mono ?_)
   rintro e w7 ⟨A7, n7, c7, rfl, HN7, hc7, HR7, hb7⟩
   have HS7 := zH (Kd.R_below HR6.out hb7)
   refine ⟨_, rfl, ?_⟩
   refine hK_.out _ _ (zAe hHeld hb7) (fun hHeld => ?_)
   clear hK_ K_
   try simp only [Act.put, zI, zZ, zS]
   refine oneO (i := 8) (N := some 25) HT_.out rfl rfl (by kernel_rfl) (by decide) (fun K_ hK_ => ?_)
   refine zEb (w0 := V) (W := w7) V.heap.size (by rfl) (.tmp 21) (.tmp 24) rfl v6 (X0 ++ encT nm.data.toList) (encT v.data.toList) A7 n7 c7 (by rfl) (by rfl) HS7.out HN7.out (R_C HR7.out) hHeld (zAi hHeld) (by have a := HN7.out; (try simp only [List.length_append]); omega) ?_
   intro v8 w8 hown8 hb8
   have HR8 := zH hown8
   refine hK_.out _ _ hb8 (fun hHeld => ?_)
   clear hK_ K_ hown8 hb8
   try simp only [Act.put, zI, zZ, zS]
   (refine zBi HT_.out (N := some _) (v := ?_) (a' := ?_) rfl rfl (by kernel_rfl) (fun _ _ _ h => h) (Or.inl ⟨by rfl, ?_⟩) ?_ ?_; rotate_left; intro w'; go_simp; (with_reducible rfl); rotate_left; simp only [Act.put, zI, zZ, zS, zAx, zAy]; rfl)
   refine zEg (zBz HT_.out (by kernel_rfl)) ?_
   have HXf := zH (show (X0 ++ encT nm.data.toList) ++ encT v.data.toList = encM ⟨1, nm, v, [], []⟩ from by rw [← HX0.out, HE.out]; simp)
   rw [HXf.out] at HR8
   have HBf := zH (zAe HBV.out hHeld)
   clear hHeld
   go_wp2
   go_ret
   exact BPo.of HR8.out HBf.out
  ·have hX : BoxM (w.alloc (.cells #[.int .i64 2, .string nm, .string v, .slice A3 0 c3, .slice A4 0 c4] 25)) w.heap.size 2 nm v (.slice A3 0 c3) (.slice A4 0 c4) := zAs w _
   have hBV := zAc (Below.refl w.heap.size w) (.cells #[.int .i64 2, .string nm, .string v, .slice A3 0 c3, .slice A4 0 c4] 25)
   obtain ⟨V, eV⟩ : ∃ V, V = (w.alloc (.cells #[.int .i64 2, .string nm, .string v, .slice A3 0 c3, .slice A4 0 c4] 25)) := ⟨_, rfl⟩
   rw [← eV] at hX hBV
   have h1 : Calls Try.prog 118 #[.int .u64 2] V (PutPost V (encV 2)) := zDg V 2 (by decide)
   have H1 := zH h1
   have HX := zH hX
   have HBV := zH hBV
   have HM := zH hM
   have hc0 := hX.c0
   have hv10 := zBc (v := 2) (by decide)
   have hE := encM_2 nm v
   have hlt : (encM ⟨2, nm, v, [], []⟩).length ≤ 1000000 := hlen
   rw [hE] at hlt
   simp only [List.length_append] at hlt
   have HE := zH hE
   have hz := (zCc hok).1 (by simp)
   have hz1 : nm.size ≤ 32 := by have := hz.1; simpa using this
   have hz2 : v.size ≤ 64 := by have := hz.2; simpa using this
   have ht1 := zDy (s := nm) (by omega)
   have ht2 := zDy (s := v) (by omega)
   clear hz
   clear hM hX hBV hE h1
   go_enter Try.func89, Try.ntmps89
   go_wp2_with fail
   rw [← eV]
   (with_reducible refine H1.out.mono ?_)
   rintro e w1 ⟨A1, n1, c1, rfl, HN1, hc1, HR1, hb1⟩
   have HX1 := zH (HX.out.below hb1)
   have HB1 := zH hb1
   have hc0 := HX1.out.c0
   obtain ⟨X0, eX0⟩ : ∃ X, encV 2 = X := ⟨_, rfl⟩
   rw [eX0] at HN1 HR1
   have hn1 : X0.length = n1 := HN1.out
   have hX010 : X0.length ≤ 10 := by rw [← eX0]; exact hv10
   have HX0 := zH eX0
   clear hb1 eV eX0 H1
   go_wp2_with fail
   refine zCe (n := 10) (S := fun W => Below V.heap.size V W) (ds := []) (msk 10 [0, 1, 5, 2, 6, 3, 4, 7, 8, 9] 0).toArray (by kernel_rfl) rfl rfl (zAr HB1.out) (fun hHeld => ?_)
   refine zBh (T := zIh) zGm (fun HT_ => ?_)
   iterate 5 (first | (refine zBi HT_.out (N := some _) (v := ?_) (a' := ?_) rfl rfl (by kernel_rfl) (fun _ _ _ h => h) (Or.inl ⟨by rfl, ?_⟩) ?_ ?_; rotate_left; intro w'; go_simp; (with_reducible rfl); rotate_left; simp only [Act.put, zI, zZ, zS, zAx, zAy]; rfl) | (refine zCd HT_.out (N := some _) (v := ?_) (a' := ?_) rfl rfl (by kernel_rfl) (fun _ _ _ h => h) (Or.inl ⟨by rfl, ?_⟩) hHeld ?_ ?_; rotate_left; intro w' hh; have q1 := (HX.out.below hh).c1; have q2 := (HX.out.below hh).c2; go_simp; (with_reducible rfl); rotate_left; simp only [Act.put, zI, zZ, zS, zAx, zAy]; rfl))
   refine oneO (i := 3) (N := some 20) HT_.out rfl rfl (by kernel_rfl) (by decide) (fun K_ hK_ => ?_)
   refine zDn Try.func129 (by kernel_rfl) rfl #[.string nm] (by rfl) rfl rfl (by (try simp only [List.map_toArray, List.map_cons, List.map_nil]); first | done | rfl) ?_
   (with_reducible refine (zEq _ nm (by omega)).mono ?_)
   rintro e w5 ⟨A5, n5, c5, rfl, HN5, hc5, HR5, hb5⟩
   have HS5 := zH (Kd.R_below HR1.out (zAe (zAr (Below.refl w1.heap.size w1)) hb5))
   refine ⟨_, rfl, ?_⟩
   refine hK_.out _ _ (zAe hHeld hb5) (fun hHeld => ?_)
   clear hK_ K_
   try simp only [Act.put, zI, zZ, zS]
   refine oneO (i := 4) (N := some 21) HT_.out rfl rfl (by kernel_rfl) (by decide) (fun K_ hK_ => ?_)
   refine zEb (w0 := V) (W := w5) V.heap.size (by rfl) (.tmp 17) (.tmp 20) rfl (.slice A1 n1 c1) X0 (encT nm.data.toList) A5 n5 c5 (by rfl) (by rfl) HS5.out HN5.out (R_C HR5.out) hHeld (zAi hHeld) (by have a := HN5.out; (try simp only [List.length_append]); omega) ?_
   intro v6 w6 hown6 hb6
   have HR6 := zH hown6
   refine hK_.out _ _ hb6 (fun hHeld => ?_)
   clear hK_ K_ hown6 hb6
   try simp only [Act.put, zI, zZ, zS]
   refine oneO (i := 7) (N := some 24) HT_.out rfl rfl (by kernel_rfl) (by decide) (fun K_ hK_ => ?_)
   refine zDn Try.func129 (by kernel_rfl) rfl #[.string v] (by rfl) rfl rfl (by (try simp only [List.map_toArray, List.map_cons, List.map_nil]); first | done | rfl) ?_
   (with_reducible refine (zEq _ v (by omega)).mono ?_)
   rintro e w7 ⟨A7, n7, c7, rfl, HN7, hc7, HR7, hb7⟩
   have HS7 := zH (Kd.R_below HR6.out hb7)
   refine ⟨_, rfl, ?_⟩
   refine hK_.out _ _ (zAe hHeld hb7) (fun hHeld => ?_)
   clear hK_ K_
   try simp only [Act.put, zI, zZ, zS]
   refine oneO (i := 8) (N := some 25) HT_.out rfl rfl (by kernel_rfl) (by decide) (fun K_ hK_ => ?_)
   refine zEb (w0 := V) (W := w7) V.heap.size (by rfl) (.tmp 21) (.tmp 24) rfl v6 (X0 ++ encT nm.data.toList) (encT v.data.toList) A7 n7 c7 (by rfl) (by rfl) HS7.out HN7.out (R_C HR7.out) hHeld (zAi hHeld) (by have a := HN7.out; (try simp only [List.length_append]); omega) ?_
   intro v8 w8 hown8 hb8
   have HR8 := zH hown8
   refine hK_.out _ _ hb8 (fun hHeld => ?_)
   clear hK_ K_ hown8 hb8
   try simp only [Act.put, zI, zZ, zS]
   (refine zBi HT_.out (N := some _) (v := ?_) (a' := ?_) rfl rfl (by kernel_rfl) (fun _ _ _ h => h) (Or.inl ⟨by rfl, ?_⟩) ?_ ?_; rotate_left; intro w'; go_simp; (with_reducible rfl); rotate_left; simp only [Act.put, zI, zZ, zS, zAx, zAy]; rfl)
   refine zEg (zBz HT_.out (by kernel_rfl)) ?_
   have HXf := zH (show (X0 ++ encT nm.data.toList) ++ encT v.data.toList = encM ⟨2, nm, v, [], []⟩ from by rw [← HX0.out, HE.out]; simp)
   rw [HXf.out] at HR8
   have HBf := zH (zAe HBV.out hHeld)
   clear hHeld
   go_wp2
   go_ret
   exact BPo.of HR8.out HBf.out
  have hX : BoxM (w.alloc (.cells #[.int .i64 3, .string nm, .string v, .slice A3 0 c3, .slice A4 0 c4] 25)) w.heap.size 3 nm v (.slice A3 0 c3) (.slice A4 0 c4) := zAs w _
  have hBV := zAc (Below.refl w.heap.size w) (.cells #[.int .i64 3, .string nm, .string v, .slice A3 0 c3, .slice A4 0 c4] 25)
  obtain ⟨V, eV⟩ : ∃ V, V = (w.alloc (.cells #[.int .i64 3, .string nm, .string v, .slice A3 0 c3, .slice A4 0 c4] 25)) := ⟨_, rfl⟩
  rw [← eV] at hX hBV
  have h1 : Calls Try.prog 118 #[.int .u64 3] V (PutPost V (encV 3)) := zDg V 3 (by decide)
  have H1 := zH h1
  have HX := zH hX
  have HBV := zH hBV
  have HM := zH hM
  have hc0 := hX.c0
  have hv10 := zBc (v := 3) (by decide)
  have hE := encM_3 nm v
  have hlt : (encM ⟨3, nm, v, [], []⟩).length ≤ 1000000 := hlen
  rw [hE] at hlt
  simp only [List.length_append] at hlt
  have HE := zH hE
  have hz := (zCc hok).1 (by simp)
  have hz1 : nm.size ≤ 32 := by have := hz.1; simpa using this
  have hz2 : v.size ≤ 64 := by have := hz.2; simpa using this
  have ht1 := zDy (s := nm) (by omega)
  have ht2 := zDy (s := v) (by omega)
  clear hz
  clear hM hX hBV hE h1
  go_enter Try.func89, Try.ntmps89
  go_wp2_with fail
  rw [← eV]
  (with_reducible refine H1.out.mono ?_)
  rintro e w1 ⟨A1, n1, c1, rfl, HN1, hc1, HR1, hb1⟩
  have HX1 := zH (HX.out.below hb1)
  have HB1 := zH hb1
  have hc0 := HX1.out.c0
  obtain ⟨X0, eX0⟩ : ∃ X, encV 3 = X := ⟨_, rfl⟩
  rw [eX0] at HN1 HR1
  have hn1 : X0.length = n1 := HN1.out
  have hX010 : X0.length ≤ 10 := by rw [← eX0]; exact hv10
  have HX0 := zH eX0
  clear hb1 eV eX0 H1
  go_wp2_with fail
  refine zCe (n := 10) (S := fun W => Below V.heap.size V W) (ds := []) (msk 10 [0, 1, 5, 2, 6, 3, 4, 7, 8, 9] 0).toArray (by kernel_rfl) rfl rfl (zAr HB1.out) (fun hHeld => ?_)
  refine zBh (T := zIh) zGm (fun HT_ => ?_)
  iterate 5 (first | (refine zBi HT_.out (N := some _) (v := ?_) (a' := ?_) rfl rfl (by kernel_rfl) (fun _ _ _ h => h) (Or.inl ⟨by rfl, ?_⟩) ?_ ?_; rotate_left; intro w'; go_simp; (with_reducible rfl); rotate_left; simp only [Act.put, zI, zZ, zS, zAx, zAy]; rfl) | (refine zCd HT_.out (N := some _) (v := ?_) (a' := ?_) rfl rfl (by kernel_rfl) (fun _ _ _ h => h) (Or.inl ⟨by rfl, ?_⟩) hHeld ?_ ?_; rotate_left; intro w' hh; have q1 := (HX.out.below hh).c1; have q2 := (HX.out.below hh).c2; go_simp; (with_reducible rfl); rotate_left; simp only [Act.put, zI, zZ, zS, zAx, zAy]; rfl))
  refine oneO (i := 3) (N := some 20) HT_.out rfl rfl (by kernel_rfl) (by decide) (fun K_ hK_ => ?_)
  refine zDn Try.func129 (by kernel_rfl) rfl #[.string nm] (by rfl) rfl rfl (by (try simp only [List.map_toArray, List.map_cons, List.map_nil]); first | done | rfl) ?_
  (with_reducible refine (zEq _ nm (by omega)).mono ?_)
  rintro e w5 ⟨A5, n5, c5, rfl, HN5, hc5, HR5, hb5⟩
  have HS5 := zH (Kd.R_below HR1.out (zAe (zAr (Below.refl w1.heap.size w1)) hb5))
  refine ⟨_, rfl, ?_⟩
  refine hK_.out _ _ (zAe hHeld hb5) (fun hHeld => ?_)
  clear hK_ K_
  try simp only [Act.put, zI, zZ, zS]
  refine oneO (i := 4) (N := some 21) HT_.out rfl rfl (by kernel_rfl) (by decide) (fun K_ hK_ => ?_)
  refine zEb (w0 := V) (W := w5) V.heap.size (by rfl) (.tmp 17) (.tmp 20) rfl (.slice A1 n1 c1) X0 (encT nm.data.toList) A5 n5 c5 (by rfl) (by rfl) HS5.out HN5.out (R_C HR5.out) hHeld (zAi hHeld) (by have a := HN5.out; (try simp only [List.length_append]); omega) ?_
  intro v6 w6 hown6 hb6
  have HR6 := zH hown6
  refine hK_.out _ _ hb6 (fun hHeld => ?_)
  clear hK_ K_ hown6 hb6
  try simp only [Act.put, zI, zZ, zS]
  refine oneO (i := 7) (N := some 24) HT_.out rfl rfl (by kernel_rfl) (by decide) (fun K_ hK_ => ?_)
  refine zDn Try.func129 (by kernel_rfl) rfl #[.string v] (by rfl) rfl rfl (by (try simp only [List.map_toArray, List.map_cons, List.map_nil]); first | done | rfl) ?_
  (with_reducible refine (zEq _ v (by omega)).mono ?_)
  rintro e w7 ⟨A7, n7, c7, rfl, HN7, hc7, HR7, hb7⟩
  have HS7 := zH (Kd.R_below HR6.out hb7)
  refine ⟨_, rfl, ?_⟩
  refine hK_.out _ _ (zAe hHeld hb7) (fun hHeld => ?_)
  clear hK_ K_
  try simp only [Act.put, zI, zZ, zS]
  refine oneO (i := 8) (N := some 25) HT_.out rfl rfl (by kernel_rfl) (by decide) (fun K_ hK_ => ?_)
  refine zEb (w0 := V) (W := w7) V.heap.size (by rfl) (.tmp 21) (.tmp 24) rfl v6 (X0 ++ encT nm.data.toList) (encT v.data.toList) A7 n7 c7 (by rfl) (by rfl) HS7.out HN7.out (R_C HR7.out) hHeld (zAi hHeld) (by have a := HN7.out; (try simp only [List.length_append]); omega) ?_
  intro v8 w8 hown8 hb8
  have HR8 := zH hown8
  refine hK_.out _ _ hb8 (fun hHeld => ?_)
  clear hK_ K_ hown8 hb8
  try simp only [Act.put, zI, zZ, zS]
  (refine zBi HT_.out (N := some _) (v := ?_) (a' := ?_) rfl rfl (by kernel_rfl) (fun _ _ _ h => h) (Or.inl ⟨by rfl, ?_⟩) ?_ ?_; rotate_left; intro w'; go_simp; (with_reducible rfl); rotate_left; simp only [Act.put, zI, zZ, zS, zAx, zAy]; rfl)
  refine zEg (zBz HT_.out (by kernel_rfl)) ?_
  have HXf := zH (show (X0 ++ encT nm.data.toList) ++ encT v.data.toList = encM ⟨3, nm, v, [], []⟩ from by rw [← HX0.out, HE.out]; simp)
  rw [HXf.out] at HR8
  have HBf := zH (zAe HBV.out hHeld)
  clear hHeld
  go_wp2
  go_ret
  exact BPo.of HR8.out HBf.out
 ·have hX : BoxM (w.alloc (.cells #[.int .i64 4, .string nm, .string ⟨#[]⟩, .slice A3 vs.length c3, .slice A4 0 c4] 25)) w.heap.size 4 nm ⟨#[]⟩ (.slice A3 vs.length c3) (.slice A4 0 c4) := zAs w _
  have hBV := zAc (Below.refl w.heap.size w) (.cells #[.int .i64 4, .string nm, .string ⟨#[]⟩, .slice A3 vs.length c3, .slice A4 0 c4] 25)
  obtain ⟨V, eV⟩ : ∃ V, V = (w.alloc (.cells #[.int .i64 4, .string nm, .string ⟨#[]⟩, .slice A3 vs.length c3, .slice A4 0 c4] 25)) := ⟨_, rfl⟩
  rw [← eV] at hX hBV
  have h1 : Calls Try.prog 118 #[.int .u64 4] V (PutPost V (encV 4)) := zDg V 4 (by decide)
  have H1 := zH h1
  have HX := zH hX
  have HBV := zH hBV
  have HM := zH hM
  have hc0 := hX.c0
  have hv10 := zBc (v := 4) (by decide)
  have hE := encM_4 nm vs
  have hlt : (encM ⟨4, nm, ⟨#[]⟩, vs, []⟩).length ≤ 1000000 := hlen
  rw [hE] at hlt
  simp only [List.length_append] at hlt
  have HE := zH hE
  have hz := (zCc hok).2 rfl
  simp only at hz
  have hz1 : nm.size ≤ 32 := by have := hz.1; simpa using this
  have hvs : vs.length ≤ 16 := hz.2.1
  have HZ := zH hz.2.2
  have ht1 := zDy (s := nm) (by omega)
  have hv11 := zBc (v := vs.length) (by omega)
  have HRv := zH (fun W (h : Below w.heap.size w W) => Kd.reads_of_C (enc := Value.string) (d := ByteArray.empty) (h1 := fun _ => rfl) (Kd.C_below hM.2.1 h))
  clear hz
  clear hM hX hBV hE h1
  go_enter Try.func89, Try.ntmps89
  go_wp2_with fail
  rw [← eV]
  (with_reducible refine H1.out.mono ?_)
  rintro e w1 ⟨A1, n1, c1, rfl, HN1, hc1, HR1, hb1⟩
  have HX1 := zH (HX.out.below hb1)
  have HB1 := zH hb1
  have hc0 := HX1.out.c0
  obtain ⟨X0, eX0⟩ : ∃ X, encV 4 = X := ⟨_, rfl⟩
  rw [eX0] at HN1 HR1
  have hn1 : X0.length = n1 := HN1.out
  have hX010 : X0.length ≤ 10 := by rw [← eX0]; exact hv10
  have HX0 := zH eX0
  clear hb1 eV eX0 H1
  have HP4 : Hid (∀ W, Calls Try.prog 118 #[.int .u64 (IntKind.u64.wrap (vs.length : Int))] W (PutPost W (encV vs.length))) := zH (fun W => by
   rw [show IntKind.u64.wrap (vs.length : Int) = (vs.length : Int) by rw [IntKind.wrap_u64]; omega]
   exact zDg W vs.length (by omega))
  go_wp2_with fail
  refine zCe (n := 12) (S := fun W => Below V.heap.size V W) (ds := []) (msk 12 [0, 1, 5, 2, 6, 7, 8, 3, 4, 9, 10, 11] 0).toArray (by kernel_rfl) rfl rfl (zAr HB1.out) (fun hHeld => ?_)
  refine zBh (T := tabR89_8) tabR89_8_eq (fun HT_ => ?_)
  iterate 7 (first | (refine zBi HT_.out (N := some _) (v := ?_) (a' := ?_) rfl rfl (by kernel_rfl) (fun _ _ _ h => h) (Or.inl ⟨by rfl, ?_⟩) ?_ ?_; rotate_left; intro w'; go_simp; (with_reducible rfl); rotate_left; simp only [Act.put, zI, zZ, zS, zAx, zAy]; rfl) | (refine zCd HT_.out (N := some _) (v := ?_) (a' := ?_) rfl rfl (by kernel_rfl) (fun _ _ _ h => h) (Or.inl ⟨by rfl, ?_⟩) hHeld ?_ ?_; rotate_left; intro w' hh; have q1 := (HX.out.below hh).c1; have q3 := (HX.out.below hh).c3; go_simp; (with_reducible rfl); rotate_left; simp only [Act.put, zI, zZ, zS, zAx, zAy]; rfl))
  refine oneO (i := 3) (N := some 31) HT_.out rfl rfl (by kernel_rfl) (by decide) (fun K_ hK_ => ?_)
  refine zDn Try.func129 (by kernel_rfl) rfl #[.string nm] (by rfl) rfl rfl (by (try simp only [List.map_toArray, List.map_cons, List.map_nil]); first | done | rfl) ?_
  (with_reducible refine (zEq _ nm (by omega)).mono ?_)
  rintro e w5 ⟨A5, n5, c5, rfl, HN5, hc5, HR5, hb5⟩
  have HS5 := zH (Kd.R_below HR1.out (zAe (zAr (Below.refl w1.heap.size w1)) hb5))
  refine ⟨_, rfl, ?_⟩
  refine hK_.out _ _ (zAe hHeld hb5) (fun hHeld => ?_)
  clear hK_ K_
  try simp only [Act.put, zI, zZ, zS]
  refine oneO (i := 4) (N := some 32) HT_.out rfl rfl (by kernel_rfl) (by decide) (fun K_ hK_ => ?_)
  refine zEb (w0 := V) (W := w5) V.heap.size (by rfl) (.tmp 28) (.tmp 31) rfl (.slice A1 n1 c1) X0 (encT nm.data.toList) A5 n5 c5 (by rfl) (by rfl) HS5.out HN5.out (R_C HR5.out) hHeld (zAi hHeld) (by have a := HN5.out; (try simp only [List.length_append]); omega) ?_
  intro v6 w6 hown6 hb6
  have HR6 := zH hown6
  refine hK_.out _ _ hb6 (fun hHeld => ?_)
  clear hK_ K_ hown6 hb6
  try simp only [Act.put, zI, zZ, zS]
  refine oneO (i := 9) (N := some 37) HT_.out rfl rfl (by kernel_rfl) (by decide) (fun K_ hK_ => ?_)
  refine zDn Try.func118 (by kernel_rfl) rfl #[.int .u64 (IntKind.u64.wrap (vs.length : Int))] (by rfl) rfl rfl (by (try simp only [List.map_toArray, List.map_cons, List.map_nil]); first | done | rfl) ?_
  (with_reducible refine (HP4.out _).mono ?_)
  rintro e w7 ⟨A7, n7, c7, rfl, HN7, hc7, HR7, hb7⟩
  have HS7 := zH (Kd.R_below HR6.out hb7)
  refine ⟨_, rfl, ?_⟩
  refine hK_.out _ _ (zAe hHeld hb7) (fun hHeld => ?_)
  clear hK_ K_
  try simp only [Act.put, zI, zZ, zS]
  refine oneO (i := 10) (N := some 38) HT_.out rfl rfl (by kernel_rfl) (by decide) (fun K_ hK_ => ?_)
  refine zEb (w0 := V) (W := w7) V.heap.size (by rfl) (.tmp 32) (.tmp 37) rfl v6 (X0 ++ encT nm.data.toList) (encV vs.length) A7 n7 c7 (by rfl) (by rfl) HS7.out HN7.out (R_C HR7.out) hHeld (zAi hHeld) (by have a := HN7.out; (try simp only [List.length_append]); omega) ?_
  intro v8 w8 hown8 hb8
  have HR8 := zH hown8
  refine hK_.out _ _ hb8 (fun hHeld => ?_)
  clear hK_ K_ hown8 hb8
  try simp only [Act.put, zI, zZ, zS]
  (refine zBi HT_.out (N := some _) (v := ?_) (a' := ?_) rfl rfl (by kernel_rfl) (fun _ _ _ h => h) (Or.inl ⟨by rfl, ?_⟩) ?_ ?_; rotate_left; intro w'; go_simp; (with_reducible rfl); rotate_left; simp only [Act.put, zI, zZ, zS, zAx, zAy]; rfl)
  refine zEg (zBz HT_.out (by kernel_rfl)) ?_
  obtain ⟨X2, eX2⟩ : ∃ X, (X0 ++ encT nm.data.toList) ++ encV vs.length = X := ⟨_, rfl⟩
  rw [eX2] at HR8
  have hX2 : X2.length ≤ 1000 := by rw [← eX2]; simp only [List.length_append]; omega
  have HX2 := zH eX2
  have HB8 := zH hHeld
  clear eX2 hHeld HN5 HN7 hc5 hc7 HR5 HR7 HS5 HS7 HR6
  obtain ⟨A8, n8, c8, rfl, hc8⟩ := zDj HR8.out
  go_wp2
  go_loopw [3, 4] (fun u3 u4 wr => ∃ (j : Nat) (xs : List UInt8), u4 = .int .i64 j ∧ j ≤ vs.length ∧ xs.length ≤ 1000 + 74 * j ∧ Hid (xs = X2 ++ (vs.take j).flatMap (fun x => encT x.data.toList)) ∧ Hid ((Kd.int .u8).R 5 wr V.heap.size (fun _ => True) u3 (bys xs)) ∧ Hid (Below V.heap.size V wr)) (fun _ u4 _ => vs.length - (intOf u4).toNat)
  case atStart => exact ⟨0, X2, rfl, Nat.zero_le _, by omega, zH (by simp), HR8, HB8⟩
  case round =>
   clear HB8 HR8
   obtain ⟨j, xs, rfl, hj, hxl, HXx, HRx, HBx⟩ := hrel
   obtain ⟨A9, n9, c9, rfl, hc9⟩ := zDj HRx.out
   have c3 := (HX.out.below HBx.out).c3
   by_cases hlj : j < vs.length
   ·have hltI : (j : Int) < (vs.length : Int) := by omega
    obtain ⟨ad, rfl, kk⟩ := (HRv.out _ (zAe HBV.out HBx.out)).2.2 (by omega)
    have k0 := kk j hlj
    clear kk
    obtain ⟨y, ey⟩ : ∃ y, vs.getD j ByteArray.empty = y := ⟨_, rfl⟩
    rw [ey] at k0
    have hym : y ∈ vs := by rw [← ey, List.getD_eq_getElem?_getD, List.getElem?_eq_getElem hlj]; simp
    have hy := HZ.out y hym
    have hyt := zDy (s := y) (by omega)
    have HT := zH (show (vs.take (j + 1)).flatMap (fun x => encT x.data.toList) = (vs.take j).flatMap (fun x => encT x.data.toList) ++ encT y.data.toList from by
     rw [List.take_succ_eq_append_getElem hlj, List.flatMap_append]
     rw [List.getD_eq_getElem?_getD, List.getElem?_eq_getElem hlj, Option.getD_some] at ey
     rw [ey]; simp)
    clear ey hym
    go_wp2_with (first
     | (go_at_call 129; (with_reducible refine (zEq _ y (by omega)).mono ?_); rintro e w5 ⟨A5, n5, c5, rfl, HN5, hc5, HR5, hb5⟩; have HS5 := zH (Kd.R_below HRx.out hb5); have HB5 := zH (zAe HBx.out hb5); clear hb5)
     | (at_builtin; refine Kd.R_append_row (Value.int .u8) (0 : Int) (h1 := fun _ => rfl) (w0 := V) (W := w5) V.heap.size rfl (.tmp 46) (.tmp 52) 85 5 (.int .u8 0) 1 rfl Try.underlying85 zDe rfl (by decide) (.slice A9 n9 c9) (bys xs) (bys (encT y.data.toList)) A5 n5 c5 (fun _ => True) rfl rfl (fun _ _ => trivial) HS5.out (by have := R_C HR5.out; rwa [HN5.out] at this) HB5.out (zAi HB5.out) (by rw [zBm]; have := HN5.out; omega) ?_; intro v6 w6 hown6 hb6 hg6 hat6; rw [← zDq] at hown6; have HR7 := zH hown6; have HB7 := zH hb6; clear hown6 hb6 hg6 hat6))
    go_roundw
    case rel => exact ⟨j + 1, xs ++ encT y.data.toList, by go_num, by omega, by rw [List.length_append]; omega, zH (by rw [HXx.out, HT.out, List.append_assoc]), HR7, HB7⟩
    case measure => simp [intOf]; omega
   obtain rfl : j = vs.length := by omega
   have HXf := zH (show xs = encM ⟨4, nm, ⟨#[]⟩, vs, []⟩ from by rw [HXx.out, ← HX2.out, ← HX0.out, HE.out, List.take_length]; try simp)
   rw [HXf.out] at HRx
   have HBf := zH (zAe HBV.out HBx.out)
   go_wp2
   go_ret
   exact BPo.of HRx.out HBf.out
 rcases (show op = 5 ∨ op = 6 ∨ op = 7 by omega) with rfl | rfl | rfl
 ·have hX : BoxM (w.alloc (.cells #[.int .i64 5, .string ⟨#[]⟩, .string ⟨#[]⟩, .slice A3 0 c3, .slice A4 ks.length c4] 25)) w.heap.size 5 ⟨#[]⟩ ⟨#[]⟩ (.slice A3 0 c3) (.slice A4 ks.length c4) := zAs w _
  have hBV := zAc (Below.refl w.heap.size w) (.cells #[.int .i64 5, .string ⟨#[]⟩, .string ⟨#[]⟩, .slice A3 0 c3, .slice A4 ks.length c4] 25)
  obtain ⟨V, eV⟩ : ∃ V, V = (w.alloc (.cells #[.int .i64 5, .string ⟨#[]⟩, .string ⟨#[]⟩, .slice A3 0 c3, .slice A4 ks.length c4] 25)) := ⟨_, rfl⟩
  rw [← eV] at hX hBV
  have h1 : Calls Try.prog 118 #[.int .u64 5] V (PutPost V (encV 5)) := zDg V 5 (by decide)
  have H1 := zH h1
  have HX := zH hX
  have HBV := zH hBV
  have HM := zH hM
  have hc0 := hX.c0
  have hv10 := zBc (v := 5) (by decide)
  have hE := encM_5 ks
  have hlt : (encM ⟨5, ⟨#[]⟩, ⟨#[]⟩, [], ks⟩).length ≤ 1000000 := hlen
  rw [hE] at hlt
  simp only [List.length_append] at hlt
  have HE := zH hE
  have hv11 := zBc (v := ks.length) (by have := zDd ks; rw [zAz] at h64; simp only at h64; omega)
  have hk64 : ks.length ≤ 64 := by have := zDd ks; rw [zAz] at h64; simp only at h64; omega
  clear hM hX hBV hE h1
  go_enter Try.func89, Try.ntmps89
  go_wp2_with fail
  rw [← eV]
  (with_reducible refine H1.out.mono ?_)
  rintro e w1 ⟨A1, n1, c1, rfl, HN1, hc1, HR1, hb1⟩
  have HX1 := zH (HX.out.below hb1)
  have HB1 := zH hb1
  have hc0 := HX1.out.c0
  obtain ⟨X0, eX0⟩ : ∃ X, encV 5 = X := ⟨_, rfl⟩
  rw [eX0] at HN1 HR1
  have hn1 : X0.length = n1 := HN1.out
  have hX010 : X0.length ≤ 10 := by rw [← eX0]; exact hv10
  have HX0 := zH eX0
  clear hb1 eV eX0 H1
  have h2 := zDg w1 ks.length (by omega)
  have H2 := zH h2
  have c4 := HX1.out.c4
  clear h2
  go_wp2_with (first
   | (go_at_call 118; (with_reducible refine H2.out.mono ?_); rintro e w5 ⟨A5, n5, c5, rfl, HN5, hc5, HR5, hb5⟩; have HS5 := zH (Kd.R_below HR1.out hb5); have HB5 := zH (zAe HB1.out hb5); clear hb5)
   | (at_builtin; refine Kd.R_append_row (Value.int .u8) (0 : Int) (h1 := fun _ => rfl) (w0 := V) (W := w5) V.heap.size rfl (.tmp 57) (.tmp 62) 85 5 (.int .u8 0) 1 rfl Try.underlying85 zDe rfl (by decide) (.slice A1 n1 c1) (bys X0) (bys (encV ks.length)) A5 n5 c5 (fun _ => True) rfl rfl (fun _ _ => trivial) HS5.out (by have := R_C HR5.out; rwa [HN5.out] at this) HB5.out (zAi HB5.out) (by rw [zBm]; have := HN5.out; omega) ?_; intro v6 w6 hown6 hb6 hg6 hat6; rw [← zDq] at hown6; have HR8 := zH hown6; have HB8 := zH hb6; clear hown6 hb6 hg6 hat6; obtain ⟨A8, n8, c8, rfl, hc8⟩ := zDj HR8.out))
  obtain ⟨X2, eX2⟩ : ∃ X, X0 ++ encV ks.length = X := ⟨_, rfl⟩
  rw [eX2] at HR8
  have hX2 : X2.length ≤ 1000 := by rw [← eX2]; simp only [List.length_append]; omega
  have HX2 := zH (show X2 = encV 5 ++ encV ks.length by rw [← eX2, HX0.out])
  clear eX2
  go_loopw [3, 5] (fun u3 u5 wr => ∃ (j : Nat) (xs : List UInt8), u5 = .int .i64 j ∧ j ≤ ks.length ∧ xs.length ≤ 1000 + (zBg (ks.take j)).length ∧ Hid (xs = X2 ++ zBg (ks.take j)) ∧ Hid ((Kd.int .u8).R 5 wr V.heap.size (fun _ => True) u3 (bys xs)) ∧ Hid (Below V.heap.size V wr)) (fun _ u5 _ => ks.length - (intOf u5).toNat)
  case atStart => exact ⟨0, X2, rfl, Nat.zero_le _, by omega, zH (by simp [zBg]), HR8, HB8⟩
  case round =>
   clear HB8 HR8
   obtain ⟨j, xs, rfl, hj, hxl, HXx, HRx, HBx⟩ := hrel
   obtain ⟨A9, n9, c9, rfl, hc9⟩ := zDj HRx.out
   have c4 := (HX.out.below HBx.out).c4
   by_cases hlj : j < ks.length
   ·have hltI : (j : Int) < (ks.length : Int) := by omega
    obtain ⟨ad, B3, e3, B4, e4, rfl, hMk, k0, k1, k2, k3, k4⟩ := HM.out.kid j hlj
    have hBw := zAe HBV.out HBx.out
    simp only at k0 k1 k2 k3 k4 hMk
    have k0 := zAf hBw k0
    have k1 := zAf hBw k1
    have k2 := zAf hBw k2
    have k3 := zAf hBw k3
    have k4 := zAf hBw k4
    have hmem : ks.getD j z25 ∈ ks := by simp [List.getD_eq_getElem?_getD, hlj]
    have hsmall : zAv (ks.getD j z25) < zAv ⟨5, ⟨#[]⟩, ⟨#[]⟩, [], ks⟩ := zCf ⟨5, ⟨#[]⟩, ⟨#[]⟩, [], ks⟩ _ hmem
    have hokk := zFn hk hmem
    have HT := zH (zDo hlj)
    have hle := zGf hlj
    obtain ⟨kid, ek⟩ : ∃ kid, ks.getD j z25 = kid := ⟨_, rfl⟩
    rw [ek] at hMk k0 k1 k2 k3 k4 hsmall hokk HT hle
    have HMk := zH (hMk.below hBw)
    have HOK := zH hokk
    have hkl : (encM kid).length ≤ 1000000 := by omega
    have HLk := zH (show (zBg (ks.take (j + 1))).length = (zBg (ks.take j)).length + (encM kid).length by rw [HT.out, List.length_append])
    have hall : (zBg (ks.take j)).length ≤ 1000000 := by omega
    clear ek hmem hMk hokk hBw
    go_wp2_with (first
     | (go_at_call 89; (with_reducible refine (IH.out kid (by omega) HOK.out (by omega) hkl B3 e3 B4 e4 _ HMk.out).mono ?_); rintro e w5 ⟨A5, n5, c5, rfl, HN5, hc5, HC5, hb5⟩; have HS5 := zH (Kd.R_below HRx.out hb5); have HB5 := zH (zAe HBx.out hb5); clear hb5)
     | (at_builtin; refine Kd.R_append_row (Value.int .u8) (0 : Int) (h1 := fun _ => rfl) (w0 := V) (W := w5) V.heap.size rfl (.tmp 71) (.tmp 77) 85 5 (.int .u8 0) 1 rfl Try.underlying85 zDe rfl (by decide) (.slice A9 n9 c9) (bys xs) (bys (encM kid)) A5 n5 c5 (fun _ => True) rfl rfl (fun _ _ => trivial) HS5.out (by have := HC5.out; rwa [HN5.out] at this) HB5.out (zAi HB5.out) (by rw [zBm]; have := HN5.out; omega) ?_; intro v6 w6 hown6 hb6 hg6 hat6; rw [← zDq] at hown6; have HR7 := zH hown6; have HB7 := zH hb6; clear hown6 hb6 hg6 hat6))
    go_roundw
    case rel => exact ⟨j + 1, xs ++ encM kid, by go_num, by omega, by rw [List.length_append]; have := HLk.out; omega, zH (by rw [HXx.out, HT.out, List.append_assoc]), HR7, HB7⟩
    case measure => simp [intOf]; omega
   obtain rfl : j = ks.length := by omega
   have HXf := zH (show xs = encM ⟨5, ⟨#[]⟩, ⟨#[]⟩, [], ks⟩ from by rw [HXx.out, HX2.out, HE.out, List.take_length]; try simp)
   rw [HXf.out] at HRx
   have HBf := zH (zAe HBV.out HBx.out)
   go_wp2
   go_ret
   exact BPo.of HRx.out HBf.out
 ·have hX : BoxM (w.alloc (.cells #[.int .i64 6, .string ⟨#[]⟩, .string ⟨#[]⟩, .slice A3 0 c3, .slice A4 ks.length c4] 25)) w.heap.size 6 ⟨#[]⟩ ⟨#[]⟩ (.slice A3 0 c3) (.slice A4 ks.length c4) := zAs w _
  have hBV := zAc (Below.refl w.heap.size w) (.cells #[.int .i64 6, .string ⟨#[]⟩, .string ⟨#[]⟩, .slice A3 0 c3, .slice A4 ks.length c4] 25)
  obtain ⟨V, eV⟩ : ∃ V, V = (w.alloc (.cells #[.int .i64 6, .string ⟨#[]⟩, .string ⟨#[]⟩, .slice A3 0 c3, .slice A4 ks.length c4] 25)) := ⟨_, rfl⟩
  rw [← eV] at hX hBV
  have h1 : Calls Try.prog 118 #[.int .u64 6] V (PutPost V (encV 6)) := zDg V 6 (by decide)
  have H1 := zH h1
  have HX := zH hX
  have HBV := zH hBV
  have HM := zH hM
  have hc0 := hX.c0
  have hv10 := zBc (v := 6) (by decide)
  have hE := encM_6 ks
  have hlt : (encM ⟨6, ⟨#[]⟩, ⟨#[]⟩, [], ks⟩).length ≤ 1000000 := hlen
  rw [hE] at hlt
  simp only [List.length_append] at hlt
  have HE := zH hE
  have hv11 := zBc (v := ks.length) (by have := zDd ks; rw [zAz] at h64; simp only at h64; omega)
  have hk64 : ks.length ≤ 64 := by have := zDd ks; rw [zAz] at h64; simp only at h64; omega
  clear hM hX hBV hE h1
  go_enter Try.func89, Try.ntmps89
  go_wp2_with fail
  rw [← eV]
  (with_reducible refine H1.out.mono ?_)
  rintro e w1 ⟨A1, n1, c1, rfl, HN1, hc1, HR1, hb1⟩
  have HX1 := zH (HX.out.below hb1)
  have HB1 := zH hb1
  have hc0 := HX1.out.c0
  obtain ⟨X0, eX0⟩ : ∃ X, encV 6 = X := ⟨_, rfl⟩
  rw [eX0] at HN1 HR1
  have hn1 : X0.length = n1 := HN1.out
  have hX010 : X0.length ≤ 10 := by rw [← eX0]; exact hv10
  have HX0 := zH eX0
  clear hb1 eV eX0 H1
  have h2 := zDg w1 ks.length (by omega)
  have H2 := zH h2
  have c4 := HX1.out.c4
  clear h2
  go_wp2_with (first
   | (go_at_call 118; (with_reducible refine H2.out.mono ?_); rintro e w5 ⟨A5, n5, c5, rfl, HN5, hc5, HR5, hb5⟩; have HS5 := zH (Kd.R_below HR1.out hb5); have HB5 := zH (zAe HB1.out hb5); clear hb5)
   | (at_builtin; refine Kd.R_append_row (Value.int .u8) (0 : Int) (h1 := fun _ => rfl) (w0 := V) (W := w5) V.heap.size rfl (.tmp 57) (.tmp 62) 85 5 (.int .u8 0) 1 rfl Try.underlying85 zDe rfl (by decide) (.slice A1 n1 c1) (bys X0) (bys (encV ks.length)) A5 n5 c5 (fun _ => True) rfl rfl (fun _ _ => trivial) HS5.out (by have := R_C HR5.out; rwa [HN5.out] at this) HB5.out (zAi HB5.out) (by rw [zBm]; have := HN5.out; omega) ?_; intro v6 w6 hown6 hb6 hg6 hat6; rw [← zDq] at hown6; have HR8 := zH hown6; have HB8 := zH hb6; clear hown6 hb6 hg6 hat6; obtain ⟨A8, n8, c8, rfl, hc8⟩ := zDj HR8.out))
  obtain ⟨X2, eX2⟩ : ∃ X, X0 ++ encV ks.length = X := ⟨_, rfl⟩
  rw [eX2] at HR8
  have hX2 : X2.length ≤ 1000 := by rw [← eX2]; simp only [List.length_append]; omega
  have HX2 := zH (show X2 = encV 6 ++ encV ks.length by rw [← eX2, HX0.out])
  clear eX2
  go_loopw [3, 5] (fun u3 u5 wr => ∃ (j : Nat) (xs : List UInt8), u5 = .int .i64 j ∧ j ≤ ks.length ∧ xs.length ≤ 1000 + (zBg (ks.take j)).length ∧ Hid (xs = X2 ++ zBg (ks.take j)) ∧ Hid ((Kd.int .u8).R 5 wr V.heap.size (fun _ => True) u3 (bys xs)) ∧ Hid (Below V.heap.size V wr)) (fun _ u5 _ => ks.length - (intOf u5).toNat)
  case atStart => exact ⟨0, X2, rfl, Nat.zero_le _, by omega, zH (by simp [zBg]), HR8, HB8⟩
  case round =>
   clear HB8 HR8
   obtain ⟨j, xs, rfl, hj, hxl, HXx, HRx, HBx⟩ := hrel
   obtain ⟨A9, n9, c9, rfl, hc9⟩ := zDj HRx.out
   have c4 := (HX.out.below HBx.out).c4
   by_cases hlj : j < ks.length
   ·have hltI : (j : Int) < (ks.length : Int) := by omega
    obtain ⟨ad, B3, e3, B4, e4, rfl, hMk, k0, k1, k2, k3, k4⟩ := HM.out.kid j hlj
    have hBw := zAe HBV.out HBx.out
    simp only at k0 k1 k2 k3 k4 hMk
    have k0 := zAf hBw k0
    have k1 := zAf hBw k1
    have k2 := zAf hBw k2
    have k3 := zAf hBw k3
    have k4 := zAf hBw k4
    have hmem : ks.getD j z25 ∈ ks := by simp [List.getD_eq_getElem?_getD, hlj]
    have hsmall : zAv (ks.getD j z25) < zAv ⟨6, ⟨#[]⟩, ⟨#[]⟩, [], ks⟩ := zCf ⟨6, ⟨#[]⟩, ⟨#[]⟩, [], ks⟩ _ hmem
    have hokk := zFn hk hmem
    have HT := zH (zDo hlj)
    have hle := zGf hlj
    obtain ⟨kid, ek⟩ : ∃ kid, ks.getD j z25 = kid := ⟨_, rfl⟩
    rw [ek] at hMk k0 k1 k2 k3 k4 hsmall hokk HT hle
    have HMk := zH (hMk.below hBw)
    have HOK := zH hokk
    have hkl : (encM kid).length ≤ 1000000 := by omega
    have HLk := zH (show (zBg (ks.take (j + 1))).length = (zBg (ks.take j)).length + (encM kid).length by rw [HT.out, List.length_append])
    have hall : (zBg (ks.take j)).length ≤ 1000000 := by omega
    clear ek hmem hMk hokk hBw
    go_wp2_with (first
     | (go_at_call 89; (with_reducible refine (IH.out kid (by omega) HOK.out (by omega) hkl B3 e3 B4 e4 _ HMk.out).mono ?_); rintro e w5 ⟨A5, n5, c5, rfl, HN5, hc5, HC5, hb5⟩; have HS5 := zH (Kd.R_below HRx.out hb5); have HB5 := zH (zAe HBx.out hb5); clear hb5)
     | (at_builtin; refine Kd.R_append_row (Value.int .u8) (0 : Int) (h1 := fun _ => rfl) (w0 := V) (W := w5) V.heap.size rfl (.tmp 71) (.tmp 77) 85 5 (.int .u8 0) 1 rfl Try.underlying85 zDe rfl (by decide) (.slice A9 n9 c9) (bys xs) (bys (encM kid)) A5 n5 c5 (fun _ => True) rfl rfl (fun _ _ => trivial) HS5.out (by have := HC5.out; rwa [HN5.out] at this) HB5.out (zAi HB5.out) (by rw [zBm]; have := HN5.out; omega) ?_; intro v6 w6 hown6 hb6 hg6 hat6; rw [← zDq] at hown6; have HR7 := zH hown6; have HB7 := zH hb6; clear hown6 hb6 hg6 hat6))
    go_roundw
    case rel => exact ⟨j + 1, xs ++ encM kid, by go_num, by omega, by rw [List.length_append]; have := HLk.out; omega, zH (by rw [HXx.out, HT.out, List.append_assoc]), HR7, HB7⟩
    case measure => simp [intOf]; omega
   obtain rfl : j = ks.length := by omega
   have HXf := zH (show xs = encM ⟨6, ⟨#[]⟩, ⟨#[]⟩, [], ks⟩ from by rw [HXx.out, HX2.out, HE.out, List.take_length]; try simp)
   rw [HXf.out] at HRx
   have HBf := zH (zAe HBV.out HBx.out)
   go_wp2
   go_ret
   exact BPo.of HRx.out HBf.out
 have hX : BoxM (w.alloc (.cells #[.int .i64 7, .string ⟨#[]⟩, .string ⟨#[]⟩, .slice A3 0 c3, .slice A4 ks.length c4] 25)) w.heap.size 7 ⟨#[]⟩ ⟨#[]⟩ (.slice A3 0 c3) (.slice A4 ks.length c4) := zAs w _
 have hBV := zAc (Below.refl w.heap.size w) (.cells #[.int .i64 7, .string ⟨#[]⟩, .string ⟨#[]⟩, .slice A3 0 c3, .slice A4 ks.length c4] 25)
 obtain ⟨V, eV⟩ : ∃ V, V = (w.alloc (.cells #[.int .i64 7, .string ⟨#[]⟩, .string ⟨#[]⟩, .slice A3 0 c3, .slice A4 ks.length c4] 25)) := ⟨_, rfl⟩
 rw [← eV] at hX hBV
 have h1 : Calls Try.prog 118 #[.int .u64 7] V (PutPost V (encV 7)) := zDg V 7 (by decide)
 have H1 := zH h1
 have HX := zH hX
 have HBV := zH hBV
 have HM := zH hM
 have hc0 := hX.c0
 have hv10 := zBc (v := 7) (by decide)
 have hE := encM_7 ks
 have hlt : (encM ⟨7, ⟨#[]⟩, ⟨#[]⟩, [], ks⟩).length ≤ 1000000 := hlen
 rw [hE] at hlt
 simp only [List.length_append] at hlt
 have HE := zH hE
 have H1K := zH (show ks.length = 1 by
  rw [okM_mk, Bool.and_eq_true] at hok
  have ha := hok.1
  unfold zBs at ha
  simp only at ha
  rw [if_neg (by decide), if_neg (by decide), if_neg (by decide), if_neg (by decide), if_pos trivial, Bool.and_eq_true, decide_eq_true_iff] at ha
  exact ha.2)
 clear hM hX hBV hE h1
 go_enter Try.func89, Try.ntmps89
 go_wp2_with fail
 rw [← eV]
 (with_reducible refine H1.out.mono ?_)
 rintro e w1 ⟨A1, n1, c1, rfl, HN1, hc1, HR1, hb1⟩
 have HX1 := zH (HX.out.below hb1)
 have HB1 := zH hb1
 have hc0 := HX1.out.c0
 obtain ⟨X0, eX0⟩ : ∃ X, encV 7 = X := ⟨_, rfl⟩
 rw [eX0] at HN1 HR1
 have hn1 : X0.length = n1 := HN1.out
 have hX010 : X0.length ≤ 10 := by rw [← eX0]; exact hv10
 have HX0 := zH eX0
 clear hb1 eV eX0 H1
 have HR8 := HR1
 have HB8 := HB1
 have hX2 : X0.length ≤ 1000 := by omega
 obtain ⟨X2, eX2⟩ : ∃ X, X0 = X := ⟨_, rfl⟩
 rw [eX2] at HR8 hX2
 have HX2 := zH (show X2 = encV 7 by rw [← eX2, HX0.out])
 clear eX2
 go_wp2
 go_loopw [3, 6] (fun u3 u6 wr => ∃ (j : Nat) (xs : List UInt8), u6 = .int .i64 j ∧ j ≤ ks.length ∧ xs.length ≤ 1000 + (zBg (ks.take j)).length ∧ Hid (xs = X2 ++ zBg (ks.take j)) ∧ Hid ((Kd.int .u8).R 5 wr V.heap.size (fun _ => True) u3 (bys xs)) ∧ Hid (Below V.heap.size V wr)) (fun _ u6 _ => ks.length - (intOf u6).toNat)
 case atStart => exact ⟨0, X2, rfl, Nat.zero_le _, by omega, zH (by simp [zBg]), HR8, HB8⟩
 case round =>
  clear HB8 HR8
  obtain ⟨j, xs, rfl, hj, hxl, HXx, HRx, HBx⟩ := hrel
  obtain ⟨A9, n9, c9, rfl, hc9⟩ := zDj HRx.out
  have c4 := (HX.out.below HBx.out).c4
  by_cases hlj : j < ks.length
  ·have hltI : (j : Int) < (ks.length : Int) := by omega
   have hone : (j : Int) < 1 := by have := H1K.out; omega
   obtain ⟨ad, B3, e3, B4, e4, rfl, hMk, k0, k1, k2, k3, k4⟩ := HM.out.kid j hlj
   have hBw := zAe HBV.out HBx.out
   simp only at k0 k1 k2 k3 k4 hMk
   have k0 := zAf hBw k0
   have k1 := zAf hBw k1
   have k2 := zAf hBw k2
   have k3 := zAf hBw k3
   have k4 := zAf hBw k4
   have hmem : ks.getD j z25 ∈ ks := by simp [List.getD_eq_getElem?_getD, hlj]
   have hsmall : zAv (ks.getD j z25) < zAv ⟨7, ⟨#[]⟩, ⟨#[]⟩, [], ks⟩ := zCf ⟨7, ⟨#[]⟩, ⟨#[]⟩, [], ks⟩ _ hmem
   have hokk := zFn hk hmem
   have HT := zH (zDo hlj)
   have hle := zGf hlj
   obtain ⟨kid, ek⟩ : ∃ kid, ks.getD j z25 = kid := ⟨_, rfl⟩
   rw [ek] at hMk k0 k1 k2 k3 k4 hsmall hokk HT hle
   have HMk := zH (hMk.below hBw)
   have HOK := zH hokk
   have hkl : (encM kid).length ≤ 1000000 := by omega
   have HLk := zH (show (zBg (ks.take (j + 1))).length = (zBg (ks.take j)).length + (encM kid).length by rw [HT.out, List.length_append])
   have hall : (zBg (ks.take j)).length ≤ 1000000 := by omega
   clear ek hmem hMk hokk hBw
   go_wp2_with (first
    | (go_at_call 89; (with_reducible refine (IH.out kid (by omega) HOK.out (by omega) hkl B3 e3 B4 e4 _ HMk.out).mono ?_); rintro e w5 ⟨A5, n5, c5, rfl, HN5, hc5, HC5, hb5⟩; have HS5 := zH (Kd.R_below HRx.out hb5); have HB5 := zH (zAe HBx.out hb5); clear hb5)
    | (at_builtin; refine Kd.R_append_row (Value.int .u8) (0 : Int) (h1 := fun _ => rfl) (w0 := V) (W := w5) V.heap.size rfl (.tmp 92) (.tmp 98) 85 5 (.int .u8 0) 1 rfl Try.underlying85 zDe rfl (by decide) (.slice A9 n9 c9) (bys xs) (bys (encM kid)) A5 n5 c5 (fun _ => True) rfl rfl (fun _ _ => trivial) HS5.out (by have := HC5.out; rwa [HN5.out] at this) HB5.out (zAi HB5.out) (by rw [zBm]; have := HN5.out; omega) ?_; intro v6 w6 hown6 hb6 hg6 hat6; rw [← zDq] at hown6; have HR7 := zH hown6; have HB7 := zH hb6; clear hown6 hb6 hg6 hat6))
   go_roundw
   case rel => exact ⟨j + 1, xs ++ encM kid, by go_num, by omega, by rw [List.length_append]; have := HLk.out; omega, zH (by rw [HXx.out, HT.out, List.append_assoc]), HR7, HB7⟩
   case measure => simp [intOf]; omega
  obtain rfl : j = ks.length := by omega
  have HXf := zH (show xs = encM ⟨7, ⟨#[]⟩, ⟨#[]⟩, [], ks⟩ from by rw [HXx.out, HX2.out, HE.out, List.take_length]; try simp)
  rw [HXf.out] at HRx
  have HBf := zH (zAe HBV.out HBx.out)
  go_wp2
  go_ret
  exact BPo.of HRx.out HBf.out
end
theorem zHo (w : World) (A : Option Addr) (n c : Nat) (bs : List UInt8) (v : Int) (hn : bs.length = n) (hc : n ≤ c) (hv0 : -9223372036854775808 ≤ v) (hv1 : v ≤ 9223372036854775807) (hl : n ≤ 199999999999000) (hC : (Kd.int .u8).C w A bs.length (bys bs)) :
  Calls Try.prog 115 #[.slice A n c, .int .i64 v] w (PutPost w (bs ++ encV (zig v))) := by
 have h1 := zDh w A n c bs (zig v) hn hc (zFt hv0 hv1) (by omega) hC
 by_cases hv : v < 0
 ·have hz := zig_neg hv0 hv
  obtain ⟨z, hzz⟩ : ∃ z, zig v = z := ⟨_, rfl⟩
  rw [hzz] at hz h1 ⊢
  have H1 := zH h1
  clear hC h1 hn hzz
  go_enter Try.func115, Try.ntmps115
  go_wp2_with fail
  (with_reducible refine H1.out.mono ?_)
  rintro e w5 hP
  obtain ⟨A5, n5, c5, rfl, HN5, hc5, HR5, hb5⟩ := hP
  go_wp2
  go_ret
  exact ⟨A5, n5, c5, rfl, HN5, hc5, HR5, hb5⟩
 have hz := zig_pos hv1 hv
 obtain ⟨z, hzz⟩ : ∃ z, zig v = z := ⟨_, rfl⟩
 rw [hzz] at hz h1 ⊢
 have H1 := zH h1
 clear hC h1 hn hzz
 go_enter Try.func115, Try.ntmps115
 go_wp2_with fail
 (with_reducible refine H1.out.mono ?_)
 rintro e w5 hP
 obtain ⟨A5, n5, c5, rfl, HN5, hc5, HR5, hb5⟩ := hP
 go_wp2
 go_ret
 exact ⟨A5, n5, c5, rfl, HN5, hc5, HR5, hb5⟩
noncomputable def tabR72_5 : Bool × List (List Nat × List Nat) := rtab .any (zFs Try.f72 5)
theorem tabR72_5_eq : rtab .any (zFs Try.f72 5) = tabR72_5 := rfl
theorem tput72 (w : World) (A : Option Addr) (n c : Nat) (bs : List UInt8) (l : List S27) (B : Option Addr) (d : Nat) (hn : bs.length = n) (hc : n ≤ c) (hl : n ≤ 150000000000000) (h64 : l.length ≤ 64) (hs : ∀ x ∈ l, zCr x.f0 x.f2 x.f3 x.f1 = true) (hC : (Kd.int .u8).C w A bs.length (bys bs)) (hD : Kd.C k27 w B l.length l) :
  Calls Try.prog 72 #[.slice A n c, .slice B l.length d] w (BPo w (bs ++ zHv l)) := by
 have h1 := zH (zDh w A n c bs l.length hn hc (by omega) (by omega) hC)
 have hv10 := zBc (v := l.length) (by omega)
 have HN := zH hn
 have HD := zH hD
 have HS := zH hs
 clear hC hD hs hn
 go_enter Try.func72, Try.ntmps72
 go_wp2_with fail
 (with_reducible refine h1.out.mono ?_)
 rintro e w1 ⟨A1, n1, c1, rfl, HN1, hc1, HR1, hB1⟩
 have hn1 : n1 ≤ n + 10 := by have a := HN1.out; have b := HN.out; rw [List.length_append] at a; omega
 have HC1 := zH (R_C HR1.out)
 have HB1 := zH hB1
 obtain ⟨X0, eX0⟩ : ∃ X, bs ++ encV l.length = X := ⟨_, rfl⟩
 rw [eX0] at HN1 HC1
 have HX0 := zH eX0
 clear hB1 h1 HR1 eX0
 go_wp2
 go_loopw [0, 6, 14] (fun u0 _ u14 wr => ∃ (j : Nat) (xs : List UInt8) (A' : Option Addr) (n' c' : Nat), u14 = .int .i64 j ∧ j ≤ l.length ∧ u0 = .slice A' n' c' ∧ n' ≤ c' ∧ n' ≤ n + 10 + 17030 * j ∧ Hid (xs.length = n') ∧ Hid (xs = X0 ++ (l.take j).flatMap zFz) ∧ Hid ((Kd.int .u8).C wr A' xs.length (bys xs)) ∧ Hid (Below w.heap.size w wr)) (fun _ _ u14 _ => l.length - (intOf u14).toNat)
 case atStart => exact ⟨0, X0, A1, n1, c1, rfl, Nat.zero_le _, rfl, hc1, by omega, HN1, zH (by simp), HC1, HB1⟩
 case round =>
  clear HB1 HC1 HN1 hc1
  obtain ⟨j, xs, A', n', c', rfl, hj, rfl, hc', hn', HNx, HXx, HCx, HB⟩ := hrel
  by_cases hlt : j < l.length
  ·have hltI : (j : Int) < (l.length : Int) := by omega
   obtain ⟨ad, B3, e3, B4, e4, rfl, k0, k1, k2, k3, k4, k5, k6, k7, l3, g3, l4, g4⟩ := zFi (Kd.C_below HD.out HB.out) (j : Int) (by omega) (by omega)
   simp only [Int.toNat_natCast, show zAo l (j : Int) = l.getD j z27 by simp [zAo]] at k0 k1 k2 k3 k4 k5 k6 k7 l3 g3 l4 g4
   have hok := HS.out _ (zHb l z27 j hlt)
   obtain ⟨t, et⟩ : ∃ t, l.getD j z27 = t := ⟨_, rfl⟩
   have HE := zH (take_tb hlt t et)
   rw [et] at k0 k1 k2 k3 k4 k5 k6 k7 l3 g3 l4 g4 hok
   have HM := zH (show MC wr t.f1 B3 e3 B4 e4 from ⟨l3, g3, l4, g4⟩)
   have hok2 := tombB_iff.1 hok
   have HCK := zH hok2.2.2
   have HTL := zH (zJe hok)
   have HOKM := zH (show okM t.f1 = true ∧ zAv t.f1 ≤ 64 ∧ (encM t.f1).length ≤ 1000000 from by
    obtain ⟨h1, h2, h3, h4⟩ := chk_def.1 hok2.2.2
    have := zFd hok2.2.2
    exact ⟨h1, by omega, by omega⟩)
   have HR0 := zH (show (-9223372036854775808 ≤ t.f0 ∧ t.f0 ≤ 9223372036854775807) ∧ (-9223372036854775808 ≤ t.f2 ∧ t.f2 ≤ 9223372036854775807) ∧ (-9223372036854775808 ≤ t.f3 ∧ t.f3 ≤ 9223372036854775807) by omega)
   have HZ := zH (And.intro (zBc (v := zig t.f0) (zFt (by omega) (by omega))) (And.intro (zBc (v := zig t.f2) (zFt (by omega) (by omega))) (And.intro (zBc (v := zig t.f3) (zFt (by omega) (by omega))) (zFd hok2.2.2))))
   clear et l3 g3 l4 g4 hok hok2
   obtain ⟨V, eV⟩ : ∃ V, V = wr.alloc (.cells #[.int .i64 t.f0, .int .i64 t.f1.f0, .string t.f1.f1, .string t.f1.f2, .slice B3 t.f1.f3.length e3, .slice B4 t.f1.f4.length e4, .int .i64 t.f2, .int .i64 t.f3] 27) := ⟨_, rfl⟩
   have HX : Hid (V.heap[wr.heap.size]? = some (.cells #[.int .i64 t.f0, .int .i64 t.f1.f0, .string t.f1.f1, .string t.f1.f2, .slice B3 t.f1.f3.length e3, .slice B4 t.f1.f4.length e4, .int .i64 t.f2, .int .i64 t.f3] 27 (0, 0))) := zH (by rw [eV]; exact zAs wr _)
   have hBV : Below wr.heap.size wr V := by rw [eV]; exact zAc (Below.refl _ _) _
   have HBB := zH hBV
   clear hBV
   go_wp2_with fail
   rw [← eV]
   refine zCe (n := 14) (S := fun W => Below V.heap.size V W) (ds := []) (msk 14 [0, 1, 4, 7, 10, 2, 5, 8, 11, 3, 6, 9, 12, 13] 0).toArray (by kernel_rfl) rfl rfl (zAr (Below.refl _ _)) (fun hHeld => ?_)
   refine zBh (T := tabR72_5) tabR72_5_eq (fun HT_ => ?_)
   iterate 9 (first | (refine zBi HT_.out (N := some _) (v := ?_) (a' := ?_) rfl rfl (by kernel_rfl) (fun _ _ _ h => h) (Or.inl ⟨by rfl, ?_⟩) ?_ ?_; rotate_left; intro w'; go_simp; (with_reducible rfl); rotate_left; simp only [Act.put, zI, zZ, zS, zAx, zAy]; rfl) | (refine zCd HT_.out (N := some _) (v := ?_) (a' := ?_) rfl rfl (by kernel_rfl) (fun _ _ _ h => h) (Or.inl ⟨by rfl, ?_⟩) hHeld ?_ ?_; rotate_left; intro w' hh; have q := (hh.block _ (zAp HX.out)).trans HX.out; have q0 := zAb q 0; have q1 := zAb q 1; have q2 := zAb q 2; have q3 := zAb q 3; have q4 := zAb q 4; have q5 := zAb q 5; have q6 := zAb q 6; have q7 := zAb q 7; simp only [zC, zA, zB] at q0 q1 q2 q3 q4 q5 q6 q7; go_simp; (with_reducible rfl); rotate_left; simp only [Act.put, zI, zZ, zS, zAx, zAy]; rfl))
   refine oneO (i := 3) (N := some 21) HT_.out rfl rfl (by kernel_rfl) (by decide) (fun K_ hK_ => ?_)
   refine zDn Try.func115 (by kernel_rfl) rfl #[.slice A' n' c', .int .i64 t.f0] (by rfl) rfl rfl (by (try simp only [List.map_toArray, List.map_cons, List.map_nil]); first | done | rfl) ?_
   (with_reducible refine (zHo _ A' n' c' xs t.f0 HNx.out hc' HR0.out.1.1 HR0.out.1.2 (by have := HZ.out; omega) (Kd.C_below HCx.out (zAe HBB.out hHeld))).mono ?_)
   rintro e w4 ⟨A4, n4, c4, rfl, HN4, hc4, HR4, hb4⟩
   refine ⟨_, rfl, ?_⟩
   refine hK_.out _ _ (zAe hHeld hb4) (fun hHeld => ?_)
   clear hK_ K_
   try simp only [Act.put, zI, zZ, zS]
   refine oneO (i := 6) (N := some 24) HT_.out rfl rfl (by kernel_rfl) (by decide) (fun K_ hK_ => ?_)
   refine zDn Try.func115 (by kernel_rfl) rfl #[.slice A4 n4 c4, .int .i64 t.f2] (by rfl) rfl rfl (by (try simp only [List.map_toArray, List.map_cons, List.map_nil]); first | done | rfl) ?_
   (with_reducible refine (zHo _ A4 n4 c4 (xs ++ encV (zig t.f0)) t.f2 HN4.out hc4 HR0.out.2.1.1 HR0.out.2.1.2 (by have := HZ.out; have a := HN4.out; have b := HNx.out; simp only [List.length_append] at a; omega) (R_C HR4.out)).mono ?_)
   rintro e w5 ⟨A5, n5, c5, rfl, HN5, hc5, HR5, hb5⟩
   refine ⟨_, rfl, ?_⟩
   refine hK_.out _ _ (zAe hHeld hb5) (fun hHeld => ?_)
   clear hK_ K_
   try simp only [Act.put, zI, zZ, zS]
   refine oneO (i := 9) (N := some 27) HT_.out rfl rfl (by kernel_rfl) (by decide) (fun K_ hK_ => ?_)
   refine zDn Try.func115 (by kernel_rfl) rfl #[.slice A5 n5 c5, .int .i64 t.f3] (by rfl) rfl rfl (by (try simp only [List.map_toArray, List.map_cons, List.map_nil]); first | done | rfl) ?_
   (with_reducible refine (zHo _ A5 n5 c5 ((xs ++ encV (zig t.f0)) ++ encV (zig t.f2)) t.f3 HN5.out hc5 HR0.out.2.2.1 HR0.out.2.2.2 (by have := HZ.out; have a := HN5.out; have b := HNx.out; simp only [List.length_append] at a; omega) (R_C HR5.out)).mono ?_)
   rintro e w6 ⟨A6, n6, c6, rfl, HN6, hc6, HR6, hb6⟩
   refine ⟨_, rfl, ?_⟩
   refine hK_.out _ _ (zAe hHeld hb6) (fun hHeld => ?_)
   clear hK_ K_
   try simp only [Act.put, zI, zZ, zS]
   refine oneO (i := 12) (N := some 30) HT_.out rfl rfl (by kernel_rfl) (by decide) (fun K_ hK_ => ?_)
   refine zDn Try.func87 (by kernel_rfl) rfl #[.slice A6 n6 c6, .agg #[.int .i64 t.f1.f0, .string t.f1.f1, .string t.f1.f2, .slice B3 t.f1.f3.length e3, .slice B4 t.f1.f4.length e4]] (by rfl) rfl rfl (by (try simp only [List.map_toArray, List.map_cons, List.map_nil]); first | done | rfl) ?_
   (with_reducible refine (mPut87 t.f1 HCK.out A6 n6 c6 (((xs ++ encV (zig t.f0)) ++ encV (zig t.f2)) ++ encV (zig t.f3)) B3 e3 B4 e4 _ HN6.out hc6 (by have := HZ.out; have a := HN6.out; have b := HNx.out; simp only [List.length_append] at a; omega) (R_C HR6.out) (HM.out.below (zAe HBB.out hHeld))).mono ?_)
   rintro e w7 ⟨A7, n7, c7, rfl, HN7, hc7, HC7, hb7⟩
   refine ⟨_, rfl, ?_⟩
   refine hK_.out _ _ (zAe hHeld hb7) (fun hHeld => ?_)
   clear hK_ K_
   try simp only [Act.put, zI, zZ, zS]
   (refine zBi HT_.out (N := some _) (v := ?_) (a' := ?_) rfl rfl (by kernel_rfl) (fun _ _ _ h => h) (Or.inl ⟨by rfl, ?_⟩) ?_ ?_; rotate_left; intro w'; go_simp; (with_reducible rfl); rotate_left; simp only [Act.put, zI, zZ, zS, zAx, zAy]; rfl)
   refine zEg (zBz HT_.out (by kernel_rfl)) ?_
   have HB7 := zH (zAe HB.out (zAe HBB.out hHeld))
   have HX7 := zH (show (((xs ++ encV (zig t.f0)) ++ encV (zig t.f2)) ++ encV (zig t.f3)) ++ encM t.f1 = X0 ++ (l.take (j + 1)).flatMap zFz by rw [HE.out, HXx.out]; unfold zFz; simp only [List.append_assoc])
   have hn7 : n7 ≤ n + 10 + 17030 * (j + 1) := by
    have a := HN7.out
    have b := HNx.out
    have z := HTL.out
    unfold zFz at z
    simp only [List.length_append] at a z
    omega
   clear hHeld HN4 HN5 HN6 hc4 hc5 hc6 HR4 HR5 HR6 HX HBB HM k0 k1 k2 k3 k4 k5 k6 k7
   go_wp2
   go_roundw
   case rel => exact ⟨j + 1, _, A7, n7, c7, by go_num, by omega, rfl, hc7, hn7, HN7, HX7, HC7, HB7⟩
   case measure => simp [intOf]; omega
  obtain rfl : j = l.length := by omega
  have HXf := zH (show xs = bs ++ zHv l by rw [HXx.out, ← HX0.out, List.take_length]; unfold zHv; simp only [List.append_assoc])
  rw [HXf.out] at HNx HCx
  go_wp2
  go_ret
  exact ⟨A', n', c', rfl, HNx, hc', HCx, HB.out⟩
theorem rtput75 (w : World) (l : List S27) (B : Option Addr) (d : Nat) (h64 : l.length ≤ 64) (hs : ∀ x ∈ l, zCr x.f0 x.f2 x.f3 x.f1 = true) (hD : Kd.C k27 w B l.length l) :
  Calls Try.prog 75 #[.slice B l.length d] w (BPo w (zHv l)) := by
 have h1 := zH (zDg w l.length (by omega))
 have hv10 := zBc (v := l.length) (by omega)
 have HD := zH hD
 have HS := zH hs
 obtain ⟨X0, eX0⟩ : ∃ X, encV l.length = X := ⟨_, rfl⟩
 rw [eX0] at h1 hv10
 have HX0 := zH eX0
 clear hD hs eX0
 go_enter Try.func75, Try.ntmps75
 go_wp2_with fail
 (with_reducible refine h1.out.mono ?_)
 rintro e w1 ⟨A1, n1, c1, rfl, HN1, hc1, HR1, hB1⟩
 have HB1 := zH hB1
 clear hB1 h1
 go_wp2
 go_loopw [3, 4] (fun u3 u4 wr => ∃ (j : Nat) (xs : List UInt8), u4 = .int .i64 j ∧ j ≤ l.length ∧ xs.length ≤ 10 + 17030 * j ∧ Hid (xs = X0 ++ (l.take j).flatMap zFz) ∧ Hid ((Kd.int .u8).R 5 wr w.heap.size (fun _ => True) u3 (bys xs)) ∧ Hid (Below w.heap.size w wr)) (fun _ u4 _ => l.length - (intOf u4).toNat)
 case atStart => exact ⟨0, X0, rfl, Nat.zero_le _, by omega, zH (by simp), HR1, HB1⟩
 case round =>
  clear HB1 HR1 HN1 hc1
  obtain ⟨j, xs, rfl, hj, hxl, HXx, HRx, HB⟩ := hrel
  obtain ⟨A9, n9, c9, rfl, hc9⟩ := zDj HRx.out
  by_cases hlt : j < l.length
  ·have hltI : (j : Int) < (l.length : Int) := by omega
   obtain ⟨ad, B3, e3, B4, e4, rfl, k0, k1, k2, k3, k4, k5, k6, k7, l3, g3, l4, g4⟩ := zFi HD.out (j : Int) (by omega) (by omega)
   simp only [Int.toNat_natCast, show zAo l (j : Int) = l.getD j z27 by simp [zAo]] at k0 k1 k2 k3 k4 k5 k6 k7 l3 g3 l4 g4
   have hok := HS.out _ (zHb l z27 j hlt)
   obtain ⟨t, et⟩ : ∃ t, l.getD j z27 = t := ⟨_, rfl⟩
   have HE := zH (take_tb hlt t et)
   rw [et] at k0 k1 k2 k3 k4 k5 k6 k7 l3 g3 l4 g4 hok
   have HM := zH (show MC w t.f1 B3 e3 B4 e4 from ⟨l3, g3, l4, g4⟩)
   have hok2 := tombB_iff.1 hok
   have HCK := zH hok2.2.2
   have HTL := zH (zJe hok)
   have HOKM := zH (show okM t.f1 = true ∧ zAv t.f1 ≤ 64 ∧ (encM t.f1).length ≤ 1000000 from by
    obtain ⟨h1, h2, h3, h4⟩ := chk_def.1 hok2.2.2
    have := zFd hok2.2.2
    exact ⟨h1, by omega, by omega⟩)
   have HR0 := zH (show (-9223372036854775808 ≤ t.f0 ∧ t.f0 ≤ 9223372036854775807) ∧ (-9223372036854775808 ≤ t.f2 ∧ t.f2 ≤ 9223372036854775807) ∧ (-9223372036854775808 ≤ t.f3 ∧ t.f3 ≤ 9223372036854775807) by omega)
   have HZ := zH (And.intro (zBc (v := zig t.f0) (zFt (by omega) (by omega))) (And.intro (zBc (v := zig t.f2) (zFt (by omega) (by omega))) (And.intro (zBc (v := zig t.f3) (zFt (by omega) (by omega))) (zFd hok2.2.2))))
   clear et l3 g3 l4 g4 hok hok2
   have K0 := zH k0
   have K1 := zH k1
   have K2 := zH k2
   have K3 := zH k3
   have K4 := zH k4
   have K5 := zH k5
   have K6 := zH k6
   have K7 := zH k7
   clear k0 k1 k2 k3 k4 k5 k6 k7
   have k0 := zAf HB.out K0.out
   go_wp2_with (first
    | (go_at_call 119; (with_reducible refine (rput119 _ t.f0 HR0.out.1.1 HR0.out.1.2).mono ?_); rintro e w5 ⟨A5, n5, c5, rfl, HN5, hc5, HR5, hb5⟩; have HS5 := zH (Kd.R_below HRx.out hb5); have HB5 := zH (zAe HB.out hb5); clear hb5)
    | (at_builtin; refine Kd.R_append_row (Value.int .u8) (0 : Int) (h1 := fun _ => rfl) (w0 := w) (W := w5) w.heap.size rfl (.tmp 15) (.tmp 21) 85 5 (.int .u8 0) 1 rfl Try.underlying85 zDe rfl (by decide) (.slice A9 n9 c9) (bys xs) (bys (encV (zig t.f0))) A5 n5 c5 (fun _ => True) rfl rfl (fun _ _ => trivial) HS5.out (by have := R_C HR5.out; rwa [HN5.out] at this) HB5.out (zAi HB5.out) (by rw [zBm]; have := HN5.out; have := HZ.out; (try simp only [List.length_append]); omega) ?_; intro v6 w6 hown hbb hgg haa; rw [← zDq] at hown; have HR6 := zH hown; have HB6 := zH hbb; clear hown hbb hgg haa; obtain ⟨A6, n6, c6, rfl, hc6⟩ := zDj HR6.out; have hbk := HB6.out; have k6 := zAf hbk K6.out)
    | (go_at_call 119; (with_reducible refine (rput119 _ t.f2 HR0.out.2.1.1 HR0.out.2.1.2).mono ?_); rintro e w7 ⟨A7, n7, c7, rfl, HN7, hc7, HR7, hb7⟩; have HS7 := zH (Kd.R_below HR6.out hb7); have HB7 := zH (zAe HB6.out hb7); clear hb7)
    | (at_builtin; refine Kd.R_append_row (Value.int .u8) (0 : Int) (h1 := fun _ => rfl) (w0 := w) (W := w7) w.heap.size rfl (.tmp 23) (.tmp 29) 85 5 (.int .u8 0) 1 rfl Try.underlying85 zDe rfl (by decide) (.slice A6 n6 c6) (bys (xs ++ (encV (zig t.f0)))) (bys (encV (zig t.f2))) A7 n7 c7 (fun _ => True) rfl rfl (fun _ _ => trivial) HS7.out (by have := R_C HR7.out; rwa [HN7.out] at this) HB7.out (zAi HB7.out) (by rw [zBm]; have := HN7.out; have := HZ.out; (try simp only [List.length_append]); omega) ?_; intro v8 w8 hown hbb hgg haa; rw [← zDq] at hown; have HR8 := zH hown; have HB8 := zH hbb; clear hown hbb hgg haa; obtain ⟨A8, n8, c8, rfl, hc8⟩ := zDj HR8.out; have hbk := HB8.out; have k7 := zAf hbk K7.out)
    | (go_at_call 119; (with_reducible refine (rput119 _ t.f3 HR0.out.2.2.1 HR0.out.2.2.2).mono ?_); rintro e w9 ⟨Aa, na, ca, rfl, HNa, hca, HRa, hb9⟩; have HS9 := zH (Kd.R_below HR8.out hb9); have HB9 := zH (zAe HB8.out hb9); clear hb9)
    | (at_builtin; refine Kd.R_append_row (Value.int .u8) (0 : Int) (h1 := fun _ => rfl) (w0 := w) (W := w9) w.heap.size rfl (.tmp 31) (.tmp 37) 85 5 (.int .u8 0) 1 rfl Try.underlying85 zDe rfl (by decide) (.slice A8 n8 c8) (bys ((xs ++ (encV (zig t.f0))) ++ (encV (zig t.f2)))) (bys (encV (zig t.f3))) Aa na ca (fun _ => True) rfl rfl (fun _ _ => trivial) HS9.out (by have := R_C HRa.out; rwa [HNa.out] at this) HB9.out (zAi HB9.out) (by rw [zBm]; have := HNa.out; have := HZ.out; (try simp only [List.length_append]); omega) ?_; intro v10 w10 hown hbb hgg haa; rw [← zDq] at hown; have HR10 := zH hown; have HB10 := zH hbb; clear hown hbb hgg haa; obtain ⟨A10, n10, c10, rfl, hc10⟩ := zDj HR10.out; have hbk := HB10.out; have k1 := zAf hbk K1.out; have k2 := zAf hbk K2.out; have k3 := zAf hbk K3.out; have k4 := zAf hbk K4.out; have k5 := zAf hbk K5.out)
    | (go_at_call 89; (with_reducible refine (rput89 (zAv t.f1) t.f1 (Nat.le_refl _) HOKM.out.1 HOKM.out.2.1 HOKM.out.2.2 B3 e3 B4 e4 _ (HM.out.below HB10.out)).mono ?_); rintro e w11 ⟨A11, n11, c11, rfl, HN11, hc11, HR11, hb11⟩; have HS11 := zH (Kd.R_below HR10.out hb11); have HB11 := zH (zAe HB10.out hb11); clear hb11)
    | (at_builtin; refine Kd.R_append_row (Value.int .u8) (0 : Int) (h1 := fun _ => rfl) (w0 := w) (W := w11) w.heap.size rfl (.tmp 39) (.tmp 45) 85 5 (.int .u8 0) 1 rfl Try.underlying85 zDe rfl (by decide) (.slice A10 n10 c10) (bys (((xs ++ (encV (zig t.f0))) ++ (encV (zig t.f2))) ++ (encV (zig t.f3)))) (bys (encM t.f1)) A11 n11 c11 (fun _ => True) rfl rfl (fun _ _ => trivial) HS11.out (by have := HR11.out; rwa [HN11.out] at this) HB11.out (zAi HB11.out) (by rw [zBm]; have := HN11.out; have := HZ.out; (try simp only [List.length_append]); omega) ?_; intro v12 w12 hown hbb hgg haa; rw [← zDq] at hown; have HR12 := zH hown; have HB12 := zH hbb; clear hown hbb hgg haa; obtain ⟨A12, n12, c12, rfl, hc12⟩ := zDj HR12.out; have hbk := HB12.out))
   go_roundw
   case rel => exact ⟨j + 1, ((((xs ++ (encV (zig t.f0))) ++ (encV (zig t.f2))) ++ (encV (zig t.f3))) ++ encM t.f1), by go_num, by omega, by have z := HTL.out; unfold zFz at z; simp only [List.length_append] at z ⊢; omega, zH (by rw [HE.out, HXx.out]; unfold zFz; simp only [List.append_assoc]), HR12, HB12⟩
   case measure => simp [intOf]; omega
  obtain rfl : j = l.length := by omega
  have HXf := zH (show xs = zHv l by rw [HXx.out, ← HX0.out, List.take_length]; rfl)
  rw [HXf.out] at HRx
  go_wp2
  go_ret
  exact BPo.of HRx.out HB.out
theorem same90 : ∀ (N : Nat) (m : S25), zAv m ≤ N → zAv m ≤ 1000 → m.f3.length ≤ 1000 → wideM m → ∀ (A3 : Option Addr) (c3 : Nat) (A4 : Option Addr) (c4 : Nat) (B3 : Option Addr) (d3 : Nat) (B4 : Option Addr) (d4 : Nat) (w : World), MC w m A3 c3 A4 c4 → MC w m B3 d3 B4 d4 →
  Calls Try.prog 90 #[.agg #[.int .i64 m.f0, .string m.f1, .string m.f2, .slice A3 m.f3.length c3, .slice A4 m.f4.length c4], .agg #[.int .i64 m.f0, .string m.f1, .string m.f2, .slice B3 m.f3.length d3, .slice B4 m.f4.length d4]] w fun e w' => e = .returned (.bool true) ∧ Below w.heap.size w w' := by
 intro N
 induction N with
 | zero => intro m h; rw [zAz] at h; omega
 | succ N ih =>
 rintro ⟨op, t1, t2, vs, ks⟩ hN h1000 hv1000 hw
 have IH := zH ih
 clear ih
 intro A3 c3 A4 c4 B3 d3 B4 d4 w hM hM'
 obtain ⟨hw1, hw2⟩ := (wideM_mk _).1 hw
 simp only at hw1 hv1000 hM hM'
 have Hw2 := zH hw2
 have hks : ks.length ≤ 1000 := by have := zJa ks; rw [zAz] at h1000; simp only at h1000; omega
 obtain ⟨V0, eV0⟩ : ∃ V0, V0 = w.alloc (.cells #[.int .i64 op, .string t1, .string t2, .slice A3 vs.length c3, .slice A4 ks.length c4] 25) := ⟨_, rfl⟩
 obtain ⟨V, eV⟩ : ∃ V, V = V0.alloc (.cells #[.int .i64 op, .string t1, .string t2, .slice B3 vs.length d3, .slice B4 ks.length d4] 25) := ⟨_, rfl⟩
 have hs0 : V0.heap.size = w.heap.size + 1 := by rw [eV0]; simp
 have hB0 : Below w.heap.size w V := by rw [eV, eV0]; exact zAc (zAc (Below.refl _ _) _) _
 have hX : BoxM V w.heap.size op t1 t2 (.slice A3 vs.length c3) (.slice A4 ks.length c4) := by rw [eV]; exact blk_alloc (by rw [eV0]; exact zAs w _) _
 have hY : BoxM V (w.heap.size + 1) op t1 t2 (.slice B3 vs.length d3) (.slice B4 ks.length d4) := by rw [eV, ← hs0]; exact zAs V0 _
 have HM := zH hM
 have HM' := zH hM'
 clear hM hM' hw hw2
 have hq : (op == op) = true := beq_self_eq_true _
 have x0 := hX.c0
 have x1 := hX.c1
 have x2 := hX.c2
 have x3 := hX.c3
 have x4 := hX.c4
 have y0 := hY.c0
 have y1 := hY.c1
 have y2 := hY.c2
 have y3 := hY.c3
 have y4 := hY.c4
 go_enter Try.func90, Try.ntmps90
 go_wp2_with fail
 rw [← eV0, ← eV]
 clear eV eV0 hs0
 go_loopw [5] (fun u5 wr => ∃ (j : Nat), u5 = .int .i64 j ∧ j ≤ vs.length ∧ Below V.heap.size V wr)
  (fun u5 _ => vs.length - (intOf u5).toNat)
 case atStart => exact ⟨0, rfl, Nat.zero_le _, Below.refl _ _⟩
 case round =>
  obtain ⟨j, rfl, hj, hB⟩ := hrel
  clear x0 x1 x2 x3 x4 y0 y1 y2 y3 y4
  have x3 := (hX.below hB).c3
  have x4 := (hX.below hB).c4
  have y3 := (hY.below hB).c3
  have y4 := (hY.below hB).c4
  by_cases hlt : j < vs.length
  ·obtain ⟨ad, rfl, a0⟩ := Kd.at_string (Kd.C_below (Kd.C_below HM.out.2.1 hB0) hB) (j : Int) (by omega) (by show (j : Int) < (vs.length : Int); omega)
   obtain ⟨ad2, rfl, b0⟩ := Kd.at_string (Kd.C_below (Kd.C_below HM'.out.2.1 hB0) hB) (j : Int) (by omega) (by show (j : Int) < (vs.length : Int); omega)
   simp only [Int.toNat_natCast] at a0 b0
   go_wp2
   go_quiet (fail)
   go_wp2
   go_roundw
   case rel => exact ⟨j + 1, by go_num, by omega, by repeat (first | exact hB | apply zAd | apply zAr)⟩
   case measure => simp [intOf]; omega
  obtain rfl : j = vs.length := by omega
  rename World => wo
  go_wp2
  go_loopw [6] (fun u6 wr => ∃ (i : Nat), u6 = .int .i64 i ∧ i ≤ ks.length ∧ Below V.heap.size V wr)
   (fun u6 _ => ks.length - (intOf u6).toNat)
  case atStart => exact ⟨0, rfl, Nat.zero_le _, hB⟩
  case round =>
   obtain ⟨i, rfl, hi, hBi⟩ := hrel
   clear x3 x4 y3 y4
   have x4 := (hX.below hBi).c4
   have y4 := (hY.below hBi).c4
   by_cases hlt2 : i < ks.length
   ·obtain ⟨ad, F3, e3, F4, e4, rfl, hMk, k0, k1, k2, k3, k4⟩ := ((HM.out.below hB0).below hBi).kid i hlt2
    obtain ⟨ad2, G3, g3, G4, g4, rfl, hMq, q0, q1, q2, q3, q4⟩ := ((HM'.out.below hB0).below hBi).kid i hlt2
    simp only at hMk hMq k0 k1 k2 k3 k4 q0 q1 q2 q3 q4
    have hmem : ks.getD i z25 ∈ ks := by simp [List.getD_eq_getElem?_getD, hlt2]
    have hsmall := zCf ⟨op, t1, t2, vs, ks⟩ _ hmem
    have Hwk := zH (wideL_at Hw2.out hlt2)
    obtain ⟨kid, ek⟩ : ∃ kid, ks.getD i z25 = kid := ⟨_, rfl⟩
    rw [ek] at hMk hMq k0 k1 k2 k3 k4 q0 q1 q2 q3 q4 hsmall Hwk
    clear ek hmem
    have HMk := zH (hMk.below (zAr (Below.refl _ _)))
    have HMq := zH (hMq.below (zAr (Below.refl _ _)))
    clear hMk hMq
    have hv1 : kid.f3.length ≤ 1000 := by have := ((wideM_mk _).1 Hwk.out).1; omega
    go_wp2
    go_region_held3 (fun w' => w'.cell? ⟨w.heap.size, 4, none⟩ = some (.slice (some ad) ks.length c4) ∧ w'.cell? ⟨w.heap.size + 1, 4, none⟩ = some (.slice (some ad2) ks.length d4) ∧ w'.cell? (ad.add (i * 5)) = some (.int .i64 kid.f0) ∧ w'.cell? ⟨(ad.add (i * 5)).block, (ad.add (i * 5)).off + 1, none⟩ = some (.string kid.f1) ∧ w'.cell? ⟨(ad.add (i * 5)).block, (ad.add (i * 5)).off + 2, none⟩ = some (.string kid.f2) ∧ w'.cell? ⟨(ad.add (i * 5)).block, (ad.add (i * 5)).off + 3, none⟩ = some (.slice F3 kid.f3.length e3) ∧ w'.cell? ⟨(ad.add (i * 5)).block, (ad.add (i * 5)).off + 4, none⟩ = some (.slice F4 kid.f4.length e4) ∧ w'.cell? (ad2.add (i * 5)) = some (.int .i64 kid.f0) ∧ w'.cell? ⟨(ad2.add (i * 5)).block, (ad2.add (i * 5)).off + 1, none⟩ = some (.string kid.f1) ∧ w'.cell? ⟨(ad2.add (i * 5)).block, (ad2.add (i * 5)).off + 2, none⟩ = some (.string kid.f2) ∧ w'.cell? ⟨(ad2.add (i * 5)).block, (ad2.add (i * 5)).off + 3, none⟩ = some (.slice G3 kid.f3.length g3) ∧ w'.cell? ⟨(ad2.add (i * 5)).block, (ad2.add (i * 5)).off + 4, none⟩ = some (.slice G4 kid.f4.length g4) ∧ Below V.heap.size V w')
     (first | exact ⟨x4, y4, k0, k1, k2, k3, k4, q0, q1, q2, q3, q4, zAr hBi⟩ | exact ⟨zAf hb5 x4, zAf hb5 y4, zAf hb5 k0, zAf hb5 k1, zAf hb5 k2, zAf hb5 k3, zAf hb5 k4, zAf hb5 q0, zAf hb5 q1, zAf hb5 q2, zAf hb5 q3, zAf hb5 q4, zAe (zAr hBi) hb5⟩)
     (first | (go_at_call 90; (with_reducible refine (IH.out kid (by omega) (by omega) hv1 Hwk.out F3 e3 F4 e4 G3 g3 G4 g4 _ HMk.out HMq.out).mono ?_); rintro e w5 ⟨rfl, hb5⟩))
    rename_i hS
    have hbel := hS.2.2.2.2.2.2.2.2.2.2.2.2
    clear hS
    go_wp2
    go_roundw
    case rel => exact ⟨i + 1, by go_num, by omega, hbel⟩
    case measure => simp [intOf]; omega
   obtain rfl : i = ks.length := by omega
   go_wp2
   go_ret
   exact ⟨rfl, zAe hB0 hBi⟩
end Go.Proofs.Yteafilojjdfllaa
end
section
namespace Go.Proofs.Yteafilojjdfllaa.PAll
open Go.RowKit Go.Proofs.YteafilojjdfllaaW.PrintWords Go.Proofs.YteafilojjdfllaaW.PrintLast Go.Proofs.YteafilojjdfllaaW.PrintMore
section
attribute [local go_sem] zCx zCv zDm zDl zCj zCi zCw zCu   -- for this text's walks alone
set_option linter.unusedVariables false
set_option linter.unusedSimpArgs false
mutual
def label_Quoted.l0 : Nat → ByteArray → List Int → Int → Int → Option (ByteArray)
 | 0, _, _, _, _ => none
 | k + 1, x0, x3, x8, x9 => if x9 < x8 then (if 0 ≤ x9 then (if x9 < (x0.size : Int) then (if (bt x0 x9) = 34 then (label_Quoted.j1 k x0 x3 (bt x0 x9) x8 x9 true) else (label_Quoted.j1 k x0 x3 (bt x0 x9) x8 x9 ((bt x0 x9) == 92))) else (none)) else (none)) else (if x3.length < 140737488355328 then (some (strOfNums (x3 ++ [34]))) else (none))
def label_Quoted.j1 : Nat → ByteArray → List Int → Int → Int → Int → Bool → Option (ByteArray)
 | 0, _, _, _, _, _, _ => none
 | k + 1, x0, x3, x5, x8, x9, x19 => if x19 = true then ((some (([92, x5] : List Int) : List Int)).bind fun y285 => (if x3.length + y285.length < 140737488355328 then (label_Quoted.l0 k x0 (x3 ++ y285) x8 (wrap64 (x9 + 1))) else (none))) else (if x5 < 32 then (if 0 ≤ (x5 / 16) then (if (x5 / 16) < 16 then (if 0 ≤ (Go.bits .and .u8 x5 15) then (if (Go.bits .and .u8 x5 15) < 16 then ((some (([92, 120, bt (⟨#[48, 49, 50, 51, 52, 53, 54, 55, 56, 57, 97, 98, 99, 100, 101, 102]⟩ : ByteArray) (x5 / 16), bt (⟨#[48, 49, 50, 51, 52, 53, 54, 55, 56, 57, 97, 98, 99, 100, 101, 102]⟩ : ByteArray) (Go.bits .and .u8 x5 15)] : List Int) : List Int)).bind fun y291 => (if x3.length + y291.length < 140737488355328 then (label_Quoted.l0 k x0 (x3 ++ y291) x8 (wrap64 (x9 + 1))) else (none))) else (none)) else (none)) else (none)) else (none)) else (if x5 ≥ 127 then (if 0 ≤ (x5 / 16) then (if (x5 / 16) < 16 then (if 0 ≤ (Go.bits .and .u8 x5 15) then (if (Go.bits .and .u8 x5 15) < 16 then ((some (([92, 120, bt (⟨#[48, 49, 50, 51, 52, 53, 54, 55, 56, 57, 97, 98, 99, 100, 101, 102]⟩ : ByteArray) (x5 / 16), bt (⟨#[48, 49, 50, 51, 52, 53, 54, 55, 56, 57, 97, 98, 99, 100, 101, 102]⟩ : ByteArray) (Go.bits .and .u8 x5 15)] : List Int) : List Int)).bind fun y297 => (if x3.length + y297.length < 140737488355328 then (label_Quoted.l0 k x0 (x3 ++ y297) x8 (wrap64 (x9 + 1))) else (none))) else (none)) else (none)) else (none)) else (none)) else (if x3.length < 140737488355328 then (label_Quoted.l0 k x0 (x3 ++ [x5]) x8 (wrap64 (x9 + 1))) else (none))))
end
def label_Quoted.f (k : Nat) (a0 : ByteArray) : Option (ByteArray) := label_Quoted.l0 k a0 (([34] : List Int)) (a0.size : Int) 0
theorem label_Quoted.mono_l : ∀ k, (∀ y0 y1 y2 y3, LeO (label_Quoted.l0 k y0 y1 y2 y3) (label_Quoted.l0 (k + 1) y0 y1 y2 y3)) ∧ (∀ y0 y1 y2 y3 y4 y5, LeO (label_Quoted.j1 k y0 y1 y2 y3 y4 y5) (label_Quoted.j1 (k + 1) y0 y1 y2 y3 y4 y5))
 | 0 => ⟨fun _ _ _ _ r h => by simp [label_Quoted.l0] at h, fun _ _ _ _ _ _ r h => by simp [label_Quoted.j1] at h⟩
 | k + 1 => by
  obtain ⟨ih0, ih1⟩ := label_Quoted.mono_l k
  refine ⟨?_, ?_⟩
  ·intro y0 y1 y2 y3
   unfold label_Quoted.l0
   repeat' first
   | (with_reducible exact ih0 _ _ _ _)
   | (with_reducible exact ih1 _ _ _ _ _ _)
   | (with_reducible exact LeO.refl _)
   | (with_reducible exact LeO.none _)
   | (with_reducible refine LeO.ite ?_ ?_)
   | (with_reducible refine LeO.bind ?_ (fun _ => ?_))
   | exact ih0 _ _ _ _
   | exact ih1 _ _ _ _ _ _
   | exact LeO.none _
   | refine LeO.ite ?_ ?_
   | refine LeO.bind ?_ (fun _ => ?_)
  ·intro y0 y1 y2 y3 y4 y5
   unfold label_Quoted.j1
   repeat' first
   | (with_reducible exact ih0 _ _ _ _)
   | (with_reducible exact ih1 _ _ _ _ _ _)
   | (with_reducible exact LeO.refl _)
   | (with_reducible exact LeO.none _)
   | (with_reducible refine LeO.ite ?_ ?_)
   | (with_reducible refine LeO.bind ?_ (fun _ => ?_))
   | exact ih0 _ _ _ _
   | exact ih1 _ _ _ _ _ _
   | exact LeO.none _
   | refine LeO.ite ?_ ?_
   | refine LeO.bind ?_ (fun _ => ?_)
theorem label_Quoted.mono : ∀ a0 k, LeO (label_Quoted.f k a0) (label_Quoted.f (k + 1) a0) := by
 intro a0 k
 obtain ⟨ih0, ih1⟩ := label_Quoted.mono_l k
 unfold label_Quoted.f
 repeat' first
   | (with_reducible exact ih0 _ _ _ _)
   | (with_reducible exact ih1 _ _ _ _ _ _)
   | (with_reducible exact LeO.refl _)
   | (with_reducible exact LeO.none _)
   | (with_reducible refine LeO.ite ?_ ?_)
   | (with_reducible refine LeO.bind ?_ (fun _ => ?_))
   | exact ih0 _ _ _ _
   | exact ih1 _ _ _ _ _ _
   | exact LeO.none _
   | refine LeO.ite ?_ ?_
   | refine LeO.bind ?_ (fun _ => ?_)
def match_sign.f (a0 : Int) : Option (ByteArray) := if a0 = 5 then (some (⟨#[38]⟩ : ByteArray)) else (if a0 = 6 then (some (⟨#[124]⟩ : ByteArray)) else (some (⟨#[33]⟩ : ByteArray)))
end
end Go.Proofs.Yteafilojjdfllaa.PAll
end
section
namespace Go.Proofs.Yteafilojjdfllaa
open Go Go.RowKit Go.Proofs.YteafilojjdfllaaW.PrintWords Go.Proofs.YteafilojjdfllaaW.PrintLast Go.Proofs.YteafilojjdfllaaW.PrintMore Go.Proofs.Yteafilojjdfllaa.PAll
theorem wideL_of : ∀ (ks : List S25), (∀ k ∈ ks, wideM k) → wideL ks
 | [], _ => trivial
 | k :: ks, h => ⟨h k (List.mem_cons_self ..), wideL_of ks (fun x hx => h x (List.mem_cons_of_mem _ hx))⟩
theorem ok_wide : ∀ (N : Nat) (m : S25), zAv m ≤ N → okM m = true → wideM m
 | 0, m, h, _ => by rw [zAz] at h; omega
 | N + 1, m, h, hok => by
  have hsz := zCc hok
  rw [wideM_mk]
  rcases shape hok with rfl | ⟨op, n, v, ho, hn, rfl⟩ | ⟨n, vs, hn, rfl⟩ | ⟨op, ks, ho, hk, rfl⟩
  ·exact ⟨by simp, trivial⟩
  ·exact ⟨by simp, trivial⟩
  ·exact ⟨by have := (hsz.2 rfl).2.1; simp only at this ⊢; omega, trivial⟩
  ·refine ⟨by simp, wideL_of ks (fun k hkm => ok_wide N k ?_ (zFn hk hkm))⟩
   have := zCf ⟨op, ⟨#[]⟩, ⟨#[]⟩, [], ks⟩ k hkm
   omega
theorem str_parts2 (bs xs : List UInt8) : (⟨(bs ++ xs).toArray⟩ : ByteArray) = (⟨bs.toArray⟩ : ByteArray) ++ (⟨xs.toArray⟩ : ByteArray) := by
 apply ByteArray.ext
 simp
theorem conv2_ {P : Program} {ops : Array Oper} {oi : Oper} {N : Option Tmp} {a : Act} {w : World} {K : Act → World → Prop} {Q : Exit → Act → World → Prop} {v : Value} {s t : TypeId} {o : Operand} (hw : Region.wanted oi (yielded ops a.tmps) = true) (hop : oi.op = .convert s t o) (hx : (convert s t (a.eval o)).run P w = .ok v w) (hN : oi.dst = N) (h : K (a.put N v) w) : if Region.wanted oi (yielded ops a.tmps) = true then Oper.wp P oi a w K Q else K (a.put N undef) w := by
 rw [if_pos hw]
 subst hN
 unfold Oper.wp execOp
 simp only [hop, Sem.run_bind, Sem.run_pure, hx, Result.andThen_ok]
 exact h
end Go.Proofs.Yteafilojjdfllaa
end
section
namespace Go.Proofs.Yteafilojjdfllaa.PAll
open Go.RowKit Go.Proofs.YteafilojjdfllaaW.PrintWords Go.Proofs.YteafilojjdfllaaW.PrintLast Go.Proofs.YteafilojjdfllaaW.PrintMore
section
attribute [local go_sem] zCx zCv zDm zDl zCj zCi zCw zCu   -- for this text's walks alone
set_option linter.unusedVariables false
set_option linter.unusedSimpArgs false
def tomb_meets.f (a0_0 : Int) (a0_1 : Int) (a0_2 : ByteArray) (a0_3 : ByteArray) (l0_4 : List ByteArray) (l0_5 : List (S25)) (a0_6 : Int) (a0_7 : Int) (a1 : Int) : Option (Bool) := if a1 < 0 then (some false) else (if a1 > 127258290 then (some false) else (if a0_6 ≥ a0_7 then (some false) else (if a0_6 < (wrap64 ((wrap64 (a1 + 1)) * 8640)) then (some (decide (a0_7 > (wrap64 (a1 * 8640))))) else (some false))))
theorem tomb_meets.calls (a0_0 : Int) (a0_1 : Int) (a0_2 : ByteArray) (a0_3 : ByteArray) (A0_4 : Option Addr) (c0_4 : Nat) (l0_4 : List ByteArray) (A0_5 : Option Addr) (c0_5 : Nat) (l0_5 : List (S25)) (a0_6 : Int) (a0_7 : Int) (a1 : Int) (r : Bool) (w : World) (hr0_4 : Kd.C Kd.string w A0_4 l0_4.length l0_4) (hc0_4 : l0_4.length ≤ c0_4) (hr0_5 : Kd.C k25 w A0_5 l0_5.length l0_5) (hc0_5 : l0_5.length ≤ c0_5) (h : tomb_meets.f a0_0 a0_1 a0_2 a0_3 l0_4 l0_5 a0_6 a0_7 a1 = some r) :
  Calls Try.prog 103 #[.agg #[.int .i64 a0_0, .int .i64 a0_1, .string a0_2, .string a0_3, .slice A0_4 l0_4.length c0_4, .slice A0_5 l0_5.length c0_5, .int .i64 a0_6, .int .i64 a0_7], .int .i64 a1] w fun e w' => e = .returned (.bool r) ∧ Below w.heap.size w w' := by
 have hu27 := Try.underlying27
 have HR0_4 := Aside0.mk hr0_4
 have HC0_4 := Aside0.mk hc0_4
 clear hr0_4 hc0_4
 have HR0_5 := Aside0.mk hr0_5
 have HC0_5 := Aside0.mk hc0_5
 clear hr0_5 hc0_5
 have HB := Aside0.mk (Below.refl w.heap.size w)
 have H : (if a1 < 0 then (some false) else (if a1 > 127258290 then (some false) else (if a0_6 ≥ a0_7 then (some false) else (if a0_6 < (wrap64 ((wrap64 (a1 + 1)) * 8640)) then (some (decide (a0_7 > (wrap64 (a1 * 8640))))) else (some false))))) = some r := h
 clear h
 by_cases c3 : a1 < 0
 ·rw [if_pos c3] at H
  have c3b0 : decide (a1 < 0) = true := zT c3
  clear c3
  obtain rfl := Option.some.inj H
  go_enter Try.func103, Try.ntmps103
  go_wp2_with (first | ((with_reducible refine zBe (N := 2) rfl ?_); refine zBb ?hg (N := 2) ?hd (cs := #[.int .i64 a0_0, .int .i64 a0_1, .string a0_2, .string a0_3, .slice A0_4 l0_4.length c0_4, .slice A0_5 l0_5.length c0_5, .int .i64 a0_6, .int .i64 a0_7]) (t := 27) ?hr ?_; (case hd => rfl); (case hg => rfl); (case hr => first | (go_simp; done) | (go_simp; rfl)); intro gb134 hg w4 hbox hb; have n0_ := Aside0.mk (zAe (by repeat (first | (with_reducible first | exact HB.out | apply zAc | apply zAd | apply zAg) | exact HB.out)) hb); have n1_ := Aside0.mk (hbox); have n2_ := Aside0.mk ((by rw [hg]; exact (zAi (by repeat (first | (with_reducible first | exact HB.out | apply zAc | apply zAd | apply zAg) | exact HB.out))) : w.heap.size ≤ gb134)); have n3_ := Aside0.mk ((by rw [hg]; exact (zAi (by repeat (first | (with_reducible first | exact HB.out | apply zAc | apply zAd | apply zAg) | exact HB.out))) : w.heap.size ≤ gb134)); clear HB; have HB := n0_; have BK134 := n1_; have GW134 := n2_; have GE134 := n3_; clear n0_ n1_ n2_ n3_; clear hb hbox hg))
  go_ret
  exact ⟨by first | rfl | (simp [zAl, zAk] <;> rfl) | (simp [*, zAl, zAk] <;> rfl), by repeat (first | (with_reducible first | exact HB.out | apply zAc | apply zAd | apply zAg | refine zAh ?_ GE134.out) | exact HB.out)⟩
 rw [if_neg c3] at H
 have c3b0 : decide (a1 < 0) = false := zF c3
 clear c3
 by_cases c5 : a1 > 127258290
 ·rw [if_pos c5] at H
  have c5b0 : decide (127258290 < a1) = true := zT c5
  clear c5
  obtain rfl := Option.some.inj H
  go_enter Try.func103, Try.ntmps103
  go_wp2_with (first | ((with_reducible refine zBe (N := 2) rfl ?_); refine zBb ?hg (N := 2) ?hd (cs := #[.int .i64 a0_0, .int .i64 a0_1, .string a0_2, .string a0_3, .slice A0_4 l0_4.length c0_4, .slice A0_5 l0_5.length c0_5, .int .i64 a0_6, .int .i64 a0_7]) (t := 27) ?hr ?_; (case hd => rfl); (case hg => rfl); (case hr => first | (go_simp; done) | (go_simp; rfl)); intro gb134 hg w6 hbox hb; have n0_ := Aside0.mk (zAe (by repeat (first | (with_reducible first | exact HB.out | apply zAc | apply zAd | apply zAg) | exact HB.out)) hb); have n1_ := Aside0.mk (hbox); have n2_ := Aside0.mk ((by rw [hg]; exact (zAi (by repeat (first | (with_reducible first | exact HB.out | apply zAc | apply zAd | apply zAg) | exact HB.out))) : w.heap.size ≤ gb134)); have n3_ := Aside0.mk ((by rw [hg]; exact (zAi (by repeat (first | (with_reducible first | exact HB.out | apply zAc | apply zAd | apply zAg) | exact HB.out))) : w.heap.size ≤ gb134)); clear HB; have HB := n0_; have BK134 := n1_; have GW134 := n2_; have GE134 := n3_; clear n0_ n1_ n2_ n3_; clear hb hbox hg))
  go_ret
  exact ⟨by first | rfl | (simp [zAl, zAk] <;> rfl) | (simp [*, zAl, zAk] <;> rfl), by repeat (first | (with_reducible first | exact HB.out | apply zAc | apply zAd | apply zAg | refine zAh ?_ GE134.out) | exact HB.out)⟩
 rw [if_neg c5] at H
 have c5b0 : decide (127258290 < a1) = false := zF c5
 clear c5
 by_cases c7 : a0_6 ≥ a0_7
 ·rw [if_pos c7] at H
  have c7b0 : decide (a0_7 ≤ a0_6) = true := zT c7
  clear c7
  obtain rfl := Option.some.inj H
  go_enter Try.func103, Try.ntmps103
  go_wp2_with (first | ((with_reducible refine zBe (N := 2) rfl ?_); refine zBb ?hg (N := 2) ?hd (cs := #[.int .i64 a0_0, .int .i64 a0_1, .string a0_2, .string a0_3, .slice A0_4 l0_4.length c0_4, .slice A0_5 l0_5.length c0_5, .int .i64 a0_6, .int .i64 a0_7]) (t := 27) ?hr ?_; (case hd => rfl); (case hg => rfl); (case hr => first | (go_simp; done) | (go_simp; rfl)); intro gb134 hg w8 hbox hb; have n0_ := Aside0.mk (zAe (by repeat (first | (with_reducible first | exact HB.out | apply zAc | apply zAd | apply zAg) | exact HB.out)) hb); have n1_ := Aside0.mk (hbox); have n2_ := Aside0.mk ((by rw [hg]; exact (zAi (by repeat (first | (with_reducible first | exact HB.out | apply zAc | apply zAd | apply zAg) | exact HB.out))) : w.heap.size ≤ gb134)); have n3_ := Aside0.mk ((by rw [hg]; exact (zAi (by repeat (first | (with_reducible first | exact HB.out | apply zAc | apply zAd | apply zAg) | exact HB.out))) : w.heap.size ≤ gb134)); clear HB; have HB := n0_; have BK134 := n1_; have GW134 := n2_; have GE134 := n3_; clear n0_ n1_ n2_ n3_; clear hb hbox hg; have hcz9_0 : w8.cell? ⟨gb134, 0, none⟩ = some (.int .i64 a0_0) := (zAb BK134.out 0).trans rfl; have hcz9_1 : w8.cell? ⟨gb134, 1, none⟩ = some (.int .i64 a0_1) := (zAb BK134.out 1).trans rfl; have hcz9_2 : w8.cell? ⟨gb134, 2, none⟩ = some (.string a0_2) := (zAb BK134.out 2).trans rfl; have hcz9_3 : w8.cell? ⟨gb134, 3, none⟩ = some (.string a0_3) := (zAb BK134.out 3).trans rfl; have hcz9_4 : w8.cell? ⟨gb134, 4, none⟩ = some (.slice A0_4 l0_4.length c0_4) := (zAb BK134.out 4).trans rfl; have hcz9_5 : w8.cell? ⟨gb134, 5, none⟩ = some (.slice A0_5 l0_5.length c0_5) := (zAb BK134.out 5).trans rfl; have hcz9_6 : w8.cell? ⟨gb134, 6, none⟩ = some (.int .i64 a0_6) := (zAb BK134.out 6).trans rfl; have hcz9_7 : w8.cell? ⟨gb134, 7, none⟩ = some (.int .i64 a0_7) := (zAb BK134.out 7).trans rfl; have hfz9_0 := zAa BK134.out 0; have hfz9_1 := zAa BK134.out 1; have hfz9_2 := zAa BK134.out 2; have hfz9_3 := zAa BK134.out 3; have hfz9_4 := zAa BK134.out 4; have hfz9_5 := zAa BK134.out 5; have hfz9_6 := zAa BK134.out 6; have hfz9_7 := zAa BK134.out 7))
  go_ret
  exact ⟨by first | rfl | (simp [zAl, zAk] <;> rfl) | (simp [*, zAl, zAk] <;> rfl), by repeat (first | (with_reducible first | exact HB.out | apply zAc | apply zAd | apply zAg | refine zAh ?_ GE134.out) | exact HB.out)⟩
 rw [if_neg c7] at H
 have c7b0 : decide (a0_7 ≤ a0_6) = false := zF c7
 clear c7
 by_cases c10 : a0_6 < (wrap64 ((wrap64 (a1 + 1)) * 8640))
 ·rw [if_pos c10] at H
  have c10b0 : decide (a0_6 < (wrap64 ((wrap64 (a1 + 1)) * 8640))) = true := zT c10
  clear c10
  obtain rfl := Option.some.inj H
  go_enter Try.func103, Try.ntmps103
  go_wp2_with (first | ((with_reducible refine zBe (N := 2) rfl ?_); refine zBb ?hg (N := 2) ?hd (cs := #[.int .i64 a0_0, .int .i64 a0_1, .string a0_2, .string a0_3, .slice A0_4 l0_4.length c0_4, .slice A0_5 l0_5.length c0_5, .int .i64 a0_6, .int .i64 a0_7]) (t := 27) ?hr ?_; (case hd => rfl); (case hg => rfl); (case hr => first | (go_simp; done) | (go_simp; rfl)); intro gb134 hg w11 hbox hb; have n0_ := Aside0.mk (zAe (by repeat (first | (with_reducible first | exact HB.out | apply zAc | apply zAd | apply zAg) | exact HB.out)) hb); have n1_ := Aside0.mk (hbox); have n2_ := Aside0.mk ((by rw [hg]; exact (zAi (by repeat (first | (with_reducible first | exact HB.out | apply zAc | apply zAd | apply zAg) | exact HB.out))) : w.heap.size ≤ gb134)); have n3_ := Aside0.mk ((by rw [hg]; exact (zAi (by repeat (first | (with_reducible first | exact HB.out | apply zAc | apply zAd | apply zAg) | exact HB.out))) : w.heap.size ≤ gb134)); clear HB; have HB := n0_; have BK134 := n1_; have GW134 := n2_; have GE134 := n3_; clear n0_ n1_ n2_ n3_; clear hb hbox hg; have hcz12_0 : w11.cell? ⟨gb134, 0, none⟩ = some (.int .i64 a0_0) := (zAb BK134.out 0).trans rfl; have hcz12_1 : w11.cell? ⟨gb134, 1, none⟩ = some (.int .i64 a0_1) := (zAb BK134.out 1).trans rfl; have hcz12_2 : w11.cell? ⟨gb134, 2, none⟩ = some (.string a0_2) := (zAb BK134.out 2).trans rfl; have hcz12_3 : w11.cell? ⟨gb134, 3, none⟩ = some (.string a0_3) := (zAb BK134.out 3).trans rfl; have hcz12_4 : w11.cell? ⟨gb134, 4, none⟩ = some (.slice A0_4 l0_4.length c0_4) := (zAb BK134.out 4).trans rfl; have hcz12_5 : w11.cell? ⟨gb134, 5, none⟩ = some (.slice A0_5 l0_5.length c0_5) := (zAb BK134.out 5).trans rfl; have hcz12_6 : w11.cell? ⟨gb134, 6, none⟩ = some (.int .i64 a0_6) := (zAb BK134.out 6).trans rfl; have hcz12_7 : w11.cell? ⟨gb134, 7, none⟩ = some (.int .i64 a0_7) := (zAb BK134.out 7).trans rfl; have hfz12_0 := zAa BK134.out 0; have hfz12_1 := zAa BK134.out 1; have hfz12_2 := zAa BK134.out 2; have hfz12_3 := zAa BK134.out 3; have hfz12_4 := zAa BK134.out 4; have hfz12_5 := zAa BK134.out 5; have hfz12_6 := zAa BK134.out 6; have hfz12_7 := zAa BK134.out 7))
  go_ret
  exact ⟨by first | rfl | (simp [zAl, zAk] <;> rfl) | (simp [*, zAl, zAk] <;> rfl), by repeat (first | (with_reducible first | exact HB.out | apply zAc | apply zAd | apply zAg | refine zAh ?_ GE134.out) | exact HB.out)⟩
 rw [if_neg c10] at H
 have c10b0 : decide (a0_6 < (wrap64 ((wrap64 (a1 + 1)) * 8640))) = false := zF c10
 clear c10
 obtain rfl := Option.some.inj H
 go_enter Try.func103, Try.ntmps103
 go_wp2_with (first | ((with_reducible refine zBe (N := 2) rfl ?_); refine zBb ?hg (N := 2) ?hd (cs := #[.int .i64 a0_0, .int .i64 a0_1, .string a0_2, .string a0_3, .slice A0_4 l0_4.length c0_4, .slice A0_5 l0_5.length c0_5, .int .i64 a0_6, .int .i64 a0_7]) (t := 27) ?hr ?_; (case hd => rfl); (case hg => rfl); (case hr => first | (go_simp; done) | (go_simp; rfl)); intro gb134 hg w13 hbox hb; have n0_ := Aside0.mk (zAe (by repeat (first | (with_reducible first | exact HB.out | apply zAc | apply zAd | apply zAg) | exact HB.out)) hb); have n1_ := Aside0.mk (hbox); have n2_ := Aside0.mk ((by rw [hg]; exact (zAi (by repeat (first | (with_reducible first | exact HB.out | apply zAc | apply zAd | apply zAg) | exact HB.out))) : w.heap.size ≤ gb134)); have n3_ := Aside0.mk ((by rw [hg]; exact (zAi (by repeat (first | (with_reducible first | exact HB.out | apply zAc | apply zAd | apply zAg) | exact HB.out))) : w.heap.size ≤ gb134)); clear HB; have HB := n0_; have BK134 := n1_; have GW134 := n2_; have GE134 := n3_; clear n0_ n1_ n2_ n3_; clear hb hbox hg; have hcz14_0 : w13.cell? ⟨gb134, 0, none⟩ = some (.int .i64 a0_0) := (zAb BK134.out 0).trans rfl; have hcz14_1 : w13.cell? ⟨gb134, 1, none⟩ = some (.int .i64 a0_1) := (zAb BK134.out 1).trans rfl; have hcz14_2 : w13.cell? ⟨gb134, 2, none⟩ = some (.string a0_2) := (zAb BK134.out 2).trans rfl; have hcz14_3 : w13.cell? ⟨gb134, 3, none⟩ = some (.string a0_3) := (zAb BK134.out 3).trans rfl; have hcz14_4 : w13.cell? ⟨gb134, 4, none⟩ = some (.slice A0_4 l0_4.length c0_4) := (zAb BK134.out 4).trans rfl; have hcz14_5 : w13.cell? ⟨gb134, 5, none⟩ = some (.slice A0_5 l0_5.length c0_5) := (zAb BK134.out 5).trans rfl; have hcz14_6 : w13.cell? ⟨gb134, 6, none⟩ = some (.int .i64 a0_6) := (zAb BK134.out 6).trans rfl; have hcz14_7 : w13.cell? ⟨gb134, 7, none⟩ = some (.int .i64 a0_7) := (zAb BK134.out 7).trans rfl; have hfz14_0 := zAa BK134.out 0; have hfz14_1 := zAa BK134.out 1; have hfz14_2 := zAa BK134.out 2; have hfz14_3 := zAa BK134.out 3; have hfz14_4 := zAa BK134.out 4; have hfz14_5 := zAa BK134.out 5; have hfz14_6 := zAa BK134.out 6; have hfz14_7 := zAa BK134.out 7))
 go_ret
 exact ⟨by first | rfl | (simp [zAl, zAk] <;> rfl) | (simp [*, zAl, zAk] <;> rfl), by repeat (first | (with_reducible first | exact HB.out | apply zAc | apply zAd | apply zAg | refine zAh ?_ GE134.out) | exact HB.out)⟩
end
section
attribute [local go_sem] zCx zCv zDm zDl zCj zCi zCw zCu   -- for this text's walks alone
set_option linter.unusedVariables false
set_option linter.unusedSimpArgs false
def tomb_Needs.l0 : Nat → List (S27) → Int → Int → Int → Int → Int → Int → Int → Int → Int → Option (Bool)
 | 0, _, _, _, _, _, _, _, _, _, _ => none
 | k + 1, x7, x8, x9, x136000, x136001, x136002, x136003, x136004, x136005, x136006 => if x9 < x8 then (if 0 ≤ x9 then (if x9 < (x7.length : Int) then (if ((zAo x7 x9).f0) > x136005 then ((tomb_meets.f ((zAo x7 x9).f0) ((zAo x7 x9).f1.f0) ((zAo x7 x9).f1.f1) ((zAo x7 x9).f1.f2) ((zAo x7 x9).f1.f3) ((zAo x7 x9).f1.f4) ((zAo x7 x9).f2) ((zAo x7 x9).f3) x136002).bind fun t138 => (if t138 = true then (some true) else (tomb_Needs.l0 k x7 x8 (wrap64 (x9 + 1)) x136000 x136001 x136002 x136003 x136004 x136005 x136006))) else (tomb_Needs.l0 k x7 x8 (wrap64 (x9 + 1)) x136000 x136001 x136002 x136003 x136004 x136005 x136006)) else (none)) else (none)) else (some false)
def tomb_Needs.f (k : Nat) (a0_0 : Int) (a0_1 : Int) (a0_2 : Int) (a0_3 : Int) (a0_4 : Int) (a0_5 : Int) (a0_6 : Int) (l1 : List (S27)) : Option (Bool) := tomb_Needs.l0 k l1 (l1.length : Int) 0 a0_0 a0_1 a0_2 a0_3 a0_4 a0_5 a0_6
theorem tomb_Needs.calls (k : Nat) (a0_0 : Int) (a0_1 : Int) (a0_2 : Int) (a0_3 : Int) (a0_4 : Int) (a0_5 : Int) (a0_6 : Int) (A1 : Option Addr) (c1 : Nat) (l1 : List (S27)) (r : Bool) (w : World) (hr1 : Kd.C k27 w A1 l1.length l1) (hc1 : l1.length ≤ c1) (h : tomb_Needs.f k a0_0 a0_1 a0_2 a0_3 a0_4 a0_5 a0_6 l1 = some r) :
  Calls Try.prog 47 #[.agg #[.int .i64 a0_0, .int .i64 a0_1, .int .i64 a0_2, .int .i64 a0_3, .int .i64 a0_4, .int .i64 a0_5, .int .i64 a0_6], .slice A1 l1.length c1] w fun e w' => e = .returned (.bool r) ∧ Below w.heap.size w w' := by
 have hu58 := Try.underlying58
 have hu27 := Try.underlying27
 have HR1 := Aside0.mk hr1
 have HC1 := Aside0.mk hc1
 clear hr1 hc1
 have HB := Aside0.mk (Below.refl w.heap.size w)
 have H : (tomb_Needs.l0 k l1 (l1.length : Int) 0 a0_0 a0_1 a0_2 a0_3 a0_4 a0_5 a0_6) = some r := h
 clear h
 have H' := Aside0.mk H
 clear H
 go_enter Try.func47, Try.ntmps47
 go_wp2_with (first | ((with_reducible refine zBe (N := 2) rfl ?_); refine zBb ?hg (N := 2) ?hd (cs := #[.int .i64 a0_0, .int .i64 a0_1, .int .i64 a0_2, .int .i64 a0_3, .int .i64 a0_4, .int .i64 a0_5, .int .i64 a0_6]) (t := 58) ?hr ?_; (case hd => rfl); (case hg => rfl); (case hr => first | (go_simp; done) | (go_simp; rfl)); intro gb135 hg w3 hbox hb; have n0_ := Aside0.mk (zAe (by repeat (first | (with_reducible first | exact HB.out | apply zAc | apply zAd | apply zAg) | exact HB.out)) hb); have n1_ := Aside0.mk (hbox); have n2_ := Aside0.mk ((by rw [hg]; exact (zAi (by repeat (first | (with_reducible first | exact HB.out | apply zAc | apply zAd | apply zAg) | exact HB.out))) : w.heap.size ≤ gb135)); have n3_ := Aside0.mk ((by rw [hg]; exact (zAi (by repeat (first | (with_reducible first | exact HB.out | apply zAc | apply zAd | apply zAg) | exact HB.out))) : w.heap.size ≤ gb135)); clear HB; have HB := n0_; have BK135 := n1_; have GW135 := n2_; have GE135 := n3_; clear n0_ n1_ n2_ n3_; clear hb hbox hg))
 go_loopg [9] k (fun kq v9 w' => ∃ (x9_1 : Int), v9 = .int .i64 x9_1 ∧ Aside0 (tomb_Needs.l0 kq l1 (l1.length : Int) x9_1 a0_0 a0_1 a0_2 a0_3 a0_4 a0_5 a0_6 = some r) ∧ Aside0 (kq ≤ k) ∧ Aside0 (w'.heap[gb135]? = some (.cells #[.int .i64 a0_0, .int .i64 a0_1, .int .i64 a0_2, .int .i64 a0_3, .int .i64 a0_4, .int .i64 a0_5, .int .i64 a0_6] 58 (0, 0))) ∧ Aside0 (Below w.heap.size w w'))
 case atStart => exact ⟨(0), (by first | rfl | (simp; done) | (simp [*]; done)), H', ⟨Nat.le_refl _⟩, ⟨by (with_reducible repeat (first | refine zAj ?_ _ | refine zAm ?_ | refine blk_alloc ?_ _)); exact BK135.out⟩, ⟨by repeat (first | (with_reducible first | exact HB.out | apply zAc | apply zAd | apply zAg | refine zAh ?_ GE135.out) | exact HB.out)⟩⟩
 case round =>
  clear H'
  try clear c1
  try clear p2
  obtain ⟨x9_1, rfl, HA, HK1, BK135, HB⟩ := hrel
  cases gk with
  | zero => exact absurd HA.out (by simp [tomb_Needs.l0])
  | succ k1 =>
  have H := HA.out
  clear HA
  simp only [tomb_Needs.l0] at H
  by_cases c4 : x9_1 < (l1.length : Int)
  ·rw [if_pos c4] at H
   have c4b0 : decide (x9_1 < (l1.length : Int)) = true := zT c4
   clear c4
   by_cases c5 : 0 ≤ x9_1
   ·rw [if_pos c5] at H
    have c5b0 : decide (0 ≤ x9_1) = true := zT c5
    clear c5
    by_cases c6 : x9_1 < (l1.length : Int)
    ·rw [if_pos c6] at H
     have c6b0 : decide (x9_1 < (l1.length : Int)) = true := zT c6
     clear c6
     by_cases c7 : ((zAo l1 x9_1).f0) > a0_5
     ·rw [if_pos c7] at H
      have c7b0 : decide (a0_5 < ((zAo l1 x9_1).f0)) = true := zT c7
      clear c7
      replace H := Option.bind_eq_some_iff.mp H
      obtain ⟨t138, A80, H⟩ := H
      replace H : (if t138 = true then (some true) else (tomb_Needs.l0 k1 l1 (l1.length : Int) (wrap64 (x9_1 + 1)) a0_0 a0_1 a0_2 a0_3 a0_4 a0_5 a0_6)) = some r := H
      have A8 := Aside0.mk A80
      clear A80
      by_cases c9 : t138 = true
      ·subst c9
       have H1 : (some true) = some r := by rw [if_pos rfl] at H; exact H
       clear H
       have H := H1
       clear H1
       obtain rfl := Option.some.inj H
       have p136 : 0 ≤ (x9_1 : Int) := zO (by first | (with_reducible assumption) | assumption)
       have q136 : x9_1 < (l1.length : Int) := zO (by first | (with_reducible assumption) | assumption)
       obtain ⟨ad136, A136_4, c136_4, A136_5, c136_5, e136, hx136_0, hx136_1, hx136_2, hx136_3, hx136_4, hx136_5, hx136_6, hx136_7, hl136_4, hi136_4, hl136_5, hi136_5⟩ := zFi HR1.out x9_1 p136 q136
       cases e136
       replace hx136_0 := (HB.out.cell (World.block_lt_of_cell? w _ hx136_0)).trans hx136_0
       replace hx136_1 := (HB.out.cell (World.block_lt_of_cell? w _ hx136_1)).trans hx136_1
       replace hx136_2 := (HB.out.cell (World.block_lt_of_cell? w _ hx136_2)).trans hx136_2
       replace hx136_3 := (HB.out.cell (World.block_lt_of_cell? w _ hx136_3)).trans hx136_3
       replace hx136_4 := (HB.out.cell (World.block_lt_of_cell? w _ hx136_4)).trans hx136_4
       replace hx136_5 := (HB.out.cell (World.block_lt_of_cell? w _ hx136_5)).trans hx136_5
       replace hx136_6 := (HB.out.cell (World.block_lt_of_cell? w _ hx136_6)).trans hx136_6
       replace hx136_7 := (HB.out.cell (World.block_lt_of_cell? w _ hx136_7)).trans hx136_7
       have HR136_4 := Aside0.mk hi136_4
       have HC136_4 := Aside0.mk hl136_4
       clear hi136_4 hl136_4
       have HR136_5 := Aside0.mk hi136_5
       have HC136_5 := Aside0.mk hl136_5
       clear hi136_5 hl136_5
       replace p136 := eq_true p136
       replace q136 := eq_true q136
       go_wp2_with (first | ((with_reducible refine zBe (N := 6) rfl ?_); refine zBb ?hg (N := 6) ?hd (cs := #[.int .i64 0, .int .i64 0, .string (⟨#[]⟩ : ByteArray), .string (⟨#[]⟩ : ByteArray), .slice none 0 0, .slice none 0 0, .int .i64 0, .int .i64 0]) (t := 27) ?hr ?_; (case hd => rfl); (case hg => rfl); (case hr => first | (go_simp; done) | (go_simp; rfl)); intro gb137 hg w10 hbox hb; have n0_ := Aside0.mk (zBo (g := gb135) (o := .cells #[.int .i64 a0_0, .int .i64 a0_1, .int .i64 a0_2, .int .i64 a0_3, .int .i64 a0_4, .int .i64 a0_5, .int .i64 a0_6] 58 (0, 0)) (by (with_reducible repeat (first | refine zAj ?_ _ | refine zAm ?_ | refine blk_alloc ?_ _)); exact BK135.out) hb); have n1_ := Aside0.mk (zAe (by repeat (first | (with_reducible first | exact HB.out | apply zAc | apply zAd | apply zAg | refine zAh ?_ GE135.out) | exact HB.out)) hb); have n2_ := Aside0.mk (hbox); have n3_ := Aside0.mk ((by rw [hg]; exact (zAi (by repeat (first | (with_reducible first | exact HB.out | apply zAc | apply zAd | apply zAg | refine zAh ?_ GE135.out) | exact HB.out))) : w.heap.size ≤ gb137)); have n4_ := Aside0.mk ((by rw [hg]; exact (zAi (by repeat (first | (with_reducible first | exact HB.out | apply zAc | apply zAd | apply zAg | refine zAh ?_ GE135.out) | exact HB.out))) : w.heap.size ≤ gb137)); have n5_ := Aside0.mk ((by rw [hg]; exact Nat.ne_of_lt (zAp (g := gb135) (o := .cells #[.int .i64 a0_0, .int .i64 a0_1, .int .i64 a0_2, .int .i64 a0_3, .int .i64 a0_4, .int .i64 a0_5, .int .i64 a0_6] 58 (0, 0)) (by (with_reducible repeat (first | refine zAj ?_ _ | refine zAm ?_ | refine blk_alloc ?_ _)); exact BK135.out)) : gb135 ≠ gb137)); have n6_ := Aside0.mk ((by rw [hg]; exact Nat.ne_of_gt (zAp (g := gb135) (o := .cells #[.int .i64 a0_0, .int .i64 a0_1, .int .i64 a0_2, .int .i64 a0_3, .int .i64 a0_4, .int .i64 a0_5, .int .i64 a0_6] 58 (0, 0)) (by (with_reducible repeat (first | refine zAj ?_ _ | refine zAm ?_ | refine blk_alloc ?_ _)); exact BK135.out)) : gb137 ≠ gb135)); clear BK135; clear HB; have BK135 := n0_; have HB := n1_; have BK137 := n2_; have GW137 := n3_; have GE137 := n4_; have NB135_137 := n5_; have NB137_135 := n6_; clear n0_ n1_ n2_ n3_ n4_ n5_ n6_; clear hb hbox hg; have hnb11 := NB137_135.out; have hnc11 := NB135_137.out; have hcz12_0 : w10.cell? ⟨gb137, 0, none⟩ = some (.int .i64 0) := (zAb BK137.out 0).trans rfl; have hcz12_1 : w10.cell? ⟨gb137, 1, none⟩ = some (.int .i64 0) := (zAb BK137.out 1).trans rfl; have hcz12_2 : w10.cell? ⟨gb137, 2, none⟩ = some (.string (⟨#[]⟩ : ByteArray)) := (zAb BK137.out 2).trans rfl; have hcz12_3 : w10.cell? ⟨gb137, 3, none⟩ = some (.string (⟨#[]⟩ : ByteArray)) := (zAb BK137.out 3).trans rfl; have hcz12_4 : w10.cell? ⟨gb137, 4, none⟩ = some (.slice none 0 0) := (zAb BK137.out 4).trans rfl; have hcz12_5 : w10.cell? ⟨gb137, 5, none⟩ = some (.slice none 0 0) := (zAb BK137.out 5).trans rfl; have hcz12_6 : w10.cell? ⟨gb137, 6, none⟩ = some (.int .i64 0) := (zAb BK137.out 6).trans rfl; have hcz12_7 : w10.cell? ⟨gb137, 7, none⟩ = some (.int .i64 0) := (zAb BK137.out 7).trans rfl; have hfz12_0 := zAa BK137.out 0; have hfz12_1 := zAa BK137.out 1; have hfz12_2 := zAa BK137.out 2; have hfz12_3 := zAa BK137.out 3; have hfz12_4 := zAa BK137.out 4; have hfz12_5 := zAa BK137.out 5; have hfz12_6 := zAa BK137.out 6; have hfz12_7 := zAa BK137.out 7; have hcz13_0 : w10.cell? ⟨gb135, 0, none⟩ = some (.int .i64 a0_0) := (zAb BK135.out 0).trans rfl; have hcz13_1 : w10.cell? ⟨gb135, 1, none⟩ = some (.int .i64 a0_1) := (zAb BK135.out 1).trans rfl; have hcz13_2 : w10.cell? ⟨gb135, 2, none⟩ = some (.int .i64 a0_2) := (zAb BK135.out 2).trans rfl; have hcz13_3 : w10.cell? ⟨gb135, 3, none⟩ = some (.int .i64 a0_3) := (zAb BK135.out 3).trans rfl; have hcz13_4 : w10.cell? ⟨gb135, 4, none⟩ = some (.int .i64 a0_4) := (zAb BK135.out 4).trans rfl; have hcz13_5 : w10.cell? ⟨gb135, 5, none⟩ = some (.int .i64 a0_5) := (zAb BK135.out 5).trans rfl; have hcz13_6 : w10.cell? ⟨gb135, 6, none⟩ = some (.int .i64 a0_6) := (zAb BK135.out 6).trans rfl; have hfz13_0 := zAa BK135.out 0; have hfz13_1 := zAa BK135.out 1; have hfz13_2 := zAa BK135.out 2; have hfz13_3 := zAa BK135.out 3; have hfz13_4 := zAa BK135.out 4; have hfz13_5 := zAa BK135.out 5; have hfz13_6 := zAa BK135.out 6) | (go_at_call 103; (with_reducible refine (tomb_meets.calls ((zAo l1 x9_1).f0) ((zAo l1 x9_1).f1.f0) ((zAo l1 x9_1).f1.f1) ((zAo l1 x9_1).f1.f2) _ _ ((zAo l1 x9_1).f1.f3) _ _ ((zAo l1 x9_1).f1.f4) ((zAo l1 x9_1).f2) ((zAo l1 x9_1).f3) a0_2 true _ ?side1 ?side2 ?side3 ?side4 A8.out).mono ?_); (case side1 => exact Kd.C_below HR136_4.out (by repeat (first | (with_reducible first | exact HB.out | apply zAc | apply zAd | apply zAg | refine zAh ?_ GE135.out | refine zAh ?_ GE137.out) | exact HB.out))); (case side2 => exact HC136_4.out); (case side3 => exact Kd.C_below HR136_5.out (by repeat (first | (with_reducible first | exact HB.out | apply zAc | apply zAd | apply zAg | refine zAh ?_ GE135.out | refine zAh ?_ GE137.out) | exact HB.out))); (case side4 => exact HC136_5.out); rintro e w14 ⟨rfl, hb⟩; have n0_ := Aside0.mk (zBo (g := gb135) (o := .cells #[.int .i64 a0_0, .int .i64 a0_1, .int .i64 a0_2, .int .i64 a0_3, .int .i64 a0_4, .int .i64 a0_5, .int .i64 a0_6] 58 (0, 0)) (by (with_reducible repeat (first | refine zAj ?_ _ | refine zAm ?_ | refine blk_alloc ?_ _)); refine zBk ?_ NB135_137.out _; (with_reducible repeat (first | refine zAj ?_ _ | refine zAm ?_ | refine blk_alloc ?_ _)); refine zBk ?_ NB135_137.out _; (with_reducible repeat (first | refine zAj ?_ _ | refine zAm ?_ | refine blk_alloc ?_ _)); refine zBk ?_ NB135_137.out _; (with_reducible repeat (first | refine zAj ?_ _ | refine zAm ?_ | refine blk_alloc ?_ _)); refine zBk ?_ NB135_137.out _; (with_reducible repeat (first | refine zAj ?_ _ | refine zAm ?_ | refine blk_alloc ?_ _)); refine zBk ?_ NB135_137.out _; (with_reducible repeat (first | refine zAj ?_ _ | refine zAm ?_ | refine blk_alloc ?_ _)); refine zBk ?_ NB135_137.out _; (with_reducible repeat (first | refine zAj ?_ _ | refine zAm ?_ | refine blk_alloc ?_ _)); refine zBk ?_ NB135_137.out _; (with_reducible repeat (first | refine zAj ?_ _ | refine zAm ?_ | refine blk_alloc ?_ _)); refine zBk ?_ NB135_137.out _; (with_reducible repeat (first | refine zAj ?_ _ | refine zAm ?_ | refine blk_alloc ?_ _)); exact BK135.out) hb); have n1_ := Aside0.mk (zBo (g := gb137) (o := .cells #[.int .i64 ((zAo l1 x9_1).f0), .int .i64 ((zAo l1 x9_1).f1.f0), .string ((zAo l1 x9_1).f1.f1), .string ((zAo l1 x9_1).f1.f2), .slice A136_4 ((zAo l1 x9_1).f1.f3).length c136_4, .slice A136_5 ((zAo l1 x9_1).f1.f4).length c136_5, .int .i64 ((zAo l1 x9_1).f2), .int .i64 ((zAo l1 x9_1).f3)] 27 (0, 0)) (by (with_reducible repeat (first | refine zAj ?_ _ | refine zAm ?_ | refine blk_alloc ?_ _)); refine zBv (cs := #[.int .i64 ((zAo l1 x9_1).f0), .int .i64 ((zAo l1 x9_1).f1.f0), .string ((zAo l1 x9_1).f1.f1), .string ((zAo l1 x9_1).f1.f2), .slice A136_4 ((zAo l1 x9_1).f1.f3).length c136_4, .slice A136_5 ((zAo l1 x9_1).f1.f4).length c136_5, .int .i64 ((zAo l1 x9_1).f2), .int .i64 0]) ?_ 7 _ rfl; (with_reducible repeat (first | refine zAj ?_ _ | refine zAm ?_ | refine blk_alloc ?_ _)); refine zBv (cs := #[.int .i64 ((zAo l1 x9_1).f0), .int .i64 ((zAo l1 x9_1).f1.f0), .string ((zAo l1 x9_1).f1.f1), .string ((zAo l1 x9_1).f1.f2), .slice A136_4 ((zAo l1 x9_1).f1.f3).length c136_4, .slice A136_5 ((zAo l1 x9_1).f1.f4).length c136_5, .int .i64 0, .int .i64 0]) ?_ 6 _ rfl; (with_reducible repeat (first | refine zAj ?_ _ | refine zAm ?_ | refine blk_alloc ?_ _)); refine zBv (cs := #[.int .i64 ((zAo l1 x9_1).f0), .int .i64 ((zAo l1 x9_1).f1.f0), .string ((zAo l1 x9_1).f1.f1), .string ((zAo l1 x9_1).f1.f2), .slice A136_4 ((zAo l1 x9_1).f1.f3).length c136_4, .slice none 0 0, .int .i64 0, .int .i64 0]) ?_ 5 _ rfl; (with_reducible repeat (first | refine zAj ?_ _ | refine zAm ?_ | refine blk_alloc ?_ _)); refine zBv (cs := #[.int .i64 ((zAo l1 x9_1).f0), .int .i64 ((zAo l1 x9_1).f1.f0), .string ((zAo l1 x9_1).f1.f1), .string ((zAo l1 x9_1).f1.f2), .slice none 0 0, .slice none 0 0, .int .i64 0, .int .i64 0]) ?_ 4 _ rfl; (with_reducible repeat (first | refine zAj ?_ _ | refine zAm ?_ | refine blk_alloc ?_ _)); refine zBv (cs := #[.int .i64 ((zAo l1 x9_1).f0), .int .i64 ((zAo l1 x9_1).f1.f0), .string ((zAo l1 x9_1).f1.f1), .string (⟨#[]⟩ : ByteArray), .slice none 0 0, .slice none 0 0, .int .i64 0, .int .i64 0]) ?_ 3 _ rfl; (with_reducible repeat (first | refine zAj ?_ _ | refine zAm ?_ | refine blk_alloc ?_ _)); refine zBv (cs := #[.int .i64 ((zAo l1 x9_1).f0), .int .i64 ((zAo l1 x9_1).f1.f0), .string (⟨#[]⟩ : ByteArray), .string (⟨#[]⟩ : ByteArray), .slice none 0 0, .slice none 0 0, .int .i64 0, .int .i64 0]) ?_ 2 _ rfl; (with_reducible repeat (first | refine zAj ?_ _ | refine zAm ?_ | refine blk_alloc ?_ _)); refine zBv (cs := #[.int .i64 ((zAo l1 x9_1).f0), .int .i64 0, .string (⟨#[]⟩ : ByteArray), .string (⟨#[]⟩ : ByteArray), .slice none 0 0, .slice none 0 0, .int .i64 0, .int .i64 0]) ?_ 1 _ rfl; (with_reducible repeat (first | refine zAj ?_ _ | refine zAm ?_ | refine blk_alloc ?_ _)); refine zBv (cs := #[.int .i64 0, .int .i64 0, .string (⟨#[]⟩ : ByteArray), .string (⟨#[]⟩ : ByteArray), .slice none 0 0, .slice none 0 0, .int .i64 0, .int .i64 0]) ?_ 0 _ rfl; (with_reducible repeat (first | refine zAj ?_ _ | refine zAm ?_ | refine blk_alloc ?_ _)); exact BK137.out) hb); have n2_ := Aside0.mk (zAe (by repeat (first | (with_reducible first | exact HB.out | apply zAc | apply zAd | apply zAg | refine zAh ?_ GE135.out | refine zAh ?_ GE137.out) | exact HB.out)) hb); clear BK135; clear BK137; clear HB; have BK135 := n0_; have BK137 := n1_; have HB := n2_; clear n0_ n1_ n2_; (try clear hb); (try clear hb2); (try clear hk); (try clear hi)))
       go_ret
       exact ⟨by first | rfl | (simp [zAl, zAk] <;> rfl) | (simp [*, zAl, zAk] <;> rfl), by repeat (first | (with_reducible first | exact HB.out | apply zAc | apply zAd | apply zAg | refine zAh ?_ GE135.out | refine zAh ?_ GE137.out) | exact HB.out)⟩
      replace c9 := Bool.eq_false_iff.mpr c9
      subst c9
      have H1 : (tomb_Needs.l0 k1 l1 (l1.length : Int) (wrap64 (x9_1 + 1)) a0_0 a0_1 a0_2 a0_3 a0_4 a0_5 a0_6) = some r := by rw [if_neg (show ¬ (false = true) by decide)] at H; exact H
      clear H
      have H := H1
      clear H1
      have H' := Aside0.mk H
      clear H
      have p136 : 0 ≤ (x9_1 : Int) := zO (by first | (with_reducible assumption) | assumption)
      have q136 : x9_1 < (l1.length : Int) := zO (by first | (with_reducible assumption) | assumption)
      obtain ⟨ad136, A136_4, c136_4, A136_5, c136_5, e136, hx136_0, hx136_1, hx136_2, hx136_3, hx136_4, hx136_5, hx136_6, hx136_7, hl136_4, hi136_4, hl136_5, hi136_5⟩ := zFi HR1.out x9_1 p136 q136
      cases e136
      replace hx136_0 := (HB.out.cell (World.block_lt_of_cell? w _ hx136_0)).trans hx136_0
      replace hx136_1 := (HB.out.cell (World.block_lt_of_cell? w _ hx136_1)).trans hx136_1
      replace hx136_2 := (HB.out.cell (World.block_lt_of_cell? w _ hx136_2)).trans hx136_2
      replace hx136_3 := (HB.out.cell (World.block_lt_of_cell? w _ hx136_3)).trans hx136_3
      replace hx136_4 := (HB.out.cell (World.block_lt_of_cell? w _ hx136_4)).trans hx136_4
      replace hx136_5 := (HB.out.cell (World.block_lt_of_cell? w _ hx136_5)).trans hx136_5
      replace hx136_6 := (HB.out.cell (World.block_lt_of_cell? w _ hx136_6)).trans hx136_6
      replace hx136_7 := (HB.out.cell (World.block_lt_of_cell? w _ hx136_7)).trans hx136_7
      have HR136_4 := Aside0.mk hi136_4
      have HC136_4 := Aside0.mk hl136_4
      clear hi136_4 hl136_4
      have HR136_5 := Aside0.mk hi136_5
      have HC136_5 := Aside0.mk hl136_5
      clear hi136_5 hl136_5
      replace p136 := eq_true p136
      replace q136 := eq_true q136
      go_wp2_with (first | ((with_reducible refine zBe (N := 6) rfl ?_); refine zBb ?hg (N := 6) ?hd (cs := #[.int .i64 0, .int .i64 0, .string (⟨#[]⟩ : ByteArray), .string (⟨#[]⟩ : ByteArray), .slice none 0 0, .slice none 0 0, .int .i64 0, .int .i64 0]) (t := 27) ?hr ?_; (case hd => rfl); (case hg => rfl); (case hr => first | (go_simp; done) | (go_simp; rfl)); intro gb137 hg w15 hbox hb; have n0_ := Aside0.mk (zBo (g := gb135) (o := .cells #[.int .i64 a0_0, .int .i64 a0_1, .int .i64 a0_2, .int .i64 a0_3, .int .i64 a0_4, .int .i64 a0_5, .int .i64 a0_6] 58 (0, 0)) (by (with_reducible repeat (first | refine zAj ?_ _ | refine zAm ?_ | refine blk_alloc ?_ _)); exact BK135.out) hb); have n1_ := Aside0.mk (zAe (by repeat (first | (with_reducible first | exact HB.out | apply zAc | apply zAd | apply zAg | refine zAh ?_ GE135.out) | exact HB.out)) hb); have n2_ := Aside0.mk (hbox); have n3_ := Aside0.mk ((by rw [hg]; exact (zAi (by repeat (first | (with_reducible first | exact HB.out | apply zAc | apply zAd | apply zAg | refine zAh ?_ GE135.out) | exact HB.out))) : w.heap.size ≤ gb137)); have n4_ := Aside0.mk ((by rw [hg]; exact (zAi (by repeat (first | (with_reducible first | exact HB.out | apply zAc | apply zAd | apply zAg | refine zAh ?_ GE135.out) | exact HB.out))) : w.heap.size ≤ gb137)); have n5_ := Aside0.mk ((by rw [hg]; exact Nat.ne_of_lt (zAp (g := gb135) (o := .cells #[.int .i64 a0_0, .int .i64 a0_1, .int .i64 a0_2, .int .i64 a0_3, .int .i64 a0_4, .int .i64 a0_5, .int .i64 a0_6] 58 (0, 0)) (by (with_reducible repeat (first | refine zAj ?_ _ | refine zAm ?_ | refine blk_alloc ?_ _)); exact BK135.out)) : gb135 ≠ gb137)); have n6_ := Aside0.mk ((by rw [hg]; exact Nat.ne_of_gt (zAp (g := gb135) (o := .cells #[.int .i64 a0_0, .int .i64 a0_1, .int .i64 a0_2, .int .i64 a0_3, .int .i64 a0_4, .int .i64 a0_5, .int .i64 a0_6] 58 (0, 0)) (by (with_reducible repeat (first | refine zAj ?_ _ | refine zAm ?_ | refine blk_alloc ?_ _)); exact BK135.out)) : gb137 ≠ gb135)); clear BK135; clear HB; have BK135 := n0_; have HB := n1_; have BK137 := n2_; have GW137 := n3_; have GE137 := n4_; have NB135_137 := n5_; have NB137_135 := n6_; clear n0_ n1_ n2_ n3_ n4_ n5_ n6_; clear hb hbox hg; have hnb16 := NB137_135.out; have hnc16 := NB135_137.out; have hcz17_0 : w15.cell? ⟨gb137, 0, none⟩ = some (.int .i64 0) := (zAb BK137.out 0).trans rfl; have hcz17_1 : w15.cell? ⟨gb137, 1, none⟩ = some (.int .i64 0) := (zAb BK137.out 1).trans rfl; have hcz17_2 : w15.cell? ⟨gb137, 2, none⟩ = some (.string (⟨#[]⟩ : ByteArray)) := (zAb BK137.out 2).trans rfl; have hcz17_3 : w15.cell? ⟨gb137, 3, none⟩ = some (.string (⟨#[]⟩ : ByteArray)) := (zAb BK137.out 3).trans rfl; have hcz17_4 : w15.cell? ⟨gb137, 4, none⟩ = some (.slice none 0 0) := (zAb BK137.out 4).trans rfl; have hcz17_5 : w15.cell? ⟨gb137, 5, none⟩ = some (.slice none 0 0) := (zAb BK137.out 5).trans rfl; have hcz17_6 : w15.cell? ⟨gb137, 6, none⟩ = some (.int .i64 0) := (zAb BK137.out 6).trans rfl; have hcz17_7 : w15.cell? ⟨gb137, 7, none⟩ = some (.int .i64 0) := (zAb BK137.out 7).trans rfl; have hfz17_0 := zAa BK137.out 0; have hfz17_1 := zAa BK137.out 1; have hfz17_2 := zAa BK137.out 2; have hfz17_3 := zAa BK137.out 3; have hfz17_4 := zAa BK137.out 4; have hfz17_5 := zAa BK137.out 5; have hfz17_6 := zAa BK137.out 6; have hfz17_7 := zAa BK137.out 7; have hcz18_0 : w15.cell? ⟨gb135, 0, none⟩ = some (.int .i64 a0_0) := (zAb BK135.out 0).trans rfl; have hcz18_1 : w15.cell? ⟨gb135, 1, none⟩ = some (.int .i64 a0_1) := (zAb BK135.out 1).trans rfl; have hcz18_2 : w15.cell? ⟨gb135, 2, none⟩ = some (.int .i64 a0_2) := (zAb BK135.out 2).trans rfl; have hcz18_3 : w15.cell? ⟨gb135, 3, none⟩ = some (.int .i64 a0_3) := (zAb BK135.out 3).trans rfl; have hcz18_4 : w15.cell? ⟨gb135, 4, none⟩ = some (.int .i64 a0_4) := (zAb BK135.out 4).trans rfl; have hcz18_5 : w15.cell? ⟨gb135, 5, none⟩ = some (.int .i64 a0_5) := (zAb BK135.out 5).trans rfl; have hcz18_6 : w15.cell? ⟨gb135, 6, none⟩ = some (.int .i64 a0_6) := (zAb BK135.out 6).trans rfl; have hfz18_0 := zAa BK135.out 0; have hfz18_1 := zAa BK135.out 1; have hfz18_2 := zAa BK135.out 2; have hfz18_3 := zAa BK135.out 3; have hfz18_4 := zAa BK135.out 4; have hfz18_5 := zAa BK135.out 5; have hfz18_6 := zAa BK135.out 6) | (go_at_call 103; (with_reducible refine (tomb_meets.calls ((zAo l1 x9_1).f0) ((zAo l1 x9_1).f1.f0) ((zAo l1 x9_1).f1.f1) ((zAo l1 x9_1).f1.f2) _ _ ((zAo l1 x9_1).f1.f3) _ _ ((zAo l1 x9_1).f1.f4) ((zAo l1 x9_1).f2) ((zAo l1 x9_1).f3) a0_2 false _ ?side1 ?side2 ?side3 ?side4 A8.out).mono ?_); (case side1 => exact Kd.C_below HR136_4.out (by repeat (first | (with_reducible first | exact HB.out | apply zAc | apply zAd | apply zAg | refine zAh ?_ GE135.out | refine zAh ?_ GE137.out) | exact HB.out))); (case side2 => exact HC136_4.out); (case side3 => exact Kd.C_below HR136_5.out (by repeat (first | (with_reducible first | exact HB.out | apply zAc | apply zAd | apply zAg | refine zAh ?_ GE135.out | refine zAh ?_ GE137.out) | exact HB.out))); (case side4 => exact HC136_5.out); rintro e w19 ⟨rfl, hb⟩; have n0_ := Aside0.mk (zBo (g := gb135) (o := .cells #[.int .i64 a0_0, .int .i64 a0_1, .int .i64 a0_2, .int .i64 a0_3, .int .i64 a0_4, .int .i64 a0_5, .int .i64 a0_6] 58 (0, 0)) (by (with_reducible repeat (first | refine zAj ?_ _ | refine zAm ?_ | refine blk_alloc ?_ _)); refine zBk ?_ NB135_137.out _; (with_reducible repeat (first | refine zAj ?_ _ | refine zAm ?_ | refine blk_alloc ?_ _)); refine zBk ?_ NB135_137.out _; (with_reducible repeat (first | refine zAj ?_ _ | refine zAm ?_ | refine blk_alloc ?_ _)); refine zBk ?_ NB135_137.out _; (with_reducible repeat (first | refine zAj ?_ _ | refine zAm ?_ | refine blk_alloc ?_ _)); refine zBk ?_ NB135_137.out _; (with_reducible repeat (first | refine zAj ?_ _ | refine zAm ?_ | refine blk_alloc ?_ _)); refine zBk ?_ NB135_137.out _; (with_reducible repeat (first | refine zAj ?_ _ | refine zAm ?_ | refine blk_alloc ?_ _)); refine zBk ?_ NB135_137.out _; (with_reducible repeat (first | refine zAj ?_ _ | refine zAm ?_ | refine blk_alloc ?_ _)); refine zBk ?_ NB135_137.out _; (with_reducible repeat (first | refine zAj ?_ _ | refine zAm ?_ | refine blk_alloc ?_ _)); refine zBk ?_ NB135_137.out _; (with_reducible repeat (first | refine zAj ?_ _ | refine zAm ?_ | refine blk_alloc ?_ _)); exact BK135.out) hb); have n1_ := Aside0.mk (zBo (g := gb137) (o := .cells #[.int .i64 ((zAo l1 x9_1).f0), .int .i64 ((zAo l1 x9_1).f1.f0), .string ((zAo l1 x9_1).f1.f1), .string ((zAo l1 x9_1).f1.f2), .slice A136_4 ((zAo l1 x9_1).f1.f3).length c136_4, .slice A136_5 ((zAo l1 x9_1).f1.f4).length c136_5, .int .i64 ((zAo l1 x9_1).f2), .int .i64 ((zAo l1 x9_1).f3)] 27 (0, 0)) (by (with_reducible repeat (first | refine zAj ?_ _ | refine zAm ?_ | refine blk_alloc ?_ _)); refine zBv (cs := #[.int .i64 ((zAo l1 x9_1).f0), .int .i64 ((zAo l1 x9_1).f1.f0), .string ((zAo l1 x9_1).f1.f1), .string ((zAo l1 x9_1).f1.f2), .slice A136_4 ((zAo l1 x9_1).f1.f3).length c136_4, .slice A136_5 ((zAo l1 x9_1).f1.f4).length c136_5, .int .i64 ((zAo l1 x9_1).f2), .int .i64 0]) ?_ 7 _ rfl; (with_reducible repeat (first | refine zAj ?_ _ | refine zAm ?_ | refine blk_alloc ?_ _)); refine zBv (cs := #[.int .i64 ((zAo l1 x9_1).f0), .int .i64 ((zAo l1 x9_1).f1.f0), .string ((zAo l1 x9_1).f1.f1), .string ((zAo l1 x9_1).f1.f2), .slice A136_4 ((zAo l1 x9_1).f1.f3).length c136_4, .slice A136_5 ((zAo l1 x9_1).f1.f4).length c136_5, .int .i64 0, .int .i64 0]) ?_ 6 _ rfl; (with_reducible repeat (first | refine zAj ?_ _ | refine zAm ?_ | refine blk_alloc ?_ _)); refine zBv (cs := #[.int .i64 ((zAo l1 x9_1).f0), .int .i64 ((zAo l1 x9_1).f1.f0), .string ((zAo l1 x9_1).f1.f1), .string ((zAo l1 x9_1).f1.f2), .slice A136_4 ((zAo l1 x9_1).f1.f3).length c136_4, .slice none 0 0, .int .i64 0, .int .i64 0]) ?_ 5 _ rfl; (with_reducible repeat (first | refine zAj ?_ _ | refine zAm ?_ | refine blk_alloc ?_ _)); refine zBv (cs := #[.int .i64 ((zAo l1 x9_1).f0), .int .i64 ((zAo l1 x9_1).f1.f0), .string ((zAo l1 x9_1).f1.f1), .string ((zAo l1 x9_1).f1.f2), .slice none 0 0, .slice none 0 0, .int .i64 0, .int .i64 0]) ?_ 4 _ rfl; (with_reducible repeat (first | refine zAj ?_ _ | refine zAm ?_ | refine blk_alloc ?_ _)); refine zBv (cs := #[.int .i64 ((zAo l1 x9_1).f0), .int .i64 ((zAo l1 x9_1).f1.f0), .string ((zAo l1 x9_1).f1.f1), .string (⟨#[]⟩ : ByteArray), .slice none 0 0, .slice none 0 0, .int .i64 0, .int .i64 0]) ?_ 3 _ rfl; (with_reducible repeat (first | refine zAj ?_ _ | refine zAm ?_ | refine blk_alloc ?_ _)); refine zBv (cs := #[.int .i64 ((zAo l1 x9_1).f0), .int .i64 ((zAo l1 x9_1).f1.f0), .string (⟨#[]⟩ : ByteArray), .string (⟨#[]⟩ : ByteArray), .slice none 0 0, .slice none 0 0, .int .i64 0, .int .i64 0]) ?_ 2 _ rfl; (with_reducible repeat (first | refine zAj ?_ _ | refine zAm ?_ | refine blk_alloc ?_ _)); refine zBv (cs := #[.int .i64 ((zAo l1 x9_1).f0), .int .i64 0, .string (⟨#[]⟩ : ByteArray), .string (⟨#[]⟩ : ByteArray), .slice none 0 0, .slice none 0 0, .int .i64 0, .int .i64 0]) ?_ 1 _ rfl; (with_reducible repeat (first | refine zAj ?_ _ | refine zAm ?_ | refine blk_alloc ?_ _)); refine zBv (cs := #[.int .i64 0, .int .i64 0, .string (⟨#[]⟩ : ByteArray), .string (⟨#[]⟩ : ByteArray), .slice none 0 0, .slice none 0 0, .int .i64 0, .int .i64 0]) ?_ 0 _ rfl; (with_reducible repeat (first | refine zAj ?_ _ | refine zAm ?_ | refine blk_alloc ?_ _)); exact BK137.out) hb); have n2_ := Aside0.mk (zAe (by repeat (first | (with_reducible first | exact HB.out | apply zAc | apply zAd | apply zAg | refine zAh ?_ GE135.out | refine zAh ?_ GE137.out) | exact HB.out)) hb); clear BK135; clear BK137; clear HB; have BK135 := n0_; have BK137 := n1_; have HB := n2_; clear n0_ n1_ n2_; (try clear hb); (try clear hb2); (try clear hk); (try clear hi)))
      go_roundg k1
      case measure => have := HK1.out; omega
      case rel => exact ⟨(wrap64 (x9_1 + 1)), (by first | rfl | (simp; done) | (simp [*]; done)), H', ⟨by have := HK1.out; omega⟩, ⟨by (with_reducible repeat (first | refine zAj ?_ _ | refine zAm ?_ | refine blk_alloc ?_ _)); exact BK135.out⟩, ⟨by repeat (first | (with_reducible first | exact HB.out | apply zAc | apply zAd | apply zAg | refine zAh ?_ GE135.out | refine zAh ?_ GE137.out) | exact HB.out)⟩⟩
     rw [if_neg c7] at H
     have c7b0 : decide (a0_5 < ((zAo l1 x9_1).f0)) = false := zF c7
     clear c7
     have H' := Aside0.mk H
     clear H
     have p136 : 0 ≤ (x9_1 : Int) := zO (by first | (with_reducible assumption) | assumption)
     have q136 : x9_1 < (l1.length : Int) := zO (by first | (with_reducible assumption) | assumption)
     obtain ⟨ad136, A136_4, c136_4, A136_5, c136_5, e136, hx136_0, hx136_1, hx136_2, hx136_3, hx136_4, hx136_5, hx136_6, hx136_7, hl136_4, hi136_4, hl136_5, hi136_5⟩ := zFi HR1.out x9_1 p136 q136
     cases e136
     replace hx136_0 := (HB.out.cell (World.block_lt_of_cell? w _ hx136_0)).trans hx136_0
     replace hx136_1 := (HB.out.cell (World.block_lt_of_cell? w _ hx136_1)).trans hx136_1
     replace hx136_2 := (HB.out.cell (World.block_lt_of_cell? w _ hx136_2)).trans hx136_2
     replace hx136_3 := (HB.out.cell (World.block_lt_of_cell? w _ hx136_3)).trans hx136_3
     replace hx136_4 := (HB.out.cell (World.block_lt_of_cell? w _ hx136_4)).trans hx136_4
     replace hx136_5 := (HB.out.cell (World.block_lt_of_cell? w _ hx136_5)).trans hx136_5
     replace hx136_6 := (HB.out.cell (World.block_lt_of_cell? w _ hx136_6)).trans hx136_6
     replace hx136_7 := (HB.out.cell (World.block_lt_of_cell? w _ hx136_7)).trans hx136_7
     have HR136_4 := Aside0.mk hi136_4
     have HC136_4 := Aside0.mk hl136_4
     clear hi136_4 hl136_4
     have HR136_5 := Aside0.mk hi136_5
     have HC136_5 := Aside0.mk hl136_5
     clear hi136_5 hl136_5
     replace p136 := eq_true p136
     replace q136 := eq_true q136
     go_wp2_with (first | ((with_reducible refine zBe (N := 6) rfl ?_); refine zBb ?hg (N := 6) ?hd (cs := #[.int .i64 0, .int .i64 0, .string (⟨#[]⟩ : ByteArray), .string (⟨#[]⟩ : ByteArray), .slice none 0 0, .slice none 0 0, .int .i64 0, .int .i64 0]) (t := 27) ?hr ?_; (case hd => rfl); (case hg => rfl); (case hr => first | (go_simp; done) | (go_simp; rfl)); intro gb137 hg w20 hbox hb; have n0_ := Aside0.mk (zBo (g := gb135) (o := .cells #[.int .i64 a0_0, .int .i64 a0_1, .int .i64 a0_2, .int .i64 a0_3, .int .i64 a0_4, .int .i64 a0_5, .int .i64 a0_6] 58 (0, 0)) (by (with_reducible repeat (first | refine zAj ?_ _ | refine zAm ?_ | refine blk_alloc ?_ _)); exact BK135.out) hb); have n1_ := Aside0.mk (zAe (by repeat (first | (with_reducible first | exact HB.out | apply zAc | apply zAd | apply zAg | refine zAh ?_ GE135.out) | exact HB.out)) hb); have n2_ := Aside0.mk (hbox); have n3_ := Aside0.mk ((by rw [hg]; exact (zAi (by repeat (first | (with_reducible first | exact HB.out | apply zAc | apply zAd | apply zAg | refine zAh ?_ GE135.out) | exact HB.out))) : w.heap.size ≤ gb137)); have n4_ := Aside0.mk ((by rw [hg]; exact (zAi (by repeat (first | (with_reducible first | exact HB.out | apply zAc | apply zAd | apply zAg | refine zAh ?_ GE135.out) | exact HB.out))) : w.heap.size ≤ gb137)); have n5_ := Aside0.mk ((by rw [hg]; exact Nat.ne_of_lt (zAp (g := gb135) (o := .cells #[.int .i64 a0_0, .int .i64 a0_1, .int .i64 a0_2, .int .i64 a0_3, .int .i64 a0_4, .int .i64 a0_5, .int .i64 a0_6] 58 (0, 0)) (by (with_reducible repeat (first | refine zAj ?_ _ | refine zAm ?_ | refine blk_alloc ?_ _)); exact BK135.out)) : gb135 ≠ gb137)); have n6_ := Aside0.mk ((by rw [hg]; exact Nat.ne_of_gt (zAp (g := gb135) (o := .cells #[.int .i64 a0_0, .int .i64 a0_1, .int .i64 a0_2, .int .i64 a0_3, .int .i64 a0_4, .int .i64 a0_5, .int .i64 a0_6] 58 (0, 0)) (by (with_reducible repeat (first | refine zAj ?_ _ | refine zAm ?_ | refine blk_alloc ?_ _)); exact BK135.out)) : gb137 ≠ gb135)); clear BK135; clear HB; have BK135 := n0_; have HB := n1_; have BK137 := n2_; have GW137 := n3_; have GE137 := n4_; have NB135_137 := n5_; have NB137_135 := n6_; clear n0_ n1_ n2_ n3_ n4_ n5_ n6_; clear hb hbox hg; have hnb21 := NB137_135.out; have hnc21 := NB135_137.out; have hcz22_0 : w20.cell? ⟨gb137, 0, none⟩ = some (.int .i64 0) := (zAb BK137.out 0).trans rfl; have hcz22_1 : w20.cell? ⟨gb137, 1, none⟩ = some (.int .i64 0) := (zAb BK137.out 1).trans rfl; have hcz22_2 : w20.cell? ⟨gb137, 2, none⟩ = some (.string (⟨#[]⟩ : ByteArray)) := (zAb BK137.out 2).trans rfl; have hcz22_3 : w20.cell? ⟨gb137, 3, none⟩ = some (.string (⟨#[]⟩ : ByteArray)) := (zAb BK137.out 3).trans rfl; have hcz22_4 : w20.cell? ⟨gb137, 4, none⟩ = some (.slice none 0 0) := (zAb BK137.out 4).trans rfl; have hcz22_5 : w20.cell? ⟨gb137, 5, none⟩ = some (.slice none 0 0) := (zAb BK137.out 5).trans rfl; have hcz22_6 : w20.cell? ⟨gb137, 6, none⟩ = some (.int .i64 0) := (zAb BK137.out 6).trans rfl; have hcz22_7 : w20.cell? ⟨gb137, 7, none⟩ = some (.int .i64 0) := (zAb BK137.out 7).trans rfl; have hfz22_0 := zAa BK137.out 0; have hfz22_1 := zAa BK137.out 1; have hfz22_2 := zAa BK137.out 2; have hfz22_3 := zAa BK137.out 3; have hfz22_4 := zAa BK137.out 4; have hfz22_5 := zAa BK137.out 5; have hfz22_6 := zAa BK137.out 6; have hfz22_7 := zAa BK137.out 7; have hcz23_0 : w20.cell? ⟨gb135, 0, none⟩ = some (.int .i64 a0_0) := (zAb BK135.out 0).trans rfl; have hcz23_1 : w20.cell? ⟨gb135, 1, none⟩ = some (.int .i64 a0_1) := (zAb BK135.out 1).trans rfl; have hcz23_2 : w20.cell? ⟨gb135, 2, none⟩ = some (.int .i64 a0_2) := (zAb BK135.out 2).trans rfl; have hcz23_3 : w20.cell? ⟨gb135, 3, none⟩ = some (.int .i64 a0_3) := (zAb BK135.out 3).trans rfl; have hcz23_4 : w20.cell? ⟨gb135, 4, none⟩ = some (.int .i64 a0_4) := (zAb BK135.out 4).trans rfl; have hcz23_5 : w20.cell? ⟨gb135, 5, none⟩ = some (.int .i64 a0_5) := (zAb BK135.out 5).trans rfl; have hcz23_6 : w20.cell? ⟨gb135, 6, none⟩ = some (.int .i64 a0_6) := (zAb BK135.out 6).trans rfl; have hfz23_0 := zAa BK135.out 0; have hfz23_1 := zAa BK135.out 1; have hfz23_2 := zAa BK135.out 2; have hfz23_3 := zAa BK135.out 3; have hfz23_4 := zAa BK135.out 4; have hfz23_5 := zAa BK135.out 5; have hfz23_6 := zAa BK135.out 6))
     go_roundg k1
     case measure => have := HK1.out; omega
     case rel => exact ⟨(wrap64 (x9_1 + 1)), (by first | rfl | (simp; done) | (simp [*]; done)), H', ⟨by have := HK1.out; omega⟩, ⟨by (with_reducible repeat (first | refine zAj ?_ _ | refine zAm ?_ | refine blk_alloc ?_ _)); refine zBk ?_ NB135_137.out _; (with_reducible repeat (first | refine zAj ?_ _ | refine zAm ?_ | refine blk_alloc ?_ _)); refine zBk ?_ NB135_137.out _; (with_reducible repeat (first | refine zAj ?_ _ | refine zAm ?_ | refine blk_alloc ?_ _)); refine zBk ?_ NB135_137.out _; (with_reducible repeat (first | refine zAj ?_ _ | refine zAm ?_ | refine blk_alloc ?_ _)); refine zBk ?_ NB135_137.out _; (with_reducible repeat (first | refine zAj ?_ _ | refine zAm ?_ | refine blk_alloc ?_ _)); refine zBk ?_ NB135_137.out _; (with_reducible repeat (first | refine zAj ?_ _ | refine zAm ?_ | refine blk_alloc ?_ _)); refine zBk ?_ NB135_137.out _; (with_reducible repeat (first | refine zAj ?_ _ | refine zAm ?_ | refine blk_alloc ?_ _)); refine zBk ?_ NB135_137.out _; (with_reducible repeat (first | refine zAj ?_ _ | refine zAm ?_ | refine blk_alloc ?_ _)); refine zBk ?_ NB135_137.out _; (with_reducible repeat (first | refine zAj ?_ _ | refine zAm ?_ | refine blk_alloc ?_ _)); exact BK135.out⟩, ⟨by repeat (first | (with_reducible first | exact HB.out | apply zAc | apply zAd | apply zAg | refine zAh ?_ GE135.out | refine zAh ?_ GE137.out) | exact HB.out)⟩⟩
    rw [if_neg c6] at H
    exact absurd H (by simp)
   rw [if_neg c5] at H
   exact absurd H (by simp)
  rw [if_neg c4] at H
  have c4b0 : decide (x9_1 < (l1.length : Int)) = false := zF c4
  clear c4
  obtain rfl := Option.some.inj H
  go_wp2
  go_ret
  exact ⟨by first | rfl | (simp [zAl, zAk] <;> rfl) | (simp [*, zAl, zAk] <;> rfl), by repeat (first | (with_reducible first | exact HB.out | apply zAc | apply zAd | apply zAg | refine zAh ?_ GE135.out) | exact HB.out)⟩
def varvelaw00_Place.f (a0 : Int) (a1 : Int) : Option (Int) := if a1 = 0 then (none) else (if (Int.tmod a0 a1) < 0 then (some (wrap64 ((Int.tmod a0 a1) + a1))) else (some (Int.tmod a0 a1)))
theorem varvelaw00_Place.calls (a0 : Int) (a1 : Int) (r : Int) (w : World) (h : varvelaw00_Place.f a0 a1 = some r) :
  Calls Try.prog 46 #[.int .i64 a0, .int .i64 a1] w fun e w' => e = .returned (.int .i64 r) ∧ Drawn0 w w' := by
 have H : (if a1 = 0 then (none) else (if (Int.tmod a0 a1) < 0 then (some (wrap64 ((Int.tmod a0 a1) + a1))) else (some (Int.tmod a0 a1)))) = some r := h
 clear h
 by_cases c3 : a1 = 0
 ·rw [if_pos c3] at H
  exact absurd H (by simp)
 rw [if_neg c3] at H
 have c3b0 : (a1 == 0) = false := beq_eq_false_iff_ne.mpr c3
 have c3b1 : (a1 != 0) = true := bne_iff_ne.mpr c3
 by_cases c4 : (Int.tmod a0 a1) < 0
 ·rw [if_pos c4] at H
  have c4b0 : decide ((Int.tmod a0 a1) < 0) = true := zT c4
  clear c4
  obtain rfl := Option.some.inj H
  go_enter Try.func46, Try.ntmps46
  go_wp2
  go_ret
  exact ⟨by first | rfl | (simp; done) | (simp [*]; done), by repeat (first | exact Drawn0.refl _ | apply Drawn0.step)⟩
 rw [if_neg c4] at H
 have c4b0 : decide ((Int.tmod a0 a1) < 0) = false := zF c4
 clear c4
 obtain rfl := Option.some.inj H
 go_enter Try.func46, Try.ntmps46
 go_wp2
 go_ret
 exact ⟨by first | rfl | (simp; done) | (simp [*]; done), by repeat (first | exact Drawn0.refl _ | apply Drawn0.step)⟩
def varvelaw00_Set.f (a0 : Int) : Option ((List (S68))) := (varvelaw00_Place.f a0 12).bind fun t139 => (if 0 ≤ t139 then (if t139 ≤ (wrap64 (t139 + 1)) then (if (wrap64 (t139 + 1)) ≤ 12 then (if 1 + ((⟨#[48, 49, 50, 51, 52, 53, 54, 55, 56, 57, 97, 98]⟩ : ByteArray).extract (t139 : Int).toNat ((wrap64 (t139 + 1)) : Int).toNat).size ≤ 9223372036854775807 then ((some (([(⟨(⟨#[104, 111, 115, 116]⟩ : ByteArray), (⟨#[104]⟩ : ByteArray) ++ ((⟨#[48, 49, 50, 51, 52, 53, 54, 55, 56, 57, 97, 98]⟩ : ByteArray).extract (t139 : Int).toNat ((wrap64 (t139 + 1)) : Int).toNat)⟩ : S68)] : List (S68)) : List (S68))).bind fun y140 => (if (Int.tmod t139 2) = 1 then (if 0 ≤ (wrap64 (Int.tdiv t139 3)) then (if (wrap64 (Int.tdiv t139 3)) ≤ (wrap64 ((wrap64 (Int.tdiv t139 3)) + 1)) then (if (wrap64 ((wrap64 (Int.tdiv t139 3)) + 1)) ≤ 12 then (if 1 + ((⟨#[48, 49, 50, 51, 52, 53, 54, 55, 56, 57, 97, 98]⟩ : ByteArray).extract ((wrap64 (Int.tdiv t139 3)) : Int).toNat ((wrap64 ((wrap64 (Int.tdiv t139 3)) + 1)) : Int).toNat).size ≤ 9223372036854775807 then (if y140.length < 4398046511104 then (some (y140 ++ [(⟨(⟨#[122, 111, 110, 101]⟩ : ByteArray), (⟨#[122]⟩ : ByteArray) ++ ((⟨#[48, 49, 50, 51, 52, 53, 54, 55, 56, 57, 97, 98]⟩ : ByteArray).extract ((wrap64 (Int.tdiv t139 3)) : Int).toNat ((wrap64 ((wrap64 (Int.tdiv t139 3)) + 1)) : Int).toNat)⟩ : S68)])) else (none)) else (none)) else (none)) else (none)) else (none)) else (some y140))) else (none)) else (none)) else (none)) else (none))
theorem varvelaw00_Set.calls (a0 : Int) (r : List (S68)) (w : World) (h : varvelaw00_Set.f a0 = some r) :
  Calls Try.prog 96 #[.int .i64 a0] w fun e w' => ∃ v0_ : Value, e = .returned (v0_) ∧ Kd.R k68 68 w' w.heap.size (fun _ => True) v0_ r ∧ Below w.heap.size w w' := by
 have hu68 := Try.underlying68
 have HB := Aside0.mk (Below.refl w.heap.size w)
 have H : ((varvelaw00_Place.f a0 12).bind fun t139 => (if 0 ≤ t139 then (if t139 ≤ (wrap64 (t139 + 1)) then (if (wrap64 (t139 + 1)) ≤ 12 then (if 1 + ((⟨#[48, 49, 50, 51, 52, 53, 54, 55, 56, 57, 97, 98]⟩ : ByteArray).extract (t139 : Int).toNat ((wrap64 (t139 + 1)) : Int).toNat).size ≤ 9223372036854775807 then ((some (([(⟨(⟨#[104, 111, 115, 116]⟩ : ByteArray), (⟨#[104]⟩ : ByteArray) ++ ((⟨#[48, 49, 50, 51, 52, 53, 54, 55, 56, 57, 97, 98]⟩ : ByteArray).extract (t139 : Int).toNat ((wrap64 (t139 + 1)) : Int).toNat)⟩ : S68)] : List (S68)) : List (S68))).bind fun y140 => (if (Int.tmod t139 2) = 1 then (if 0 ≤ (wrap64 (Int.tdiv t139 3)) then (if (wrap64 (Int.tdiv t139 3)) ≤ (wrap64 ((wrap64 (Int.tdiv t139 3)) + 1)) then (if (wrap64 ((wrap64 (Int.tdiv t139 3)) + 1)) ≤ 12 then (if 1 + ((⟨#[48, 49, 50, 51, 52, 53, 54, 55, 56, 57, 97, 98]⟩ : ByteArray).extract ((wrap64 (Int.tdiv t139 3)) : Int).toNat ((wrap64 ((wrap64 (Int.tdiv t139 3)) + 1)) : Int).toNat).size ≤ 9223372036854775807 then (if y140.length < 4398046511104 then (some (y140 ++ [(⟨(⟨#[122, 111, 110, 101]⟩ : ByteArray), (⟨#[122]⟩ : ByteArray) ++ ((⟨#[48, 49, 50, 51, 52, 53, 54, 55, 56, 57, 97, 98]⟩ : ByteArray).extract ((wrap64 (Int.tdiv t139 3)) : Int).toNat ((wrap64 ((wrap64 (Int.tdiv t139 3)) + 1)) : Int).toNat)⟩ : S68)])) else (none)) else (none)) else (none)) else (none)) else (none)) else (some y140))) else (none)) else (none)) else (none)) else (none))) = some r := h
 clear h
 replace H := Option.bind_eq_some_iff.mp H
 obtain ⟨t139, A20, H⟩ := H
 replace H : (if 0 ≤ t139 then (if t139 ≤ (wrap64 (t139 + 1)) then (if (wrap64 (t139 + 1)) ≤ 12 then (if 1 + ((⟨#[48, 49, 50, 51, 52, 53, 54, 55, 56, 57, 97, 98]⟩ : ByteArray).extract (t139 : Int).toNat ((wrap64 (t139 + 1)) : Int).toNat).size ≤ 9223372036854775807 then ((some (([(⟨(⟨#[104, 111, 115, 116]⟩ : ByteArray), (⟨#[104]⟩ : ByteArray) ++ ((⟨#[48, 49, 50, 51, 52, 53, 54, 55, 56, 57, 97, 98]⟩ : ByteArray).extract (t139 : Int).toNat ((wrap64 (t139 + 1)) : Int).toNat)⟩ : S68)] : List (S68)) : List (S68))).bind fun y140 => (if (Int.tmod t139 2) = 1 then (if 0 ≤ (wrap64 (Int.tdiv t139 3)) then (if (wrap64 (Int.tdiv t139 3)) ≤ (wrap64 ((wrap64 (Int.tdiv t139 3)) + 1)) then (if (wrap64 ((wrap64 (Int.tdiv t139 3)) + 1)) ≤ 12 then (if 1 + ((⟨#[48, 49, 50, 51, 52, 53, 54, 55, 56, 57, 97, 98]⟩ : ByteArray).extract ((wrap64 (Int.tdiv t139 3)) : Int).toNat ((wrap64 ((wrap64 (Int.tdiv t139 3)) + 1)) : Int).toNat).size ≤ 9223372036854775807 then (if y140.length < 4398046511104 then (some (y140 ++ [(⟨(⟨#[122, 111, 110, 101]⟩ : ByteArray), (⟨#[122]⟩ : ByteArray) ++ ((⟨#[48, 49, 50, 51, 52, 53, 54, 55, 56, 57, 97, 98]⟩ : ByteArray).extract ((wrap64 (Int.tdiv t139 3)) : Int).toNat ((wrap64 ((wrap64 (Int.tdiv t139 3)) + 1)) : Int).toNat)⟩ : S68)])) else (none)) else (none)) else (none)) else (none)) else (none)) else (some y140))) else (none)) else (none)) else (none)) else (none)) = some r := H
 have A2 := Aside0.mk A20
 clear A20
 by_cases c3 : 0 ≤ t139
 ·rw [if_pos c3] at H
  have c3b0 := eq_true c3
  have c3b1 : decide (0 ≤ t139) = true := zT c3
  clear c3
  by_cases c4 : t139 ≤ (wrap64 (t139 + 1))
  ·rw [if_pos c4] at H
   have c4b0 := eq_true c4
   have c4b1 : decide (t139 ≤ (wrap64 (t139 + 1))) = true := zT c4
   by_cases c5 : (wrap64 (t139 + 1)) ≤ 12
   ·rw [if_pos c5] at H
    have c5b0 := eq_true c5
    have c5b1 : decide ((wrap64 (t139 + 1)) ≤ 12) = true := zT c5
    by_cases c6 : 1 + ((⟨#[48, 49, 50, 51, 52, 53, 54, 55, 56, 57, 97, 98]⟩ : ByteArray).extract (t139 : Int).toNat ((wrap64 (t139 + 1)) : Int).toNat).size ≤ 9223372036854775807
    ·rw [if_pos c6] at H
     have c6b0 := eq_true c6
     have c6b1 : decide (1 + ((⟨#[48, 49, 50, 51, 52, 53, 54, 55, 56, 57, 97, 98]⟩ : ByteArray).extract (t139 : Int).toNat ((wrap64 (t139 + 1)) : Int).toNat).size ≤ 9223372036854775807) = true := zT c6
     try have c6b2 : (9223372036854775807 < 1 + ((⟨#[48, 49, 50, 51, 52, 53, 54, 55, 56, 57, 97, 98]⟩ : ByteArray).extract (t139 : Int).toNat ((wrap64 (t139 + 1)) : Int).toNat).size) = False := eq_false (Nat.not_lt.2 c6)
     obtain ⟨y140, hy140⟩ : ∃ y_ : List (S68), y_ = (([(⟨(⟨#[104, 111, 115, 116]⟩ : ByteArray), (⟨#[104]⟩ : ByteArray) ++ ((⟨#[48, 49, 50, 51, 52, 53, 54, 55, 56, 57, 97, 98]⟩ : ByteArray).extract (t139 : Int).toNat ((wrap64 (t139 + 1)) : Int).toNat)⟩ : S68)] : List (S68))) := ⟨_, rfl⟩
     replace H : (if (Int.tmod t139 2) = 1 then (if 0 ≤ (wrap64 (Int.tdiv t139 3)) then (if (wrap64 (Int.tdiv t139 3)) ≤ (wrap64 ((wrap64 (Int.tdiv t139 3)) + 1)) then (if (wrap64 ((wrap64 (Int.tdiv t139 3)) + 1)) ≤ 12 then (if 1 + ((⟨#[48, 49, 50, 51, 52, 53, 54, 55, 56, 57, 97, 98]⟩ : ByteArray).extract ((wrap64 (Int.tdiv t139 3)) : Int).toNat ((wrap64 ((wrap64 (Int.tdiv t139 3)) + 1)) : Int).toNat).size ≤ 9223372036854775807 then (if y140.length < 4398046511104 then (some (y140 ++ [(⟨(⟨#[122, 111, 110, 101]⟩ : ByteArray), (⟨#[122]⟩ : ByteArray) ++ ((⟨#[48, 49, 50, 51, 52, 53, 54, 55, 56, 57, 97, 98]⟩ : ByteArray).extract ((wrap64 (Int.tdiv t139 3)) : Int).toNat ((wrap64 ((wrap64 (Int.tdiv t139 3)) + 1)) : Int).toNat)⟩ : S68)])) else (none)) else (none)) else (none)) else (none)) else (none)) else (some y140)) = some r := by first | (rw [hy140]; with_reducible exact H) | (have H2_ := (Option.bind_some _ _).symm.trans H; rw [hy140]; with_reducible exact H2_) | (have H2_ := (Option.bind_some _ _).symm.trans H; with_reducible exact H2_) | with_reducible exact H | (rw [hy140]; exact H) | exact H
     have Ny140 := Aside0.mk hy140
     clear hy140
     by_cases c7 : (Int.tmod t139 2) = 1
     ·rw [if_pos c7] at H
      have c7b0 : ((Int.tmod t139 2) == 1) = true := beq_iff_eq.mpr c7
      have c7b1 : ((Int.tmod t139 2) != 1) = false := bne_eq_false_iff_eq.mpr c7
      clear c7
      obtain ⟨ji8, hji8⟩ : ∃ j_ : Int, (wrap64 (Int.tdiv t139 3)) = j_ := ⟨_, rfl⟩
      replace H : (if 0 ≤ (ji8) then (if (ji8) ≤ (wrap64 ((ji8) + 1)) then (if (wrap64 ((ji8) + 1)) ≤ 12 then (if 1 + ((⟨#[48, 49, 50, 51, 52, 53, 54, 55, 56, 57, 97, 98]⟩ : ByteArray).extract ((ji8) : Int).toNat ((wrap64 ((ji8) + 1)) : Int).toNat).size ≤ 9223372036854775807 then (if y140.length < 4398046511104 then (some (y140 ++ [(⟨(⟨#[122, 111, 110, 101]⟩ : ByteArray), (⟨#[122]⟩ : ByteArray) ++ ((⟨#[48, 49, 50, 51, 52, 53, 54, 55, 56, 57, 97, 98]⟩ : ByteArray).extract ((ji8) : Int).toNat ((wrap64 ((ji8) + 1)) : Int).toNat)⟩ : S68)])) else (none)) else (none)) else (none)) else (none)) else (none)) = some r := by first | (rw [hji8] at H; exact H) | (simp only [hji8] at H ⊢; exact H)
      (try rw [hji8] at A2)
      have hji8w : (IntKind.i64.wrap (Int.tdiv t139 3)) = ji8 := (zAx _).trans hji8
      by_cases c9 : 0 ≤ (ji8)
      ·rw [if_pos c9] at H
       have c9b0 := eq_true c9
       have c9b1 : decide (0 ≤ (ji8)) = true := zT c9
       clear c9
       by_cases c10 : (ji8) ≤ (wrap64 ((ji8) + 1))
       ·rw [if_pos c10] at H
        have c10b0 := eq_true c10
        have c10b1 : decide ((ji8) ≤ (wrap64 ((ji8) + 1))) = true := zT c10
        by_cases c11 : (wrap64 ((ji8) + 1)) ≤ 12
        ·rw [if_pos c11] at H
         have c11b0 := eq_true c11
         have c11b1 : decide ((wrap64 ((ji8) + 1)) ≤ 12) = true := zT c11
         by_cases c12 : 1 + ((⟨#[48, 49, 50, 51, 52, 53, 54, 55, 56, 57, 97, 98]⟩ : ByteArray).extract ((ji8) : Int).toNat ((wrap64 ((ji8) + 1)) : Int).toNat).size ≤ 9223372036854775807
         ·rw [if_pos c12] at H
          have c12b0 := eq_true c12
          have c12b1 : decide (1 + ((⟨#[48, 49, 50, 51, 52, 53, 54, 55, 56, 57, 97, 98]⟩ : ByteArray).extract ((ji8) : Int).toNat ((wrap64 ((ji8) + 1)) : Int).toNat).size ≤ 9223372036854775807) = true := zT c12
          try have c12b2 : (9223372036854775807 < 1 + ((⟨#[48, 49, 50, 51, 52, 53, 54, 55, 56, 57, 97, 98]⟩ : ByteArray).extract ((ji8) : Int).toNat ((wrap64 ((ji8) + 1)) : Int).toNat).size) = False := eq_false (Nat.not_lt.2 c12)
          by_cases c13 : y140.length < 4398046511104
          ·rw [if_pos c13] at H
           have LMc13 := Aside0.mk c13
           clear c13
           obtain ⟨y143, hy143⟩ : ∃ y_ : List (S68), y_ = (y140 ++ [(⟨(⟨#[122, 111, 110, 101]⟩ : ByteArray), (⟨#[122]⟩ : ByteArray) ++ ((⟨#[48, 49, 50, 51, 52, 53, 54, 55, 56, 57, 97, 98]⟩ : ByteArray).extract ((ji8) : Int).toNat ((wrap64 ((ji8) + 1)) : Int).toNat)⟩ : S68)]) := ⟨_, rfl⟩
           replace H : (some y143) = some r := by first | (rw [hy143]; with_reducible exact H) | (have H2_ := (Option.bind_some _ _).symm.trans H; rw [hy143]; with_reducible exact H2_) | (have H2_ := (Option.bind_some _ _).symm.trans H; with_reducible exact H2_) | with_reducible exact H | (rw [hy143]; exact H) | exact H
           have Ny143 := Aside0.mk hy143
           clear hy143
           obtain rfl := Option.some.inj H
           go_enter Try.func96, Try.ntmps96
           go_wp2_with (first | ((with_reducible refine zBj (f := 46) rfl ?_); refine zDx (some 6) rfl rfl Try.func46 (by kernel_rfl) rfl #[.int .i64 a0, .int .i64 12] rfl (by (try simp only [List.map_toArray, List.map_cons, List.map_nil]); first | done | rfl | (simp only [List.length_drop, List.length_take]; rfl)) ?_; (with_reducible refine (varvelaw00_Place.calls a0 12 t139 _ A2.out).mono ?_); rintro e w' ⟨rfl, ⟨nd, rfl⟩⟩; refine ⟨_, rfl, ?_⟩) | ((with_reducible refine zBe (N := 13) rfl ?_); refine Kd.R_lit k68 _ 68 ?hg (N := 13) ?hd (xs := ([(⟨(⟨#[104, 111, 115, 116]⟩ : ByteArray), (⟨#[104]⟩ : ByteArray) ++ ((⟨#[48, 49, 50, 51, 52, 53, 54, 55, 56, 57, 97, 98]⟩ : ByteArray).extract (t139 : Int).toNat ((wrap64 (t139 + 1)) : Int).toNat)⟩ : S68)] : List (S68))) (inner := [.string (⟨#[104, 111, 115, 116]⟩ : ByteArray), .string ((⟨#[104]⟩ : ByteArray) ++ ((⟨#[48, 49, 50, 51, 52, 53, 54, 55, 56, 57, 97, 98]⟩ : ByteArray).extract (t139 : Int).toNat ((wrap64 (t139 + 1)) : Int).toNat))]) (ok := fun _ => True) (okp := fun _ => True) ?hr ?hp (fun _ hk => hk) trivial (Below.refl _ _) (Nat.le_refl _) (by simp) ?_; (case hd => rfl); (case hg => rfl); (case hr => first | (go_simp; done) | (go_simp; rfl)); (case hp => exact (Reps.c2 (show Kd.M k68 _ _ _ (⟨(⟨#[104, 111, 115, 116]⟩ : ByteArray), (⟨#[104]⟩ : ByteArray) ++ ((⟨#[48, 49, 50, 51, 52, 53, 54, 55, 56, 57, 97, 98]⟩ : ByteArray).extract (t139 : Int).toNat ((wrap64 (t139 + 1)) : Int).toNat)⟩ : S68) [.string (⟨#[104, 111, 115, 116]⟩ : ByteArray), .string ((⟨#[104]⟩ : ByteArray) ++ ((⟨#[48, 49, 50, 51, 52, 53, 54, 55, 56, 57, 97, 98]⟩ : ByteArray).extract (t139 : Int).toNat ((wrap64 (t139 + 1)) : Int).toNat))] from (k68_mkM _ _ _ (⟨(⟨#[104, 111, 115, 116]⟩ : ByteArray), (⟨#[104]⟩ : ByteArray) ++ ((⟨#[48, 49, 50, 51, 52, 53, 54, 55, 56, 57, 97, 98]⟩ : ByteArray).extract (t139 : Int).toNat ((wrap64 (t139 + 1)) : Int).toNat)⟩ : S68) )) (Reps.none _ _))); intro v141 w14 ho15 hb hg_ hnew_; clear hg_ hnew_; (first | rw [← Ny140.out] at ho15 | (simp only [Int.reduceToNat] at ho15; rw [← Ny140.out] at ho15)); have n0_ := Aside0.mk (Kd.R_lower ho15 (zAi (by repeat (first | (with_reducible first | exact HB.out | apply zAc | apply zAd | apply zAg) | exact HB.out)))); have n1_ := Aside0.mk (zAe (by repeat (first | (with_reducible first | exact HB.out | apply zAc | apply zAd | apply zAg) | exact HB.out)) hb); clear HB; have HO142 := n0_; have HB := n1_; clear n0_ n1_; clear hb ho15) | ((with_reducible refine gate_builtin (b := .append) (xs := #[.tmp 17, .tmp 26]) rfl ?_); at_builtin; refine Kd.R_append k68 (w0 := w) w.heap.size rfl (.tmp 17) (.tmp 26) 28 68 (.agg #[(.string ⟨#[]⟩), (.string ⟨#[]⟩)]) 32 rfl Try.underlying28 info68 rfl (by decide) (by omega) v141 y140 (⟨(⟨#[122, 111, 110, 101]⟩ : ByteArray), (⟨#[122]⟩ : ByteArray) ++ ((⟨#[48, 49, 50, 51, 52, 53, 54, 55, 56, 57, 97, 98]⟩ : ByteArray).extract ((ji8) : Int).toNat ((wrap64 ((ji8) + 1)) : Int).toNat)⟩ : S68) [.string (⟨#[122, 111, 110, 101]⟩ : ByteArray), .string ((⟨#[122]⟩ : ByteArray) ++ ((⟨#[48, 49, 50, 51, 52, 53, 54, 55, 56, 57, 97, 98]⟩ : ByteArray).extract ((ji8) : Int).toNat ((wrap64 ((ji8) + 1)) : Int).toNat))] (fun _ => True) (fun _ => False) rfl rfl ?aP (fun _ hk => hk.elim) ?aF ?aO ?aB ?aS ?aL ?_; (case aP => exact k68_mkM _ _ _ (⟨(⟨#[122, 111, 110, 101]⟩ : ByteArray), (⟨#[122]⟩ : ByteArray) ++ ((⟨#[48, 49, 50, 51, 52, 53, 54, 55, 56, 57, 97, 98]⟩ : ByteArray).extract ((ji8) : Int).toNat ((wrap64 ((ji8) + 1)) : Int).toNat)⟩ : S68)); (case aB => exact (by repeat (first | (with_reducible first | exact HB.out | apply zAc | apply zAd | apply zAg) | exact HB.out))); (case aF => exact (fun _ _ => trivial)); (case aO => exact (by (with_reducible repeat (first | apply Kd.R_alloc | apply Kd.R_drewN | apply Kd.R_drew)); exact HO142.out)); (case aS => exact (zAi (by repeat (first | (with_reducible first | exact HB.out | apply zAc | apply zAd | apply zAg) | exact HB.out)))); (case aL => have := LMc13.out; omega); intro v144 w16 ho hb hg hat; rw [← Ny143.out] at ho; have n0_ := Aside0.mk (hb); have n1_ := Aside0.mk (ho); clear HB; clear HO142; have HB := n0_; have HO145 := n1_; clear n0_ n1_; clear ho hb hg hat))
           go_ret
           exact ⟨_, by first | rfl | (simp [zAl, zAk] <;> rfl) | (simp only [← hji8]; first | rfl | (simp [zAl, zAk] <;> rfl)) | (simp [*, zAl, zAk] <;> rfl), by (with_reducible repeat (first | apply Kd.R_alloc | apply Kd.R_drewN | apply Kd.R_drew)); exact HO145.out, by repeat (first | (with_reducible first | exact HB.out | apply zAc | apply zAd | apply zAg) | exact HB.out)⟩
          rw [if_neg c13] at H
          exact absurd H (by simp)
         rw [if_neg c12] at H
         exact absurd H (by simp)
        rw [if_neg c11] at H
        exact absurd H (by simp)
       rw [if_neg c10] at H
       exact absurd H (by simp)
      rw [if_neg c9] at H
      exact absurd H (by simp)
     rw [if_neg c7] at H
     have c7b0 : ((Int.tmod t139 2) == 1) = false := beq_eq_false_iff_ne.mpr c7
     have c7b1 : ((Int.tmod t139 2) != 1) = true := bne_iff_ne.mpr c7
     obtain rfl := Option.some.inj H
     go_enter Try.func96, Try.ntmps96
     go_wp2_with (first | ((with_reducible refine zBj (f := 46) rfl ?_); refine zDx (some 6) rfl rfl Try.func46 (by kernel_rfl) rfl #[.int .i64 a0, .int .i64 12] rfl (by (try simp only [List.map_toArray, List.map_cons, List.map_nil]); first | done | rfl | (simp only [List.length_drop, List.length_take]; rfl)) ?_; (with_reducible refine (varvelaw00_Place.calls a0 12 t139 _ A2.out).mono ?_); rintro e w' ⟨rfl, ⟨nd, rfl⟩⟩; refine ⟨_, rfl, ?_⟩) | ((with_reducible refine zBe (N := 13) rfl ?_); refine Kd.R_lit k68 _ 68 ?hg (N := 13) ?hd (xs := ([(⟨(⟨#[104, 111, 115, 116]⟩ : ByteArray), (⟨#[104]⟩ : ByteArray) ++ ((⟨#[48, 49, 50, 51, 52, 53, 54, 55, 56, 57, 97, 98]⟩ : ByteArray).extract (t139 : Int).toNat ((wrap64 (t139 + 1)) : Int).toNat)⟩ : S68)] : List (S68))) (inner := [.string (⟨#[104, 111, 115, 116]⟩ : ByteArray), .string ((⟨#[104]⟩ : ByteArray) ++ ((⟨#[48, 49, 50, 51, 52, 53, 54, 55, 56, 57, 97, 98]⟩ : ByteArray).extract (t139 : Int).toNat ((wrap64 (t139 + 1)) : Int).toNat))]) (ok := fun _ => True) (okp := fun _ => True) ?hr ?hp (fun _ hk => hk) trivial (Below.refl _ _) (Nat.le_refl _) (by simp) ?_; (case hd => rfl); (case hg => rfl); (case hr => first | (go_simp; done) | (go_simp; rfl)); (case hp => exact (Reps.c2 (show Kd.M k68 _ _ _ (⟨(⟨#[104, 111, 115, 116]⟩ : ByteArray), (⟨#[104]⟩ : ByteArray) ++ ((⟨#[48, 49, 50, 51, 52, 53, 54, 55, 56, 57, 97, 98]⟩ : ByteArray).extract (t139 : Int).toNat ((wrap64 (t139 + 1)) : Int).toNat)⟩ : S68) [.string (⟨#[104, 111, 115, 116]⟩ : ByteArray), .string ((⟨#[104]⟩ : ByteArray) ++ ((⟨#[48, 49, 50, 51, 52, 53, 54, 55, 56, 57, 97, 98]⟩ : ByteArray).extract (t139 : Int).toNat ((wrap64 (t139 + 1)) : Int).toNat))] from (k68_mkM _ _ _ (⟨(⟨#[104, 111, 115, 116]⟩ : ByteArray), (⟨#[104]⟩ : ByteArray) ++ ((⟨#[48, 49, 50, 51, 52, 53, 54, 55, 56, 57, 97, 98]⟩ : ByteArray).extract (t139 : Int).toNat ((wrap64 (t139 + 1)) : Int).toNat)⟩ : S68) )) (Reps.none _ _))); intro v141 w17 ho18 hb hg_ hnew_; clear hg_ hnew_; (first | rw [← Ny140.out] at ho18 | (simp only [Int.reduceToNat] at ho18; rw [← Ny140.out] at ho18)); have n0_ := Aside0.mk (Kd.R_lower ho18 (zAi (by repeat (first | (with_reducible first | exact HB.out | apply zAc | apply zAd | apply zAg) | exact HB.out)))); have n1_ := Aside0.mk (zAe (by repeat (first | (with_reducible first | exact HB.out | apply zAc | apply zAd | apply zAg) | exact HB.out)) hb); clear HB; have HO142 := n0_; have HB := n1_; clear n0_ n1_; clear hb ho18))
     go_ret
     exact ⟨_, by first | rfl | (simp [zAl, zAk] <;> rfl) | (simp [*, zAl, zAk] <;> rfl), by (with_reducible repeat (first | apply Kd.R_alloc | apply Kd.R_drewN | apply Kd.R_drew)); exact HO142.out, by repeat (first | (with_reducible first | exact HB.out | apply zAc | apply zAd | apply zAg) | exact HB.out)⟩
    rw [if_neg c6] at H
    exact absurd H (by simp)
   rw [if_neg c5] at H
   exact absurd H (by simp)
  rw [if_neg c4] at H
  exact absurd H (by simp)
 rw [if_neg c3] at H
 exact absurd H (by simp)
-- NOT PRINTED: function 32 (varvelaw19_awake)
-- NOT PRINTED: function 107 (varvelaw00_matcher)
-- NOT PRINTED: function 54 (varvelaw00_Matcher)
-- NOT PRINTED: function 34 (varvelaw00_Tomb)
end
section
attribute [local go_sem] zCx zCv zDm zDl zCj zCi zCw zCu   -- for this text's walks alone
set_option linter.unusedVariables false
set_option linter.unusedSimpArgs false
-- NOT PRINTED: function 4 (varvelaw19_TombApplies)
-- NOT PRINTED: function 5 (varvelaw19_TombOrder)
-- NOT PRINTED: function 6 (varvelaw19_TombWhole)
def varveref19_needs.f (a0_0 : Int) (a0_1 : Int) (a0_2 : Int) (a0_3 : Int) (a0_4 : Int) (a0_5 : Int) (a0_6 : Int) (a1_0 : Int) (a1_1 : Int) (a1_2 : ByteArray) (a1_3 : ByteArray) (l1_4 : List ByteArray) (l1_5 : List (S25)) (a1_6 : Int) (a1_7 : Int) : Option (Bool) := if a1_0 ≤ a0_5 then (some false) else (if a0_2 < 0 then (some false) else (if a0_2 > 127258290 then (some false) else (if a1_6 < a1_7 then (if a1_6 < (wrap64 ((wrap64 (a0_2 + 1)) * 8640)) then (some (decide (a1_7 > (wrap64 (a0_2 * 8640))))) else (some false)) else (some false))))
def varveref19_Needs.l0 : Nat → List (S27) → Int → Int → Int → Int → Int → Int → Int → Int → Option (Bool)
 | 0, _, _, _, _, _, _, _, _, _ => none
 | k + 1, x1, x5, x250000, x250001, x250002, x250003, x250004, x250005, x250006 => if x5 < (x1.length : Int) then (if 0 ≤ x5 then ((varveref19_needs.f x250000 x250001 x250002 x250003 x250004 x250005 x250006 ((zAo x1 x5).f0) ((zAo x1 x5).f1.f0) ((zAo x1 x5).f1.f1) ((zAo x1 x5).f1.f2) ((zAo x1 x5).f1.f3) ((zAo x1 x5).f1.f4) ((zAo x1 x5).f2) ((zAo x1 x5).f3)).bind fun t251 => (if t251 = true then (some true) else (varveref19_Needs.l0 k x1 (wrap64 (x5 + 1)) x250000 x250001 x250002 x250003 x250004 x250005 x250006))) else (none)) else (some false)
def varveref19_Needs.f (k : Nat) (a0_0 : Int) (a0_1 : Int) (a0_2 : Int) (a0_3 : Int) (a0_4 : Int) (a0_5 : Int) (a0_6 : Int) (l1 : List (S27)) : Option (Bool) := varveref19_Needs.l0 k l1 0 a0_0 a0_1 a0_2 a0_3 a0_4 a0_5 a0_6
end
end Go.Proofs.Yteafilojjdfllaa.PAll
end
section
namespace Go.Proofs.Yteafilojjdfllaa
open Go Go.RowKit Go.Proofs.YteafilojjdfllaaW.PrintWords Go.Proofs.YteafilojjdfllaaW.PrintLast Go.Proofs.YteafilojjdfllaaW.PrintMore Go.Proofs.Yteafilojjdfllaa.PAll
theorem C_one {α : Type} {d : Kd α} {W : World} {g : Nat} {x : α} {cs : List Value} {t : TypeId} (hb : W.heap[g]? = some (.cells ⟨cs⟩ t (0, 0))) (hK : d.K W x cs) : d.C W (some ⟨g, 0, none⟩) 1 [x] := by
 refine ⟨rfl, by decide, fun _ => ⟨⟨g, 0, none⟩, rfl, fun j p hj => ?_⟩⟩
 have hj0 : j = 0 := by
  cases j with
  | zero => rfl
  | succ j => simp at hj
 subst hj0
 cases hj
 refine ⟨cs, d.K_len hK, hK, fun i u hu => ?_⟩
 have := zAb hb i
 have e : (⟨g, 0, none⟩ : Addr).add (0 * d.sz + i) = ⟨g, i, none⟩ := by simp [Addr.add]; exact Eq.symm
 rw [e]
 simpa [hu] using this
def exL : List S68 := [⟨⟨#[104, 111, 115, 116]⟩, ⟨#[104]⟩ ++ (⟨#[48, 49, 50, 51, 52, 53, 54, 55, 56, 57, 97, 98]⟩ : ByteArray).extract 0 1⟩]
theorem exL_set : varvelaw00_Set.f 0 = some exL := by kernel_rfl
def exT : S27 := ⟨5, z25, 0, 8640⟩
def exR : S37 := ⟨exL, 7, ⟨[], [], ⟨0, 0, 0, 0⟩⟩⟩
theorem ex_tomb : zCr 5 0 8640 z25 = true := by kernel_rfl
theorem ex_cover : coverB exT exR = true := by kernel_rfl
theorem ex_need5 : tomb_Needs.f 3 0 0 0 0 0 5 0 [exT] = some false := by kernel_rfl
theorem ex_need4 : tomb_Needs.f 3 0 0 0 0 0 4 0 [exT] = some true := by kernel_rfl
theorem ex_mc (w : World) : MC w z25 none 0 none 0 := ⟨Nat.le_refl _, Kd.C_nil _ _, Nat.le_refl _, Kd.C_nil _ _⟩
theorem ex_k (w : World) : k27.K w exT [.int .i64 5, .int .i64 0, .string ⟨#[]⟩, .string ⟨#[]⟩, .slice none 0 0, .slice none 0 0, .int .i64 0, .int .i64 8640] := k27_mk w exT (Nat.le_refl _) (Kd.C_nil _ _) (Nat.le_refl _) (Kd.C_nil _ _)
theorem exCheck (w : World) : Calls Try.prog 33 #[.agg #[.int .i64 5, .int .i64 0, .string ⟨#[]⟩, .string ⟨#[]⟩, .slice none 0 0, .slice none 0 0, .int .i64 0, .int .i64 8640]] w fun e w' => e = .returned (.bool true) ∧ Below w.heap.size w w' := by
 have h := zIo w 5 0 8640 z25 none 0 none 0 (ex_mc w)
 rw [ex_tomb] at h
 exact h
theorem exCovers (w : World) (A : Option Addr) (c : Nat) (hc : exL.length ≤ c) (hC : Kd.C k68 w A exL.length exL) : Calls Try.prog 37 #[.agg #[.int .i64 5, .int .i64 0, .string ⟨#[]⟩, .string ⟨#[]⟩, .slice none 0 0, .slice none 0 0, .int .i64 0, .int .i64 8640], .agg #[.slice A exL.length c, .int .i64 7, .slice none 0 0, .slice none 0 0, .int .u64 0, .int .u64 0, .int .u64 0, .int .u64 0]] w fun e w' => e = .returned (.bool true) ∧ Below w.heap.size w w' :=
 Covers37 w exT exR none 0 none 0 A c none 0 0 none 0 0 true ex_cover (by decide) (ex_mc w) (by decide) hc hC
theorem exNeeds5 (w : World) (A : Option Addr) (c : Nat) (hc : 1 ≤ c) (hC : Kd.C k27 w A 1 [exT]) : Calls Try.prog 47 #[.agg #[.int .i64 0, .int .i64 0, .int .i64 0, .int .i64 0, .int .i64 0, .int .i64 5, .int .i64 0], .slice A 1 c] w fun e w' => e = .returned (.bool false) ∧ Below w.heap.size w w' :=
 tomb_Needs.calls 3 0 0 0 0 0 5 0 A c [exT] false w hC hc ex_need5
theorem exNeeds4 (w : World) (A : Option Addr) (c : Nat) (hc : 1 ≤ c) (hC : Kd.C k27 w A 1 [exT]) : Calls Try.prog 47 #[.agg #[.int .i64 0, .int .i64 0, .int .i64 0, .int .i64 0, .int .i64 0, .int .i64 4, .int .i64 0], .slice A 1 c] w fun e w' => e = .returned (.bool true) ∧ Below w.heap.size w w' :=
 tomb_Needs.calls 3 0 0 0 0 0 4 0 A c [exT] true w hC hc ex_need4
theorem zJp (w : World) : Calls Try.prog 32 #[] w fun e w' => e = .returned (.bool true) ∧ Below w.heap.size w w' := by
 have hB0 : Below w.heap.size w (w.alloc (.cells #[.int .i64 5, .int .i64 0, .string ⟨#[]⟩, .string ⟨#[]⟩, .slice none 0 0, .slice none 0 0, .int .i64 0, .int .i64 8640] 27)) := zAc (Below.refl _ _) _
 go_enter Try.func32, Try.ntmps32
 go_wp2_with fail
 (with_reducible refine (varvelaw00_Set.calls 0 exL _ exL_set).mono ?_)
 rintro e w1 ⟨v0, rfl, hR, hB1⟩
 obtain ⟨A, c, rfl, hc, hC⟩ := Kd.R_reads hR
 have hX0 : BoxT (w.alloc (.cells #[.int .i64 5, .int .i64 0, .string ⟨#[]⟩, .string ⟨#[]⟩, .slice none 0 0, .slice none 0 0, .int .i64 0, .int .i64 8640] 27)) w.heap.size 5 0 ⟨#[]⟩ ⟨#[]⟩ (.slice none 0 0) (.slice none 0 0) 0 8640 := zAs w _
 have hX1 := hX0.below hB1
 have HB1 := zH (zAe hB0 hB1)
 have HC := zH hC
 obtain ⟨x0, x1, x2, x3, x4, x5, x6, x7⟩ := hX1.all
 have hlt1 : w.heap.size < w1.heap.size := zAp hX1
 have HX2 := zH (hX1.below (zAc (Below.refl _ _) (.cells #[.slice A exL.length c, .int .i64 7, .slice none 0 0, .slice none 0 0, .int .u64 0, .int .u64 0, .int .u64 0, .int .u64 0] 37)))
 have HR2 : BoxR (w1.alloc (.cells #[.slice A exL.length c, .int .i64 7, .slice none 0 0, .slice none 0 0, .int .u64 0, .int .u64 0, .int .u64 0, .int .u64 0] 37)) w1.heap.size (.slice A exL.length c) 7 (.slice none 0 0) (.slice none 0 0) 0 0 0 0 := zAs w1 _
 clear hR hC hX0 hX1 hB0 hB1
 go_wp2_with fail
 (with_reducible refine (exCheck _).mono ?_)
 rintro e w2 ⟨rfl, hB2⟩
 have hT2 := HX2.out.below hB2
 have hR2 := HR2.below hB2
 have HB2 := zH (zAe (zAc HB1.out _) hB2)
 have HC2 := zH (Kd.C_below (Kd.C_alloc HC.out _) hB2)
 obtain ⟨x0, x1, x2, x3, x4, x5, x6, x7⟩ := hT2.all
 obtain ⟨r0, r1, r2, r3, r4, r5, r6, r7⟩ := hR2.all
 have HT2 := zH hT2
 clear hT2 hR2 hB2 HC HX2 HR2 HB1
 go_wp2_with fail
 (with_reducible refine (exCovers _ A c hc HC2.out).mono ?_)
 rintro e w3 ⟨rfl, hB3⟩
 have hT3 := HT2.out.below hB3
 have HB3 := zH (zAe HB2.out hB3)
 obtain ⟨x0, x1, x2, x3, x4, x5, x6, x7⟩ := hT3.all
 have HT3 := zH hT3
 clear hB3 HC2 HT2 HB2 hT3
 go_wp2_with fail
 (with_reducible refine (exNeeds5 _ _ _ (Nat.le_refl _) (C_one (zAs _ _) (ex_k _))).mono ?_)
 rintro e w4 ⟨rfl, hB4⟩
 have hT4 := (HT3.out.below (zAc (Below.refl _ _) _)).below hB4
 have HB4 := zH (zAe (zAc HB3.out _) hB4)
 obtain ⟨x0, x1, x2, x3, x4, x5, x6, x7⟩ := hT4.all
 clear hB4 HT3 HB3 hT4
 go_wp2_with fail
 (with_reducible refine (exNeeds4 _ _ _ (Nat.le_refl _) (C_one (zAs _ _) (ex_k _))).mono ?_)
 rintro e w5 ⟨rfl, hB5⟩
 go_wp2_with fail
 go_ret
 exact ⟨rfl, zAe (zAc HB4.out _) hB5⟩
end Go.Proofs.Yteafilojjdfllaa
end
section
namespace Go.Proofs.Yteafilojjdfllaa.PAll
open Go.RowKit Go.Proofs.YteafilojjdfllaaW.PrintWords Go.Proofs.YteafilojjdfllaaW.PrintLast Go.Proofs.YteafilojjdfllaaW.PrintMore
section
attribute [local go_sem] zCx zCv zDm zDl zCj zCi zCw zCu   -- for this text's walks alone
set_option linter.unusedVariables false
set_option linter.unusedSimpArgs false
-- NOT PRINTED: function 49 (varvelaw19_same)
-- NOT PRINTED: function 156 (match_own)
-- NOT PRINTED: function 105 (match_Own)
-- NOT PRINTED: function 50 (tomb_Prune)
mutual
def varveref19_Prune.l0 : Nat → List (S27) → List (S58) → List (S27) → Int → Option ((List (S27)))
 | 0, _, _, _, _ => none
 | k + 1, x0, x1, x5, x6 => if x6 < (x0.length : Int) then (varveref19_Prune.l1 k x0 x1 x5 x6 false 0) else (some x5)
def varveref19_Prune.l1 : Nat → List (S27) → List (S58) → List (S27) → Int → Bool → Int → Option ((List (S27)))
 | 0, _, _, _, _, _, _ => none
 | k + 1, x0, x1, x5, x6, x7, x8 => if x8 < (x1.length : Int) then (if x7 = true then (varveref19_Prune.l1 k x0 x1 x5 x6 true (wrap64 (x8 + 1))) else (if 0 ≤ x8 then (if 0 ≤ x6 then (if x6 < (x0.length : Int) then ((varveref19_needs.f ((zIv x1 x8).f0) ((zIv x1 x8).f1) ((zIv x1 x8).f2) ((zIv x1 x8).f3) ((zIv x1 x8).f4) ((zIv x1 x8).f5) ((zIv x1 x8).f6) ((zAo x0 x6).f0) ((zAo x0 x6).f1.f0) ((zAo x0 x6).f1.f1) ((zAo x0 x6).f1.f2) ((zAo x0 x6).f1.f3) ((zAo x0 x6).f1.f4) ((zAo x0 x6).f2) ((zAo x0 x6).f3)).bind fun t274 => (varveref19_Prune.l1 k x0 x1 x5 x6 t274 (wrap64 (x8 + 1)))) else (none)) else (none)) else (none))) else (if x7 = true then (if 0 ≤ x6 then (if x6 < (x0.length : Int) then (if x5.length < 1256584717458 then (varveref19_Prune.l0 k x0 x1 (x5 ++ [(⟨(zAo x0 x6).f0, (⟨(zAo x0 x6).f1.f0, (zAo x0 x6).f1.f1, (zAo x0 x6).f1.f2, (zAo x0 x6).f1.f3, (zAo x0 x6).f1.f4⟩ : S25), (zAo x0 x6).f2, (zAo x0 x6).f3⟩ : S27)]) (wrap64 (x6 + 1))) else (none)) else (none)) else (none)) else (varveref19_Prune.l0 k x0 x1 x5 (wrap64 (x6 + 1))))
end
end
end Go.Proofs.Yteafilojjdfllaa.PAll
end
section
namespace Go.Proofs.Yteafilojjdfllaa
open Go Go.RowKit Go.Proofs.YteafilojjdfllaaW.PrintWords Go.Proofs.YteafilojjdfllaaW.PrintLast Go.Proofs.YteafilojjdfllaaW.PrintMore Go.Proofs.Yteafilojjdfllaa.PAll
theorem same49 (w : World) (l : List S27) (A : Option Addr) (c : Nat) (B : Option Addr) (d : Nat) (hl : l.length ≤ 1000) (hok : okT l) (hC : Kd.C k27 w A l.length l) (hD : Kd.C k27 w B l.length l) :
  Calls Try.prog 49 #[.slice A l.length c, .slice B l.length d] w fun e w' => e = .returned (.bool true) ∧ Below w.heap.size w w' := by
 have HC := zH hC
 have HD := zH hD
 have HN := zH hok
 clear hC hD hok
 go_enter Try.func49, Try.ntmps49
 go_wp2
 go_loopw [5] (fun u5 wr => ∃ (j : Nat), u5 = .int .i64 j ∧ j ≤ l.length ∧ Below w.heap.size w wr)
  (fun u5 _ => l.length - (intOf u5).toNat)
 case atStart => exact ⟨0, rfl, Nat.zero_le _, Below.refl _ _⟩
 case round =>
  obtain ⟨j, rfl, hj, hB⟩ := hrel
  by_cases hlt : j < l.length
  ·obtain ⟨ad, A3, a3, A4, a4, rfl, k0, k1, k2, k3, k4, k5, k6, k7, l3, g3, l4, g4⟩ := zFi (Kd.C_below HC.out hB) (j : Int) (by omega) (by omega)
   obtain ⟨ad2, B3, b3, B4, b4, rfl, q0, q1, q2, q3, q4, q5, q6, q7, n3, h3, n4, h4⟩ := zFi (Kd.C_below HD.out hB) (j : Int) (by omega) (by omega)
   simp only [Int.toNat_natCast, show zAo l (j : Int) = l.getD j z27 by simp [zAo]] at k0 k1 k2 k3 k4 k5 k6 k7 l3 g3 l4 g4 q0 q1 q2 q3 q4 q5 q6 q7 n3 h3 n4 h4
   have Hx := zH (HN.out _ (zHb l z27 j hlt))
   obtain ⟨t, et⟩ : ∃ t, l.getD j z27 = t := ⟨_, rfl⟩
   rw [et] at k0 k1 k2 k3 k4 k5 k6 k7 l3 g3 l4 g4 q0 q1 q2 q3 q4 q5 q6 q7 n3 h3 n4 h4 Hx
   clear et
   have HM := zH (MC.below (show MC wr t.f1 A3 a3 A4 a4 from ⟨l3, g3, l4, g4⟩) (zAr (Below.refl _ _)))
   have HM' := zH (MC.below (show MC wr t.f1 B3 b3 B4 b4 from ⟨n3, h3, n4, h4⟩) (zAr (Below.refl _ _)))
   clear l3 g3 l4 g4 n3 h3 n4 h4
   have hv1 : t.f1.f3.length ≤ 1000 := by have := ((wideM_mk _).1 Hx.out.1.2.2.1).1; omega
   have hn1 : zAv t.f1 ≤ 1000 := by have := Hx.out.1.2.2.2; omega
   have HW := zH (show wideM t.f1 from Hx.out.1.2.2.1)
   have e0 : (t.f0 == t.f0) = true := beq_self_eq_true _
   have e2 : (t.f2 == t.f2) = true := beq_self_eq_true _
   have e3 : (t.f3 == t.f3) = true := beq_self_eq_true _
   go_wp2
   go_region_held3 (fun w' => w'.cell? (ad.add (j * 8)) = some (.int .i64 t.f0) ∧ w'.cell? ⟨(ad.add (j * 8)).block, (ad.add (j * 8)).off + 1, none⟩ = some (.int .i64 t.f1.f0) ∧ w'.cell? ⟨(ad.add (j * 8)).block, (ad.add (j * 8)).off + 2, none⟩ = some (.string t.f1.f1) ∧ w'.cell? ⟨(ad.add (j * 8)).block, (ad.add (j * 8)).off + 3, none⟩ = some (.string t.f1.f2) ∧ w'.cell? ⟨(ad.add (j * 8)).block, (ad.add (j * 8)).off + 4, none⟩ = some (.slice A3 t.f1.f3.length a3) ∧ w'.cell? ⟨(ad.add (j * 8)).block, (ad.add (j * 8)).off + 5, none⟩ = some (.slice A4 t.f1.f4.length a4) ∧ w'.cell? ⟨(ad.add (j * 8)).block, (ad.add (j * 8)).off + 6, none⟩ = some (.int .i64 t.f2) ∧ w'.cell? ⟨(ad.add (j * 8)).block, (ad.add (j * 8)).off + 7, none⟩ = some (.int .i64 t.f3) ∧ w'.cell? (ad2.add (j * 8)) = some (.int .i64 t.f0) ∧ w'.cell? ⟨(ad2.add (j * 8)).block, (ad2.add (j * 8)).off + 1, none⟩ = some (.int .i64 t.f1.f0) ∧ w'.cell? ⟨(ad2.add (j * 8)).block, (ad2.add (j * 8)).off + 2, none⟩ = some (.string t.f1.f1) ∧ w'.cell? ⟨(ad2.add (j * 8)).block, (ad2.add (j * 8)).off + 3, none⟩ = some (.string t.f1.f2) ∧ w'.cell? ⟨(ad2.add (j * 8)).block, (ad2.add (j * 8)).off + 4, none⟩ = some (.slice B3 t.f1.f3.length b3) ∧ w'.cell? ⟨(ad2.add (j * 8)).block, (ad2.add (j * 8)).off + 5, none⟩ = some (.slice B4 t.f1.f4.length b4) ∧ w'.cell? ⟨(ad2.add (j * 8)).block, (ad2.add (j * 8)).off + 6, none⟩ = some (.int .i64 t.f2) ∧ w'.cell? ⟨(ad2.add (j * 8)).block, (ad2.add (j * 8)).off + 7, none⟩ = some (.int .i64 t.f3) ∧ Below w.heap.size w w')
    (first | exact ⟨k0, k1, k2, k3, k4, k5, k6, k7, q0, q1, q2, q3, q4, q5, q6, q7, zAr hB⟩ | exact ⟨zAf hb5 k0, zAf hb5 k1, zAf hb5 k2, zAf hb5 k3, zAf hb5 k4, zAf hb5 k5, zAf hb5 k6, zAf hb5 k7, zAf hb5 q0, zAf hb5 q1, zAf hb5 q2, zAf hb5 q3, zAf hb5 q4, zAf hb5 q5, zAf hb5 q6, zAf hb5 q7, zAe (zAr hB) hb5⟩)
    (first | (go_at_call 90; (with_reducible refine (same90 (zAv t.f1) t.f1 (Nat.le_refl _) hn1 hv1 HW.out A3 a3 A4 a4 B3 b3 B4 b4 _ HM.out HM'.out).mono ?_); rintro e w5 ⟨rfl, hb5⟩))
   rename_i hS
   have hbel := hS.2.2.2.2.2.2.2.2.2.2.2.2.2.2.2.2
   clear hS
   go_wp2
   go_roundw
   case rel => exact ⟨j + 1, by go_num, by omega, hbel⟩
   case measure => simp [intOf]; omega
  obtain rfl : j = l.length := by omega
  go_wp2
  go_ret
  exact ⟨rfl, hB⟩
theorem boundL_of : ∀ (ks : List S25), (∀ k ∈ ks, boundM k) → boundL ks
 | [], _ => trivial
 | k :: ks, h => ⟨h k (List.mem_cons_self ..), boundL_of ks (fun x hx => h x (List.mem_cons_of_mem _ hx))⟩
theorem ok_bound : ∀ (N : Nat) (m : S25), zAv m ≤ N → okM m = true → boundM m
 | 0, m, h, _ => by rw [zAz] at h; omega
 | N + 1, m, h, hok => by
  have hz : (⟨#[]⟩ : ByteArray).size ≤ 140737488351232 := by decide
  have hnil : ∀ u ∈ ([] : List ByteArray), u.size ≤ 140737488351232 := fun u hu => by cases hu
  have hsz := zCc hok
  rw [boundM_mk]
  rcases shape hok with rfl | ⟨op, n, v, ho, hn, rfl⟩ | ⟨n, vs, hn, rfl⟩ | ⟨op, ks, ho, hk, rfl⟩
  ·exact ⟨hz, hz, hnil, trivial⟩
  ·have h1 := hsz.1 ho
   simp only at h1 ⊢
   have e1 : n.data.toList.length = n.size := by simp
   have e2 : v.data.toList.length = v.size := by simp
   exact ⟨by omega, by omega, hnil, trivial⟩
  ·have h1 := hsz.2 rfl
   simp only at h1 ⊢
   have e1 : n.data.toList.length = n.size := by simp
   exact ⟨by omega, hz, fun u hu => by have := h1.2.2 u hu; omega, trivial⟩
  ·refine ⟨hz, hz, hnil, boundL_of ks (fun k hkm => ok_bound N k ?_ (zFn hk hkm))⟩
   have := zCf ⟨op, ⟨#[]⟩, ⟨#[]⟩, [], ks⟩ k hkm
   omega
theorem ok_tiny {m : S25} (h : chkB m = true) : tinyP 0 m := by
 obtain ⟨h1, h2, h3, h4⟩ := chk_def.1 h
 exact ⟨by omega, ok_bound _ m (Nat.le_refl _) h1, ok_wide _ m (Nat.le_refl _) h1, by omega⟩
theorem all_okT {l : List S27} (h : ∀ x ∈ l, zCr x.f0 x.f2 x.f3 x.f1 = true) : okT l := fun t ht => ⟨ok_tiny (tombB_iff.1 (h t ht)).2.2, (tombB_iff.1 (h t ht)).2.2⟩
theorem may_all {l : List S27} (h : mayB l = true) : l.length ≤ 64 ∧ ∀ x ∈ l, zCr x.f0 x.f2 x.f3 x.f1 = true := by
 unfold mayB at h
 rw [Bool.and_eq_true, decide_eq_true_iff] at h
 exact ⟨h.1, rise_mem l [] h.2⟩
theorem rise_at {l : List S27} {i : Nat} (hi : i < l.length) (t : S27) (et : l.getD i z27 = t) : zIf (l.take i) (l.drop i) = (zCr t.f0 t.f2 t.f3 t.f1 && (behind (l.take i) t.f0 && zIf (l.take (i + 1)) (l.drop (i + 1)))) := by
 have e : l.drop i = t :: l.drop (i + 1) := by
  rw [List.drop_eq_getElem_cons hi, ← et, List.getD_eq_getElem?_getD, List.getElem?_eq_getElem hi]
  rfl
 have e2 : l.take i ++ [t] = l.take (i + 1) := by
  rw [List.take_succ_eq_append_getElem hi, ← et, List.getD_eq_getElem?_getD, List.getElem?_eq_getElem hi]
  rfl
 rw [e, zIf, e2]
theorem behind_take {l : List S27} {i : Nat} (hi : i < l.length) (h0 : 0 < i) (s : Int) : behind (l.take i) s = decide ((l.getD (i - 1) z27).f0 < s) := by
 rw [zGt (i := i) (by rw [List.length_take]; omega) h0]
 congr 2
 rw [List.getD_eq_getElem?_getD, List.getD_eq_getElem?_getD, List.getElem?_take_of_lt (by omega)]
noncomputable def zGw : Bool × List (List Nat × List Nat) := rtab .any (zFs Try.f71 4)
theorem zFk : rtab .any (zFs Try.f71 4) = zGw := rfl
theorem may71 (w : World) (l : List S27) (A : Option Addr) (c : Nat) (hl : l.length ≤ 1000) (hok : okT l) (hC : Kd.C k27 w A l.length l) :
  Calls Try.prog 71 #[.slice A l.length c] w fun e w' => e = .returned (.bool (mayB l)) ∧ Below w.heap.size w w' := by
 have HC := zH hC
 have HOK := zH hok
 clear hC hok
 go_enter Try.func71, Try.ntmps71
 go_wp2
 go_loopw [3] (fun u3 wr => ∃ (i : Nat), u3 = .int .i64 (i : Nat) ∧ i ≤ l.length ∧ Hid (zIf [] l = zIf (l.take i) (l.drop i)) ∧ Hid (Below w.heap.size w wr)) (fun u3 _ => l.length - (intOf u3).toNat)
 case atStart => exact ⟨0, rfl, Nat.zero_le _, zH rfl, zH (Below.refl _ _)⟩
 case round =>
  obtain ⟨i, rfl, hi, HR, HB⟩ := hrel
  by_cases hlt : i < l.length
  ·have hltI : (i : Int) < (l.length : Int) := by omega
   obtain ⟨ad, B3, e3, B4, e4, rfl, k0, k1, k2, k3, k4, k5, k6, k7, l3, g3, l4, g4⟩ := zFi (Kd.C_below HC.out HB.out) (i : Int) (by omega) (by omega)
   simp only [Int.toNat_natCast, show zAo l (i : Int) = l.getD i z27 by simp [zAo]] at k0 k1 k2 k3 k4 k5 k6 k7 l3 g3 l4 g4
   have hx := HOK.out _ (zHb l z27 i hlt)
   obtain ⟨t, et⟩ : ∃ t, l.getD i z27 = t := ⟨_, rfl⟩
   have HAT := zH (rise_at hlt t et)
   rw [et] at k0 k1 k2 k3 k4 k5 k6 k7 l3 g3 l4 g4 hx
   have K0 := zH k0
   have K1 := zH k1
   have K2 := zH k2
   have K3 := zH k3
   have K4 := zH k4
   have K5 := zH k5
   have K6 := zH k6
   have K7 := zH k7
   have HM := zH (show MC wr t.f1 B3 e3 B4 e4 from ⟨l3, g3, l4, g4⟩)
   have HX := zH hx.1.2.1
   have H35 := zH (fun W (h : Below wr.heap.size wr W) => refCheck35 W t.f0 t.f2 t.f3 t.f1 B3 e3 B4 e4 HX.out (HM.out.below h))
   clear et l3 g3 l4 g4 hx k0 k1 k2 k3 k4 k5 k6 k7
   cases htb : zCr t.f0 t.f2 t.f3 t.f1 with
   | false =>
    rw [htb] at H35
    have HQ := zH (show mayB l = false by unfold mayB; rw [HR.out, HAT.out, htb]; simp)
    clear htb
    go_wp2_with fail
    refine zCe (n := 24) (S := fun W => Below wr.heap.size wr W) (ds := []) (msk 24 [0, 1, 2, 3, 4, 5, 6, 7, 8, 9, 10, 11, 12, 13, 14, 15, 16, 17, 18, 19, 20, 21, 22, 23] 0).toArray (by kernel_rfl) rfl rfl (zAr (Below.refl _ _)) (fun hHeld => ?_)
    refine zBh (T := zGw) zFk (fun HT_ => ?_)
    iterate 4 (first | (refine zBi HT_.out (N := some _) (v := ?_) (a' := ?_) rfl rfl (by kernel_rfl) (fun _ _ _ h => h) (Or.inl ⟨by rfl, ?_⟩) ?_ ?_; rotate_left; intro w'; go_simp; (with_reducible rfl); rotate_left; simp only [Act.put, zI, zZ, zS, zAx, zAy]; rfl) | (refine zCd HT_.out (N := some _) (v := ?_) (a' := ?_) rfl rfl (by kernel_rfl) (fun _ _ _ h => h) (Or.inl ⟨by rfl, ?_⟩) hHeld ?_ ?_; rotate_left; intro w' hh; have q0 := zAf hh K0.out; have q1 := zAf hh K1.out; have q2 := zAf hh K2.out; have q3 := zAf hh K3.out; have q4 := zAf hh K4.out; have q5 := zAf hh K5.out; have q6 := zAf hh K6.out; have q7 := zAf hh K7.out; go_simp; (with_reducible rfl); rotate_left; simp only [Act.put, zI, zZ, zS, zAx, zAy]; rfl))
    refine oneO (i := 4) (N := some 14) HT_.out rfl rfl (by kernel_rfl) (by decide) (fun K_ hK_ => ?_)
    refine zDn Try.func35 (by kernel_rfl) rfl #[.agg #[.int .i64 t.f0, .int .i64 t.f1.f0, .string t.f1.f1, .string t.f1.f2, .slice B3 t.f1.f3.length e3, .slice B4 t.f1.f4.length e4, .int .i64 t.f2, .int .i64 t.f3]] (by rfl) rfl rfl (by (try simp only [List.map_toArray, List.map_cons, List.map_nil]); first | done | rfl) ?_
    (with_reducible refine (H35.out _ hHeld).mono ?_)
    rintro e w9 ⟨rfl, hb9⟩
    refine ⟨_, rfl, ?_⟩
    refine hK_.out _ _ (zAe hHeld hb9) (fun hHeld => ?_)
    clear hK_ K_
    try simp only [Act.put, zI, zZ, zS]
    iterate 19 (first | (refine zBi HT_.out (N := some _) (v := ?_) (a' := ?_) rfl rfl (by kernel_rfl) (fun _ _ _ h => h) (Or.inl ⟨by rfl, ?_⟩) ?_ ?_; rotate_left; intro w'; go_simp; (with_reducible rfl); rotate_left; simp only [Act.put, zI, zZ, zS, zAx, zAy]; rfl) | (refine zBi HT_.out (N := some _) (v := undef) (a' := ?_) rfl rfl (by kernel_rfl) (fun _ _ _ h => h) (Or.inr ⟨by rfl, by rfl⟩) ?_ ?_; rotate_left; simp only [Act.put, zI, zZ, zS]; rfl))
    refine zEg (zBz HT_.out (by kernel_rfl)) ?_
    have HBF := zH (zAe HB.out hHeld)
    clear hHeld
    go_wp2
    go_ret
    exact ⟨by rw [HQ.out]; rfl, HBF.out⟩
   | true =>
   rw [htb] at H35
   have HTB := zH htb
   clear htb
   by_cases hi0 : i = 0
   ·have u1 : ¬ (0 : Int) < (i : Int) := by omega
    have u2 : decide (0 < i) = false := zF (by omega)
    have HBH := zH (show behind (l.take i) t.f0 = true by rw [hi0]; rfl)
    clear hi0
    go_wp2_with fail
    refine zCe (n := 24) (S := fun W => Below wr.heap.size wr W) (ds := []) (msk 24 [0, 1, 2, 3, 4, 5, 6, 7, 8, 9, 10, 11, 12, 13, 14, 15, 16, 17, 18, 19, 20, 21, 22, 23] 0).toArray (by kernel_rfl) rfl rfl (zAr (Below.refl _ _)) (fun hHeld => ?_)
    refine zBh (T := zGw) zFk (fun HT_ => ?_)
    iterate 4 (first | (refine zBi HT_.out (N := some _) (v := ?_) (a' := ?_) rfl rfl (by kernel_rfl) (fun _ _ _ h => h) (Or.inl ⟨by rfl, ?_⟩) ?_ ?_; rotate_left; intro w'; go_simp; (with_reducible rfl); rotate_left; simp only [Act.put, zI, zZ, zS, zAx, zAy, u2]; rfl) | (refine zCd HT_.out (N := some _) (v := ?_) (a' := ?_) rfl rfl (by kernel_rfl) (fun _ _ _ h => h) (Or.inl ⟨by rfl, ?_⟩) hHeld ?_ ?_; rotate_left; intro w' hh; have q0 := zAf hh K0.out; have q1 := zAf hh K1.out; have q2 := zAf hh K2.out; have q3 := zAf hh K3.out; have q4 := zAf hh K4.out; have q5 := zAf hh K5.out; have q6 := zAf hh K6.out; have q7 := zAf hh K7.out; go_simp; (with_reducible rfl); rotate_left; simp only [Act.put, zI, zZ, zS, zAx, zAy, u2]; rfl))
    refine oneO (i := 4) (N := some 14) HT_.out rfl rfl (by kernel_rfl) (by decide) (fun K_ hK_ => ?_)
    refine zDn Try.func35 (by kernel_rfl) rfl #[.agg #[.int .i64 t.f0, .int .i64 t.f1.f0, .string t.f1.f1, .string t.f1.f2, .slice B3 t.f1.f3.length e3, .slice B4 t.f1.f4.length e4, .int .i64 t.f2, .int .i64 t.f3]] (by rfl) rfl rfl (by (try simp only [List.map_toArray, List.map_cons, List.map_nil]); first | done | rfl) ?_
    (with_reducible refine (H35.out _ hHeld).mono ?_)
    rintro e w9 ⟨rfl, hb9⟩
    refine ⟨_, rfl, ?_⟩
    refine hK_.out _ _ (zAe hHeld hb9) (fun hHeld => ?_)
    clear hK_ K_
    try simp only [Act.put, zI, zZ, zS]
    iterate 19 (first | (refine zBi HT_.out (N := some _) (v := ?_) (a' := ?_) rfl rfl (by kernel_rfl) (fun _ _ _ h => h) (Or.inl ⟨by rfl, ?_⟩) ?_ ?_; rotate_left; intro w'; go_simp; (with_reducible rfl); rotate_left; simp only [Act.put, zI, zZ, zS, zAx, zAy, u2]; rfl) | (refine zBi HT_.out (N := some _) (v := undef) (a' := ?_) rfl rfl (by kernel_rfl) (fun _ _ _ h => h) (Or.inr ⟨by rfl, by rfl⟩) ?_ ?_; rotate_left; simp only [Act.put, zI, zZ, zS]; rfl))
    refine zEg (zBz HT_.out (by kernel_rfl)) ?_
    have HBF := zH (zAe HB.out hHeld)
    clear hHeld
    go_wp2
    go_roundw
    case rel => exact ⟨i + 1, by go_num, by omega, zH (by rw [HR.out, HAT.out, HTB.out, HBH.out]; simp), HBF⟩
    case measure => simp [intOf]; omega
   have hi1 : 1 ≤ i := by omega
   have hi1I : (1 : Int) ≤ (i : Int) := by omega
   have u1 : (0 : Int) < (i : Int) := by omega
   have u2 : decide (0 < i) = true := zT (by omega)
   have hsub : wrap64 ((i : Int) - 1) = (i : Int) - 1 := by unfold wrap64; omega
   have hge : (0 : Int) ≤ (i : Int) - 1 := by omega
   have hlt1 : (i : Int) - 1 < (l.length : Int) := by omega
   obtain ⟨ad', B3', e3', B4', e4', eqad, k0, -, -, -, -, -, -, -, -, -, -, -⟩ := zFi (Kd.C_below HC.out HB.out) ((i : Int) - 1) hge (by omega)
   simp only [show ((i : Int) - 1).toNat = i - 1 by omega, show zAo l ((i : Int) - 1) = l.getD (i - 1) z27 by simp [zAo, show ((i : Int) - 1).toNat = i - 1 by omega]] at k0
   cases eqad
   have hbl := behind_take hlt hi1 t.f0
   obtain ⟨y, ey⟩ : ∃ y, (l.getD (i - 1) z27).f0 = y := ⟨_, rfl⟩
   rw [ey] at k0 hbl
   have KL := zH k0
   clear ey k0 hi0
   by_cases hc : y < t.f0
   ·have c1 : ¬ t.f0 ≤ y := by omega
    have c2 : decide (t.f0 ≤ y) = false := zF c1
    have HBH := zH (show behind (l.take i) t.f0 = true by rw [hbl]; exact zT hc)
    clear hbl hc
    go_wp2_with fail
    refine zCe (n := 24) (S := fun W => Below wr.heap.size wr W) (ds := []) (msk 24 [0, 1, 2, 3, 4, 5, 6, 7, 8, 9, 10, 11, 12, 13, 15, 16, 17, 18, 19, 14, 20, 21, 22, 23] 0).toArray (by kernel_rfl) rfl rfl (zAr (Below.refl _ _)) (fun hHeld => ?_)
    refine zBh (T := zGw) zFk (fun HT_ => ?_)
    iterate 4 (first | (refine zBi HT_.out (N := some _) (v := ?_) (a' := ?_) rfl rfl (by kernel_rfl) (fun _ _ _ h => h) (Or.inl ⟨by rfl, ?_⟩) ?_ ?_; rotate_left; intro w'; go_simp; (with_reducible rfl); rotate_left; simp only [Act.put, zI, zZ, zS, zAx, zAy, hsub, u2, c2]; rfl) | (refine zCd HT_.out (N := some _) (v := ?_) (a' := ?_) rfl rfl (by kernel_rfl) (fun _ _ _ h => h) (Or.inl ⟨by rfl, ?_⟩) hHeld ?_ ?_; rotate_left; intro w' hh; have q0 := zAf hh K0.out; have q1 := zAf hh K1.out; have q2 := zAf hh K2.out; have q3 := zAf hh K3.out; have q4 := zAf hh K4.out; have q5 := zAf hh K5.out; have q6 := zAf hh K6.out; have q7 := zAf hh K7.out; go_simp; (with_reducible rfl); rotate_left; simp only [Act.put, zI, zZ, zS, zAx, zAy, hsub, u2, c2]; rfl))
    refine oneO (i := 4) (N := some 14) HT_.out rfl rfl (by kernel_rfl) (by decide) (fun K_ hK_ => ?_)
    refine zDn Try.func35 (by kernel_rfl) rfl #[.agg #[.int .i64 t.f0, .int .i64 t.f1.f0, .string t.f1.f1, .string t.f1.f2, .slice B3 t.f1.f3.length e3, .slice B4 t.f1.f4.length e4, .int .i64 t.f2, .int .i64 t.f3]] (by rfl) rfl rfl (by (try simp only [List.map_toArray, List.map_cons, List.map_nil]); first | done | rfl) ?_
    (with_reducible refine (H35.out _ hHeld).mono ?_)
    rintro e w9 ⟨rfl, hb9⟩
    refine ⟨_, rfl, ?_⟩
    refine hK_.out _ _ (zAe hHeld hb9) (fun hHeld => ?_)
    clear hK_ K_
    try simp only [Act.put, zI, zZ, zS]
    iterate 15 (first | (refine zBi HT_.out (N := some _) (v := ?_) (a' := ?_) rfl rfl (by kernel_rfl) (fun _ _ _ h => h) (Or.inl ⟨by rfl, ?_⟩) ?_ ?_; rotate_left; intro w'; go_simp; (with_reducible rfl); rotate_left; simp only [Act.put, zI, zZ, zS, zAx, zAy, hsub, u2, c2]; rfl) | (refine zCd HT_.out (N := some _) (v := ?_) (a' := ?_) rfl rfl (by kernel_rfl) (fun _ _ _ h => h) (Or.inl ⟨by rfl, ?_⟩) hHeld ?_ ?_; rotate_left; intro w' hh; have q0 := zAf hh K0.out; have q1 := zAf hh K1.out; have q2 := zAf hh K2.out; have q3 := zAf hh K3.out; have q4 := zAf hh K4.out; have q5 := zAf hh K5.out; have q6 := zAf hh K6.out; have q7 := zAf hh K7.out; go_simp; (with_reducible rfl); rotate_left; simp only [Act.put, zI, zZ, zS, zAx, zAy, hsub, u2, c2]; rfl))
    iterate 4 (first | (refine zBi HT_.out (N := some _) (v := ?_) (a' := ?_) rfl rfl (by kernel_rfl) (fun _ _ _ h => h) (Or.inl ⟨by rfl, ?_⟩) ?_ ?_; rotate_left; intro w'; go_simp; (with_reducible rfl); rotate_left; simp only [Act.put, zI, zZ, zS, zAx, zAy, hsub, u2, c2]; rfl) | (refine zCd HT_.out (N := some _) (v := ?_) (a' := ?_) rfl rfl (by kernel_rfl) (fun _ _ _ h => h) (Or.inl ⟨by rfl, ?_⟩) hHeld ?_ ?_; rotate_left; intro w' hh; have q := zAf hh KL.out; go_simp; (with_reducible rfl); rotate_left; simp only [Act.put, zI, zZ, zS, zAx, zAy, hsub, u2, c2]; rfl))
    refine zEg (zBz HT_.out (by kernel_rfl)) ?_
    have HBF := zH (zAe HB.out hHeld)
    clear hHeld
    go_wp2
    go_roundw
    case rel => exact ⟨i + 1, by go_num, by omega, zH (by rw [HR.out, HAT.out, HTB.out, HBH.out]; simp), HBF⟩
    case measure => simp [intOf]; omega
   have c1 : t.f0 ≤ y := by omega
   have c2 : decide (t.f0 ≤ y) = true := zT c1
   have HQ := zH (show mayB l = false by unfold mayB; rw [HR.out, HAT.out, hbl, zF hc]; simp)
   clear hbl hc
   go_wp2_with fail
   refine zCe (n := 24) (S := fun W => Below wr.heap.size wr W) (ds := []) (msk 24 [0, 1, 2, 3, 4, 5, 6, 7, 8, 9, 10, 11, 12, 13, 15, 16, 17, 18, 19, 14, 20, 21, 22, 23] 0).toArray (by kernel_rfl) rfl rfl (zAr (Below.refl _ _)) (fun hHeld => ?_)
   refine zBh (T := zGw) zFk (fun HT_ => ?_)
   iterate 4 (first | (refine zBi HT_.out (N := some _) (v := ?_) (a' := ?_) rfl rfl (by kernel_rfl) (fun _ _ _ h => h) (Or.inl ⟨by rfl, ?_⟩) ?_ ?_; rotate_left; intro w'; go_simp; (with_reducible rfl); rotate_left; simp only [Act.put, zI, zZ, zS, zAx, zAy, hsub, u2, c2]; rfl) | (refine zCd HT_.out (N := some _) (v := ?_) (a' := ?_) rfl rfl (by kernel_rfl) (fun _ _ _ h => h) (Or.inl ⟨by rfl, ?_⟩) hHeld ?_ ?_; rotate_left; intro w' hh; have q0 := zAf hh K0.out; have q1 := zAf hh K1.out; have q2 := zAf hh K2.out; have q3 := zAf hh K3.out; have q4 := zAf hh K4.out; have q5 := zAf hh K5.out; have q6 := zAf hh K6.out; have q7 := zAf hh K7.out; go_simp; (with_reducible rfl); rotate_left; simp only [Act.put, zI, zZ, zS, zAx, zAy, hsub, u2, c2]; rfl))
   refine oneO (i := 4) (N := some 14) HT_.out rfl rfl (by kernel_rfl) (by decide) (fun K_ hK_ => ?_)
   refine zDn Try.func35 (by kernel_rfl) rfl #[.agg #[.int .i64 t.f0, .int .i64 t.f1.f0, .string t.f1.f1, .string t.f1.f2, .slice B3 t.f1.f3.length e3, .slice B4 t.f1.f4.length e4, .int .i64 t.f2, .int .i64 t.f3]] (by rfl) rfl rfl (by (try simp only [List.map_toArray, List.map_cons, List.map_nil]); first | done | rfl) ?_
   (with_reducible refine (H35.out _ hHeld).mono ?_)
   rintro e w9 ⟨rfl, hb9⟩
   refine ⟨_, rfl, ?_⟩
   refine hK_.out _ _ (zAe hHeld hb9) (fun hHeld => ?_)
   clear hK_ K_
   try simp only [Act.put, zI, zZ, zS]
   iterate 15 (first | (refine zBi HT_.out (N := some _) (v := ?_) (a' := ?_) rfl rfl (by kernel_rfl) (fun _ _ _ h => h) (Or.inl ⟨by rfl, ?_⟩) ?_ ?_; rotate_left; intro w'; go_simp; (with_reducible rfl); rotate_left; simp only [Act.put, zI, zZ, zS, zAx, zAy, hsub, u2, c2]; rfl) | (refine zCd HT_.out (N := some _) (v := ?_) (a' := ?_) rfl rfl (by kernel_rfl) (fun _ _ _ h => h) (Or.inl ⟨by rfl, ?_⟩) hHeld ?_ ?_; rotate_left; intro w' hh; have q0 := zAf hh K0.out; have q1 := zAf hh K1.out; have q2 := zAf hh K2.out; have q3 := zAf hh K3.out; have q4 := zAf hh K4.out; have q5 := zAf hh K5.out; have q6 := zAf hh K6.out; have q7 := zAf hh K7.out; go_simp; (with_reducible rfl); rotate_left; simp only [Act.put, zI, zZ, zS, zAx, zAy, hsub, u2, c2]; rfl))
   iterate 4 (first | (refine zBi HT_.out (N := some _) (v := ?_) (a' := ?_) rfl rfl (by kernel_rfl) (fun _ _ _ h => h) (Or.inl ⟨by rfl, ?_⟩) ?_ ?_; rotate_left; intro w'; go_simp; (with_reducible rfl); rotate_left; simp only [Act.put, zI, zZ, zS, zAx, zAy, hsub, u2, c2]; rfl) | (refine zCd HT_.out (N := some _) (v := ?_) (a' := ?_) rfl rfl (by kernel_rfl) (fun _ _ _ h => h) (Or.inl ⟨by rfl, ?_⟩) hHeld ?_ ?_; rotate_left; intro w' hh; have q := zAf hh KL.out; go_simp; (with_reducible rfl); rotate_left; simp only [Act.put, zI, zZ, zS, zAx, zAy, hsub, u2, c2]; rfl))
   refine zEg (zBz HT_.out (by kernel_rfl)) ?_
   have HBF := zH (zAe HB.out hHeld)
   clear hHeld
   go_wp2
   go_ret
   exact ⟨by rw [HQ.out]; rfl, HBF.out⟩
  obtain rfl : i = l.length := by omega
  have HQ := zH (show mayB l = decide (l.length ≤ 64) by unfold mayB; rw [HR.out, List.drop_length, zIf, Bool.and_true])
  by_cases h64 : l.length ≤ 64
  ·have h64I : (l.length : Int) ≤ 64 := by omega
   have HQ1 := zH (show mayB l = true by rw [HQ.out]; exact zT h64)
   have d1 : decide ((l.length : Int) ≤ 64) = true := zT h64I
   go_wp2
   go_ret
   exact ⟨by rw [HQ1.out]; rfl, HB.out⟩
  have h64I : ¬ (l.length : Int) ≤ 64 := by omega
  have HQ1 := zH (show mayB l = false by rw [HQ.out]; exact zF h64)
  have d1 : decide ((l.length : Int) ≤ 64) = false := zF h64I
  go_wp2
  go_ret
  exact ⟨by rw [HQ1.out]; rfl, HB.out⟩
noncomputable def tabR19_6 : Bool × List (List Nat × List Nat) := rtab .any (zFs Try.f19 6)
theorem tabR19_6_eq : rtab .any (zFs Try.f19 6) = tabR19_6 := rfl
theorem tombBytes_walk (w : World) (l : List S27) (A : Option Addr) (c : Nat) (B : Option Addr) (n d : Nat) (bs : List UInt8) (at_ : Int) (hn : bs.length = n) (hd : n ≤ d) (hlb : n ≤ 140737488355328) (hC : Kd.C k27 w A l.length l) (hD : (Kd.int .u8).C w B bs.length (bys bs)) :
  Calls Try.prog 19 #[.slice A l.length c, .slice B n d, .int .i64 at_] w fun e w' => e = .returned (.bool true) ∧ Below w.heap.size w w' := by
 have HC := zH hC
 have HD := zH hD
 have HN := zH hn
 clear hC hD hn
 go_enter Try.func19, Try.ntmps19
 go_wp2_with fail
 (with_reducible refine (small40 _ l A c HC.out).mono ?_)
 rintro e w1 ⟨⟨v, rfl, hv⟩, hb1⟩
 have HB1 := zH hb1
 cases v with
 | false =>
  clear hv hb1
  go_wp2_with fail
  (with_reducible refine (zJp _).mono ?_)
  rintro e w15 ⟨rfl, hb15⟩
  go_wp2
  go_ret
  exact ⟨rfl, zAe HB1.out hb15⟩
 | true =>
 obtain ⟨hl40, hot⟩ := hv rfl
 have HOT := zH hot
 have HOTX := zH (show ∀ t ∈ l, tinyP 0 t.f1 ∧ chkB t.f1 = true from hot)
 clear hv hot hb1
 go_wp2_with fail
 (with_reducible refine (may71 _ l A c (by omega) HOT.out (Kd.C_below HC.out HB1.out)).mono ?_)
 rintro e w2 ⟨rfl, hb2⟩
 have HB2 := zH (zAe HB1.out hb2)
 clear hb2
 cases hm : mayB l with
 | true =>
  have HMB := zH hm
  have HMA := zH (may_all hm)
  have hE17 := encTL_len hm
  clear hm
  go_wp2_with fail
  (with_reducible refine (bytes73 _ B n d bs HN.out (by omega) (Kd.C_below HD.out HB2.out)).mono ?_)
  rintro e w3 ⟨A3, n3, c3, rfl, HN3, hc3, HR3, hb3⟩
  have HB3 := zH (zAe HB2.out hb3)
  have hn3 : n3 ≤ 140737488355328 := by have := HN.out; have := HN3.out; omega
  clear hb3
  go_wp2_with fail
  (with_reducible refine (tombs42 _ l A c (fun x hx => (show tinyP 0 x.f1 ∧ chkB x.f1 = true from HOTX.out x hx).1) (by omega) (Kd.C_below HC.out HB3.out)).mono ?_)
  rintro e w4 ⟨⟨D4, c4, rfl, hc4, hC4⟩, hb4⟩
  have HC4 := zH hC4
  have HC3 := zH (Kd.C_below (R_C HR3.out) hb4)
  have HB4 := zH (zAe HB3.out hb4)
  clear hb4 hC4
  go_wp2_with fail
  (with_reducible refine (tput72 _ A3 n3 c3 bs l D4 c4 HN3.out hc3 (by omega) HMA.out.1 HMA.out.2 HC3.out HC4.out).mono ?_)
  rintro e w7 ⟨A7, n7, c7, rfl, HN7, hc7, HC7, hb7⟩
  have HB7 := zH (zAe HB4.out hb7)
  have hn7 : n7 ≤ 199999999990000 := by have h1 := HN.out; have h2 := HN7.out; rw [List.length_append] at h2; omega
  have h8 := tget74 w7 A7 n7 c7 (bs ++ zHv l) (n : Int) HN7.out (by omega) hc7 HC7.out
  rw [tombs_back HN.out HMB.out] at h8
  have H8 := zH h8
  clear h8 hb7 HC4 HC3 HR3 hc3 HN3
  go_wp2_with fail
  refine H8.out.mono ?_
  rintro e w8 ⟨hb8, hres⟩
  obtain ⟨E8, d8, rfl, hd8, hC8⟩ : ∃ D d, e = .returned (.tuple #[.slice D l.length d, .int .i64 (n7 : Int), .bool true]) ∧ l.length ≤ d ∧ Kd.C k27 w8 D l.length l := by
   rcases hres with ⟨h, -⟩ | ⟨l', r', D, d', h, he, hd', hC'⟩
   ·cases h
   simp only [Option.some.injEq, Prod.mk.injEq] at h
   obtain ⟨rfl, rfl⟩ := h
   exact ⟨D, d', by simpa using he, hd', hC'⟩
  have HCG := zH hC8
  have HB8 := zH (zAe HB7.out hb8)
  have HC8 := zH (Kd.C_below HC7.out hb8)
  obtain ⟨E, hE⟩ : ∃ E, zHv l = E := ⟨_, rfl⟩
  obtain ⟨X, hXX⟩ : ∃ X, bs ++ zHv l = X := ⟨_, rfl⟩
  have HE := zH hE
  have HXX := zH hXX
  have hS : (⟨bs.toArray⟩ : ByteArray) ++ (⟨E.toArray⟩ : ByteArray) = (⟨X.toArray⟩ : ByteArray) := by rw [← hXX, ← hE]; exact (str_parts2 _ _).symm
  obtain ⟨sb, hsb⟩ : ∃ s : ByteArray, (⟨bs.toArray⟩ : ByteArray) = s := ⟨_, rfl⟩
  obtain ⟨se, hse⟩ : ∃ s : ByteArray, (⟨E.toArray⟩ : ByteArray) = s := ⟨_, rfl⟩
  obtain ⟨sx, hsx⟩ : ∃ s : ByteArray, (⟨X.toArray⟩ : ByteArray) = s := ⟨_, rfl⟩
  have HSB := zH hsb
  have HSE := zH hse
  have HSX := zH hsx
  rw [hsb, hse, hsx] at hS
  have hzb : sb.size ≤ 140737488355328 := by rw [← hsb]; have := HN.out; simp only [ByteArray.size, List.size_toArray]; omega
  have hze : se.size ≤ 1100000 := by rw [← hse, ← hE]; simpa [ByteArray.size] using hE17
  have hsm : ¬ 9223372036854775807 < sb.size + se.size := by omega
  rw [HXX.out] at HC8 HN7
  have v0 := fun W (h : Below w8.heap.size w8 W) => by
   have h2 := Kd.C_string (P := Try.prog) (c := c7) Try.underlying85 Try.underlying5 Try.underlying9 (Kd.C_below HC8.out h)
   rw [zFx, HSX.out, HN7.out] at h2
   exact h2
  have v1 := fun W (h : Below w8.heap.size w8 W) => by
   have h2 := Kd.C_string (P := Try.prog) (c := d) Try.underlying85 Try.underlying5 Try.underlying9 (Kd.C_below (Kd.C_below HD.out HB8.out) h)
   rw [zFx, HSB.out, HN.out] at h2
   exact h2
  clear hres hb8 hE hXX hsb hse hsx hzb hze H8 HC7 hC8
  go_wp2_with fail
  refine zCe (n := 25) (S := fun W => Below w8.heap.size w8 W) (ds := []) (msk 25 [0, 2, 4, 1, 3, 5, 6, 7, 8, 9, 10, 11, 12, 13, 14, 15, 16, 17, 18, 19, 20, 21, 22, 23, 24] 0).toArray (by kernel_rfl) rfl rfl (zAr (Below.refl _ _)) (fun hHeld => ?_)
  refine zBh (T := tabR19_6) tabR19_6_eq (fun HT_ => ?_)
  iterate 4 (first | (refine zBi HT_.out (N := some _) (v := ?_) (a' := ?_) rfl rfl (by kernel_rfl) (fun _ _ _ h => h) (Or.inl ⟨by rfl, ?_⟩) ?_ ?_; rotate_left; intro w'; go_simp; (with_reducible rfl); rotate_left; simp only [Act.put, zI, zZ, zS, zAx, zAy]; rfl) | (refine zCd HT_.out (N := some _) (v := ?_) (a' := ?_) rfl rfl (by kernel_rfl) (fun _ _ _ h => h) (Or.inl ⟨by rfl, ?_⟩) hHeld ?_ ?_; rotate_left; intro w' hh; have hcv := v0 w' hh; go_simp; (with_reducible rfl); rotate_left; simp only [Act.put, zI, zZ, zS, zAx, zAy]; rfl))
  (refine zCd HT_.out (N := some _) (v := ?_) (a' := ?_) rfl rfl (by kernel_rfl) (fun _ _ _ h => h) (Or.inl ⟨by rfl, ?_⟩) hHeld ?_ ?_; rotate_left; intro w' hh; have hcv := v1 w' hh; go_simp; (with_reducible rfl); rotate_left; simp only [Act.put, zI, zZ, zS, zAx, zAy]; rfl)
  refine oneO (i := 5) (N := some 40) HT_.out rfl rfl (by kernel_rfl) (by decide) (fun K_ hK_ => ?_)
  refine zDn Try.func75 (by kernel_rfl) rfl #[.slice A l.length c] (by rfl) rfl rfl (by (try simp only [List.map_toArray, List.map_cons, List.map_nil]); first | done | rfl) ?_
  (with_reducible refine (rtput75 _ l A c HMA.out.1 HMA.out.2 (Kd.C_below HC.out (zAe HB8.out hHeld))).mono ?_)
  rintro e w9 ⟨A9, n9, c9, rfl, HN9, hc9, HC9, hb9⟩
  have hH9 := zAe hHeld hb9
  have v2 := Kd.C_string (P := Try.prog) (c := c9) Try.underlying85 Try.underlying5 Try.underlying9 HC9.out
  rw [HE.out] at HN9
  rw [HE.out, zFx, HSE.out, HN9.out] at v2
  have V2 := zH v2
  clear v2
  refine ⟨_, rfl, ?_⟩
  refine hK_.out _ _ (hH9) (fun hHeld => ?_)
  clear hK_ K_
  try simp only [Act.put, zI, zZ, zS]
  refine oneO (i := 6) (N := some 41) HT_.out rfl rfl (by kernel_rfl) (by decide) (fun K_ hK_ => ?_)
  refine conv2_ (v := .string se) rfl rfl V2.out rfl ?_
  refine hK_.out _ _ hHeld (fun hHeld => ?_)
  clear hK_ K_
  try simp only [Act.put, zI, zZ, zS]
  iterate 5 (refine zBi HT_.out (N := some _) (v := ?_) (a' := ?_) rfl rfl (by kernel_rfl) (fun _ _ _ h => h) (Or.inl ⟨by rfl, ?_⟩) ?_ ?_; rotate_left; intro w'; go_simp; (with_reducible rfl); rotate_left; simp only [Act.put, zI, zZ, zS, zAx, zAy]; rfl)
  refine oneO (i := 12) (N := some 47) HT_.out rfl rfl (by kernel_rfl) (by decide) (fun K_ hK_ => ?_)
  refine zDn Try.func49 (by kernel_rfl) rfl #[.slice E8 l.length d8, .slice A l.length c] (by rfl) rfl rfl (by (try simp only [List.map_toArray, List.map_cons, List.map_nil]); first | done | rfl) ?_
  (with_reducible refine (same49 _ l E8 d8 A c (by omega) HOT.out (Kd.C_below HCG.out hHeld) (Kd.C_below HC.out (zAe HB8.out hHeld))).mono ?_)
  rintro e w10 ⟨rfl, hb10⟩
  refine ⟨_, rfl, ?_⟩
  refine hK_.out _ _ (zAe hHeld hb10) (fun hHeld => ?_)
  clear hK_ K_
  try simp only [Act.put, zI, zZ, zS]
  iterate 12 (refine zBi HT_.out (N := some _) (v := ?_) (a' := ?_) rfl rfl (by kernel_rfl) (fun _ _ _ h => h) (Or.inl ⟨by rfl, ?_⟩) ?_ ?_; rotate_left; intro w'; go_simp; (with_reducible rfl); rotate_left; simp only [Act.put, zI, zZ, zS, zAx, zAy]; rfl)
  refine zEg (zBz HT_.out (by kernel_rfl)) ?_
  have HBx := zH (zAe HB8.out hHeld)
  clear v0 v1 hHeld HC8 HCG HSB HSE HSX hS
  go_wp2_with fail
  (with_reducible refine (bytes73 _ B n d bs HN.out (by omega) (Kd.C_below HD.out HBx.out)).mono ?_)
  rintro e w11 ⟨A11, n11, c11, rfl, HN11, hc11, HR11, hb11⟩
  have HB11 := zH (zAe HBx.out hb11)
  clear hb11
  have hn11 : n11 ≤ 1000000000000000 := by have := HN.out; have := HN11.out; omega
  have h12 := tget74 w11 A11 n11 c11 bs at_ HN11.out hn11 hc11 (R_C HR11.out)
  have e11 : n11 = n := by have := HN.out; have := HN11.out; omega
  rw [e11] at h12
  cases hq : zFq bs at_ with
  | none =>
   rw [hq] at h12
   have H12 := zH h12
   have HQ := zH hq
   subst e11
   clear h12 hq
   go_wp2_with fail
   refine H12.out.mono ?_
   rintro e w12 ⟨hb12, hres⟩
   obtain rfl : e = .returned (.tuple #[.slice none 0 0, .int .i64 0, .bool false]) := by
    rcases hres with ⟨-, h⟩ | ⟨l', r', _, _, h, -⟩
    ·exact h
    cases h
   have HB12 := zH (zAe HB11.out hb12)
   clear hb12 H12 hres
   obtain ⟨V, eV⟩ : ∃ V, V = w12.alloc (.cells #[.slice B n11 d, .int .i64 at_, .bool false] 93) := ⟨_, rfl⟩
   have hX : RB V w12.heap.size B n11 d at_ false := by rw [eV]; exact zAs w12 _
   have hBV : Below w12.heap.size w12 V := eV ▸ zAc (Below.refl _ _) _
   have h13 := rtget76 w12 V w12.heap.size B n11 d bs at_ HN.out (by omega) hd (Nat.le_refl _) hBV hX (Kd.C_below HD.out HB12.out)
   rw [HQ.out] at h13
   have H13 := zH h13
   clear h13 hX hBV
   go_wp2_with fail
   rw [← eV]
   refine H13.out.mono ?_
   rintro e w13 ⟨hb13, -, hres⟩
   obtain ⟨rfl, i, hRB⟩ : e = .returned (.slice none 0 0) ∧ ∃ i, RB w13 w12.heap.size B n11 d i true := by
    rcases hres with ⟨-, he, i, hRB⟩ | ⟨x, t, B', d', h, _⟩
    ·exact ⟨he, i, hRB⟩
    cases h
   have HB13 := zH (zAe HB12.out hb13)
   have g2 := hRB.c2
   clear hRB hb13 hres H13 eV
   go_wp2_with fail
   (with_reducible refine (zJp _).mono ?_)
   rintro e w14 ⟨rfl, hb14⟩
   go_wp2
   go_ret
   exact ⟨rfl, zAe HB13.out hb14⟩
  | some q =>
  obtain ⟨x, t⟩ := q
  rw [hq] at h12
  have H12 := zH h12
  have HQ := zH hq
  have hx8 := (zGc hq).2
  have HXO := zH (all_okT (zGc hq).1)
  subst e11
  clear h12 hq
  go_wp2_with fail
  refine H12.out.mono ?_
  rintro e w12 ⟨hb12, hres⟩
  obtain ⟨C12, d12, rfl, hd12, hC12⟩ : ∃ D d, e = .returned (.tuple #[.slice D x.length d, .int .i64 ((n11 : Int) - (t.length : Nat)), .bool true]) ∧ x.length ≤ d ∧ Kd.C k27 w12 D x.length x := by
   rcases hres with ⟨h, -⟩ | ⟨x', t', D, d', h, he, hd', hC'⟩
   ·cases h
   simp only [Option.some.injEq, Prod.mk.injEq] at h
   obtain ⟨rfl, rfl⟩ := h
   exact ⟨D, d', he, hd', hC'⟩
  have HC12 := zH hC12
  have HB12 := zH (zAe HB11.out hb12)
  clear hb12 H12 hC12 hres
  obtain ⟨z, hz⟩ : ∃ z : Int, (n11 : Int) - (t.length : Nat) = z := ⟨_, rfl⟩
  rw [hz]
  obtain ⟨V, eV⟩ : ∃ V, V = w12.alloc (.cells #[.slice B n11 d, .int .i64 at_, .bool false] 93) := ⟨_, rfl⟩
  have hX : RB V w12.heap.size B n11 d at_ false := by rw [eV]; exact zAs w12 _
  have hBV : Below w12.heap.size w12 V := eV ▸ zAc (Below.refl _ _) _
  have h13 := rtget76 w12 V w12.heap.size B n11 d bs at_ HN.out (by omega) hd (Nat.le_refl _) hBV hX (Kd.C_below HD.out HB12.out)
  rw [HQ.out] at h13
  have H13 := zH h13
  have HZ := zH hz
  clear h13 hX hBV hz
  go_wp2_with fail
  rw [← eV]
  refine H13.out.mono ?_
  rintro e w13 ⟨hb13, -, hres⟩
  obtain ⟨D13, d13, rfl, hd13, hC13, hRB⟩ : ∃ D d', e = .returned (.slice D x.length d') ∧ x.length ≤ d' ∧ Kd.C k27 w13 D x.length x ∧ RB w13 w12.heap.size B n11 d z false := by
   rcases hres with ⟨h, _⟩ | ⟨x', t', B', d', h, he, hd, hC', hRB⟩
   ·cases h
   simp only [Option.some.injEq, Prod.mk.injEq] at h
   obtain ⟨rfl, rfl⟩ := h
   rw [HZ.out] at hRB
   exact ⟨B', d', he, hd, hC', hRB⟩
  have HB13 := zH (zAe HB12.out hb13)
  have HC13 := zH hC13
  have HC12' := zH (Kd.C_below HC12.out hb13)
  have HRB := zH hRB
  have g2 := hRB.c2
  have g1 := hRB.c1
  clear hb13 hres H13 eV hC13 hRB HC12
  go_wp2_with fail
  (with_reducible refine (same49 _ x C12 d12 D13 d13 (by omega) HXO.out HC12'.out HC13.out).mono ?_)
  rintro e w14 ⟨rfl, hb14⟩
  have g3 := (HRB.out.below hb14).c1
  have HB14 := zH (zAe HB13.out hb14)
  go_wp2_with fail
  (with_reducible refine (zJp _).mono ?_)
  rintro e w15 ⟨rfl, hb15⟩
  go_wp2
  go_ret
  exact ⟨rfl, zAe HB14.out hb15⟩
 | false =>
 have HBx := HB2
 clear hm
 go_wp2_with fail
 (with_reducible refine (bytes73 _ B n d bs HN.out (by omega) (Kd.C_below HD.out HBx.out)).mono ?_)
 rintro e w11 ⟨A11, n11, c11, rfl, HN11, hc11, HR11, hb11⟩
 have HB11 := zH (zAe HBx.out hb11)
 clear hb11
 have hn11 : n11 ≤ 1000000000000000 := by have := HN.out; have := HN11.out; omega
 have h12 := tget74 w11 A11 n11 c11 bs at_ HN11.out hn11 hc11 (R_C HR11.out)
 have e11 : n11 = n := by have := HN.out; have := HN11.out; omega
 rw [e11] at h12
 cases hq : zFq bs at_ with
 | none =>
  rw [hq] at h12
  have H12 := zH h12
  have HQ := zH hq
  subst e11
  clear h12 hq
  go_wp2_with fail
  refine H12.out.mono ?_
  rintro e w12 ⟨hb12, hres⟩
  obtain rfl : e = .returned (.tuple #[.slice none 0 0, .int .i64 0, .bool false]) := by
   rcases hres with ⟨-, h⟩ | ⟨l', r', _, _, h, -⟩
   ·exact h
   cases h
  have HB12 := zH (zAe HB11.out hb12)
  clear hb12 H12 hres
  obtain ⟨V, eV⟩ : ∃ V, V = w12.alloc (.cells #[.slice B n11 d, .int .i64 at_, .bool false] 93) := ⟨_, rfl⟩
  have hX : RB V w12.heap.size B n11 d at_ false := by rw [eV]; exact zAs w12 _
  have hBV : Below w12.heap.size w12 V := eV ▸ zAc (Below.refl _ _) _
  have h13 := rtget76 w12 V w12.heap.size B n11 d bs at_ HN.out (by omega) hd (Nat.le_refl _) hBV hX (Kd.C_below HD.out HB12.out)
  rw [HQ.out] at h13
  have H13 := zH h13
  clear h13 hX hBV
  go_wp2_with fail
  rw [← eV]
  refine H13.out.mono ?_
  rintro e w13 ⟨hb13, -, hres⟩
  obtain ⟨rfl, i, hRB⟩ : e = .returned (.slice none 0 0) ∧ ∃ i, RB w13 w12.heap.size B n11 d i true := by
   rcases hres with ⟨-, he, i, hRB⟩ | ⟨x, t, B', d', h, _⟩
   ·exact ⟨he, i, hRB⟩
   cases h
  have HB13 := zH (zAe HB12.out hb13)
  have g2 := hRB.c2
  clear hRB hb13 hres H13 eV
  go_wp2_with fail
  (with_reducible refine (zJp _).mono ?_)
  rintro e w14 ⟨rfl, hb14⟩
  go_wp2
  go_ret
  exact ⟨rfl, zAe HB13.out hb14⟩
 | some q =>
 obtain ⟨x, t⟩ := q
 rw [hq] at h12
 have H12 := zH h12
 have HQ := zH hq
 have hx8 := (zGc hq).2
 have HXO := zH (all_okT (zGc hq).1)
 subst e11
 clear h12 hq
 go_wp2_with fail
 refine H12.out.mono ?_
 rintro e w12 ⟨hb12, hres⟩
 obtain ⟨C12, d12, rfl, hd12, hC12⟩ : ∃ D d, e = .returned (.tuple #[.slice D x.length d, .int .i64 ((n11 : Int) - (t.length : Nat)), .bool true]) ∧ x.length ≤ d ∧ Kd.C k27 w12 D x.length x := by
  rcases hres with ⟨h, -⟩ | ⟨x', t', D, d', h, he, hd', hC'⟩
  ·cases h
  simp only [Option.some.injEq, Prod.mk.injEq] at h
  obtain ⟨rfl, rfl⟩ := h
  exact ⟨D, d', he, hd', hC'⟩
 have HC12 := zH hC12
 have HB12 := zH (zAe HB11.out hb12)
 clear hb12 H12 hC12 hres
 obtain ⟨z, hz⟩ : ∃ z : Int, (n11 : Int) - (t.length : Nat) = z := ⟨_, rfl⟩
 rw [hz]
 obtain ⟨V, eV⟩ : ∃ V, V = w12.alloc (.cells #[.slice B n11 d, .int .i64 at_, .bool false] 93) := ⟨_, rfl⟩
 have hX : RB V w12.heap.size B n11 d at_ false := by rw [eV]; exact zAs w12 _
 have hBV : Below w12.heap.size w12 V := eV ▸ zAc (Below.refl _ _) _
 have h13 := rtget76 w12 V w12.heap.size B n11 d bs at_ HN.out (by omega) hd (Nat.le_refl _) hBV hX (Kd.C_below HD.out HB12.out)
 rw [HQ.out] at h13
 have H13 := zH h13
 have HZ := zH hz
 clear h13 hX hBV hz
 go_wp2_with fail
 rw [← eV]
 refine H13.out.mono ?_
 rintro e w13 ⟨hb13, -, hres⟩
 obtain ⟨D13, d13, rfl, hd13, hC13, hRB⟩ : ∃ D d', e = .returned (.slice D x.length d') ∧ x.length ≤ d' ∧ Kd.C k27 w13 D x.length x ∧ RB w13 w12.heap.size B n11 d z false := by
  rcases hres with ⟨h, _⟩ | ⟨x', t', B', d', h, he, hd, hC', hRB⟩
  ·cases h
  simp only [Option.some.injEq, Prod.mk.injEq] at h
  obtain ⟨rfl, rfl⟩ := h
  rw [HZ.out] at hRB
  exact ⟨B', d', he, hd, hC', hRB⟩
 have HB13 := zH (zAe HB12.out hb13)
 have HC13 := zH hC13
 have HC12' := zH (Kd.C_below HC12.out hb13)
 have HRB := zH hRB
 have g2 := hRB.c2
 have g1 := hRB.c1
 clear hb13 hres H13 eV hC13 hRB HC12
 go_wp2_with fail
 (with_reducible refine (same49 _ x C12 d12 D13 d13 (by omega) HXO.out HC12'.out HC13.out).mono ?_)
 rintro e w14 ⟨rfl, hb14⟩
 have g3 := (HRB.out.below hb14).c1
 have HB14 := zH (zAe HB13.out hb14)
 go_wp2_with fail
 (with_reducible refine (zJp _).mono ?_)
 rintro e w15 ⟨rfl, hb15⟩
 go_wp2
 go_ret
 exact ⟨rfl, zAe HB14.out hb15⟩
end Go.Proofs.Yteafilojjdfllaa
end
section

section
section
namespace Go.Proofs.Yteafilojjdfllaa.tombBytes
open Go.ChangeShapes Go.WideShapes Go.ChangeAt Go.RowKit Go.Proofs.YteafilojjdfllaaW.PrintWords Go.Proofs.Yteafilojjdfllaa.PAll
set_option linter.unusedVariables false
theorem cells5b : Try.prog.cellsOf 5 = Kd.sz (Kd.int .u8) := by kernel_rfl
theorem bytes_of : ∀ (l : List Int), (∀ a ∈ l, (Lit.int .u8 a).wf = true) → ∃ bs : List UInt8, l = bys bs
 | [], _ => ⟨[], rfl⟩
 | a :: l, h => by
  obtain ⟨bs, rfl⟩ := bytes_of l (fun x hx => h x (List.mem_cons_of_mem _ hx))
  have ha := h a (List.mem_cons_self ..)
  refine ⟨a.toNat.toUInt8 :: bs, ?_⟩
  have h2 : 0 ≤ a ∧ a < 256 := by
   have h3 : IntKind.u8.min ≤ a ∧ a ≤ IntKind.u8.max := by simpa [Lit.wf] using ha
   have e0 : IntKind.u8.min = 0 := by decide
   have e1 : IntKind.u8.max = 255 := by decide
   omega
  simp only [bys, List.map_cons, List.cons.injEq, and_true]
  have : (a.toNat.toUInt8).toNat = a.toNat := by simp; omega
  omega
theorem lifted (os : Os) (started : os.Started) (H : Type) (enc : TypeId × Value → H) :
  ReturnsInHanded {} Try.checked os 19 .any (Rows.tombBytesSpec.pre6 enc Try.prog Try.f19 Rows.tombBytesRow.domain false) (Rows.tombBytesSpec.post enc Try.prog Try.f19 false true false false) := by
 refine returnsInHanded_of_change_sized (C := Try.checked) own started (by kernel_rfl) Try.func19
  (ChangeSpec.witness6 (enc := enc) (C := Try.checked) false ⟨#[], #[.slice none 0 0, .slice none 0 0, .int .i64 0], []⟩ 20 (by kernel_rfl) (by kernel_rfl) (by kernel_rfl) (by kernel_rfl)) ?_
 intro W base args ds gs zHj hval0 hW hcnd hsz0 _
 have hsz : (DataW.weightsEach Try.prog (Try.f19.params.toList ++ Rows.tombBytesSpec.plain.varTypes Try.prog) (ds ++ gs)).all (· ≤ reachBytes) = true := hsz0
 have hval : ∀ (j : Nat) t v, Try.f19.params[j]? = some t → args[j]? = some v → Value.okWide Try.prog W .any base t v := hval0
 have hW' := hW
 obtain ⟨p, q, hA0, hV, rfl, hfz, hnd⟩ := hW
 have hA : DataW.TrodAll enc Try.prog W 0 (fun _ => true) true Try.f19.params.toList args.toList ds p := hA0
 rw [Try.params19] at hA hval hsz
 have hA0' := hA0
 obtain ⟨v0, vs0, d0, ds0, p0, q0, hargs, rfl, rfl, h0, r0⟩ := trodAll_cons hA
 obtain ⟨v1, vs1, d1, ds1, p1, q1, rfl, rfl, rfl, h1, r1⟩ := trodAll_cons r0
 obtain ⟨v2, vs2, d2, ds2, p2, q2, rfl, rfl, rfl, h2, r2⟩ := trodAll_cons r1
 obtain ⟨rfl, rfl, rfl⟩ := trodAll_nil r2
 obtain rfl : args = #[v0, v1, v2] := by cases args; simp_all
 obtain ⟨rfl, rfl⟩ := trodVars_none hV
 obtain ⟨A0, c0, l0, rfl, hc0, hC0, hz0, hn0, hS0⟩ := open_sl (B := 112) Try.underlying45 cells27 (by kernel_rfl) op27 (hval 0 45 v0 rfl rfl) h0 (hw_of (j := 0) hsz rfl rfl)
 obtain ⟨A1, c1, l1, rfl, hc1, hC1, hz1, hn1, hS1⟩ := open_sl (B := 1) Try.underlying85 cells5b (by kernel_rfl) (fun n => op_int Try.underlying5 n) (hval 1 85 v1 rfl rfl) h1 (hw_of (j := 1) hsz rfl rfl)
 obtain ⟨bs1, rfl⟩ := bytes_of l1 hS1
 obtain ⟨a2, rfl, rfl, rfl, w2⟩ := open_int Try.underlying3 (hval 2 3 v2 rfl rfl) h2
 clear hA0 hval0
 refine (tombBytes_walk W l0 A0 c0 A1 (bys bs1).length c1 bs1 a2 (zBm bs1).symm hc1 (by have := hz1; rw [Nat.mul_one] at this; exact Nat.le_trans this (by decide)) hC0 (by have := hC1; rw [zBm] at this; exact this)).mono fun e W' ⟨he, bel⟩ => ?_
 subst he
 exact ⟨_, rfl, _, _, _, [], _, [], hW', trodAll_mk1 (shut_bool Try.underlying4 _), zGv bel (by rw [Try.params19]; intro t ht; simp only [List.mem_cons, List.not_mem_nil, or_false] at ht; rcases ht with rfl | rfl | rfl <;> exact ⟨by kernel_rfl, zO (by kernel_rfl)⟩) hA0', rfl, bel.frame _, fun h => by cases h⟩
theorem closed : joinedFacts Try.prog 19 Try.f19 Rows.tombBytesSpec Rows.tombBytesRow = true := by
 unfold joinedFacts
 rw [pf_laid, pf_maps, pf_stops, pf_knobs, pf_plain, pf_heard, pf_enter, pf_lifts, pf_make]
 kernel_rfl
theorem inst : Try.f19.isInstance Try.prog Rows.tombBytesRow.origin Rows.tombBytesRow.targs := zO (by kernel_rfl)
theorem wrap : Try.f19.isWrapper Try.prog Rows.tombBytesRow.wrapper Rows.tombBytesRow.mainSum := by
 unfold Func.isWrapper; first | (rw [if_pos (by decide +kernel)]; kernel_rfl) | (rw [if_neg (by decide +kernel)]; exact ⟨rfl, rfl⟩)
theorem over : Rows.tombBytesRow.holds Try.pinned (OpenSpec.ofChange Rows.tombBytesSpec) :=
 OpenClaim.holds_of_wide 19 Try.f19 rfl rfl rfl rfl rfl rfl rfl ⟨rfl, rfl, rfl, rfl, rfl⟩ rfl rfl rfl rfl rfl (by kernel_rfl) Try.func19 closed inst wrap
  (fun os started H enc _ => lifted os started H enc)
end Go.Proofs.Yteafilojjdfllaa.tombBytes
namespace Go.Proofs.Yteafilojjdfllaa
theorem tombBytes_holds : Rows.TombBytesSaid := tombBytes.over
#print axioms tombBytes_holds
end Go.Proofs.Yteafilojjdfllaa
end
end
end
