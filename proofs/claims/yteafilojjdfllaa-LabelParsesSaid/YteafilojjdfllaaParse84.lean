/- Own text: label.Parse, walked (written by wip/genparse.py). -/
import Derived.Test.YteafilojjdfllaaUnq132
import Derived.Test.YteafilojjdfllaaParseL
namespace Go.Proofs.Yteafilojjdfllaa
open Go Go.RowKit Go.Proofs.YteafilojjdfllaaW.PrintWords Go.Proofs.YteafilojjdfllaaW.PrintLast Go.Proofs.YteafilojjdfllaaW.PrintMore Go.Proofs.Yteafilojjdfllaa.PAll
set_option linter.unusedVariables false
set_option linter.unusedSimpArgs false

theorem infoLp : (Try.prog.info? 68).map (fun i => (i.zero, i.size, i.bytes)) = some (some (.agg #[.string ⟨#[]⟩, .string ⟨#[]⟩]), 2, 32) := by kernel_rfl
theorem chk_len9 {l : List S68} (h : chkS l = true) : l.length ≤ 9 := by have := (chkS_iff l).1 h; omega
theorem chk_ok9 {l : List S68} (h : chkS l = true) : ∀ x ∈ l, okS x = true := by
  unfold chkS at h
  simp only [Bool.and_eq_true, List.all_eq_true] at h
  exact h.1.2
theorem idx131s (w : World) (s : ByteArray) (j : Nat) (v : Int) (hv : Lib.indexByte (s.data.toList.drop j) 61 = v) : Calls Try.prog 131 #[.string (s.extract j s.size), .int .u8 61] w fun e w' => e = .returned (.int .i64 v) ∧ w' = w := by
  refine (Try.strings_IndexByte _ _ w).mono ?_
  rintro e w' ⟨rfl, rfl⟩
  rw [ext_drop, ← hv]
  exact ⟨rfl, rfl⟩
theorem unq132i (w : World) (s : ByteArray) (m : Nat) (z : Int) (hz : z = (m : Int)) (hi : m ≤ s.size) (hs : s.size ≤ 1000000000) (q : Option (List UInt8 × List UInt8)) (hq : valW stepP (s.data.toList.drop m) = q) :
    Calls Try.prog 132 #[.string s, .int .i64 z] w fun e w' => e = .returned (unqRet s.size q) ∧ Below w.heap.size w w' := by
  subst hz hq
  exact unq132 w s m hi hs
theorem unq132n (w : World) (s : ByteArray) (m : Nat) (z : Int) (hz : z = (m : Int)) (hi : m ≤ s.size) (hs : s.size ≤ 1000000000) (hq : valW stepP (s.data.toList.drop m) = none) :
    Calls Try.prog 132 #[.string s, .int .i64 z] w fun e w' => e = .returned (.tuple #[.string ⟨#[]⟩, .int .i64 0, .bool false]) ∧ Below w.heap.size w w' := unq132i w s m z hz hi hs none hq
theorem unq132s (w : World) (s : ByteArray) (m : Nat) (z : Int) (hz : z = (m : Int)) (hi : m ≤ s.size) (hs : s.size ≤ 1000000000) (v t : List UInt8) (n : Nat) (x : ByteArray) (hq : valW stepP (s.data.toList.drop m) = some (v, t)) (hn : ((s.size : Int) - (t.length : Nat)) = (n : Int)) (hx : (⟨v.toArray⟩ : ByteArray) = x) :
    Calls Try.prog 132 #[.string s, .int .i64 z] w fun e w' => e = .returned (.tuple #[.string x, .int .i64 n, .bool true]) ∧ Below w.heap.size w w' := by
  have h := unq132i w s m z hz hi hs _ hq
  rw [← hn, ← hx]
  exact h
def ParsePost (s : ByteArray) (e : Ending) (w' : World) : Prop :=
  (parseW s = none ∧ e = .returned (.tuple #[.slice none 0 0, .int .i64 17])) ∨ ∃ l A c, parseW s = some l ∧ e = .returned (.tuple #[.slice A l.length c, .int .i64 0]) ∧ l.length ≤ c ∧ Kd.C k68 w' A l.length l
set_option maxRecDepth 100000 in
set_option maxHeartbeats 8000000 in
/-- label.Parse. -/
theorem parse84 (w : World) (s : ByteArray) (hs : s.size ≤ 1000000000) :
    Calls Try.prog 84 #[.string s] w fun e w' => ParsePost s e w' ∧ Below w.heap.size w w' := by
  obtain ⟨M, hM⟩ : ∃ M, manyW cutP stepP 9 s.data.toList = M := ⟨_, rfl⟩
  have HM0 := Lib.hid hM
  clear hM
  unfold ParsePost
  go_enter Try.func84, Try.ntmps84
  go_wp2
  go_loopw [4, 5, 6, 7, 8, 9] (fun u4 u5 _ _ _ _ wr => ∃ (j : Nat) (ls : List S68), u5 = .int .i64 j ∧ j ≤ s.size ∧ ls.length ≤ 9 ∧ Hid (k68.R 68 wr w.heap.size (fun k => w.heap.size ≤ k) u4 ls) ∧ Hid (M = (manyW cutP stepP (9 - ls.length) (s.data.toList.drop j)).map (fun r => ls ++ r)) ∧ Hid (Below w.heap.size w wr))
    (fun _ u5 _ _ _ _ _ => s.size - (intOf u5).toNat)
  case atStart => exact ⟨0, [], rfl, Nat.zero_le _, Nat.zero_le _, Lib.hid (Kd.R_nil _ _ _ _ _), Lib.hid (by rw [show (9 - ([] : List S68).length) = 9 from rfl, List.drop_zero, HM0.out]; cases M <;> rfl), Lib.hid (Below.refl _ _)⟩
  case round =>
    obtain ⟨j, ls, rfl, hj, hl9, HR, HE, HB⟩ := hrel
    by_cases hlt : ls.length ≤ 8
    · obtain ⟨Au, cu, rfl⟩ := Kd.R_slice HR.out
      obtain ⟨il, ih⟩ := index_lt (s.data.toList.drop j) 61
      have hdl : (s.data.toList.drop j).length = s.size - j := by rw [List.length_drop]; simp
      rw [hdl] at il
      obtain ⟨k9, hk9⟩ : ∃ k, 9 - ls.length = k + 1 := ⟨8 - ls.length, by omega⟩
      rw [hk9] at HE
      obtain ⟨v, hv⟩ : ∃ v, Lib.indexByte (s.data.toList.drop j) 61 = v := ⟨_, rfl⟩
      rw [hv] at il ih
      have HV := Lib.hid hv
      clear hv hdl
      by_cases v0 : v < 0
      · have HN := Lib.hid (parse_none (HM0.out.trans (app_none HE.out (many_none (one_none (Or.inl (by rw [HV.out]; exact v0)))))))
        go_wp2_with (first | (go_at_call 131; (with_reducible refine (idx131s _ s j v HV.out).mono ?_); rintro e w1 ⟨rfl, rfl⟩))
        go_ret2
        exact ⟨Or.inl ⟨HN.out, rfl⟩, HB.out⟩
      · by_cases v32 : v > 32
        · have HN := Lib.hid (parse_none (HM0.out.trans (app_none HE.out (many_none (one_none (Or.inr (by rw [HV.out]; exact v32)))))))
          go_wp2_with (first | (go_at_call 131; (with_reducible refine (idx131s _ s j v HV.out).mono ?_); rintro e w1 ⟨rfl, rfl⟩))
          go_ret2
          exact ⟨Or.inl ⟨HN.out, rfl⟩, HB.out⟩
        · obtain ⟨n, rfl⟩ : ∃ n : Nat, v = (n : Int) := ⟨v.toNat, by omega⟩
          have hn32 : n ≤ 32 := by omega
          have hjn : j + n + 1 ≤ s.size := by omega
          have HO1 := Lib.hid (one_val (step := stepP) HV.out hn32)
          obtain ⟨q, hq⟩ : ∃ q, valW stepP (s.data.toList.drop (j + n + 1)) = q := ⟨_, rfl⟩
          have HO2 := Lib.hid (show oneW cutP stepP (s.data.toList.drop j) = q.map (fun q => (⟨s.extract j (j + n), ⟨q.1.toArray⟩⟩, q.2)) from by rw [HO1.out, List.drop_drop, show j + (n + 1) = j + n + 1 by omega, hq, ext_take])
          have HQ := Lib.hid hq
          clear hq HO1
          have HZ := Lib.hid (show (j : Int) + (n : Int) + 1 = ((j + n + 1 : Nat) : Int) from by omega)
          cases q with
          | none =>
            have HN := Lib.hid (parse_none (HM0.out.trans (app_none HE.out (many_none HO2.out))))
            go_wp2_with (first | (go_at_call 131; (with_reducible refine (idx131s _ s j n HV.out).mono ?_); rintro e w1 ⟨rfl, rfl⟩) | (go_at_call 132; (with_reducible refine (unq132n _ s (j + n + 1) _ HZ.out hjn hs HQ.out).mono ?_); rintro e w2 ⟨rfl, hb2⟩))
            go_ret2
            exact ⟨Or.inl ⟨HN.out, rfl⟩, below_step HB.out hb2⟩
          | some q =>
            obtain ⟨vv, t⟩ := q
            obtain ⟨hp1, hp2⟩ := val_place HQ.out
            obtain ⟨m, hm⟩ : ∃ m, s.size - t.length = m := ⟨_, rfl⟩
            have HmI := Lib.hid (show ((s.size : Int) - (t.length : Nat)) = (m : Int) from by omega)
            rw [hm] at hp2
            have hms : m ≤ s.size := by omega
            have Hm := Lib.hid hm
            have HP := Lib.hid hp2
            obtain ⟨x, hx⟩ : ∃ x : S68, (⟨s.extract j (j + n), ⟨vv.toArray⟩⟩ : S68) = x := ⟨_, rfl⟩
            have Hx0 := Lib.hid (show s.extract j (j + n) = x.f0 from by rw [← hx])
            have Hx1 := Lib.hid (show (⟨vv.toArray⟩ : ByteArray) = x.f1 from by rw [← hx])
            have HO := Lib.hid (show oneW cutP stepP (s.data.toList.drop j) = some (x, t) from by rw [HO2.out, ← hx]; rfl)
            have Hjm := Lib.hid (show j < m from by
              have h1 := (val_suffix HQ.out).length_le
              have h2 : (s.data.toList.drop (j + n + 1)).length = s.size - (j + n + 1) := by rw [List.length_drop]; simp
              omega)
            have hx0 := Hx0.out
            have hjn2 : j + n ≤ s.size := by omega
            clear hm hp1 hp2 hx HO2
            cases t with
            | nil =>
              have hme : m = s.size := by have := Hm.out; simp at this; omega
              have HM := Lib.hid (HM0.out.trans (app_some HE.out (many_last HO.out)))
              have dm : ((m : Int) == (s.size : Int)) = true := beq_iff_eq.2 (by omega)
              clear hme
              go_wp2_with (first | (go_at_call 131; (with_reducible refine (idx131s _ s j n HV.out).mono ?_); rintro e w1 ⟨rfl, rfl⟩) | (go_at_call 132; (with_reducible refine (unq132s _ s (j + n + 1) _ HZ.out hjn hs vv _ m x.f1 HQ.out HmI.out Hx1.out).mono ?_); rintro e w2 ⟨rfl, hb2⟩; have HR2 := Lib.hid (Kd.R_below HR.out hb2); have HB2 := Lib.hid (below_step HB.out hb2); clear hb2) | (at_builtin; refine Kd.R_append k68 (w0 := w) w.heap.size rfl (.tmp 37) (.tmp 46) 28 68 (.agg #[.string ⟨#[]⟩, .string ⟨#[]⟩]) 32 rfl Try.underlying28 infoLp rfl (by decide) (by omega) (.slice Au ls.length cu) ls x [.string x.f0, .string x.f1] (fun k => w.heap.size ≤ k) (fun _ => False) rfl rfl (k68_mkM _ _ _ x) (fun _ hk => hk.elim) (fun k hk => Nat.le_trans (below_size HB2.out) hk) HR2.out HB2.out (below_size HB2.out) (by omega) ?_; intro v1 w3 hown1 hbel1 hg1 hat1; have HR3 := Lib.hid hown1; have HB3 := Lib.hid hbel1; clear hown1 hbel1 hg1 hat1))
              obtain ⟨L, eL⟩ : ∃ L, ls ++ [x] = L := ⟨_, rfl⟩
              rw [eL] at HM HR3
              clear eL
              obtain ⟨A4, c4, rfl, hc4, hC4⟩ := Kd.R_reads HR3.out
              have HC4 := Lib.hid hC4
              clear hC4
              go_wp2_with fail
              (with_reducible refine (check62 _ L A4 c4 HC4.out).mono ?_)
              rintro e y1 ⟨rfl, gb1⟩
              have gB1 := below_step HB3.out gb1
              have GC1 := Lib.hid (Kd.C_below HC4.out gb1)
              cases hv : chkS (L) with
              | false =>
                have HN := Lib.hid (parse_bad HM.out (by rw [hv]; rfl))
                clear hv
                go_wp2
                go_ret2
                exact ⟨Or.inl ⟨HN.out, rfl⟩, gB1⟩
              | true =>
                have HV := Lib.hid hv
                clear hv
                go_wp2_with fail
                (with_reducible refine (text79 _ (L) A4 c4 (chk_len9 HV.out) (chk_ok9 HV.out) GC1.out).mono ?_)
                rintro e y2 ⟨rfl, gb2⟩
                have gB2 := below_step gB1 gb2
                have GC2 := Lib.hid (Kd.C_below GC1.out gb2)
                obtain ⟨tx, htx⟩ : ∃ t, textB (L) = t := ⟨_, rfl⟩
                rw [htx]
                cases hq : (tx.toList == s.toList) with
                | false =>
                  have HN := Lib.hid (parse_bad HM.out (by rw [HV.out, htx, hq]; rfl))
                  clear htx
                  go_wp2
                  go_ret2
                  exact ⟨Or.inl ⟨HN.out, rfl⟩, gB2⟩
                | true =>
                  have HN := Lib.hid (parse_good HM.out (by rw [HV.out, htx, hq]; rfl))
                  clear htx
                  go_wp2
                  go_ret2
                  exact ⟨Or.inr ⟨_, A4, c4, HN.out, rfl, hc4, GC2.out⟩, gB2⟩
            | cons c t =>
              have hmlt : m < s.size := by have := Hm.out; simp at this; omega
              have hcm : bN s m = c := by have := bN_drop s m hmlt; rw [HP.out] at this; cases this; rfl
              have HP2 := Lib.hid (show s.data.toList.drop (m + 1) = t from by have := bN_drop s m hmlt; rw [HP.out] at this; cases this; rfl)
              have g1 := bN_at s m c hcm
              have dm : ((m : Int) == (s.size : Int)) = false := beq_eq_false_iff_ne.2 (by omega)
              clear hcm
              by_cases e44 : (c.toNat : Int) = 44
              · have hc44 : c = 44 := (un_toNat (n := 44) (by decide)).1 e44
                have HE2 := Lib.hid (app_snoc HE.out (many_next (show oneW cutP stepP (s.data.toList.drop j) = some (x, 44 :: t) from by rw [HO.out, hc44])))
                clear hc44
                go_wp2_with (first | (go_at_call 131; (with_reducible refine (idx131s _ s j n HV.out).mono ?_); rintro e w1 ⟨rfl, rfl⟩) | (go_at_call 132; (with_reducible refine (unq132s _ s (j + n + 1) _ HZ.out hjn hs vv _ m x.f1 HQ.out HmI.out Hx1.out).mono ?_); rintro e w2 ⟨rfl, hb2⟩; have HR2 := Lib.hid (Kd.R_below HR.out hb2); have HB2 := Lib.hid (below_step HB.out hb2); clear hb2) | (at_builtin; refine Kd.R_append k68 (w0 := w) w.heap.size rfl (.tmp 37) (.tmp 46) 28 68 (.agg #[.string ⟨#[]⟩, .string ⟨#[]⟩]) 32 rfl Try.underlying28 infoLp rfl (by decide) (by omega) (.slice Au ls.length cu) ls x [.string x.f0, .string x.f1] (fun k => w.heap.size ≤ k) (fun _ => False) rfl rfl (k68_mkM _ _ _ x) (fun _ hk => hk.elim) (fun k hk => Nat.le_trans (below_size HB2.out) hk) HR2.out HB2.out (below_size HB2.out) (by omega) ?_; intro v1 w3 hown1 hbel1 hg1 hat1; have HR3 := Lib.hid hown1; have HB3 := Lib.hid hbel1; clear hown1 hbel1 hg1 hat1))
                go_roundw
                case rel => exact ⟨m + 1, ls ++ [x], by go_num, by omega, by rw [List.length_append, List.length_singleton]; omega, HR3, Lib.hid (by rw [HE2.out, HP2.out, List.length_append, List.length_singleton]; congr 2; omega), HB3⟩
                case measure => have := Hjm.out; simp [intOf]; omega
              · have n44 : ((c.toNat : Int) == 44) = false := beq_eq_false_iff_ne.2 e44
                have n44b : ((c.toNat : Int) != 44) = true := by simp [bne, n44]
                have HN := Lib.hid (parse_none (HM0.out.trans (app_none HE.out (many_stop HO.out (fun e => e44 (by rw [e]; rfl))))))
                go_wp2_with (first | (go_at_call 131; (with_reducible refine (idx131s _ s j n HV.out).mono ?_); rintro e w1 ⟨rfl, rfl⟩) | (go_at_call 132; (with_reducible refine (unq132s _ s (j + n + 1) _ HZ.out hjn hs vv _ m x.f1 HQ.out HmI.out Hx1.out).mono ?_); rintro e w2 ⟨rfl, hb2⟩; have HR2 := Lib.hid (Kd.R_below HR.out hb2); have HB2 := Lib.hid (below_step HB.out hb2); clear hb2) | (at_builtin; refine Kd.R_append k68 (w0 := w) w.heap.size rfl (.tmp 37) (.tmp 46) 28 68 (.agg #[.string ⟨#[]⟩, .string ⟨#[]⟩]) 32 rfl Try.underlying28 infoLp rfl (by decide) (by omega) (.slice Au ls.length cu) ls x [.string x.f0, .string x.f1] (fun k => w.heap.size ≤ k) (fun _ => False) rfl rfl (k68_mkM _ _ _ x) (fun _ hk => hk.elim) (fun k hk => Nat.le_trans (below_size HB2.out) hk) HR2.out HB2.out (below_size HB2.out) (by omega) ?_; intro v1 w3 hown1 hbel1 hg1 hat1; have HR3 := Lib.hid hown1; have HB3 := Lib.hid hbel1; clear hown1 hbel1 hg1 hat1))
                go_ret2
                exact ⟨Or.inl ⟨HN.out, rfl⟩, HB3.out⟩
    · have HM := Lib.hid (HM0.out.trans (app_some HE.out (show manyW cutP stepP (9 - ls.length) (s.data.toList.drop j) = some [] from by rw [show 9 - ls.length = 0 by omega, manyW])))
      rw [List.append_nil] at HM
      obtain ⟨A4, c4, rfl, hc4, hC4⟩ := Kd.R_reads HR.out
      have HC4 := Lib.hid hC4
      clear hC4
      go_wp2_with fail
      (with_reducible refine (check62 _ ls A4 c4 HC4.out).mono ?_)
      rintro e y1 ⟨rfl, gb1⟩
      have gB1 := below_step HB.out gb1
      have GC1 := Lib.hid (Kd.C_below HC4.out gb1)
      cases hv : chkS (ls) with
      | false =>
        have HN := Lib.hid (parse_bad HM.out (by rw [hv]; rfl))
        clear hv
        go_wp2
        go_ret2
        exact ⟨Or.inl ⟨HN.out, rfl⟩, gB1⟩
      | true =>
        have HV := Lib.hid hv
        clear hv
        go_wp2_with fail
        (with_reducible refine (text79 _ (ls) A4 c4 (chk_len9 HV.out) (chk_ok9 HV.out) GC1.out).mono ?_)
        rintro e y2 ⟨rfl, gb2⟩
        have gB2 := below_step gB1 gb2
        have GC2 := Lib.hid (Kd.C_below GC1.out gb2)
        obtain ⟨tx, htx⟩ : ∃ t, textB (ls) = t := ⟨_, rfl⟩
        rw [htx]
        cases hq : (tx.toList == s.toList) with
        | false =>
          have HN := Lib.hid (parse_bad HM.out (by rw [HV.out, htx, hq]; rfl))
          clear htx
          go_wp2
          go_ret2
          exact ⟨Or.inl ⟨HN.out, rfl⟩, gB2⟩
        | true =>
          have HN := Lib.hid (parse_good HM.out (by rw [HV.out, htx, hq]; rfl))
          clear htx
          go_wp2
          go_ret2
          exact ⟨Or.inr ⟨_, A4, c4, HN.out, rfl, hc4, GC2.out⟩, gB2⟩
end Go.Proofs.Yteafilojjdfllaa
