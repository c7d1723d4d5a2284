/- Own text: Parse86, LawLabelParses, laid into one text. -/
import Derived.Test.YteafilojjdfllaaRefVal
import Derived.Test.YteafilojjdfllaaRefName
import Derived.Test.YteafilojjdfllaaQuotR
import Derived.Test.YteafilojjdfllaaParse84
import Derived.Test.YteafilojjdfllaaLabChkR
import Derived.Test.YteafilojjdfllaaLabKit
import Derived.Test.YteafilojjdfllaaAwakeL
namespace Go.Proofs.Yteafilojjdfllaa
section
open Go Go.RowKit Go.Proofs.YteafilojjdfllaaW.PrintWords Go.Proofs.YteafilojjdfllaaW.PrintLast Go.Proofs.YteafilojjdfllaaW.PrintMore Go.Proofs.Yteafilojjdfllaa.PAll
set_option linter.unusedVariables false
set_option linter.unusedSimpArgs false

theorem one_len {cut : List UInt8 → Option Nat} {step : List UInt8 → Step} {r t : List UInt8} {x : S68} (h : oneW cut step r = some (x, t)) : x.f0.data.toList.length ≤ r.length ∧ t.length ≤ r.length := by
  unfold oneW at h
  split at h
  · cases h
  · rw [Option.map_eq_some_iff] at h
    obtain ⟨⟨v, u⟩, hv, e⟩ := h
    simp only [Prod.mk.injEq] at e
    obtain ⟨rfl, rfl⟩ := e
    have h1 := (val_suffix hv).length_le
    simp only [List.length_drop] at h1
    refine ⟨by simp; omega, by omega⟩
theorem many_both {cut : List UInt8 → Option Nat} {step : List UInt8 → Step} : ∀ (k : Nat) (r : List UInt8) (L : List S68), manyW cut step k r = some L → L.length ≤ k ∧ ∀ x ∈ L, x.f0.data.toList.length ≤ r.length
  | 0, r, L, h => by
    rw [manyW] at h
    cases h
    simp
  | k + 1, r, L, h => by
    rw [many_succ] at h
    split at h
    · cases h
    · next x hx =>
      cases h
      have := (one_len hx).1
      simpa using this
    · next x c t hx =>
      obtain ⟨h1, h2⟩ := one_len hx
      split at h
      · rw [Option.map_eq_some_iff] at h
        obtain ⟨L', hL, rfl⟩ := h
        obtain ⟨i1, i2⟩ := many_both k t L' hL
        refine ⟨by simp only [List.length_cons]; omega, fun y hy => ?_⟩
        rcases List.mem_cons.1 hy with rfl | hy
        · exact h1
        · have := i2 y hy
          simp only [List.length_cons] at h2
          omega
      · cases h
theorem many_names {cut : List UInt8 → Option Nat} {step : List UInt8 → Step} {k : Nat} {r : List UInt8} {L : List S68} (h : manyW cut step k r = some L) : ∀ x ∈ L, x.f0.data.toList.length ≤ r.length := (many_both k r L h).2
theorem many_len {cut : List UInt8 → Option Nat} {step : List UInt8 → Step} {k : Nat} {r : List UInt8} {L : List S68} (h : manyW cut step k r = some L) : L.length ≤ k := (many_both k r L h).1
theorem names_size {s : ByteArray} {x : S68} (hs : s.size ≤ 1000000000) (h : x.f0.data.toList.length ≤ s.data.toList.length) : x.f0.size ≤ 140737488351232 := by
  have e1 : x.f0.data.toList.length = x.f0.size := by simp
  have e2 : s.data.toList.length = s.size := by simp
  omega
theorem nameEnd_le {s : ByteArray} {i : Nat} (hi : i ≤ s.size) : nameEnd s i ≤ s.size := by
  unfold nameEnd
  have h1 := (List.takeWhile_sublist nameC (l := s.data.toList.drop i)).length_le
  rw [drop_len] at h1
  omega
theorem nameEnd_ge {s : ByteArray} {i : Nat} : i ≤ nameEnd s i := by unfold nameEnd; omega
theorem nameEnd_drop {s : ByteArray} {i : Nat} : (s.data.toList.drop i).dropWhile nameC = s.data.toList.drop (nameEnd s i) := by
  rw [← (take_drop_len nameC _).2, List.drop_drop]; rfl
def lenV : Value → Nat
  | .slice _ n _ => n
  | _ => 0
theorem measL {W : World} {base : Nat} {ok : Nat → Prop} {v : Value} {Au : Option Addr} {cu : Nat} {ls : List S68} {x : S68} (hlt : ls.length ≤ 8) (h : k68.R 68 W base ok v (ls ++ [x])) : 10 - lenV v < 10 - lenV (.slice Au ls.length cu) := by
  obtain ⟨A, c, rfl⟩ := Kd.R_slice h
  simp only [lenV, List.length_append, List.length_singleton]
  omega
theorem must135t (w0 w : World) (g : Nat) (s : ByteArray) (i : Nat) (b : Bool) (c : UInt8) (hb : b = true) (hi : i ≤ s.size) (hs : s.size ≤ 1000000000) (hg : w0.heap.size ≤ g) (hB : Below w0.heap.size w0 w) (hS : SB w g s i b) :
    Calls Try.prog 135 #[.pointer (some ⟨g, 0, none⟩), .int .u8 (c.toNat : Int)] w (SPost w0 w g s i true (.tuple #[])) := by
  subst hb
  exact must135 w0 w g s i true c hi hs hg hB hS
theorem must135n (w0 w : World) (g : Nat) (s : ByteArray) (i : Nat) (c : UInt8) (hc : i < s.size → bN s i ≠ c) (hi : i ≤ s.size) (hs : s.size ≤ 1000000000) (hg : w0.heap.size ≤ g) (hB : Below w0.heap.size w0 w) (hS : SB w g s i false) :
    Calls Try.prog 135 #[.pointer (some ⟨g, 0, none⟩), .int .u8 (c.toNat : Int)] w (SPost w0 w g s i true (.tuple #[])) := by
  have h := must135 w0 w g s i false c hi hs hg hB hS
  have e : isAt s i false c = false := by
    cases hq : isAt s i false c with
    | false => rfl
    | true => have := isAt_true hq; exact absurd this.2.2 (hc this.1)
  rw [e] at h
  exact h
theorem must135y (w0 w : World) (g : Nat) (s : ByteArray) (i : Nat) (c : UInt8) (hlt : i < s.size) (hc : bN s i = c) (hs : s.size ≤ 1000000000) (hg : w0.heap.size ≤ g) (hB : Below w0.heap.size w0 w) (hS : SB w g s i false) :
    Calls Try.prog 135 #[.pointer (some ⟨g, 0, none⟩), .int .u8 (c.toNat : Int)] w (SPost w0 w g s (i + 1) false (.tuple #[])) := by
  have h := must135 w0 w g s i false c (by omega) hs hg hB hS
  have e : isAt s i false c = true := by unfold isAt; rw [hc, decide_eq_true hlt]; simp
  rw [e] at h
  exact h
theorem value136n (w0 w : World) (g : Nat) (s : ByteArray) (i : Nat) (b : Bool) (hQ : (if b = true then none else valW stepR (s.data.toList.drop i)) = none) (hi : i ≤ s.size) (hs : s.size ≤ 1000000000) (hg : w0.heap.size ≤ g) (hB : Below w0.heap.size w0 w) (hS : SB w g s i b) :
    Calls Try.prog 136 #[.pointer (some ⟨g, 0, none⟩)] w fun e w' => (∃ x j, e = .returned (.string x) ∧ j ≤ s.size ∧ SB w' g s j true) ∧ Below w0.heap.size w0 w' ∧ KeepBut w w' g none := by
  refine (value136 w0 w g s i b hi hs hg hB hS).mono ?_
  rw [hQ]
  rintro e w' ⟨h1, h2, ⟨_, h3⟩ | ⟨v, t, h3, _⟩⟩
  · exact ⟨h3, h1, h2⟩
  · cases h3
theorem value136y (w0 w : World) (g : Nat) (s : ByteArray) (i m : Nat) (v t : List UInt8) (x : ByteArray) (hx : (⟨v.toArray⟩ : ByteArray) = x) (hm : s.size - t.length = m) (hQ : valW stepR (s.data.toList.drop i) = some (v, t)) (hi : i ≤ s.size) (hs : s.size ≤ 1000000000) (hg : w0.heap.size ≤ g) (hB : Below w0.heap.size w0 w) (hS : SB w g s i false) :
    Calls Try.prog 136 #[.pointer (some ⟨g, 0, none⟩)] w fun e w' => e = .returned (.string x) ∧ Below w0.heap.size w0 w' ∧ KeepBut w w' g none ∧ SB w' g s m false := by
  subst hx hm
  refine (value136 w0 w g s i false hi hs hg hB hS).mono ?_
  rw [if_neg (by decide), hQ]
  rintro e w' ⟨h1, h2, ⟨h3, _⟩ | ⟨v', t', h3, h4, _, h5⟩⟩
  · cases h3
  · cases h3
    exact ⟨h4, h1, h2, h5⟩
def ParseRPost (s : ByteArray) (e : Ending) (w' : World) : Prop :=
  (parseW s = none ∧ e = .returned (.tuple #[.slice none 0 0, .bool false])) ∨ ∃ l A c, parseW s = some l ∧ e = .returned (.tuple #[.slice A l.length c, .bool true]) ∧ l.length ≤ c ∧ Kd.C k68 w' A l.length l
set_option maxRecDepth 100000 in
set_option maxHeartbeats 16000000 in
/-- the document's Parse. -/
theorem parse86 (w : World) (s : ByteArray) (hs : s.size ≤ 1000000000) :
    Calls Try.prog 86 #[.string s] w fun e w' => ParseRPost s e w' ∧ Below w.heap.size w w' := by
  obtain ⟨M, hM⟩ : ∃ M, manyW cutR stepR 9 s.data.toList = M := ⟨_, rfl⟩
  have HM0 := Lib.hid hM
  clear hM
  unfold ParseRPost
  have HS0 := Lib.hid (show SB (w.alloc (.cells #[.string s, .int .i64 0, .bool false] 159)) w.heap.size s 0 false from blk_new w _)
  have HB0 := Lib.hid (show Below w.heap.size w (w.alloc (.cells #[.string s, .int .i64 0, .bool false] 159)) from below_alloc (Below.refl _ _) _)
  go_enter Try.func86, Try.ntmps86
  go_wp2
  go_loopw [5, 6, 7] (fun u5 _ _ wr => ∃ (j : Nat) (bd : Bool) (ls : List S68), j ≤ s.size ∧ ls.length ≤ 9 ∧ Hid (k68.R 68 wr w.heap.size (fun k => w.heap.size < k) u5 ls) ∧ Hid (SB wr w.heap.size s j bd) ∧ Hid (bd = true → M = none) ∧ Hid (bd = false → M = (manyW cutR stepR (9 - ls.length) (s.data.toList.drop j)).map (fun r => ls ++ r)) ∧ Hid (Below w.heap.size w wr))
    (fun u5 _ _ _ => 10 - lenV u5)
  case atStart => exact ⟨0, false, [], Nat.zero_le _, Nat.zero_le _, Lib.hid (Kd.R_nil _ _ _ _ _), HS0, Lib.hid (fun h => absurd h (by decide)), Lib.hid (fun _ => by rw [show (9 - ([] : List S68).length) = 9 from rfl, List.drop_zero, HM0.out]; cases M <;> rfl), HB0⟩
  case round =>
    clear HS0 HB0
    obtain ⟨j, bd, ls, hj, hl9, HR, HS, HN0, HE0, HB⟩ := hrel
    cases bd with
    | true =>
      have HN := Lib.hid (HN0.out rfl)
      clear HN0 HE0
      have g2 := HS.out.c2
      go_wp2
      go_ret2
      exact ⟨Or.inl ⟨(parseR_W s).symm.trans (parseR_none (HM0.out.trans HN.out)), rfl⟩, HB.out⟩
    | false =>
      have HE := Lib.hid (HE0.out rfl)
      clear HN0 HE0
      have g2 := HS.out.c2
      by_cases hlt : ls.length ≤ 8
      · obtain ⟨Au, cu, rfl⟩ := Kd.R_slice HR.out
        have hltI : (ls.length : Int) ≤ 8 := by omega
        obtain ⟨k9, hk9⟩ : ∃ k, 9 - ls.length = k + 1 := ⟨8 - ls.length, by omega⟩
        rw [hk9] at HE
        obtain ⟨e0, he0⟩ : ∃ e, nameEnd s j = e := ⟨_, rfl⟩
        obtain ⟨nm, hnm⟩ : ∃ n : ByteArray, (⟨((s.data.toList.drop j).takeWhile nameC).toArray⟩ : ByteArray) = n := ⟨_, rfl⟩
        have hname := name134 w wr w.heap.size s j false hj hs (Nat.le_refl _) HB.out HS.out
        rw [he0, hnm] at hname
        have Hname := Lib.hid hname
        have hej : e0 ≤ s.size := by rw [← he0]; exact nameEnd_le hj
        have HD := Lib.hid (show (s.data.toList.drop j).dropWhile nameC = s.data.toList.drop e0 from by rw [← he0]; exact nameEnd_drop)
        have HE9 := Lib.hid (show e0 = j + ((s.data.toList.drop j).takeWhile nameC).length from by rw [← he0]; rfl)
        have Hnm := Lib.hid hnm
        clear he0 hnm hname
        go_wp2_with fail
        (with_reducible refine Hname.out.mono ?_)
        rintro e w4 ⟨rfl, hB4, hK4, hS4⟩
        have HR4 := Lib.hid (Kd.R_keep HR.out hK4 (fun k hk => Nat.ne_of_gt hk))
        have HB4 := Lib.hid hB4
        have HS4 := Lib.hid hS4
        clear hB4 hK4 hS4 HR HB HS g2 Hname
        by_cases hat : e0 < s.size ∧ bN s e0 = 61
        · have HO := Lib.hid (one_yes HD.out HE9.out hat.1 hat.2)
          have hm1 := Lib.hid (show Calls Try.prog 135 #[.pointer (some ⟨w.heap.size, 0, none⟩), .int .u8 61] w4 (SPost w w4 w.heap.size s (e0 + 1) false (.tuple #[])) from must135y w w4 w.heap.size s e0 61 hat.1 hat.2 hs (Nat.le_refl _) HB4.out HS4.out)
          have he1 : e0 + 1 ≤ s.size := hat.1
          clear hat
          go_wp2_with fail
          (with_reducible refine hm1.out.mono ?_)
          rintro e w5 ⟨rfl, hB5, hK5, hS5⟩
          have HR5 := Lib.hid (Kd.R_keep HR4.out hK5 (fun k hk => Nat.ne_of_gt hk))
          have HB5 := Lib.hid hB5
          have HS5 := Lib.hid hS5
          clear hB5 hK5 hS5 hm1 HR4 HB4 HS4
          obtain ⟨Q, hQ⟩ : ∃ Q, valW stepR (s.data.toList.drop (e0 + 1)) = Q := ⟨_, rfl⟩
          rw [hQ] at HO
          have HQ := Lib.hid hQ
          clear hQ
          cases Q with
          | none =>
            have HN := Lib.hid (app_none HE.out (many_none HO.out))
            have hv := Lib.hid (value136n w w5 w.heap.size s (e0 + 1) false (by rw [if_neg (by decide)]; exact HQ.out) he1 hs (Nat.le_refl _) HB5.out HS5.out)
            go_wp2_with fail
            (with_reducible refine hv.out.mono ?_)
            rintro e w6 ⟨⟨vv, m, rfl, hm, hS6⟩, hB6, hK6⟩
            have HR := Lib.hid (Kd.R_keep HR5.out hK6 (fun k hk => Nat.ne_of_gt hk))
            have HB := Lib.hid hB6
            have HS := Lib.hid hS6
            clear hB6 hK6 hS6 hv HR5 HB5 HS5
            obtain ⟨x, hx⟩ : ∃ x : S68, (⟨nm, vv⟩ : S68) = x := ⟨_, rfl⟩
            obtain rfl : nm = x.f0 := by rw [← hx]
            obtain rfl : vv = x.f1 := by rw [← hx]
            clear hx
            cases dm : ((m : Int) == (s.size : Int)) with
            | true =>
              go_wp2_with (at_builtin; refine Kd.R_append k68 (w0 := w) w.heap.size rfl (.tmp 27) (.tmp 31) 28 68 (.agg #[.string ⟨#[]⟩, .string ⟨#[]⟩]) 32 rfl Try.underlying28 infoLp rfl (by decide) (by omega) (.slice Au ls.length cu) ls x [.string x.f0, .string x.f1] (fun k => w.heap.size < k) (fun _ => False) rfl rfl (k68_mkM _ _ _ x) (fun _ hk => hk.elim) (fun k hk => Nat.lt_of_lt_of_le HS.out.lt hk) HR.out HB.out (below_size HB.out) (by omega) ?_; intro w3v w3 hown1 hbel1 hg1 hat1; clear hat1; have HS3 := Lib.hid (SB.grown (n := w.heap.size + 1) HS.out (Nat.lt_succ_self _) (fun k hk => HR.out.1 k hk) hg1); clear hg1; have HR3 := Lib.hid hown1; have HB3 := Lib.hid hbel1; clear hown1 hbel1; have g1 := HS3.out.c1; have g2 := HS3.out.c2)
              go_ret2
              exact ⟨Or.inl ⟨(parseR_W s).symm.trans (parseR_none (HM0.out.trans HN.out)), rfl⟩, HB3.out⟩
            | false =>
              go_wp2_with (at_builtin; refine Kd.R_append k68 (w0 := w) w.heap.size rfl (.tmp 27) (.tmp 31) 28 68 (.agg #[.string ⟨#[]⟩, .string ⟨#[]⟩]) 32 rfl Try.underlying28 infoLp rfl (by decide) (by omega) (.slice Au ls.length cu) ls x [.string x.f0, .string x.f1] (fun k => w.heap.size < k) (fun _ => False) rfl rfl (k68_mkM _ _ _ x) (fun _ hk => hk.elim) (fun k hk => Nat.lt_of_lt_of_le HS.out.lt hk) HR.out HB.out (below_size HB.out) (by omega) ?_; intro w3v w3 hown1 hbel1 hg1 hat1; clear hat1; have HS3 := Lib.hid (SB.grown (n := w.heap.size + 1) HS.out (Nat.lt_succ_self _) (fun k hk => HR.out.1 k hk) hg1); clear hg1; have HR3 := Lib.hid hown1; have HB3 := Lib.hid hbel1; clear hown1 hbel1; have g1 := HS3.out.c1; have g2 := HS3.out.c2)
              have hm2 := Lib.hid (show Calls Try.prog 135 #[.pointer (some ⟨w.heap.size, 0, none⟩), .int .u8 44] w3 (SPost w w3 w.heap.size s m true (.tuple #[])) from must135t _ _ _ s m true 44 rfl (by omega) hs (Nat.le_refl _) HB3.out HS3.out)
              (with_reducible refine hm2.out.mono ?_)
              rintro e w7 ⟨rfl, hB6, hK6, hS6⟩
              have HR6 := Lib.hid (Kd.R_keep HR3.out hK6 (fun k hk => Nat.ne_of_gt hk))
              go_wp2
              go_roundw
              case rel => exact ⟨m, true, ls ++ [x], by omega, by rw [List.length_append, List.length_singleton]; omega, HR6, Lib.hid hS6, Lib.hid (fun _ => HN.out), Lib.hid (fun h => absurd h (by decide)), Lib.hid hB6⟩
              case measure => exact measL hlt HR6.out
          | some q =>
            obtain ⟨vv, t⟩ := q
            obtain ⟨hp1, hp2⟩ := val_place HQ.out
            obtain ⟨m, hm⟩ : ∃ m, s.size - t.length = m := ⟨_, rfl⟩
            rw [hm] at hp2
            have hms : m ≤ s.size := by omega
            have Hm := Lib.hid hm
            have HP := Lib.hid hp2
            obtain ⟨x, hx⟩ : ∃ x : S68, (⟨nm, ⟨vv.toArray⟩⟩ : S68) = x := ⟨_, rfl⟩
            obtain rfl : nm = x.f0 := by rw [← hx]
            have Hx1 := Lib.hid (show (⟨vv.toArray⟩ : ByteArray) = x.f1 from by rw [← hx])
            have HO2 := Lib.hid (show oneW cutR stepR (s.data.toList.drop j) = some (x, t) from by rw [HO.out, Option.map_some, Hnm.out, hx])
            clear hm hp1 hp2 hx HO
            have hv := Lib.hid (value136y w w5 w.heap.size s (e0 + 1) m vv t x.f1 Hx1.out Hm.out HQ.out he1 hs (Nat.le_refl _) HB5.out HS5.out)
            go_wp2_with fail
            (with_reducible refine hv.out.mono ?_)
            rintro e w6 ⟨rfl, hB6, hK6, hS6⟩
            have HR := Lib.hid (Kd.R_keep HR5.out hK6 (fun k hk => Nat.ne_of_gt hk))
            have HB := Lib.hid hB6
            have HS := Lib.hid hS6
            clear hB6 hK6 hS6 hv HR5 HB5 HS5
            cases t with
            | nil =>
              have hme : m = s.size := by have := Hm.out; simp at this; omega
              have HM := Lib.hid (HM0.out.trans (app_some HE.out (many_last HO2.out)))
              have dm : ((m : Int) == (s.size : Int)) = true := beq_iff_eq.2 (by omega)
              clear hme
              go_wp2_with (at_builtin; refine Kd.R_append k68 (w0 := w) w.heap.size rfl (.tmp 27) (.tmp 31) 28 68 (.agg #[.string ⟨#[]⟩, .string ⟨#[]⟩]) 32 rfl Try.underlying28 infoLp rfl (by decide) (by omega) (.slice Au ls.length cu) ls x [.string x.f0, .string x.f1] (fun k => w.heap.size < k) (fun _ => False) rfl rfl (k68_mkM _ _ _ x) (fun _ hk => hk.elim) (fun k hk => Nat.lt_of_lt_of_le HS.out.lt hk) HR.out HB.out (below_size HB.out) (by omega) ?_; intro w3v w3 hown1 hbel1 hg1 hat1; clear hat1; have HS3 := Lib.hid (SB.grown (n := w.heap.size + 1) HS.out (Nat.lt_succ_self _) (fun k hk => HR.out.1 k hk) hg1); clear hg1; have HR3 := Lib.hid hown1; have HB3 := Lib.hid hbel1; clear hown1 hbel1; have g1 := HS3.out.c1; have g2 := HS3.out.c2)
              obtain ⟨L, eL⟩ : ∃ L, ls ++ [x] = L := ⟨_, rfl⟩
              rw [eL] at HM HR3
              clear eL HR HB HS
              rename Hid (Kd.R _ _ _ _ _ _ _) => HR
              rename Hid (Below _ _ _) => HB
              rename Hid (SB _ _ _ _ _) => HS
              obtain ⟨A4, c4, rfl, hc4, hC4⟩ := Kd.R_reads HR.out
              have HC4 := Lib.hid hC4
              have HNM := Lib.hid (many_names HM.out)
              have hl4 : (L).length ≤ 4000000000000000000 := by have := many_len HM.out; omega
              clear hC4
              skip
              (with_reducible refine (check58 _ (L) A4 c4 hl4 (fun x hx => names_size hs (HNM.out x hx)) HC4.out).mono ?_)
              rintro e y1 ⟨rfl, gb1⟩
              have gB1 := below_step HB.out gb1
              have GC1 := Lib.hid (Kd.C_below HC4.out gb1)
              cases hv : chkS (L) with
              | false =>
                have HN := Lib.hid ((parseR_W s).symm.trans (parseR_bad HM.out (by rw [hv]; rfl)))
                clear hv
                go_wp2
                go_ret2
                exact ⟨Or.inl ⟨HN.out, rfl⟩, gB1⟩
              | true =>
                have HV := Lib.hid hv
                clear hv
                go_wp2_with fail
                (with_reducible refine (text85 _ (L) A4 c4 (chk_len9 HV.out) (chk_ok9 HV.out) GC1.out).mono ?_)
                rintro e y2 ⟨rfl, gb2⟩
                have gB2 := below_step gB1 gb2
                have GC2 := Lib.hid (Kd.C_below GC1.out gb2)
                obtain ⟨tx, htx⟩ : ∃ t, textB (L) = t := ⟨_, rfl⟩
                rw [htx]
                cases hq : (tx.toList == s.toList) with
                | false =>
                  have HN := Lib.hid ((parseR_W s).symm.trans (parseR_bad HM.out (by rw [HV.out, htx, hq]; rfl)))
                  clear htx
                  go_wp2
                  go_ret2
                  exact ⟨Or.inl ⟨HN.out, rfl⟩, gB2⟩
                | true =>
                  have HN := Lib.hid ((parseR_W s).symm.trans (parseR_good HM.out (by rw [HV.out, htx, hq]; rfl)))
                  clear htx
                  go_wp2
                  go_ret2
                  exact ⟨Or.inr ⟨_, A4, c4, HN.out, rfl, hc4, GC2.out⟩, gB2⟩
            | cons c t =>
              have hmlt : m < s.size := by have := Hm.out; simp at this; omega
              have hcm : bN s m = c := by have := bN_drop s m hmlt; rw [HP.out] at this; cases this; rfl
              have HP2 := Lib.hid (show s.data.toList.drop (m + 1) = t from by have := bN_drop s m hmlt; rw [HP.out] at this; cases this; rfl)
              have HCM := Lib.hid hcm
              have dm : ((m : Int) == (s.size : Int)) = false := beq_eq_false_iff_ne.2 (by omega)
              clear hcm
              go_wp2_with (at_builtin; refine Kd.R_append k68 (w0 := w) w.heap.size rfl (.tmp 27) (.tmp 31) 28 68 (.agg #[.string ⟨#[]⟩, .string ⟨#[]⟩]) 32 rfl Try.underlying28 infoLp rfl (by decide) (by omega) (.slice Au ls.length cu) ls x [.string x.f0, .string x.f1] (fun k => w.heap.size < k) (fun _ => False) rfl rfl (k68_mkM _ _ _ x) (fun _ hk => hk.elim) (fun k hk => Nat.lt_of_lt_of_le HS.out.lt hk) HR.out HB.out (below_size HB.out) (by omega) ?_; intro w3v w3 hown1 hbel1 hg1 hat1; clear hat1; have HS3 := Lib.hid (SB.grown (n := w.heap.size + 1) HS.out (Nat.lt_succ_self _) (fun k hk => HR.out.1 k hk) hg1); clear hg1; have HR3 := Lib.hid hown1; have HB3 := Lib.hid hbel1; clear hown1 hbel1; have g1 := HS3.out.c1; have g2 := HS3.out.c2)
              by_cases e44 : c = 44
              · have HE2 := Lib.hid (app_snoc HE.out (many_next (show oneW cutR stepR (s.data.toList.drop j) = some (x, 44 :: t) from by rw [HO2.out, e44])))
                have hm2 := Lib.hid (show Calls Try.prog 135 #[.pointer (some ⟨w.heap.size, 0, none⟩), .int .u8 44] w3 (SPost w w3 w.heap.size s (m + 1) false (.tuple #[])) from must135y w w3 w.heap.size s m 44 hmlt (HCM.out.trans e44) hs (Nat.le_refl _) HB3.out HS3.out)
                clear e44
                (with_reducible refine hm2.out.mono ?_)
                rintro e w7 ⟨rfl, hB7, hK7, hS7⟩
                have HR7 := Lib.hid (Kd.R_keep HR3.out hK7 (fun k hk => Nat.ne_of_gt hk))
                go_wp2
                go_roundw
                case rel => exact ⟨m + 1, false, ls ++ [x], by omega, by rw [List.length_append, List.length_singleton]; omega, HR7, Lib.hid hS7, Lib.hid (fun h => absurd h (by decide)), Lib.hid (fun _ => by rw [HE2.out, HP2.out, List.length_append, List.length_singleton]; congr 2; omega), Lib.hid hB7⟩
                case measure => exact measL hlt HR7.out
              · have HN := Lib.hid (app_none HE.out (many_stop HO2.out e44))
                have hm2 := Lib.hid (show Calls Try.prog 135 #[.pointer (some ⟨w.heap.size, 0, none⟩), .int .u8 44] w3 (SPost w w3 w.heap.size s m true (.tuple #[])) from must135n w w3 w.heap.size s m 44 (fun _ => by rw [HCM.out]; exact e44) hms hs (Nat.le_refl _) HB3.out HS3.out)
                clear e44
                (with_reducible refine hm2.out.mono ?_)
                rintro e w7 ⟨rfl, hB7, hK7, hS7⟩
                have HR7 := Lib.hid (Kd.R_keep HR3.out hK7 (fun k hk => Nat.ne_of_gt hk))
                go_wp2
                go_roundw
                case rel => exact ⟨m, true, ls ++ [x], hms, by rw [List.length_append, List.length_singleton]; omega, HR7, Lib.hid hS7, Lib.hid (fun _ => HN.out), Lib.hid (fun h => absurd h (by decide)), Lib.hid hB7⟩
                case measure => exact measL hlt HR7.out
        · have HN := Lib.hid (app_none HE.out (many_none (one_no HD.out (fun h1 h2 => hat ⟨h1, h2⟩))))
          have hm1 := Lib.hid (show Calls Try.prog 135 #[.pointer (some ⟨w.heap.size, 0, none⟩), .int .u8 61] w4 (SPost w w4 w.heap.size s e0 true (.tuple #[])) from must135n w w4 w.heap.size s e0 61 (fun h1 h2 => hat ⟨h1, h2⟩) hej hs (Nat.le_refl _) HB4.out HS4.out)
          clear hat
          go_wp2_with fail
          (with_reducible refine hm1.out.mono ?_)
          rintro e w5 ⟨rfl, hB5, hK5, hS5⟩
          have HR5 := Lib.hid (Kd.R_keep HR4.out hK5 (fun k hk => Nat.ne_of_gt hk))
          have hv := Lib.hid (value136n w w5 w.heap.size s e0 true rfl hej hs (Nat.le_refl _) hB5 hS5)
          clear hB5 hK5 hS5 hm1 HR4 HB4 HS4
          go_wp2_with fail
          (with_reducible refine hv.out.mono ?_)
          rintro e w6 ⟨⟨vv, m, rfl, hm, hS6⟩, hB6, hK6⟩
          have HR := Lib.hid (Kd.R_keep HR5.out hK6 (fun k hk => Nat.ne_of_gt hk))
          have HB := Lib.hid hB6
          have HS := Lib.hid hS6
          clear hB6 hK6 hS6 hv HR5
          obtain ⟨x, hx⟩ : ∃ x : S68, (⟨nm, vv⟩ : S68) = x := ⟨_, rfl⟩
          obtain rfl : nm = x.f0 := by rw [← hx]
          obtain rfl : vv = x.f1 := by rw [← hx]
          clear hx
          cases dm : ((m : Int) == (s.size : Int)) with
          | true =>
            go_wp2_with (at_builtin; refine Kd.R_append k68 (w0 := w) w.heap.size rfl (.tmp 27) (.tmp 31) 28 68 (.agg #[.string ⟨#[]⟩, .string ⟨#[]⟩]) 32 rfl Try.underlying28 infoLp rfl (by decide) (by omega) (.slice Au ls.length cu) ls x [.string x.f0, .string x.f1] (fun k => w.heap.size < k) (fun _ => False) rfl rfl (k68_mkM _ _ _ x) (fun _ hk => hk.elim) (fun k hk => Nat.lt_of_lt_of_le HS.out.lt hk) HR.out HB.out (below_size HB.out) (by omega) ?_; intro w3v w3 hown1 hbel1 hg1 hat1; clear hat1; have HS3 := Lib.hid (SB.grown (n := w.heap.size + 1) HS.out (Nat.lt_succ_self _) (fun k hk => HR.out.1 k hk) hg1); clear hg1; have HR3 := Lib.hid hown1; have HB3 := Lib.hid hbel1; clear hown1 hbel1; have g1 := HS3.out.c1; have g2 := HS3.out.c2)
            go_ret2
            exact ⟨Or.inl ⟨(parseR_W s).symm.trans (parseR_none (HM0.out.trans HN.out)), rfl⟩, HB3.out⟩
          | false =>
            go_wp2_with (at_builtin; refine Kd.R_append k68 (w0 := w) w.heap.size rfl (.tmp 27) (.tmp 31) 28 68 (.agg #[.string ⟨#[]⟩, .string ⟨#[]⟩]) 32 rfl Try.underlying28 infoLp rfl (by decide) (by omega) (.slice Au ls.length cu) ls x [.string x.f0, .string x.f1] (fun k => w.heap.size < k) (fun _ => False) rfl rfl (k68_mkM _ _ _ x) (fun _ hk => hk.elim) (fun k hk => Nat.lt_of_lt_of_le HS.out.lt hk) HR.out HB.out (below_size HB.out) (by omega) ?_; intro w3v w3 hown1 hbel1 hg1 hat1; clear hat1; have HS3 := Lib.hid (SB.grown (n := w.heap.size + 1) HS.out (Nat.lt_succ_self _) (fun k hk => HR.out.1 k hk) hg1); clear hg1; have HR3 := Lib.hid hown1; have HB3 := Lib.hid hbel1; clear hown1 hbel1; have g1 := HS3.out.c1; have g2 := HS3.out.c2)
            have hm2 := Lib.hid (show Calls Try.prog 135 #[.pointer (some ⟨w.heap.size, 0, none⟩), .int .u8 44] w3 (SPost w w3 w.heap.size s m true (.tuple #[])) from must135t _ _ _ s m true 44 rfl (by omega) hs (Nat.le_refl _) HB3.out HS3.out)
            (with_reducible refine hm2.out.mono ?_)
            rintro e w7 ⟨rfl, hB6, hK6, hS6⟩
            have HR6 := Lib.hid (Kd.R_keep HR3.out hK6 (fun k hk => Nat.ne_of_gt hk))
            go_wp2
            go_roundw
            case rel => exact ⟨m, true, ls ++ [x], by omega, by rw [List.length_append, List.length_singleton]; omega, HR6, Lib.hid hS6, Lib.hid (fun _ => HN.out), Lib.hid (fun h => absurd h (by decide)), Lib.hid hB6⟩
            case measure => exact measL hlt HR6.out
      · have hltI : ¬ (ls.length : Int) ≤ 8 := by omega
        have HM := Lib.hid (HM0.out.trans (app_some HE.out (show manyW cutR stepR (9 - ls.length) (s.data.toList.drop j) = some [] from by rw [show 9 - ls.length = 0 by omega, manyW])))
        rw [List.append_nil] at HM
        clear g2
        obtain ⟨A4, c4, rfl, hc4, hC4⟩ := Kd.R_reads HR.out
        have HC4 := Lib.hid hC4
        have HNM := Lib.hid (many_names HM.out)
        have hl4 : (ls).length ≤ 4000000000000000000 := by have := many_len HM.out; omega
        clear hC4
        have g2 := HS.out.c2
        go_wp2_with fail
        (with_reducible refine (check58 _ (ls) A4 c4 hl4 (fun x hx => names_size hs (HNM.out x hx)) HC4.out).mono ?_)
        rintro e y1 ⟨rfl, gb1⟩
        have gB1 := below_step HB.out gb1
        have GC1 := Lib.hid (Kd.C_below HC4.out gb1)
        cases hv : chkS (ls) with
        | false =>
          have HN := Lib.hid ((parseR_W s).symm.trans (parseR_bad HM.out (by rw [hv]; rfl)))
          clear hv
          go_wp2
          go_ret2
          exact ⟨Or.inl ⟨HN.out, rfl⟩, gB1⟩
        | true =>
          have HV := Lib.hid hv
          clear hv
          go_wp2_with fail
          (with_reducible refine (text85 _ (ls) A4 c4 (chk_len9 HV.out) (chk_ok9 HV.out) GC1.out).mono ?_)
          rintro e y2 ⟨rfl, gb2⟩
          have gB2 := below_step gB1 gb2
          have GC2 := Lib.hid (Kd.C_below GC1.out gb2)
          obtain ⟨tx, htx⟩ : ∃ t, textB (ls) = t := ⟨_, rfl⟩
          rw [htx]
          cases hq : (tx.toList == s.toList) with
          | false =>
            have HN := Lib.hid ((parseR_W s).symm.trans (parseR_bad HM.out (by rw [HV.out, htx, hq]; rfl)))
            clear htx
            go_wp2
            go_ret2
            exact ⟨Or.inl ⟨HN.out, rfl⟩, gB2⟩
          | true =>
            have HN := Lib.hid ((parseR_W s).symm.trans (parseR_good HM.out (by rw [HV.out, htx, hq]; rfl)))
            clear htx
            go_wp2
            go_ret2
            exact ⟨Or.inr ⟨_, A4, c4, HN.out, rfl, hc4, GC2.out⟩, gB2⟩
theorem parse86n (w : World) (s : ByteArray) (hs : s.size ≤ 1000000000) (hn : parseW s = none) :
    Calls Try.prog 86 #[.string s] w fun e w' => e = .returned (.tuple #[.slice none 0 0, .bool false]) ∧ Below w.heap.size w w' := by
  refine (parse86 w s hs).mono ?_
  rintro e w' ⟨⟨_, h⟩ | ⟨l, A, c, h, _⟩, hb⟩
  · exact ⟨h, hb⟩
  · rw [hn] at h; cases h
theorem parse86y (w : World) (s : ByteArray) (hs : s.size ≤ 1000000000) (l : List S68) (hn : parseW s = some l) :
    Calls Try.prog 86 #[.string s] w fun e w' => (∃ A c, e = .returned (.tuple #[.slice A l.length c, .bool true]) ∧ l.length ≤ c ∧ Kd.C k68 w' A l.length l) ∧ Below w.heap.size w w' := by
  refine (parse86 w s hs).mono ?_
  rintro e w' ⟨⟨h, _⟩ | ⟨m, A, c, h, he, hc, hC⟩, hb⟩
  · rw [hn] at h; cases h
  · rw [hn] at h; cases h
    exact ⟨⟨A, c, he, hc, hC⟩, hb⟩
end
section
open Go Go.RowKit Go.Proofs.YteafilojjdfllaaW.PrintWords Go.Proofs.YteafilojjdfllaaW.PrintLast Go.Proofs.YteafilojjdfllaaW.PrintMore Go.Proofs.Yteafilojjdfllaa.PAll
set_option linter.unusedVariables false

theorem parse84n (w : World) (s : ByteArray) (hs : s.size ≤ 1000000000) (hn : parseW s = none) :
    Calls Try.prog 84 #[.string s] w fun e w' => e = .returned (.tuple #[.slice none 0 0, .int .i64 17]) ∧ Below w.heap.size w w' := by
  refine (parse84 w s hs).mono ?_
  rintro e w' ⟨⟨_, h⟩ | ⟨l, A, c, h, _⟩, hb⟩
  · exact ⟨h, hb⟩
  · rw [hn] at h; cases h
theorem parse84y (w : World) (s : ByteArray) (hs : s.size ≤ 1000000000) (l : List S68) (hn : parseW s = some l) :
    Calls Try.prog 84 #[.string s] w fun e w' => (∃ A c, e = .returned (.tuple #[.slice A l.length c, .int .i64 0]) ∧ l.length ≤ c ∧ Kd.C k68 w' A l.length l) ∧ Below w.heap.size w w' := by
  refine (parse84 w s hs).mono ?_
  rintro e w' ⟨⟨h, _⟩ | ⟨m, A, c, h, he, hc, hC⟩, hb⟩
  · rw [hn] at h; cases h
  · rw [hn] at h; cases h
    exact ⟨⟨A, c, he, hc, hC⟩, hb⟩
set_option maxRecDepth 100000 in
set_option maxHeartbeats 8000000 in
theorem labelParses_walk (w : World) (s : ByteArray) (hs : s.size ≤ 140737488351232) :
    Calls Try.prog 25 #[.string s] w fun e w' => e = .returned (.bool true) ∧ Below w.heap.size w w' := by
  by_cases hbig : s.size ≤ 20000
  · have d1 : ¬ (20000 : Int) < (s.size : Int) := by omega
    have hs9 : s.size ≤ 1000000000 := by omega
    cases hq : parseW s with
    | none =>
      have HQ := Lib.hid hq
      clear hq
      go_enter Try.func25, Try.ntmps25
      go_wp2_with fail
      (with_reducible refine (parse84n _ s hs9 HQ.out).mono ?_)
      rintro e w1 ⟨rfl, hB1⟩
      go_wp2_with fail
      (with_reducible refine (parse86n _ s hs9 HQ.out).mono ?_)
      rintro e w2 ⟨rfl, hb2⟩
      have hB2 := below_step hB1 hb2
      go_wp2_with fail
      (with_reducible refine (awake68 _).mono ?_)
      rintro e w3 ⟨rfl, hb3⟩
      go_wp2
      go_ret
      exact ⟨rfl, below_step hB2 hb3⟩
    | some l =>
      have HQ := Lib.hid hq
      have HV := Lib.hid (parse_sound hq).1
      have HT := Lib.hid (parse_sound hq).2
      clear hq
      have e0 : (s.toList == s.toList) = true := beq_self_eq_true _
      have hl4 : l.length ≤ 4000000000000000000 := by have := chk_len9 HV.out; omega
      go_enter Try.func25, Try.ntmps25
      go_wp2_with fail
      (with_reducible refine (parse84y _ s hs9 l HQ.out).mono ?_)
      rintro e w1 ⟨⟨A, c, rfl, hc, hC⟩, hB1⟩
      have HC := Lib.hid hC
      clear hC
      go_wp2_with fail
      (with_reducible refine (parse86y _ s hs9 l HQ.out).mono ?_)
      rintro e w2 ⟨⟨B, d, rfl, hd, hD⟩, hb2⟩
      have HD := Lib.hid hD
      have HC2 := Lib.hid (Kd.C_below HC.out hb2)
      have hB2 := below_step hB1 hb2
      clear hD hb2
      go_wp2_with fail
      (with_reducible refine (Lb.sameLab67 _ l A c B d hl4 HC2.out HD.out).mono ?_)
      rintro e w3 ⟨rfl, hb3⟩
      have hB3 := below_step hB2 hb3
      go_wp2_with fail
      (with_reducible refine (text79 _ l A c (chk_len9 HV.out) (chk_ok9 HV.out) (Kd.C_below HC2.out hb3)).mono ?_)
      rintro e w4 ⟨rfl, hb4⟩
      have hB4 := below_step hB3 hb4
      rw [HT.out]
      go_wp2_with fail
      (with_reducible refine (awake68 _).mono ?_)
      rintro e w5 ⟨rfl, hb5⟩
      go_wp2
      go_ret
      exact ⟨rfl, below_step hB4 hb5⟩
  · have d1 : (20000 : Int) < (s.size : Int) := by omega
    go_enter Try.func25, Try.ntmps25
    go_wp2_with fail
    (with_reducible refine (awake68 _).mono ?_)
    rintro e w2 ⟨rfl, hb2⟩
    go_wp2
    go_ret
    exact ⟨rfl, hb2⟩
end
end Go.Proofs.Yteafilojjdfllaa
