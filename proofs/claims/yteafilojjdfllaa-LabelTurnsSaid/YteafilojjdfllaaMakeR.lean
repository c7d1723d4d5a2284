/- Own text: the document's Make, walked. -/
import Derived.Test.YteafilojjdfllaaSortBig
import Derived.Test.YteafilojjdfllaaLabKit
import Derived.Test.YteafilojjdfllaaLabChkR
namespace Go.Proofs.Yteafilojjdfllaa
open Go Go.RowKit Go.Proofs.YteafilojjdfllaaW.PrintWords Go.Proofs.YteafilojjdfllaaW.PrintLast Go.Proofs.YteafilojjdfllaaW.PrintMore Go.Proofs.Yteafilojjdfllaa.PAll
set_option linter.unusedVariables false
set_option linter.unusedSimpArgs false

theorem info68m : ∃ i, Try.prog.info? 68 = some i ∧ i.size = 2 := by
  have h := infoLb
  cases hi : Try.prog.info? 68 with
  | none => rw [hi] at h; cases h
  | some i => rw [hi] at h; simp only [Option.map_some, Option.some.injEq, Prod.mk.injEq] at h; exact ⟨i, rfl, h.2.1⟩
noncomputable def tabS10 : Bool × List (List Nat × List Nat) := rtab .any (opsOf Try.f22 10)
def MakeRPost (w : World) (o : Option (List S68)) (e : Ending) (w' : World) : Prop :=
  (match o with
    | some x => ∃ A c, e = .returned (.tuple #[.slice A x.length c, .bool true]) ∧ x.length ≤ c ∧ Kd.C k68 w' A x.length x
    | none => e = .returned (.tuple #[.slice none 0 0, .bool false])) ∧ Below w.heap.size w w'
theorem plN_less {x : S68} {m : List S68} {k n : Nat} {p : S68} (hp : m.getD k z68 = p) (h : Op.bytesLess x.f0.toList p.f0.toList = true) (hn : plN x m n = plN x m (k + 1)) : plN x m n = plN x m k := by
  rw [hn, plN, hp, if_pos (by rw [← ltN_less]; exact h)]
theorem plN_not {x : S68} {m : List S68} {k n : Nat} {p : S68} (hp : m.getD k z68 = p) (h : Op.bytesLess x.f0.toList p.f0.toList = false) (hn : plN x m n = plN x m (k + 1)) : plN x m n = k + 1 := by
  rw [hn, plN, hp, if_neg (by rw [← ltN_less, h]; decide)]
theorem full_take_le (l : List S68) (j : Nat) : (fullS (l.take j)).length ≤ (fullS l).length := by
  unfold fullS
  exact ((List.take_sublist j l).filter _).length_le
theorem own_new {v : Value} {b n : Nat} (h : v.ownBlock = none ∨ ∃ b, v.ownBlock = some b ∧ n ≤ b) (hb : b < n) : some b ≠ v.ownBlock := by
  rcases h with h | ⟨b', h, hb'⟩
  · rw [h]; simp
  · rw [h]; intro e; injection e with e; omega
theorem drop_of {W : World} {base : Nat} {ok : Nat → Prop} {Am Bd : Option Addr} {cm k : Nat} {ms : List S68} (h : k68.R 68 W base ok (.slice Am ms.length cm) ms) (hk : k ≤ ms.length) (hB : (if cm = k then Am else Am.map (·.add (k * 2))) = Bd) : Kd.C k68 W Bd (ms.length - k) (ms.drop k) := by
  obtain ⟨A', c', e, hc, hC⟩ := Kd.R_reads h
  cases e
  have := Kd.C_drop (c := cm) hC hk hc
  rw [List.length_drop] at this
  subst hB
  exact this
theorem ins_of {W : World} {base : Nat} {ok : Nat → Prop} {v : Value} {k : Nat} {ms : List S68} {x : S68} (h : plN x ms ms.length = k) (hR : k68.R 68 W base ok v ((ms.take k ++ [x]) ++ ms.drop k)) : k68.R 68 W base ok v (insN x ms) := by
  unfold insN
  rw [h]
  simpa using hR
set_option maxRecDepth 100000 in
set_option maxHeartbeats 16000000 in
/-- the document's Make. -/
theorem make70 (w : World) (l : List S68) (A : Option Addr) (c : Nat) (hl : l.length ≤ 1000000) (hS : ∀ x ∈ l, x.f0.size ≤ 140737488351232) (hC : Kd.C k68 w A l.length l) :
    Calls Try.prog 70 #[.slice A l.length c] w (MakeRPost w (makeS l)) := by
  have HC := Lib.hid hC
  have HSZ := Lib.hid hS
  clear hC hS
  obtain ⟨o, ho⟩ : ∃ o, makeS l = o := ⟨_, rfl⟩
  rw [ho]
  have HO := Lib.hid ho
  clear ho
  obtain ⟨i68, hi68, hs68⟩ := info68m
  go_enter Try.func70, Try.ntmps70
  go_wp2
  go_loopw [4, 5, 6, 7] (fun u4 u5 _ _ wr => ∃ (j : Nat) (ms : List S68), u5 = .int .i64 j ∧ j ≤ l.length ∧ ms.length ≤ 8 ∧ Hid (sortN (fullS (l.take j)) = ms) ∧ Hid (k68.R 68 wr w.heap.size (fun _ => True) u4 ms) ∧ Hid (Below w.heap.size w wr))
    (fun _ u5 _ _ _ => l.length - (intOf u5).toNat)
  case atStart => exact ⟨0, [], rfl, Nat.zero_le _, Nat.zero_le _, Lib.hid rfl, Lib.hid (Kd.R_nil _ _ _ _ _), Lib.hid (Below.refl _ _)⟩
  case round =>
    obtain ⟨j, ms, rfl, hj, hm8, HM, HR, HB⟩ := hrel
    by_cases hlt : j < l.length
    · have hltI : (j : Int) < (l.length : Int) := by omega
      obtain ⟨ad, rfl, a0, a1⟩ := at_lab (Kd.C_below HC.out HB.out) j hlt
      have Htk := Lib.hid (takeSn l z68 j hlt)
      obtain ⟨x, ex⟩ : ∃ x, l.getD j z68 = x := ⟨_, rfl⟩
      rw [ex] at a0 a1 Htk
      have EX := Lib.hid ex
      clear ex
      by_cases hx : x.f1 = ⟨#[]⟩
      · have hx1 : x.f1.toList.isEmpty = true := by rw [hx, emp_list]; rfl
        have HX := Lib.hid hx
        clear hx
        go_wp2
        go_roundw
        case rel => exact ⟨j + 1, ms, by go_num, by omega, hm8, Lib.hid (by rw [Htk.out, full_snoc, if_neg (by rw [HX.out]; decide), List.append_nil]; exact HM.out), HR, HB⟩
        case measure => simp [intOf]; omega
      · have hx1 : x.f1.toList.isEmpty = false := by
          cases hq : x.f1.toList.isEmpty with
          | false => rfl
          | true => exact absurd (ba_nilD (List.isEmpty_iff.1 hq)) hx
        have HX := Lib.hid (show 1 ≤ x.f1.size from by
          rcases Nat.eq_zero_or_pos x.f1.size with h | h
          · exact absurd (ByteArray.ext (Array.eq_empty_of_size_eq_zero h)) hx
          · exact h)
        have HM2 := Lib.hid (show sortN (fullS (l.take (j + 1))) = insN x ms from by rw [Htk.out, full_snoc, if_pos HX.out, sortN_snoc, HM.out])
        clear hx
        obtain ⟨Am, cm, rfl, hcm, hCm⟩ := Kd.R_reads HR.out
        have HCm := Lib.hid hCm
        clear hCm
        rename World => wx
        go_wp2
        clear a0 a1 hx1
        go_loopw [6] (fun u6 wr => ∃ (k : Nat), u6 = .int .i64 k ∧ k ≤ ms.length ∧ Hid (plN x ms ms.length = plN x ms k) ∧ Hid (Below wx.heap.size wx wr)) (fun u6 _ => (intOf u6).toNat)
        case atStart => exact ⟨ms.length, rfl, Nat.le_refl _, Lib.hid rfl, Lib.hid (Below.refl _ _)⟩
        case round =>
          obtain ⟨k, rfl, hk, HK, HX2⟩ := hrel
          have HBk := Lib.hid (below_step HB.out HX2.out)
          obtain ⟨ad', e', a0, a1⟩ := at_lab (Kd.C_below HC.out HBk.out) j hlt
          cases e'
          rw [EX.out] at a0 a1
          by_cases hk0 : k = 0
          · have K0 := Lib.hid (show plN x ms ms.length = k from by rw [HK.out, hk0, plN])
            have d3 : decide ((0 : Int) < (k : Int)) = false := decide_eq_false (by omega)
            have d4 : decide (0 < k) = false := decide_eq_false (by omega)
            clear hk0
            go_wp2
            go_quiet (fail)
            have HK0 := K0
            have HX3 := Lib.hid (pw_below_drewN HX2.out nq)
            clear a0 a1
            generalize wr.drewN nq = wk at HX3 ⊢
            clear nq
            have HBk2 := Lib.hid (below_step HB.out HX3.out)
            have HRk := Lib.hid (Kd.R_bound (Kd.R_below HR.out HX3.out))
            have hkl : (ms.take k).length = k := by rw [List.length_take]; omega
            have hT := Kd.C_take (Kd.C_below HCm.out HX3.out) hk
            rw [hkl] at hT
            have HT := Lib.hid hT
            have s1 := cut_to (P := Try.prog) 28 68 .i64 Try.underlying28 hi68 Am ms.length cm (k : Int) (by omega) (by omega) hcm
            have s2 := cut_from (P := Try.prog) 28 68 .i64 Try.underlying28 hi68 2 hs68 Am ms.length cm (k : Int) (by omega) (by omega)
            simp only [Int.toNat_natCast] at s1 s2
            obtain ⟨Bd, eBd⟩ : ∃ Bd, (if cm = k then Am else (Am).map (·.add (k * 2))) = Bd := ⟨_, rfl⟩
            rw [eBd] at s2
            have EBd := Lib.hid eBd
            have HLK := Lib.hid hkl
            clear eBd hT hkl
            go_wp2_with (first
              | (at_builtin; refine Kd.R_append_rows k68 (Rr := Kd.K k68 wk) (w0 := w) (W := wk) w.heap.size rfl (.tmp 40) (.tmp 43) 28 68 (.agg #[.string ⟨#[]⟩, .string ⟨#[]⟩]) 32 rfl Try.underlying28 infoLb rfl (by decide) (by decide) (.slice none 0 0) [] (ms.take k) Am k cm (fun _ => True) (fun _ => False) rfl rfl (Kd.R_nil _ _ _ _ _) HT.out (fun x cs h => by rw [k68_open h]; exact k68_mkM _ _ _ x) (fun _ hk => hk.elim) (fun _ _ => trivial) HBk2.out (below_size HBk2.out) (by simp only [List.length_nil, List.length_append, List.length_singleton, List.length_take]; omega) ?_; intro v3 w3 hown3 hb3 hg3 hat3; have HR3 := Lib.hid (show k68.R 68 w3 w.heap.size (fun _ => True) v3 (ms.take k) from hown3); have HB3 := Lib.hid hb3; have HM3 := Lib.hid (show k68.R 68 w3 w.heap.size (fun b => b < wk.heap.size) (.slice Am ms.length cm) ms from Kd.R_step (Kd.R_mono HRk.out (fun b hb => hb.2.2.1)) (fun b hb _ => hg3.block b hb (by simp [Value.ownBlock]))); have HA3 := Lib.hid (show v3.ownBlock = none ∨ ∃ b, v3.ownBlock = some b ∧ wk.heap.size ≤ b from hat3); have HZ3 := Lib.hid hg3.size; clear hown3 hb3 hg3 hat3; obtain ⟨ad3, e3, b0, b1⟩ := at_lab (Kd.C_below HC.out HB3.out) j hlt; cases e3; rw [EX.out] at b0 b1)
              | (at_builtin; refine Kd.R_append k68 (w0 := w) w.heap.size rfl (.tmp 45) (.tmp 50) 28 68 (.agg #[.string ⟨#[]⟩, .string ⟨#[]⟩]) 32 rfl Try.underlying28 infoLb rfl (by decide) (by omega) v3 (ms.take k) x [.string x.f0, .string x.f1] (fun _ => True) (fun _ => False) rfl rfl (k68_mkM _ _ _ x) (fun _ hk => hk.elim) (fun _ _ => trivial) HR3.out HB3.out (below_size HB3.out) (by rw [HLK.out]; omega) ?_; intro v4 w4 hown4 hb4 hg4 hat4; have HR4 := Lib.hid hown4; have HB4 := Lib.hid hb4; have HM4 := Lib.hid (Kd.R_step HM3.out (fun b hb hlt => hg4.block b hlt (own_new HA3.out hb))); clear hown4 hb4 hg4 hat4; have HD4 := Lib.hid (drop_of HM4.out hk EBd.out))
              | (at_builtin; refine Kd.R_append_rows k68 (Rr := Kd.K k68 w4) (w0 := w) (W := w4) w.heap.size rfl (.tmp 52) (.tmp 55) 28 68 (.agg #[.string ⟨#[]⟩, .string ⟨#[]⟩]) 32 rfl Try.underlying28 infoLb rfl (by decide) (by decide) v4 (ms.take k ++ [x]) (ms.drop k) Bd (ms.length - k) (cm - k) (fun _ => True) (fun _ => False) rfl rfl HR4.out HD4.out (fun x cs h => by rw [k68_open h]; exact k68_mkM _ _ _ x) (fun _ hk => hk.elim) (fun _ _ => trivial) HB4.out (below_size HB4.out) (by simp only [List.length_nil, List.length_append, List.length_singleton, List.length_take]; omega) ?_; intro v5 w5 hown5 hb5 hg5 hat5; have HR5 := Lib.hid (ins_of HK0.out hown5); have HB5 := Lib.hid hb5; clear hown5 hb5 hg5 hat5; obtain ⟨A5, c5, rfl, hc5, -⟩ := Kd.R_reads HR5.out; rw [insN_len]; have HR6 := Lib.hid (show k68.R 68 w5 w.heap.size (fun _ => True) (.slice A5 (ms.length + 1) c5) (insN x ms) from by rw [← insN_len x ms]; exact HR5.out)))
            · have h9 : 8 ≤ ms.length := by omega
              have hon : o = none := by
                rw [← HO.out]
                refine make_many ?_
                have h1 := full_take_le l (j + 1)
                have h2 := congrArg List.length HM2.out
                rw [sortN_len, insN_len] at h2
                omega
              subst hon
              go_ret2
              exact ⟨rfl, HB5.out⟩
            · go_roundw
              case rel => exact ⟨j + 1, insN x ms, by go_num, by omega, by rw [insN_len]; omega, HM2, HR6, HB5⟩
              case measure => simp [intOf]; omega
          · have d3 : decide ((0 : Int) < (k : Int)) = true := decide_eq_true (by omega)
            have d4 : decide (0 < k) = true := decide_eq_true (by omega)
            obtain ⟨am, e2, p0, -⟩ := at_lab (Kd.C_below HCm.out HX2.out) (k - 1) (by omega)
            cases e2
            obtain ⟨p, ep⟩ : ∃ p, ms.getD (k - 1) z68 = p := ⟨_, rfl⟩
            rw [ep] at p0
            have EP := Lib.hid ep
            have hk1 : 1 ≤ (k : Int) := by omega
            have hk2 : (k : Int) - 1 < (ms.length : Int) := by omega
            obtain ⟨k', hk'⟩ : ∃ k', k = k' + 1 := ⟨k - 1, by omega⟩
            have Hk' := Lib.hid hk'
            clear ep hk0 hk'
            cases ho : Op.bytesLess x.f0.toList p.f0.toList with
            | true =>
              have HL := Lib.hid (show plN x ms ms.length = plN x ms (k - 1) from by
                have h1 := HK.out
                have h2 := EP.out
                rw [Hk'.out] at h1 h2 ⊢
                exact plN_less h2 ho h1)
              go_wp2
              go_quiet (fail)
              go_wp2
              go_roundw
              case rel => exact ⟨k - 1, by congr 1; omega, by omega, HL, Lib.hid (pw_below_drewN HX2.out nq)⟩
              case measure => simp [intOf]; omega
            | false =>
              have K0 := Lib.hid (show plN x ms ms.length = k from by
                have h1 := HK.out
                have h2 := EP.out
                rw [Hk'.out] at h1 h2 ⊢
                exact plN_not h2 ho h1)
              go_wp2
              go_quiet (fail)
              have HK0 := K0
              have HX3 := Lib.hid (pw_below_drewN HX2.out nq)
              clear a0 a1
              generalize wr.drewN nq = wk at HX3 ⊢
              clear nq
              have HBk2 := Lib.hid (below_step HB.out HX3.out)
              have HRk := Lib.hid (Kd.R_bound (Kd.R_below HR.out HX3.out))
              have hkl : (ms.take k).length = k := by rw [List.length_take]; omega
              have hT := Kd.C_take (Kd.C_below HCm.out HX3.out) hk
              rw [hkl] at hT
              have HT := Lib.hid hT
              have s1 := cut_to (P := Try.prog) 28 68 .i64 Try.underlying28 hi68 (some am) ms.length cm (k : Int) (by omega) (by omega) hcm
              have s2 := cut_from (P := Try.prog) 28 68 .i64 Try.underlying28 hi68 2 hs68 (some am) ms.length cm (k : Int) (by omega) (by omega)
              simp only [Int.toNat_natCast] at s1 s2
              obtain ⟨Bd, eBd⟩ : ∃ Bd, (if cm = k then (some am) else ((some am)).map (·.add (k * 2))) = Bd := ⟨_, rfl⟩
              rw [eBd] at s2
              have EBd := Lib.hid eBd
              have HLK := Lib.hid hkl
              clear eBd hT hkl
              go_wp2_with (first
                | (at_builtin; refine Kd.R_append_rows k68 (Rr := Kd.K k68 wk) (w0 := w) (W := wk) w.heap.size rfl (.tmp 40) (.tmp 43) 28 68 (.agg #[.string ⟨#[]⟩, .string ⟨#[]⟩]) 32 rfl Try.underlying28 infoLb rfl (by decide) (by decide) (.slice none 0 0) [] (ms.take k) (some am) k cm (fun _ => True) (fun _ => False) rfl rfl (Kd.R_nil _ _ _ _ _) HT.out (fun x cs h => by rw [k68_open h]; exact k68_mkM _ _ _ x) (fun _ hk => hk.elim) (fun _ _ => trivial) HBk2.out (below_size HBk2.out) (by simp only [List.length_nil, List.length_append, List.length_singleton, List.length_take]; omega) ?_; intro v3 w3 hown3 hb3 hg3 hat3; have HR3 := Lib.hid (show k68.R 68 w3 w.heap.size (fun _ => True) v3 (ms.take k) from hown3); have HB3 := Lib.hid hb3; have HM3 := Lib.hid (show k68.R 68 w3 w.heap.size (fun b => b < wk.heap.size) (.slice (some am) ms.length cm) ms from Kd.R_step (Kd.R_mono HRk.out (fun b hb => hb.2.2.1)) (fun b hb _ => hg3.block b hb (by simp [Value.ownBlock]))); have HA3 := Lib.hid (show v3.ownBlock = none ∨ ∃ b, v3.ownBlock = some b ∧ wk.heap.size ≤ b from hat3); have HZ3 := Lib.hid hg3.size; clear hown3 hb3 hg3 hat3; obtain ⟨ad3, e3, b0, b1⟩ := at_lab (Kd.C_below HC.out HB3.out) j hlt; cases e3; rw [EX.out] at b0 b1)
                | (at_builtin; refine Kd.R_append k68 (w0 := w) w.heap.size rfl (.tmp 45) (.tmp 50) 28 68 (.agg #[.string ⟨#[]⟩, .string ⟨#[]⟩]) 32 rfl Try.underlying28 infoLb rfl (by decide) (by omega) v3 (ms.take k) x [.string x.f0, .string x.f1] (fun _ => True) (fun _ => False) rfl rfl (k68_mkM _ _ _ x) (fun _ hk => hk.elim) (fun _ _ => trivial) HR3.out HB3.out (below_size HB3.out) (by rw [HLK.out]; omega) ?_; intro v4 w4 hown4 hb4 hg4 hat4; have HR4 := Lib.hid hown4; have HB4 := Lib.hid hb4; have HM4 := Lib.hid (Kd.R_step HM3.out (fun b hb hlt => hg4.block b hlt (own_new HA3.out hb))); clear hown4 hb4 hg4 hat4; have HD4 := Lib.hid (drop_of HM4.out hk EBd.out))
                | (at_builtin; refine Kd.R_append_rows k68 (Rr := Kd.K k68 w4) (w0 := w) (W := w4) w.heap.size rfl (.tmp 52) (.tmp 55) 28 68 (.agg #[.string ⟨#[]⟩, .string ⟨#[]⟩]) 32 rfl Try.underlying28 infoLb rfl (by decide) (by decide) v4 (ms.take k ++ [x]) (ms.drop k) Bd (ms.length - k) (cm - k) (fun _ => True) (fun _ => False) rfl rfl HR4.out HD4.out (fun x cs h => by rw [k68_open h]; exact k68_mkM _ _ _ x) (fun _ hk => hk.elim) (fun _ _ => trivial) HB4.out (below_size HB4.out) (by simp only [List.length_nil, List.length_append, List.length_singleton, List.length_take]; omega) ?_; intro v5 w5 hown5 hb5 hg5 hat5; have HR5 := Lib.hid (ins_of HK0.out hown5); have HB5 := Lib.hid hb5; clear hown5 hb5 hg5 hat5; obtain ⟨A5, c5, rfl, hc5, -⟩ := Kd.R_reads HR5.out; rw [insN_len]; have HR6 := Lib.hid (show k68.R 68 w5 w.heap.size (fun _ => True) (.slice A5 (ms.length + 1) c5) (insN x ms) from by rw [← insN_len x ms]; exact HR5.out)))
              · have h9 : 8 ≤ ms.length := by omega
                have hon : o = none := by
                  rw [← HO.out]
                  refine make_many ?_
                  have h1 := full_take_le l (j + 1)
                  have h2 := congrArg List.length HM2.out
                  rw [sortN_len, insN_len] at h2
                  omega
                subst hon
                go_ret2
                exact ⟨rfl, HB5.out⟩
              · go_roundw
                case rel => exact ⟨j + 1, insN x ms, by go_num, by omega, by rw [insN_len]; omega, HM2, HR6, HB5⟩
                case measure => simp [intOf]; omega
    · obtain rfl : j = l.length := by omega
      have HM2 := Lib.hid (show sortN (fullS l) = ms from by have := HM.out; rwa [List.take_length] at this)
      obtain ⟨Am, cm, rfl, hcm, hCm⟩ := Kd.R_reads HR.out
      have HCm := Lib.hid hCm
      have HN := Lib.hid (show ∀ x ∈ ms, x.f0.size ≤ 140737488351232 from by
        intro x hx
        rw [← HM2.out] at hx
        have h1 := (sortN_perm _).mem_iff.1 hx
        unfold fullS at h1
        exact HSZ.out x (List.mem_filter.1 h1).1)
      have hm4 : ms.length ≤ 4000000000000000000 := by omega
      clear hCm hlt
      go_wp2_with fail
      (with_reducible refine (check58 _ ms Am cm hm4 HN.out HCm.out).mono ?_)
      rintro e w3 ⟨rfl, hb3⟩
      cases hc : chkS ms with
      | false =>
        have hon : o = none := by rw [← HO.out]; unfold makeS; rw [HM2.out, if_neg (by rw [hc]; decide)]
        subst hon
        go_wp2
        go_ret2
        exact ⟨rfl, below_step HB.out hb3⟩
      | true =>
        have hon : o = some ms := by rw [← HO.out]; unfold makeS; rw [HM2.out, if_pos hc]
        subst hon
        go_wp2
        go_ret2
        exact ⟨⟨_, _, rfl, hcm, Kd.C_below HCm.out hb3⟩, below_step HB.out hb3⟩
end Go.Proofs.Yteafilojjdfllaa
