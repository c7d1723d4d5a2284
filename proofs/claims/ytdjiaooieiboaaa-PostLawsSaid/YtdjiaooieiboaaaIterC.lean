/- Own text: the walk of Most's closure. -/
import Derived.Test.YtdjiaooieiboaaaIterB
namespace Go.Proofs.Ytdjiaooieiboaaa
open Go Go.RowKit Go.Shelf Go.Proofs.YtdjiaooieiboaaaW.PrintWords
attribute [local go_sem] Oper.semAt_some

theorem zero3 : (Try.prog.info? 3).map (fun i => (i.zero, i.size, i.bytes)) = some (some (.int .i64 0), 1, 8) := info3

theorem mg_none {ls : List (List Int)} {k : Int} {c : Nat} {f : Nat → Nat} (hc : 0 < c) (ha : acc ls f ls.length = none) : mg ls k c f = [] := by
  obtain ⟨c, rfl⟩ : ∃ d, c = d + 1 := ⟨c - 1, by omega⟩
  simp [mg, ha]
theorem mg_skip {ls : List (List Int)} {k : Int} {c : Nat} {f : Nat → Nat} {q : Int} (hc : 0 < c) (ha : acc ls f ls.length = some q) (h : (cnt ls q f ls.length : Int) < k) : mg ls k c f = mg ls k (c - 1) (adv ls q f) := by
  obtain ⟨c, rfl⟩ : ∃ d, c = d + 1 := ⟨c - 1, by omega⟩
  simp [mg, ha, h]
theorem mg_yield {ls : List (List Int)} {k : Int} {c : Nat} {f : Nat → Nat} {q : Int} (hc : 0 < c) (ha : acc ls f ls.length = some q) (h : ¬ (cnt ls q f ls.length : Int) < k) : mg ls k c f = q :: mg ls k (c - 1) (adv ls q f) := by
  obtain ⟨c, rfl⟩ : ∃ d, c = d + 1 := ⟨c - 1, by omega⟩
  simp only [mg, ha, if_neg h, Nat.add_sub_cancel]
theorem tot_some {ls : List (List Int)} {f : Nat → Nat} {q : Int} (ha : acc ls f ls.length = some q) : tot ls (adv ls q f) ls.length < tot ls f ls.length := by
  obtain ⟨i, hi, hh⟩ := acc_hd ha
  exact tot_adv_lt ls f q _ i hi hh
theorem grown_set (W : World) (b j : Nat) (v : Value) : W.grownBy (W.setCell ⟨b, j, none⟩ v) (some b) :=
  ⟨rfl, rfl, rfl, (KeepsWalks.setCell W _ v).size, fun k _ hk => Below.heap_setCell _ _ _ k (fun e => hk (by rw [e]))⟩
theorem at_set {A L : Nat} {f f' : Nat → Nat} {W : World} (h : AT A L f W) (p : Nat) {u : Nat} (hf : ∀ i, i < L → f' i = if i = p then u else f i) : AT A L f' (W.setCell ⟨A, p, none⟩ (.int .i64 (u : Int))) :=
  (World.rowIs.set h p (.int .i64 (u : Int))).congr (fun i hi => by rw [hf i hi]; split <;> rfl)

theorem at_cells {A L : Nat} {f : Nat → Nat} {W : World} (h : AT A L f W) : ∃ o : Obj, W.heap[A]? = some o ∧ o.isCells = true := by
  obtain ⟨c, hb, _⟩ := h
  exact ⟨_, hb, rfl⟩
theorem at_keep {A L Bl : Nat} {f : Nat → Nat} {W W' : World} (h : AT A L f W) (hk : Keep (A + 1) Bl W W') (hne : A ≠ Bl) : AT A L f W' := by
  obtain ⟨c, hb, hc⟩ := h
  exact ⟨c, hk.2 A _ (Nat.lt_succ_self A) hne hb rfl, hc⟩

/-- behind p lists of the second loop -/
def part (ls : List (List Int)) (q : Int) (f : Nat → Nat) (p i : Nat) : Nat := if i < p then adv ls q f i else f i
theorem part_hit {ls : List (List Int)} {q : Int} {f : Nat → Nat} {p : Nat} (hh : hd ls f p = some q) (i : Nat) : part ls q f (p + 1) i = if i = p then f p + 1 else part ls q f p i := by
  unfold part
  by_cases e : i = p
  · subst e; simp [adv, hh]
  · rw [if_neg e]
    by_cases e2 : i < p
    · rw [if_pos (by omega), if_pos e2]
    · rw [if_neg (by omega), if_neg e2]
theorem part_miss {ls : List (List Int)} {q : Int} {f : Nat → Nat} {p : Nat} (hh : ¬ hd ls f p = some q) (i : Nat) : part ls q f (p + 1) i = part ls q f p i := by
  unfold part
  by_cases e : i = p
  · subst e; simp [adv, hh]
  · by_cases e2 : i < p
    · rw [if_pos (by omega), if_pos e2]
    · rw [if_neg (by omega), if_neg e2]
theorem part_at (ls : List (List Int)) (q : Int) (f : Nat → Nat) (p : Nat) : part ls q f p p = f p := by simp [part]
theorem part_zero (ls : List (List Int)) (q : Int) (f : Nat → Nat) (i : Nat) : part ls q f 0 i = f i := by simp [part]
theorem part_all {ls : List (List Int)} {q : Int} {f : Nat → Nat} {L i : Nat} (h : i < L) : part ls q f L i = adv ls q f i := by simp [part, h]

set_option maxRecDepth 100000 in
set_option maxHeartbeats 8000000 in
/-- Most's closure. -/
theorem most_tells (Ba Bk : Nat) (va : Value) (ls : List (List Int)) (kk : Int) (w : World) (hL : ls.length ≤ 1000) (ht : tot ls (fun _ => 0) ls.length ≤ 90000) (hle : ∀ i, i < ls.length → (ls.getD i []).length ≤ 10000)
    (hca : w.cell? ⟨Ba, 0, none⟩ = some va) (hck : w.cell? ⟨Bk, 0, none⟩ = some (.int .i64 kk)) (hra : RL w va ls) :
    Tells 32 Try.prog 28 #[.pointer (some ⟨Ba, 0, none⟩), .pointer (some ⟨Bk, 0, none⟩)] (mostGo ls kk) w := by
  intro n fv n₁ Bl m E Ex W hW hn hBl hE hEx hm hY hbox hE0
  have hca' := pw_cell_below hW hca
  obtain ⟨A, c, rfl, hlc, hrd⟩ := hra
  have hBlt := hbox.lt
  have hn₁ : n₁ ≤ W.heap.size := by omega
  obtain ⟨i0, hi, hz0, hz1, hz2⟩ := info_parts info3
  have hmk := run_make_row (P := Try.prog) 22 3 i0 (.int .i64 0) Try.underlying22 hi hz0 hz1 rfl .i64 .i64 ls.length (by rw [hz2]; omega) (by omega)
  refine callsIn_of_wp Try.func28 rfl trivial ?_ rfl
  simp only [Try.ntmps28, List.size_toArray, List.length_cons, List.length_nil, Nat.reduceAdd, Nat.reduceSub, Array.replicate_succ, Array.replicate_zero, List.push_toArray, List.append_toArray, List.nil_append, List.cons_append]
  gi_wp2
  refine wpIn_scope ?_
  gi_wp2
  refine wpIn_label ?_
  gi_wp2
  have hAT0 : AT W.heap.size ls.length (fun _ => 0) (W.alloc (.cells (madeCells #[.int .i64 0] ls.length) 3)) := World.rowIs_made W (.int .i64 0) ls.length 3
  obtain ⟨W1, hW1⟩ : ∃ W1, W.alloc (.cells (madeCells #[.int .i64 0] ls.length) 3) = W1 := ⟨_, rfl⟩
  have hs1 : W1.heap.size = W.heap.size + 1 := by rw [← hW1]; simp
  have hB1 : Below n₁ W W1 := by rw [← hW1]; exact (Below.refl n₁ W).alloc hn₁ _
  have hbox1 : Boxed W1 Bl 22 (.slice none 0 0) := by rw [← hW1]; exact hbox.alloc _
  have hE1 : E W1 := by rw [← hW1]; exact hE _ _ none hE0 (World.grownBy_alloc W _ none) (fun r e => by cases e)
  rw [hW1] at hAT0 ⊢
  clear hmk hca'
  obtain ⟨B, hBd⟩ : ∃ B, W.heap.size = B := ⟨_, rfl⟩
  rw [hBd] at hAT0 hs1 hBlt hn₁ ⊢
  gi_loopw [5] (fun _ wr => ∃ (f : Nat → Nat) (pre : List Int) (c : Nat), AT B ls.length f wr ∧ JJ (B + 1) Bl pre wr ∧ Below n₁ W wr ∧ E wr ∧ B + 1 ≤ wr.heap.size ∧ pre.length < m ∧ mostGo ls kk = pre ++ mg ls kk c f ∧ tot ls f ls.length < c ∧ pre.length + tot ls f ls.length ≤ 90000)
    (fun _ wr => totW ls B wr ls.length)
  case atStart => exact ⟨fun _ => 0, [], _, hAT0, JJ.nil _ hbox1, hB1, hE1, by omega, by show 0 < m; omega, rfl, Nat.lt_succ_self _, by simpa using ht⟩
  case round =>
    obtain ⟨f, pre, c', hAT, hJ, hB, hEr, hsz, hpm, heq, hc', h90⟩ := hrel
    have hw := hW.trans (hB.mono hn)
    have hca2 := pw_cell_below hw hca
    have hck2 := pw_cell_below hw hck
    have Hmeas := Lib.hid (totW_eq (ls := ls) hAT ls.length (Nat.le_refl _))
    have Heq := Lib.hid heq
    have Hck := Lib.hid hck
    clear heq
    gi_wp2
    gi_loopw [5, 6, 17] (fun n5 s6 i17 wq => ∃ p : Nat, p ≤ ls.length ∧ i17 = .int .i64 p ∧ n5 = .int .i64 ((acc ls f p).getD 0) ∧ s6 = .bool (acc ls f p).isSome ∧ wq = wr)
      (fun _ _ i17 _ => ls.length - (intOf i17).toNat)
    case atStart => exact ⟨0, Nat.zero_le _, rfl, rfl, rfl, rfl⟩
    case round =>
      obtain ⟨p, hp, rfl, rfl, rfl, rfl⟩ := hrel
      by_cases hlt : p < ls.length
      · obtain ⟨ad, vi, rfl, hcv, A', c', rfl, hlc', hri⟩ := hrd p hlt
        have hcv := pw_cell_below hw hcv
        have hpl := hle p hlt
        have hat := World.rowIs.cell hAT hlt
        by_cases hf : f p < (ls.getD p []).length
        · have hh := hd_some hf
          obtain ⟨ad', rfl, hy⟩ := hri.2.2 (by omega)
          have hy := pw_cell_below hw (hy _ hf)
          obtain ⟨y, ey⟩ : ∃ y, (ls.getD p []).getD (f p) 0 = y := ⟨_, rfl⟩
          rw [ey] at hy hh
          cases ha : acc ls f p with
          | none =>
            have hacc1 : acc ls f (p + 1) = some y := by simp [acc, hh, ha]
            obtain ⟨len, elen⟩ : ∃ len, (ls.getD p []).length = len := ⟨_, rfl⟩
            rw [elen] at hcv hf hpl
            simp only [Option.isSome_none, Option.getD_none]
            gi_wp2
            go_roundw
            case rel => exact ⟨p + 1, by omega, by go_num, by rw [hacc1]; rfl, by rw [hacc1]; rfl, trivial⟩
            case measure => simp [intOf]; omega
          | some q =>
            obtain ⟨len, elen⟩ : ∃ len, (ls.getD p []).length = len := ⟨_, rfl⟩
            rw [elen] at hcv hf hpl
            simp only [Option.isSome_some, Option.getD_some]
            by_cases hyq : y < q
            · have hacc1 : acc ls f (p + 1) = some y := by simp [acc, hh, ha, hyq]
              gi_wp2
              go_roundw
              case rel => exact ⟨p + 1, by omega, by go_num, by rw [hacc1]; rfl, by rw [hacc1]; rfl, trivial⟩
              case measure => simp [intOf]; omega
            · have hacc1 : acc ls f (p + 1) = some q := by simp [acc, hh, ha, hyq]
              gi_wp2
              go_roundw
              case rel => exact ⟨p + 1, by omega, by go_num, by rw [hacc1]; rfl, by rw [hacc1]; rfl, trivial⟩
              case measure => simp [intOf]; omega
        · have hh := hd_none hf
          have hacc1 : acc ls f (p + 1) = acc ls f p := by simp [acc, hh]
          obtain ⟨len, elen⟩ : ∃ len, (ls.getD p []).length = len := ⟨_, rfl⟩
          rw [elen] at hcv hf hpl
          gi_wp2
          go_roundw
          case rel => exact ⟨p + 1, by omega, by go_num, by rw [hacc1], by rw [hacc1], trivial⟩
          case measure => simp [intOf]; omega
      · obtain rfl : p = ls.length := by omega
        cases ha : acc ls f ls.length with
        | none =>
          have hfin : mostGo ls kk = pre := by rw [Heq.out, mg_none (by omega) ha]; simp
          simp only [Option.isSome_none, Option.getD_none]
          gi_wp2
          rw [Exit.noGoto_normal]
          go_end0
          exact ⟨⟨_, rfl⟩, by rw [hfin, List.take_of_length_le (by omega)]; exact hJ.lower (by omega), hB, .inl ⟨by rw [hfin]; exact hpm, hEr⟩⟩
        | some q =>
          have htl := tot_some ha
          have Ha := Lib.hid ha
          simp only [Option.isSome_some, Option.getD_some]
          gi_wp2
          gi_loopw [9, 56] (fun n9 i56 wq => ∃ p : Nat, p ≤ ls.length ∧ i56 = .int .i64 p ∧ n9 = .int .i64 (cnt ls q f p : Int) ∧ AT B ls.length (part ls q f p) wq ∧ JJ (B + 1) Bl pre wq ∧ Below n₁ W wq ∧ E wq ∧ B + 1 ≤ wq.heap.size)
            (fun _ i56 _ => ls.length - (intOf i56).toNat)
          case atStart => exact ⟨0, Nat.zero_le _, rfl, rfl, World.rowIs.congr hAT (fun i _ => by rw [part_zero]), hJ, hB, hEr, hsz⟩
          case round =>
            obtain ⟨p, hp, rfl, rfl, hATq, hJq, hBq, hEq, hszq⟩ := hrel
            have hwq := hW.trans (hBq.mono hn)
            have hckq := pw_cell_below hwq Hck.out
            by_cases hlt : p < ls.length
            · obtain ⟨ad, vi, rfl, hcv, A', c', rfl, hlc', hri⟩ := hrd p hlt
              have hcv := pw_cell_below hwq hcv
              have hpl := hle p hlt
              have hat := World.rowIs.cell hATq hlt
              have hfz := World.rowIs.frozen hATq p
              rw [part_at] at hat
              have hcn := cnt_le ls q f p
              by_cases hf : f p < (ls.getD p []).length
              · have hh := hd_some hf
                obtain ⟨ad', rfl, hy⟩ := hri.2.2 (by omega)
                have hy := pw_cell_below hwq (hy _ hf)
                obtain ⟨y, ey⟩ : ∃ y, (ls.getD p []).getD (f p) 0 = y := ⟨_, rfl⟩
                rw [ey] at hy hh
                obtain ⟨len, elen⟩ : ∃ len, (ls.getD p []).length = len := ⟨_, rfl⟩
                rw [elen] at hcv hf hpl
                by_cases hyq : y = q
                · rw [hyq] at hy hh
                  have hset : AT B ls.length (part ls q f (p + 1)) (wr.setCell ⟨B, p, none⟩ (.int .i64 ((f p + 1 : Nat) : Int))) := at_set hATq p (fun i _ => part_hit hh i)
                  have Hset := Lib.hid hset
                  have Hcnt := Lib.hid (show cnt ls q f (p + 1) = cnt ls q f p + 1 from by simp [cnt, hh])
                  have Hatq := Lib.hid hATq
                  clear hset hATq
                  gi_wp2
                  go_roundw
                  case rel =>
                    have hg := grown_set wr B p (.int .i64 ((f p : Int) + 1))
                    refine ⟨p + 1, by omega, by go_num, by rw [Hcnt.out]; go_num, ?_, hJq.kept hg (fun r e => by cases e; exact ⟨by omega, .inl (by omega)⟩), hBq.grown hg (by omega) (fun r e => by cases e; omega), hE _ _ _ hEq hg (fun r e => by cases e; exact ⟨by omega, at_cells Hatq.out⟩), by have := hg.size; omega⟩
                    simpa using Hset.out
                  case measure => simp [intOf]; omega
                · have hne : ¬ hd ls f p = some q := by rw [hh]; simpa using hyq
                  have Hcnt := Lib.hid (show cnt ls q f (p + 1) = cnt ls q f p from by simp [cnt, hne])
                  have hset : AT B ls.length (part ls q f (p + 1)) wr := hATq.congr (fun i _ => by rw [part_miss hne])
                  have Hset := Lib.hid hset
                  clear hset hATq
                  gi_wp2
                  go_roundw
                  case rel => exact ⟨p + 1, by omega, by go_num, by rw [Hcnt.out], Hset.out, hJq, hBq, hEq, hszq⟩
                  case measure => simp [intOf]; omega
              · have hne : ¬ hd ls f p = some q := by rw [hd_none hf]; simp
                have Hcnt := Lib.hid (show cnt ls q f (p + 1) = cnt ls q f p from by simp [cnt, hne])
                have hset : AT B ls.length (part ls q f (p + 1)) wr := hATq.congr (fun i _ => by rw [part_miss hne])
                have Hset := Lib.hid hset
                obtain ⟨len, elen⟩ : ∃ len, (ls.getD p []).length = len := ⟨_, rfl⟩
                rw [elen] at hcv hf hpl
                clear hset hATq
                gi_wp2
                go_roundw
                case rel => exact ⟨p + 1, by omega, by go_num, by rw [Hcnt.out], Hset.out, hJq, hBq, hEq, hszq⟩
                case measure => simp [intOf]; omega
            · obtain rfl : p = ls.length := by omega
              have hATn : AT B ls.length (adv ls q f) wr := hATq.congr (fun i hi => by rw [part_all hi])
              have Hm2 := Lib.hid (totW_eq (ls := ls) hATn ls.length (Nat.le_refl _))
              have hcn := cnt_le ls q f ls.length
              by_cases hck3 : (cnt ls q f ls.length : Int) < kk
              · have Hmg := Lib.hid (Heq.out.trans (by rw [mg_skip (by omega) Ha.out hck3]))
                gi_wp2
                go_roundw
                case rel => exact ⟨adv ls q f, pre, c' - 1, hATn, hJq, hBq, hEq, hszq, hpm, Hmg.out, by omega, by omega⟩
                case measure => rw [Hm2.out, Hmeas.out]; exact htl
              · have Hmg := Lib.hid (Heq.out.trans (by rw [mg_yield (by omega) Ha.out hck3]))
                rcases hY (n - 1) (B + 1) pre q wr (by omega) hszq hpm (by omega) hJq hEq with ⟨l, rfl, fn, tmps, assign, body, hyl, hR⟩ | ⟨lb, rfl, hC⟩
                · gi_wp2
                  refine ⟨fun h => by simp [Fence.wide] at h, hR.mono ?_⟩
                  rintro e W3 ⟨hJ3, hK3, hB3, (⟨hlen, rfl, hE3⟩ | ⟨hlen, rfl, hE3⟩)⟩
                  · have hAT3 := at_keep hATn hK3 (by omega)
                    have Hm3 := Lib.hid (totW_eq (ls := ls) hAT3 ls.length (Nat.le_refl _))
                    gi_wp2
                    go_roundw
                    case rel => exact ⟨adv ls q f, pre ++ [q], c' - 1, hAT3, hJ3, hBq.trans hB3, hE3, Nat.le_trans hszq hK3.1, hlen, by rw [Hmg.out]; simp, by omega, by simp; omega⟩
                    case measure => rw [Hm3.out, Hmeas.out]; exact htl
                  · obtain ⟨q1, q2⟩ := take_stop Hmg.out hpm hlen
                    gi_wp2
                    rw [Exit.noGoto_normal]
                    go_end0
                    exact ⟨⟨_, rfl⟩, by rw [q1]; exact hJ3.lower (by omega), hBq.trans hB3, .inr ⟨q2, hE3⟩⟩
                · gi_wp2
                  refine ⟨trivial, fun h => by simp [Fence.wide] at h, hC.mono ?_⟩
                  rintro e W3 ⟨hJ3, hK3, hB3, (⟨hlen, rfl, hE3⟩ | ⟨hlen, rfl, hE3⟩)⟩
                  · have hAT3 := at_keep hATn hK3 (by omega)
                    have Hm3 := Lib.hid (totW_eq (ls := ls) hAT3 ls.length (Nat.le_refl _))
                    gi_wp2
                    go_roundw
                    case rel => exact ⟨adv ls q f, pre ++ [q], c' - 1, hAT3, hJ3, hBq.trans hB3, hE3, Nat.le_trans hszq hK3.1, hlen, by rw [Hmg.out]; simp, by omega, by simp; omega⟩
                    case measure => rw [Hm3.out, Hmeas.out]; exact htl
                  · obtain ⟨q1, q2⟩ := take_stop Hmg.out hpm hlen
                    gi_wp2
                    rw [Exit.noGoto_normal]
                    go_end0
                    exact ⟨⟨_, rfl⟩, by rw [q1]; exact hJ3.lower (by omega), hBq.trans hB3, .inr ⟨q2, hE3⟩⟩

end Go.Proofs.Ytdjiaooieiboaaa
