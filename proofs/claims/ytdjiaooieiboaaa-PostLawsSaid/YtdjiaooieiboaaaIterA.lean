/- Own text: the iterators 'nothing' and Less's closure. -/
import Derived.Test.YtdjiaooieiboaaaCol
import Derived.Test.YtdjiaooieiboaaaPAllx0
namespace Go.Proofs.Ytdjiaooieiboaaa
open Go Go.RowKit Go.Shelf Go.Proofs.YtdjiaooieiboaaaW.PrintWords
attribute [local go_sem] Oper.semAt_some

theorem wpIn_scope {n : Nat} {P : Program} {c : Code} {Q : Exit → Act → World → Prop} {a : Act} {w : World} (h : c.wpIn Fence.wide n P (Exit.noGoto Q) a w) : (Code.scope c).wpIn Fence.wide n P Q a w :=
  wpIn_wide.2 (wp_scope_straight (wpIn_wide.1 h))

set_option maxRecDepth 100000 in
set_option maxHeartbeats 2000000 in
theorem nothing_tells (w : World) : Tells 32 Try.prog 26 #[] [] w := by
  intro n fv n₁ Bl m E Ex W hW hn hBl hE hEx hm hY hbox hE0
  refine callsIn_of_wp Try.func26 rfl trivial ?_ rfl
  simp only [Try.ntmps26, List.size_toArray, List.length_cons, List.length_nil, Nat.reduceAdd, Nat.reduceSub, Array.replicate_succ, Array.replicate_zero, List.push_toArray, List.append_toArray, List.nil_append, List.cons_append]
  gi_wp2
  go_end0
  exact ⟨⟨_, rfl⟩, by simpa using JJ.nil n₁ hbox, Below.refl _ _, .inl ⟨by show 0 < m; omega, hE0⟩⟩

/-- the slice value v reads l -/
def RI (w : World) (v : Value) (l : List Int) : Prop := ∃ A c, v = .slice A l.length c ∧ l.length ≤ c ∧ ReadsOf (Value.int .i64) 0 w A l.length l
theorem RI.below {w W : World} {v : Value} {l : List Int} (h : RI w v l) (hb : Below w.heap.size w W) : RI W v l := by
  obtain ⟨A, c, rfl, hc, hr⟩ := h
  exact ⟨A, c, rfl, hc, hr.below hb⟩

/-- those of a that are not in b, as the closure goes about it -/
def lessGo : List Int → List Int → List Int
  | [], _ => []
  | n :: a, b => if (b.dropWhile (fun x => decide (x < n))).head? = some n then lessGo a (b.dropWhile (fun x => decide (x < n))) else n :: lessGo a (b.dropWhile (fun x => decide (x < n)))

theorem drop_cons_getD (l : List Int) (k : Nat) (h : k < l.length) : l.drop k = l.getD k 0 :: l.drop (k + 1) := by
  rw [List.drop_eq_getElem_cons h]; simp [List.getD_eq_getElem?_getD, List.getElem?_eq_getElem h]

theorem dropWhile_drop_lt (b : List Int) (j : Nat) (n : Int) (h : j < b.length) (hlt : b.getD j 0 < n) : (b.drop j).dropWhile (fun x => decide (x < n)) = (b.drop (j + 1)).dropWhile (fun x => decide (x < n)) := by
  rw [drop_cons_getD b j h, List.dropWhile_cons, if_pos (by simpa using hlt)]
theorem dropWhile_drop_ge (b : List Int) (j : Nat) (n : Int) (h : j < b.length) (hlt : ¬ b.getD j 0 < n) : (b.drop j).dropWhile (fun x => decide (x < n)) = b.drop j := by
  rw [drop_cons_getD b j h, List.dropWhile_cons, if_neg (by simpa using hlt)]

theorem lessGo_len : ∀ (a b : List Int), (lessGo a b).length ≤ a.length
  | [], _ => by simp [lessGo]
  | n :: a, b => by
    have := lessGo_len a (b.dropWhile (fun x => decide (x < n)))
    unfold lessGo
    split <;> simp <;> omega

theorem less_skip {bj t : List Int} {x : Int} (a' : List Int) (h : bj.dropWhile (fun y => decide (y < x)) = x :: t) : lessGo (x :: a') bj = lessGo a' (x :: t) := by
  rw [lessGo, h, if_pos (by simp)]
theorem less_yield {bj t : List Int} {x : Int} (a' : List Int) (h : bj.dropWhile (fun y => decide (y < x)) = t) (hne : ¬ t.head? = some x) : lessGo (x :: a') bj = x :: lessGo a' t := by
  rw [lessGo, h, if_neg hne]
theorem take_stop {l pre r : List Int} {x : Int} {m : Nat} (h : l = pre ++ x :: r) (h1 : pre.length < m) (h2 : m ≤ (pre ++ [x]).length) : l.take m = pre ++ [x] ∧ m ≤ l.length := by
  have hm : m = pre.length + 1 := by simp at h2; omega
  subst h hm
  refine ⟨?_, by simp⟩
  rw [List.take_append, List.take_of_length_le (by omega)]; simp

set_option maxRecDepth 100000 in
set_option maxHeartbeats 4000000 in
/-- Less's closure. -/
theorem less_tells (Ba Bb : Nat) (va vb : Value) (a b : List Int) (w : World) (ha5 : a.length ≤ 10000) (hb5 : b.length ≤ 10000) (hca : w.cell? ⟨Ba, 0, none⟩ = some va) (hcb : w.cell? ⟨Bb, 0, none⟩ = some vb) (hra : RI w va a) (hrb : RI w vb b) :
    Tells 32 Try.prog 31 #[.pointer (some ⟨Ba, 0, none⟩), .pointer (some ⟨Bb, 0, none⟩)] (lessGo a b) w := by
  intro n fv n₁ Bl m E Ex W hW hn hBl hE hEx hm hY hbox hE0
  have hca' := pw_cell_below hW hca
  have hcb' := pw_cell_below hW hcb
  obtain ⟨A, c, rfl, hlc, hra⟩ := hra
  obtain ⟨A', c', rfl, hlc', hrb⟩ := hrb
  have hn₁ : n₁ ≤ W.heap.size := by have := hbox.lt; omega
  refine callsIn_of_wp Try.func31 rfl trivial ?_ rfl
  simp only [Try.ntmps31, List.size_toArray, List.length_cons, List.length_nil, Nat.reduceAdd, Nat.reduceSub, Array.replicate_succ, Array.replicate_zero, List.push_toArray, List.append_toArray, List.nil_append, List.cons_append]
  gi_wp2
  refine wpIn_scope ?_
  gi_wp2
  refine wpIn_label ?_
  gi_wp2
  gi_loopw [4, 9] (fun at_ i wr => ∃ (k j : Nat) (pre : List Int), at_ = .int .i64 j ∧ i = .int .i64 k ∧ k ≤ a.length ∧ j ≤ b.length ∧ pre.length ≤ k ∧ pre.length < m ∧ JJ n₁ Bl pre wr ∧ Below n₁ W wr ∧ E wr ∧ lessGo a b = pre ++ lessGo (a.drop k) (b.drop j))
    (fun _ i _ => a.length - (intOf i).toNat)
  case atStart => exact ⟨0, 0, [], rfl, rfl, Nat.zero_le _, Nat.zero_le _, Nat.le_refl _, by show 0 < m; omega, JJ.nil n₁ hbox, Below.refl _ _, hE0, by simp⟩
  case round =>
    obtain ⟨k, j, pre, rfl, rfl, hk, hj, hpk, hpm, hJ, hB, hEr, heq⟩ := hrel
    have hw := hW.trans (hB.mono hn)
    have hca2 := pw_cell_below hw hca
    have hcb2 := pw_cell_below hw hcb
    clear hca' hcb'
    by_cases hlt : k < a.length
    · obtain ⟨ad, rfl, hx⟩ := hra.2.2 (by omega)
      have hx := pw_cell_below hw (hx k hlt)
      have hda := drop_cons_getD a k hlt
      obtain ⟨x, ex⟩ : ∃ x, a.getD k 0 = x := ⟨_, rfl⟩
      rw [ex] at hx hda
      rw [hda] at heq
      have Heq := Lib.hid heq
      clear heq hda ex
      have hyield := hY (n - 1) n₁ pre x wr (Nat.le_refl _) (Nat.le_trans hn₁ hB.size) hpm (by omega) hJ hEr
      gi_wp2
      gi_loopw [4] (fun at_ wq => ∃ (j' : Nat), at_ = .int .i64 j' ∧ j' ≤ b.length ∧ wq = wr ∧ (b.drop j).dropWhile (fun y => decide (y < x)) = (b.drop j').dropWhile (fun y => decide (y < x)))
        (fun at_ _ => b.length - (intOf at_).toNat)
      case atStart => exact ⟨j, rfl, hj, rfl, rfl⟩
      case round =>
        obtain ⟨j', rfl, hj', rfl, hdw⟩ := hrel
        by_cases hlt' : j' < b.length
        · obtain ⟨ad', rfl, hy⟩ := hrb.2.2 (by omega)
          have hy := pw_cell_below hw (hy j' hlt')
          have hd1 := dropWhile_drop_lt b j' x hlt'
          have hd2 := dropWhile_drop_ge b j' x hlt'
          have hd3 := drop_cons_getD b j' hlt'
          obtain ⟨y, ey⟩ : ∃ y, b.getD j' 0 = y := ⟨_, rfl⟩
          rw [ey] at hy hd1 hd2 hd3
          by_cases hyx : y < x
          · gi_wp2
            go_roundw
            case rel => exact ⟨j' + 1, by go_num, by omega, trivial, by rw [hdw, hd1 hyx]⟩
            case measure => simp [intOf]; omega
          · have hdq := hdw.trans ((hd2 hyx).trans hd3)
            by_cases hye : y = x
            · rw [hye] at hy hdq hd3
              have hless := less_skip (a.drop (k + 1)) hdq
              gi_wp2
              go_roundw
              case rel => exact ⟨k + 1, j', pre, rfl, by go_num, by omega, by omega, by omega, hpm, hJ, hB, hEr, by rw [Heq.out, hless, ← hd3]⟩
              case measure => simp [intOf]; omega
            · have hless := less_yield (a.drop (k + 1)) (hdq.trans hd3.symm) (by rw [hd3]; simpa using hye)
              rcases hyield with ⟨l, rfl, fn, tmps, assign, body, hyl, hR⟩ | ⟨lb, rfl, hC⟩
              · gi_wp2
                refine ⟨fun h => by simp [Fence.wide] at h, hR.mono ?_⟩
                rintro e W3 ⟨hJ3, hK3, hB3, (⟨hlen, rfl, hE3⟩ | ⟨hlen, rfl, hE3⟩)⟩
                · gi_wp2
                  go_roundw
                  case rel => exact ⟨k + 1, j', pre ++ [x], rfl, by go_num, by omega, by omega, by simp; omega, hlen, hJ3, hB.trans hB3, hE3, by rw [Heq.out, hless]; simp⟩
                  case measure => simp [intOf]; omega
                · obtain ⟨q1, q2⟩ := take_stop (Heq.out.trans (by rw [hless])) hpm hlen
                  gi_wp2
                  rw [Exit.noGoto_normal]
                  go_end0
                  exact ⟨⟨_, rfl⟩, by rw [q1]; exact hJ3, hB.trans hB3, .inr ⟨q2, hE3⟩⟩
              · gi_wp2
                refine ⟨trivial, fun h => by simp [Fence.wide] at h, hC.mono ?_⟩
                rintro e W3 ⟨hJ3, hK3, hB3, (⟨hlen, rfl, hE3⟩ | ⟨hlen, rfl, hE3⟩)⟩
                · gi_wp2
                  go_roundw
                  case rel => exact ⟨k + 1, j', pre ++ [x], rfl, by go_num, by omega, by omega, by simp; omega, hlen, hJ3, hB.trans hB3, hE3, by rw [Heq.out, hless]; simp⟩
                  case measure => simp [intOf]; omega
                · obtain ⟨q1, q2⟩ := take_stop (Heq.out.trans (by rw [hless])) hpm hlen
                  gi_wp2
                  rw [Exit.noGoto_normal]
                  go_end0
                  exact ⟨⟨_, rfl⟩, by rw [q1]; exact hJ3, hB.trans hB3, .inr ⟨q2, hE3⟩⟩

        · have ej : j' = b.length := by omega
          subst ej
          have hless := less_yield (a.drop (k + 1)) (hdw.trans (by simp : (b.drop b.length).dropWhile (fun y => decide (y < x)) = b.drop b.length)) (by simp)
          rcases hyield with ⟨l, rfl, fn, tmps, assign, body, hyl, hR⟩ | ⟨lb, rfl, hC⟩
          · gi_wp2
            refine ⟨fun h => by simp [Fence.wide] at h, hR.mono ?_⟩
            rintro e W3 ⟨hJ3, hK3, hB3, (⟨hlen, rfl, hE3⟩ | ⟨hlen, rfl, hE3⟩)⟩
            · gi_wp2
              go_roundw
              case rel => exact ⟨k + 1, b.length, pre ++ [x], rfl, by go_num, by omega, by omega, by simp; omega, hlen, hJ3, hB.trans hB3, hE3, by rw [Heq.out, hless]; simp⟩
              case measure => simp [intOf]; omega
            · obtain ⟨q1, q2⟩ := take_stop (Heq.out.trans (by rw [hless])) hpm hlen
              gi_wp2
              rw [Exit.noGoto_normal]
              go_end0
              exact ⟨⟨_, rfl⟩, by rw [q1]; exact hJ3, hB.trans hB3, .inr ⟨q2, hE3⟩⟩
          · gi_wp2
            refine ⟨trivial, fun h => by simp [Fence.wide] at h, hC.mono ?_⟩
            rintro e W3 ⟨hJ3, hK3, hB3, (⟨hlen, rfl, hE3⟩ | ⟨hlen, rfl, hE3⟩)⟩
            · gi_wp2
              go_roundw
              case rel => exact ⟨k + 1, b.length, pre ++ [x], rfl, by go_num, by omega, by omega, by simp; omega, hlen, hJ3, hB.trans hB3, hE3, by rw [Heq.out, hless]; simp⟩
              case measure => simp [intOf]; omega
            · obtain ⟨q1, q2⟩ := take_stop (Heq.out.trans (by rw [hless])) hpm hlen
              gi_wp2
              rw [Exit.noGoto_normal]
              go_end0
              exact ⟨⟨_, rfl⟩, by rw [q1]; exact hJ3, hB.trans hB3, .inr ⟨q2, hE3⟩⟩

    · obtain rfl : k = a.length := by omega
      have hfin : lessGo a b = pre := by rw [heq]; simp [lessGo]
      gi_wp2
      rw [Exit.noGoto_normal]
      go_end0
      exact ⟨⟨_, rfl⟩, by rw [hfin, List.take_of_length_le (by omega)]; exact hJ, hB, .inl ⟨by rw [hfin]; exact hpm, hEr⟩⟩

end Go.Proofs.Ytdjiaooieiboaaa
