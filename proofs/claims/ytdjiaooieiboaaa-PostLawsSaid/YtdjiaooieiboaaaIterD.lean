/- Own text: copies of lists of ints. -/
import Derived.Test.YtdjiaooieiboaaaIterA
namespace Go.Proofs.Ytdjiaooieiboaaa
open Go Go.RowKit Go.Shelf Go.Proofs.YtdjiaooieiboaaaW.PrintWords
attribute [local go_sem] Oper.semAt_some

set_option maxRecDepth 100000 in
set_option maxHeartbeats 2000000 in
theorem copy27_in (w : World) (A : Option Addr) (c : Nat) (l : List Int) (hl : l.length ≤ 100000) (hr : ReadsOf (Value.int .i64) 0 w A l.length l) :
    CallsIn Fence.wide 9 Try.prog 27 #[.slice A l.length c] w (IntsRet w.heap.size w l) := by
  obtain ⟨i0, hi, hz0, hz1, hz2⟩ := info_parts info3
  refine callsIn_of_wp Try.func27 rfl trivial ?_ rfl
  simp only [Try.ntmps27, List.size_toArray, List.length_cons, List.length_nil, Nat.reduceAdd, Nat.reduceSub, Array.replicate_succ, Array.replicate_zero, List.push_toArray, List.append_toArray, List.nil_append, List.cons_append]
  by_cases h0 : l = []
  · subst h0
    simp only [List.length_nil]
    cases A with
    | none =>
      gi_wp2
      go_ret
      exact ⟨_, rfl, World.ownsRow_nil _ _ _ _, Below.refl _ _⟩
    | some ad =>
      gi_wp2_with (gi_at_builtin; refine wpListIn_append_own _ rfl _ _ 22 rfl w.heap.size 3 i0 (.int .i64 0) 1 8 Try.underlying22 hi hz0 hz1 hz2 rfl (by decide) (.slice none 0 0) 0 [] rfl (World.ownsRow_nil _ _ _ _) ad 0 c [] rfl rfl (fun j u hu => by simp at hu) (by intro u hu; simp at hu) (by simp) (by simp) (Nat.le_refl _) ?_; intro v' w1 hown' hgrow _)
      go_ret
      exact ⟨_, rfl, by simpa using hown', (Below.refl _ _).grown hgrow (Nat.le_refl _) (fun k e => by simp [Value.ownBlock] at e)⟩
  · have hpos : 0 < l.length := List.length_pos_iff.2 h0
    obtain ⟨ad, rfl, hc⟩ := hr.2.2 hpos
    gi_wp2_with (gi_at_builtin; refine wpListIn_append_own _ rfl _ _ 22 rfl w.heap.size 3 i0 (.int .i64 0) 1 8 Try.underlying22 hi hz0 hz1 hz2 rfl (by decide) (.slice none 0 0) 0 [] rfl (World.ownsRow_nil _ _ _ _) ad l.length c (l.map (Value.int .i64)) rfl (by simp) (fun j u hu => by
      have hj : j < l.length := by
        by_cases hj : j < l.length
        · exact hj
        · rw [List.getElem?_eq_none (by simpa using hj)] at hu; cases hu
      rw [hc j hj]
      simp [hj] at hu
      simp [List.getD_eq_getElem?_getD, hj, hu]) (by intro u hu; simp at hu; obtain ⟨x, _, rfl⟩ := hu; rfl) (by simp [maxLen]; omega) (by omega) (Nat.le_refl _) ?_; intro v' w1 hown' hgrow _)
    go_ret
    exact ⟨_, rfl, by simpa using hown', (Below.refl _ _).grown hgrow (Nat.le_refl _) (fun k e => by simp [Value.ownBlock] at e)⟩

set_option maxRecDepth 100000 in
set_option maxHeartbeats 2000000 in
theorem copy14_in (w : World) (A : Option Addr) (c : Nat) (l : List Int) (hl : l.length ≤ 100000) (hr : ReadsOf (Value.int .i64) 0 w A l.length l) :
    CallsIn Fence.wide 9 Try.prog 14 #[.slice A l.length c] w (IntsRet w.heap.size w l) := by
  obtain ⟨i0, hi, hz0, hz1, hz2⟩ := info_parts info3
  refine callsIn_of_wp Try.func14 rfl trivial ?_ rfl
  simp only [Try.ntmps14, List.size_toArray, List.length_cons, List.length_nil, Nat.reduceAdd, Nat.reduceSub, Array.replicate_succ, Array.replicate_zero, List.push_toArray, List.append_toArray, List.nil_append, List.cons_append]
  by_cases h0 : l = []
  · subst h0
    simp only [List.length_nil]
    cases A with
    | none =>
      gi_wp2
      go_ret
      exact ⟨_, rfl, World.ownsRow_nil _ _ _ _, Below.refl _ _⟩
    | some ad =>
      gi_wp2_with (gi_at_builtin; refine wpListIn_append_own _ rfl _ _ 22 rfl w.heap.size 3 i0 (.int .i64 0) 1 8 Try.underlying22 hi hz0 hz1 hz2 rfl (by decide) (.slice none 0 0) 0 [] rfl (World.ownsRow_nil _ _ _ _) ad 0 c [] rfl rfl (fun j u hu => by simp at hu) (by intro u hu; simp at hu) (by simp) (by simp) (Nat.le_refl _) ?_; intro v' w1 hown' hgrow _)
      go_ret
      exact ⟨_, rfl, by simpa using hown', (Below.refl _ _).grown hgrow (Nat.le_refl _) (fun k e => by simp [Value.ownBlock] at e)⟩
  · have hpos : 0 < l.length := List.length_pos_iff.2 h0
    obtain ⟨ad, rfl, hc⟩ := hr.2.2 hpos
    gi_wp2_with (gi_at_builtin; refine wpListIn_append_own _ rfl _ _ 22 rfl w.heap.size 3 i0 (.int .i64 0) 1 8 Try.underlying22 hi hz0 hz1 hz2 rfl (by decide) (.slice none 0 0) 0 [] rfl (World.ownsRow_nil _ _ _ _) ad l.length c (l.map (Value.int .i64)) rfl (by simp) (fun j u hu => by
      have hj : j < l.length := by
        by_cases hj : j < l.length
        · exact hj
        · rw [List.getElem?_eq_none (by simpa using hj)] at hu; cases hu
      rw [hc j hj]
      simp [hj] at hu
      simp [List.getD_eq_getElem?_getD, hj, hu]) (by intro u hu; simp at hu; obtain ⟨x, _, rfl⟩ := hu; rfl) (by simp [maxLen]; omega) (by omega) (Nat.le_refl _) ?_; intro v' w1 hown' hgrow _)
    go_ret
    exact ⟨_, rfl, by simpa using hown', (Below.refl _ _).grown hgrow (Nat.le_refl _) (fun k e => by simp [Value.ownBlock] at e)⟩

end Go.Proofs.Ytdjiaooieiboaaa
