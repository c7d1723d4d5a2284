/- Own text: Collect, List: what they gather of an iterator. -/
import Derived.Test.YtdjiaooieiboaaaSeq
import Derived.Test.YtdjiaooieiboaaaProg
import Derived.Lib.Hide
namespace Go.Proofs.Ytdjiaooieiboaaa
open Go Go.RowKit Go.Shelf
attribute [local go_sem] Oper.semAt_some

theorem info3 : (Try.prog.info? 3).map (fun i => (i.zero, i.size, i.bytes)) = some (some (.int .i64 0), 1, 8) := by kernel_rfl

set_option maxRecDepth 100000 in
set_option maxHeartbeats 2000000 in
/-- Collect's collector: once. -/
theorem gather_in (n : Nat) (base n₁ Bl Bm : Nat) (most : Int) (pre : List Int) (x : Int) (W : World) (h1 : n₁ ≤ base) (h2 : base ≤ W.heap.size) (hp5 : pre.length < 100000)
    (hJ : JJ base Bl pre W) (hBl : n₁ ≤ Bl) (hBm : Bm < n₁) (hE : W.cell? ⟨Bm, 0, none⟩ = some (.int .i64 most)) :
    CallsIn Fence.wide n Try.prog 32 #[.int .i64 x, .pointer (some ⟨Bl, 0, none⟩), .pointer (some ⟨Bm, 0, none⟩)] W
      (YPost base n₁ Bl most.toNat (fun W => W.cell? ⟨Bm, 0, none⟩ = some (.int .i64 most)) (fun W => W.cell? ⟨Bm, 0, none⟩ = some (.int .i64 most)) (pre ++ [x]) W) := by
  obtain ⟨v, hv, hrow⟩ := hJ
  obtain ⟨i0, hi, hz0, hz1, hz2⟩ := info_parts info3
  have hc := hv.cell
  have hsz := hv.lt
  refine callsIn_of_wp Try.func32 rfl trivial ?_ rfl
  simp only [Try.ntmps32, List.size_toArray, List.length_cons, List.length_nil, Nat.reduceAdd, Nat.reduceSub, Array.replicate_succ, Array.replicate_zero, List.push_toArray, List.append_toArray, List.nil_append, List.cons_append]
  gi_wp2_with (gi_at_builtin; go_loud (refine wpListIn_append_own _ rfl _ _ 22 rfl base 3 i0 (.int .i64 0) 1 8 Try.underlying22 hi hz0 hz1 hz2 rfl (by decide) _ _ _ rfl (hrow.alloc _) ⟨W.heap.size, 0, none⟩ 1 1 [.int .i64 x] rfl rfl (cell_one_new _ _ _) (by simp [Value.oneCell']) (by simp [maxLen]; omega) (by omega) (by simp; omega) ?_; intro v' w1 hown' hgrow _; obtain ⟨g', cap', rfl⟩ := ownsRow_succ hown'; obtain ⟨hv1, hk2, hj2, hkp2, hb2⟩ := appended hv hrow h1 h2 hBl hown' hgrow; have hc1 := hv1.cell; have hf1 := hv1.frozen; have hE2 := (hb2.cell (p := ⟨Bm, 0, none⟩) hBm).trans hE))
  go_ret
  refine ⟨hj2, hkp2, hb2, ?_⟩
  have hE3 := (hb2.cell (p := ⟨Bm, 0, none⟩) hBm).trans hE
  by_cases hlt : (pre.length : Int) + 1 < most
  · exact .inl ⟨by simp; omega, by simp [hlt], hE3⟩
  · exact .inr ⟨by simp; omega, by simp [hlt], hE3⟩

theorem cell_lt {W : World} {b : Nat} {v : Value} (h : W.cell? ⟨b, 0, none⟩ = some v) : b < W.heap.size := by
  by_cases hlt : b < W.heap.size
  · exact hlt
  · simp [World.cell?, Array.getElem?_eq_none (Nat.le_of_not_lt hlt)] at h

theorem boxcell_abc {n₁ Bm : Nat} {v : Value} (hBm : Bm < n₁) : AbC n₁ (fun W : World => W.cell? ⟨Bm, 0, none⟩ = some v) :=
  fun W W' row h hg hr => (World.cell?_of_block (w := W) (hg.block Bm (cell_lt h) (fun e => by have := (hr _ e.symm).1; omega))).trans h

theorem func_not_nil (gf : Nat) (lb : Array Value) (w : World) : (binOp .eql 28 (.func (.func gf) #[] lb) .nilFunc).run Try.prog w = .ok (.bool false) w := by kernel_rfl

/-- What a list of ints says when it is handed back. -/
def IntsRet (n₀ : Nat) (w : World) (xs : List Int) : Ending → World → Prop := fun e w' =>
  ∃ v, e = .returned v ∧ w'.ownsRow n₀ 3 1 v xs.length (xs.map (Value.int .i64)) ∧ Below n₀ w w'

set_option maxRecDepth 100000 in
set_option maxHeartbeats 2000000 in
/-- Collect: the first of what is told. -/
theorem collect_in (gf : Nat) (lb : Array Value) (xs : List Int) (most : Int) (w : World) (eg : ∀ args w, (callFunc gf args).run Try.prog w = .ok (.enter gf args) w) (hT : Tells 32 Try.prog gf lb xs w) :
    CallsIn Fence.wide 9 Try.prog 25 #[.func (.func gf) #[] lb, .int .i64 most] w (IntsRet w.heap.size w (xs.take most.toNat)) := by
  refine callsIn_of_wp Try.func25 rfl trivial ?_ rfl
  simp only [Try.ntmps25, List.size_toArray, List.length_cons, List.length_nil, Nat.reduceAdd, Nat.reduceSub, Array.replicate_succ, Array.replicate_zero, List.push_toArray, List.append_toArray, List.nil_append, List.cons_append]
  have hnf := func_not_nil gf lb
  have hb0 := Boxed.new w 3 (.int .i64 most)
  have hb1 := Boxed.new (w.alloc (.cells #[.int .i64 most] 3)) 22 (.slice none 0 0)
  rw [World.size_alloc] at hb1
  have hB0 : Below (w.heap.size + 1) (w.alloc (.cells #[.int .i64 most] 3)) ((w.alloc (.cells #[.int .i64 most] 3)).alloc (.cells #[.slice none 0 0] 22)) := (Below.refl _ _).alloc (by simp) _
  have hB1 : Below w.heap.size w ((w.alloc (.cells #[.int .i64 most] 3)).alloc (.cells #[.slice none 0 0] 22)) := ((Below.refl _ w).alloc (Nat.le_refl _) _).alloc (by simp) _
  have hcm := (hb0.alloc (.cells #[.slice none 0 0] 22)).cell
  by_cases hm : most < 1
  · have hx : xs.take most.toNat = [] := by rw [show most.toNat = 0 from by omega]; simp
    rw [hx]
    gi_wp2
    go_ret
    exact ⟨_, rfl, World.ownsRow_nil _ _ _ _, hB1⟩
  · have hm1 : 1 ≤ most := by omega
    have hseq := fun n => hT n (.func (.func 32) #[] #[.pointer (some ⟨w.heap.size + 1, 0, none⟩), .pointer (some ⟨w.heap.size, 0, none⟩)]) (w.heap.size + 1) (w.heap.size + 1) most.toNat
      (fun W => W.cell? ⟨w.heap.size, 0, none⟩ = some (.int .i64 most)) (fun W => W.cell? ⟨w.heap.size, 0, none⟩ = some (.int .i64 most)) _ hB1 (by omega) (Nat.le_refl _) (boxcell_abc (by omega)) (boxcell_abc (by omega)) (by omega)
      (fun n' base pre x W h1 h2 _ h4 hJ hE => .inr ⟨_, rfl, gather_in n' base (w.heap.size + 1) (w.heap.size + 1) w.heap.size most pre x W h1 h2 h4 hJ (Nat.le_refl _) (by omega) hE⟩) hb1 hcm
    gi_wp2_with (refine ⟨trivial, (hseq _).mono ?_⟩; rintro e W2 ⟨⟨rv, rfl⟩, hJ2, hB2, hE2⟩; obtain ⟨v2, hv2, hrow2⟩ := hJ2.lower (a := w.heap.size) (by omega); have hc2 := hv2.cell)
    go_ret
    exact ⟨_, rfl, by simpa using hrow2, hB1.trans (hB2.mono (by omega))⟩

set_option maxRecDepth 100000 in
set_option maxHeartbeats 2000000 in
/-- post.List: the first of what is told. -/
theorem list_in (gf : Nat) (lb : Array Value) (xs : List Int) (most : Int) (w : World) (eg : ∀ args w, (callFunc gf args).run Try.prog w = .ok (.enter gf args) w) (hT : Tells 32 Try.prog gf lb xs w) :
    CallsIn Fence.wide 9 Try.prog 12 #[.func (.func gf) #[] lb, .int .i64 most] w (IntsRet w.heap.size w (xs.take most.toNat)) := by
  refine callsIn_of_wp_marks Try.func12 rfl trivial ?_ rfl
  simp only [Try.ntmps12, List.size_toArray, List.length_cons, List.length_nil, Nat.reduceAdd, Nat.reduceSub, Array.replicate_succ, Array.replicate_zero, List.push_toArray, List.append_toArray, List.nil_append, List.cons_append]
  have hnf := func_not_nil gf lb
  have hb0 := Boxed.new w 3 (.int .i64 most)
  have hb1 := Boxed.new (w.alloc (.cells #[.int .i64 most] 3)) 22 (.slice none 0 0)
  rw [World.size_alloc] at hb1
  have hB1 : Below w.heap.size w ((w.alloc (.cells #[.int .i64 most] 3)).alloc (.cells #[.slice none 0 0] 22)) := ((Below.refl _ w).alloc (Nat.le_refl _) _).alloc (by simp) _
  have hcm := (hb0.alloc (.cells #[.slice none 0 0] 22)).cell
  by_cases hm : most < 1
  · have hx : xs.take most.toNat = [] := by rw [show most.toNat = 0 from by omega]; simp
    rw [hx]
    gi_wp2
    refine ⟨_, results_tmp rfl _ _ _, _, rfl, World.ownsRow_nil _ _ _ _, hB1⟩
  · have hm1 : 1 ≤ most := by omega
    gi_wp2
    obtain ⟨W0, hW0⟩ : ∃ W0, (w.alloc (.cells #[.int .i64 most] 3)).alloc (.cells #[.slice none 0 0] 22) = W0 := ⟨_, rfl⟩
    rw [hW0] at hb1 hB1 hcm ⊢
    refine wpIn_rangeFunc_row (g0 := 32) (gf := gf) (lb := lb) rfl eg hT hB1 rfl (w.heap.size + 1) (w.heap.size + 1) most.toNat 0 (by omega) (Nat.le_refl _) (by omega) hb1
      (fun x => { tmps := #[.func (.func gf) #[] lb, .int .i64 most, undef, .pointer (some ⟨w.heap.size, 0, none⟩), .slice none 0 0, .pointer (some ⟨w.heap.size + 1, 0, none⟩), .int .i64 x, .func (.func gf) #[] lb, .bool false, .bool false, .int .i64 most, .bool false, .bool false, undef, .func (.func gf) #[] lb, .int .i64 x, undef, undef, undef, undef, undef, undef, undef, undef, undef], defers := [] }) ?assign ?body ?done ?stop
    case assign =>
      intro n' l x W K hK
      gi_wp2
      exact hK
    case body =>
      rintro n' l base pre x W h1 h2 hp hp5 ⟨v, hv, hrow⟩ hBW
      obtain ⟨i0, hi, hz0, hz1, hz2⟩ := info_parts info3
      have hc := hv.cell
      have hsz := hv.lt
      have hE := (hBW.cell (p := ⟨w.heap.size, 0, none⟩) (by simp)).trans hcm
      gi_wp2_with (gi_at_builtin; refine wpListIn_append_own _ rfl _ _ 22 rfl base 3 i0 (.int .i64 0) 1 8 Try.underlying22 hi hz0 hz1 hz2 rfl (by decide) _ _ _ rfl (hrow.alloc _) ⟨W.heap.size, 0, none⟩ 1 1 [.int .i64 x] rfl rfl (cell_one_new _ _ _) (by simp [Value.oneCell']) (by simp [maxLen]; omega) (by omega) (by simp; omega) ?_; intro v' w1 hown' hgrow _; obtain ⟨g', cap', rfl⟩ := ownsRow_succ hown'; obtain ⟨hv1, hk2, hj2, hkp2, hb2⟩ := appended hv hrow h1 h2 (Nat.le_refl _) hown' hgrow; have hc1 := hv1.cell; have hf1 := hv1.frozen; have hE2 := (hb2.cell (p := ⟨w.heap.size, 0, none⟩) (by simp)).trans hE)
      · have he : (pre.length : Int) + 1 = most := by first | assumption | (simp_all)
        exact ⟨rfl, hk2, hj2, hkp2, hb2, by simp; omega⟩
      · have he : ¬ (pre.length : Int) + 1 = most := by first | assumption | (simp_all)
        exact ⟨hk2, hj2, hkp2, hb2, by simp; omega⟩
    case done =>
      intro D W hD hJ hB hK
      obtain ⟨v2, hv2, hrow2⟩ := hJ.lower (a := w.heap.size) (by omega)
      have hc2 := hv2.cell
      gi_wp2
      refine ⟨by simp, .inl ⟨_, _, rfl, run_takeDeferred hK, ?_⟩⟩
      exact ⟨_, results_tmp rfl _ _ _, _, rfl, ownsRow_putObj (by simpa using hrow2) _ hK rfl, (hB1.trans (hB.mono (by omega))).trans (belowK_b (w := W0) (by have := hB1.size; omega) W D _ _ hD hK rfl rfl)⟩
    case stop =>
      intro D W hD hJ hB hK
      obtain ⟨v2, hv2, hrow2⟩ := hJ.lower (a := w.heap.size) (by omega)
      have hc2 := hv2.cell
      gi_wp2
      refine ⟨by simp, .inl ⟨_, _, rfl, run_takeDeferred hK, ?_⟩⟩
      exact ⟨_, results_tmp rfl _ _ _, _, rfl, ownsRow_putObj (by simpa using hrow2) _ hK rfl, (hB1.trans (hB.mono (by omega))).trans (belowK_b (w := W0) (by have := hB1.size; omega) W D _ _ hD hK rfl rfl)⟩

end Go.Proofs.Ytdjiaooieiboaaa
