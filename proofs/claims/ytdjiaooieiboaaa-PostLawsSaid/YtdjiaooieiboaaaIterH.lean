/- Own text: the maker Most: its walk. -/
import Derived.Test.YtdjiaooieiboaaaIterG
import Derived.Test.YtdjiaooieiboaaaOrd
namespace Go.Proofs.Ytdjiaooieiboaaa
open Go Go.RowKit Go.Shelf Go.Proofs.YtdjiaooieiboaaaW.PrintWords Go.Proofs.Ytdjiaooieiboaaa.PAll

theorem info22 : (Try.prog.info? 22).map (fun i => (i.zero, i.size, i.bytes)) = some (some (.slice none 0 0), 1, 24) := by kernel_rfl

/-- all of them rise -/
def allRise (ls : List (List Int)) : Bool := ls.all rises
def mostL (ls : List (List Int)) (k : Int) : List Int := if allRise ls = true ∧ 1 ≤ k then mostGo ls k else []

/-- what is kept while one more list is copied -/
def K7 (w : World) (v : Value) (vs : List Value) (ls : List (List Int)) (kk : Int) (X : World) : Prop :=
  OwnLists X (w.heap.size + 2) (w.heap.size + 1) v vs ls ∧ Boxed X w.heap.size 3 (.int .i64 kk) ∧ Below w.heap.size w X ∧ w.heap.size + 2 ≤ X.heap.size
theorem K7.below {w X Y : World} {v : Value} {vs : List Value} {ls : List (List Int)} {kk : Int} (h : K7 w v vs ls kk X) (hb : Below X.heap.size X Y) : K7 w v vs ls kk Y :=
  ⟨h.1.below hb, blk_below h.2.1 hb, below_step h.2.2.1 hb, Nat.le_trans h.2.2.2 hb.size⟩
theorem K7.drew {w X : World} {v : Value} {vs : List Value} {ls : List (List Int)} {kk : Int} (h : K7 w v vs ls kk X) : K7 w v vs ls kk X.drew := h.below (Below.refl _ _).drew
theorem K7.alloc {w X : World} {v : Value} {vs : List Value} {ls : List (List Int)} {kk : Int} (h : K7 w v vs ls kk X) (o : Obj) : K7 w v vs ls kk (X.alloc o) := h.below ((Below.refl _ _).alloc (Nat.le_refl _) o)
theorem K7.cell {w X : World} {v : Value} {vs : List Value} {ls : List (List Int)} {kk : Int} (h : K7 w v vs ls kk X) : X.cell? ⟨w.heap.size + 1, 0, none⟩ = some v := h.1.1.cell
theorem K7.under {w X : World} {v : Value} {vs : List Value} {ls : List (List Int)} {kk : Int} (h : K7 w v vs ls kk X) : Below w.heap.size w X := h.2.2.1
theorem K7.grown {w X Y : World} {v : Value} {vs : List Value} {ls : List (List Int)} {kk : Int} (h : K7 w v vs ls kk X) (hg : X.grownBy Y v.ownBlock) : Boxed Y (w.heap.size + 1) 32 v := by
  refine h.1.1.kept hg ?_
  intro e
  cases hv : v.ownBlock with
  | none => rw [hv] at e; cases e
  | some k => rw [hv] at e; cases e; have := (h.1.2.1.lt _ hv).1; omega
theorem K7.push {w X Y : World} {v v1 vc : Value} {vs : List Value} {ls : List (List Int)} {kk : Int} {l : List Int} (h : K7 w v vs ls kk X) (hc : X.ownsRow (w.heap.size + 2) 3 1 vc l.length (l.map (Value.int .i64)))
    (hg : X.grownBy Y v.ownBlock) (ho : Y.ownsRow (w.heap.size + 2) 22 1 v1 (vs.length + 1) (vs ++ [vc])) : K7 w v1 (vs ++ [vc]) (ls ++ [l]) kk (Y.setCell ⟨w.heap.size + 1, 0, none⟩ v1) := by
  have hr : ∀ k, v.ownBlock = some k → w.heap.size + 2 ≤ k := fun k hk => (h.1.2.1.lt _ hk).1
  refine ⟨h.1.push (by omega) hc hg (by simpa using ho), ?_, ?_, ?_⟩
  · exact (h.2.1.kept hg (fun e => by have := hr _ e.symm; omega)).kept (grown_set _ _ _ _) (by simp)
  · exact (h.2.2.1.grown hg (by have := h.2.2.2; omega) (fun k e => by have := hr k e; omega)).setCell (by simp) _
  · have := hg.size; have := h.2.2.2; simp; omega
theorem copied7 {w X : World} (v : Value) (vs : List Value) (ls : List (List Int)) (kk : Int) {f : FuncId} {args : Array Value} {l : List Int} (c : ∀ W : World, Below w.heap.size w W → Calls Try.prog f args W (IntsRet W.heap.size W l)) (h : X.cell? ⟨w.heap.size + 1, 0, none⟩ = some v ∧ K7 w v vs ls kk X) :
    Calls Try.prog f args X fun e Y => ∃ Aa ca, e = .returned (.slice Aa l.length ca) ∧ Y.ownsRow (w.heap.size + 2) 3 1 (.slice Aa l.length ca) l.length (l.map (Value.int .i64)) ∧ (Y.cell? ⟨w.heap.size + 1, 0, none⟩ = some v ∧ K7 w v vs ls kk Y) :=
  (c X h.2.under).mono fun _ _ ⟨va, he, ho, hb⟩ => by
    obtain ⟨Aa, ca, rfl, hca, hRa⟩ := own_reads_of_le (enc := Value.int .i64) (d := 0) ho
    exact ⟨Aa, ca, he, own_lower ho h.2.2.2.2, (h.2.below hb).cell, h.2.below hb⟩

set_option maxRecDepth 100000 in
set_option maxHeartbeats 4000000 in
theorem most_any (w : World) (A : Option Addr) (c : Nat) (ls : List (List Int)) (kk : Int) (hL : ls.length ≤ 1000) (ht : tot ls (fun _ => 0) ls.length ≤ 90000) (hle : ∀ i, i < ls.length → (ls.getD i []).length ≤ 10000) (hr : RL w (.slice A ls.length c) ls) :
    Calls Try.prog 17 #[.slice A ls.length c, .int .i64 kk] w (IterRet w (mostL ls kk)) := by
  obtain ⟨A', c', e, hlc, hrd⟩ := hr
  cases e
  go_enter Try.func17, Try.ntmps17
  go_wp2
  have hb0 := Boxed.new w 3 (.int .i64 kk)
  have hb1 := Boxed.new (w.alloc (.cells #[.int .i64 kk] 3)) 32 (.slice none 0 0)
  rw [World.size_alloc] at hb1
  have hB0 : Below w.heap.size w ((w.alloc (.cells #[.int .i64 kk] 3)).alloc (.cells #[.slice none 0 0] 32)) := ((Below.refl _ w).alloc (Nat.le_refl _) _).alloc (by simp) _
  have hbk := hb0.alloc (.cells #[.slice none 0 0] 32)
  have hs0 : ((w.alloc (.cells #[.int .i64 kk] 3)).alloc (.cells #[.slice none 0 0] 32)).heap.size = w.heap.size + 2 := by simp
  obtain ⟨W0, e0⟩ : ∃ W0, (w.alloc (.cells #[.int .i64 kk] 3)).alloc (.cells #[.slice none 0 0] 32) = W0 := ⟨_, rfl⟩
  rw [e0] at hb1 hB0 hbk hs0 ⊢
  clear hb0
  go_loopw [10] (fun i wr => ∃ (p : Nat) (v : Value) (vs : List Value), i = .int .i64 p ∧ p ≤ ls.length ∧ (∀ j, j < p → rises (ls.getD j []) = true) ∧ OwnLists wr (w.heap.size + 2) (w.heap.size + 1) v vs (ls.take p) ∧ Boxed wr w.heap.size 3 (.int .i64 kk) ∧ Below w.heap.size w wr ∧ w.heap.size + 2 ≤ wr.heap.size)
    (fun i _ => ls.length - (intOf i).toNat)
  case atStart => exact ⟨0, .slice none 0 0, [], rfl, Nat.zero_le _, fun j h => by omega, ⟨hb1, World.ownsRow_nil _ _ _ _, by simp, fun j h => by simp at h⟩, hbk, hB0, by omega⟩
  case round =>
    obtain ⟨p, v, vs, rfl, hp, hrise, hOL, hbk, hB, hsz⟩ := hrel
    by_cases hlt : p < ls.length
    · obtain ⟨ad, vi, rfl, hcv, A2, c2, rfl, hlc2, hri⟩ := hrd p hlt
      have hcv := pw_cell_below hB hcv
      have hpl := hle p hlt
      obtain ⟨l, el⟩ : ∃ l, ls.getD p [] = l := ⟨_, rfl⟩
      rw [el] at hcv hlc2 hri hpl
      have El := Lib.hid el
      clear el
      have hr1 := fun W (hB : Below w.heap.size w W) => rises_any W A2 c2 l (by omega) hlc2 (hri.below hB)
      cases h1 : rises l with
      | false =>
        rw [h1] at hr1
        have hx : mostL ls kk = [] := by
          have : allRise ls = false := by
            rw [← Bool.not_eq_true]; intro h
            have := (List.all_eq_true.1 h) (ls.getD p []) (by simp [List.getD_eq_getElem?_getD, hlt])
            rw [El.out, h1] at this; cases this
          simp [mostL, this]
        rw [hx]
        go_wp2_with (go_at_call 20; (with_reducible refine (hr1 _ hB).mono ?_); rintro e wd ⟨rfl, ⟨⟨nd, rfl⟩⟩⟩)
        go_ret
        exact ⟨26, #[], rfl, enters_of Try.func26 (by kernel_rfl) rfl, nothing_tells _, pw_below_drewN hB _⟩
      | true =>
        rw [h1] at hr1
        go_wp2_with (go_at_call 20; (with_reducible refine (hr1 _ hB).mono ?_); rintro e wd ⟨rfl, ⟨⟨nd, rfl⟩⟩⟩)
        have hOL2 := hOL.below (pw_below_drewN (Below.refl wr.heap.size wr) nd)
        have hbk2 := blk_drewN hbk nd
        have hB2 := pw_below_drewN hB nd
        have hsz2 : w.heap.size + 2 ≤ (wr.drewN nd).heap.size := hsz
        obtain ⟨W2, e2⟩ : ∃ W2, wr.drewN nd = W2 := ⟨_, rfl⟩
        rw [e2] at hOL2 hbk2 hB2 hsz2 ⊢
        clear e2 hr1 hOL hbk
        have kA := fun W (hB : Below w.heap.size w W) => callsIn_wide.1 (copy27_in W A2 c2 l (by omega) (hri.below hB))
        have hK7 : K7 w v vs (ls.take p) kk W2 := ⟨hOL2, hbk2, hB2, hsz2⟩
        have x1 := hK7.cell
        have hlen : vs.length ≤ 1000 := by have := hOL2.2.2.1; rw [this]; simp; omega
        have x1d := hK7.drew.cell
        refine wp_region_orders [[0, 1, 2, 3, 4, 5], [1, 0, 2, 3, 4, 5], [1, 2, 0, 3, 4, 5], [1, 2, 3, 0, 4, 5]] rfl (by kernel_rfl) ?_
        refine ⟨?_, ?_, ?_, ?_, trivial⟩
        all_goals
          simp only [opsAt, List.filterMap, List.getElem?_toArray, List.getElem?_cons_zero, List.getElem?_cons_succ]
          go_wp2_with (first | (go_at_call 27; (with_reducible refine (copied7 v vs (ls.take p) kk kA ⟨hK7.drew.cell, hK7.drew⟩).mono ?_); rintro e wa ⟨Aa, ca, rfl, hoa, hca, hKa⟩; have hca2 := fun o => (hKa.alloc o).cell) | (at_builtin; refine print_append (w0 := wa) (W := wa) (w.heap.size + 2) rfl _ _ 32 22 (.slice none 0 0) 24 rfl Try.underlying32 info22 rfl (by decide) v vs _ rfl rfl rfl hKa.1.2.1 (Below.refl _ _) hKa.2.2.2 (by omega) ?_; intro v1 w1 hown1 hB1 hg1 _; have hcb := (hKa.grown hg1).cell; have hcf := (hKa.grown hg1).frozen; have hpush := Lib.hid (hKa.push hoa hg1 (by simpa using hown1)); obtain ⟨g', cap', rfl⟩ := ownsRow_succ (by simpa using hown1)))
        all_goals
          have hstep : ls.take (p + 1) = ls.take p ++ [l] := by
            rw [List.take_succ_eq_append_getElem hlt]; simp [← El.out, List.getD_eq_getElem?_getD, hlt]
          have Hstep := Lib.hid hstep
          clear hstep
          go_roundw
          case rel =>
            have hp7 := hpush.out
            rw [← Hstep.out] at hp7
            refine ⟨p + 1, _, _, by go_num, by omega, ?_, hp7⟩
            intro j hj
            by_cases e : j = p
            · subst e; rw [El.out]; exact h1
            · exact hrise j (by omega)
          case measure => simp [intOf]; omega
    · obtain rfl : p = ls.length := by omega
      have har : allRise ls = true := List.all_eq_true.2 (fun l hl => by
        obtain ⟨i, hi, e⟩ := List.getElem_of_mem hl
        have := hrise i hi
        simpa [List.getD_eq_getElem?_getD, hi, e] using this)
      rw [List.take_length] at hOL
      have ck := hbk.cell
      by_cases hk : 1 ≤ kk
      · have hx : mostL ls kk = mostGo ls kk := by simp [mostL, har, hk]
        go_wp2
        go_ret
        exact ⟨28, _, rfl, enters_of Try.func28 (by kernel_rfl) rfl, by rw [hx]; exact most_tells (w.heap.size + 1) w.heap.size v ls kk _ hL ht hle hOL.1.cell ck hOL.reads, hB⟩
      · have hx : mostL ls kk = [] := by simp [mostL, har, hk]
        go_wp2
        go_ret
        exact ⟨26, #[], rfl, enters_of Try.func26 (by kernel_rfl) rfl, nothing_tells _, hB⟩
end Go.Proofs.Ytdjiaooieiboaaa
