/- Own text: the maker Most: what its own lists are. -/
import Derived.Test.YtdjiaooieiboaaaIterF
namespace Go.Proofs.Ytdjiaooieiboaaa
open Go Go.RowKit Go.Shelf Go.Proofs.YtdjiaooieiboaaaW.PrintWords Go.Proofs.Ytdjiaooieiboaaa.PAll

/-- the box Bo holds a row of lists of ints, each in a row of its own -/
def OwnLists (X : World) (base Bo : Nat) (v : Value) (vs : List Value) (ls : List (List Int)) : Prop :=
  Boxed X Bo 32 v ∧ X.ownsRow base 22 1 v vs.length vs ∧ vs.length = ls.length ∧ ∀ j, j < ls.length → X.ownsRow base 3 1 (vs.getD j undef) (ls.getD j []).length ((ls.getD j []).map (Value.int .i64))

theorem OwnLists.below {X Y : World} {base Bo : Nat} {v : Value} {vs : List Value} {ls : List (List Int)} (h : OwnLists X base Bo v vs ls) (hb : Below X.heap.size X Y) : OwnLists Y base Bo v vs ls :=
  ⟨blk_below h.1 hb, pw_own_below h.2.1 hb, h.2.2.1, fun j hj => pw_own_below (h.2.2.2 j hj) hb⟩

theorem own_apart {X : World} {base base' : Nat} {v u : Value} {n m : Nat} {xs ys : List Value} (h : X.ownsRow base 3 1 v n xs) (k : X.ownsRow base' 22 1 u m ys) : v.ownBlock = none ∨ v.ownBlock ≠ u.ownBlock := by
  rcases h.2 with ⟨rfl, _⟩ | ⟨g, cap, cur, rfl, _, hg, _⟩
  · exact .inl rfl
  · exact .inr (own_ne k hg (by decide))

/-- one more list: X: ahead of the append (the copy's slice is laid in a block of its own); Y: behind it; the store into the box. -/
theorem OwnLists.push {X Y : World} {base Bo : Nat} {v v1 vc : Value} {vs : List Value} {ls : List (List Int)} {l : List Int} (h : OwnLists X base Bo v vs ls) (hBo : Bo < base)
    (hc : X.ownsRow base 3 1 vc l.length (l.map (Value.int .i64))) (hg : X.grownBy Y v.ownBlock) (ho : Y.ownsRow base 22 1 v1 (vs ++ [vc]).length (vs ++ [vc])) :
    OwnLists (Y.setCell ⟨Bo, 0, none⟩ v1) base Bo v1 (vs ++ [vc]) (ls ++ [l]) := by
  obtain ⟨hb, hr, hlen, hin⟩ := h
  have g2 := grown_set Y Bo 0 v1
  have nb : ∀ {e : TypeId} {u : Value} {n : Nat} {xs : List Value}, Y.ownsRow base e 1 u n xs → u.ownBlock = none ∨ u.ownBlock ≠ some Bo := by
    intro e u n xs hu
    cases hv : u.ownBlock with
    | none => exact .inl rfl
    | some k => exact .inr (fun e => by cases e; have := (hu.lt _ hv).1; omega)
  have hbY : Boxed Y Bo 32 v := hb.kept hg (by
    intro e
    cases hv : v.ownBlock with
    | none => rw [hv] at e; cases e
    | some k => rw [hv] at e; cases e; have := (hr.lt _ hv).1; omega)
  have step : ∀ {u : Value} {l' : List Int}, X.ownsRow base 3 1 u l'.length (l'.map (Value.int .i64)) → (Y.setCell ⟨Bo, 0, none⟩ v1).ownsRow base 3 1 u l'.length (l'.map (Value.int .i64)) := by
    intro u l' hu
    have h1 := hu.kept hg (own_apart hu hr)
    exact h1.kept g2 (nb h1)
  refine ⟨hbY.set v1, ho.kept g2 (nb ho), by simp [hlen], fun j hj => ?_⟩
  simp at hj
  by_cases e : j < ls.length
  · have := step (hin j e)
    simpa [List.getD_eq_getElem?_getD, List.getElem?_append_left e, List.getElem?_append_left (show j < vs.length by omega)] using this
  · have ej : j = ls.length := by omega
    subst ej
    have := step hc
    simpa [List.getD_eq_getElem?_getD, ← hlen] using this

/-- .. and so the box's value reads the lists -/
theorem OwnLists.reads {X : World} {base Bo : Nat} {v : Value} {vs : List Value} {ls : List (List Int)} (h : OwnLists X base Bo v vs ls) : RL X v ls := by
  obtain ⟨_, hr, hlen, hin⟩ := h
  obtain ⟨A, c, hv, hc, hrd⟩ := own_reads_of_le (enc := fun u : Value => u) (d := undef) (by simpa [encs] using hr)
  subst hv
  refine ⟨A, c, by rw [hlen], by omega, fun i hi => ?_⟩
  obtain ⟨ad, hA, hcell⟩ := hrd.2.2 (by omega)
  exact ⟨ad, vs.getD i undef, hA, hcell i (by omega), own_RI (hin i hi)⟩
end Go.Proofs.Ytdjiaooieiboaaa
