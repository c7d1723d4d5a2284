/- Own text: lists: at most ten of at most 100, in new memory. -/
import Derived.Test.YtdjiaooieiboaaaIterI
namespace Go.Proofs.Ytdjiaooieiboaaa
open Go Go.RowKit Go.Shelf Go.Proofs.YtdjiaooieiboaaaW.PrintWords Go.Proofs.Ytdjiaooieiboaaa.PAll

/-- a row of lists of ints, each in a row of its own -/
def OwnL (X : World) (base : Nat) (v : Value) (vs : List Value) (ls : List (List Int)) : Prop :=
  X.ownsRow base 22 1 v vs.length vs ∧ vs.length = ls.length ∧ ∀ j, j < ls.length → X.ownsRow base 3 1 (vs.getD j undef) (ls.getD j []).length ((ls.getD j []).map (Value.int .i64))
theorem OwnL.below {X Y : World} {base : Nat} {v : Value} {vs : List Value} {ls : List (List Int)} (h : OwnL X base v vs ls) (hb : Below X.heap.size X Y) : OwnL Y base v vs ls :=
  ⟨pw_own_below h.1 hb, h.2.1, fun j hj => pw_own_below (h.2.2 j hj) hb⟩
theorem OwnL.push {X Y : World} {base : Nat} {v v1 vc : Value} {vs : List Value} {ls : List (List Int)} {l : List Int} (h : OwnL X base v vs ls)
    (hc : X.ownsRow base 3 1 vc l.length (l.map (Value.int .i64))) (hg : X.grownBy Y v.ownBlock) (ho : Y.ownsRow base 22 1 v1 (vs ++ [vc]).length (vs ++ [vc])) : OwnL Y base v1 (vs ++ [vc]) (ls ++ [l]) := by
  obtain ⟨hr, hlen, hin⟩ := h
  have step : ∀ {u : Value} {l' : List Int}, X.ownsRow base 3 1 u l'.length (l'.map (Value.int .i64)) → Y.ownsRow base 3 1 u l'.length (l'.map (Value.int .i64)) := fun hu => hu.kept hg (own_apart hu hr)
  refine ⟨ho, by simp [hlen], fun j hj => ?_⟩
  simp at hj
  by_cases e : j < ls.length
  · have := step (hin j e)
    simpa [List.getD_eq_getElem?_getD, List.getElem?_append_left e, List.getElem?_append_left (show j < vs.length by omega)] using this
  · have ej : j = ls.length := by omega
    subst ej
    have := step hc
    simpa [List.getD_eq_getElem?_getD, ← hlen] using this
theorem OwnL.reads {X : World} {base : Nat} {v : Value} {vs : List Value} {ls : List (List Int)} (h : OwnL X base v vs ls) : RL X v ls := by
  obtain ⟨hr, hlen, hin⟩ := h
  obtain ⟨A, c, hv, hc, hrd⟩ := own_reads_of_le (enc := fun u : Value => u) (d := undef) (by simpa [encs] using hr)
  subst hv
  refine ⟨A, c, by rw [hlen], by omega, fun i hi => ?_⟩
  obtain ⟨ad, hA, hcell⟩ := hrd.2.2 (by omega)
  exact ⟨ad, vs.getD i undef, hA, hcell i (by omega), own_RI (hin i hi)⟩

def okL (ls : List (List Int)) : Prop := ls.length ≤ 10 ∧ ∀ l ∈ ls, l.length ≤ 100

/-- what lists hands back -/
def ListsRet (w : World) (ls : List (List Int)) (e : Ending) (w' : World) : Prop :=
  (okL ls ∧ ∃ A c, e = .returned (.tuple #[.slice A ls.length c, .bool true]) ∧ RL w' (.slice A ls.length c) ls ∧ Below w.heap.size w w') ∨
  (¬ okL ls ∧ e = .returned (.tuple #[.slice none 0 0, .bool false]) ∧ Below w.heap.size w w')

theorem copied15 {W : World} (base : Nat) (v : Value) (vs : List Value) (ls : List (List Int)) {A : Option Addr} {c : Nat} {l : List Int} (hb : base ≤ W.heap.size) (hl : l.length ≤ 100000) (hs : SL W A c l) (h : OwnL W base v vs ls) :
    Calls Try.prog 14 #[.slice A l.length c] W fun e Y => ∃ Aa ca, e = .returned (.slice Aa l.length ca) ∧ Y.ownsRow base 3 1 (.slice Aa l.length ca) l.length (l.map (Value.int .i64)) ∧ OwnL Y base v vs ls ∧ Below W.heap.size W Y :=
  (callsIn_wide.1 (copy14_in W A c l hl hs.2)).mono fun _ _ ⟨va, he, ho, hb2⟩ => by
    obtain ⟨Aa, ca, rfl, hca, hRa⟩ := own_reads_of_le (enc := Value.int .i64) (d := 0) ho
    exact ⟨Aa, ca, he, own_lower ho hb, h.below hb2, hb2⟩

set_option maxRecDepth 100000 in
set_option maxHeartbeats 4000000 in
theorem lists15 (w : World) (A : Option Addr) (c : Nat) (ls : List (List Int)) (hL : ls.length ≤ 9223372036854775807) (hr : RL w (.slice A ls.length c) ls) (hlen : ∀ l ∈ ls, l.length ≤ 9223372036854775807) :
    Calls Try.prog 15 #[.slice A ls.length c] w (ListsRet w ls) := by
  obtain ⟨A', c', e, hlc, hrd⟩ := hr
  cases e
  go_enter Try.func15, Try.ntmps15
  go_wp2
  go_loopw [4, 5] (fun m i wr => ∃ (p : Nat) (vs : List Value), i = .int .i64 p ∧ p ≤ ls.length ∧ p ≤ 10 ∧ (∀ l ∈ ls.take p, l.length ≤ 100) ∧ OwnL wr w.heap.size m vs (ls.take p) ∧ Below w.heap.size w wr)
    (fun _ i _ => ls.length - (intOf i).toNat)
  case atStart => exact ⟨0, [], rfl, Nat.zero_le _, by omega, by simp, ⟨World.ownsRow_nil _ _ _ _, by simp, fun j h => by simp at h⟩, Below.refl _ _⟩
  case round =>
    obtain ⟨p, vs, rfl, hp, hp10, hl100, hOL, hB⟩ := hrel
    by_cases hlt : p < ls.length
    · obtain ⟨ad, vi, rfl, hcv, A2, c2, rfl, hlc2, hri⟩ := hrd p hlt
      have hcv := pw_cell_below hB hcv
      have hmem : ls.getD p [] ∈ ls := by simp [List.getD_eq_getElem?_getD, hlt]
      have hpl := hlen _ hmem
      obtain ⟨l, el⟩ : ∃ l, ls.getD p [] = l := ⟨_, rfl⟩
      rw [el] at hcv hlc2 hri hpl hmem
      have El := Lib.hid el
      have hvn := hOL.2.1
      have hvl : vs.length ≤ 10 := by rw [hvn, List.length_take]; omega
      obtain ⟨Am, cm, hmv, -⟩ := hOL.reads
      rw [List.length_take, Nat.min_eq_left hp] at hmv
      clear el hvn
      have hsz : w.heap.size ≤ wr.heap.size := hB.size
      by_cases h10 : p < 10
      · by_cases h100 : l.length ≤ 100
        · have hcall := copied15 (W := wr) w.heap.size u4 vs (ls.take p) hsz (by omega) ⟨hlc2, hri.below hB⟩ hOL
          subst hmv
          go_wp2_with (first | (go_at_call 14; (with_reducible refine hcall.mono ?_); rintro e wa ⟨Aa, ca, rfl, hoa, hOa, hBa⟩) | (at_builtin; refine print_append (w0 := wa) (W := wa) w.heap.size rfl _ _ 32 22 (.slice none 0 0) 24 rfl Try.underlying32 info22 rfl (by decide) (.slice Am p cm) vs _ rfl rfl rfl hOa.1 (Below.refl _ _) (by have := hBa.size; omega) (by omega) ?_; intro v1 w1 hown1 hB1 hg1 _; have hpush := Lib.hid (hOa.push hoa hg1 hown1); clear hown1 hOa hoa))
          have hstep : ls.take (p + 1) = ls.take p ++ [l] := by
            rw [List.take_succ_eq_append_getElem hlt]; simp [← El.out, List.getD_eq_getElem?_getD, hlt]
          have Hstep := Lib.hid hstep
          clear hstep
          go_roundw
          case rel =>
            have hp7 := hpush.out
            rw [← Hstep.out] at hp7
            refine ⟨p + 1, _, by go_num, by omega, by omega, ?_, hp7, (below_step hB hBa).grown hg1 (by have := hBa.size; omega) ?_⟩
            · intro x hx
              rw [Hstep.out] at hx
              rcases List.mem_append.1 hx with hx | hx
              · exact hl100 x hx
              · rw [List.mem_singleton.1 hx]; exact h100
            · intro k hk
              exact own_base hOL.1 k hk
          case measure => simp [intOf]; omega
        · go_wp2
          go_ret2
          exact .inr ⟨fun h => h100 (h.2 _ hmem), rfl, hB⟩
      · have hp1 : p = 10 := by omega
        subst hp1
        go_wp2
        go_ret2
        exact .inr ⟨fun h => by have := h.1; omega, rfl, hB⟩
    · obtain rfl : p = ls.length := by omega
      rw [List.take_length] at hOL hl100
      obtain ⟨Am, cm, rfl, hrd2⟩ := hOL.reads
      have hfin : RL wr (.slice Am ls.length cm) ls := hOL.reads
      go_wp2
      go_ret2
      exact .inl ⟨⟨hp10, hl100⟩, _, _, rfl, hfin, hB⟩
theorem lists_ok (w : World) (A : Option Addr) (c : Nat) (ls : List (List Int)) (h : okL ls) (hr : RL w (.slice A ls.length c) ls) :
    Calls Try.prog 15 #[.slice A ls.length c] w fun e w' => ∃ A c, e = .returned (.tuple #[.slice A ls.length c, .bool true]) ∧ RL w' (.slice A ls.length c) ls ∧ Below w.heap.size w w' :=
  (lists15 w A c ls (by have := h.1; omega) hr (fun l hl => by have := h.2 l hl; omega)).mono fun e w' hh => by
    rcases hh with ⟨_, hh⟩ | ⟨hn, _⟩
    · exact hh
    · exact absurd h hn
theorem lists_no (w : World) (A : Option Addr) (c : Nat) (ls : List (List Int)) (h : ¬ okL ls) (hL : ls.length ≤ 9223372036854775807) (hlen : ∀ l ∈ ls, l.length ≤ 9223372036854775807) (hr : RL w (.slice A ls.length c) ls) :
    Calls Try.prog 15 #[.slice A ls.length c] w fun e w' => e = .returned (.tuple #[.slice none 0 0, .bool false]) ∧ Below w.heap.size w w' :=
  (lists15 w A c ls hL hr hlen).mono fun e w' hh => by
    rcases hh with ⟨hn, _⟩ | ⟨_, hh⟩
    · exact absurd hn h
    · exact hh
end Go.Proofs.Ytdjiaooieiboaaa
