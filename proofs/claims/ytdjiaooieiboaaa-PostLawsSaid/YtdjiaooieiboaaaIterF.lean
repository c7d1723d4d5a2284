/- Own text: the maker Less. -/
import Derived.Test.YtdjiaooieiboaaaIterE
namespace Go.Proofs.Ytdjiaooieiboaaa
open Go Go.RowKit Go.Shelf Go.Proofs.YtdjiaooieiboaaaW.PrintWords Go.Proofs.Ytdjiaooieiboaaa.PAll

/-- an iterator that tells xs -/
def IterRet (w : World) (xs : List Int) : Ending → World → Prop := fun e w' =>
  ∃ gf lb, e = .returned (.func (.func gf) #[] lb) ∧ (∀ args w, (callFunc gf args).run Try.prog w = .ok (.enter gf args) w) ∧ Tells 32 Try.prog gf lb xs w' ∧ Below w.heap.size w w'

def lessL (a b : List Int) : List Int := if rises a = true ∧ rises b = true then lessGo a b else []

theorem rises_any (w : World) (A : Option Addr) (c : Nat) (l : List Int) (hl : l.length ≤ 100000) (hc : l.length ≤ c) (hr : ReadsOf (Value.int .i64) 0 w A l.length l) :
    Calls Try.prog 20 #[.slice A l.length c] w fun e w' => e = .returned (.bool (rises l)) ∧ Drawn0 w w' :=
  post_Rises.calls (l.length + 2) A c l _ w (Kd.C_of_reads hr) hc (post_Rises.val l hl)

theorem own_RI {X : World} {base : Nat} {v : Value} {l : List Int} (h : X.ownsRow base 3 1 v l.length (l.map (Value.int .i64))) : RI X v l := by
  obtain ⟨A, c, rfl, hc, hr⟩ := own_reads_of_le (enc := Value.int .i64) (d := 0) h
  exact ⟨A, c, rfl, hc, hr⟩
theorem own_ne_below {X : World} {base p : Nat} {v : Value} {n : Nat} {xs : List Value} (h : X.ownsRow base 3 1 v n xs) (hp : p < base) : v.ownBlock = none ∨ v.ownBlock ≠ some p := by
  cases hv : v.ownBlock with
  | none => exact .inl rfl
  | some k => exact .inr (fun e => by cases e; have := (h.lt _ hv).1; omega)

theorem own_lower {X : World} {base base' : Nat} {v : Value} {n : Nat} {xs : List Value} (h : X.ownsRow base 3 1 v n xs) (hb : base' ≤ base) : X.ownsRow base' 3 1 v n xs := by
  refine ⟨h.1, ?_⟩
  rcases h.2 with hn | ⟨g, cap, cur, e, hg, rest⟩
  · exact .inl hn
  · exact .inr ⟨g, cap, cur, e, by omega, rest⟩
theorem below_sets {X w : World} (h : Below w.heap.size w X) (v v' : Value) : Below w.heap.size w ((X.setCell ⟨w.heap.size, 0, none⟩ v).setCell ⟨w.heap.size + 1, 0, none⟩ v') :=
  (h.setCell (p := ⟨w.heap.size, 0, none⟩) (Nat.le_refl _) v).setCell (p := ⟨w.heap.size + 1, 0, none⟩) (Nat.le_succ _) v'

theorem less_end (X : World) (p : Nat) (va vb sa sb : Value) (a b : List Int) (hA : Boxed X p 22 sa) (hB : Boxed X (p + 1) 22 sb) (hoa : X.ownsRow (p + 2) 3 1 va a.length (a.map (Value.int .i64))) (hob : X.ownsRow (p + 2) 3 1 vb b.length (b.map (Value.int .i64)))
    (ha : a.length ≤ 10000) (hb : b.length ≤ 10000) :
    Tells 32 Try.prog 31 #[.pointer (some ⟨p, 0, none⟩), .pointer (some ⟨p + 1, 0, none⟩)] (lessGo a b) ((X.setCell ⟨p, 0, none⟩ va).setCell ⟨p + 1, 0, none⟩ vb) := by
  have g1 := grown_set X p 0 va
  have g2 := grown_set (X.setCell ⟨p, 0, none⟩ va) (p + 1) 0 vb
  have hA1 := (hA.set va).kept g2 (by simp)
  have hB1 := (hB.kept g1 (by simp)).set vb
  have oa := (hoa.kept g1 (own_ne_below hoa (by omega))).kept g2 (own_ne_below hoa (by omega))
  have ob := (hob.kept g1 (own_ne_below hob (by omega))).kept g2 (own_ne_below hob (by omega))
  exact less_tells p (p + 1) va vb a b _ ha hb hA1.cell hB1.cell (own_RI oa) (own_RI ob)

set_option maxRecDepth 100000 in
set_option maxHeartbeats 4000000 in
theorem less_any (w : World) (A A' : Option Addr) (c c' : Nat) (a b : List Int) (ha : a.length ≤ 10000) (hb : b.length ≤ 10000) (hc : a.length ≤ c) (hc' : b.length ≤ c') (hra : ReadsOf (Value.int .i64) 0 w A a.length a) (hrb : ReadsOf (Value.int .i64) 0 w A' b.length b) :
    Calls Try.prog 22 #[.slice A a.length c, .slice A' b.length c'] w (IterRet w (lessL a b)) := by
  have hr1 := fun W (hB : Below w.heap.size w W) => rises_any W A c a (by omega) hc (hra.below hB)
  have hr2 := fun W (hB : Below w.heap.size w W) => rises_any W A' c' b (by omega) hc' (hrb.below hB)
  have hB0 : Below w.heap.size w ((w.alloc (.cells #[.slice A a.length c] 22)).alloc (.cells #[.slice A' b.length c'] 22)) := ((Below.refl _ w).alloc (Nat.le_refl _) _).alloc (by simp) _
  go_enter Try.func22, Try.ntmps22
  cases h1 : rises a with
  | false =>
    have hx : lessL a b = [] := by simp [lessL, h1]
    rw [hx]
    rw [h1] at hr1
    go_wp2_with (go_at_call 20; (with_reducible refine (hr1 _ hB0).mono ?_); rintro e wd ⟨rfl, ⟨⟨nd, rfl⟩⟩⟩)
    go_ret
    exact ⟨26, #[], rfl, enters_of Try.func26 (by kernel_rfl) rfl, nothing_tells _, pw_below_drewN hB0 _⟩
  | true =>
    rw [h1] at hr1
    cases h2 : rises b with
    | false =>
      have hx : lessL a b = [] := by simp [lessL, h2]
      rw [hx]
      rw [h2] at hr2
      go_wp2_with (first | (go_at_call 20; (with_reducible refine (hr1 _ hB0).mono ?_); rintro e wd ⟨rfl, ⟨⟨nd, rfl⟩⟩⟩; have hB1 := pw_below_drewN hB0 nd) | (go_at_call 20; (with_reducible refine (hr2 _ hB1).mono ?_); rintro e wd ⟨rfl, ⟨⟨nd2, rfl⟩⟩⟩))
      go_ret
      exact ⟨26, #[], rfl, enters_of Try.func26 (by kernel_rfl) rfl, nothing_tells _, pw_below_drewN hB0 _⟩
    | true =>
      rw [h2] at hr2
      have hx : lessL a b = lessGo a b := by simp [lessL, h1, h2]
      rw [hx]
      go_wp2_with (first | (go_at_call 20; (with_reducible refine (hr1 _ hB0).mono ?_); rintro e wd ⟨rfl, ⟨⟨nd, rfl⟩⟩⟩; have hB1 := pw_below_drewN hB0 nd) | (go_at_call 20; (with_reducible refine (hr2 _ hB1).mono ?_); rintro e wd ⟨rfl, ⟨⟨nd2, rfl⟩⟩⟩; have hB2 := pw_below_drewN hB1 nd2))
      obtain ⟨W2, e2⟩ : ∃ W2, ((w.alloc (.cells #[.slice A a.length c] 22)).alloc (.cells #[.slice A' b.length c'] 22)).drewN (nd + nd2) = W2 := ⟨_, rfl⟩
      have hBw : Below w.heap.size w W2 := by rw [← e2]; exact pw_below_drewN hB0 _
      have bA : Boxed W2 w.heap.size 22 (.slice A a.length c) := by rw [← e2]; exact blk_drewN ((Boxed.new w 22 (.slice A a.length c)).alloc _) _
      have bB : Boxed W2 (w.heap.size + 1) 22 (.slice A' b.length c') := by
        have := Boxed.new (w.alloc (.cells #[.slice A a.length c] 22)) 22 (.slice A' b.length c')
        rw [World.size_alloc] at this
        rw [← e2]; exact blk_drewN this _
      rw [e2]
      clear e2 hB0 hB1 hB2 hr1 hr2
      have cA := bA.cell
      have cB := bB.cell
      have fA := bA.frozen
      have fB := bB.frozen
      have kA := fun W (hB : Below W2.heap.size W2 W) => callsIn_wide.1 (copy27_in W A c a (by omega) (hra.below (hBw.trans (hB.mono hBw.size))))
      have kB := fun W (hB : Below W2.heap.size W2 W) => callsIn_wide.1 (copy27_in W A' c' b (by omega) (hrb.below (hBw.trans (hB.mono hBw.size))))
      go_region_with (first | (go_at_call 27; (with_reducible refine (kA _ ?hq).mono ?_); (case hq => (repeat apply Below.drew); first | exact Below.refl _ _ | assumption); rintro e wa ⟨va, rfl, hoa, hBa⟩; obtain ⟨Aa, ca, rfl, hca, hRa⟩ := own_reads_of_le (enc := Value.int .i64) (d := 0) hoa; have hQa : Below W2.heap.size W2 wa := below_step (by (repeat apply Below.drew); first | exact Below.refl _ _ | assumption) hBa; have bAa : Boxed wa w.heap.size 22 _ := blk_below bA hQa; have bBa : Boxed wa (w.heap.size + 1) 22 _ := blk_below bB hQa; have x1 := bAa.cell; have x2 := bBa.cell; have x3 := bAa.frozen; have x4 := bBa.frozen) | (go_at_call 27; (with_reducible refine (kB _ ?hq).mono ?_); (case hq => (repeat apply Below.drew); first | exact Below.refl _ _ | assumption); rintro e wb ⟨vb, rfl, hob, hBb⟩; obtain ⟨Ab, cb, rfl, hcb, hRb⟩ := own_reads_of_le (enc := Value.int .i64) (d := 0) hob; have hQb : Below W2.heap.size W2 wb := below_step (by (repeat apply Below.drew); first | exact Below.refl _ _ | assumption) hBb; have bAb : Boxed wb w.heap.size 22 _ := blk_below bA hQb; have bBb : Boxed wb (w.heap.size + 1) 22 _ := blk_below bB hQb; have y1 := bAb.cell; have y2 := bBb.cell; have y3 := bAb.frozen; have y4 := bBb.frozen))
      all_goals
        have hs2 : w.heap.size + 2 ≤ W2.heap.size := bB.lt
        go_wp2
        go_ret
      all_goals first
        | (refine ⟨31, _, rfl, enters_of Try.func31 (by kernel_rfl) rfl, less_end wb w.heap.size _ _ _ _ a b bAb bBb (own_lower (pw_own_below hoa (below_step (by (repeat apply Below.drew); exact Below.refl _ _) hBb)) (by first | (have := hQa.size; simp; omega) | (simp; omega))) (own_lower hob (by have := hQa.size; simp; omega)) ha hb, below_sets (below_step hBw hQb) _ _⟩)
        | (refine ⟨31, _, rfl, enters_of Try.func31 (by kernel_rfl) rfl, less_end wa w.heap.size _ _ _ _ a b bAa bBa (own_lower hoa (by have := hQb.size; simp; omega)) (own_lower (pw_own_below hob (below_step (by (repeat apply Below.drew); exact Below.refl _ _) hBa)) (by first | (have := hQb.size; simp; omega) | (simp; omega))) ha hb, below_sets (below_step hBw hQa) _ _⟩)

end Go.Proofs.Ytdjiaooieiboaaa
