/- Own text: a list with itself. -/
import Derived.Test.YtdjiaooieiboaaaFacts
import Derived.Test.YtdjiaooieiboaaaAwake
namespace Go.Proofs.Ytdjiaooieiboaaa
open Go Go.RowKit Go.Shelf Go.Proofs.YtdjiaooieiboaaaW.PrintWords Go.Proofs.Ytdjiaooieiboaaa.PAll
set_option maxRecDepth 100000 in
set_option maxHeartbeats 8000000 in
theorem postSelf_walk (Al : Option Addr) (cl : Nat) (l : List Int) (w : World) (hl : SL w Al cl l) (ml : l.length ≤ 9223372036854775807) :
    Calls Try.prog 8 #[.slice Al l.length cl] w fun e w' => e = .returned (.bool true) ∧ Below w.heap.size w w' := by
  go_enter Try.func8, Try.ntmps8
  by_cases hll : 100 < l.length
  · go_wp2_with fail
    (with_reducible refine (awake10 w).mono ?_)
    rintro e w1 ⟨rfl, b1⟩
    go_wp2_with fail
    go_ret
    exact ⟨rfl, b1⟩
  cases hql : rises l with
  | false =>
    have hrl := Lib.hid hql
    clear hql
    go_wp2_with fail
    (with_reducible refine (rises9' w Al cl l false hrl.out (by omega) hl).mono ?_)
    rintro e w1 ⟨rfl, b1⟩
    go_wp2_with fail
    (with_reducible refine (awake10 w1).mono ?_)
    rintro e w2 ⟨rfl, b2⟩
    go_wp2_with fail
    go_ret
    exact ⟨rfl, (below_step b1 b2)⟩
  | true =>
    have hrl := Lib.hid hql
    clear hql
    have ul := Lib.hid ((up_iff l).1 hrl.out)
    have H1 := Lib.hid (and_self ul.out)
    have H2 := Lib.hid (or_self3 ul.out)
    have H3 := Lib.hid (less_self ul.out)
    have H4 := Lib.hid (less_nil ul.out)
    go_wp2_with fail
    (with_reducible refine (rises9' w Al cl l true hrl.out (by omega) hl).mono ?_)
    rintro e w1 ⟨rfl, b1⟩
    go_wp2_with fail
    (with_reducible refine (ints14 w1 Al cl l (by omega) (hl.below b1)).mono ?_)
    rintro e w2 ⟨A2, c2, rfl, h2, b2⟩
    go_wp2_with fail
    (with_reducible refine (and21' w2 A2 A2 c2 c2 l l l H1.out (by first | omega | simp) (by first | omega | simp) h2 h2).mono ?_)
    rintro e w3 ⟨g3, lb3, rfl, t3, b3⟩
    go_wp2_with fail
    (with_reducible refine (list12' w3 g3 lb3 l 1000 (by omega) t3).mono ?_)
    rintro e w4 ⟨A4, c4, rfl, h4, b4⟩
    go_wp2_with fail
    (with_reducible refine (same11' w4 A4 Al c4 cl l l rfl (by omega) h4 (hl.below (below_step (below_step (below_step b1 b2) b3) b4))).mono ?_)
    rintro e w5 ⟨rfl, b5⟩
    go_wp2_with fail
    (with_reducible refine (or_lit3 w5 A2 A2 A2 c2 c2 c2 l l l l H2.out (by omega) (by omega) (by omega) (h2.below (below_step (below_step b3 b4) b5)) (h2.below (below_step (below_step b3 b4) b5)) (h2.below (below_step (below_step b3 b4) b5))).mono ?_)
    rintro e w6 ⟨g6, lb6, rfl, t6, b6⟩
    go_wp2_with fail
    (with_reducible refine (list12' w6 g6 lb6 l 1000 (by omega) t6).mono ?_)
    rintro e w7 ⟨A7, c7, rfl, h7, b7⟩
    go_wp2_with fail
    (with_reducible refine (same11' w7 A7 Al c7 cl l l rfl (by omega) h7 (hl.below (below_step (below_step (below_step (below_step (below_step (below_step b1 b2) b3) b4) b5) b6) b7))).mono ?_)
    rintro e w8 ⟨rfl, b8⟩
    go_wp2_with fail
    (with_reducible refine (less22' w8 A2 A2 c2 c2 l l [] H3.out (by first | omega | simp) (by first | omega | simp) (h2.below (below_step (below_step (below_step (below_step (below_step b3 b4) b5) b6) b7) b8)) (h2.below (below_step (below_step (below_step (below_step (below_step b3 b4) b5) b6) b7) b8))).mono ?_)
    rintro e w9 ⟨g9, lb9, rfl, t9, b9⟩
    go_wp2_with fail
    (with_reducible refine (list12' w9 g9 lb9 [] 1000 (by simp) t9).mono ?_)
    rintro e w10 ⟨A10, c10, rfl, h10, b10⟩
    go_wp2_with fail
    (with_reducible refine (lessnil22 w10 A2 c2 l l H4.out (by omega) (h2.below (below_step (below_step (below_step (below_step (below_step (below_step (below_step b3 b4) b5) b6) b7) b8) b9) b10))).mono ?_)
    rintro e w11 ⟨g11, lb11, rfl, t11, b11⟩
    go_wp2_with fail
    (with_reducible refine (list12' w11 g11 lb11 l 1000 (by omega) t11).mono ?_)
    rintro e w12 ⟨A12, c12, rfl, h12, b12⟩
    go_wp2_with fail
    (with_reducible refine (same11' w12 A12 Al c12 cl l l rfl (by omega) h12 (hl.below (below_step (below_step (below_step (below_step (below_step (below_step (below_step (below_step (below_step (below_step (below_step b1 b2) b3) b4) b5) b6) b7) b8) b9) b10) b11) b12))).mono ?_)
    rintro e w13 ⟨rfl, b13⟩
    go_wp2_with fail
    (with_reducible refine (awake10 w13).mono ?_)
    rintro e w14 ⟨rfl, b14⟩
    go_wp2_with fail
    go_ret
    exact ⟨rfl, (below_step (below_step (below_step (below_step (below_step (below_step (below_step (below_step (below_step (below_step (below_step (below_step (below_step b1 b2) b3) b4) b5) b6) b7) b8) b9) b10) b11) b12) b13) b14)⟩
end Go.Proofs.Ytdjiaooieiboaaa
