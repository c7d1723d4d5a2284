/- Own text: two lists. -/
import Derived.Test.YtdjiaooieiboaaaFacts
import Derived.Test.YtdjiaooieiboaaaAwake
import Derived.Test.YtdjiaooieiboaaaBoth
namespace Go.Proofs.Ytdjiaooieiboaaa
open Go Go.RowKit Go.Shelf Go.Proofs.YtdjiaooieiboaaaW.PrintWords Go.Proofs.Ytdjiaooieiboaaa.PAll
set_option maxRecDepth 100000 in
set_option maxHeartbeats 8000000 in
theorem postAnds_walk (Aa : Option Addr) (ca : Nat) (Ab : Option Addr) (cb : Nat) (a b : List Int) (most : Int) (w : World) (ha : SL w Aa ca a) (ma : a.length ≤ 9223372036854775807) (hb : SL w Ab cb b) (mb : b.length ≤ 9223372036854775807) :
    Calls Try.prog 5 #[.slice Aa a.length ca, .slice Ab b.length cb, .int .i64 most] w fun e w' => e = .returned (.bool true) ∧ Below w.heap.size w w' := by
  go_enter Try.func5, Try.ntmps5
  by_cases hla : 200 < a.length
  · go_wp2_with fail
    (with_reducible refine (awake10 w).mono ?_)
    rintro e w1 ⟨rfl, b1⟩
    go_wp2_with fail
    go_ret
    exact ⟨rfl, b1⟩
  by_cases hlb : 200 < b.length
  · go_wp2_with fail
    (with_reducible refine (awake10 w).mono ?_)
    rintro e w1 ⟨rfl, b1⟩
    go_wp2_with fail
    go_ret
    exact ⟨rfl, b1⟩
  obtain ⟨r1, e1⟩ : ∃ r, mostL [a, b] 2 = r := ⟨_, rfl⟩
  have E1 := Lib.hid e1
  have l1 : r1.length ≤ 2 * 200 := by rw [← e1]; exact mostL_len _ _ 200 (by simp; omega)
  obtain ⟨r2, e2⟩ : ∃ r, lessL a b = r := ⟨_, rfl⟩
  have E2 := Lib.hid e2
  have l2 : r2.length ≤ a.length := by rw [← e2]; exact lessL_len _ _
  obtain ⟨r3, e3⟩ : ∃ r, mostL [a] 1 = r := ⟨_, rfl⟩
  have E3 := Lib.hid e3
  have l3 : r3.length ≤ 1 * 200 := by rw [← e3]; exact mostL_len _ _ 200 (by simp; omega)
  clear e1 e2 e3
  cases hv : rises a with
  | false =>
    have Hv := Lib.hid hv
    clear hv
    go_wp2_with fail
    (with_reducible refine (ints14 w Aa ca a (by omega) ha).mono ?_)
    rintro e w1 ⟨A1, c1, rfl, h1, b1⟩
    go_wp2_with fail
    (with_reducible refine (ints14 w1 Ab cb b (by omega) (hb.below b1)).mono ?_)
    rintro e w2 ⟨A2, c2, rfl, h2, b2⟩
    go_wp2_with fail
    (with_reducible refine (rises20' w2 A1 c1 a false Hv.out (by omega) (h1.below b2)).mono ?_)
    rintro e w3 ⟨rfl, b3⟩
    go_wp2_with fail
    (with_reducible refine (rises9' w3 Aa ca a false Hv.out (by omega) (ha.below (below_step (below_step b1 b2) b3))).mono ?_)
    rintro e w4 ⟨rfl, b4⟩
    go_wp2_with fail
    (with_reducible refine (and21' w4 A1 A2 c1 c2 a b r1 E1.out (by first | omega | simp) (by first | omega | simp) (h1.below (below_step (below_step b2 b3) b4)) (h2.below (below_step b3 b4))).mono ?_)
    rintro e w5 ⟨g5, lb5, rfl, t5, b5⟩
    go_wp2_with fail
    (with_reducible refine (ref2' w5 Aa Ab ca cb a b r1 E1.out (by omega) (by omega) (ha.below (below_step (below_step (below_step (below_step b1 b2) b3) b4) b5)) (hb.below (below_step (below_step (below_step (below_step b1 b2) b3) b4) b5))).mono ?_)
    rintro e w6 ⟨A6, c6, rfl, h6, b6⟩
    go_wp2_with fail
    (with_reducible refine (both16 w6 g5 lb5 A6 c6 r1 most (t5.below b6) h6 (by omega)).mono ?_)
    rintro e w7 ⟨rfl, b7⟩
    go_wp2_with fail
    (with_reducible refine (less22' w7 A1 A2 c1 c2 a b r2 E2.out (by first | omega | simp) (by first | omega | simp) (h1.below (below_step (below_step (below_step (below_step (below_step b2 b3) b4) b5) b6) b7)) (h2.below (below_step (below_step (below_step (below_step b3 b4) b5) b6) b7))).mono ?_)
    rintro e w8 ⟨g8, lb8, rfl, t8, b8⟩
    go_wp2_with fail
    (with_reducible refine (refLess' w8 Aa Ab ca cb a b r2 E2.out (by omega) (by omega) (ha.below (below_step (below_step (below_step (below_step (below_step (below_step (below_step b1 b2) b3) b4) b5) b6) b7) b8)) (hb.below (below_step (below_step (below_step (below_step (below_step (below_step (below_step b1 b2) b3) b4) b5) b6) b7) b8))).mono ?_)
    rintro e w9 ⟨A9, c9, rfl, h9, b9⟩
    go_wp2_with fail
    (with_reducible refine (both16 w9 g8 lb8 A9 c9 r2 most (t8.below b9) h9 (by omega)).mono ?_)
    rintro e w10 ⟨rfl, b10⟩
    go_wp2_with fail
    (with_reducible refine (from13' w10 A1 c1 a r3 E3.out (by omega) (h1.below (below_step (below_step (below_step (below_step (below_step (below_step (below_step (below_step b2 b3) b4) b5) b6) b7) b8) b9) b10))).mono ?_)
    rintro e w11 ⟨g11, lb11, rfl, t11, b11⟩
    go_wp2_with fail
    (with_reducible refine (ref1' w11 Aa ca a r3 E3.out (by omega) (ha.below (below_step (below_step (below_step (below_step (below_step (below_step (below_step (below_step (below_step (below_step b1 b2) b3) b4) b5) b6) b7) b8) b9) b10) b11))).mono ?_)
    rintro e w12 ⟨A12, c12, rfl, h12, b12⟩
    go_wp2_with fail
    (with_reducible refine (both16 w12 g11 lb11 A12 c12 r3 most (t11.below b12) h12 (by omega)).mono ?_)
    rintro e w13 ⟨rfl, b13⟩
    go_wp2_with fail
    (with_reducible refine (same11' w13 A1 Aa c1 ca a a rfl (by omega) (h1.below (below_step (below_step (below_step (below_step (below_step (below_step (below_step (below_step (below_step (below_step (below_step b2 b3) b4) b5) b6) b7) b8) b9) b10) b11) b12) b13)) (ha.below (below_step (below_step (below_step (below_step (below_step (below_step (below_step (below_step (below_step (below_step (below_step (below_step b1 b2) b3) b4) b5) b6) b7) b8) b9) b10) b11) b12) b13))).mono ?_)
    rintro e w14 ⟨rfl, b14⟩
    go_wp2_with fail
    (with_reducible refine (same11' w14 A2 Ab c2 cb b b rfl (by omega) (h2.below (below_step (below_step (below_step (below_step (below_step (below_step (below_step (below_step (below_step (below_step (below_step b3 b4) b5) b6) b7) b8) b9) b10) b11) b12) b13) b14)) (hb.below (below_step (below_step (below_step (below_step (below_step (below_step (below_step (below_step (below_step (below_step (below_step (below_step (below_step b1 b2) b3) b4) b5) b6) b7) b8) b9) b10) b11) b12) b13) b14))).mono ?_)
    rintro e w15 ⟨rfl, b15⟩
    go_wp2_with fail
    (with_reducible refine (awake10 w15).mono ?_)
    rintro e w16 ⟨rfl, b16⟩
    go_wp2_with fail
    go_ret
    exact ⟨rfl, (below_step (below_step (below_step (below_step (below_step (below_step (below_step (below_step (below_step (below_step (below_step (below_step (below_step (below_step (below_step b1 b2) b3) b4) b5) b6) b7) b8) b9) b10) b11) b12) b13) b14) b15) b16)⟩
  | true =>
    have Hv := Lib.hid hv
    clear hv
    go_wp2_with fail
    (with_reducible refine (ints14 w Aa ca a (by omega) ha).mono ?_)
    rintro e w1 ⟨A1, c1, rfl, h1, b1⟩
    go_wp2_with fail
    (with_reducible refine (ints14 w1 Ab cb b (by omega) (hb.below b1)).mono ?_)
    rintro e w2 ⟨A2, c2, rfl, h2, b2⟩
    go_wp2_with fail
    (with_reducible refine (rises20' w2 A1 c1 a true Hv.out (by omega) (h1.below b2)).mono ?_)
    rintro e w3 ⟨rfl, b3⟩
    go_wp2_with fail
    (with_reducible refine (rises9' w3 Aa ca a true Hv.out (by omega) (ha.below (below_step (below_step b1 b2) b3))).mono ?_)
    rintro e w4 ⟨rfl, b4⟩
    go_wp2_with fail
    (with_reducible refine (and21' w4 A1 A2 c1 c2 a b r1 E1.out (by first | omega | simp) (by first | omega | simp) (h1.below (below_step (below_step b2 b3) b4)) (h2.below (below_step b3 b4))).mono ?_)
    rintro e w5 ⟨g5, lb5, rfl, t5, b5⟩
    go_wp2_with fail
    (with_reducible refine (ref2' w5 Aa Ab ca cb a b r1 E1.out (by omega) (by omega) (ha.below (below_step (below_step (below_step (below_step b1 b2) b3) b4) b5)) (hb.below (below_step (below_step (below_step (below_step b1 b2) b3) b4) b5))).mono ?_)
    rintro e w6 ⟨A6, c6, rfl, h6, b6⟩
    go_wp2_with fail
    (with_reducible refine (both16 w6 g5 lb5 A6 c6 r1 most (t5.below b6) h6 (by omega)).mono ?_)
    rintro e w7 ⟨rfl, b7⟩
    go_wp2_with fail
    (with_reducible refine (less22' w7 A1 A2 c1 c2 a b r2 E2.out (by first | omega | simp) (by first | omega | simp) (h1.below (below_step (below_step (below_step (below_step (below_step b2 b3) b4) b5) b6) b7)) (h2.below (below_step (below_step (below_step (below_step b3 b4) b5) b6) b7))).mono ?_)
    rintro e w8 ⟨g8, lb8, rfl, t8, b8⟩
    go_wp2_with fail
    (with_reducible refine (refLess' w8 Aa Ab ca cb a b r2 E2.out (by omega) (by omega) (ha.below (below_step (below_step (below_step (below_step (below_step (below_step (below_step b1 b2) b3) b4) b5) b6) b7) b8)) (hb.below (below_step (below_step (below_step (below_step (below_step (below_step (below_step b1 b2) b3) b4) b5) b6) b7) b8))).mono ?_)
    rintro e w9 ⟨A9, c9, rfl, h9, b9⟩
    go_wp2_with fail
    (with_reducible refine (both16 w9 g8 lb8 A9 c9 r2 most (t8.below b9) h9 (by omega)).mono ?_)
    rintro e w10 ⟨rfl, b10⟩
    go_wp2_with fail
    (with_reducible refine (from13' w10 A1 c1 a r3 E3.out (by omega) (h1.below (below_step (below_step (below_step (below_step (below_step (below_step (below_step (below_step b2 b3) b4) b5) b6) b7) b8) b9) b10))).mono ?_)
    rintro e w11 ⟨g11, lb11, rfl, t11, b11⟩
    go_wp2_with fail
    (with_reducible refine (ref1' w11 Aa ca a r3 E3.out (by omega) (ha.below (below_step (below_step (below_step (below_step (below_step (below_step (below_step (below_step (below_step (below_step b1 b2) b3) b4) b5) b6) b7) b8) b9) b10) b11))).mono ?_)
    rintro e w12 ⟨A12, c12, rfl, h12, b12⟩
    go_wp2_with fail
    (with_reducible refine (both16 w12 g11 lb11 A12 c12 r3 most (t11.below b12) h12 (by omega)).mono ?_)
    rintro e w13 ⟨rfl, b13⟩
    go_wp2_with fail
    (with_reducible refine (same11' w13 A1 Aa c1 ca a a rfl (by omega) (h1.below (below_step (below_step (below_step (below_step (below_step (below_step (below_step (below_step (below_step (below_step (below_step b2 b3) b4) b5) b6) b7) b8) b9) b10) b11) b12) b13)) (ha.below (below_step (below_step (below_step (below_step (below_step (below_step (below_step (below_step (below_step (below_step (below_step (below_step b1 b2) b3) b4) b5) b6) b7) b8) b9) b10) b11) b12) b13))).mono ?_)
    rintro e w14 ⟨rfl, b14⟩
    go_wp2_with fail
    (with_reducible refine (same11' w14 A2 Ab c2 cb b b rfl (by omega) (h2.below (below_step (below_step (below_step (below_step (below_step (below_step (below_step (below_step (below_step (below_step (below_step b3 b4) b5) b6) b7) b8) b9) b10) b11) b12) b13) b14)) (hb.below (below_step (below_step (below_step (below_step (below_step (below_step (below_step (below_step (below_step (below_step (below_step (below_step (below_step b1 b2) b3) b4) b5) b6) b7) b8) b9) b10) b11) b12) b13) b14))).mono ?_)
    rintro e w15 ⟨rfl, b15⟩
    go_wp2_with fail
    (with_reducible refine (awake10 w15).mono ?_)
    rintro e w16 ⟨rfl, b16⟩
    go_wp2_with fail
    go_ret
    exact ⟨rfl, (below_step (below_step (below_step (below_step (below_step (below_step (below_step (below_step (below_step (below_step (below_step (below_step (below_step (below_step (below_step b1 b2) b3) b4) b5) b6) b7) b8) b9) b10) b11) b12) b13) b14) b15) b16)⟩
end Go.Proofs.Ytdjiaooieiboaaa
