/- Own text: any number of lists. -/
import Derived.Test.YtdjiaooieiboaaaFacts
import Derived.Test.YtdjiaooieiboaaaAwake
import Derived.Test.YtdjiaooieiboaaaBoth
import Derived.Test.YtdjiaooieiboaaaLists
namespace Go.Proofs.Ytdjiaooieiboaaa
open Go Go.RowKit Go.Shelf Go.Proofs.YtdjiaooieiboaaaW.PrintWords Go.Proofs.Ytdjiaooieiboaaa.PAll
set_option maxRecDepth 100000 in
set_option maxHeartbeats 8000000 in
theorem postMosts_walk (A : Option Addr) (c : Nat) (ls : List (List Int)) (k most : Int) (w : World) (hr : RL w (.slice A ls.length c) ls) (hL : ls.length ≤ 9223372036854775807) (hlen : ∀ l ∈ ls, l.length ≤ 9223372036854775807) :
    Calls Try.prog 4 #[.slice A ls.length c, .int .i64 k, .int .i64 most] w fun e w' => e = .returned (.bool true) ∧ Below w.heap.size w w' := by
  have Hlen := Lib.hid hlen
  clear hlen
  by_cases hok : okL ls
  · obtain ⟨h10, hl⟩ := hok
    have Hok := Lib.hid (show okL ls from ⟨h10, hl⟩)
    have Hl := Lib.hid hl
    obtain ⟨r1, e1⟩ : ∃ r, mostL ls k = r := ⟨_, rfl⟩
    obtain ⟨r2, e2⟩ : ∃ r, mostL ls 1 = r := ⟨_, rfl⟩
    have hb : ls.length * 100 ≤ 10 * 100 := Nat.mul_le_mul_right _ h10
    have l1 : r1.length ≤ 1000 := by rw [← e1]; exact Nat.le_trans (mostL_len _ _ 100 hl) hb
    have l2 : r2.length ≤ 1000 := by rw [← e2]; exact Nat.le_trans (mostL_len _ _ 100 hl) hb
    have E1 := Lib.hid e1
    have E2 := Lib.hid e2
    clear e1 e2 hl hb
    go_enter Try.func4, Try.ntmps4
    go_wp2_with fail
    (with_reducible refine (lists_ok w A c ls Hok.out hr).mono ?_)
    rintro e w1 ⟨A1, c1, rfl, h1, b1⟩
    go_wp2_with fail
    (with_reducible refine (lists_ok w1 A c ls Hok.out (hr.below b1)).mono ?_)
    rintro e w2 ⟨A2, c2, rfl, h2, b2⟩
    have b02 := below_step b1 b2
    go_wp2_with fail
    (with_reducible refine (most17' w2 A1 c1 ls k r1 E1.out (by omega) Hl.out (h1.below b2)).mono ?_)
    rintro e w3 ⟨g3, lb3, rfl, t3, b3⟩
    have b03 := below_step b02 b3
    go_wp2_with fail
    (with_reducible refine (refMost' w3 A c ls k r1 E1.out (by omega) Hl.out (hr.below b03)).mono ?_)
    rintro e w4 ⟨A4, c4, rfl, h4, b4⟩
    have b04 := below_step b03 b4
    go_wp2_with fail
    (with_reducible refine (both16 w4 g3 lb3 A4 c4 r1 most (t3.below b4) h4 (by omega)).mono ?_)
    rintro e w5 ⟨rfl, b5⟩
    have b05 := below_step b04 b5
    go_wp2_with fail
    (with_reducible refine (or19' w5 A2 c2 ls r2 E2.out (by omega) Hl.out (h2.below (below_step (below_step b3 b4) b5))).mono ?_)
    rintro e w6 ⟨g6, lb6, rfl, t6, b6⟩
    have b06 := below_step b05 b6
    go_wp2_with fail
    (with_reducible refine (refMost' w6 A c ls 1 r2 E2.out (by omega) Hl.out (hr.below b06)).mono ?_)
    rintro e w7 ⟨A7, c7, rfl, h7, b7⟩
    have b07 := below_step b06 b7
    go_wp2_with fail
    (with_reducible refine (both16 w7 g6 lb6 A7 c7 r2 most (t6.below b7) h7 (by omega)).mono ?_)
    rintro e w8 ⟨rfl, b8⟩
    have b08 := below_step b07 b8
    go_wp2_with fail
    (with_reducible refine (awake10 w8).mono ?_)
    rintro e w9 ⟨rfl, b9⟩
    go_wp2_with fail
    go_ret
    exact ⟨rfl, below_step b08 b9⟩
  · have Hok := Lib.hid hok
    clear hok
    go_enter Try.func4, Try.ntmps4
    go_wp2_with fail
    (with_reducible refine (lists_no w A c ls Hok.out hL Hlen.out hr).mono ?_)
    rintro e w1 ⟨rfl, b1⟩
    go_wp2_with fail
    (with_reducible refine (lists_no w1 A c ls Hok.out hL Hlen.out (hr.below b1)).mono ?_)
    rintro e w2 ⟨rfl, b2⟩
    go_wp2_with fail
    (with_reducible refine (awake10 w2).mono ?_)
    rintro e w3 ⟨rfl, b3⟩
    go_wp2_with fail
    go_ret
    exact ⟨rfl, below_step (below_step b1 b2) b3⟩
end Go.Proofs.Ytdjiaooieiboaaa
