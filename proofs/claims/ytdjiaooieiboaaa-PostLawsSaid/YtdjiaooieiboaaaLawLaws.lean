/- Own text: and, or may be turned round and grouped. -/
import Derived.Test.YtdjiaooieiboaaaFacts
import Derived.Test.YtdjiaooieiboaaaAwake
namespace Go.Proofs.Ytdjiaooieiboaaa
open Go Go.RowKit Go.Shelf Go.Proofs.YtdjiaooieiboaaaW.PrintWords Go.Proofs.Ytdjiaooieiboaaa.PAll
set_option maxRecDepth 100000 in
set_option maxHeartbeats 8000000 in
theorem postLaws_walk (Aa : Option Addr) (ca : Nat) (Ab : Option Addr) (cb : Nat) (Ac : Option Addr) (cc : Nat) (a b c : List Int) (w : World) (ha : SL w Aa ca a) (ma : a.length ≤ 9223372036854775807) (hb : SL w Ab cb b) (mb : b.length ≤ 9223372036854775807) (hc : SL w Ac cc c) (mc : c.length ≤ 9223372036854775807) :
    Calls Try.prog 7 #[.slice Aa a.length ca, .slice Ab b.length cb, .slice Ac c.length cc] w fun e w' => e = .returned (.bool true) ∧ Below w.heap.size w w' := by
  go_enter Try.func7, Try.ntmps7
  by_cases hla : 100 < a.length
  · go_wp2_with fail
    (with_reducible refine (awake10 w).mono ?_)
    rintro e w1 ⟨rfl, b1⟩
    go_wp2_with fail
    go_ret
    exact ⟨rfl, b1⟩
  by_cases hlb : 100 < b.length
  · go_wp2_with fail
    (with_reducible refine (awake10 w).mono ?_)
    rintro e w1 ⟨rfl, b1⟩
    go_wp2_with fail
    go_ret
    exact ⟨rfl, b1⟩
  by_cases hlc : 100 < c.length
  · go_wp2_with fail
    (with_reducible refine (awake10 w).mono ?_)
    rintro e w1 ⟨rfl, b1⟩
    go_wp2_with fail
    go_ret
    exact ⟨rfl, b1⟩
  cases hqa : rises a with
  | false =>
    have hra := Lib.hid hqa
    clear hqa
    go_wp2_with fail
    (with_reducible refine (rises9' w Aa ca a false hra.out (by omega) ha).mono ?_)
    rintro e w1 ⟨rfl, b1⟩
    go_wp2_with fail
    (with_reducible refine (awake10 w1).mono ?_)
    rintro e w2 ⟨rfl, b2⟩
    go_wp2_with fail
    go_ret
    exact ⟨rfl, (below_step b1 b2)⟩
  | true =>
    have hra := Lib.hid hqa
    clear hqa
    cases hqb : rises b with
    | false =>
      have hrb := Lib.hid hqb
      clear hqb
      go_wp2_with fail
      (with_reducible refine (rises9' w Aa ca a true hra.out (by omega) ha).mono ?_)
      rintro e w1 ⟨rfl, b1⟩
      go_wp2_with fail
      (with_reducible refine (rises9' w1 Ab cb b false hrb.out (by omega) (hb.below b1)).mono ?_)
      rintro e w2 ⟨rfl, b2⟩
      go_wp2_with fail
      (with_reducible refine (awake10 w2).mono ?_)
      rintro e w3 ⟨rfl, b3⟩
      go_wp2_with fail
      go_ret
      exact ⟨rfl, (below_step (below_step b1 b2) b3)⟩
    | true =>
      have hrb := Lib.hid hqb
      clear hqb
      cases hqc : rises c with
      | false =>
        have hrc := Lib.hid hqc
        clear hqc
        go_wp2_with fail
        (with_reducible refine (rises9' w Aa ca a true hra.out (by omega) ha).mono ?_)
        rintro e w1 ⟨rfl, b1⟩
        go_wp2_with fail
        (with_reducible refine (rises9' w1 Ab cb b true hrb.out (by omega) (hb.below b1)).mono ?_)
        rintro e w2 ⟨rfl, b2⟩
        go_wp2_with fail
        (with_reducible refine (rises9' w2 Ac cc c false hrc.out (by omega) (hc.below (below_step b1 b2))).mono ?_)
        rintro e w3 ⟨rfl, b3⟩
        go_wp2_with fail
        (with_reducible refine (awake10 w3).mono ?_)
        rintro e w4 ⟨rfl, b4⟩
        go_wp2_with fail
        go_ret
        exact ⟨rfl, (below_step (below_step (below_step b1 b2) b3) b4)⟩
      | true =>
        have hrc := Lib.hid hqc
        clear hqc
        have ua := Lib.hid ((up_iff a).1 hra.out)
        have ub := Lib.hid ((up_iff b).1 hrb.out)
        have uc := Lib.hid ((up_iff c).1 hrc.out)
        obtain ⟨ab, e1⟩ : ∃ r, mostL [a, b] 2 = r := ⟨_, rfl⟩
        have E1 := Lib.hid e1
        have l1 : ab.length ≤ 2 * 100 := by rw [← e1]; exact mostL_len _ _ 100 (by simp; omega)
        have U1 := Lib.hid (show Up ab from e1 ▸ mostL_up _ _)
        obtain ⟨bc, e2⟩ : ∃ r, mostL [b, c] 2 = r := ⟨_, rfl⟩
        have E2 := Lib.hid e2
        have l2 : bc.length ≤ 2 * 100 := by rw [← e2]; exact mostL_len _ _ 100 (by simp; omega)
        have U2 := Lib.hid (show Up bc from e2 ▸ mostL_up _ _)
        obtain ⟨o, e3⟩ : ∃ r, mostL [a, b] 1 = r := ⟨_, rfl⟩
        have E3 := Lib.hid e3
        have l3 : o.length ≤ 2 * 100 := by rw [← e3]; exact mostL_len _ _ 100 (by simp; omega)
        have U3 := Lib.hid (show Up o from e3 ▸ mostL_up _ _)
        obtain ⟨p, e4⟩ : ∃ r, mostL [b, c] 1 = r := ⟨_, rfl⟩
        have E4 := Lib.hid e4
        have l4 : p.length ≤ 2 * 100 := by rw [← e4]; exact mostL_len _ _ 100 (by simp; omega)
        have U4 := Lib.hid (show Up p from e4 ▸ mostL_up _ _)
        have E5 := Lib.hid (show mostL [b, a] 2 = ab from (and_comm_ ub.out ua.out).trans e1)
        obtain ⟨t, e6⟩ : ∃ r, mostL [ab, c] 2 = r := ⟨_, rfl⟩
        have E6 := Lib.hid e6
        have l6 : t.length ≤ 2 * 200 := by rw [← e6]; exact mostL_len _ _ 200 (by simp; omega)
        have E7 := Lib.hid (show mostL [a, bc] 2 = t from by rw [← e2, ← and_assoc_ ua.out ub.out uc.out, e1, e6])
        have E8 := Lib.hid (show mostL [b, a] 1 = o from (or_comm_ ub.out ua.out).trans e3)
        obtain ⟨u, e9⟩ : ∃ r, mostL [o, c] 1 = r := ⟨_, rfl⟩
        have E9 := Lib.hid e9
        have l9 : u.length ≤ 2 * 200 := by rw [← e9]; exact mostL_len _ _ 200 (by simp; omega)
        have E10 := Lib.hid (show mostL [a, p] 1 = u from by rw [← e4, ← or_assoc_ ua.out ub.out uc.out, e3, e9])
        obtain ⟨d, e11⟩ : ∃ r, lessL a b = r := ⟨_, rfl⟩
        have E11 := Lib.hid e11
        have l11 : d.length ≤ a.length := by rw [← e11]; exact lessL_len _ _
        have E12 := Lib.hid (show mostL [d, ab] 1 = a from by rw [← e11, ← e1]; exact whole_ ua.out ub.out)
        have R1 := Lib.hid (rises_up U3.out)
        have R2 := Lib.hid (rises_up U1.out)
        clear e1 e2 e3 e4 e6 e9 e11
        go_wp2_with fail
        (with_reducible refine (rises9' w Aa ca a true hra.out (by omega) ha).mono ?_)
        rintro e w1 ⟨rfl, b1⟩
        go_wp2_with fail
        (with_reducible refine (rises9' w1 Ab cb b true hrb.out (by omega) (hb.below b1)).mono ?_)
        rintro e w2 ⟨rfl, b2⟩
        go_wp2_with fail
        (with_reducible refine (rises9' w2 Ac cc c true hrc.out (by omega) (hc.below (below_step b1 b2))).mono ?_)
        rintro e w3 ⟨rfl, b3⟩
        go_wp2_with fail
        (with_reducible refine (and21' w3 Aa Ab ca cb a b ab E1.out (by first | omega | simp) (by first | omega | simp) (ha.below (below_step (below_step b1 b2) b3)) (hb.below (below_step (below_step b1 b2) b3))).mono ?_)
        rintro e w4 ⟨g4, lb4, rfl, t4, b4⟩
        go_wp2_with fail
        (with_reducible refine (list12' w4 g4 lb4 ab 1000 (by omega) t4).mono ?_)
        rintro e w5 ⟨A5, c5, rfl, h5, b5⟩
        go_wp2_with fail
        (with_reducible refine (and21' w5 Ab Ac cb cc b c bc E2.out (by first | omega | simp) (by first | omega | simp) (hb.below (below_step (below_step (below_step (below_step b1 b2) b3) b4) b5)) (hc.below (below_step (below_step (below_step (below_step b1 b2) b3) b4) b5))).mono ?_)
        rintro e w6 ⟨g6, lb6, rfl, t6, b6⟩
        go_wp2_with fail
        (with_reducible refine (list12' w6 g6 lb6 bc 1000 (by omega) t6).mono ?_)
        rintro e w7 ⟨A7, c7, rfl, h7, b7⟩
        go_wp2_with fail
        (with_reducible refine (or_lit2 w7 Aa Ab ca cb a b o E3.out (by first | omega | simp) (by first | omega | simp) (ha.below (below_step (below_step (below_step (below_step (below_step (below_step b1 b2) b3) b4) b5) b6) b7)) (hb.below (below_step (below_step (below_step (below_step (below_step (below_step b1 b2) b3) b4) b5) b6) b7))).mono ?_)
        rintro e w8 ⟨g8, lb8, rfl, t8, b8⟩
        go_wp2_with fail
        (with_reducible refine (list12' w8 g8 lb8 o 1000 (by omega) t8).mono ?_)
        rintro e w9 ⟨A9, c9, rfl, h9, b9⟩
        go_wp2_with fail
        (with_reducible refine (or_lit2 w9 Ab Ac cb cc b c p E4.out (by first | omega | simp) (by first | omega | simp) (hb.below (below_step (below_step (below_step (below_step (below_step (below_step (below_step (below_step b1 b2) b3) b4) b5) b6) b7) b8) b9)) (hc.below (below_step (below_step (below_step (below_step (below_step (below_step (below_step (below_step b1 b2) b3) b4) b5) b6) b7) b8) b9))).mono ?_)
        rintro e w10 ⟨g10, lb10, rfl, t10, b10⟩
        go_wp2_with fail
        (with_reducible refine (list12' w10 g10 lb10 p 1000 (by omega) t10).mono ?_)
        rintro e w11 ⟨A11, c11, rfl, h11, b11⟩
        go_wp2_with fail
        (with_reducible refine (and21' w11 Ab Aa cb ca b a ab E5.out (by first | omega | simp) (by first | omega | simp) (hb.below (below_step (below_step (below_step (below_step (below_step (below_step (below_step (below_step (below_step (below_step b1 b2) b3) b4) b5) b6) b7) b8) b9) b10) b11)) (ha.below (below_step (below_step (below_step (below_step (below_step (below_step (below_step (below_step (below_step (below_step b1 b2) b3) b4) b5) b6) b7) b8) b9) b10) b11))).mono ?_)
        rintro e w12 ⟨g12, lb12, rfl, t12, b12⟩
        go_wp2_with fail
        (with_reducible refine (list12' w12 g12 lb12 ab 1000 (by omega) t12).mono ?_)
        rintro e w13 ⟨A13, c13, rfl, h13, b13⟩
        go_wp2_with fail
        (with_reducible refine (same11' w13 A5 A13 c5 c13 ab ab rfl (by omega) (h5.below (below_step (below_step (below_step (below_step (below_step (below_step (below_step b6 b7) b8) b9) b10) b11) b12) b13)) h13).mono ?_)
        rintro e w14 ⟨rfl, b14⟩
        go_wp2_with fail
        (with_reducible refine (and21' w14 A5 Ac c5 cc ab c t E6.out (by first | omega | simp) (by first | omega | simp) (h5.below (below_step (below_step (below_step (below_step (below_step (below_step (below_step (below_step b6 b7) b8) b9) b10) b11) b12) b13) b14)) (hc.below (below_step (below_step (below_step (below_step (below_step (below_step (below_step (below_step (below_step (below_step (below_step (below_step (below_step b1 b2) b3) b4) b5) b6) b7) b8) b9) b10) b11) b12) b13) b14))).mono ?_)
        rintro e w15 ⟨g15, lb15, rfl, t15, b15⟩
        go_wp2_with fail
        (with_reducible refine (list12' w15 g15 lb15 t 1000 (by omega) t15).mono ?_)
        rintro e w16 ⟨A16, c16, rfl, h16, b16⟩
        go_wp2_with fail
        (with_reducible refine (and21' w16 Aa A7 ca c7 a bc t E7.out (by first | omega | simp) (by first | omega | simp) (ha.below (below_step (below_step (below_step (below_step (below_step (below_step (below_step (below_step (below_step (below_step (below_step (below_step (below_step (below_step (below_step b1 b2) b3) b4) b5) b6) b7) b8) b9) b10) b11) b12) b13) b14) b15) b16)) (h7.below (below_step (below_step (below_step (below_step (below_step (below_step (below_step (below_step b8 b9) b10) b11) b12) b13) b14) b15) b16))).mono ?_)
        rintro e w17 ⟨g17, lb17, rfl, t17, b17⟩
        go_wp2_with fail
        (with_reducible refine (list12' w17 g17 lb17 t 1000 (by omega) t17).mono ?_)
        rintro e w18 ⟨A18, c18, rfl, h18, b18⟩
        go_wp2_with fail
        (with_reducible refine (same11' w18 A16 A18 c16 c18 t t rfl (by omega) (h16.below (below_step b17 b18)) h18).mono ?_)
        rintro e w19 ⟨rfl, b19⟩
        go_wp2_with fail
        (with_reducible refine (or_lit2 w19 Ab Aa cb ca b a o E8.out (by first | omega | simp) (by first | omega | simp) (hb.below (below_step (below_step (below_step (below_step (below_step (below_step (below_step (below_step (below_step (below_step (below_step (below_step (below_step (below_step (below_step (below_step (below_step (below_step b1 b2) b3) b4) b5) b6) b7) b8) b9) b10) b11) b12) b13) b14) b15) b16) b17) b18) b19)) (ha.below (below_step (below_step (below_step (below_step (below_step (below_step (below_step (below_step (below_step (below_step (below_step (below_step (below_step (below_step (below_step (below_step (below_step (below_step b1 b2) b3) b4) b5) b6) b7) b8) b9) b10) b11) b12) b13) b14) b15) b16) b17) b18) b19))).mono ?_)
        rintro e w20 ⟨g20, lb20, rfl, t20, b20⟩
        go_wp2_with fail
        (with_reducible refine (list12' w20 g20 lb20 o 1000 (by omega) t20).mono ?_)
        rintro e w21 ⟨A21, c21, rfl, h21, b21⟩
        go_wp2_with fail
        (with_reducible refine (same11' w21 A9 A21 c9 c21 o o rfl (by omega) (h9.below (below_step (below_step (below_step (below_step (below_step (below_step (below_step (below_step (below_step (below_step (below_step b10 b11) b12) b13) b14) b15) b16) b17) b18) b19) b20) b21)) h21).mono ?_)
        rintro e w22 ⟨rfl, b22⟩
        go_wp2_with fail
        (with_reducible refine (or_lit2 w22 A9 Ac c9 cc o c u E9.out (by first | omega | simp) (by first | omega | simp) (h9.below (below_step (below_step (below_step (below_step (below_step (below_step (below_step (below_step (below_step (below_step (below_step (below_step b10 b11) b12) b13) b14) b15) b16) b17) b18) b19) b20) b21) b22)) (hc.below (below_step (below_step (below_step (below_step (below_step (below_step (below_step (below_step (below_step (below_step (below_step (below_step (below_step (below_step (below_step (below_step (below_step (below_step (below_step (below_step (below_step b1 b2) b3) b4) b5) b6) b7) b8) b9) b10) b11) b12) b13) b14) b15) b16) b17) b18) b19) b20) b21) b22))).mono ?_)
        rintro e w23 ⟨g23, lb23, rfl, t23, b23⟩
        go_wp2_with fail
        (with_reducible refine (list12' w23 g23 lb23 u 1000 (by omega) t23).mono ?_)
        rintro e w24 ⟨A24, c24, rfl, h24, b24⟩
        go_wp2_with fail
        (with_reducible refine (or_lit2 w24 Aa A11 ca c11 a p u E10.out (by first | omega | simp) (by first | omega | simp) (ha.below (below_step (below_step (below_step (below_step (below_step (below_step (below_step (below_step (below_step (below_step (below_step (below_step (below_step (below_step (below_step (below_step (below_step (below_step (below_step (below_step (below_step (below_step (below_step b1 b2) b3) b4) b5) b6) b7) b8) b9) b10) b11) b12) b13) b14) b15) b16) b17) b18) b19) b20) b21) b22) b23) b24)) (h11.below (below_step (below_step (below_step (below_step (below_step (below_step (below_step (below_step (below_step (below_step (below_step (below_step b12 b13) b14) b15) b16) b17) b18) b19) b20) b21) b22) b23) b24))).mono ?_)
        rintro e w25 ⟨g25, lb25, rfl, t25, b25⟩
        go_wp2_with fail
        (with_reducible refine (list12' w25 g25 lb25 u 1000 (by omega) t25).mono ?_)
        rintro e w26 ⟨A26, c26, rfl, h26, b26⟩
        go_wp2_with fail
        (with_reducible refine (same11' w26 A24 A26 c24 c26 u u rfl (by omega) (h24.below (below_step b25 b26)) h26).mono ?_)
        rintro e w27 ⟨rfl, b27⟩
        go_wp2_with fail
        (with_reducible refine (less22' w27 Aa Ab ca cb a b d E11.out (by first | omega | simp) (by first | omega | simp) (ha.below (below_step (below_step (below_step (below_step (below_step (below_step (below_step (below_step (below_step (below_step (below_step (below_step (below_step (below_step (below_step (below_step (below_step (below_step (below_step (below_step (below_step (below_step (below_step (below_step (below_step (below_step b1 b2) b3) b4) b5) b6) b7) b8) b9) b10) b11) b12) b13) b14) b15) b16) b17) b18) b19) b20) b21) b22) b23) b24) b25) b26) b27)) (hb.below (below_step (below_step (below_step (below_step (below_step (below_step (below_step (below_step (below_step (below_step (below_step (below_step (below_step (below_step (below_step (below_step (below_step (below_step (below_step (below_step (below_step (below_step (below_step (below_step (below_step (below_step b1 b2) b3) b4) b5) b6) b7) b8) b9) b10) b11) b12) b13) b14) b15) b16) b17) b18) b19) b20) b21) b22) b23) b24) b25) b26) b27))).mono ?_)
        rintro e w28 ⟨g28, lb28, rfl, t28, b28⟩
        go_wp2_with fail
        (with_reducible refine (list12' w28 g28 lb28 d 1000 (by omega) t28).mono ?_)
        rintro e w29 ⟨A29, c29, rfl, h29, b29⟩
        go_wp2_with fail
        (with_reducible refine (or_lit2 w29 A29 A5 c29 c5 d ab a E12.out (by first | omega | simp) (by first | omega | simp) h29 (h5.below (below_step (below_step (below_step (below_step (below_step (below_step (below_step (below_step (below_step (below_step (below_step (below_step (below_step (below_step (below_step (below_step (below_step (below_step (below_step (below_step (below_step (below_step (below_step b6 b7) b8) b9) b10) b11) b12) b13) b14) b15) b16) b17) b18) b19) b20) b21) b22) b23) b24) b25) b26) b27) b28) b29))).mono ?_)
        rintro e w30 ⟨g30, lb30, rfl, t30, b30⟩
        go_wp2_with fail
        (with_reducible refine (list12' w30 g30 lb30 a 1000 (by omega) t30).mono ?_)
        rintro e w31 ⟨A31, c31, rfl, h31, b31⟩
        go_wp2_with fail
        (with_reducible refine (same11' w31 A31 Aa c31 ca a a rfl (by omega) h31 (ha.below (below_step (below_step (below_step (below_step (below_step (below_step (below_step (below_step (below_step (below_step (below_step (below_step (below_step (below_step (below_step (below_step (below_step (below_step (below_step (below_step (below_step (below_step (below_step (below_step (below_step (below_step (below_step (below_step (below_step (below_step b1 b2) b3) b4) b5) b6) b7) b8) b9) b10) b11) b12) b13) b14) b15) b16) b17) b18) b19) b20) b21) b22) b23) b24) b25) b26) b27) b28) b29) b30) b31))).mono ?_)
        rintro e w32 ⟨rfl, b32⟩
        go_wp2_with fail
        (with_reducible refine (rises20' w32 A9 c9 o true R1.out (by omega) (h9.below (below_step (below_step (below_step (below_step (below_step (below_step (below_step (below_step (below_step (below_step (below_step (below_step (below_step (below_step (below_step (below_step (below_step (below_step (below_step (below_step (below_step (below_step b10 b11) b12) b13) b14) b15) b16) b17) b18) b19) b20) b21) b22) b23) b24) b25) b26) b27) b28) b29) b30) b31) b32))).mono ?_)
        rintro e w33 ⟨rfl, b33⟩
        go_wp2_with fail
        (with_reducible refine (rises20' w33 A5 c5 ab true R2.out (by omega) (h5.below (below_step (below_step (below_step (below_step (below_step (below_step (below_step (below_step (below_step (below_step (below_step (below_step (below_step (below_step (below_step (below_step (below_step (below_step (below_step (below_step (below_step (below_step (below_step (below_step (below_step (below_step (below_step b6 b7) b8) b9) b10) b11) b12) b13) b14) b15) b16) b17) b18) b19) b20) b21) b22) b23) b24) b25) b26) b27) b28) b29) b30) b31) b32) b33))).mono ?_)
        rintro e w34 ⟨rfl, b34⟩
        go_wp2_with fail
        (with_reducible refine (awake10 w34).mono ?_)
        rintro e w35 ⟨rfl, b35⟩
        go_wp2_with fail
        go_ret
        exact ⟨rfl, (below_step (below_step (below_step (below_step (below_step (below_step (below_step (below_step (below_step (below_step (below_step (below_step (below_step (below_step (below_step (below_step (below_step (below_step (below_step (below_step (below_step (below_step (below_step (below_step (below_step (below_step (below_step (below_step (below_step (below_step (below_step (below_step (below_step (below_step b1 b2) b3) b4) b5) b6) b7) b8) b9) b10) b11) b12) b13) b14) b15) b16) b17) b18) b19) b20) b21) b22) b23) b24) b25) b26) b27) b28) b29) b30) b31) b32) b33) b34) b35)⟩
end Go.Proofs.Ytdjiaooieiboaaa
