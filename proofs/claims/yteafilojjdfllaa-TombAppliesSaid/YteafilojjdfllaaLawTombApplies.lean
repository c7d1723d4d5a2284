/- Own text: the law TombApplies, walked. -/
import Derived.Test.YteafilojjdfllaaRefApply
namespace Go.Proofs.Yteafilojjdfllaa
open Go Go.RowKit Go.Proofs.YteafilojjdfllaaW.PrintWords Go.Proofs.YteafilojjdfllaaW.PrintLast Go.Proofs.YteafilojjdfllaaW.PrintMore Go.Proofs.Yteafilojjdfllaa.PAll

set_option maxRecDepth 100000 in
set_option maxHeartbeats 8000000 in
theorem tombApplies_walk (w : World) (rows : List S37) (A : Option Addr) (c : Nat) (l : List S27) (B : Option Addr) (d : Nat) (done : Int) (hp : ∀ r ∈ rows, RowSz r)
    (hC : Kd.C k37 w A rows.length rows) (hD : Kd.C k27 w B l.length l) :
    Calls Try.prog 4 #[.slice A rows.length c, .slice B l.length d, .int .i64 done] w fun e w' => e = .returned (.bool true) ∧ Below w.heap.size w w' := by
  have HC := Lib.hid hC
  have HD := Lib.hid hD
  have HP := Lib.hid hp
  clear hC hD hp
  go_enter Try.func4, Try.ntmps4
  go_wp2_with fail
  (with_reducible refine (small40 _ l B d HD.out).mono ?_)
  rintro e w1 ⟨⟨v, rfl, hok⟩, hB1⟩
  cases v with
  | false =>
    clear hok
    go_wp2_with fail
    (with_reducible refine (awake32 _).mono ?_)
    rintro e w2 ⟨rfl, hB2⟩
    go_wp2
    go_ret
    exact ⟨rfl, below_step hB1 hB2⟩
  | true =>
    obtain ⟨hl40, hOK⟩ := hok rfl
    have HOK := Lib.hid hOK
    clear hok hOK
    by_cases hn : (rows.length : Int) > 40
    · go_wp2_with fail
      (with_reducible refine (awake32 _).mono ?_)
      rintro e w2 ⟨rfl, hB2⟩
      go_wp2
      go_ret
      exact ⟨rfl, below_step hB1 hB2⟩
    · have hr40 : rows.length ≤ 1000 := by omega
      have hl1000 : l.length ≤ 1000 := by omega
      go_wp2_with fail
      (with_reducible refine (rows41 _ rows A c HP.out hr40 (Kd.C_below HC.out hB1)).mono ?_)
      rintro e w2 hM2
      obtain ⟨D2, d2, rfl, hd2, hC2, hB2⟩ := hM2.C
      clear hM2
      have hB2' := below_step hB1 hB2
      go_wp2_with fail
      (with_reducible refine (tombs42 _ l B d HOK.out.tiny hl1000 (Kd.C_below HD.out hB2')).mono ?_)
      rintro e w3 hM3
      obtain ⟨D3, d3, rfl, hd3, hC3, hB3⟩ := hM3.C
      clear hM3
      have hB3' := below_step hB2' hB3
      have hC2' := Kd.C_below hC2 hB3
      go_wp2_with fail
      (with_reducible refine (Apply44 _ rows D2 d2 l D3 d3 done hr40 hl1000 HP.out HOK.out.nodes hC2' hC3).mono ?_)
      rintro e w4 hM4
      obtain ⟨D4, d4, rfl, hd4, hC4, hB4⟩ := hM4.C
      clear hM4
      have hB4' := below_step hB3' hB4
      have hlenA : (applyB rows l done).length ≤ 1000 := Nat.le_trans apply_len hr40
      go_wp2_with fail
      (with_reducible refine (refApply45 _ rows A c l B d done hr40 hl1000 HP.out HOK.out (Kd.C_below HC.out hB4') (Kd.C_below HD.out hB4')).mono ?_)
      rintro e w5 hM5
      obtain ⟨D5, d5, rfl, hd5, hC5, hB5⟩ := hM5.C
      clear hM5
      have hB5' := below_step hB4' hB5
      have hC4' := Kd.C_below hC4 hB5
      go_wp2_with fail
      (with_reducible refine (sameRows43 _ _ D4 d4 D5 d5 hlenA (apply_sz HP.out) hC4' hC5).mono ?_)
      rintro e w6 ⟨rfl, hB6⟩
      have hB6' := below_step hB5' hB6
      go_wp2_with fail
      (with_reducible refine (sameRows43 _ rows D2 d2 A c hr40 HP.out (Kd.C_below (Kd.C_below (Kd.C_below hC2' hB4) hB5) hB6) (Kd.C_below HC.out hB6')).mono ?_)
      rintro e w7 ⟨rfl, hB7⟩
      have hB7' := below_step hB6' hB7
      go_wp2_with fail
      (with_reducible refine (awake32 _).mono ?_)
      rintro e w8 ⟨rfl, hB8⟩
      go_wp2
      go_ret
      exact ⟨rfl, below_step hB7' hB8⟩
end Go.Proofs.Yteafilojjdfllaa
