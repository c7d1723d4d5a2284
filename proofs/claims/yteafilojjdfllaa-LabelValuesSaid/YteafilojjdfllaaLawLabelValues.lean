/- Own text: the law LabelValues, walked. -/
import Derived.Test.YteafilojjdfllaaLabKit
import Derived.Test.YteafilojjdfllaaAwakeL
namespace Go.Proofs.Yteafilojjdfllaa
open Go Go.RowKit Go.Proofs.YteafilojjdfllaaW.PrintWords Go.Proofs.YteafilojjdfllaaW.PrintLast Go.Proofs.YteafilojjdfllaaW.PrintMore Go.Proofs.Yteafilojjdfllaa.PAll

theorem value_has {n : ByteArray} : ∀ {l : List S68}, (∀ x ∈ l, 1 ≤ x.f1.size) → (l.any (fun x => x.f0.toList == n.toList)) = !((Lb.valueL n l).toList.isEmpty)
  | [], _ => by simp [Lb.valueL, ByteArray.toList_eq]
  | x :: l, h => by
    have h1 := h x (List.mem_cons_self ..)
    have ih := value_has (n := n) (l := l) (fun y hy => h y (List.mem_cons_of_mem _ hy))
    rw [List.any_cons, Lb.valueL]
    by_cases e : x.f0.toList = n.toList
    · rw [if_pos e, beq_iff_eq.2 e, Bool.true_or]
      have hne : x.f1.toList ≠ [] := by
        intro h0
        rw [ba_nilD h0] at h1
        exact absurd h1 (by decide)
      cases hx : x.f1.toList with
      | nil => exact absurd hx hne
      | cons _ _ => rfl
    · rw [if_neg e, beq_eq_false_iff_ne.2 e, Bool.false_or, ih]
theorem value_at : ∀ {l : List S68}, l.Pairwise (fun a b => ltN a b = true) → ∀ {x}, x ∈ l → Lb.valueL x.f0 l = x.f1
  | y :: l, hp, x, hx => by
    rw [List.pairwise_cons] at hp
    rw [Lb.valueL]
    rcases List.mem_cons.1 hx with rfl | hx
    · rw [if_pos rfl]
    · have hlt := hp.1 x hx
      have hne : y.f0.toList ≠ x.f0.toList := by
        intro e
        rw [← ltN_less, e, bless, decide_eq_true_iff] at hlt
        have := cmpT_refl x.f0.toList
        omega
      rw [if_neg hne]
      exact value_at hp.2 hx
theorem chk_value {l : List S68} (h : chkS l = true) {x : S68} (hx : x ∈ l) : Lb.valueL x.f0 l = x.f1 := by
  unfold chkS at h
  simp only [Bool.and_eq_true] at h
  exact value_at ((risesN_pair _).1 h.2) hx
theorem chk_has {l : List S68} (h : chkS l = true) (n : ByteArray) : (l.any (fun x => x.f0.toList == n.toList)) = !((Lb.valueL n l).toList.isEmpty) := by
  refine value_has fun x hx => ?_
  unfold chkS at h
  simp only [Bool.and_eq_true, List.all_eq_true] at h
  have := h.1.2 x hx
  unfold okS at this
  rw [Bool.and_eq_true, decide_eq_true_iff] at this
  exact this.2.1
theorem any_take (p : S68 → Bool) (l : List S68) (j : Nat) (h : j < l.length) : (l.take (j + 1)).any p = ((l.take j).any p || p (l.getD j z68)) := by
  rw [List.take_add_one, List.any_append, List.getD_eq_getElem?_getD, List.getElem?_eq_getElem h]
  simp

set_option maxRecDepth 100000 in
set_option maxHeartbeats 8000000 in
theorem labelValues_walk (w : World) (l : List S68) (A : Option Addr) (c : Nat) (n : ByteArray) (hc : l.length ≤ c) (hC : Kd.C k68 w A l.length l) (hl : l.length * 32 ≤ 140737488351232) (hs : ∀ x ∈ l, x.f0.size ≤ 140737488351232 ∧ x.f1.size ≤ 140737488351232) (_hn : n.size ≤ 140737488351232) :
    Calls Try.prog 18 #[.slice A l.length c, .string n] w fun e w' => e = .returned (.bool true) ∧ Below w.heap.size w w' := by
  have hl4 : l.length ≤ 4000000000000000000 := by omega
  have HS := Lib.hid (fun x hx => (hs x hx).1 : ∀ x ∈ l, x.f0.size ≤ 140737488351232)
  have HC := Lib.hid hC
  clear hC hs
  go_enter Try.func18, Try.ntmps18
  go_wp2_with fail
  (with_reducible refine (check58 _ l A c hl4 HS.out HC.out).mono ?_)
  rintro e w1 ⟨rfl, hB1⟩
  cases hv : chkS l with
  | false =>
    go_wp2_with fail
    (with_reducible refine (awake68 _).mono ?_)
    rintro e w2 ⟨rfl, hb2⟩
    go_wp2
    go_ret
    exact ⟨rfl, below_step hB1 hb2⟩
  | true =>
    have HV := Lib.hid hv
    clear hv
    go_wp2
    go_loopw [5, 6] (fun u5 u6 wr => ∃ (j : Nat) (b : Bool), u5 = .bool b ∧ u6 = .int .i64 j ∧ j ≤ l.length ∧ Hid ((l.take j).any (fun x => x.f0.toList == n.toList) = b) ∧ Below w.heap.size w wr)
      (fun _ u6 _ => l.length - (intOf u6).toNat)
    case atStart => exact ⟨0, false, rfl, rfl, Nat.zero_le _, Lib.hid rfl, hB1⟩
    case round =>
      obtain ⟨j, b, rfl, rfl, hj, HB, hB⟩ := hrel
      by_cases hlt : j < l.length
      · obtain ⟨ad, rfl, a0, a1⟩ := at_lab (Kd.C_below HC.out hB) j hlt
        have Hx := Lib.hid (getD_lab hlt)
        have Hst := Lib.hid (any_take (fun x => x.f0.toList == n.toList) l j hlt)
        obtain ⟨x, ex⟩ : ∃ x, l.getD j z68 = x := ⟨_, rfl⟩
        rw [ex] at a0 a1 Hx Hst
        clear ex
        have Hval := Lib.hid (chk_value HV.out Hx.out)
        have g0 := fun W (hb : Below wr.heap.size wr W) => pw_cell_below hb a0
        have g1 := fun W (hb : Below wr.heap.size wr W) => pw_cell_below hb a1
        clear a0 a1
        have HCr := Lib.hid (Kd.C_below HC.out hB)
        have e0 : (x.f1.toList != x.f1.toList) = false := by simp
        go_wp2
        go_region_held3 (fun w' => Below wr.heap.size wr w')
          (first | exact below_drew (Below.refl _ _) | exact below_step (by assumption) hb5)
          ((go_at_call 65; (with_reducible refine (Lb.value65 _ l x.f0 (some ad) c hl4 hc (Kd.C_below HCr.out (by assumption))).mono ?_); rintro e w5 ⟨rfl, hb5⟩; rw [Hval.out]))
        rename_i hS
        have h0 := g0 _ hS
        clear g0 g1
        obtain ⟨q, hq⟩ : ∃ q, (x.f0.toList == n.toList) = q := ⟨_, rfl⟩
        have Hq := Lib.hid hq
        cases b <;>
        · go_wp2
          go_roundw
          case rel => exact ⟨j + 1, _, rfl, by go_num, by omega, Lib.hid (by rw [Hst.out, HB.out]; first | rfl | exact Hq.out), below_step hB hS⟩
          case measure => simp [intOf]; omega
      · obtain rfl : j = l.length := by omega
        rw [List.take_length] at HB
        have HE := Lib.hid (HB.out.symm.trans (chk_has HV.out n))
        go_wp2_with fail
        (with_reducible refine (Lb.value65 _ l n A c hl4 hc (Kd.C_below HC.out hB)).mono ?_)
        rintro e w2 ⟨rfl, hb2⟩
        have hB2 := below_step hB hb2
        have e0 : (b == !((Lb.valueL n l).toList.isEmpty)) = true := by rw [HE.out]; simp
        go_wp2_with fail
        (with_reducible refine (awake68 _).mono ?_)
        rintro e w3 ⟨rfl, hb3⟩
        go_wp2
        go_ret
        exact ⟨rfl, below_step hB2 hb3⟩
end Go.Proofs.Yteafilojjdfllaa
