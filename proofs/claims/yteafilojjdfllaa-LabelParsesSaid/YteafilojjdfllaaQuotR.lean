/- Own text: the document's Quoted and Text, walked. -/
import Derived.Test.YteafilojjdfllaaLabText
import Derived.Lib.Hide
namespace Go.Proofs.Yteafilojjdfllaa
open Go Go.RowKit Go.Proofs.YteafilojjdfllaaW.PrintWords Go.Proofs.YteafilojjdfllaaW.PrintLast Go.Proofs.YteafilojjdfllaaW.PrintMore Go.Proofs.Yteafilojjdfllaa.PAll
set_option linter.unusedVariables false
set_option linter.unusedSimpArgs false

def digB : ByteArray := ⟨#[48, 49, 50, 51, 52, 53, 54, 55, 56, 57, 97, 98, 99, 100, 101, 102]⟩
theorem u8w : ∀ n : Fin 17, IntKind.u8.wrap ((n.val : Nat) : Int) = ((n.val : Nat) : Int) := by decide +kernel
theorem dig_ext : ∀ n : Fin 16, (⟨#[48, 49, 50, 51, 52, 53, 54, 55, 56, 57, 97, 98, 99, 100, 101, 102]⟩ : ByteArray).extract n.val (n.val + 1) = ⟨#[hexD n.val]⟩ := by decide +kernel
theorem one_ext (s : ByteArray) (j : Nat) (h : j < s.size) : s.extract j (j + 1) = ⟨#[s.data.toList.getD j 0]⟩ := by
  apply ba_ext
  have h' : j < s.data.size := h
  have hl : j < s.data.toList.length := by simpa using h
  simp only [ByteArray.data_extract, Array.toList_extract, List.extract_eq_take_drop, Nat.add_sub_cancel_left]
  rw [List.drop_eq_getElem_cons hl]
  rw [List.getD_eq_getElem?_getD, List.getElem?_eq_getElem hl]
  simp
theorem addS (a b : List UInt8) (h : (a ++ b).length ≤ 1000000000) : Op.stringOp .add ⟨a.toArray⟩ ⟨b.toArray⟩ = pure (.string ⟨(a ++ b).toArray⟩) := add_to (by simp) (by simpa using h)
set_option maxRecDepth 100000 in
set_option maxHeartbeats 8000000 in
/-- the document's Quoted. -/
theorem quoted133 (w : World) (t : ByteArray) (ht : t.size ≤ 1000000) : Calls Try.prog 133 #[.string t] w fun e w' => e = .returned (.string (qB t)) ∧ ∃ m, w' = w.drewN m := by
  suffices h : Calls Try.prog 133 #[.string t] w fun e w' => e = .returned (.string (qB t)) ∧ Drawn0 w w' from h.mono fun _ _ ⟨he, n, hn⟩ => ⟨he, n, hn⟩
  go_enter Try.func133, Try.ntmps133
  go_wp2
  go_loopw [3, 4, 5] (fun u3 u4 _ wr => ∃ (j : Nat) (acc : List UInt8), u4 = .int .i64 j ∧ u3 = .string ⟨acc.toArray⟩ ∧ j ≤ t.size ∧ acc.length ≤ 4 * j + 1 ∧ Hid (quoteT t = acc ++ ((t.data.toList.drop j).flatMap encB ++ [34])) ∧ Drawn0 w wr)
    (fun _ u4 _ _ => t.size - (intOf u4).toNat)
  case atStart => exact ⟨0, [34], rfl, rfl, Nat.zero_le _, by simp, Lib.hid (by unfold quoteT quoteL; rfl), ⟨0, rfl⟩⟩
  case round =>
    obtain ⟨j, acc, rfl, rfl, hj, hal, HA, hB⟩ := hrel
    by_cases hlt : j < t.size
    · obtain ⟨c, hc⟩ : ∃ c, t.data.toList.getD j 0 = c := ⟨_, rfl⟩
      have h1 : t.extract j (j + 1) = ⟨[c].toArray⟩ := by rw [one_ext t j hlt, hc]
      have hx0 : ∀ h : j < t.size, ((t[j]'h).toNat : Int) = (c.toNat : Int) := fun h => by
        have h' : j < t.data.size := h
        rw [← hc, List.getD_eq_getElem?_getD, Array.getElem?_toList, Array.getElem?_eq_getElem h']
        rfl
      have HA1 := Lib.hid (show quoteT t = (acc ++ encB c) ++ ((t.data.toList.drop (j + 1)).flatMap encB ++ [34]) from by rw [HA.out, bdrop t j hlt, hc, List.flatMap_cons]; simp)
      have hcn := c.toNat_lt
      clear hc
      by_cases e1 : c = 34 ∨ c = 92
      · have he : encB c = [92] ++ [c] := by unfold encB; rw [if_pos e1]; rfl
        rw [he] at HA1
        have A1 := addS acc [92] (by simp; omega)
        have A2 := addS (acc ++ [92]) [c] (by simp; omega)
        rcases e1 with e1 | e1
        · have b1 : ((c.toNat : Int) == 34) = true := by rw [e1]; rfl
          clear he e1
          go_wp2
          go_roundw
          case rel => exact ⟨j + 1, acc ++ [92] ++ [c], by go_num, by first | rfl | (simp; done) | exact congrArg Value.string (ba_ext (by simp)), by omega, by simp only [List.length_append, List.length_cons, List.length_nil]; omega, Lib.hid (by rw [HA1.out]; first | done | simp), by repeat (first | exact hB | apply Drawn0.step)⟩
          case measure => simp [intOf]; omega
        · have b0 : ((c.toNat : Int) == 34) = false := by rw [e1]; rfl
          have b1 : ((c.toNat : Int) == 92) = true := by rw [e1]; rfl
          clear he e1
          go_wp2
          go_roundw
          case rel => exact ⟨j + 1, acc ++ [92] ++ [c], by go_num, by first | rfl | (simp; done) | exact congrArg Value.string (ba_ext (by simp)), by omega, by simp only [List.length_append, List.length_cons, List.length_nil]; omega, Lib.hid (by rw [HA1.out]; first | done | simp), by repeat (first | exact hB | apply Drawn0.step)⟩
          case measure => simp [intOf]; omega
      · have b0 : ((c.toNat : Int) == 34) = false := beq_eq_false_iff_ne.2 (fun h => e1 (Or.inl (UInt8.toNat_inj.1 (by have : (34 : UInt8).toNat = 34 := rfl; omega))))
        have b1 : ((c.toNat : Int) == 92) = false := beq_eq_false_iff_ne.2 (fun h => e1 (Or.inr (UInt8.toNat_inj.1 (by have : (92 : UInt8).toNat = 92 := rfl; omega))))
        by_cases e2 : c.toNat < 32 ∨ c.toNat ≥ 127
        · have he : encB c = [92, 120] ++ [hexD (c.toNat / 16)] ++ [hexD (c.toNat % 16)] := by unfold encB; rw [if_neg e1, if_pos e2]; rfl
          rw [he] at HA1
          obtain ⟨q, hq⟩ : ∃ q, c.toNat / 16 = q := ⟨_, rfl⟩
          obtain ⟨r, hr⟩ : ∃ r, c.toNat % 16 = r := ⟨_, rfl⟩
          have hq16 : q < 16 := by omega
          have hr16 : r < 16 := by omega
          rw [hq, hr] at HA1
          have s1 : (⟨#[48, 49, 50, 51, 52, 53, 54, 55, 56, 57, 97, 98, 99, 100, 101, 102]⟩ : ByteArray).extract q (q + 1) = ⟨[hexD q].toArray⟩ := dig_ext ⟨q, hq16⟩
          have s2 : (⟨#[48, 49, 50, 51, 52, 53, 54, 55, 56, 57, 97, 98, 99, 100, 101, 102]⟩ : ByteArray).extract r (r + 1) = ⟨[hexD r].toArray⟩ := dig_ext ⟨r, hr16⟩
          have A1 := addS acc [92, 120] (by simp; omega)
          have A2 := addS (acc ++ [92, 120]) [hexD q] (by simp; omega)
          have A3 := addS (acc ++ [92, 120] ++ [hexD q]) [hexD r] (by simp; omega)
          have td : Int.tdiv (c.toNat : Int) 16 = (q : Int) := by rw [Int.tdiv_eq_ediv_of_nonneg (by omega)]; omega
          have tm : Int.tmod (c.toNat : Int) 16 = (r : Int) := by rw [Int.tmod_eq_emod_of_nonneg (by omega)]; omega
          have ed : (c.toNat : Int) / 16 = (q : Int) := by omega
          have em : (c.toNat : Int) % 16 = (r : Int) := by omega
          have wq : IntKind.u8.wrap ((q : Int) + 1) = (q : Int) + 1 := u8w ⟨q + 1, by omega⟩
          have wr' : IntKind.u8.wrap ((r : Int) + 1) = (r : Int) + 1 := u8w ⟨r + 1, by omega⟩
          have wq0 : IntKind.u8.wrap (q : Int) = (q : Int) := u8w ⟨q, by omega⟩
          have wr0 : IntKind.u8.wrap (r : Int) = (r : Int) := u8w ⟨r, by omega⟩
          clear he e1 hq hr
          rcases Nat.lt_or_ge c.toNat 32 with e3 | e3
          · have n1 : (c.toNat : Int) < 32 := by omega
            go_wp2
            go_quiet (fail)
            go_wp2
            go_roundw
            case rel => exact ⟨j + 1, acc ++ [92, 120] ++ [hexD q] ++ [hexD r], by go_num, by first | rfl | (simp; done) | exact congrArg Value.string (ba_ext (by simp)), by omega, by simp only [List.length_append, List.length_cons, List.length_nil]; omega, Lib.hid (by rw [HA1.out]; first | done | simp), by repeat (first | exact hB | apply Drawn0.step)⟩
            case measure => simp [intOf]; omega
          · have n1 : ¬ (c.toNat : Int) < 32 := by omega
            have n2 : (127 : Int) ≤ (c.toNat : Int) := by omega
            go_wp2
            go_quiet (fail)
            go_wp2
            go_roundw
            case rel => exact ⟨j + 1, acc ++ [92, 120] ++ [hexD q] ++ [hexD r], by go_num, by first | rfl | (simp; done) | exact congrArg Value.string (ba_ext (by simp)), by omega, by simp only [List.length_append, List.length_cons, List.length_nil]; omega, Lib.hid (by rw [HA1.out]; first | done | simp), by repeat (first | exact hB | apply Drawn0.step)⟩
            case measure => simp [intOf]; omega
        · have he : encB c = [c] := by unfold encB; rw [if_neg e1, if_neg e2]
          rw [he] at HA1
          have n1 : ¬ (c.toNat : Int) < 32 := by omega
          have n2 : ¬ (127 : Int) ≤ (c.toNat : Int) := by omega
          have A1 := addS acc [c] (by simp; omega)
          clear he e1 e2
          go_wp2
          go_roundw
          case rel => exact ⟨j + 1, acc ++ [c], by go_num, by first | rfl | (simp; done) | exact congrArg Value.string (ba_ext (by simp)), by omega, by simp only [List.length_append, List.length_cons, List.length_nil]; omega, Lib.hid (by rw [HA1.out]; first | done | simp), by repeat (first | exact hB | apply Drawn0.step)⟩
          case measure => simp [intOf]; omega
    · obtain rfl : j = t.size := by omega
      have A1 := addS acc [34] (by simp; omega)
      have HQ := Lib.hid (show qB t = ⟨(acc ++ [34]).toArray⟩ from by unfold qB; rw [HA.out, List.drop_of_length_le (by simp)]; simp)
      go_wp2
      go_ret
      exact ⟨by rw [HQ.out]; simp, by repeat (first | exact hB | apply Drawn0.step)⟩
theorem commas_snoc : ∀ (xs : List (List UInt8)) (y : List UInt8), xs ≠ [] → commas (xs ++ [y]) = commas xs ++ 44 :: y
  | [], _, h => absurd rfl h
  | [x], y, _ => rfl
  | x :: x' :: xs, y, _ => by
    have ih := commas_snoc (x' :: xs) y (by simp)
    show x ++ 44 :: commas ((x' :: xs) ++ [y]) = (x ++ 44 :: commas (x' :: xs)) ++ 44 :: y
    rw [ih]; simp
theorem text_snoc (l : List S68) (j : Nat) (h : j < l.length) : textS (l.take (j + 1)) = (if j = 0 then [] else textS (l.take j) ++ [44]) ++ labL (l.getD j z68) := by
  rw [takeD l z68 j h]
  unfold textS
  rw [List.map_append]
  by_cases hj : j = 0
  · subst hj; rfl
  · rw [if_neg hj, List.map_singleton, commas_snoc _ _ (by intro e; have := congrArg List.length e; rw [List.length_map, List.length_take, List.length_nil] at this; omega)]
    simp
set_option maxRecDepth 100000 in
set_option maxHeartbeats 8000000 in
/-- the document's Text. -/
theorem text85 (w : World) (l : List S68) (A : Option Addr) (c : Nat) (h8 : l.length ≤ 9) (hok : ∀ x ∈ l, okS x = true) (hC : Kd.C k68 w A l.length l) :
    Calls Try.prog 85 #[.slice A l.length c] w fun e w' => e = .returned (.string (textB l)) ∧ Below w.heap.size w w' := by
  have HC := Lib.hid hC
  have HOK := Lib.hid hok
  clear hC hok
  go_enter Try.func85, Try.ntmps85
  go_wp2
  go_loopw [3, 4] (fun u3 u4 wr => ∃ (j : Nat) (acc : List UInt8), u4 = .int .i64 j ∧ u3 = .string ⟨acc.toArray⟩ ∧ j ≤ l.length ∧ acc.length ≤ 401 * j ∧ Hid (textS (l.take j) = acc) ∧ Below w.heap.size w wr)
    (fun _ u4 _ => l.length - (intOf u4).toNat)
  case atStart => exact ⟨0, [], rfl, rfl, Nat.zero_le _, Nat.zero_le _, Lib.hid rfl, Below.refl _ _⟩
  case round =>
    obtain ⟨j, acc, rfl, rfl, hj, hal, HA, hB⟩ := hrel
    by_cases hlt : j < l.length
    · obtain ⟨ad, rfl, a0, a1⟩ := at_lab (Kd.C_below HC.out hB) j hlt
      have Htk := Lib.hid (text_snoc l j hlt)
      have Hx := Lib.hid (HOK.out (l.getD j z68) (by rw [List.getD_eq_getElem?_getD, List.getElem?_eq_getElem hlt]; exact List.getElem_mem hlt))
      obtain ⟨x, ex⟩ : ∃ x, l.getD j z68 = x := ⟨_, rfl⟩
      rw [ex] at a0 a1 Htk Hx
      clear ex
      obtain ⟨hl0, hl1, hl2⟩ := okS_len Hx.out
      by_cases j0 : j = 0
      · have HK := Lib.hid (show textS (l.take (j + 1)) = acc ++ labL x from by rw [Htk.out, if_pos j0, ← HA.out, j0]; rfl)
        obtain ⟨S1, hS1⟩ : ∃ S : ByteArray, S = ⟨(acc ++ x.f0.data.toList).toArray⟩ := ⟨_, rfl⟩
        obtain ⟨S2, hS2⟩ : ∃ S : ByteArray, S = ⟨(acc ++ x.f0.data.toList ++ [61]).toArray⟩ := ⟨_, rfl⟩
        obtain ⟨S3, hS3⟩ : ∃ S : ByteArray, S = ⟨(acc ++ labL x).toArray⟩ := ⟨_, rfl⟩
        have A2 : Op.stringOp .add S1 ⟨#[61]⟩ = pure (.string S2) := add_to (by rw [hS1, hS2]; first | done | simp) (by rw [hS2]; simp only [List.length_append, List.length_cons, List.length_nil]; omega)
        have A3 : Op.stringOp .add S2 (qB x.f1) = pure (.string S3) := add_to (by rw [hS2, hS3]; simp [qB, labL]) (by rw [hS3]; simp only [List.length_append, List.length_cons, List.length_nil]; omega)
        have A1 : Op.stringOp .add ⟨acc.toArray⟩ x.f0 = pure (.string S1) := add_to (by rw [hS1]) (by rw [hS1]; simp only [List.length_append]; omega)
        have n0 : ¬ (0 : Int) < (j : Int) := by omega
        have n0b : decide ((0 : Int) < (j : Int)) = false := decide_eq_false n0
        have HS3 := Lib.hid hS3
        clear j0 hS1 hS2 hS3
        go_wp2
        go_quiet (first | (go_at_call 133; exact Calls.quiet_of (quoted133 _ x.f1 (by omega))))
        go_wp2
        go_roundw
        case rel => exact ⟨j + 1, acc ++ labL x, by go_num, by rw [HS3.out], by omega, by simp only [List.length_append, List.length_cons, List.length_nil]; omega, HK, by repeat (first | exact hB | apply pw_below_drewN | apply below_drew)⟩
        case measure => simp [intOf]; omega
      · have HK := Lib.hid (show textS (l.take (j + 1)) = acc ++ [44] ++ labL x from by rw [Htk.out, if_neg j0, HA.out])
        obtain ⟨S1, hS1⟩ : ∃ S : ByteArray, S = ⟨(acc ++ [44] ++ x.f0.data.toList).toArray⟩ := ⟨_, rfl⟩
        obtain ⟨S2, hS2⟩ : ∃ S : ByteArray, S = ⟨(acc ++ [44] ++ x.f0.data.toList ++ [61]).toArray⟩ := ⟨_, rfl⟩
        obtain ⟨S3, hS3⟩ : ∃ S : ByteArray, S = ⟨(acc ++ [44] ++ labL x).toArray⟩ := ⟨_, rfl⟩
        have A2 : Op.stringOp .add S1 ⟨#[61]⟩ = pure (.string S2) := add_to (by rw [hS1, hS2]; first | done | simp) (by rw [hS2]; simp only [List.length_append, List.length_cons, List.length_nil]; omega)
        have A3 : Op.stringOp .add S2 (qB x.f1) = pure (.string S3) := add_to (by rw [hS2, hS3]; simp [qB, labL]) (by rw [hS3]; simp only [List.length_append, List.length_cons, List.length_nil]; omega)
        obtain ⟨S0, hS0⟩ : ∃ S : ByteArray, S = ⟨(acc ++ [44]).toArray⟩ := ⟨_, rfl⟩
        have A0 : Op.stringOp .add ⟨acc.toArray⟩ ⟨#[44]⟩ = pure (.string S0) := add_to (by rw [hS0]) (by rw [hS0]; simp only [List.length_append, List.length_cons, List.length_nil]; omega)
        have A1 : Op.stringOp .add S0 x.f0 = pure (.string S1) := add_to (by rw [hS0, hS1]) (by rw [hS1]; simp only [List.length_append, List.length_cons, List.length_nil]; omega)
        have n0 : (0 : Int) < (j : Int) := by omega
        have n0b : decide ((0 : Int) < (j : Int)) = true := decide_eq_true n0
        have HS3 := Lib.hid hS3
        clear j0 hS1 hS2 hS3 hS0
        go_wp2
        go_quiet (first | (go_at_call 133; exact Calls.quiet_of (quoted133 _ x.f1 (by omega))))
        go_wp2
        go_roundw
        case rel => exact ⟨j + 1, acc ++ [44] ++ labL x, by go_num, by rw [HS3.out], by omega, by simp only [List.length_append, List.length_cons, List.length_nil]; omega, HK, by repeat (first | exact hB | apply pw_below_drewN | apply below_drew)⟩
        case measure => simp [intOf]; omega
    · obtain rfl : j = l.length := by omega
      have HQ := Lib.hid (show textB l = ⟨acc.toArray⟩ from by unfold textB; rw [← HA.out, List.take_length])
      go_wp2
      go_ret
      exact ⟨by rw [HQ.out]; rfl, hB⟩
end Go.Proofs.Yteafilojjdfllaa
