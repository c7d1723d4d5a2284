/- Own text: VintP, BytesW, BytesR, RefNum, RefTxt, laid into one text. -/
import Derived.Test.YteafilojjdfllaaChk
import Derived.Lib.Hide
import Derived.ArgAppend
import Derived.Laws.Bits64b
import Derived.Lib.LazyBuf
namespace Go.Proofs.Yteafilojjdfllaa
section
open Go Go.Proofs.Yteafilojjdfllaa.PAll

/-! ### numbers as bytes -/
def encV (v : Nat) : List UInt8 := if v < 128 then [v.toUInt8] else (v % 128 + 128).toUInt8 :: encV (v / 128)
termination_by v
decreasing_by omega
theorem encV_small {v : Nat} (h : v < 128) : encV v = [v.toUInt8] := by rw [encV, if_pos h]
theorem encV_great {v : Nat} (h : ¬ v < 128) : encV v = (v % 128 + 128).toUInt8 :: encV (v / 128) := by rw [encV, if_neg h]
theorem encV_ne (v : Nat) : encV v ≠ [] := by
  rw [encV]; split <;> simp
/-- a number read: its place among ten bytes, what there is so far -/
def decV : Nat → Nat → List UInt8 → Option (Nat × List UInt8)
  | _, _, [] => none
  | i, acc, x :: r =>
    if 10 ≤ i then none
    else if i = 9 ∧ 1 < x.toNat then none
    else if x.toNat < 128 then (if 0 < i ∧ x.toNat = 0 then none else some (acc + x.toNat * 2 ^ (7 * i), r))
    else decV (i + 1) (acc + (x.toNat - 128) * 2 ^ (7 * i)) r
theorem decV_enc (t : List UInt8) : ∀ (k i acc v : Nat), i + k = 9 → v < 2 ^ (64 - 7 * i) → (0 < i → 0 < v) → decV i acc (encV v ++ t) = some (acc + v * 2 ^ (7 * i), t)
  | k, i, acc, v, hk, hv, h0 => by
    by_cases h : v < 128
    · rw [encV_small h, List.singleton_append, decV, if_neg (by omega)]
      have e : (v.toUInt8).toNat = v := by simp; omega
      rw [e, if_neg ?_, if_pos h, if_neg (by omega)]
      rintro ⟨rfl, h9⟩
      have : (2 : Nat) ^ (64 - 7 * 9) = 2 := rfl
      omega
    · rw [encV_great h, List.cons_append, decV, if_neg (by omega)]
      have e : ((v % 128 + 128).toUInt8).toNat = v % 128 + 128 := by simp; omega
      have hi : i < 9 := by
        rcases Nat.lt_or_ge i 9 with h9 | h9
        · exact h9
        · have : i = 9 := by omega
          subst this
          have : (2 : Nat) ^ (64 - 7 * 9) = 2 := rfl
          omega
      obtain ⟨k, rfl⟩ : ∃ q, k = q + 1 := ⟨k - 1, by omega⟩
      rw [e, if_neg (by omega), if_neg (by omega), Nat.add_sub_cancel]
      have hp : (2 : Nat) ^ (64 - 7 * i) = 128 * 2 ^ (64 - 7 * (i + 1)) := by
        rw [show 64 - 7 * i = (64 - 7 * (i + 1)) + 7 by omega, Nat.pow_add]; omega
      rw [decV_enc t k (i + 1) _ (v / 128) (by omega) (by rw [hp] at hv; omega) (by omega)]
      have h2 : (2 : Nat) ^ (7 * (i + 1)) = 128 * 2 ^ (7 * i) := by
        rw [show 7 * (i + 1) = 7 * i + 7 by omega, Nat.pow_add]; omega
      rw [h2]
      congr 2
      have h3 : v / 128 * (128 * 2 ^ (7 * i)) = (v / 128 * 128) * 2 ^ (7 * i) := by rw [Nat.mul_assoc]
      rw [h3, Nat.add_assoc, ← Nat.add_mul]
      congr 2
      omega
theorem decV_num (v : Nat) (h : v < 2 ^ 64) (t : List UInt8) : decV 0 0 (encV v ++ t) = some (v, t) := by
  rw [decV_enc t 9 0 0 v (by omega) h (by omega)]; simp
theorem decV_bound : ∀ (l : List UInt8) (i acc : Nat) (v : Nat) (r : List UInt8), acc < 2 ^ (7 * i) → decV i acc l = some (v, r) → v < 2 ^ 64 ∧ r.length < l.length
  | [], _, _, _, _, _, h => by rw [decV] at h; cases h
  | x :: l, i, acc, v, r, ha, h => by
    have hx := x.toNat_lt
    rw [decV] at h
    split at h
    · cases h
    · next hi =>
      have hp : (2 : Nat) ^ (7 * (i + 1)) = 128 * 2 ^ (7 * i) := by
        rw [show 7 * (i + 1) = 7 * i + 7 by omega, Nat.pow_add]; omega
      split at h
      · cases h
      · next h9 =>
        split at h
        · next h128 =>
          split at h
          · cases h
          · simp only [Option.some.injEq, Prod.mk.injEq] at h
            obtain ⟨rfl, rfl⟩ := h
            refine ⟨?_, by simp⟩
            by_cases e9 : i = 9
            · subst e9
              have h1 : x.toNat ≤ 1 := by omega
              have h2 : x.toNat * 2 ^ (7 * 9) ≤ 1 * 2 ^ (7 * 9) := Nat.mul_le_mul_right _ h1
              have : (2 : Nat) ^ 64 = 2 ^ (7 * 9) + 2 ^ (7 * 9) := by decide
              omega
            · have h3 : (2 : Nat) ^ (7 * (i + 1)) ≤ 2 ^ 64 := Nat.pow_le_pow_right (by decide) (by omega)
              have h4 : acc + x.toNat * 2 ^ (7 * i) < 2 ^ (7 * i) + x.toNat * 2 ^ (7 * i) := by omega
              have h5 : 2 ^ (7 * i) + x.toNat * 2 ^ (7 * i) = (x.toNat + 1) * 2 ^ (7 * i) := by rw [Nat.add_mul]; omega
              have h6 : (x.toNat + 1) * 2 ^ (7 * i) ≤ 128 * 2 ^ (7 * i) := Nat.mul_le_mul_right _ (by omega)
              omega
        · next h128 =>
          have hacc : acc + (x.toNat - 128) * 2 ^ (7 * i) < 2 ^ (7 * (i + 1)) := by
            have h4 : acc + (x.toNat - 128) * 2 ^ (7 * i) < 2 ^ (7 * i) + (x.toNat - 128) * 2 ^ (7 * i) := by omega
            have h5 : 2 ^ (7 * i) + (x.toNat - 128) * 2 ^ (7 * i) = (x.toNat - 128 + 1) * 2 ^ (7 * i) := by rw [Nat.add_mul]; omega
            have h6 : (x.toNat - 128 + 1) * 2 ^ (7 * i) ≤ 128 * 2 ^ (7 * i) := Nat.mul_le_mul_right _ (by omega)
            omega
          obtain ⟨h1, h2⟩ := decV_bound l (i + 1) _ v r hacc h
          exact ⟨h1, by simp only [List.length_cons]; omega⟩
/-! ### texts as bytes -/
def encT (s : List UInt8) : List UInt8 := encV s.length ++ s
/-- a text of at most so many bytes -/
def decT (most : Nat) (l : List UInt8) : Option (List UInt8 × List UInt8) :=
  match decV 0 0 l with
  | none => none
  | some (n, r) => if n ≤ most ∧ n ≤ r.length then some (r.take n, r.drop n) else none
theorem decT_enc (most : Nat) (s t : List UInt8) (h : s.length ≤ most) (h2 : s.length < 2 ^ 64) : decT most (encT s ++ t) = some (s, t) := by
  unfold decT encT
  rw [List.append_assoc, decV_num _ h2]
  simp only
  rw [if_pos ⟨h, by simp⟩]
  simp
theorem decT_len {most : Nat} {l s r : List UInt8} (h : decT most l = some (s, r)) : 1 + s.length + r.length ≤ l.length ∧ s.length ≤ most := by
  unfold decT at h
  split at h
  · cases h
  · next n q hq =>
    split at h
    · next hn =>
      simp only [Option.some.injEq, Prod.mk.injEq] at h
      obtain ⟨rfl, rfl⟩ := h
      have := (decV_bound l 0 0 n q (by decide) hq).2
      simp only [List.length_take, List.length_drop]
      omega
    · cases h
/-! ### signed numbers -/
def zig (v : Int) : Nat := if v < 0 then (-(v + 1) * 2 + 1).toNat else (v * 2).toNat
def zag (n : Nat) : Int := if n % 2 = 1 then -((n / 2 : Nat) : Int) - 1 else ((n / 2 : Nat) : Int)
theorem zag_zig (v : Int) : zag (zig v) = v := by
  unfold zag zig
  by_cases h : v < 0
  · rw [if_pos h, if_pos (by omega)]; omega
  · rw [if_neg h, if_neg (by omega)]; omega
end
section
open Go Go.RowKit Go.Proofs.YteafilojjdfllaaW.PrintWords Go.Proofs.YteafilojjdfllaaW.PrintLast Go.Proofs.YteafilojjdfllaaW.PrintMore Go.Proofs.Yteafilojjdfllaa.PAll
set_option linter.unusedVariables false
set_option linter.unusedSimpArgs false

def bys (l : List UInt8) : List Int := l.map fun b => (b.toNat : Int)
theorem bys_app (a b : List UInt8) : bys (a ++ b) = bys a ++ bys b := by simp [bys]
theorem bys_len (a : List UInt8) : (bys a).length = a.length := by simp [bys]
theorem bys_bytes (s : ByteArray) : bytesOf s = bys s.data.toList := by simp [bytesOf, bys]
theorem infoBy : (Try.prog.info? 5).map (fun i => (i.zero, i.size, i.bytes)) = some (some (.int .u8 0), 1, 1) := by kernel_rfl
/-- bytes that may be appended to: a row of the call's own, or one with no room behind it -/
def BR (W : World) (base : Nat) (v : Value) (xs : List UInt8) : Prop :=
  (Kd.int .u8).R 5 W base (fun _ => True) v (bys xs) ∨ ∃ A, v = .slice A xs.length xs.length ∧ (Kd.int .u8).C W A xs.length (bys xs)
theorem BR.below {W W1 : World} {base : Nat} {v : Value} {xs : List UInt8} (h : BR W base v xs) (hb : Below W.heap.size W W1) : BR W1 base v xs := by
  rcases h with h | ⟨A, e, h⟩
  · exact .inl (Kd.R_below h hb)
  · exact .inr ⟨A, e, Kd.C_below h hb⟩
theorem own_R {W : World} {base n : Nat} {v : Value} {xs : List Int} (h : W.ownsRow base 5 1 v n (nums .u8 xs)) (hn : xs.length = n) : (Kd.int .u8).R 5 W base (fun _ => True) v xs := by
  subst hn
  exact Kd.R_of_own (enc := Value.int .u8) (h1 := fun _ => rfl) h (fun _ _ => trivial)
section
variable {ops : Array Oper} {rest : List Oper} {o : Oper} {a : Act} {Q : Exit → Act → World → Prop}
theorem BR_append {w0 W : World} (base : Nat) (hgd : o.guard = none) (s x : Operand)
    (ho : o.op = .call { callee := .builtin .append, args := #[s, x], argTypes := #[85, 85] })
    (v : Value) (xs : List UInt8) (p : UInt8) (z : Int) (hz : z = (p.toNat : Int)) (hs : a.eval s = v) (hx : a.eval x = .slice (some ⟨W.heap.size, 0, none⟩) 1 1)
    (HV : BR W base v xs) (HB : Below base w0 W) (hbase : base ≤ W.heap.size) (hl : xs.length + 1 ≤ 140737488355327)
    (h : ∀ v1 w1, (Kd.int .u8).R 5 w1 base (fun _ => True) v1 (bys (xs ++ [p])) → Below base w0 w1 → wpList Try.prog ops Q rest (a.put o.dst v1) w1) :
    wpList Try.prog ops Q (o :: rest) a (W.alloc (.cells #[.int .u8 z] 5)) := by
  subst hz
  rcases HV with HO | ⟨A, rfl, hC⟩
  · refine Kd.R_append (Kd.int .u8) (w0 := w0) base hgd s x 85 5 (.int .u8 0) 1 ho Try.underlying85 infoBy rfl (by decide) (by decide) v (bys xs) (p.toNat : Int) [.int .u8 (p.toNat : Int)] (fun _ => True) (fun _ => False) hs hx rfl (fun _ hk => hk.elim) (fun _ _ => trivial) HO HB hbase (by rw [bys_len]; omega) ?_
    intro v1 w1 h1 h2 _ _
    exact h v1 w1 (by rw [bys_app]; exact h1) h2
  · obtain ⟨i0, hi, hzz⟩ := Option.map_eq_some_iff.1 infoBy
    simp only [Prod.mk.injEq] at hzz
    obtain ⟨hz0, hz1, hz2⟩ := hzz
    have hb2 := below_alloc (Below.refl W.heap.size W) (.cells #[.int .u8 (p.toNat : Int)] 5)
    have hR := Kd.reads_of_C (enc := Value.int .u8) (d := (0 : Int)) (h1 := fun _ => rfl) (Kd.C_below hC hb2)
    refine wpList_append_grows (P := Try.prog) (W.alloc (.cells #[.int .u8 (p.toNat : Int)] 5)) hgd s x 85 ho 5 i0 (.int .u8 0) 1 1 Try.underlying85 hi hz0 hz1 hz2 rfl (by decide) A xs.length xs.length (nums .u8 (bys xs)) hs (fun e => ?_) (by simp [nums, bys]) (fun b e j u hj => ?_) ⟨W.heap.size, 0, none⟩ 1 1 [.int .u8 (p.toNat : Int)] hx rfl (fun j u hj => ?_) (by simp [Value.oneCell']) (by omega) (by simp only [maxLen]; omega) (by omega) ?_
    · rcases Nat.eq_zero_or_pos xs.length with h0 | h0
      · exact ⟨h0, h0⟩
      · obtain ⟨ad, e2, _⟩ := hR.2.2 h0
        rw [e] at e2; cases e2
    · have hj' : j < (bys xs).length := by
        rcases Nat.lt_or_ge j (bys xs).length with h | h
        · exact h
        · rw [nums, List.getElem?_eq_none (by simpa using h)] at hj; cases hj
      obtain ⟨ad, e2, hc⟩ := hR.2.2 (by rw [bys_len] at hj'; omega)
      rw [e] at e2; cases e2
      rw [hc j (by rw [bys_len] at hj'; exact hj')]
      rw [nums, List.getElem?_map, List.getElem?_eq_getElem hj'] at hj
      cases hj
      rw [List.getD_eq_getElem?_getD, List.getElem?_eq_getElem hj']
      rfl
    · cases j with
      | zero =>
        cases hj
        simp [Addr.add]
      | succ j => simp at hj
    · intro v' w' hown hg
      have hown2 : w'.ownsRow base 5 1 v' (xs.length + 1) (nums .u8 (bys (xs ++ [p]))) := by
        have e : nums .u8 (bys xs) ++ [.int .u8 (p.toNat : Int)] = nums .u8 (bys (xs ++ [p])) := by simp [nums, bys]
        rw [← e]
        exact own_weaken hown (by have := hb2.size; omega)
      refine h v' w' (own_R hown2 (by rw [bys_len]; simp)) ?_
      exact (HB.trans (hb2.mono hbase)).grown hg (by have := hb2.size; omega) (fun k hk => by cases hk)
end
theorem encV_len : ∀ (k v : Nat), 0 < k → v < 2 ^ (7 * k) → (encV v).length ≤ k
  | 0, v, h, _ => absurd h (Nat.lt_irrefl 0)
  | k + 1, v, _, h => by
    by_cases hv : v < 128
    · rw [encV_small hv]; simp
    · rw [encV_great hv, List.length_cons]
      cases k with
      | zero => simp at h; omega
      | succ k =>
        have hp : (2 : Nat) ^ (7 * (k + 1 + 1)) = 128 * 2 ^ (7 * (k + 1)) := by rw [show 7 * (k + 1 + 1) = 7 * (k + 1) + 7 by omega, Nat.pow_add]; omega
        have := encV_len (k + 1) (v / 128) (by omega) (by rw [hp] at h; omega)
        omega
theorem encV_ten {v : Nat} (h : v < 18446744073709551616) : (encV v).length ≤ 10 := encV_len 10 v (by decide) (Nat.lt_of_lt_of_le h (by decide))
theorem or128 : ∀ n : Fin 256, Go.bits .or .u8 (n.val : Int) 128 = (((n.val % 128 + 128).toUInt8.toNat : Nat) : Int) := by decide +kernel
theorem put_more (v : Nat) : Go.bits .or .u8 ((v : Int) % 256) 128 = (((v % 128 + 128).toUInt8.toNat : Nat) : Int) := by
  have h := or128 ⟨v % 256, Nat.mod_lt _ (by decide)⟩
  simp only at h
  rw [show v % 256 % 128 = v % 128 by omega] at h
  rw [← h]
  simp
theorem put_last {v : Nat} (h : v < 128) : (v : Int) = ((v.toUInt8.toNat : Nat) : Int) := by simp; omega

set_option maxRecDepth 100000 in
set_option maxHeartbeats 4000000 in
/-- vint.own. -/
theorem own163 (w : World) (A : Option Addr) (n c : Nat) (hc : n ≤ c) (hn : n ≤ 4611686018427387904) : Calls Try.prog 163 #[.slice A n c] w fun e w' => e = .returned (.slice A n n) ∧ w' = w := by
  go_enter Try.func163, Try.ntmps163
  go_wp2
  go_ret
  exact ⟨rfl, rfl⟩
set_option maxRecDepth 100000 in
set_option maxHeartbeats 8000000 in
/-- vint.put. -/
theorem put162 (w : World) (A : Option Addr) (bs : List UInt8) (v : Nat) (hv : v < 18446744073709551616) (hl : bs.length ≤ 140737488355000) (hC : (Kd.int .u8).C w A bs.length (bys bs)) :
    Calls Try.prog 162 #[.slice A bs.length bs.length, .int .u64 v] w fun e w' => ∃ o, e = .returned o ∧ (Kd.int .u8).R 5 w' w.heap.size (fun _ => True) o (bys (bs ++ encV v)) ∧ Below w.heap.size w w' := by
  have HC := Lib.hid hC
  have h10 := encV_ten hv
  clear hC
  go_enter Try.func162, Try.ntmps162
  go_wp2
  go_loopw [0, 1] (fun u0 u1 wr => ∃ (xs : List UInt8) (v' : Nat), u1 = .int .u64 v' ∧ v' < 18446744073709551616 ∧ xs.length ≤ bs.length + 10 ∧ Hid (bs ++ encV v = xs ++ encV v') ∧ Hid (BR wr w.heap.size u0 xs) ∧ Hid (Below w.heap.size w wr)) (fun _ u1 _ => (intOf u1).toNat)
  case atStart => exact ⟨bs, v, rfl, hv, by omega, Lib.hid rfl, Lib.hid (.inr ⟨A, rfl, HC.out⟩), Lib.hid (Below.refl _ _)⟩
  case round =>
    obtain ⟨xs, v', rfl, hv', hxl, HE, HR, HB⟩ := hrel
    by_cases h128 : v' < 128
    · have t1 : ¬ (128 : Int) ≤ (v' : Int) := by omega
      have hp := put_last h128
      obtain ⟨p, ep⟩ : ∃ p, v'.toUInt8 = p := ⟨_, rfl⟩
      rw [ep] at hp
      have HE2 := Lib.hid (show bs ++ encV v = xs ++ [p] from by rw [HE.out, encV_small h128, ep])
      have HP := Lib.hid hp
      clear ep hp
      go_wp2_with (at_builtin; refine BR_append (w0 := w) w.heap.size rfl (.tmp 15) (.tmp 18) rfl u0 xs p (v' : Int) HP.out rfl (by first | rfl | simp) HR.out HB.out (below_size HB.out) (by omega) ?_; intro v1 w1 hown1 hbel1; have HR1 := Lib.hid hown1; clear hown1)
      go_ret
      exact ⟨_, rfl, by rw [HE2.out]; exact HR1.out, hbel1⟩
    · have t1 : (128 : Int) ≤ (v' : Int) := by omega
      have hp := put_more v'
      obtain ⟨p, ep⟩ : ∃ p, (v' % 128 + 128).toUInt8 = p := ⟨_, rfl⟩
      rw [ep] at hp
      obtain ⟨v2, ev2⟩ : ∃ v2, v' / 128 = v2 := ⟨_, rfl⟩
      have hv2 : (v' : Int) / 128 = (v2 : Int) := by omega
      have hv2' : v2 < v' := by omega
      have hlen : (xs ++ [p]).length + (encV v2).length = bs.length + (encV v).length := by
        have := congrArg List.length HE.out
        rw [encV_great h128, ep, ev2] at this
        simp only [List.length_append, List.length_cons] at this ⊢
        simp
        omega
      have HE2 := Lib.hid (show bs ++ encV v = (xs ++ [p]) ++ encV v2 from by rw [HE.out, encV_great h128, ep, ev2]; simp)
      have hlen2 : (xs ++ [p]).length ≤ bs.length + 10 := by omega
      clear ep ev2 h128 hlen
      go_wp2_with (at_builtin; refine BR_append (w0 := w) w.heap.size rfl (.tmp 7) (.tmp 11) rfl u0 xs p _ rfl rfl (by first | rfl | simp) HR.out HB.out (below_size HB.out) (by omega) ?_; intro v1 w1 hown1 hbel1; have HR1 := Lib.hid hown1; clear hown1)
      go_roundw
      case rel => exact ⟨xs ++ [p], v2, rfl, by omega, hlen2, HE2, Lib.hid (.inl HR1.out), Lib.hid hbel1⟩
      case measure => simp [intOf]; omega
/-- bytes in memory of the call's own -/
def PutPost (w : World) (xs : List UInt8) (e : Ending) (w' : World) : Prop :=
  ∃ A n c, e = .returned (.slice A n c) ∧ Hid (xs.length = n) ∧ n ≤ c ∧ Hid ((Kd.int .u8).R 5 w' w.heap.size (fun _ => True) (.slice A n c) (bys xs)) ∧ Below w.heap.size w w'
theorem PutPost.of {w w' : World} {xs : List UInt8} {o : Value} (h : (Kd.int .u8).R 5 w' w.heap.size (fun _ => True) o (bys xs)) (hb : Below w.heap.size w w') : PutPost w xs (.returned o) w' := by
  obtain ⟨A, c, rfl, hc, -⟩ := Kd.R_reads h
  rw [bys_len] at h hc ⊢
  exact ⟨A, _, c, rfl, Lib.hid rfl, hc, Lib.hid h, hb⟩
theorem R_C {W : World} {base : Nat} {A : Option Addr} {n c : Nat} {xs : List UInt8} (h : (Kd.int .u8).R 5 W base (fun _ => True) (.slice A n c) (bys xs)) : (Kd.int .u8).C W A xs.length (bys xs) := by
  have := (Kd.R_reads' h).2.2
  rwa [bys_len] at this
theorem post_slice {w w2 : World} {xs : List UInt8} {v : Value} (h : PutPost w xs (.returned v) w2) : ∃ A n c, v = .slice A n c := by
  obtain ⟨A, n, c, e, _⟩ := h
  injection e with e
  exact ⟨A, n, c, e⟩
theorem text_post {w w2 : World} {bs X : List UInt8} {s : ByteArray} {v : Value} (hX : X = bs ++ encV s.size) (h : w2.ownsRow w.heap.size 5 1 v (bys X ++ bytesOf s).length (nums .u8 (bys X ++ bytesOf s))) (hb : Below w.heap.size w w2) : PutPost w (bs ++ encT s.data.toList) (.returned v) w2 := by
  subst hX
  have e : bys (bs ++ encV s.size) ++ bytesOf s = bys (bs ++ encT s.data.toList) := by
    unfold encT
    rw [show s.data.toList.length = s.size by simp, ← List.append_assoc, bys_app _ s.data.toList, bys_bytes]
  rw [e] at h
  exact PutPost.of (own_R h rfl) hb
set_option maxRecDepth 100000 in
set_option maxHeartbeats 4000000 in
/-- vint.Put. -/
theorem put114 (w : World) (A : Option Addr) (n c : Nat) (bs : List UInt8) (v : Nat) (hn : bs.length = n) (hc : n ≤ c) (hv : v < 18446744073709551616) (hl : n ≤ 140737488355000) (hC : (Kd.int .u8).C w A bs.length (bys bs)) :
    Calls Try.prog 114 #[.slice A n c, .int .u64 v] w (PutPost w (bs ++ encV v)) := by
  have h1 := Lib.hid (own163 w A n c hc (by omega))
  have h2 := put162 w A bs v hv (by omega) hC
  rw [hn] at h2
  have H2 := Lib.hid h2
  clear hC h2 hn
  go_enter Try.func114, Try.ntmps114
  go_wp2_with fail
  (with_reducible refine h1.out.mono ?_)
  rintro e w1 ⟨rfl, rfl⟩
  go_wp2_with fail
  (with_reducible refine H2.out.mono ?_)
  rintro e w2 ⟨o, rfl, hR, hB⟩
  have HP := Lib.hid (PutPost.of hR hB)
  clear hR hB
  go_wp2
  go_ret
  exact HP.out
set_option maxRecDepth 100000 in
set_option maxHeartbeats 8000000 in
/-- vint.PutText. -/
theorem putText127 (w : World) (A : Option Addr) (n c : Nat) (bs : List UInt8) (s : ByteArray) (hn : bs.length = n) (hc : n ≤ c) (hs : s.size ≤ 1000000000000) (hl : n + s.size ≤ 140737488354900) (hC : (Kd.int .u8).C w A bs.length (bys bs)) :
    Calls Try.prog 127 #[.slice A n c, .string s] w (PutPost w (bs ++ encT s.data.toList)) := by
  have h1 := put114 w A n c bs s.size hn hc (by omega) (by omega) hC
  have h10 := encV_ten (v := s.size) (by omega)
  obtain ⟨X, hX⟩ : ∃ X, bs ++ encV s.size = X := ⟨_, rfl⟩
  have hXl : X.length ≤ n + 10 := by rw [← hX, List.length_append]; omega
  rw [hX] at h1
  have HX := Lib.hid hX.symm
  have H1 := Lib.hid h1
  clear hC hX h1 hn
  go_enter Try.func127, Try.ntmps127
  go_wp2_with fail
  (with_reducible refine H1.out.mono ?_)
  rintro e w1 ⟨B, m, d, rfl, HN, hd, HR, hB⟩
  have HO := Lib.hid (Kd.own_of_R HR.out)
  have HB := Lib.hid hB
  clear HR hB
  go_wp2_with (at_builtin; refine print_append_str (w0 := w) w.heap.size rfl (.tmp 9) (.tmp 10) 85 9 5 rfl Try.underlying85 Try.underlying9 infoBy (.slice B m d) (bys X) s rfl rfl HO.out HB.out (below_size HB.out) (by rw [bys_len]; omega) ?_; intro v2 w2 hown2 hb2 hg2; have HP := Lib.hid (text_post HX.out hown2 hb2); clear hown2 hb2 hg2; obtain ⟨B2, m2, d2, e2⟩ := post_slice HP.out; subst e2)
  go_ret
  exact HP.out
set_option maxRecDepth 100000 in
set_option maxHeartbeats 4000000 in
/-- varvelaw00.Bytes. -/
theorem bytes73 (w : World) (A : Option Addr) (n c : Nat) (bs : List UInt8) (hn : bs.length = n) (hl : n ≤ 140737488355328) (hC : (Kd.int .u8).C w A bs.length (bys bs)) :
    Calls Try.prog 73 #[.slice A n c] w (PutPost w bs) := by
  have hR := Kd.reads_of_C (enc := Value.int .u8) (d := (0 : Int)) (h1 := fun _ => rfl) hC
  rw [hn] at hR
  have HR := Lib.hid hR
  have hbl : (bys bs).length ≤ 140737488355328 := by rw [bys_len]; omega
  clear hC hR hn
  go_enter Try.func73, Try.ntmps73
  go_wp2_with (at_builtin; refine print_append_row_of (w0 := w) (W := w) (Value.int .u8) (0 : Int) w.heap.size rfl (.const (.slice none 0 0)) (.tmp 3) 85 5 (.int .u8 0) 1 rfl Try.underlying85 infoBy rfl (by decide) (fun _ => rfl) (.slice none 0 0) [] (bys bs) A n c rfl rfl (own_nil _ _ _ _) HR.out (Below.refl _ _) (Nat.le_refl _) (by simp; omega) ?_; intro v2 w2 hown2 hb2 hg2 hat2; rw [List.nil_append] at hown2; have HP := Lib.hid (PutPost.of (own_R hown2 rfl) hb2); clear hown2 hb2 hg2 hat2; obtain ⟨B2, m2, d2, e2⟩ := post_slice HP.out; subst e2)
  go_ret
  exact HP.out
set_option maxRecDepth 100000 in
set_option maxHeartbeats 8000000 in
/-- the document's Put. -/
theorem rput118 (w : World) (v : Nat) (hv : v < 18446744073709551616) : Calls Try.prog 118 #[.int .u64 v] w (PutPost w (encV v)) := by
  have h10 := encV_ten hv
  go_enter Try.func118, Try.ntmps118
  go_wp2
  go_loopw [0, 3] (fun u0 u3 wr => ∃ (xs : List UInt8) (v' : Nat), u0 = .int .u64 v' ∧ v' < 18446744073709551616 ∧ xs.length ≤ 10 ∧ Hid (encV v = xs ++ encV v') ∧ Hid (BR wr w.heap.size u3 xs) ∧ Hid (Below w.heap.size w wr)) (fun u0 _ _ => (intOf u0).toNat)
  case atStart => exact ⟨[], v, rfl, hv, by simp, Lib.hid rfl, Lib.hid (.inl (Kd.R_nil _ _ _ _ _)), Lib.hid (Below.refl _ _)⟩
  case round =>
    obtain ⟨xs, v', rfl, hv', hxl, HE, HR, HB⟩ := hrel
    by_cases h128 : v' < 128
    · have t1 : ¬ (128 : Int) ≤ (v' : Int) := by omega
      have hp := put_last h128
      obtain ⟨p, ep⟩ : ∃ p, v'.toUInt8 = p := ⟨_, rfl⟩
      rw [ep] at hp
      have HE2 := Lib.hid (show encV v = xs ++ [p] from by rw [HE.out, encV_small h128, ep])
      have HP := Lib.hid hp
      clear ep hp
      go_wp2_with (at_builtin; refine BR_append (w0 := w) w.heap.size rfl (.tmp 15) (.tmp 18) rfl u3 xs p (v' : Int) HP.out rfl (by first | rfl | simp) HR.out HB.out (below_size HB.out) (by omega) ?_; intro v1 w1 hown1 hbel1; rw [← HE2.out] at hown1; have HQ := Lib.hid (PutPost.of hown1 hbel1); clear hown1 hbel1; obtain ⟨B2, m2, d2, e2⟩ := post_slice HQ.out; subst e2)
      go_ret
      exact HQ.out
    · have t1 : (128 : Int) ≤ (v' : Int) := by omega
      obtain ⟨p, ep⟩ : ∃ p, (v' % 128 + 128).toUInt8 = p := ⟨_, rfl⟩
      have hp : (v' : Int) % 128 + 128 = (p.toNat : Int) := by rw [← ep]; simp; omega
      obtain ⟨v2, ev2⟩ : ∃ v2, v' / 128 = v2 := ⟨_, rfl⟩
      have hv2 : (v' : Int) / 128 = (v2 : Int) := by omega
      have hv2' : v2 < v' := by omega
      have hlen : (xs ++ [p]).length + (encV v2).length = (encV v).length := by
        have := congrArg List.length HE.out
        rw [encV_great h128, ep, ev2] at this
        simp only [List.length_append, List.length_cons] at this ⊢
        simp
        omega
      have HE2 := Lib.hid (show encV v = (xs ++ [p]) ++ encV v2 from by rw [HE.out, encV_great h128, ep, ev2]; simp)
      have hlen2 : (xs ++ [p]).length ≤ 10 := by omega
      clear ep ev2 h128 hlen
      go_wp2_with (at_builtin; refine BR_append (w0 := w) w.heap.size rfl (.tmp 6) (.tmp 11) rfl u3 xs p _ rfl rfl (by first | rfl | simp) HR.out HB.out (below_size HB.out) (by omega) ?_; intro v1 w1 hown1 hbel1; have HR1 := Lib.hid hown1; clear hown1)
      go_roundw
      case rel => exact ⟨xs ++ [p], v2, rfl, by omega, hlen2, HE2, Lib.hid (.inl HR1.out), Lib.hid hbel1⟩
      case measure => simp [intOf]; omega
set_option maxRecDepth 100000 in
set_option maxHeartbeats 8000000 in
/-- the document's Text. -/
theorem rtext129 (w : World) (s : ByteArray) (hs : s.size ≤ 1000000000000) : Calls Try.prog 129 #[.string s] w (PutPost w (encT s.data.toList)) := by
  have h1 := rput118 w s.size (by omega)
  have h10 := encV_ten (v := s.size) (by omega)
  obtain ⟨X, hX⟩ : ∃ X, encV s.size = X := ⟨_, rfl⟩
  rw [hX] at h1 h10
  have HX := Lib.hid (show X = [] ++ encV s.size from hX.symm)
  have H1 := Lib.hid h1
  clear hX h1
  go_enter Try.func129, Try.ntmps129
  go_wp2_with fail
  (with_reducible refine H1.out.mono ?_)
  rintro e w1 ⟨B, m, d, rfl, HN, hd, HR, hB⟩
  have HO := Lib.hid (Kd.own_of_R HR.out)
  have HB := Lib.hid hB
  clear HR hB
  go_wp2_with (at_builtin; refine print_append_str (w0 := w) w.heap.size rfl (.tmp 6) (.tmp 7) 85 9 5 rfl Try.underlying85 Try.underlying9 infoBy (.slice B m d) (bys X) s rfl rfl HO.out HB.out (below_size HB.out) (by rw [bys_len]; omega) ?_; intro v2 w2 hown2 hb2 hg2; have HP := Lib.hid (text_post HX.out hown2 hb2); clear hown2 hb2 hg2; obtain ⟨B2, m2, d2, e2⟩ := post_slice HP.out; subst e2)
  go_ret
  exact HP.out
end
section
open Go Go.RowKit Go.Proofs.YteafilojjdfllaaW.PrintWords Go.Proofs.YteafilojjdfllaaW.PrintLast Go.Proofs.YteafilojjdfllaaW.PrintMore Go.Proofs.Yteafilojjdfllaa.PAll
set_option linter.unusedVariables false
set_option linter.unusedSimpArgs false

def getW (bs : List UInt8) (i : Int) : Option (Nat × List UInt8) := if i < 0 then none else decV 0 0 (bs.drop i.toNat)
def getRet (n : Nat) : Option (Nat × List UInt8) → Value
  | none => .tuple #[.int .u64 0, .int .i64 0, .bool false]
  | some (v, r) => .tuple #[.int .u64 v, .int .i64 ((n : Int) - (r.length : Nat)), .bool true]
theorem and127 : ∀ n : Fin 256, Go.bits .and .u8 (n.val : Int) 127 = ((n.val % 128 : Nat) : Int) := by decide +kernel
theorem and127' (x : UInt8) : Go.bits .and .u8 (x.toNat : Int) 127 = ((x.toNat % 128 : Nat) : Int) := and127 ⟨x.toNat, x.toNat_lt⟩
theorem bys_at {W : World} {A : Option Addr} {n : Nat} {bs : List UInt8} (h : (Kd.int .u8).C W A n (bys bs)) (j : Nat) (hj : j < bs.length) : ∃ ad, A = some ad ∧ W.cell? (ad.add j) = some (.int .u8 ((bs.getD j 0).toNat : Int)) := by
  have hR := Kd.reads_of_C (enc := Value.int .u8) (d := (0 : Int)) (h1 := fun _ => rfl) h
  have hl : (bys bs).length = n := hR.1
  rw [bys_len] at hl
  obtain ⟨ad, e, hc⟩ := hR.2.2 (by omega)
  refine ⟨ad, e, ?_⟩
  rw [hc j (by omega)]
  simp [bys, List.getD_eq_getElem?_getD, hj]
theorem drop_at (bs : List UInt8) (j : Nat) (hj : j < bs.length) : bs.drop j = bs.getD j 0 :: bs.drop (j + 1) := by
  rw [List.drop_eq_getElem_cons hj, List.getD_eq_getElem?_getD, List.getElem?_eq_getElem hj, Option.getD_some]
theorem decV_nil (i acc : Nat) : decV i acc [] = none := by rw [decV]
theorem decV_cons (i acc : Nat) (x : UInt8) (r : List UInt8) : decV i acc (x :: r) = if 10 ≤ i then none
    else if i = 9 ∧ 1 < x.toNat then none
    else if x.toNat < 128 then (if 0 < i ∧ x.toNat = 0 then none else some (acc + x.toNat * 2 ^ (7 * i), r))
    else decV (i + 1) (acc + (x.toNat - 128) * 2 ^ (7 * i)) r := by rw [decV]
theorem or_shift {a y k : Nat} (ha : a < 2 ^ k) (hb : y * 2 ^ k + 2 ^ k ≤ 18446744073709551616) : Go.bits .or .u64 (a : Int) ((y * 2 ^ k : Nat) : Int) = ((a + y * 2 ^ k : Nat) : Int) := by
  rw [bits_or_u64_nat _ _ (by omega) (by have := Nat.two_pow_pos k; omega), Nat.or_comm, Nat.mul_comm y, ← Nat.two_pow_add_eq_or_of_lt ha, Nat.add_comm]
theorem getRet_some {n j v : Nat} {bs : List UInt8} (hn : bs.length = n) (hj : j < n) : Ending.returned (.tuple #[.int .u64 (v : Int), .int .i64 ((j : Int) + 1), .bool true]) = Ending.returned (getRet n (some (v, bs.drop (j + 1)))) := by
  show _ = Ending.returned (.tuple #[.int .u64 (v : Int), .int .i64 ((n : Int) - ((bs.drop (j + 1)).length : Nat)), .bool true])
  have : (n : Int) - ((bs.drop (j + 1)).length : Nat) = (j : Int) + 1 := by rw [List.length_drop]; omega
  rw [this]
set_option maxRecDepth 100000 in
set_option maxHeartbeats 8000000 in
/-- vint.Get. -/
theorem get116 (w : World) (A : Option Addr) (n c : Nat) (bs : List UInt8) (at_ : Int) (hn : bs.length = n) (hl : n ≤ 1000000000000000) (hC : (Kd.int .u8).C w A bs.length (bys bs)) :
    Calls Try.prog 116 #[.slice A n c, .int .i64 at_] w fun e w' => e = .returned (getRet n (getW bs at_)) ∧ w' = w := by
  obtain ⟨G, hG⟩ : ∃ G, getW bs at_ = G := ⟨_, rfl⟩
  rw [hG]
  have HC := Lib.hid hC
  have HN := Lib.hid hn
  by_cases hneg : at_ < 0
  · have HG := Lib.hid (show G = none from by rw [← hG]; unfold getW; rw [if_pos hneg])
    clear hC hn hG
    go_enter Try.func116, Try.ntmps116
    go_wp2
    go_ret3
    exact ⟨by rw [HG.out]; rfl, rfl⟩
  · obtain ⟨j0, rfl⟩ : ∃ j : Nat, at_ = (j : Int) := ⟨at_.toNat, by omega⟩
    have HG := Lib.hid (show G = decV 0 0 (bs.drop j0) from by rw [← hG]; unfold getW; rw [if_neg hneg, Int.toNat_natCast])
    clear hC hn hG hneg
    go_enter Try.func116, Try.ntmps116
    go_wp2
    go_loopw [1, 7, 8, 9] (fun u1 u7 u8 _ wr => ∃ (j acc i : Nat), u1 = .int .i64 j ∧ u7 = .int .u64 acc ∧ u8 = .int .i64 i ∧ i ≤ 10 ∧ acc < 2 ^ (7 * i) ∧ Hid (G = decV i acc (bs.drop j)) ∧ wr = w) (fun _ _ u8 _ _ => 10 - (intOf u8).toNat)
    case atStart => exact ⟨j0, 0, 0, rfl, rfl, rfl, by omega, by simp, HG, rfl⟩
    case round =>
      clear HG
      obtain ⟨j, acc, i, rfl, rfl, rfl, hi, hacc, HG, rfl⟩ := hrel
      by_cases hi10 : i < 10
      · have t1 : decide ((i : Int) < 10) = true := decide_eq_true (by omega)
        by_cases hj : j < n
        · have t2 : decide ((j : Int) < (n : Int)) = true := decide_eq_true (by omega)
          have t2n : (j : Int) < (n : Int) := by omega
          obtain ⟨ad, rfl, c0⟩ := bys_at HC.out j (by rw [HN.out]; exact hj)
          obtain ⟨x, ex⟩ : ∃ x, bs.getD j 0 = x := ⟨_, rfl⟩
          rw [ex] at c0
          have HD := Lib.hid (show bs.drop j = x :: bs.drop (j + 1) from by rw [drop_at bs j (by rw [HN.out]; exact hj), ex])
          clear ex
          obtain ⟨y, ey⟩ : ∃ y, x.toNat % 128 = y := ⟨_, rfl⟩
          have hand := and127' x
          rw [ey] at hand
          have hxlt := x.toNat_lt
          have hy1 : y < 128 := by omega
          by_cases h9 : i = 9
          · subst h9
            by_cases hx1 : 1 < x.toNat
            · have t4 : decide (1 < (x.toNat : Int)) = true := decide_eq_true (by omega)
              have t4p : (1 : Int) < (x.toNat : Int) := by omega
              have HE := Lib.hid (show G = none from by rw [HG.out, HD.out, decV_cons, if_neg (by omega), if_pos ⟨rfl, hx1⟩])
              go_wp2
              go_ret3
              exact ⟨by rw [HE.out]; rfl, rfl⟩
            · have t4 : decide (1 < (x.toNat : Int)) = false := decide_eq_false (by omega)
              have t4p : ¬ (1 : Int) < (x.toNat : Int) := by omega
              have t5 : (x.toNat : Int) < 128 := by omega
              by_cases hx0 : x.toNat = 0
              · have t6 : ((x.toNat : Int) == 0) = true := by rw [beq_iff_eq]; omega
                have HE := Lib.hid (show G = none from by rw [HG.out, HD.out, decV_cons, if_neg (by omega), if_neg (by omega), if_pos (by omega), if_pos ⟨by omega, hx0⟩])
                clear hx0
                go_wp2
                go_ret3
                exact ⟨by rw [HE.out]; rfl, rfl⟩
              · have t6 : ((x.toNat : Int) == 0) = false := by rw [beq_eq_false_iff_ne]; omega
                obtain ⟨acc2, ea2⟩ : ∃ a, acc + x.toNat * 2 ^ (7 * 9) = a := ⟨_, rfl⟩
                have HE := Lib.hid (show G = some (acc2, bs.drop (j + 1)) from by rw [HG.out, HD.out, decV_cons, if_neg (by omega), if_neg (by omega), if_pos (by omega), if_neg (by omega), ea2])
                have ho : Go.bits .or .u64 (acc : Int) ((y : Int) * 9223372036854775808) = (acc2 : Int) := by
                  have h1 := or_shift (k := 7 * 9) hacc (show y * 2 ^ (7 * 9) + 2 ^ (7 * 9) ≤ 18446744073709551616 by omega)
                  rw [show y = x.toNat by omega] at h1 ⊢
                  rw [ea2] at h1
                  rw [← h1]
                  rfl
                clear hx0 ea2
                go_wp2
                go_ret3
                exact ⟨by rw [HE.out]; exact getRet_some HN.out hj, rfl⟩
          · have t3 : ((i : Int) == 9) = false := by rw [beq_eq_false_iff_ne]; omega
            have hsh : y * 2 ^ (7 * i) + 2 ^ (7 * i) ≤ 9223372036854775808 := by
              have h1 : (y + 1) * 2 ^ (7 * i) ≤ 128 * 2 ^ (7 * i) := Nat.mul_le_mul_right _ (by omega)
              have h2 : (2 : Nat) ^ (7 * (i + 1)) = 128 * 2 ^ (7 * i) := by rw [show 7 * (i + 1) = 7 * i + 7 by omega, Nat.pow_add]; omega
              have h3 : (2 : Nat) ^ (7 * (i + 1)) ≤ 2 ^ 63 := Nat.pow_le_pow_right (by decide) (by omega)
              rw [Nat.add_mul] at h1
              omega
            obtain ⟨sh, esh⟩ : ∃ s, y * 2 ^ (7 * i) = s := ⟨_, rfl⟩
            obtain ⟨acc2, ea2⟩ : ∃ a, acc + sh = a := ⟨_, rfl⟩
            have hws : IntKind.u64.wrap ((y : Int) * 2 ^ (7 * i)) = (sh : Int) := by
              rw [← esh, show (y : Int) * 2 ^ (7 * i) = ((y * 2 ^ (7 * i) : Nat) : Int) by simp, IntKind.wrap_u64]
              omega
            have ho : Go.bits .or .u64 (acc : Int) (sh : Int) = (acc2 : Int) := by
              rw [← ea2, ← esh]
              exact or_shift (k := 7 * i) hacc (by omega)
            have HSH := Lib.hid esh
            have HA2 := Lib.hid ea2
            have hacc2 : acc2 < 2 ^ (7 * (i + 1)) := by
              have h1 : (y + 1) * 2 ^ (7 * i) ≤ 128 * 2 ^ (7 * i) := Nat.mul_le_mul_right _ (by omega)
              have h2 : (2 : Nat) ^ (7 * (i + 1)) = 128 * 2 ^ (7 * i) := by rw [show 7 * (i + 1) = 7 * i + 7 by omega, Nat.pow_add]; omega
              rw [Nat.add_mul] at h1
              omega
            have Hacc2 := Lib.hid hacc2
            clear esh ea2 hsh hacc2
            by_cases hx8 : x.toNat < 128
            · have t5 : (x.toNat : Int) < 128 := by omega
              by_cases hz : 0 < i ∧ x.toNat = 0
              · have t6 : (0 : Int) < (i : Int) := by omega
                have t6d : decide ((0 : Int) < (i : Int)) = true := decide_eq_true t6
                have t7 : ((x.toNat : Int) == 0) = true := by rw [beq_iff_eq]; omega
                have HE := Lib.hid (show G = none from by rw [HG.out, HD.out, decV_cons, if_neg (by omega), if_neg (by omega), if_pos hx8, if_pos hz])
                clear hz h9
                go_wp2
                go_ret3
                exact ⟨by rw [HE.out]; rfl, rfl⟩
              · have HE := Lib.hid (show G = some (acc2, bs.drop (j + 1)) from by
                  rw [HG.out, HD.out, decV_cons, if_neg (by omega), if_neg (by omega), if_pos hx8, if_neg hz, ← HA2.out, ← HSH.out, show x.toNat = y by omega])
                by_cases hi0 : 0 < i
                · have t6 : (0 : Int) < (i : Int) := by omega
                  have t6d : decide ((0 : Int) < (i : Int)) = true := decide_eq_true t6
                  have t7 : ((x.toNat : Int) == 0) = false := by rw [beq_eq_false_iff_ne]; omega
                  clear hz h9
                  go_wp2
                  go_ret3
                  exact ⟨by rw [HE.out]; exact getRet_some HN.out hj, rfl⟩
                · have t6 : ¬ (0 : Int) < (i : Int) := by omega
                  have t6d : decide ((0 : Int) < (i : Int)) = false := decide_eq_false t6
                  clear hz h9
                  go_wp2
                  go_ret3
                  exact ⟨by rw [HE.out]; exact getRet_some HN.out hj, rfl⟩
            · have t5 : ¬ (x.toNat : Int) < 128 := by omega
              have HE := Lib.hid (show G = decV (i + 1) acc2 (bs.drop (j + 1)) from by
                rw [HG.out, HD.out, decV_cons, if_neg (by omega), if_neg (by omega), if_neg hx8, ← HA2.out, ← HSH.out, show x.toNat - 128 = y by omega])
              have hi2 : i + 1 ≤ 10 := by omega
              clear h9
              go_wp2
              go_roundw
              case rel => exact ⟨j + 1, acc2, i + 1, by go_num, rfl, by go_num, hi2, Hacc2.out, HE, by first | rfl | trivial⟩
              case measure => simp [intOf]; omega
        · have t2 : decide ((j : Int) < (n : Int)) = false := decide_eq_false (by omega)
          have HE := Lib.hid (show G = none from by rw [HG.out, List.drop_of_length_le (by have := HN.out; omega), decV_nil])
          go_wp2
          go_ret3
          exact ⟨by rw [HE.out]; rfl, rfl⟩
      · have t1 : decide ((i : Int) < 10) = false := decide_eq_false (by omega)
        have HE := Lib.hid (show G = none from by
          rw [HG.out]
          cases bs.drop j with
          | nil => exact decV_nil _ _
          | cons x r => rw [decV_cons, if_pos (by omega)])
        go_wp2
        go_ret3
        exact ⟨by rw [HE.out]; rfl, rfl⟩
/-! ### a text read -/
def textRet (n : Nat) : Option (List UInt8 × List UInt8) → Value
  | none => .tuple #[.string ⟨#[]⟩, .int .i64 0, .bool false]
  | some (t, r) => .tuple #[.string ⟨t.toArray⟩, .int .i64 ((n : Int) - (r.length : Nat)), .bool true]
def textW (most : Nat) (bs : List UInt8) (i : Int) : Option (List UInt8 × List UInt8) := if i < 0 then none else decT most (bs.drop i.toNat)
theorem get116n (w : World) (A : Option Addr) (n c : Nat) (bs : List UInt8) (at_ : Int) (hg : getW bs at_ = none) (hn : bs.length = n) (hl : n ≤ 1000000000000000) (hC : (Kd.int .u8).C w A bs.length (bys bs)) :
    Calls Try.prog 116 #[.slice A n c, .int .i64 at_] w fun e w' => e = .returned (.tuple #[.int .u64 0, .int .i64 0, .bool false]) ∧ w' = w := by
  have h := get116 w A n c bs at_ hn hl hC
  rw [hg] at h
  exact h
theorem get116y (w : World) (A : Option Addr) (n c : Nat) (bs : List UInt8) (at_ : Int) (v k : Nat) (r : List UInt8) (hg : getW bs at_ = some (v, r)) (hk : (n : Int) - (r.length : Nat) = (k : Int)) (hn : bs.length = n) (hl : n ≤ 1000000000000000) (hC : (Kd.int .u8).C w A bs.length (bys bs)) :
    Calls Try.prog 116 #[.slice A n c, .int .i64 at_] w fun e w' => e = .returned (.tuple #[.int .u64 v, .int .i64 k, .bool true]) ∧ w' = w := by
  have h := get116 w A n c bs at_ hn hl hC
  rw [hg] at h
  rw [← hk]
  exact h
theorem decV_suffix : ∀ (l : List UInt8) (i acc : Nat) {v : Nat} {r : List UInt8}, decV i acc l = some (v, r) → r <:+ l
  | [], _, _, _, _, h => by rw [decV] at h; cases h
  | x :: l, i, acc, v, r, h => by
    rw [decV_cons] at h
    split at h
    · cases h
    · split at h
      · cases h
      · split at h
        · split at h
          · cases h
          · simp only [Option.some.injEq, Prod.mk.injEq] at h
            obtain ⟨-, rfl⟩ := h
            exact List.suffix_cons _ _
        · exact (decV_suffix l _ _ h).trans (List.suffix_cons _ _)
/-- where a number ends -/
theorem getW_place {bs : List UInt8} {i : Int} {v : Nat} {r : List UInt8} (h : getW bs i = some (v, r)) : 0 ≤ i ∧ r.length < bs.length ∧ i < ((bs.length - r.length : Nat) : Int) ∧ bs.drop (bs.length - r.length) = r ∧ v < 18446744073709551616 := by
  unfold getW at h
  split at h
  · cases h
  · next hi =>
    have h1 := decV_suffix _ _ _ h
    have h2 := decV_bound _ 0 0 v r (by decide) h
    have h3 : (bs.drop i.toNat).length = bs.length - i.toNat := List.length_drop
    have h4 := h1.trans (List.drop_suffix _ _)
    exact ⟨by omega, by omega, by omega, (List.suffix_iff_eq_drop.1 h4).symm, h2.1⟩
theorem str_bytes (t : List UInt8) : strOfNums (bys t) = ⟨t.toArray⟩ := Lib.Lz.strOfNums_map t
theorem bys_mid (bs : List UInt8) (k m : Nat) : ((bys bs).take (k + m)).drop k = bys ((bs.drop k).take m) := by
  unfold bys
  rw [← List.map_take, ← List.map_drop, List.take_drop, Nat.add_comm]
set_option maxRecDepth 100000 in
set_option maxHeartbeats 8000000 in
/-- vint.GetText. -/
theorem getText128 (w : World) (A : Option Addr) (n c : Nat) (bs : List UInt8) (at_ : Int) (most : Nat) (hn : bs.length = n) (hc : n ≤ c) (hl : n ≤ 1000000000000000) (hm : most ≤ 1000000) (hC : (Kd.int .u8).C w A bs.length (bys bs)) :
    Calls Try.prog 128 #[.slice A n c, .int .i64 at_, .int .i64 most] w fun e w' => e = .returned (textRet n (textW most bs at_)) ∧ Below w.heap.size w w' := by
  obtain ⟨G, hG⟩ : ∃ G, textW most bs at_ = G := ⟨_, rfl⟩
  rw [hG]
  have HC := Lib.hid hC
  have HN := Lib.hid hn
  have hT : G = (match getW bs at_ with
      | none => none
      | some (m, r) => if m ≤ most ∧ m ≤ r.length then some (r.take m, r.drop m) else none) := by
    rw [← hG]
    unfold textW getW
    split
    · rfl
    · rfl
  cases hv : getW bs at_ with
  | none =>
    rw [hv] at hT
    have HT := Lib.hid (show G = none from hT)
    have h1 := Lib.hid (get116n w A n c bs at_ hv hn hl hC)
    clear hC hn hG hT hv
    go_enter Try.func128, Try.ntmps128
    go_wp2_with fail
    (with_reducible refine h1.out.mono ?_)
    rintro e w1 ⟨rfl, rfl⟩
    go_wp2
    go_ret3
    exact ⟨by rw [HT.out]; rfl, Below.refl _ _⟩
  | some q =>
    obtain ⟨m, r⟩ := q
    rw [hv] at hT
    obtain ⟨hp0, hp1, hp2, hp3, hp4⟩ := getW_place hv
    obtain ⟨k, ek⟩ : ∃ k, bs.length - r.length = k := ⟨_, rfl⟩
    rw [ek] at hp2 hp3
    have h1 := Lib.hid (get116y w A n c bs at_ m k r hv (by omega) hn hl hC)
    have hkn : k ≤ n := by omega
    have hrl : r.length = n - k := by omega
    have HP := Lib.hid hp3
    have hT' : G = if m ≤ most ∧ m ≤ r.length then some (r.take m, r.drop m) else none := hT
    rw [hrl] at hT'
    by_cases hmost : m ≤ most
    · have t1 : ¬ (most : Int) < (m : Int) := by omega
      by_cases hml : m ≤ n - k
      · have t2 : ¬ (n : Int) - (k : Int) < (m : Int) := by omega
        rw [if_pos ⟨hmost, hml⟩] at hT'
        have HT := Lib.hid hT'
        obtain ⟨i5, hi5, hs5⟩ : ∃ i, Try.prog.info? 5 = some i ∧ i.size = 1 := by
          have h := infoBy
          cases hi : Try.prog.info? 5 with
          | none => rw [hi] at h; cases h
          | some i => rw [hi] at h; simp only [Option.map_some, Option.some.injEq, Prod.mk.injEq] at h; exact ⟨i, rfl, h.2.1⟩
        have hlen : (bys bs).length = n := by rw [bys_len]; exact hn
        obtain ⟨A', hsl, hrd, -⟩ := print_mid_of (P := Try.prog) (Value.int .u8) (0 : Int) 85 5 .i64 .i64 Try.underlying85 hi5 hs5 A c (bys bs) (k : Int) ((k : Int) + (m : Int)) (by omega) (by omega) (by rw [hlen]; omega) (by rw [hlen]; exact hc)
        rw [show ((k : Int) + (m : Int)).toNat = k + m by omega, Int.toNat_natCast, bys_mid, hlen] at hsl hrd
        have hlm : (bys ((bs.drop k).take m)).length = m := by rw [bys_len, List.length_take, List.length_drop]; omega
        rw [hlm] at hsl hrd
        have hCm : (Kd.int .u8).C w A' m (bys ((bs.drop k).take m)) := Kd.C_of_reads (d := (0 : Int)) (hrd w (by have := Kd.reads_of_C (enc := Value.int .u8) (d := (0 : Int)) (h1 := fun _ => rfl) hC; rwa [hn] at this))
        have hcv := Kd.C_string (P := Try.prog) (c := c - k) Try.underlying85 Try.underlying5 Try.underlying9 hCm
        rw [str_bytes] at hcv
        obtain ⟨tx, etx⟩ : ∃ t : ByteArray, (⟨((bs.drop k).take m).toArray⟩ : ByteArray) = t := ⟨_, rfl⟩
        rw [etx] at hcv
        have HR := Lib.hid (show Ending.returned (.tuple #[.string tx, .int .i64 ((k : Int) + (m : Int)), .bool true]) = Ending.returned (textRet n G) from by
          rw [hT', ← etx, ← hp3]
          show _ = Ending.returned (.tuple #[.string ⟨((bs.drop k).take m).toArray⟩, .int .i64 ((n : Int) - (((bs.drop k).drop m).length : Nat)), .bool true])
          rw [show (n : Int) - (((bs.drop k).drop m).length : Nat) = (k : Int) + (m : Int) by rw [List.length_drop, List.length_drop]; omega])
        clear hC hn hG hT hT' hv hp0 hp1 hp2 hp3 ek hrl hrd hCm etx hlen hlm hi5 hs5
        go_enter Try.func128, Try.ntmps128
        go_wp2_with fail
        (with_reducible refine h1.out.mono ?_)
        rintro e w1 ⟨rfl, rfl⟩
        go_wp2
        go_ret3
        exact ⟨HR.out, Below.refl _ _⟩
      · have t2 : (n : Int) - (k : Int) < (m : Int) := by omega
        rw [if_neg (fun h => hml h.2)] at hT'
        have HT := Lib.hid hT'
        clear hC hn hG hT hT' hv hp0 hp1 hp2 hp3 ek hrl
        go_enter Try.func128, Try.ntmps128
        go_wp2_with fail
        (with_reducible refine h1.out.mono ?_)
        rintro e w1 ⟨rfl, rfl⟩
        go_wp2
        go_ret3
        exact ⟨by rw [HT.out]; rfl, Below.refl _ _⟩
    · have t1 : (most : Int) < (m : Int) := by omega
      rw [if_neg (fun h => hmost h.1)] at hT'
      have HT := Lib.hid hT'
      clear hC hn hG hT hT' hv hp0 hp1 hp2 hp3 ek hrl
      go_enter Try.func128, Try.ntmps128
      go_wp2_with fail
      (with_reducible refine h1.out.mono ?_)
      rintro e w1 ⟨rfl, rfl⟩
      go_wp2
      go_ret3
      exact ⟨by rw [HT.out]; rfl, Below.refl _ _⟩
end
section
open Go Go.RowKit Go.Proofs.YteafilojjdfllaaW.PrintWords Go.Proofs.YteafilojjdfllaaW.PrintLast Go.Proofs.YteafilojjdfllaaW.PrintMore Go.Proofs.Yteafilojjdfllaa.PAll
set_option linter.unusedVariables false
set_option linter.unusedSimpArgs false

/-- the reader's block -/
def RB (W : World) (g : Nat) (A : Option Addr) (n c : Nat) (i : Int) (b : Bool) : Prop := W.heap[g]? = some (.cells #[.slice A n c, .int .i64 i, .bool b] 93 (0, 0))
section
variable {W X : World} {g : Nat} {A : Option Addr} {n c : Nat} {i : Int} {b : Bool}
theorem RB.c0 (h : RB W g A n c i b) : W.cell? ⟨g, 0, none⟩ = some (.slice A n c) := (blk_cell h 0).trans rfl
theorem RB.c1 (h : RB W g A n c i b) : W.cell? ⟨g, 1, none⟩ = some (.int .i64 i) := (blk_cell h 1).trans rfl
theorem RB.c2 (h : RB W g A n c i b) : W.cell? ⟨g, 2, none⟩ = some (.bool b) := (blk_cell h 2).trans rfl
theorem RB.z1 (h : RB W g A n c i b) : W.frozen? ⟨g, 1, none⟩ = false := blk_frozen h 1
theorem RB.z2 (h : RB W g A n c i b) : W.frozen? ⟨g, 2, none⟩ = false := blk_frozen h 2
theorem RB.lt (h : RB W g A n c i b) : g < W.heap.size := (Array.getElem?_eq_some_iff.1 h).1
theorem RB.set1 (h : RB W g A n c i b) (j : Int) : RB (W.setCell ⟨g, 1, none⟩ (.int .i64 j)) g A n c j b := by simpa [RB] using blk_set h 1 (.int .i64 j)
theorem RB.set2 (h : RB W g A n c i b) (d : Bool) : RB (W.setCell ⟨g, 2, none⟩ (.bool d)) g A n c i d := by simpa [RB] using blk_set h 2 (.bool d)
theorem RB.below (h : RB W g A n c i b) (hb : Below W.heap.size W X) : RB X g A n c i b := (hb.block g h.lt).trans h
theorem RB.drewN (h : RB W g A n c i b) (m : Nat) : RB (W.drewN m) g A n c i b := h
end
/-- how Num ends -/
def NumPost (w0 w : World) (g : Nat) (A : Option Addr) (n c : Nat) (Q : Option (Nat × List UInt8)) (e : Ending) (w' : World) : Prop :=
  Below w0.heap.size w0 w' ∧ KeepBut w w' g none ∧
    ((Q = none ∧ e = .returned (.int .u64 0) ∧ ∃ i, RB w' g A n c i true) ∨ ∃ v r, Q = some (v, r) ∧ e = .returned (.int .u64 (v : Nat)) ∧ RB w' g A n c ((n : Int) - (r.length : Nat)) false)
def numW (b : Bool) (bs : List UInt8) (i : Int) : Option (Nat × List UInt8) := if b = true then none else getW bs i
theorem num_post {w0 w W : World} {g : Nat} {A : Option Addr} {n c j v : Nat} {bs : List UInt8} {Q : Option (Nat × List UInt8)} (hn : bs.length = n) (hj : j ≤ n) (hQ : Q = some (v, bs.drop j)) (hB : Below w0.heap.size w0 W) (hK : KeepBut w W g none) (hS : RB W g A n c (j : Int) false) :
    NumPost w0 w g A n c Q (.returned (.int .u64 (v : Int))) W := by
  refine ⟨hB, hK, Or.inr ⟨v, _, hQ, rfl, ?_⟩⟩
  rw [show (n : Int) - ((bs.drop j).length : Nat) = (j : Int) by rw [List.length_drop]; omega]
  exact hS
theorem sum_shift {a y k : Nat} (hb : a + y * 2 ^ k < 18446744073709551616) : IntKind.u64.wrap ((a : Int) + ((y * 2 ^ k : Nat) : Int)) = ((a + y * 2 ^ k : Nat) : Int) := by
  rw [IntKind.wrap_u64]; omega
set_option maxRecDepth 100000 in
set_option maxHeartbeats 16000000 in
/-- Num. -/
theorem num164 (w0 w : World) (g : Nat) (A : Option Addr) (n c : Nat) (bs : List UInt8) (at_ : Int) (b : Bool) (hn : bs.length = n) (hl : n ≤ 1000000000000000) (hg : w0.heap.size ≤ g) (hB : Below w0.heap.size w0 w) (hS : RB w g A n c at_ b) (hC0 : (Kd.int .u8).C w0 A bs.length (bys bs)) :
    Calls Try.prog 164 #[.pointer (some ⟨g, 0, none⟩)] w (NumPost w0 w g A n c (numW b bs at_)) := by
  obtain ⟨Q, hQ⟩ : ∃ Q, numW b bs at_ = Q := ⟨_, rfl⟩
  rw [hQ]
  have HS0 := Lib.hid hS
  have HB0 := Lib.hid hB
  have HN0 := Lib.hid hn
  have HCO := Lib.hid hC0
  have HQ0 := Lib.hid (show Q = (if b = true then none else if at_ < 0 then none else decV 0 0 (bs.drop at_.toNat)) from by rw [← hQ]; rfl)
  clear hS hB hn hC0 hQ
  go_enter Try.func164, Try.ntmps164
  go_wp2
  go_loopw [3, 4, 5] (fun u3 u4 _ wr => ∃ (acc i : Nat) (at' : Int) (bd : Bool), u3 = .int .u64 acc ∧ u4 = .int .i64 i ∧ i ≤ 10 ∧ Hid (acc < 2 ^ (7 * i)) ∧ Hid (Q = (if bd = true then none else if at' < 0 then none else decV i acc (bs.drop at'.toNat))) ∧ Hid (RB wr g A n c at' bd) ∧ Hid (Below w0.heap.size w0 wr) ∧ Hid (KeepBut w wr g none))
    (fun _ u4 _ _ => 10 - (intOf u4).toNat)
  case atStart => exact ⟨0, 0, at_, b, rfl, rfl, by omega, Lib.hid (by simp), HQ0, HS0, HB0, Lib.hid (KeepBut.refl w g none)⟩
  case round =>
    clear HS0 HB0 HQ0
    obtain ⟨acc, i, at', bd, rfl, rfl, hi, HA, HQ, HS, HB, HK⟩ := hrel
    have g0 := HS.out.c0
    have g1 := HS.out.c1
    have g2 := HS.out.c2
    have z1 := HS.out.z1
    have z2 := HS.out.z2
    by_cases hi10 : i < 10
    · have t1 : (i : Int) < 10 := by omega
      cases bd with
      | true =>
        have HN := Lib.hid (show Q = none from HQ.out)
        go_wp2
        go_quiet (fail)
        clear g0 g1 g2 z1 z2
        have HC := Lib.hid (Kd.C_below HCO.out HB.out)
        have HS := Lib.hid (HS.out.drewN nq)
        have HB := Lib.hid (pw_below_drewN HB.out nq)
        have HK := Lib.hid (keep_drewN HK.out nq)
        have HC := Lib.hid (Kd.C_below HC.out (pw_below_drewN (Below.refl _ _) nq))
        generalize wr.drewN nq = W1 at HS HB HK HC ⊢
        clear nq
        have g0 := HS.out.c0
        have g1 := HS.out.c1
        have g2 := HS.out.c2
        have z1 := HS.out.z1
        have z2 := HS.out.z2
        have HS2 := Lib.hid (HS.out.set2 true)
        have HB2 := Lib.hid (HB.out.setCell (p := ⟨g, 2, none⟩) hg (.bool true))
        have HK2 := Lib.hid (HK.out.set_ 2 (.bool true))
        go_wp2
        go_ret
        exact ⟨HB2.out, HK2.out, Or.inl ⟨HN.out, rfl, _, HS2.out⟩⟩
      | false =>
        by_cases hneg : at' < 0
        · have dn : decide (at' < 0) = true := decide_eq_true hneg
          have HN := Lib.hid (show Q = none from by rw [HQ.out, if_neg (by decide), if_pos hneg])
          go_wp2
          go_quiet (fail)
          clear g0 g1 g2 z1 z2
          have HC := Lib.hid (Kd.C_below HCO.out HB.out)
          have HS := Lib.hid (HS.out.drewN nq)
          have HB := Lib.hid (pw_below_drewN HB.out nq)
          have HK := Lib.hid (keep_drewN HK.out nq)
          have HC := Lib.hid (Kd.C_below HC.out (pw_below_drewN (Below.refl _ _) nq))
          generalize wr.drewN nq = W1 at HS HB HK HC ⊢
          clear nq
          have g0 := HS.out.c0
          have g1 := HS.out.c1
          have g2 := HS.out.c2
          have z1 := HS.out.z1
          have z2 := HS.out.z2
          have HS2 := Lib.hid (HS.out.set2 true)
          have HB2 := Lib.hid (HB.out.setCell (p := ⟨g, 2, none⟩) hg (.bool true))
          have HK2 := Lib.hid (HK.out.set_ 2 (.bool true))
          go_wp2
          go_ret
          exact ⟨HB2.out, HK2.out, Or.inl ⟨HN.out, rfl, _, HS2.out⟩⟩
        · obtain ⟨j, rfl⟩ : ∃ j : Nat, at' = (j : Int) := ⟨at'.toNat, by omega⟩
          have dn : decide ((j : Int) < 0) = false := decide_eq_false hneg
          have HG := Lib.hid (show Q = decV i acc (bs.drop j) from by rw [HQ.out, if_neg (by decide), if_neg hneg, Int.toNat_natCast])
          clear HQ hneg
          have HC := Lib.hid (Kd.C_below HCO.out HB.out)
          by_cases hj : j < n
          · have dj : decide (n ≤ j) = false := decide_eq_false (by omega)
            have djI : decide ((n : Int) ≤ (j : Int)) = false := decide_eq_false (by omega)
            have hjI : (j : Int) < (n : Int) := by omega
            obtain ⟨ad, rfl, c0⟩ := bys_at HC.out j (by rw [HN0.out]; exact hj)
            obtain ⟨x, ex⟩ : ∃ x, bs.getD j 0 = x := ⟨_, rfl⟩
            rw [ex] at c0
            have HD := Lib.hid (show bs.drop j = x :: bs.drop (j + 1) from by rw [drop_at bs j (by rw [HN0.out]; exact hj), ex])
            have EX := Lib.hid ex
            clear ex
            go_wp2
            go_quiet (fail)
            clear g0 g1 g2 z1 z2
            clear c0
            have HS := Lib.hid (HS.out.drewN nq)
            have HB := Lib.hid (pw_below_drewN HB.out nq)
            have HK := Lib.hid (keep_drewN HK.out nq)
            have HC := Lib.hid (Kd.C_below HC.out (pw_below_drewN (Below.refl _ _) nq))
            generalize wr.drewN nq = W1 at HS HB HK HC ⊢
            clear nq
            have g0 := HS.out.c0
            have g1 := HS.out.c1
            have g2 := HS.out.c2
            have z1 := HS.out.z1
            have z2 := HS.out.z2
            obtain ⟨ad', e', c0⟩ := bys_at HC.out j (by rw [HN0.out]; exact hj)
            cases e'
            rw [EX.out] at c0
            go_wp2
            go_quiet (fail)
            clear g0 g1 g2 z1 z2
            clear c0
            have HS := Lib.hid (HS.out.drewN nq)
            have HB := Lib.hid (pw_below_drewN HB.out nq)
            have HK := Lib.hid (keep_drewN HK.out nq)
            have HC := Lib.hid (Kd.C_below HC.out (pw_below_drewN (Below.refl _ _) nq))
            generalize W1.drewN nq = W2 at HS HB HK HC ⊢
            clear nq
            have g0 := HS.out.c0
            have g1 := HS.out.c1
            have g2 := HS.out.c2
            have z1 := HS.out.z1
            have z2 := HS.out.z2
            obtain ⟨j1, ej1, ej1I⟩ : ∃ j1 : Nat, j1 = j + 1 ∧ (j : Int) + 1 = (j1 : Int) := ⟨j + 1, rfl, rfl⟩
            have HJ1 := Lib.hid ej1
            have hj1 : j1 ≤ n := by omega
            clear ej1
            have HS := Lib.hid (HS.out.set1 (j1 : Int))
            have HB := Lib.hid (HB.out.setCell (p := ⟨g, 1, none⟩) hg (.int .i64 (j1 : Int)))
            have HK := Lib.hid (HK.out.set_ 1 (.int .i64 (j1 : Int)))
            obtain ⟨y, ey⟩ : ∃ y, x.toNat % 128 = y := ⟨_, rfl⟩
            have hyI : (x.toNat : Int) % 128 = (y : Int) := by omega
            have hxlt := x.toNat_lt
            have hy1 : y < 128 := by omega
            by_cases h9 : i = 9
            · subst h9
              by_cases hx1 : 1 < x.toNat
              · have t4 : decide ((1 : Int) < (x.toNat : Int)) = true := decide_eq_true (by omega)
                have t4n : decide (1 < x.toNat) = true := decide_eq_true hx1
                have t4p : (1 : Int) < (x.toNat : Int) := by omega
                have HN := Lib.hid (show Q = none from by rw [HG.out, HD.out, decV_cons, if_neg (by omega), if_pos ⟨rfl, hx1⟩])
                have z2 := HS.out.z2
                have g2 := HS.out.c2
                have HS2 := Lib.hid (HS.out.set2 true)
                have HB2 := Lib.hid (HB.out.setCell (p := ⟨g, 2, none⟩) hg (.bool true))
                have HK2 := Lib.hid (HK.out.set_ 2 (.bool true))
                go_wp2
                go_ret
                exact ⟨HB2.out, HK2.out, Or.inl ⟨HN.out, rfl, _, HS2.out⟩⟩
              · have t4 : decide ((1 : Int) < (x.toNat : Int)) = false := decide_eq_false (by omega)
                have t4n : decide (1 < x.toNat) = false := decide_eq_false hx1
                have t4p : ¬ (1 : Int) < (x.toNat : Int) := by omega
                have t5 : (x.toNat : Int) < 128 := by omega
                by_cases hx0 : x.toNat = 0
                · have t6 : ((x.toNat : Int) == 0) = true := by rw [beq_iff_eq]; omega
                  have HN := Lib.hid (show Q = none from by rw [HG.out, HD.out, decV_cons, if_neg (by omega), if_neg (by omega), if_pos (by omega), if_pos ⟨by omega, hx0⟩])
                  have z2 := HS.out.z2
                  have g2 := HS.out.c2
                  clear hx0
                  have HS2 := Lib.hid (HS.out.set2 true)
                  have HB2 := Lib.hid (HB.out.setCell (p := ⟨g, 2, none⟩) hg (.bool true))
                  have HK2 := Lib.hid (HK.out.set_ 2 (.bool true))
                  go_wp2
                  go_ret
                  exact ⟨HB2.out, HK2.out, Or.inl ⟨HN.out, rfl, _, HS2.out⟩⟩
                · have t6 : ((x.toNat : Int) == 0) = false := by rw [beq_eq_false_iff_ne]; omega
                  obtain ⟨acc2, ea2⟩ : ∃ a, acc + x.toNat * 2 ^ (7 * 9) = a := ⟨_, rfl⟩
                  have HE := Lib.hid (show Q = some (acc2, bs.drop j1) from by rw [HJ1.out, HG.out, HD.out, decV_cons, if_neg (by omega), if_neg (by omega), if_pos (by omega), if_neg (by omega), ea2])
                  have hacc := HA.out
                  have ho : IntKind.u64.wrap ((acc : Int) + (y : Int) * 9223372036854775808) = (acc2 : Int) := by
                    rw [← ea2, IntKind.wrap_u64]
                    omega
                  have ho2 : ((acc : Int) + (y : Int) * 9223372036854775808) % 18446744073709551616 = (acc2 : Int) := by
                    rw [← ea2]
                    omega
                  clear hx0 ea2 hacc ey
                  go_wp2
                  go_ret
                  exact num_post HN0.out hj1 HE.out HB.out HK.out HS.out
            · have t3 : ((i : Int) == 9) = false := by rw [beq_eq_false_iff_ne]; omega
              have hacc := HA.out
              have hsh : y * 2 ^ (7 * i) + 2 ^ (7 * i) ≤ 9223372036854775808 := by
                have h1 : (y + 1) * 2 ^ (7 * i) ≤ 128 * 2 ^ (7 * i) := Nat.mul_le_mul_right _ (by omega)
                have h2 : (2 : Nat) ^ (7 * (i + 1)) = 128 * 2 ^ (7 * i) := by rw [show 7 * (i + 1) = 7 * i + 7 by omega, Nat.pow_add]; omega
                have h3 : (2 : Nat) ^ (7 * (i + 1)) ≤ 2 ^ 63 := Nat.pow_le_pow_right (by decide) (by omega)
                rw [Nat.add_mul] at h1
                omega
              obtain ⟨sh, esh⟩ : ∃ s, y * 2 ^ (7 * i) = s := ⟨_, rfl⟩
              obtain ⟨acc2, ea2⟩ : ∃ a, acc + sh = a := ⟨_, rfl⟩
              have hws : IntKind.u64.wrap ((y : Int) * 2 ^ (7 * i)) = (sh : Int) := by
                rw [← esh, show (y : Int) * 2 ^ (7 * i) = ((y * 2 ^ (7 * i) : Nat) : Int) by simp, IntKind.wrap_u64]
                omega
              have ho : (acc : Int) + (sh : Int) = (acc2 : Int) := by omega
              have hal : acc2 < 9223372036854775808 := by omega
              have HSH := Lib.hid esh
              have HA2 := Lib.hid ea2
              have hacc2 : acc2 < 2 ^ (7 * (i + 1)) := by
                have h1 : (y + 1) * 2 ^ (7 * i) ≤ 128 * 2 ^ (7 * i) := Nat.mul_le_mul_right _ (by omega)
                have h2 : (2 : Nat) ^ (7 * (i + 1)) = 128 * 2 ^ (7 * i) := by rw [show 7 * (i + 1) = 7 * i + 7 by omega, Nat.pow_add]; omega
                rw [Nat.add_mul] at h1
                omega
              have Hacc2 := Lib.hid hacc2
              have HY := Lib.hid ey
              clear esh ea2 hsh hacc2 hacc ey
              by_cases hx8 : x.toNat < 128
              · have t5 : (x.toNat : Int) < 128 := by omega
                by_cases hz : 0 < i ∧ x.toNat = 0
                · have t6 : (0 : Int) < (i : Int) := by omega
                  have t6d : decide ((0 : Int) < (i : Int)) = true := decide_eq_true t6
                  have t7 : ((x.toNat : Int) == 0) = true := by rw [beq_iff_eq]; omega
                  have HN := Lib.hid (show Q = none from by rw [HG.out, HD.out, decV_cons, if_neg (by omega), if_neg (by omega), if_pos hx8, if_pos hz])
                  have z2 := HS.out.z2
                  have g2 := HS.out.c2
                  clear hz h9
                  have HS2 := Lib.hid (HS.out.set2 true)
                  have HB2 := Lib.hid (HB.out.setCell (p := ⟨g, 2, none⟩) hg (.bool true))
                  have HK2 := Lib.hid (HK.out.set_ 2 (.bool true))
                  go_wp2
                  go_ret
                  exact ⟨HB2.out, HK2.out, Or.inl ⟨HN.out, rfl, _, HS2.out⟩⟩
                · have HE := Lib.hid (show Q = some (acc2, bs.drop j1) from by
                    rw [HJ1.out, HG.out, HD.out, decV_cons, if_neg (by omega), if_neg (by omega), if_pos hx8, if_neg hz, ← HA2.out, ← HSH.out, ← HY.out, Nat.mod_eq_of_lt hx8])
                  by_cases hx0 : x.toNat = 0
                  · have t6 : ¬ (0 : Int) < (i : Int) := by omega
                    have t6d : decide ((0 : Int) < (i : Int)) = false := decide_eq_false t6
                    have t7 : ((x.toNat : Int) == 0) = true := by rw [beq_iff_eq]; omega
                    clear hz h9 hx0
                    go_wp2
                    go_ret
                    exact num_post HN0.out hj1 HE.out HB.out HK.out HS.out
                  · have t7 : ((x.toNat : Int) == 0) = false := by rw [beq_eq_false_iff_ne]; omega
                    clear hz h9 hx0
                    go_wp2
                    go_ret
                    exact num_post HN0.out hj1 HE.out HB.out HK.out HS.out
              · have t5 : ¬ (x.toNat : Int) < 128 := by omega
                have HE := Lib.hid (show Q = decV (i + 1) acc2 (bs.drop j1) from by
                  rw [HJ1.out, HG.out, HD.out, decV_cons, if_neg (by omega), if_neg (by omega), if_neg hx8, ← HA2.out, ← HSH.out, ← HY.out, show x.toNat % 128 = x.toNat - 128 by omega])
                have hi2 : i + 1 ≤ 10 := by omega
                clear h9
                go_wp2
                go_roundw
                case rel => exact ⟨acc2, i + 1, (j1 : Int), false, rfl, by go_num, hi2, Hacc2, Lib.hid (by rw [if_neg (by decide), if_neg (by omega), Int.toNat_natCast]; exact HE.out), HS, HB, HK⟩
                case measure => simp [intOf]; omega
          · have dj : decide (n ≤ j) = true := decide_eq_true (by omega)
            have djI : decide ((n : Int) ≤ (j : Int)) = true := decide_eq_true (by omega)
            have HN := Lib.hid (show Q = none from by rw [HG.out, List.drop_of_length_le (by have := HN0.out; omega), decV_nil])
            go_wp2
            go_quiet (fail)
            clear g0 g1 g2 z1 z2
            have HS := Lib.hid (HS.out.drewN nq)
            have HB := Lib.hid (pw_below_drewN HB.out nq)
            have HK := Lib.hid (keep_drewN HK.out nq)
            have HC := Lib.hid (Kd.C_below HC.out (pw_below_drewN (Below.refl _ _) nq))
            generalize wr.drewN nq = W1 at HS HB HK HC ⊢
            clear nq
            have g0 := HS.out.c0
            have g1 := HS.out.c1
            have g2 := HS.out.c2
            have z1 := HS.out.z1
            have z2 := HS.out.z2
            have HS2 := Lib.hid (HS.out.set2 true)
            have HB2 := Lib.hid (HB.out.setCell (p := ⟨g, 2, none⟩) hg (.bool true))
            have HK2 := Lib.hid (HK.out.set_ 2 (.bool true))
            go_wp2
            go_ret
            exact ⟨HB2.out, HK2.out, Or.inl ⟨HN.out, rfl, _, HS2.out⟩⟩
    · have t1 : ¬ (i : Int) < 10 := by omega
      have HN := Lib.hid (show Q = none from by
        rw [HQ.out]
        split
        · rfl
        · split
          · rfl
          · cases bs.drop at'.toNat with
            | nil => exact decV_nil _ _
            | cons x r => rw [decV_cons, if_pos (by omega)])
      have HS2 := Lib.hid (HS.out.set2 true)
      have HB2 := Lib.hid (HB.out.setCell (p := ⟨g, 2, none⟩) hg (.bool true))
      have HK2 := Lib.hid (HK.out.set_ 2 (.bool true))
      go_wp2
      go_ret
      exact ⟨HB2.out, HK2.out, Or.inl ⟨HN.out, rfl, _, HS2.out⟩⟩
end
section
open Go Go.RowKit Go.Proofs.YteafilojjdfllaaW.PrintWords Go.Proofs.YteafilojjdfllaaW.PrintLast Go.Proofs.YteafilojjdfllaaW.PrintMore Go.Proofs.Yteafilojjdfllaa.PAll
set_option linter.unusedVariables false
set_option linter.unusedSimpArgs false

theorem num164n (w0 w : World) (g : Nat) (A : Option Addr) (n c : Nat) (bs : List UInt8) (at_ : Int) (b : Bool) (hq : numW b bs at_ = none) (hn : bs.length = n) (hl : n ≤ 1000000000000000) (hg : w0.heap.size ≤ g) (hB : Below w0.heap.size w0 w) (hS : RB w g A n c at_ b) (hC0 : (Kd.int .u8).C w0 A bs.length (bys bs)) :
    Calls Try.prog 164 #[.pointer (some ⟨g, 0, none⟩)] w fun e w' => e = .returned (.int .u64 0) ∧ Below w0.heap.size w0 w' ∧ KeepBut w w' g none ∧ ∃ i, RB w' g A n c i true := by
  refine (num164 w0 w g A n c bs at_ b hn hl hg hB hS hC0).mono ?_
  rw [hq]
  rintro e w' ⟨h1, h2, ⟨-, h3, h4⟩ | ⟨v, r, h3, _⟩⟩
  · exact ⟨h3, h1, h2, h4⟩
  · cases h3
theorem num164y (w0 w : World) (g : Nat) (A : Option Addr) (n c : Nat) (bs : List UInt8) (at_ : Int) (b : Bool) (v k : Nat) (r : List UInt8) (hq : numW b bs at_ = some (v, r)) (hk : (n : Int) - (r.length : Nat) = (k : Int)) (hn : bs.length = n) (hl : n ≤ 1000000000000000) (hg : w0.heap.size ≤ g) (hB : Below w0.heap.size w0 w) (hS : RB w g A n c at_ b) (hC0 : (Kd.int .u8).C w0 A bs.length (bys bs)) :
    Calls Try.prog 164 #[.pointer (some ⟨g, 0, none⟩)] w fun e w' => e = .returned (.int .u64 v) ∧ Below w0.heap.size w0 w' ∧ KeepBut w w' g none ∧ RB w' g A n c (k : Int) false := by
  refine (num164 w0 w g A n c bs at_ b hn hl hg hB hS hC0).mono ?_
  rw [hq]
  rintro e w' ⟨h1, h2, ⟨h3, _⟩ | ⟨v', r', h3, h4, h5⟩⟩
  · cases h3
  · cases h3
    rw [hk] at h5
    exact ⟨h4, h1, h2, h5⟩
theorem numW_place {b : Bool} {bs : List UInt8} {i : Int} {v : Nat} {r : List UInt8} (h : numW b bs i = some (v, r)) : b = false ∧ getW bs i = some (v, r) := by
  unfold numW at h
  split at h
  · cases h
  · next hb => exact ⟨by simpa using hb, h⟩
/-! ### Count -/
def countW (b : Bool) (most : Nat) (bs : List UInt8) (i : Int) : Option (Nat × List UInt8) :=
  match numW b bs i with
  | none => none
  | some (m, r) => if m ≤ most ∧ m ≤ r.length then some (m, r) else none
def CountPost (w0 w : World) (g : Nat) (A : Option Addr) (n c : Nat) (Q : Option (Nat × List UInt8)) (e : Ending) (w' : World) : Prop :=
  Below w0.heap.size w0 w' ∧ KeepBut w w' g none ∧
    ((Q = none ∧ e = .returned (.int .i64 0) ∧ ∃ i, RB w' g A n c i true) ∨ ∃ v r, Q = some (v, r) ∧ e = .returned (.int .i64 (v : Nat)) ∧ RB w' g A n c ((n : Int) - (r.length : Nat)) false)
set_option maxRecDepth 100000 in
set_option maxHeartbeats 8000000 in
/-- Count. -/
theorem count120 (w0 w : World) (g : Nat) (A : Option Addr) (n c : Nat) (bs : List UInt8) (at_ : Int) (b : Bool) (most : Nat) (hm : most ≤ 1000000) (hn : bs.length = n) (hl : n ≤ 1000000000000000) (hg : w0.heap.size ≤ g) (hB : Below w0.heap.size w0 w) (hS : RB w g A n c at_ b) (hC0 : (Kd.int .u8).C w0 A bs.length (bys bs)) :
    Calls Try.prog 120 #[.pointer (some ⟨g, 0, none⟩), .int .i64 most] w (CountPost w0 w g A n c (countW b most bs at_)) := by
  obtain ⟨Q, hQ⟩ : ∃ Q, countW b most bs at_ = Q := ⟨_, rfl⟩
  rw [hQ]
  unfold countW at hQ
  cases hq : numW b bs at_ with
  | none =>
    rw [hq] at hQ
    have HN := Lib.hid (show Q = none from hQ.symm)
    have h1 := Lib.hid (num164n w0 w g A n c bs at_ b hq hn hl hg hB hS hC0)
    clear hB hS hC0 hq hQ hn
    go_enter Try.func120, Try.ntmps120
    go_wp2_with fail
    (with_reducible refine h1.out.mono ?_)
    rintro e w1 ⟨rfl, hB1, hK1, i1, hS1⟩
    have HS := Lib.hid hS1
    have HB := Lib.hid hB1
    have HK := Lib.hid hK1
    clear hS1 hB1 hK1
    have g2 := HS.out.c2
    go_wp2
    go_quiet (fail)
    have HS := Lib.hid (HS.out.drewN nq)
    have HB := Lib.hid (pw_below_drewN HB.out nq)
    have HK := Lib.hid (keep_drewN HK.out nq)
    clear g2
    generalize w1.drewN nq = W1 at HS HB HK ⊢
    have g2 := HS.out.c2
    have z2 := HS.out.z2
    have HS2 := Lib.hid (HS.out.set2 true)
    have HB2 := Lib.hid (HB.out.setCell (p := ⟨g, 2, none⟩) hg (.bool true))
    have HK2 := Lib.hid (HK.out.set_ 2 (.bool true))
    go_wp2
    go_ret
    exact ⟨HB2.out, HK2.out, Or.inl ⟨HN.out, rfl, _, HS2.out⟩⟩
  | some q =>
    obtain ⟨m, r⟩ := q
    rw [hq] at hQ
    obtain ⟨rfl, hgq⟩ := numW_place hq
    obtain ⟨hp0, hp1, hp2, hp3, hp4⟩ := getW_place hgq
    obtain ⟨k, ek⟩ : ∃ k, bs.length - r.length = k := ⟨_, rfl⟩
    have hkI : (n : Int) - (r.length : Nat) = (k : Int) := by omega
    have h1 := Lib.hid (num164y w0 w g A n c bs at_ false m k r hq hkI hn hl hg hB hS hC0)
    have hkn : k ≤ n := by omega
    have hrl : r.length = n - k := by omega
    have hQ' : Q = if m ≤ most ∧ m ≤ r.length then some (m, r) else none := hQ.symm
    have HKI := Lib.hid hkI
    rw [hrl] at hQ'
    have hm0 : decide ((most : Int) < 0) = false := decide_eq_false (by omega)
    by_cases hok : m ≤ most ∧ m ≤ n - k
    · rw [if_pos hok] at hQ'
      have HQ := Lib.hid hQ'
      have t1 : decide ((most : Int) < (m : Int)) = false := decide_eq_false (by omega)
      have t2 : decide ((n : Int) - (k : Int) < (m : Int)) = false := decide_eq_false (by omega)
      have t1n : decide (most < m) = false := decide_eq_false (by omega)
      have HW := Lib.hid (show wrap64 (m : Int) = (m : Int) from by unfold wrap64; omega)
      clear hB hS hC0 hq hQ hQ' hn hgq hp0 hp1 hp2 hp3 ek hkI hrl hok
      go_enter Try.func120, Try.ntmps120
      go_wp2_with fail
      (with_reducible refine h1.out.mono ?_)
      rintro e w1 ⟨rfl, hB1, hK1, hS1⟩
      have HS := Lib.hid hS1
      have HB := Lib.hid hB1
      have HK := Lib.hid hK1
      clear hS1 hB1 hK1
      have g0 := HS.out.c0
      have g1 := HS.out.c1
      have g2 := HS.out.c2
      go_wp2
      go_quiet (fail)
      have HS2 := Lib.hid (HS.out.drewN nq)
      have HB2 := Lib.hid (pw_below_drewN HB.out nq)
      have HK2 := Lib.hid (keep_drewN HK.out nq)
      go_wp2
      go_ret
      exact ⟨HB2.out, HK2.out, Or.inr ⟨m, r, HQ.out, by first | rfl | (show Ending.returned (.int .i64 (wrap64 (m : Int))) = _; rw [HW.out]), by rw [HKI.out]; exact HS2.out⟩⟩
    · rw [if_neg hok] at hQ'
      have HN := Lib.hid hQ'
      have hcase : Hid (decide ((most : Int) < (m : Int)) = true ∧ decide (most < m) = true) ∨ Hid (decide ((most : Int) < (m : Int)) = false ∧ decide (most < m) = false ∧ decide ((n : Int) - (k : Int) < (m : Int)) = true) := by
        by_cases h : m ≤ most
        · exact Or.inr (Lib.hid ⟨decide_eq_false (by omega), decide_eq_false (by omega), decide_eq_true (by omega)⟩)
        · exact Or.inl (Lib.hid ⟨decide_eq_true (by omega), decide_eq_true (by omega)⟩)
      clear hB hS hC0 hq hQ hQ' hn hgq hp0 hp1 hp2 hp3 ek hkI hrl hok
      go_enter Try.func120, Try.ntmps120
      go_wp2_with fail
      (with_reducible refine h1.out.mono ?_)
      rintro e w1 ⟨rfl, hB1, hK1, hS1⟩
      have HS := Lib.hid hS1
      have HB := Lib.hid hB1
      have HK := Lib.hid hK1
      clear hS1 hB1 hK1
      have g0 := HS.out.c0
      have g1 := HS.out.c1
      have g2 := HS.out.c2
      rcases hcase with t1 | t12
      · obtain ⟨t1', t1n⟩ := t1.out
        go_wp2
        go_quiet (fail)
        have HS := Lib.hid (HS.out.drewN nq)
        have HB := Lib.hid (pw_below_drewN HB.out nq)
        have HK := Lib.hid (keep_drewN HK.out nq)
        clear g0 g1 g2
        generalize w1.drewN nq = W1 at HS HB HK ⊢
        have g2 := HS.out.c2
        have z2 := HS.out.z2
        have HS2 := Lib.hid (HS.out.set2 true)
        have HB2 := Lib.hid (HB.out.setCell (p := ⟨g, 2, none⟩) hg (.bool true))
        have HK2 := Lib.hid (HK.out.set_ 2 (.bool true))
        go_wp2
        go_ret
        exact ⟨HB2.out, HK2.out, Or.inl ⟨HN.out, rfl, _, HS2.out⟩⟩
      · obtain ⟨t1', t1n, t2'⟩ := t12.out
        go_wp2
        go_quiet (fail)
        have HS := Lib.hid (HS.out.drewN nq)
        have HB := Lib.hid (pw_below_drewN HB.out nq)
        have HK := Lib.hid (keep_drewN HK.out nq)
        clear g0 g1 g2
        generalize w1.drewN nq = W1 at HS HB HK ⊢
        have g2 := HS.out.c2
        have z2 := HS.out.z2
        have HS2 := Lib.hid (HS.out.set2 true)
        have HB2 := Lib.hid (HB.out.setCell (p := ⟨g, 2, none⟩) hg (.bool true))
        have HK2 := Lib.hid (HK.out.set_ 2 (.bool true))
        go_wp2
        go_ret
        exact ⟨HB2.out, HK2.out, Or.inl ⟨HN.out, rfl, _, HS2.out⟩⟩
/-! ### Text -/
def rtextW (b : Bool) (most : Nat) (bs : List UInt8) (i : Int) : Option (List UInt8 × List UInt8) :=
  match numW b bs i with
  | none => none
  | some (m, r) => if m ≤ most ∧ m ≤ r.length then some (r.take m, r.drop m) else none
def RTextPost (w0 w : World) (g : Nat) (A : Option Addr) (n c : Nat) (Q : Option (List UInt8 × List UInt8)) (e : Ending) (w' : World) : Prop :=
  Below w0.heap.size w0 w' ∧ KeepBut w w' g none ∧
    ((Q = none ∧ e = .returned (.string ⟨#[]⟩) ∧ ∃ i, RB w' g A n c i true) ∨ ∃ t r, Q = some (t, r) ∧ e = .returned (.string ⟨t.toArray⟩) ∧ RB w' g A n c ((n : Int) - (r.length : Nat)) false)
set_option maxRecDepth 100000 in
set_option maxHeartbeats 8000000 in
/-- Text. -/
theorem rtext130 (w0 w : World) (g : Nat) (A : Option Addr) (n c : Nat) (bs : List UInt8) (at_ : Int) (b : Bool) (most : Nat) (hm : most ≤ 1000000) (hn : bs.length = n) (hc : n ≤ c) (hl : n ≤ 1000000000000000) (hg : w0.heap.size ≤ g) (hB : Below w0.heap.size w0 w) (hS : RB w g A n c at_ b) (hC0 : (Kd.int .u8).C w0 A bs.length (bys bs)) :
    Calls Try.prog 130 #[.pointer (some ⟨g, 0, none⟩), .int .i64 most] w (RTextPost w0 w g A n c (rtextW b most bs at_)) := by
  obtain ⟨Q, hQ⟩ : ∃ Q, rtextW b most bs at_ = Q := ⟨_, rfl⟩
  rw [hQ]
  unfold rtextW at hQ
  cases hq : numW b bs at_ with
  | none =>
    rw [hq] at hQ
    have HN := Lib.hid (show Q = none from hQ.symm)
    have h1 := Lib.hid (num164n w0 w g A n c bs at_ b hq hn hl hg hB hS hC0)
    clear hB hS hC0 hq hQ hn
    go_enter Try.func130, Try.ntmps130
    go_wp2_with fail
    (with_reducible refine h1.out.mono ?_)
    rintro e w1 ⟨rfl, hB1, hK1, i1, hS1⟩
    have HS := Lib.hid hS1
    have HB := Lib.hid hB1
    have HK := Lib.hid hK1
    clear hS1 hB1 hK1
    have g2 := HS.out.c2
    go_wp2
    go_quiet (fail)
    have HS := Lib.hid (HS.out.drewN nq)
    have HB := Lib.hid (pw_below_drewN HB.out nq)
    have HK := Lib.hid (keep_drewN HK.out nq)
    clear g2
    generalize w1.drewN nq = W1 at HS HB HK ⊢
    have g2 := HS.out.c2
    have z2 := HS.out.z2
    have HS2 := Lib.hid (HS.out.set2 true)
    have HB2 := Lib.hid (HB.out.setCell (p := ⟨g, 2, none⟩) hg (.bool true))
    have HK2 := Lib.hid (HK.out.set_ 2 (.bool true))
    go_wp2
    go_ret
    exact ⟨HB2.out, HK2.out, Or.inl ⟨HN.out, rfl, _, HS2.out⟩⟩
  | some q =>
    obtain ⟨m, r⟩ := q
    rw [hq] at hQ
    obtain ⟨rfl, hgq⟩ := numW_place hq
    obtain ⟨hp0, hp1, hp2, hp3, hp4⟩ := getW_place hgq
    obtain ⟨k, ek⟩ : ∃ k, bs.length - r.length = k := ⟨_, rfl⟩
    have hkI : (n : Int) - (r.length : Nat) = (k : Int) := by omega
    have h1 := Lib.hid (num164y w0 w g A n c bs at_ false m k r hq hkI hn hl hg hB hS hC0)
    have hkn : k ≤ n := by omega
    have hrl : r.length = n - k := by omega
    have hQ' : Q = if m ≤ most ∧ m ≤ r.length then some (r.take m, r.drop m) else none := hQ.symm
    have HKI := Lib.hid hkI
    rw [hrl] at hQ'
    have hm0 : decide ((most : Int) < 0) = false := decide_eq_false (by omega)
    by_cases hok : m ≤ most ∧ m ≤ n - k
    · rw [if_pos hok] at hQ'
      have HW := Lib.hid (show wrap64 (m : Int) = (m : Int) from by unfold wrap64; omega)
      have t1 : decide ((most : Int) < (m : Int)) = false := decide_eq_false (by omega)
      have t2 : decide ((n : Int) - (k : Int) < (m : Int)) = false := decide_eq_false (by omega)
      have t1n : decide (most < m) = false := decide_eq_false (by omega)
      obtain ⟨i5, hi5, hs5⟩ : ∃ i, Try.prog.info? 5 = some i ∧ i.size = 1 := by
        have h := infoBy
        cases hi : Try.prog.info? 5 with
        | none => rw [hi] at h; cases h
        | some i => rw [hi] at h; simp only [Option.map_some, Option.some.injEq, Prod.mk.injEq] at h; exact ⟨i, rfl, h.2.1⟩
      have hlen : (bys bs).length = n := by rw [bys_len]; exact hn
      have hmn := hok.2
      obtain ⟨A', hsl, hrd, -⟩ := print_mid_of (P := Try.prog) (Value.int .u8) (0 : Int) 85 5 .i64 .i64 Try.underlying85 hi5 hs5 A c (bys bs) (k : Int) ((k : Int) + (m : Int)) (by omega) (by omega) (by rw [hlen]; omega) (by rw [hlen]; exact hc)
      rw [show ((k : Int) + (m : Int)).toNat = k + m by omega, Int.toNat_natCast, bys_mid, hlen] at hsl hrd
      have hlm : (bys ((bs.drop k).take m)).length = m := by rw [bys_len, List.length_take, List.length_drop]; omega
      rw [hlm] at hsl hrd
      have hCm : (Kd.int .u8).C w0 A' m (bys ((bs.drop k).take m)) := Kd.C_of_reads (d := (0 : Int)) (hrd w0 (by have := Kd.reads_of_C (enc := Value.int .u8) (d := (0 : Int)) (h1 := fun _ => rfl) hC0; rwa [hn] at this))
      obtain ⟨tx, etx⟩ : ∃ t : ByteArray, (⟨((bs.drop k).take m).toArray⟩ : ByteArray) = t := ⟨_, rfl⟩
      have HCV := Lib.hid (fun (W : World) (h : Below w0.heap.size w0 W) => (by
        have h2 := Kd.C_string (P := Try.prog) (c := c - k) Try.underlying85 Try.underlying5 Try.underlying9 (Kd.C_below hCm h)
        rw [str_bytes, etx] at h2
        exact h2 : Sem.run Try.prog (convert 85 9 (.slice A' m (c - k))) W = .ok (.string tx) W))
      have HQ := Lib.hid (show Q = some ((bs.drop k).take m, (bs.drop k).drop m) from by rw [hQ', ← hp3, ek])
      have HTX := Lib.hid etx
      obtain ⟨k2, ek2, ek2I⟩ : ∃ k2 : Nat, k2 = k + m ∧ (k : Int) + (m : Int) = (k2 : Int) := ⟨k + m, rfl, by omega⟩
      have HK2 := Lib.hid (show (n : Int) - (((bs.drop k).drop m).length : Nat) = (k2 : Int) from by rw [List.length_drop, List.length_drop]; omega)
      have hk2 : k2 ≤ n := by omega
      rw [ek2I] at hsl
      have hw2 : IntKind.i64.wrap ((k : Int) + (m : Int)) = (k2 : Int) := by rw [ek2I, i64_w]; unfold wrap64; omega
      have hwm : IntKind.i64.wrap (m : Int) = (m : Int) := by rw [i64_w]; unfold wrap64; omega
      clear hB hS hC0 hq hQ hQ' hn hgq hp0 hp1 hp2 hp3 ek hkI hrl hok hrd hCm etx hlen hlm hi5 hs5 ek2
      go_enter Try.func130, Try.ntmps130
      go_wp2_with fail
      (with_reducible refine h1.out.mono ?_)
      rintro e w1 ⟨rfl, hB1, hK1, hS1⟩
      have HS := Lib.hid hS1
      have HB := Lib.hid hB1
      have HK := Lib.hid hK1
      clear hS1 hB1 hK1
      have g0 := HS.out.c0
      have g1 := HS.out.c1
      have g2 := HS.out.c2
      go_wp2
      go_quiet (fail)
      have HS2 := Lib.hid (HS.out.drewN nq)
      have HB2 := Lib.hid (pw_below_drewN HB.out nq)
      have HKK := Lib.hid (keep_drewN HK.out nq)
      clear g0 g1 g2
      generalize w1.drewN nq = W1 at HS2 HB2 HKK ⊢
      clear nq HS HB HK
      have g0 := HS2.out.c0
      have g1 := HS2.out.c1
      have hcv := fun q => HCV.out (W1.drewN q) (pw_below_drewN HB2.out q)
      go_wp2
      go_quiet (fail)
      have HS := Lib.hid (HS2.out.drewN nq)
      have HB := Lib.hid (pw_below_drewN HB2.out nq)
      have HK := Lib.hid (keep_drewN HKK.out nq)
      clear g0 g1 hcv
      generalize W1.drewN nq = W2 at HS HB HK ⊢
      have g1 := HS.out.c1
      have z1 := HS.out.z1
      have HS3 := Lib.hid (HS.out.set1 (k2 : Int))
      have HB3 := Lib.hid (HB.out.setCell (p := ⟨g, 1, none⟩) hg (.int .i64 (k2 : Int)))
      have HK3 := Lib.hid (HK.out.set_ 1 (.int .i64 (k2 : Int)))
      go_wp2
      go_ret
      exact ⟨HB3.out, HK3.out, Or.inr ⟨_, _, HQ.out, by rw [HTX.out]; rfl, by rw [HK2.out]; exact HS3.out⟩⟩
    · rw [if_neg hok] at hQ'
      have HN := Lib.hid hQ'
      have hcase : Hid (decide ((most : Int) < (m : Int)) = true ∧ decide (most < m) = true) ∨ Hid (decide ((most : Int) < (m : Int)) = false ∧ decide (most < m) = false ∧ decide ((n : Int) - (k : Int) < (m : Int)) = true) := by
        by_cases h : m ≤ most
        · exact Or.inr (Lib.hid ⟨decide_eq_false (by omega), decide_eq_false (by omega), decide_eq_true (by omega)⟩)
        · exact Or.inl (Lib.hid ⟨decide_eq_true (by omega), decide_eq_true (by omega)⟩)
      clear hB hS hC0 hq hQ hQ' hn hgq hp0 hp1 hp2 hp3 ek hkI hrl hok
      go_enter Try.func130, Try.ntmps130
      go_wp2_with fail
      (with_reducible refine h1.out.mono ?_)
      rintro e w1 ⟨rfl, hB1, hK1, hS1⟩
      have HS := Lib.hid hS1
      have HB := Lib.hid hB1
      have HK := Lib.hid hK1
      clear hS1 hB1 hK1
      have g0 := HS.out.c0
      have g1 := HS.out.c1
      have g2 := HS.out.c2
      rcases hcase with t1 | t12
      · obtain ⟨t1', t1n⟩ := t1.out
        go_wp2
        go_quiet (fail)
        have HS := Lib.hid (HS.out.drewN nq)
        have HB := Lib.hid (pw_below_drewN HB.out nq)
        have HK := Lib.hid (keep_drewN HK.out nq)
        clear g0 g1 g2
        generalize w1.drewN nq = W1 at HS HB HK ⊢
        have g2 := HS.out.c2
        have z2 := HS.out.z2
        have HS2 := Lib.hid (HS.out.set2 true)
        have HB2 := Lib.hid (HB.out.setCell (p := ⟨g, 2, none⟩) hg (.bool true))
        have HK2 := Lib.hid (HK.out.set_ 2 (.bool true))
        go_wp2
        go_ret
        exact ⟨HB2.out, HK2.out, Or.inl ⟨HN.out, rfl, _, HS2.out⟩⟩
      · obtain ⟨t1', t1n, t2'⟩ := t12.out
        go_wp2
        go_quiet (fail)
        have HS := Lib.hid (HS.out.drewN nq)
        have HB := Lib.hid (pw_below_drewN HB.out nq)
        have HK := Lib.hid (keep_drewN HK.out nq)
        clear g0 g1 g2
        generalize w1.drewN nq = W1 at HS HB HK ⊢
        have g2 := HS.out.c2
        have z2 := HS.out.z2
        have HS2 := Lib.hid (HS.out.set2 true)
        have HB2 := Lib.hid (HB.out.setCell (p := ⟨g, 2, none⟩) hg (.bool true))
        have HK2 := Lib.hid (HK.out.set_ 2 (.bool true))
        go_wp2
        go_ret
        exact ⟨HB2.out, HK2.out, Or.inl ⟨HN.out, rfl, _, HS2.out⟩⟩
/-! ### Int -/
def IntPost (w0 w : World) (g : Nat) (A : Option Addr) (n c : Nat) (Q : Option (Nat × List UInt8)) (e : Ending) (w' : World) : Prop :=
  Below w0.heap.size w0 w' ∧ KeepBut w w' g none ∧
    ((Q = none ∧ e = .returned (.int .i64 0) ∧ ∃ i, RB w' g A n c i true) ∨ ∃ v r, Q = some (v, r) ∧ e = .returned (.int .i64 (zag v)) ∧ RB w' g A n c ((n : Int) - (r.length : Nat)) false)
set_option maxRecDepth 100000 in
set_option maxHeartbeats 8000000 in
/-- Int. -/
theorem rint121 (w0 w : World) (g : Nat) (A : Option Addr) (n c : Nat) (bs : List UInt8) (at_ : Int) (b : Bool) (hn : bs.length = n) (hl : n ≤ 1000000000000000) (hg : w0.heap.size ≤ g) (hB : Below w0.heap.size w0 w) (hS : RB w g A n c at_ b) (hC0 : (Kd.int .u8).C w0 A bs.length (bys bs)) :
    Calls Try.prog 121 #[.pointer (some ⟨g, 0, none⟩)] w (IntPost w0 w g A n c (numW b bs at_)) := by
  obtain ⟨Q, hQ⟩ : ∃ Q, numW b bs at_ = Q := ⟨_, rfl⟩
  rw [hQ]
  cases Q with
  | none =>
    have h1 := Lib.hid (num164n w0 w g A n c bs at_ b hQ hn hl hg hB hS hC0)
    clear hB hS hC0 hQ hn
    go_enter Try.func121, Try.ntmps121
    go_wp2_with fail
    (with_reducible refine h1.out.mono ?_)
    rintro e w1 ⟨rfl, hB1, hK1, i1, hS1⟩
    go_wp2
    go_ret
    exact ⟨hB1, hK1, Or.inl ⟨rfl, rfl, _, hS1⟩⟩
  | some q =>
    obtain ⟨v, r⟩ := q
    obtain ⟨rfl, hgq⟩ := numW_place hQ
    obtain ⟨hp0, hp1, hp2, hp3, hp4⟩ := getW_place hgq
    obtain ⟨k, hkI⟩ : ∃ k : Nat, (n : Int) - (r.length : Nat) = (k : Int) := ⟨n - r.length, by omega⟩
    have h1 := Lib.hid (num164y w0 w g A n c bs at_ false v k r hQ hkI hn hl hg hB hS hC0)
    have HKI := Lib.hid hkI
    obtain ⟨z, hz⟩ : ∃ z, zag v = z := ⟨_, rfl⟩
    by_cases hv2 : v % 2 = 1
    · obtain ⟨h, hh⟩ : ∃ h, v / 2 = h := ⟨_, rfl⟩
      have t1 : ((v : Int) % 2 == 1) = true := by rw [beq_iff_eq]; omega
      have t2 : (v : Int) / 2 = (h : Int) := by omega
      have hh2 : h < 9223372036854775808 := by omega
      have HZ := Lib.hid (show zag v = -(h : Int) - 1 from by unfold zag; rw [if_pos hv2, hh])
      clear hB hS hC0 hQ hn hgq hp0 hp1 hp2 hp3 hkI hz hv2 hh
      go_enter Try.func121, Try.ntmps121
      go_wp2_with fail
      (with_reducible refine h1.out.mono ?_)
      rintro e w1 ⟨rfl, hB1, hK1, hS1⟩
      go_wp2
      go_ret
      exact ⟨hB1, hK1, Or.inr ⟨v, r, rfl, by rw [HZ.out]; first | rfl | (simp; done), by rw [HKI.out]; exact hS1⟩⟩
    · obtain ⟨h, hh⟩ : ∃ h, v / 2 = h := ⟨_, rfl⟩
      have t1 : ((v : Int) % 2 == 1) = false := by rw [beq_eq_false_iff_ne]; omega
      have t2 : (v : Int) / 2 = (h : Int) := by omega
      have hh2 : h < 9223372036854775808 := by omega
      have HZ := Lib.hid (show zag v = (h : Int) from by unfold zag; rw [if_neg hv2, hh])
      clear hB hS hC0 hQ hn hgq hp0 hp1 hp2 hp3 hkI hz hv2 hh
      go_enter Try.func121, Try.ntmps121
      go_wp2_with fail
      (with_reducible refine h1.out.mono ?_)
      rintro e w1 ⟨rfl, hB1, hK1, hS1⟩
      go_wp2
      go_ret
      exact ⟨hB1, hK1, Or.inr ⟨v, r, rfl, by rw [HZ.out]; first | rfl | (simp; done), by rw [HKI.out]; exact hS1⟩⟩
end
end Go.Proofs.Yteafilojjdfllaa
