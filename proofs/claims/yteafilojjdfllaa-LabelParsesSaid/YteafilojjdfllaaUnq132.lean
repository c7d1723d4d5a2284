/- Own text: label.Unquoted, walked (written by wip/genunq.py). -/
import Derived.Test.YteafilojjdfllaaUnq
import Derived.Test.YteafilojjdfllaaQJ
import Derived.Test.YteafilojjdfllaaJumps
import Derived.Lib.Hide
namespace Go.Proofs.Yteafilojjdfllaa
open Go Go.RowKit Go.Proofs.YteafilojjdfllaaW.PrintWords Go.Proofs.YteafilojjdfllaaW.PrintLast Go.Proofs.YteafilojjdfllaaW.PrintMore Go.Proofs.Yteafilojjdfllaa.PAll
set_option linter.unusedVariables false
set_option linter.unusedSimpArgs false

def unqRet (n : Nat) : Option (List UInt8 × List UInt8) → Value
  | none => .tuple #[.string ⟨#[]⟩, .int .i64 0, .bool false]
  | some (v, t) => .tuple #[.string ⟨v.toArray⟩, .int .i64 ((n : Int) - t.length), .bool true]
def bN (s : ByteArray) (n : Nat) : UInt8 := s.data.toList.getD n 0
theorem bN_at (s : ByteArray) (n : Nat) (x : UInt8) (hx : bN s n = x) : ∀ h : n < s.size, ((s[n]'h).toNat : Int) = (x.toNat : Int) := fun h => by
  have h' : n < s.data.size := h
  rw [← hx, bN, List.getD_eq_getElem?_getD, Array.getElem?_toList, Array.getElem?_eq_getElem h']
  rfl
theorem bN_drop (s : ByteArray) (n : Nat) (h : n < s.size) : s.data.toList.drop n = bN s n :: s.data.toList.drop (n + 1) := bdrop s n h
theorem unq_nil {step : List UInt8 → Step} : unqW step [] = none := by rw [unqW]
theorem unq_cons {step : List UInt8 → Step} (x : UInt8) (r : List UInt8) : unqW step (x :: r) = match step (x :: r) with
    | .stop => none
    | .done => some ([], r)
    | .byte c n => (unqW step (r.drop n)).map (fun q => (c :: q.1, q.2)) := by rw [unqW]; rfl
theorem unq_end (s : ByteArray) (j : Nat) (h : s.size ≤ j) : unqW stepP (s.data.toList.drop j) = none := by
  rw [List.drop_of_length_le (by simpa using h), unq_nil]
theorem unq_34 (s : ByteArray) (j : Nat) (h : j < s.size) (hx : bN s j = 34) : unqW stepP (s.data.toList.drop j) = some ([], s.data.toList.drop (j + 1)) := by
  rw [bN_drop s j h, hx, unq_cons, stepP_cons, if_pos rfl]
theorem unq_raw (s : ByteArray) (j : Nat) (h : j < s.size) (x : UInt8) (hx : bN s j = x) (h1 : x ≠ 34) (h2 : x ≠ 92) : unqW stepP (s.data.toList.drop j) = (unqW stepP (s.data.toList.drop (j + 1))).map (fun q => (x :: q.1, q.2)) := by
  rw [bN_drop s j h, hx, unq_cons, stepP_cons, if_neg h1, if_neg h2]
  rfl
theorem drop_getD (s : ByteArray) (j i : Nat) : (s.data.toList.drop j).getD i 0 = bN s (j + i) := by
  rw [bN, List.getD_eq_getElem?_getD, List.getD_eq_getElem?_getD, List.getElem?_drop]
theorem drop_len (s : ByteArray) (j : Nat) : (s.data.toList.drop j).length = s.size - j := by
  rw [List.length_drop]; simp
theorem unq_hex (s : ByteArray) (j : Nat) (h : j + 4 ≤ s.size) (hx : bN s j = 92) (h1 : bN s (j + 1) = 120) (y z : UInt8) (hy : bN s (j + 2) = y) (hz : bN s (j + 3) = z) : unqW stepP (s.data.toList.drop j) = if hexV y < 0 ∨ hexV z < 0 then none else (unqW stepP (s.data.toList.drop (j + 4))).map (fun q => (hexB y z :: q.1, q.2)) := by
  rw [bN_drop s j (by omega), hx, unq_cons, stepP_cons, if_neg (by decide), if_pos rfl, drop_getD, drop_getD, drop_getD, drop_len, if_pos ⟨by omega, h1⟩, hy, hz]
  split <;> rename_i e <;> split at e <;> cases e <;> rename_i e2
  · rw [if_pos e2]
  · rw [if_neg e2, List.drop_drop]
theorem unq_short (s : ByteArray) (j : Nat) (h : j < s.size) (h2 : s.size < j + 2) (hx : bN s j = 92) : unqW stepP (s.data.toList.drop j) = none := by
  rw [bN_drop s j (by omega), hx, unq_cons, stepP_cons, if_neg (by decide), if_pos rfl, drop_getD, drop_getD, drop_getD, drop_len, if_neg (fun h => by omega), if_pos (by omega)]
theorem unq_next (s : ByteArray) (j : Nat) (h : j + 2 ≤ s.size) (hx : bN s j = 92) (h1 : ¬ (j + 4 ≤ s.size ∧ bN s (j + 1) = 120)) (y : UInt8) (hy : bN s (j + 1) = y) : unqW stepP (s.data.toList.drop j) = (unqW stepP (s.data.toList.drop (j + 2))).map (fun q => (y :: q.1, q.2)) := by
  rw [bN_drop s j (by omega), hx, unq_cons, stepP_cons, if_neg (by decide), if_pos rfl, drop_getD, drop_getD, drop_getD, drop_len, if_neg (fun h => h1 ⟨by omega, h.2⟩), if_neg (by omega)]
  simp only [Nat.add_zero, hy, List.drop_drop]
theorem un_toNat {x : UInt8} {n : Nat} (hn : n < 256) : (x.toNat : Int) = (n : Int) ↔ x = n.toUInt8 := by
  constructor
  · intro h
    refine UInt8.toNat_inj.1 ?_
    simp
    omega
  · rintro rfl
    simp
    omega
theorem hexV_fin : ∀ n : Fin 256, -1 ≤ hexV n.val.toUInt8 ∧ hexV n.val.toUInt8 ≤ 15 := by decide +kernel
theorem hexV_range (c : UInt8) : -1 ≤ hexV c ∧ hexV c ≤ 15 := by
  have h := hexV_fin ⟨c.toNat, c.toNat_lt⟩
  simp only [show c.toNat.toUInt8 = c from by simp] at h
  exact h
theorem or16 : ∀ a b : Fin 16, Go.bits .or .i64 ((a.val : Int) * 16) (b.val : Int) % 256 = ((a.val * 16 + b.val : Nat) : Int) := by decide +kernel
theorem or_hex {y z : UInt8} {v1 v2 : Int} (h1 : hexV y = v1) (h2 : hexV z = v2) (p1 : 0 ≤ v1) (p2 : 0 ≤ v2) : Go.bits .or .i64 (v1 * 16) v2 % 256 = ((hexB y z).toNat : Int) := by
  have r1 := (hexV_range y).2
  have r2 := (hexV_range z).2
  rw [h1] at r1
  rw [h2] at r2
  have h := or16 ⟨v1.toNat, by omega⟩ ⟨v2.toNat, by omega⟩
  simp only at h
  rw [Int.toNat_of_nonneg p1, Int.toNat_of_nonneg p2] at h
  rw [h, hexB, h1, h2]
  simp
  omega
theorem idx131 (w : World) (b : UInt8) (v : Int) (hv : hexV b = v) : Calls Try.prog 131 #[.string ⟨#[48, 49, 50, 51, 52, 53, 54, 55, 56, 57, 97, 98, 99, 100, 101, 102]⟩, .int .u8 (b.toNat : Int)] w fun e w' => e = .returned (.int .i64 v) ∧ ∃ m, w' = w.drewN m := by
  refine (Try.strings_IndexByte _ _ w).mono ?_
  rintro e w' ⟨rfl, rfl⟩
  refine ⟨?_, 0, rfl⟩
  rw [← hv, Int.toNat_natCast]
  unfold hexV digL
  simp
theorem val_34 (s : ByteArray) (j : Nat) (h : j < s.size) (hx : bN s j = 34) : valW stepP (s.data.toList.drop j) = (unqW stepP (s.data.toList.drop (j + 1))).map (fun q => ([] ++ q.1, q.2)) := by
  rw [bN_drop s j h, hx]
  show unqW stepP _ = _
  cases unqW stepP (s.data.toList.drop (j + 1)) <;> rfl
theorem val_end (s : ByteArray) (j : Nat) (h : s.size ≤ j) : valW stepP (s.data.toList.drop j) = none := by
  rw [List.drop_of_length_le (by simpa using h)]; rfl
theorem val_no (s : ByteArray) (j : Nat) (h : j < s.size) (hx : bN s j ≠ 34) : valW stepP (s.data.toList.drop j) = none := by
  rw [bN_drop s j h]
  generalize bN s j = y at hx
  unfold valW
  split
  · rename_i e; cases e; exact absurd rfl hx
  · rfl
theorem map_snoc {Q q : Option (List UInt8 × List UInt8)} {xs : List UInt8} {c : UInt8} {r : Option (List UInt8 × List UInt8)} (h : Q = q.map (fun q => (xs ++ q.1, q.2))) (hq : q = r.map (fun q => (c :: q.1, q.2))) : Q = r.map (fun q => ((xs ++ [c]) ++ q.1, q.2)) := by
  rw [h, hq]
  cases r <;> simp
theorem map_none' {Q q : Option (List UInt8 × List UInt8)} {xs : List UInt8} (h : Q = q.map (fun q => (xs ++ q.1, q.2))) (hq : q = none) : Q = none := by rw [h, hq]; rfl
/-- the frame at a label -/
def unqF (s : ByteArray) (j : Nat) (o : Value) (a : Act) : Prop :=
  ∃ f : Nat → Value, a = { tmps := #[.string s, .int .i64 (j : Int), undef, undef, f 4, f 5, f 6, o, f 8, f 9, f 10, f 11, f 12, f 13, f 14, f 15, f 16, f 17, f 18, f 19, f 20, f 21, f 22, f 23, f 24, f 25, f 26, f 27, f 28, f 29, f 30, f 31, f 32, f 33, f 34, f 35, f 36, f 37, f 38, f 39, f 40, f 41, f 42, f 43, f 44, f 45, f 46, f 47, f 48, f 49, f 50, f 51, f 52, f 53, f 54, f 55, f 56, f 57, f 58, f 59, f 60, f 61, f 62, f 63, f 64, f 65, f 66, f 67, f 68, f 69, f 70, f 71, f 72, f 73, f 74, f 75, f 76, f 77, f 78, f 79, f 80, f 81, f 82, f 83, f 84, f 85, f 86, f 87, f 88, f 89, f 90, f 91, f 92, f 93, f 94, f 95, f 96], defers := [] }
theorem unqF_mk (s : ByteArray) (j : Nat) (o : Value) (T : Array Value) (h : T = #[.string s, .int .i64 (j : Int), undef, undef, T.getD 4 undef, T.getD 5 undef, T.getD 6 undef, o, T.getD 8 undef, T.getD 9 undef, T.getD 10 undef, T.getD 11 undef, T.getD 12 undef, T.getD 13 undef, T.getD 14 undef, T.getD 15 undef, T.getD 16 undef, T.getD 17 undef, T.getD 18 undef, T.getD 19 undef, T.getD 20 undef, T.getD 21 undef, T.getD 22 undef, T.getD 23 undef, T.getD 24 undef, T.getD 25 undef, T.getD 26 undef, T.getD 27 undef, T.getD 28 undef, T.getD 29 undef, T.getD 30 undef, T.getD 31 undef, T.getD 32 undef, T.getD 33 undef, T.getD 34 undef, T.getD 35 undef, T.getD 36 undef, T.getD 37 undef, T.getD 38 undef, T.getD 39 undef, T.getD 40 undef, T.getD 41 undef, T.getD 42 undef, T.getD 43 undef, T.getD 44 undef, T.getD 45 undef, T.getD 46 undef, T.getD 47 undef, T.getD 48 undef, T.getD 49 undef, T.getD 50 undef, T.getD 51 undef, T.getD 52 undef, T.getD 53 undef, T.getD 54 undef, T.getD 55 undef, T.getD 56 undef, T.getD 57 undef, T.getD 58 undef, T.getD 59 undef, T.getD 60 undef, T.getD 61 undef, T.getD 62 undef, T.getD 63 undef, T.getD 64 undef, T.getD 65 undef, T.getD 66 undef, T.getD 67 undef, T.getD 68 undef, T.getD 69 undef, T.getD 70 undef, T.getD 71 undef, T.getD 72 undef, T.getD 73 undef, T.getD 74 undef, T.getD 75 undef, T.getD 76 undef, T.getD 77 undef, T.getD 78 undef, T.getD 79 undef, T.getD 80 undef, T.getD 81 undef, T.getD 82 undef, T.getD 83 undef, T.getD 84 undef, T.getD 85 undef, T.getD 86 undef, T.getD 87 undef, T.getD 88 undef, T.getD 89 undef, T.getD 90 undef, T.getD 91 undef, T.getD 92 undef, T.getD 93 undef, T.getD 94 undef, T.getD 95 undef, T.getD 96 undef]) : unqF s j o { tmps := T, defers := [] } := ⟨fun k => T.getD k undef, congrArg (fun t => ({ tmps := t, defers := [] } : Act)) h⟩

def unqJ (w : World) (s : ByteArray) (Q : Option (List UInt8 × List UInt8)) (n : Nat) (j : Nat) (a : Act) (w' : World) : Prop :=
  ∃ (o : Value) (xs : List UInt8), unqF s j o a ∧ j ≤ s.size ∧ (Kd.int .u8).R 5 w' w.heap.size (fun _ => True) o (ints xs) ∧ Q = (unqW stepP (s.data.toList.drop j)).map (fun q => (xs ++ q.1, q.2)) ∧ Below w.heap.size w w' ∧ xs.length ≤ j
def unqL (w : World) (s : ByteArray) (Q : Option (List UInt8 × List UInt8)) (l n : Nat) (a : Act) (w' : World) : Prop :=
  (l = 0 ∧ ∃ j, n = 2 * (s.size - j) + 1 ∧ unqJ w s Q n j a w') ∨ (l = 1 ∧ ∃ j, n = 0 ∧ j < s.size ∧ bN s j = 34 ∧ unqJ w s Q n j a w') ∨ (l = 2 ∧ ∃ j, n = 2 * (s.size - j) ∧ j < s.size ∧ bN s j = 92 ∧ unqJ w s Q n j a w')

set_option maxRecDepth 100000 in
set_option maxHeartbeats 8000000 in
theorem unq132 (w : World) (s : ByteArray) (i : Nat) (hi : i ≤ s.size) (hs : s.size ≤ 1000000000) :
    Calls Try.prog 132 #[.string s, .int .i64 i] w fun e w' => e = .returned (unqRet s.size (valW stepP (s.data.toList.drop i))) ∧ Below w.heap.size w w' := by
  obtain ⟨Q, hQ⟩ : ∃ Q, valW stepP (s.data.toList.drop i) = Q := ⟨_, rfl⟩
  rw [hQ]
  have HQ := Lib.hid hQ
  clear hQ
  go_enter Try.func132, Try.ntmps132
  go_wp2
  refine wp_scope_many (unqL w s Q) ?first ?pass
  case first =>
    intro hpass
    have HB := Lib.hid (Below.refl w.heap.size w)
    by_cases hlt : i < s.size
    · obtain ⟨x, hx⟩ : ∃ x, bN s i = x := ⟨_, rfl⟩
      have hx0 := bN_at s i x hx
      have hge : decide (s.size ≤ i) = false := decide_eq_false (by omega)
      by_cases e34 : (x.toNat : Int) = 34
      · have HQ2 := Lib.hid (HQ.out.symm.trans (val_34 s i hlt (hx.trans ((un_toNat (n := 34) (by decide)).1 e34))))
        clear hx
        go_wp2
        go_step3
        clear e34 hx0 hge
        have hHE : ∃ j : Nat, j = i + 1 ∧ (i : Int) + 1 = (j : Int) ∧ Hid (Q = (unqW stepP (s.data.toList.drop j)).map (fun q => (([] : List UInt8) ++ q.1, q.2))) := ⟨i + 1, rfl, rfl, HQ2⟩
        obtain ⟨j, ej, ejI, HE⟩ := hHE
        rw [ejI]
        have hjs : j ≤ s.size := by omega
        clear ej ejI HQ2
        have HR := Lib.hid (Kd.R_nil (d := Kd.int .u8) 5 w w.heap.size (fun _ => True))
        obtain ⟨o, eo⟩ : ∃ o, Value.slice none 0 0 = o := ⟨_, rfl⟩
        rw [eo] at HR
        obtain ⟨xs, exs⟩ : ∃ xs : List UInt8, ([] : List UInt8) = xs := ⟨_, rfl⟩
        have hl : xs.length ≤ j := by rw [← exs]; exact Nat.zero_le _
        rw [exs] at HE
        have HR := Lib.hid (show (Kd.int .u8).R 5 w w.heap.size (fun _ => True) o (ints xs) from by rw [← exs]; exact HR.out)
        clear exs
        rw [eo]
        clear eo
        by_cases hlj : j < s.size
        · obtain ⟨x, hx⟩ : ∃ x, bN s j = x := ⟨_, rfl⟩
          have hx0 := bN_at s j x hx
          have hge : decide (s.size ≤ j) = false := decide_eq_false (by omega)
          have HX := Lib.hid hx
          clear hx
          by_cases e34 : (x.toNat : Int) = 34
          · go_wp2
            go_step3
            exact (show ∃ m, unqL w s Q 1 m _ _ from ⟨0, Or.inr (Or.inl ⟨rfl, j, rfl, hlj, HX.out.trans ((un_toNat (n := 34) (by decide)).1 e34), o, xs, unqF_mk s j o _ rfl, hjs, HR.out, HE.out, HB.out, hl⟩)⟩)
          · have n34 : ((x.toNat : Int) == 34) = false := beq_eq_false_iff_ne.2 e34
            by_cases e92 : (x.toNat : Int) = 92
            · go_wp2
              go_step3
              exact (show ∃ m, unqL w s Q 2 m _ _ from ⟨_, Or.inr (Or.inr ⟨rfl, j, rfl, hlj, HX.out.trans ((un_toNat (n := 92) (by decide)).1 e92), o, xs, unqF_mk s j o _ rfl, hjs, HR.out, HE.out, HB.out, hl⟩)⟩)
            · have n92 : ((x.toNat : Int) == 92) = false := beq_eq_false_iff_ne.2 e92
              have HE2 := Lib.hid (map_snoc HE.out (unq_raw s j hlj x HX.out (fun e => e34 (by rw [e]; rfl)) (fun e => e92 (by rw [e]; rfl))))
              go_wp2_with (at_builtin; refine Kd.R_append (Kd.int .u8) (w0 := w) w.heap.size rfl (.tmp 33) (.tmp 37) 85 5 (.int .u8 0) 1 rfl Try.underlying85 info5 rfl (by decide) (by omega) o (ints xs) ((x.toNat : Int)) [.int .u8 ((x.toNat : Int))] (fun _ => True) (fun _ => False) rfl rfl rfl (fun _ hk => hk.elim) (fun _ _ => trivial) HR.out HB.out (below_size HB.out) (by rw [ints_len]; omega) ?_; intro v1 w1 hown1 hbel1 hg1 hat1; clear hg1 hat1)
              have HO := Lib.hid (show (Kd.int .u8).R 5 w1 w.heap.size (fun _ => True) v1 (ints (xs ++ [x])) from by rw [ints_app]; exact hown1)
              have HB1 := Lib.hid hbel1
              clear hown1 hbel1
              go_wp2
              go_step3
              exact (show ∃ m, unqL w s Q 0 m _ _ from ⟨_, Or.inl ⟨rfl, j + 1, rfl, v1, xs ++ [x], unqF_mk s (j + 1) v1 _ rfl, by omega, HO.out, HE2.out, HB1.out, by rw [List.length_append, List.length_singleton]; omega⟩⟩)
        · have hge : decide (s.size ≤ j) = true := decide_eq_true (by omega)
          have HE2 := Lib.hid (map_none' HE.out (unq_end s j (by omega)))
          go_wp2
          rw [jumps_ret]
          go_ret3
          exact ⟨by rw [HE2.out]; rfl, HB.out⟩
      · have HQ2 := Lib.hid (HQ.out.symm.trans (val_no s i hlt (fun e => e34 ((un_toNat (n := 34) (by decide)).2 (hx.symm.trans e)))))
        have n34 : ((x.toNat : Int) == 34) = false := beq_eq_false_iff_ne.2 e34
        have n34b : ((x.toNat : Int) != 34) = true := by simp [bne, n34]
        clear hx
        go_wp2
        rw [jumps_ret]
        go_ret3
        exact ⟨by rw [HQ2.out]; rfl, HB.out⟩
    · have HQ2 := Lib.hid (HQ.out.symm.trans (val_end s i (by omega)))
      have hge : decide (s.size ≤ i) = true := decide_eq_true (by omega)
      go_wp2
      rw [jumps_ret]
      go_ret3
      exact ⟨by rw [HQ2.out]; rfl, HB.out⟩
  case pass =>
    rintro l n a w' (⟨rfl, j, rfl, hJ⟩ | ⟨rfl, j, rfl, hj, hx, hJ⟩ | ⟨rfl, j, rfl, hj, hx, hJ⟩)
    · refine ⟨_, rfl, ?_⟩
      obtain ⟨o, xs, ⟨f, rfl⟩, hj, hR, hE, hB, hl⟩ := hJ
      have HR := Lib.hid hR
      have HE := Lib.hid hE
      have HB := Lib.hid hB
      clear hR hE hB
      by_cases hlt : j < s.size
      · obtain ⟨x, hx⟩ : ∃ x, bN s j = x := ⟨_, rfl⟩
        have hx0 := bN_at s j x hx
        have hge : decide (s.size ≤ j) = false := decide_eq_false (by omega)
        have HX := Lib.hid hx
        clear hx
        by_cases e34 : (x.toNat : Int) = 34
        · go_wp2
          go_step3
          exact (show ∃ m, m < 2 * (s.size - j) + 1 ∧ unqL w s Q 1 m _ _ from ⟨0, by omega, Or.inr (Or.inl ⟨rfl, j, rfl, hlt, HX.out.trans ((un_toNat (n := 34) (by decide)).1 e34), o, xs, unqF_mk s j o _ rfl, hj, HR.out, HE.out, HB.out, hl⟩)⟩)
        · have n34 : ((x.toNat : Int) == 34) = false := beq_eq_false_iff_ne.2 e34
          by_cases e92 : (x.toNat : Int) = 92
          · go_wp2
            go_step3
            exact (show ∃ m, m < 2 * (s.size - j) + 1 ∧ unqL w s Q 2 m _ _ from ⟨_, by omega, Or.inr (Or.inr ⟨rfl, j, rfl, hlt, HX.out.trans ((un_toNat (n := 92) (by decide)).1 e92), o, xs, unqF_mk s j o _ rfl, hj, HR.out, HE.out, HB.out, hl⟩)⟩)
          · have n92 : ((x.toNat : Int) == 92) = false := beq_eq_false_iff_ne.2 e92
            have HE2 := Lib.hid (map_snoc HE.out (unq_raw s j hlt x HX.out (fun e => e34 (by rw [e]; rfl)) (fun e => e92 (by rw [e]; rfl))))
            go_wp2_with (at_builtin; refine Kd.R_append (Kd.int .u8) (w0 := w) w.heap.size rfl (.tmp 33) (.tmp 37) 85 5 (.int .u8 0) 1 rfl Try.underlying85 info5 rfl (by decide) (by omega) o (ints xs) ((x.toNat : Int)) [.int .u8 ((x.toNat : Int))] (fun _ => True) (fun _ => False) rfl rfl rfl (fun _ hk => hk.elim) (fun _ _ => trivial) HR.out HB.out (below_size HB.out) (by rw [ints_len]; omega) ?_; intro v1 w1 hown1 hbel1 hg1 hat1; clear hg1 hat1)
            have HO := Lib.hid (show (Kd.int .u8).R 5 w1 w.heap.size (fun _ => True) v1 (ints (xs ++ [x])) from by rw [ints_app]; exact hown1)
            have HB1 := Lib.hid hbel1
            clear hown1 hbel1
            go_wp2
            go_step3
            exact (show ∃ m, m < 2 * (s.size - j) + 1 ∧ unqL w s Q 0 m _ _ from ⟨_, by omega, Or.inl ⟨rfl, j + 1, rfl, v1, xs ++ [x], unqF_mk s (j + 1) v1 _ rfl, by omega, HO.out, HE2.out, HB1.out, by rw [List.length_append, List.length_singleton]; omega⟩⟩)
      · have hge : decide (s.size ≤ j) = true := decide_eq_true (by omega)
        have HE2 := Lib.hid (map_none' HE.out (unq_end s j (by omega)))
        go_wp2
        rw [jumps_ret]
        go_ret3
        exact ⟨by rw [HE2.out]; rfl, HB.out⟩
    · refine ⟨_, rfl, ?_⟩
      obtain ⟨o, xs, ⟨f, rfl⟩, hjs, hR, hE, hB, hl⟩ := hJ
      have HR := Lib.hid hR
      have HE := Lib.hid hE
      have HB := Lib.hid hB
      have HX := Lib.hid hx
      clear hR hE hB hx
      have hcv := own_string (P := Try.prog) Try.underlying85 Try.underlying5 Try.underlying9 (Kd.own_of_R HR.out)
      have HE2 := Lib.hid (HE.out.trans (congrArg (Option.map (fun q => (xs ++ q.1, q.2))) (unq_34 s j hj HX.out)))
      go_wp2
      rw [jumps_ret]
      go_ret3
      refine ⟨?_, HB.out⟩
      rw [HE2.out]
      have h1 : strOfNums (ints xs) = ⟨xs.toArray⟩ := Lib.Lz.strOfNums_map xs
      have h2 : ((s.size : Int) - ((s.data.toList.drop (j + 1)).length : Nat)) = (j : Int) + 1 := by rw [drop_len]; omega
      show _ = Ending.returned (.tuple #[.string ⟨(xs ++ []).toArray⟩, .int .i64 ((s.size : Int) - ((s.data.toList.drop (j + 1)).length : Nat)), .bool true])
      rw [h2, List.append_nil, ← h1]
      rfl
    · refine ⟨_, rfl, ?_⟩
      obtain ⟨o, xs, ⟨f, rfl⟩, hjs, hR, hE, hB, hl⟩ := hJ
      have HR := Lib.hid hR
      have HE := Lib.hid hE
      have HB := Lib.hid hB
      have HX := Lib.hid hx
      clear hR hE hB hx
      by_cases h2 : s.size < j + 2
      · have HE2 := Lib.hid (map_none' HE.out (unq_short s j hj h2 HX.out))
        have d4 : decide ((4 : Int) ≤ (s.size : Int) - (j : Int)) = false := decide_eq_false (by omega)
        have d2 : decide ((s.size : Int) - (j : Int) < (2 : Int)) = true := decide_eq_true (by omega)
        have n4 : ¬ (4 : Int) ≤ (s.size : Int) - (j : Int) := by omega
        have n2 : (s.size : Int) - (j : Int) < (2 : Int) := by omega
        go_wp2
        rw [jumps_ret]
        go_ret3
        exact ⟨by rw [HE2.out]; rfl, HB.out⟩
      · have d2 : decide ((s.size : Int) - (j : Int) < (2 : Int)) = false := decide_eq_false (by omega)
        have n2 : ¬ (s.size : Int) - (j : Int) < (2 : Int) := by omega
        obtain ⟨x1, hx1⟩ : ∃ x, bN s (j + 1) = x := ⟨_, rfl⟩
        have g1 := bN_at s (j + 1) x1 hx1
        have HX1 := Lib.hid hx1
        clear hx1
        have b1 : (j : Int) + 1 < (s.size : Int) := by omega
        have b1n : j + 1 < s.size := by omega
        by_cases h4 : j + 4 ≤ s.size
        · have d4 : decide ((4 : Int) ≤ (s.size : Int) - (j : Int)) = true := decide_eq_true (by omega)
          have n4 : (4 : Int) ≤ (s.size : Int) - (j : Int) := by omega
          by_cases e120 : (x1.toNat : Int) = 120
          · obtain ⟨y, hy⟩ : ∃ x, bN s (j + 2) = x := ⟨_, rfl⟩
            obtain ⟨z, hz⟩ : ∃ x, bN s (j + 3) = x := ⟨_, rfl⟩
            have g2 := bN_at s (j + 2) y hy
            have g3 := bN_at s (j + 3) z hz
            have HE0 := unq_hex s j h4 HX.out (HX1.out.trans ((un_toNat (n := 120) (by decide)).1 e120)) y z hy hz
            obtain ⟨v1, hv1⟩ : ∃ v, hexV y = v := ⟨_, rfl⟩
            obtain ⟨v2, hv2⟩ : ∃ v, hexV z = v := ⟨_, rfl⟩
            rw [hv1, hv2] at HE0
            have HV1 := Lib.hid hv1
            have HV2 := Lib.hid hv2
            have HE0 := Lib.hid HE0
            clear hy hz hv1 hv2
            have b2 : (j : Int) + 2 < (s.size : Int) := by omega
            have b3 : (j : Int) + 3 < (s.size : Int) := by omega
            have b2n : j + 2 < s.size := by omega
            have b3n : j + 3 < s.size := by omega
            go_wp2
            have wr2 : IntKind.i64.wrap ((j : Int) + 2) = (j : Int) + 2 := by rw [i64_w]; unfold wrap64; omega
            have wr3 : IntKind.i64.wrap ((j : Int) + 3) = (j : Int) + 3 := by rw [i64_w]; unfold wrap64; omega
            have p2 : (0 : Int) ≤ (j : Int) + 2 := by omega
            have p3 : (0 : Int) ≤ (j : Int) + 3 := by omega
            have g2' : ∀ h : ((j : Int) + 2).toNat < s.size, ((s[((j : Int) + 2).toNat]'h).toNat : Int) = (y.toNat : Int) := fun h => g2 b2n
            have g3' : ∀ h : ((j : Int) + 3).toNat < s.size, ((s[((j : Int) + 3).toNat]'h).toNat : Int) = (z.toNat : Int) := fun h => g3 b3n
            go_quiet (first | (go_at_call 131; first | exact Calls.quiet_of (idx131 _ y v1 HV1.out) | exact Calls.quiet_of (idx131 _ z v2 HV2.out)))
            obtain ⟨l1, m1⟩ := hexV_range y
            obtain ⟨l2, m2⟩ := hexV_range z
            rw [HV1.out] at l1 m1
            rw [HV2.out] at l2 m2
            have HB := Lib.hid (pw_below_drewN HB.out nq)
            have HR := Lib.hid (Kd.R_drewN HR.out nq)
            generalize w'.drewN nq = W at HB HR ⊢
            by_cases q1 : v1 < 0
            · have HE2 := Lib.hid (map_none' HE.out (HE0.out.trans (if_pos (Or.inl q1))))
              go_wp2
              rw [jumps_ret]
              go_ret3
              exact ⟨by rw [HE2.out]; rfl, HB.out⟩
            · by_cases q2 : v2 < 0
              · have HE2 := Lib.hid (map_none' HE.out (HE0.out.trans (if_pos (Or.inr q2))))
                go_wp2
                rw [jumps_ret]
                go_ret3
                exact ⟨by rw [HE2.out]; rfl, HB.out⟩
              · have HE2 := Lib.hid (map_snoc HE.out (HE0.out.trans (if_neg (fun h => h.elim q1 q2))))
                go_wp2_with (at_builtin; refine Kd.R_append (Kd.int .u8) (w0 := w) w.heap.size rfl (.tmp 69) (.tmp 75) 85 5 (.int .u8 0) 1 rfl Try.underlying85 info5 rfl (by decide) (by omega) o (ints xs) (Go.bits .or .i64 (v1 * 16) v2 % 256) [.int .u8 (Go.bits .or .i64 (v1 * 16) v2 % 256)] (fun _ => True) (fun _ => False) rfl rfl rfl (fun _ hk => hk.elim) (fun _ _ => trivial) HR.out HB.out (below_size HB.out) (by rw [ints_len]; omega) ?_; intro o1 w1 hown1 hbel1 hg1 hat1; clear hg1 hat1)
                rw [or_hex HV1.out HV2.out (by omega) (by omega)] at hown1
                have HO := Lib.hid (show (Kd.int .u8).R 5 w1 w.heap.size (fun _ => True) o1 (ints (xs ++ [hexB y z])) from by rw [ints_app]; exact hown1)
                have HB1 := Lib.hid hbel1
                clear hown1 hbel1
                go_wp2
                go_step3
                exact (show ∃ m, m < 2 * (s.size - j) ∧ unqL w s Q 0 m _ _ from ⟨_, by omega, Or.inl ⟨rfl, j + 4, rfl, o1, xs ++ [hexB y z], unqF_mk s (j + 4) o1 _ rfl, by omega, HO.out, HE2.out, HB1.out, by rw [List.length_append, List.length_singleton]; omega⟩⟩)
          · have n120 : ((x1.toNat : Int) == 120) = false := beq_eq_false_iff_ne.2 e120
            have HE2 := Lib.hid (map_snoc HE.out (unq_next s j (by omega) HX.out (fun h => e120 (by rw [← HX1.out, h.2]; rfl)) x1 HX1.out))
            go_wp2_with (at_builtin; refine Kd.R_append (Kd.int .u8) (w0 := w) w.heap.size rfl (.tmp 84) (.tmp 89) 85 5 (.int .u8 0) 1 rfl Try.underlying85 info5 rfl (by decide) (by omega) o (ints xs) ((x1.toNat : Int)) [.int .u8 ((x1.toNat : Int))] (fun _ => True) (fun _ => False) rfl rfl rfl (fun _ hk => hk.elim) (fun _ _ => trivial) HR.out HB.out (below_size HB.out) (by rw [ints_len]; omega) ?_; intro v1 w1 hown1 hbel1 hg1 hat1; clear hg1 hat1)
            have HO := Lib.hid (show (Kd.int .u8).R 5 w1 w.heap.size (fun _ => True) v1 (ints (xs ++ [x1])) from by rw [ints_app]; exact hown1)
            have HB1 := Lib.hid hbel1
            clear hown1 hbel1
            go_wp2
            go_step3
            exact (show ∃ m, m < 2 * (s.size - j) ∧ unqL w s Q 0 m _ _ from ⟨_, by omega, Or.inl ⟨rfl, j + 2, rfl, v1, xs ++ [x1], unqF_mk s (j + 2) v1 _ rfl, by omega, HO.out, HE2.out, HB1.out, by rw [List.length_append, List.length_singleton]; omega⟩⟩)
        · have d4 : decide ((4 : Int) ≤ (s.size : Int) - (j : Int)) = false := decide_eq_false (by omega)
          have n4 : ¬ (4 : Int) ≤ (s.size : Int) - (j : Int) := by omega
          have HE2 := Lib.hid (map_snoc HE.out (unq_next s j (by omega) HX.out (fun h => h4 h.1) x1 HX1.out))
          go_wp2_with (at_builtin; refine Kd.R_append (Kd.int .u8) (w0 := w) w.heap.size rfl (.tmp 84) (.tmp 89) 85 5 (.int .u8 0) 1 rfl Try.underlying85 info5 rfl (by decide) (by omega) o (ints xs) ((x1.toNat : Int)) [.int .u8 ((x1.toNat : Int))] (fun _ => True) (fun _ => False) rfl rfl rfl (fun _ hk => hk.elim) (fun _ _ => trivial) HR.out HB.out (below_size HB.out) (by rw [ints_len]; omega) ?_; intro v1 w1 hown1 hbel1 hg1 hat1; clear hg1 hat1)
          have HO := Lib.hid (show (Kd.int .u8).R 5 w1 w.heap.size (fun _ => True) v1 (ints (xs ++ [x1])) from by rw [ints_app]; exact hown1)
          have HB1 := Lib.hid hbel1
          clear hown1 hbel1
          go_wp2
          go_step3
          exact (show ∃ m, m < 2 * (s.size - j) ∧ unqL w s Q 0 m _ _ from ⟨_, by omega, Or.inl ⟨rfl, j + 2, rfl, v1, xs ++ [x1], unqF_mk s (j + 2) v1 _ rfl, by omega, HO.out, HE2.out, HB1.out, by rw [List.length_append, List.length_singleton]; omega⟩⟩)
end Go.Proofs.Yteafilojjdfllaa
