/- A part of the proof of TombBytes. No condition. -/
import Derived.Deep.QuietTactic
import Derived.BigQuiet
import Derived.Defers
import Derived.Recover
import Derived.Lib.Join
import Derived.Test.YteafilojjdfllaaZTombBytesB
set_option linter.unusedVariables false
set_option linter.unusedSimpArgs false
set_option maxRecDepth 100000
set_option maxHeartbeats 200000000
section
namespace Go.Proofs.Yteafilojjdfllaa
open Go Go.RowKit Go.Proofs.YteafilojjdfllaaW.PrintWords Go.Proofs.YteafilojjdfllaaW.PrintLast Go.Proofs.YteafilojjdfllaaW.PrintMore Go.Proofs.Yteafilojjdfllaa.PAll
section
mutual
def boundM : S25 → Prop
 | ⟨_, n, v, vs, ks⟩ => n.size ≤ 140737488351232 ∧ v.size ≤ 140737488351232 ∧ (∀ u ∈ vs, u.size ≤ 140737488351232) ∧ boundL ks
def boundL : List S25 → Prop
 | [] => True
 | k :: ks => boundM k ∧ boundL ks
end
theorem boundM_mk (m : S25) : boundM m ↔ m.f1.size ≤ 140737488351232 ∧ m.f2.size ≤ 140737488351232 ∧ (∀ u ∈ m.f3, u.size ≤ 140737488351232) ∧ boundL m.f4 := by cases m; simp [boundM]
theorem zHi : ∀ {ks : List S25} {j : Nat}, boundL ks → j < ks.length → boundM (ks.getD j z25)
 | k :: ks, 0, h, _ => h.1
 | k :: ks, j + 1, h, hj => by
  have := zHi (j := j) h.2 (by simpa using hj)
  simpa using this
def zEa (m : S25) (one many kids : Bool) : Bool := decide ((one = true ∨ m.f2.toList = []) ∧ (one = true ∨ many = true ∨ m.f1.toList = []) ∧ (many = true ∨ m.f3.length = 0) ∧ (kids = true ∨ m.f4.length = 0))
theorem bare.val (m : S25) (x y z : Bool) : varveref12_bare.f m.f0 m.f1 m.f2 m.f3 m.f4 x y z = some (zEa m x y z) := by
 have hz : ∀ t : Nat, (((t : Int) == 0) : Bool) = decide (t = 0) := fun t => by rw [Bool.eq_iff_iff]; simp only [beq_iff_eq, decide_eq_true_eq]; omega
 have hc : ∀ t : Nat, ((t : Int) = 0) = (t = 0) := fun t => by apply propext; omega
 unfold varveref12_bare.f zEa
 simp only [hz, hc]
 cases x <;> cases y <;> cases z <;> by_cases h1 : m.f1.toList = [] <;> by_cases h2 : m.f2.toList = [] <;> by_cases h3 : m.f3.length = 0 <;> by_cases h4 : m.f4.length = 0 <;> simp [h1, h2, h3, h4]
theorem zBw (w : World) (m : S25) (A3 : Option Addr) (c3 : Nat) (A4 : Option Addr) (c4 : Nat) (x y z v : Bool) (hv : zEa m x y z = v) (h : MC w m A3 c3 A4 c4) :
  Calls Try.prog 147 #[.agg #[.int .i64 m.f0, .string m.f1, .string m.f2, .slice A3 m.f3.length c3, .slice A4 m.f4.length c4], .bool x, .bool y, .bool z] w fun e w' => e = .returned (.bool v) ∧ Below w.heap.size w w' :=
 varveref12_bare.calls m.f0 m.f1 m.f2 A3 c3 m.f3 A4 c4 m.f4 x y z v w h.2.1 h.1 h.2.2.2 h.2.2.1 (hv ▸ bare.val m x y z)
theorem zFr (w : World) (s : ByteArray) (v : Bool) (hv : zDk s = v) (hs : s.size ≤ 140737488351232) : Calls Try.prog 64 #[.string s] w fun e w' => e = .returned (.bool v) ∧ Below w.heap.size w w' :=
 (varveref11_Name.calls (s.size + 2) s v w (hv ▸ varveref11_Name.val s hs _ (Nat.le_refl _))).mono fun _ _ h => ⟨h.1, h.2.below⟩
theorem values149 (w : World) (A : Option Addr) (c : Nat) (l : List ByteArray) (v : Bool) (hv : zEc l = v) (hc : l.length ≤ c) (h : Kd.C Kd.string w A l.length l) : Calls Try.prog 149 #[.slice A l.length c] w fun e w' => e = .returned (.bool v) ∧ Below w.heap.size w w' :=
 (varveref12_values.calls 40 A c l v w h hc (hv ▸ varveref12_values.val l 40 (Nat.le_refl _))).mono fun _ _ h => ⟨h.1, h.2.below⟩
def txt (b : Int) (bad : Bool) (t : ByteArray) : Int × Bool := if (t.size : Int) > 4096 - b then (b, true) else (b + t.size, bad)
theorem zBp (w0 w : World) (g : Nat) (n b : Int) (bad : Bool) (t : ByteArray) (h0 : 0 ≤ b) (h1 : b ≤ 4096) (hI : IsS122 w0 w g n b bad) (hB : Below w0.heap.size w0 w) :
  Calls Try.prog 148 #[.pointer (some ⟨g, 0, none⟩), .string t] w fun e w' => e = .returned (.tuple #[]) ∧ IsS122 w0 w' g n (txt b bad t).1 (txt b bad t).2 ∧ Below w0.heap.size w0 w' ∧ KeepBut w w' g none := by
 refine varveref12_size_text.calls g n b bad t n (txt b bad t).1 (txt b bad t).2 w0 w hI hB ?_
 unfold varveref12_size_text.f txt
 rw [show wrap64 (4096 - b) = 4096 - b by unfold wrap64; omega]
 split
 ·rfl
 rw [show wrap64 (b + (t.size : Int)) = b + t.size by unfold wrap64; omega]
theorem zDt {b : Int} {bad : Bool} {t : ByteArray} (h0 : 0 ≤ b) (h1 : b ≤ 4096) : 0 ≤ (txt b bad t).1 ∧ (txt b bad t).1 ≤ 4096 := by
 unfold txt; split
 ·exact ⟨h0, h1⟩
 simp only; omega
def LookPost (w0 w : World) (g : Nat) (d : Int) (m : S25) (n b : Int) (e : Ending) (w' : World) : Prop :=
 e = .returned (.tuple #[]) ∧ Below w0.heap.size w0 w' ∧ KeepBut w w' g none ∧ ∃ n' b', IsS122 w0 w' g n' b' (!chk d m (64 - n) (4096 - b)) ∧ (chk d m (64 - n) (4096 - b) = true → n' = n + zAv m ∧ b' = b + zBy m)
theorem LookPost.no {w0 w w' : World} {g : Nat} {d : Int} {m : S25} {n b n' b' : Int} (h : chk d m (64 - n) (4096 - b) = false) (hB : Below w0.heap.size w0 w') (hK : KeepBut w w' g none) (hI : IsS122 w0 w' g n' b' true) : LookPost w0 w g d m n b (.returned (.tuple #[])) w' :=
 ⟨rfl, hB, hK, n', b', by rw [h]; exact hI, fun e => by rw [h] at e; cases e⟩
theorem LookPost.yes {w0 w w' : World} {g : Nat} {d : Int} {m : S25} {n b n' b' : Int} (h : chk d m (64 - n) (4096 - b) = true) (hB : Below w0.heap.size w0 w') (hK : KeepBut w w' g none) (hI : IsS122 w0 w' g n' b' false) (hn : n' = n + zAv m) (hb : b' = b + zBy m) : LookPost w0 w g d m n b (.returned (.tuple #[])) w' :=
 ⟨rfl, hB, hK, n', b', by rw [h]; exact hI, fun _ => ⟨hn, hb⟩⟩
def BoxM (X : World) (p : Nat) (op : Int) (t1 t2 : ByteArray) (s3 s4 : Value) : Prop := X.heap[p]? = some (.cells #[.int .i64 op, .string t1, .string t2, s3, s4] 25 (0, 0))
section
variable {X Y : World} {p : Nat} {op : Int} {t1 t2 : ByteArray} {s3 s4 : Value}
theorem BoxM.lt (h : BoxM X p op t1 t2 s3 s4) : p < X.heap.size := (Array.getElem?_eq_some_iff.1 h).1
theorem BoxM.below (h : BoxM X p op t1 t2 s3 s4) (hb : Below X.heap.size X Y) : BoxM Y p op t1 t2 s3 s4 := (hb.block p h.lt).trans h
theorem BoxM.keep (h : BoxM X p op t1 t2 s3 s4) {g : Nat} (hk : KeepBut X Y g none) (hne : p ≠ g) : BoxM Y p op t1 t2 s3 s4 := (hk.2 p h.lt hne (by simp)).trans h
theorem BoxM.set (h : BoxM X p op t1 t2 s3 s4) {g j : Nat} (hne : p ≠ g) (u : Value) : BoxM (X.setCell ⟨g, j, none⟩ u) p op t1 t2 s3 s4 := (Below.heap_setCell _ _ _ p (by simpa using hne)).trans h
theorem BoxM.c0 (h : BoxM X p op t1 t2 s3 s4) : X.cell? ⟨p, 0, none⟩ = some (.int .i64 op) := (zAb h 0).trans rfl
theorem BoxM.c1 (h : BoxM X p op t1 t2 s3 s4) : X.cell? ⟨p, 1, none⟩ = some (.string t1) := (zAb h 1).trans rfl
theorem BoxM.c2 (h : BoxM X p op t1 t2 s3 s4) : X.cell? ⟨p, 2, none⟩ = some (.string t2) := (zAb h 2).trans rfl
theorem BoxM.c3 (h : BoxM X p op t1 t2 s3 s4) : X.cell? ⟨p, 3, none⟩ = some s3 := (zAb h 3).trans rfl
theorem BoxM.c4 (h : BoxM X p op t1 t2 s3 s4) : X.cell? ⟨p, 4, none⟩ = some s4 := (zAb h 4).trans rfl
end
theorem size0 {s : ByteArray} (h : s.toList = []) : s.size = 0 := by
 have := congrArg List.length h
 rw [ByteArray.toList_eq, Array.length_toList] at this
 exact this
theorem zHe {d : Int} {op : Int} {t1 t2 : ByteArray} {vs : List ByteArray} {n b : Int} (hd : d ≤ 8) (hn : 1 ≤ n) : chk d ⟨op, t1, t2, vs, []⟩ n b = (zBs ⟨op, t1, t2, vs, []⟩ && decide ((t1.size + t2.size + sizes vs : Int) ≤ b)) := by
 rw [Bool.eq_iff_iff, zIa, zHf, Bool.and_eq_true, decide_eq_true_iff]
 constructor
 ·rintro ⟨_, _, h3, h4, _⟩; exact ⟨h3, h4⟩
 rintro ⟨h3, h4⟩; exact ⟨hd, hn, h3, h4, by omega, by omega, by simp only; omega⟩
theorem zEm {b : Int} {t : ByteArray} : (txt b true t).2 = true := by unfold txt; split <;> rfl
theorem zEf {b : Int} {t u : ByteArray} {r : Int × Bool} (h : txt b true t = r) : (txt r.1 r.2 u).2 = true := by
 have : r.2 = true := by rw [← h]; exact zEm
 rw [this]; exact zEm
theorem zEx {b : Int} {t : ByteArray} (h : (t.size : Int) ≤ 4096 - b) : txt b false t = (b + t.size, false) := by unfold txt; rw [if_neg (by omega)]
theorem zIb {b : Int} {t : ByteArray} (h : ¬ (t.size : Int) ≤ 4096 - b) : txt b false t = (b, true) := by unfold txt; rw [if_pos (by omega)]
theorem zBu {d : Int} {m : S25} {n b : Int} (h : zBs m = false) : chk d m n b = false := zCn (fun h' => by rw [h] at h'; exact absurd h'.2.2.1 (by decide))
theorem zJq (op : Int) (h : op = 1 ∨ op = 2 ∨ op = 3) (t1 t2 : ByteArray) (vs : List ByteArray) (ks : List S25) : zBs ⟨op, t1, t2, vs, ks⟩ = (zEa ⟨op, t1, t2, vs, ks⟩ true false false && zDk t1 && decide (t2.size ≤ 64)) := by
 have hb : zEa ⟨op, t1, t2, vs, ks⟩ true false false = decide (vs.length = 0 ∧ ks.length = 0) := by unfold zEa; rw [decide_eq_decide]; simp
 have h0 : ¬ op = 0 := by omega
 rw [hb]
 simp only [zBs, if_neg h0, if_pos h]
 rw [Bool.eq_iff_iff]
 simp only [Bool.and_eq_true, decide_eq_true_iff]
 constructor
 ·rintro ⟨h1, h2, h3, h4⟩; exact ⟨⟨⟨h4, h3⟩, h1⟩, h2⟩
 rintro ⟨⟨⟨h4, h3⟩, h1⟩, h2⟩; exact ⟨h1, h2, h3, h4⟩
theorem alone_4 (t1 t2 : ByteArray) (vs : List ByteArray) (ks : List S25) : zBs ⟨4, t1, t2, vs, ks⟩ = (zEa ⟨4, t1, t2, vs, ks⟩ false true false && zDk t1 && zEc vs) := by
 have hb : zEa ⟨4, t1, t2, vs, ks⟩ false true false = decide (t2.toList = [] ∧ ks.length = 0) := by unfold zEa; rw [decide_eq_decide]; simp
 rw [hb]
 simp only [zBs]
 rw [if_neg (by omega), if_neg (by omega), if_pos trivial, Bool.eq_iff_iff]
 simp only [Bool.and_eq_true, decide_eq_true_iff]
 constructor
 ·rintro ⟨⟨h1, h2, h3⟩, h4⟩; exact ⟨⟨⟨h3, h2⟩, h1⟩, h4⟩
 rintro ⟨⟨⟨h3, h2⟩, h1⟩, h4⟩; exact ⟨⟨h1, h2, h3⟩, h4⟩
theorem alone_56 (op : Int) (h : op = 5 ∨ op = 6) (t1 t2 : ByteArray) (vs : List ByteArray) (ks : List S25) : zBs ⟨op, t1, t2, vs, ks⟩ = zEa ⟨op, t1, t2, vs, ks⟩ false false true := by
 have hb : zEa ⟨op, t1, t2, vs, ks⟩ false false true = zEe ⟨op, t1, t2, vs, ks⟩ := by
  unfold zEa zEe; rw [decide_eq_decide]; simp; constructor
  ·rintro ⟨h1, h2, h3⟩; exact ⟨h2, h1, h3⟩
  rintro ⟨h1, h2, h3⟩; exact ⟨h2, h1, h3⟩
 rw [hb]
 simp only [zBs]
 rw [if_neg (by omega), if_neg (by omega), if_neg (by omega), if_pos h]
theorem alone_7 (t1 t2 : ByteArray) (vs : List ByteArray) (ks : List S25) : zBs ⟨7, t1, t2, vs, ks⟩ = (zEa ⟨7, t1, t2, vs, ks⟩ false false true && decide (ks.length = 1)) := by
 have hb : zEa ⟨7, t1, t2, vs, ks⟩ false false true = zEe ⟨7, t1, t2, vs, ks⟩ := by
  unfold zEa zEe; rw [decide_eq_decide]; simp; constructor
  ·rintro ⟨h1, h2, h3⟩; exact ⟨h2, h1, h3⟩
  rintro ⟨h1, h2, h3⟩; exact ⟨h2, h1, h3⟩
 rw [hb]
 simp only [zBs]
 rw [if_neg (by omega), if_neg (by omega), if_neg (by omega), if_neg (by omega), if_pos trivial]
theorem alone_other {op : Int} (h : op ≠ 0 ∧ op ≠ 1 ∧ op ≠ 2 ∧ op ≠ 3 ∧ op ≠ 4 ∧ op ≠ 5 ∧ op ≠ 6 ∧ op ≠ 7) (t1 t2 : ByteArray) (vs : List ByteArray) (ks : List S25) : zBs ⟨op, t1, t2, vs, ks⟩ = false := by
 simp only [zBs]
 rw [if_neg (by omega), if_neg (by omega), if_neg (by omega), if_neg (by omega), if_neg (by omega)]
theorem values149m (w0 w : World) (m : S25) (A3 : Option Addr) (c3 : Nat) (A4 : Option Addr) (c4 : Nat) (v : Bool) (hv : zEc m.f3 = v) (hM : MC w0 m A3 c3 A4 c4) (hB : Below w0.heap.size w0 w) :
  Calls Try.prog 149 #[.slice A3 m.f3.length c3] w fun e w' => e = .returned (.bool v) ∧ Below w.heap.size w w' := values149 w A3 c3 m.f3 v hv hM.1 (Kd.C_below hM.2.1 hB)
theorem zGx : ∀ (vs : List ByteArray) (j : Nat), sizes (vs.take j) ≤ sizes vs
 | [], _ => by simp
 | v :: vs, 0 => by simp [sizes]
 | v :: vs, j + 1 => by have := zGx vs j; simp only [List.take_succ_cons, sizes]; omega
theorem zIw {op : Int} {t1 t2 : ByteArray} {vs : List ByteArray} {ks : List S25} (h : zEa ⟨op, t1, t2, vs, ks⟩ false false true = true) : t1.size = 0 ∧ t2.size = 0 ∧ vs = [] := by
 have h' := zO (show decide _ = true from h)
 have h2 : t2.toList = [] := by rcases h'.1 with h | h; cases h; exact h
 have h1 : t1.toList = [] := by rcases h'.2.1 with h | h | h; cases h; cases h; exact h
 have h3 : vs = [] := by rcases h'.2.2.1 with h | h; cases h; exact List.eq_nil_of_length_eq_zero h
 exact ⟨size0 h1, size0 h2, h3⟩
theorem look99 : ∀ (N : Nat) (m : S25), zAv m ≤ N → boundM m → ∀ (d n b : Int) (A3 : Option Addr) (c3 : Nat) (A4 : Option Addr) (c4 : Nat) (g : Nat) (w0 w : World), 0 ≤ d → d ≤ 100 → 0 ≤ n → n ≤ 64 → 0 ≤ b → b ≤ 4096 →
  MC w0 m A3 c3 A4 c4 → Below w0.heap.size w0 w → IsS122 w0 w g n b false →
  Calls Try.prog 99 #[.pointer (some ⟨g, 0, none⟩), .agg #[.int .i64 m.f0, .string m.f1, .string m.f2, .slice A3 m.f3.length c3, .slice A4 m.f4.length c4], .int .i64 d] w (LookPost w0 w g d m n b) := by
 intro N
 induction N with
 | zero => intro m h; rw [zAz] at h; omega
 | succ N ih =>
 rintro ⟨op, t1, t2, vs, ks⟩ hN
 have IH := zH ih
 clear ih
 intro hbound d n b A3 c3 A4 c4 g w0 w hd0 hd1 hn0 hn1 hb0 hb1 hM hB hI
 have hg := hI.2
 have hgl : g < w.heap.size := (Array.getElem?_eq_some_iff.1 hI.1).1
 have hne : w.heap.size ≠ g := by omega
 have q0 := zFg hI.1
 have z0 := zAa hI.1 0
 have hI0 := hI.alloc (.cells #[.int .i64 op, .string t1, .string t2, .slice A3 vs.length c3, .slice A4 ks.length c4] 25)
 have r0 := zFg hI0.1
 have s0 := zAa hI0.1 0
 have hI2 := (hI.set_0 (n + 1)).alloc (.cells #[.int .i64 op, .string t1, .string t2, .slice A3 vs.length c3, .slice A4 ks.length c4] 25)
 have q1 := zFg hI2.1
 have q2 := zAq hI2.1
 have z2 := zAa hI2.1 2
 have hB2 : Below w0.heap.size w0 ((w.setCell ⟨g, 0, none⟩ (.int .i64 (n + 1))).alloc (.cells #[.int .i64 op, .string t1, .string t2, .slice A3 vs.length c3, .slice A4 ks.length c4] 25)) := zAc (hB.setCell hg _) _
 have hK2 : KeepBut w ((w.setCell ⟨g, 0, none⟩ (.int .i64 (n + 1))).alloc (.cells #[.int .i64 op, .string t1, .string t2, .slice A3 vs.length c3, .slice A4 ks.length c4] 25)) g none := ((KeepBut.refl w g none).set_ 0 _).trans (KeepBut.of_below (zAc (Below.refl _ _) _) g none) (.inl rfl)
 have hbox : ((w.setCell ⟨g, 0, none⟩ (.int .i64 (n + 1))).alloc (.cells #[.int .i64 op, .string t1, .string t2, .slice A3 vs.length c3, .slice A4 ks.length c4] 25)).heap[w.heap.size]? = some (.cells #[.int .i64 op, .string t1, .string t2, .slice A3 vs.length c3, .slice A4 ks.length c4] 25 (0, 0)) := by
  have := zAs (w.setCell ⟨g, 0, none⟩ (.int .i64 (n + 1))) (.cells #[.int .i64 op, .string t1, .string t2, .slice A3 vs.length c3, .slice A4 ks.length c4] 25)
  simpa using this
 have hbx : BoxM _ w.heap.size op t1 t2 (.slice A3 vs.length c3) (.slice A4 ks.length c4) := hbox
 have x0 := hbx.c0
 have x1 := hbx.c1
 have x2 := hbx.c2
 have x3 := hbx.c3
 have x4 := hbx.c4
 have Hbound := zH (show t1.size ≤ 140737488351232 ∧ t2.size ≤ 140737488351232 ∧ (∀ u ∈ vs, u.size ≤ 140737488351232) ∧ boundL ks from (boundM_mk _).1 hbound)
 clear hbox hbound hI0
 by_cases hn : 64 < n + 1
 ·have hc : chk d ⟨op, t1, t2, vs, ks⟩ (64 - n) (4096 - b) = false := zCn (fun h => by omega)
  go_enter Try.func99, Try.ntmps99
  go_wp2
  first | go_end0 | ((try simp only [Exit.inBlock, Exit.then]); refine bodyPost_ret (results_none rfl _ _ _) rfl ?_)
  exact LookPost.no hc (zAc ((hB.setCell hg _).setCell hg _) (.cells #[.int .i64 op, .string t1, .string t2, .slice A3 vs.length c3, .slice A4 ks.length c4] 25)) ((((KeepBut.refl w g none).set_ 0 _).set_ 2 _).trans (KeepBut.of_below (zAc (Below.refl _ _) _) g none) (.inl rfl)) (((hI.set_0 (n + 1)).set_2 true).alloc _)
 by_cases hd : 8 < d
 ·have hc : chk d ⟨op, t1, t2, vs, ks⟩ (64 - n) (4096 - b) = false := zCn (fun h => by omega)
  go_enter Try.func99, Try.ntmps99
  go_wp2
  first | go_end0 | ((try simp only [Exit.inBlock, Exit.then]); refine bodyPost_ret (results_none rfl _ _ _) rfl ?_)
  exact LookPost.no hc (zAc ((hB.setCell hg _).setCell hg _) (.cells #[.int .i64 op, .string t1, .string t2, .slice A3 vs.length c3, .slice A4 ks.length c4] 25)) ((((KeepBut.refl w g none).set_ 0 _).set_ 2 _).trans (KeepBut.of_below (zAc (Below.refl _ _) _) g none) (.inl rfl)) (((hI.set_0 (n + 1)).set_2 true).alloc _)
 by_cases e0 : op = 0
 ·subst e0
  cases hv : zEa ⟨0, t1, t2, vs, ks⟩ false false false with
  | false =>
   have hc : chk d ⟨0, t1, t2, vs, ks⟩ (64 - n) (4096 - b) = false := zCn (fun h => by
    have h3 := h.2.2.1
    simp only [zBs, zEe, if_true, Bool.and_eq_true, decide_eq_true_eq] at h3
    have : zEa ⟨0, t1, t2, vs, ks⟩ false false false = true := by unfold zEa; exact zT ⟨.inr h3.1.2.1, .inr (.inr h3.1.1), .inr h3.1.2.2, .inr h3.2⟩
    rw [hv] at this; cases this)
   have Hv := zH hv
   clear hv
   go_enter Try.func99, Try.ntmps99
   go_wp2_with fail
   (with_reducible refine (zBw _ ⟨0, t1, t2, vs, ks⟩ A3 c3 A4 c4 false false false false Hv.out (hM.below hB2)).mono ?_)
   rintro e w1 ⟨rfl, hb3⟩
   have hI3 := hI2.below hb3
   have z3 := zAa hI3.1 2
   have z4 := zAq hI3.1
   go_wp2
   first | go_end0 | ((try simp only [Exit.inBlock, Exit.then]); refine bodyPost_ret (results_none rfl _ _ _) rfl ?_)
   exact LookPost.no hc ((zAe hB2 hb3).setCell hg _) ((hK2.trans (KeepBut.of_below hb3 g none) (.inl rfl)).set_ 2 _) (hI3.set_2 true)
  | true =>
  have hb0' := zO (show decide _ = true from hv)
  have h2 : t2.toList = [] := by rcases hb0'.1 with h | h; cases h; exact h
  have h1 : t1.toList = [] := by rcases hb0'.2.1 with h | h | h; cases h; cases h; exact h
  have h3 : vs = [] := by rcases hb0'.2.2.1 with h | h; cases h; exact List.eq_nil_of_length_eq_zero h
  have h4 : ks = [] := by rcases hb0'.2.2.2 with h | h; cases h; exact List.eq_nil_of_length_eq_zero h
  have hc : chk d ⟨0, t1, t2, vs, ks⟩ (64 - n) (4096 - b) = true := by
   rw [h4, zHe (by omega) (by omega), h3]
   simp only [zBs, zEe, if_true, h1, h2, sizes, size0 h1, size0 h2]
   simp; omega
  have hnod : zAv ⟨0, t1, t2, vs, ks⟩ = 1 := by rw [h4]; simp [zAv, zBd]
  have hbyt : zBy ⟨0, t1, t2, vs, ks⟩ = 0 := by rw [h4, h3]; simp [zBy, zBr, sizes, size0 h1, size0 h2]
  have Hv := zH hv
  have Hnod := zH hnod
  have Hbyt := zH hbyt
  clear hv hb0' h1 h2 h3 h4 hnod hbyt
  go_enter Try.func99, Try.ntmps99
  go_wp2_with fail
  (with_reducible refine (zBw _ ⟨0, t1, t2, vs, ks⟩ A3 c3 A4 c4 false false false true Hv.out (hM.below hB2)).mono ?_)
  rintro e w1 ⟨rfl, hb3⟩
  have hI3 := hI2.below hb3
  have z3 := zAa hI3.1 2
  have z4 := zAq hI3.1
  go_wp2
  first | go_end0 | ((try simp only [Exit.inBlock, Exit.then]); refine bodyPost_ret (results_none rfl _ _ _) rfl ?_)
  exact LookPost.yes hc ((zAe hB2 hb3).setCell hg _) ((hK2.trans (KeepBut.of_below hb3 g none) (.inl rfl)).set_ 2 _) (hI3.set_2 false) (by rw [Hnod.out]; rfl) (by rw [Hbyt.out]; omega)
 have hX2 := hbx
 by_cases e1 : op = 1
 ·subst e1
  have Hal := zH (zJq 1 (by omega) t1 t2 vs ks)
  cases hv : zEa ⟨1, t1, t2, vs, ks⟩ true false false with
  | false =>
   have hc : chk d ⟨1, t1, t2, vs, ks⟩ (64 - n) (4096 - b) = false := zBu (by rw [Hal.out, hv]; rfl)
   have Hbare := zH hv
   clear hv
   go_enter Try.func99, Try.ntmps99
   go_wp2_with fail
   (with_reducible refine (zBw _ ⟨1, t1, t2, vs, ks⟩ A3 c3 A4 c4 true false false false Hbare.out (hM.below hB2)).mono ?_)
   rintro e w3 ⟨rfl, hb3⟩
   have hB3 := zAe hB2 hb3
   have hI3 := hI2.below hb3
   have hK3 := hK2.trans (KeepBut.of_below hb3 g none) (.inl rfl)
   have hX3 := hX2.below hb3
   have u3 := hX3.c1
   have v3 := hX3.c2
   have p3 := hX3.c3
   have o3 := hX3.c0
   have k3 := hX3.c4
   have z3 := zAa hI3.1 2
   have y3 := zAq hI3.1
   have hIS := hI3.set_2 true
   have hBS : Below w0.heap.size w0 (w3.setCell ⟨g, 2, none⟩ (.bool true)) := hB3.setCell hg _
   have hKS : KeepBut w (w3.setCell ⟨g, 2, none⟩ (.bool true)) g none := hK3.set_ 2 _
   have hXS := hX3.set (j := 2) hne (.bool true)
   go_wp2_with fail
   (with_reducible refine (zBp w0 _ g (n + 1) b true t1 hb0 hb1 hIS hBS).mono ?_)
   rintro e w8 ⟨rfl, hI8, hB8, hK8⟩
   have hX8 := hXS.keep hK8 hne
   have v8 := hX8.c2
   have hle := zDt (bad := true) (t := t1) hb0 hb1
   obtain ⟨r1, er1⟩ : ∃ r, txt b true t1 = r := ⟨_, rfl⟩
   rw [er1] at hI8 hle
   have Er1 := zH er1
   clear er1
   go_wp2_with fail
   (with_reducible refine (zBp w0 _ g (n + 1) r1.1 r1.2 t2 hle.1 hle.2 hI8 hB8).mono ?_)
   rintro e w9 ⟨rfl, hI9, hB9, hK9⟩
   go_wp2
   first | go_end0 | ((try simp only [Exit.inBlock, Exit.then]); refine bodyPost_ret (results_none rfl _ _ _) rfl ?_)
   have hKf := (hKS.trans hK8 (.inl rfl)).trans hK9 (.inl rfl)
   exact LookPost.no hc hB9 hKf (zEf (u := t2) Er1.out ▸ hI9)
  | true =>
  have Hbare := zH hv
  clear hv
  cases hv : zDk t1 with
  | false =>
   have hc : chk d ⟨1, t1, t2, vs, ks⟩ (64 - n) (4096 - b) = false := zBu (by rw [Hal.out, Hbare.out, hv]; rfl)
   have Hname := zH hv
   clear hv
   go_enter Try.func99, Try.ntmps99
   go_wp2_with fail
   (with_reducible refine (zBw _ ⟨1, t1, t2, vs, ks⟩ A3 c3 A4 c4 true false false true Hbare.out (hM.below hB2)).mono ?_)
   rintro e w3 ⟨rfl, hb3⟩
   have hB3 := zAe hB2 hb3
   have hI3 := hI2.below hb3
   have hK3 := hK2.trans (KeepBut.of_below hb3 g none) (.inl rfl)
   have hX3 := hX2.below hb3
   have u3 := hX3.c1
   have v3 := hX3.c2
   have p3 := hX3.c3
   have o3 := hX3.c0
   have k3 := hX3.c4
   have z3 := zAa hI3.1 2
   have y3 := zAq hI3.1
   go_wp2_with fail
   (with_reducible refine (zFr _ t1 false Hname.out Hbound.out.1).mono ?_)
   rintro e w4 ⟨rfl, hb4⟩
   have hB4 := zAe hB3 hb4
   have hI4 := hI3.below hb4
   have hK4 := hK3.trans (KeepBut.of_below hb4 g none) (.inl rfl)
   have hX4 := hX3.below hb4
   have u4 := hX4.c1
   have v4 := hX4.c2
   have p4 := hX4.c3
   have o4 := hX4.c0
   have k4 := hX4.c4
   have z4 := zAa hI4.1 2
   have y4 := zAq hI4.1
   have hIS := hI4.set_2 true
   have hBS : Below w0.heap.size w0 (w4.setCell ⟨g, 2, none⟩ (.bool true)) := hB4.setCell hg _
   have hKS : KeepBut w (w4.setCell ⟨g, 2, none⟩ (.bool true)) g none := hK4.set_ 2 _
   have hXS := hX4.set (j := 2) hne (.bool true)
   go_wp2_with fail
   (with_reducible refine (zBp w0 _ g (n + 1) b true t1 hb0 hb1 hIS hBS).mono ?_)
   rintro e w8 ⟨rfl, hI8, hB8, hK8⟩
   have hX8 := hXS.keep hK8 hne
   have v8 := hX8.c2
   have hle := zDt (bad := true) (t := t1) hb0 hb1
   obtain ⟨r1, er1⟩ : ∃ r, txt b true t1 = r := ⟨_, rfl⟩
   rw [er1] at hI8 hle
   have Er1 := zH er1
   clear er1
   go_wp2_with fail
   (with_reducible refine (zBp w0 _ g (n + 1) r1.1 r1.2 t2 hle.1 hle.2 hI8 hB8).mono ?_)
   rintro e w9 ⟨rfl, hI9, hB9, hK9⟩
   go_wp2
   first | go_end0 | ((try simp only [Exit.inBlock, Exit.then]); refine bodyPost_ret (results_none rfl _ _ _) rfl ?_)
   have hKf := (hKS.trans hK8 (.inl rfl)).trans hK9 (.inl rfl)
   exact LookPost.no hc hB9 hKf (zEf (u := t2) Er1.out ▸ hI9)
  | true =>
  have Hname := zH hv
  clear hv
  by_cases h64 : t2.size ≤ 64
  ·have hks : ks = [] := by
    have h' := zO (show decide _ = true from Hbare.out)
    rcases h'.2.2.2 with h | h
    ·cases h
    exact List.eq_nil_of_length_eq_zero h
   have hvs : vs = [] := by
    have h' := zO (show decide _ = true from Hbare.out)
    rcases h'.2.2.1 with h | h
    ·cases h
    exact List.eq_nil_of_length_eq_zero h
   have Hchk := zH (show chk d ⟨1, t1, t2, vs, ks⟩ (64 - n) (4096 - b) = decide ((t1.size + t2.size : Int) ≤ 4096 - b) from by
    have ha : zBs ⟨1, t1, t2, vs, ks⟩ = true := by rw [Hal.out, Hbare.out, Hname.out, zT h64]; rfl
    rw [hks] at ha ⊢
    rw [zHe (by omega) (by omega), ha, Bool.true_and, decide_eq_decide, hvs]
    simp only [sizes]; omega)
   have Hnod := zH (show zAv ⟨1, t1, t2, vs, ks⟩ = 1 from by rw [hks]; simp [zAv, zBd])
   have Hbyt := zH (show zBy ⟨1, t1, t2, vs, ks⟩ = t1.size + t2.size from by rw [hks, hvs]; simp [zBy, zBr, sizes])
   clear hks hvs
   have h64b : decide ((64 : Int) < (t2.size : Int)) = false := zF (by omega)
   have h64c : decide (64 < t2.size) = false := zF (by omega)
   go_enter Try.func99, Try.ntmps99
   go_wp2_with fail
   (with_reducible refine (zBw _ ⟨1, t1, t2, vs, ks⟩ A3 c3 A4 c4 true false false true Hbare.out (hM.below hB2)).mono ?_)
   rintro e w3 ⟨rfl, hb3⟩
   have hB3 := zAe hB2 hb3
   have hI3 := hI2.below hb3
   have hK3 := hK2.trans (KeepBut.of_below hb3 g none) (.inl rfl)
   have hX3 := hX2.below hb3
   have u3 := hX3.c1
   have v3 := hX3.c2
   have p3 := hX3.c3
   have o3 := hX3.c0
   have k3 := hX3.c4
   have z3 := zAa hI3.1 2
   have y3 := zAq hI3.1
   go_wp2_with fail
   (with_reducible refine (zFr _ t1 true Hname.out Hbound.out.1).mono ?_)
   rintro e w4 ⟨rfl, hb4⟩
   have hB4 := zAe hB3 hb4
   have hI4 := hI3.below hb4
   have hK4 := hK3.trans (KeepBut.of_below hb4 g none) (.inl rfl)
   have hX4 := hX3.below hb4
   have u4 := hX4.c1
   have v4 := hX4.c2
   have p4 := hX4.c3
   have o4 := hX4.c0
   have k4 := hX4.c4
   have z4 := zAa hI4.1 2
   have y4 := zAq hI4.1
   have hIS := hI4.set_2 false
   have hBS : Below w0.heap.size w0 (w4.setCell ⟨g, 2, none⟩ (.bool false)) := hB4.setCell hg _
   have hKS : KeepBut w (w4.setCell ⟨g, 2, none⟩ (.bool false)) g none := hK4.set_ 2 _
   have hXS := hX4.set (j := 2) hne (.bool false)
   go_wp2_with fail
   (with_reducible refine (zBp w0 _ g (n + 1) b false t1 hb0 hb1 hIS hBS).mono ?_)
   rintro e w8 ⟨rfl, hI8, hB8, hK8⟩
   have hX8 := hXS.keep hK8 hne
   have v8 := hX8.c2
   have hle := zDt (bad := false) (t := t1) hb0 hb1
   obtain ⟨r1, er1⟩ : ∃ r, txt b false t1 = r := ⟨_, rfl⟩
   rw [er1] at hI8 hle
   have Er1 := zH er1
   clear er1
   go_wp2_with fail
   (with_reducible refine (zBp w0 _ g (n + 1) r1.1 r1.2 t2 hle.1 hle.2 hI8 hB8).mono ?_)
   rintro e w9 ⟨rfl, hI9, hB9, hK9⟩
   go_wp2
   first | go_end0 | ((try simp only [Exit.inBlock, Exit.then]); refine bodyPost_ret (results_none rfl _ _ _) rfl ?_)
   have hKf := (hKS.trans hK8 (.inl rfl)).trans hK9 (.inl rfl)
   by_cases hfit : (t1.size + t2.size : Int) ≤ 4096 - b
   ·have e1 := Er1.out.symm.trans (zEx (by omega))
    rw [e1, zEx (by simp only; omega)] at hI9
    exact LookPost.yes (by rw [Hchk.out]; exact zT hfit) hB9 hKf hI9 (by rw [Hnod.out]; rfl) (by rw [Hbyt.out]; simp only; omega)
   refine LookPost.no (n' := n + 1) (b' := (txt r1.1 r1.2 t2).1) (by rw [Hchk.out]; exact zF hfit) hB9 hKf ?_
   have : (txt r1.1 r1.2 t2).2 = true := by
    by_cases h1 : (t1.size : Int) ≤ 4096 - b
    ·rw [Er1.out.symm.trans (zEx h1), zIb (by simp only; omega)]
    rw [Er1.out.symm.trans (zIb h1)]; exact zEm
   rw [← this]; exact hI9
  have hc : chk d ⟨1, t1, t2, vs, ks⟩ (64 - n) (4096 - b) = false := zBu (by rw [Hal.out, zF h64, Bool.and_false])
  have h64' : (64 : Int) < (t2.size : Int) := by omega
  go_enter Try.func99, Try.ntmps99
  go_wp2_with fail
  (with_reducible refine (zBw _ ⟨1, t1, t2, vs, ks⟩ A3 c3 A4 c4 true false false true Hbare.out (hM.below hB2)).mono ?_)
  rintro e w3 ⟨rfl, hb3⟩
  have hB3 := zAe hB2 hb3
  have hI3 := hI2.below hb3
  have hK3 := hK2.trans (KeepBut.of_below hb3 g none) (.inl rfl)
  have hX3 := hX2.below hb3
  have u3 := hX3.c1
  have v3 := hX3.c2
  have p3 := hX3.c3
  have o3 := hX3.c0
  have k3 := hX3.c4
  have z3 := zAa hI3.1 2
  have y3 := zAq hI3.1
  go_wp2_with fail
  (with_reducible refine (zFr _ t1 true Hname.out Hbound.out.1).mono ?_)
  rintro e w4 ⟨rfl, hb4⟩
  have hB4 := zAe hB3 hb4
  have hI4 := hI3.below hb4
  have hK4 := hK3.trans (KeepBut.of_below hb4 g none) (.inl rfl)
  have hX4 := hX3.below hb4
  have u4 := hX4.c1
  have v4 := hX4.c2
  have p4 := hX4.c3
  have o4 := hX4.c0
  have k4 := hX4.c4
  have z4 := zAa hI4.1 2
  have y4 := zAq hI4.1
  have hIS := hI4.set_2 true
  have hBS : Below w0.heap.size w0 (w4.setCell ⟨g, 2, none⟩ (.bool true)) := hB4.setCell hg _
  have hKS : KeepBut w (w4.setCell ⟨g, 2, none⟩ (.bool true)) g none := hK4.set_ 2 _
  have hXS := hX4.set (j := 2) hne (.bool true)
  go_wp2_with fail
  (with_reducible refine (zBp w0 _ g (n + 1) b true t1 hb0 hb1 hIS hBS).mono ?_)
  rintro e w8 ⟨rfl, hI8, hB8, hK8⟩
  have hX8 := hXS.keep hK8 hne
  have v8 := hX8.c2
  have hle := zDt (bad := true) (t := t1) hb0 hb1
  obtain ⟨r1, er1⟩ : ∃ r, txt b true t1 = r := ⟨_, rfl⟩
  rw [er1] at hI8 hle
  have Er1 := zH er1
  clear er1
  go_wp2_with fail
  (with_reducible refine (zBp w0 _ g (n + 1) r1.1 r1.2 t2 hle.1 hle.2 hI8 hB8).mono ?_)
  rintro e w9 ⟨rfl, hI9, hB9, hK9⟩
  go_wp2
  first | go_end0 | ((try simp only [Exit.inBlock, Exit.then]); refine bodyPost_ret (results_none rfl _ _ _) rfl ?_)
  have hKf := (hKS.trans hK8 (.inl rfl)).trans hK9 (.inl rfl)
  exact LookPost.no hc hB9 hKf (zEf (u := t2) Er1.out ▸ hI9)
 by_cases e2 : op = 2
 ·subst e2
  have Hal := zH (zJq 2 (by omega) t1 t2 vs ks)
  cases hv : zEa ⟨2, t1, t2, vs, ks⟩ true false false with
  | false =>
   have hc : chk d ⟨2, t1, t2, vs, ks⟩ (64 - n) (4096 - b) = false := zBu (by rw [Hal.out, hv]; rfl)
   have Hbare := zH hv
   clear hv
   go_enter Try.func99, Try.ntmps99
   go_wp2_with fail
   (with_reducible refine (zBw _ ⟨2, t1, t2, vs, ks⟩ A3 c3 A4 c4 true false false false Hbare.out (hM.below hB2)).mono ?_)
   rintro e w3 ⟨rfl, hb3⟩
   have hB3 := zAe hB2 hb3
   have hI3 := hI2.below hb3
   have hK3 := hK2.trans (KeepBut.of_below hb3 g none) (.inl rfl)
   have hX3 := hX2.below hb3
   have u3 := hX3.c1
   have v3 := hX3.c2
   have p3 := hX3.c3
   have o3 := hX3.c0
   have k3 := hX3.c4
   have z3 := zAa hI3.1 2
   have y3 := zAq hI3.1
   have hIS := hI3.set_2 true
   have hBS : Below w0.heap.size w0 (w3.setCell ⟨g, 2, none⟩ (.bool true)) := hB3.setCell hg _
   have hKS : KeepBut w (w3.setCell ⟨g, 2, none⟩ (.bool true)) g none := hK3.set_ 2 _
   have hXS := hX3.set (j := 2) hne (.bool true)
   go_wp2_with fail
   (with_reducible refine (zBp w0 _ g (n + 1) b true t1 hb0 hb1 hIS hBS).mono ?_)
   rintro e w8 ⟨rfl, hI8, hB8, hK8⟩
   have hX8 := hXS.keep hK8 hne
   have v8 := hX8.c2
   have hle := zDt (bad := true) (t := t1) hb0 hb1
   obtain ⟨r1, er1⟩ : ∃ r, txt b true t1 = r := ⟨_, rfl⟩
   rw [er1] at hI8 hle
   have Er1 := zH er1
   clear er1
   go_wp2_with fail
   (with_reducible refine (zBp w0 _ g (n + 1) r1.1 r1.2 t2 hle.1 hle.2 hI8 hB8).mono ?_)
   rintro e w9 ⟨rfl, hI9, hB9, hK9⟩
   go_wp2
   first | go_end0 | ((try simp only [Exit.inBlock, Exit.then]); refine bodyPost_ret (results_none rfl _ _ _) rfl ?_)
   have hKf := (hKS.trans hK8 (.inl rfl)).trans hK9 (.inl rfl)
   exact LookPost.no hc hB9 hKf (zEf (u := t2) Er1.out ▸ hI9)
  | true =>
  have Hbare := zH hv
  clear hv
  cases hv : zDk t1 with
  | false =>
   have hc : chk d ⟨2, t1, t2, vs, ks⟩ (64 - n) (4096 - b) = false := zBu (by rw [Hal.out, Hbare.out, hv]; rfl)
   have Hname := zH hv
   clear hv
   go_enter Try.func99, Try.ntmps99
   go_wp2_with fail
   (with_reducible refine (zBw _ ⟨2, t1, t2, vs, ks⟩ A3 c3 A4 c4 true false false true Hbare.out (hM.below hB2)).mono ?_)
   rintro e w3 ⟨rfl, hb3⟩
   have hB3 := zAe hB2 hb3
   have hI3 := hI2.below hb3
   have hK3 := hK2.trans (KeepBut.of_below hb3 g none) (.inl rfl)
   have hX3 := hX2.below hb3
   have u3 := hX3.c1
   have v3 := hX3.c2
   have p3 := hX3.c3
   have o3 := hX3.c0
   have k3 := hX3.c4
   have z3 := zAa hI3.1 2
   have y3 := zAq hI3.1
   go_wp2_with fail
   (with_reducible refine (zFr _ t1 false Hname.out Hbound.out.1).mono ?_)
   rintro e w4 ⟨rfl, hb4⟩
   have hB4 := zAe hB3 hb4
   have hI4 := hI3.below hb4
   have hK4 := hK3.trans (KeepBut.of_below hb4 g none) (.inl rfl)
   have hX4 := hX3.below hb4
   have u4 := hX4.c1
   have v4 := hX4.c2
   have p4 := hX4.c3
   have o4 := hX4.c0
   have k4 := hX4.c4
   have z4 := zAa hI4.1 2
   have y4 := zAq hI4.1
   have hIS := hI4.set_2 true
   have hBS : Below w0.heap.size w0 (w4.setCell ⟨g, 2, none⟩ (.bool true)) := hB4.setCell hg _
   have hKS : KeepBut w (w4.setCell ⟨g, 2, none⟩ (.bool true)) g none := hK4.set_ 2 _
   have hXS := hX4.set (j := 2) hne (.bool true)
   go_wp2_with fail
   (with_reducible refine (zBp w0 _ g (n + 1) b true t1 hb0 hb1 hIS hBS).mono ?_)
   rintro e w8 ⟨rfl, hI8, hB8, hK8⟩
   have hX8 := hXS.keep hK8 hne
   have v8 := hX8.c2
   have hle := zDt (bad := true) (t := t1) hb0 hb1
   obtain ⟨r1, er1⟩ : ∃ r, txt b true t1 = r := ⟨_, rfl⟩
   rw [er1] at hI8 hle
   have Er1 := zH er1
   clear er1
   go_wp2_with fail
   (with_reducible refine (zBp w0 _ g (n + 1) r1.1 r1.2 t2 hle.1 hle.2 hI8 hB8).mono ?_)
   rintro e w9 ⟨rfl, hI9, hB9, hK9⟩
   go_wp2
   first | go_end0 | ((try simp only [Exit.inBlock, Exit.then]); refine bodyPost_ret (results_none rfl _ _ _) rfl ?_)
   have hKf := (hKS.trans hK8 (.inl rfl)).trans hK9 (.inl rfl)
   exact LookPost.no hc hB9 hKf (zEf (u := t2) Er1.out ▸ hI9)
  | true =>
  have Hname := zH hv
  clear hv
  by_cases h64 : t2.size ≤ 64
  ·have hks : ks = [] := by
    have h' := zO (show decide _ = true from Hbare.out)
    rcases h'.2.2.2 with h | h
    ·cases h
    exact List.eq_nil_of_length_eq_zero h
   have hvs : vs = [] := by
    have h' := zO (show decide _ = true from Hbare.out)
    rcases h'.2.2.1 with h | h
    ·cases h
    exact List.eq_nil_of_length_eq_zero h
   have Hchk := zH (show chk d ⟨2, t1, t2, vs, ks⟩ (64 - n) (4096 - b) = decide ((t1.size + t2.size : Int) ≤ 4096 - b) from by
    have ha : zBs ⟨2, t1, t2, vs, ks⟩ = true := by rw [Hal.out, Hbare.out, Hname.out, zT h64]; rfl
    rw [hks] at ha ⊢
    rw [zHe (by omega) (by omega), ha, Bool.true_and, decide_eq_decide, hvs]
    simp only [sizes]; omega)
   have Hnod := zH (show zAv ⟨2, t1, t2, vs, ks⟩ = 1 from by rw [hks]; simp [zAv, zBd])
   have Hbyt := zH (show zBy ⟨2, t1, t2, vs, ks⟩ = t1.size + t2.size from by rw [hks, hvs]; simp [zBy, zBr, sizes])
   clear hks hvs
   have h64b : decide ((64 : Int) < (t2.size : Int)) = false := zF (by omega)
   have h64c : decide (64 < t2.size) = false := zF (by omega)
   go_enter Try.func99, Try.ntmps99
   go_wp2_with fail
   (with_reducible refine (zBw _ ⟨2, t1, t2, vs, ks⟩ A3 c3 A4 c4 true false false true Hbare.out (hM.below hB2)).mono ?_)
   rintro e w3 ⟨rfl, hb3⟩
   have hB3 := zAe hB2 hb3
   have hI3 := hI2.below hb3
   have hK3 := hK2.trans (KeepBut.of_below hb3 g none) (.inl rfl)
   have hX3 := hX2.below hb3
   have u3 := hX3.c1
   have v3 := hX3.c2
   have p3 := hX3.c3
   have o3 := hX3.c0
   have k3 := hX3.c4
   have z3 := zAa hI3.1 2
   have y3 := zAq hI3.1
   go_wp2_with fail
   (with_reducible refine (zFr _ t1 true Hname.out Hbound.out.1).mono ?_)
   rintro e w4 ⟨rfl, hb4⟩
   have hB4 := zAe hB3 hb4
   have hI4 := hI3.below hb4
   have hK4 := hK3.trans (KeepBut.of_below hb4 g none) (.inl rfl)
   have hX4 := hX3.below hb4
   have u4 := hX4.c1
   have v4 := hX4.c2
   have p4 := hX4.c3
   have o4 := hX4.c0
   have k4 := hX4.c4
   have z4 := zAa hI4.1 2
   have y4 := zAq hI4.1
   have hIS := hI4.set_2 false
   have hBS : Below w0.heap.size w0 (w4.setCell ⟨g, 2, none⟩ (.bool false)) := hB4.setCell hg _
   have hKS : KeepBut w (w4.setCell ⟨g, 2, none⟩ (.bool false)) g none := hK4.set_ 2 _
   have hXS := hX4.set (j := 2) hne (.bool false)
   go_wp2_with fail
   (with_reducible refine (zBp w0 _ g (n + 1) b false t1 hb0 hb1 hIS hBS).mono ?_)
   rintro e w8 ⟨rfl, hI8, hB8, hK8⟩
   have hX8 := hXS.keep hK8 hne
   have v8 := hX8.c2
   have hle := zDt (bad := false) (t := t1) hb0 hb1
   obtain ⟨r1, er1⟩ : ∃ r, txt b false t1 = r := ⟨_, rfl⟩
   rw [er1] at hI8 hle
   have Er1 := zH er1
   clear er1
   go_wp2_with fail
   (with_reducible refine (zBp w0 _ g (n + 1) r1.1 r1.2 t2 hle.1 hle.2 hI8 hB8).mono ?_)
   rintro e w9 ⟨rfl, hI9, hB9, hK9⟩
   go_wp2
   first | go_end0 | ((try simp only [Exit.inBlock, Exit.then]); refine bodyPost_ret (results_none rfl _ _ _) rfl ?_)
   have hKf := (hKS.trans hK8 (.inl rfl)).trans hK9 (.inl rfl)
   by_cases hfit : (t1.size + t2.size : Int) ≤ 4096 - b
   ·have e1 := Er1.out.symm.trans (zEx (by omega))
    rw [e1, zEx (by simp only; omega)] at hI9
    exact LookPost.yes (by rw [Hchk.out]; exact zT hfit) hB9 hKf hI9 (by rw [Hnod.out]; rfl) (by rw [Hbyt.out]; simp only; omega)
   refine LookPost.no (n' := n + 1) (b' := (txt r1.1 r1.2 t2).1) (by rw [Hchk.out]; exact zF hfit) hB9 hKf ?_
   have : (txt r1.1 r1.2 t2).2 = true := by
    by_cases h1 : (t1.size : Int) ≤ 4096 - b
    ·rw [Er1.out.symm.trans (zEx h1), zIb (by simp only; omega)]
    rw [Er1.out.symm.trans (zIb h1)]; exact zEm
   rw [← this]; exact hI9
  have hc : chk d ⟨2, t1, t2, vs, ks⟩ (64 - n) (4096 - b) = false := zBu (by rw [Hal.out, zF h64, Bool.and_false])
  have h64' : (64 : Int) < (t2.size : Int) := by omega
  go_enter Try.func99, Try.ntmps99
  go_wp2_with fail
  (with_reducible refine (zBw _ ⟨2, t1, t2, vs, ks⟩ A3 c3 A4 c4 true false false true Hbare.out (hM.below hB2)).mono ?_)
  rintro e w3 ⟨rfl, hb3⟩
  have hB3 := zAe hB2 hb3
  have hI3 := hI2.below hb3
  have hK3 := hK2.trans (KeepBut.of_below hb3 g none) (.inl rfl)
  have hX3 := hX2.below hb3
  have u3 := hX3.c1
  have v3 := hX3.c2
  have p3 := hX3.c3
  have o3 := hX3.c0
  have k3 := hX3.c4
  have z3 := zAa hI3.1 2
  have y3 := zAq hI3.1
  go_wp2_with fail
  (with_reducible refine (zFr _ t1 true Hname.out Hbound.out.1).mono ?_)
  rintro e w4 ⟨rfl, hb4⟩
  have hB4 := zAe hB3 hb4
  have hI4 := hI3.below hb4
  have hK4 := hK3.trans (KeepBut.of_below hb4 g none) (.inl rfl)
  have hX4 := hX3.below hb4
  have u4 := hX4.c1
  have v4 := hX4.c2
  have p4 := hX4.c3
  have o4 := hX4.c0
  have k4 := hX4.c4
  have z4 := zAa hI4.1 2
  have y4 := zAq hI4.1
  have hIS := hI4.set_2 true
  have hBS : Below w0.heap.size w0 (w4.setCell ⟨g, 2, none⟩ (.bool true)) := hB4.setCell hg _
  have hKS : KeepBut w (w4.setCell ⟨g, 2, none⟩ (.bool true)) g none := hK4.set_ 2 _
  have hXS := hX4.set (j := 2) hne (.bool true)
  go_wp2_with fail
  (with_reducible refine (zBp w0 _ g (n + 1) b true t1 hb0 hb1 hIS hBS).mono ?_)
  rintro e w8 ⟨rfl, hI8, hB8, hK8⟩
  have hX8 := hXS.keep hK8 hne
  have v8 := hX8.c2
  have hle := zDt (bad := true) (t := t1) hb0 hb1
  obtain ⟨r1, er1⟩ : ∃ r, txt b true t1 = r := ⟨_, rfl⟩
  rw [er1] at hI8 hle
  have Er1 := zH er1
  clear er1
  go_wp2_with fail
  (with_reducible refine (zBp w0 _ g (n + 1) r1.1 r1.2 t2 hle.1 hle.2 hI8 hB8).mono ?_)
  rintro e w9 ⟨rfl, hI9, hB9, hK9⟩
  go_wp2
  first | go_end0 | ((try simp only [Exit.inBlock, Exit.then]); refine bodyPost_ret (results_none rfl _ _ _) rfl ?_)
  have hKf := (hKS.trans hK8 (.inl rfl)).trans hK9 (.inl rfl)
  exact LookPost.no hc hB9 hKf (zEf (u := t2) Er1.out ▸ hI9)
 by_cases e3 : op = 3
 ·subst e3
  have Hal := zH (zJq 3 (by omega) t1 t2 vs ks)
  cases hv : zEa ⟨3, t1, t2, vs, ks⟩ true false false with
  | false =>
   have hc : chk d ⟨3, t1, t2, vs, ks⟩ (64 - n) (4096 - b) = false := zBu (by rw [Hal.out, hv]; rfl)
   have Hbare := zH hv
   clear hv
   go_enter Try.func99, Try.ntmps99
   go_wp2_with fail
   (with_reducible refine (zBw _ ⟨3, t1, t2, vs, ks⟩ A3 c3 A4 c4 true false false false Hbare.out (hM.below hB2)).mono ?_)
   rintro e w3 ⟨rfl, hb3⟩
   have hB3 := zAe hB2 hb3
   have hI3 := hI2.below hb3
   have hK3 := hK2.trans (KeepBut.of_below hb3 g none) (.inl rfl)
   have hX3 := hX2.below hb3
   have u3 := hX3.c1
   have v3 := hX3.c2
   have p3 := hX3.c3
   have o3 := hX3.c0
   have k3 := hX3.c4
   have z3 := zAa hI3.1 2
   have y3 := zAq hI3.1
   have hIS := hI3.set_2 true
   have hBS : Below w0.heap.size w0 (w3.setCell ⟨g, 2, none⟩ (.bool true)) := hB3.setCell hg _
   have hKS : KeepBut w (w3.setCell ⟨g, 2, none⟩ (.bool true)) g none := hK3.set_ 2 _
   have hXS := hX3.set (j := 2) hne (.bool true)
   go_wp2_with fail
   (with_reducible refine (zBp w0 _ g (n + 1) b true t1 hb0 hb1 hIS hBS).mono ?_)
   rintro e w8 ⟨rfl, hI8, hB8, hK8⟩
   have hX8 := hXS.keep hK8 hne
   have v8 := hX8.c2
   have hle := zDt (bad := true) (t := t1) hb0 hb1
   obtain ⟨r1, er1⟩ : ∃ r, txt b true t1 = r := ⟨_, rfl⟩
   rw [er1] at hI8 hle
   have Er1 := zH er1
   clear er1
   go_wp2_with fail
   (with_reducible refine (zBp w0 _ g (n + 1) r1.1 r1.2 t2 hle.1 hle.2 hI8 hB8).mono ?_)
   rintro e w9 ⟨rfl, hI9, hB9, hK9⟩
   go_wp2
   first | go_end0 | ((try simp only [Exit.inBlock, Exit.then]); refine bodyPost_ret (results_none rfl _ _ _) rfl ?_)
   have hKf := (hKS.trans hK8 (.inl rfl)).trans hK9 (.inl rfl)
   exact LookPost.no hc hB9 hKf (zEf (u := t2) Er1.out ▸ hI9)
  | true =>
  have Hbare := zH hv
  clear hv
  cases hv : zDk t1 with
  | false =>
   have hc : chk d ⟨3, t1, t2, vs, ks⟩ (64 - n) (4096 - b) = false := zBu (by rw [Hal.out, Hbare.out, hv]; rfl)
   have Hname := zH hv
   clear hv
   go_enter Try.func99, Try.ntmps99
   go_wp2_with fail
   (with_reducible refine (zBw _ ⟨3, t1, t2, vs, ks⟩ A3 c3 A4 c4 true false false true Hbare.out (hM.below hB2)).mono ?_)
   rintro e w3 ⟨rfl, hb3⟩
   have hB3 := zAe hB2 hb3
   have hI3 := hI2.below hb3
   have hK3 := hK2.trans (KeepBut.of_below hb3 g none) (.inl rfl)
   have hX3 := hX2.below hb3
   have u3 := hX3.c1
   have v3 := hX3.c2
   have p3 := hX3.c3
   have o3 := hX3.c0
   have k3 := hX3.c4
   have z3 := zAa hI3.1 2
   have y3 := zAq hI3.1
   go_wp2_with fail
   (with_reducible refine (zFr _ t1 false Hname.out Hbound.out.1).mono ?_)
   rintro e w4 ⟨rfl, hb4⟩
   have hB4 := zAe hB3 hb4
   have hI4 := hI3.below hb4
   have hK4 := hK3.trans (KeepBut.of_below hb4 g none) (.inl rfl)
   have hX4 := hX3.below hb4
   have u4 := hX4.c1
   have v4 := hX4.c2
   have p4 := hX4.c3
   have o4 := hX4.c0
   have k4 := hX4.c4
   have z4 := zAa hI4.1 2
   have y4 := zAq hI4.1
   have hIS := hI4.set_2 true
   have hBS : Below w0.heap.size w0 (w4.setCell ⟨g, 2, none⟩ (.bool true)) := hB4.setCell hg _
   have hKS : KeepBut w (w4.setCell ⟨g, 2, none⟩ (.bool true)) g none := hK4.set_ 2 _
   have hXS := hX4.set (j := 2) hne (.bool true)
   go_wp2_with fail
   (with_reducible refine (zBp w0 _ g (n + 1) b true t1 hb0 hb1 hIS hBS).mono ?_)
   rintro e w8 ⟨rfl, hI8, hB8, hK8⟩
   have hX8 := hXS.keep hK8 hne
   have v8 := hX8.c2
   have hle := zDt (bad := true) (t := t1) hb0 hb1
   obtain ⟨r1, er1⟩ : ∃ r, txt b true t1 = r := ⟨_, rfl⟩
   rw [er1] at hI8 hle
   have Er1 := zH er1
   clear er1
   go_wp2_with fail
   (with_reducible refine (zBp w0 _ g (n + 1) r1.1 r1.2 t2 hle.1 hle.2 hI8 hB8).mono ?_)
   rintro e w9 ⟨rfl, hI9, hB9, hK9⟩
   go_wp2
   first | go_end0 | ((try simp only [Exit.inBlock, Exit.then]); refine bodyPost_ret (results_none rfl _ _ _) rfl ?_)
   have hKf := (hKS.trans hK8 (.inl rfl)).trans hK9 (.inl rfl)
   exact LookPost.no hc hB9 hKf (zEf (u := t2) Er1.out ▸ hI9)
  | true =>
  have Hname := zH hv
  clear hv
  by_cases h64 : t2.size ≤ 64
  ·have hks : ks = [] := by
    have h' := zO (show decide _ = true from Hbare.out)
    rcases h'.2.2.2 with h | h
    ·cases h
    exact List.eq_nil_of_length_eq_zero h
   have hvs : vs = [] := by
    have h' := zO (show decide _ = true from Hbare.out)
    rcases h'.2.2.1 with h | h
    ·cases h
    exact List.eq_nil_of_length_eq_zero h
   have Hchk := zH (show chk d ⟨3, t1, t2, vs, ks⟩ (64 - n) (4096 - b) = decide ((t1.size + t2.size : Int) ≤ 4096 - b) from by
    have ha : zBs ⟨3, t1, t2, vs, ks⟩ = true := by rw [Hal.out, Hbare.out, Hname.out, zT h64]; rfl
    rw [hks] at ha ⊢
    rw [zHe (by omega) (by omega), ha, Bool.true_and, decide_eq_decide, hvs]
    simp only [sizes]; omega)
   have Hnod := zH (show zAv ⟨3, t1, t2, vs, ks⟩ = 1 from by rw [hks]; simp [zAv, zBd])
   have Hbyt := zH (show zBy ⟨3, t1, t2, vs, ks⟩ = t1.size + t2.size from by rw [hks, hvs]; simp [zBy, zBr, sizes])
   clear hks hvs
   have h64b : decide ((64 : Int) < (t2.size : Int)) = false := zF (by omega)
   have h64c : decide (64 < t2.size) = false := zF (by omega)
   go_enter Try.func99, Try.ntmps99
   go_wp2_with fail
   (with_reducible refine (zBw _ ⟨3, t1, t2, vs, ks⟩ A3 c3 A4 c4 true false false true Hbare.out (hM.below hB2)).mono ?_)
   rintro e w3 ⟨rfl, hb3⟩
   have hB3 := zAe hB2 hb3
   have hI3 := hI2.below hb3
   have hK3 := hK2.trans (KeepBut.of_below hb3 g none) (.inl rfl)
   have hX3 := hX2.below hb3
   have u3 := hX3.c1
   have v3 := hX3.c2
   have p3 := hX3.c3
   have o3 := hX3.c0
   have k3 := hX3.c4
   have z3 := zAa hI3.1 2
   have y3 := zAq hI3.1
   go_wp2_with fail
   (with_reducible refine (zFr _ t1 true Hname.out Hbound.out.1).mono ?_)
   rintro e w4 ⟨rfl, hb4⟩
   have hB4 := zAe hB3 hb4
   have hI4 := hI3.below hb4
   have hK4 := hK3.trans (KeepBut.of_below hb4 g none) (.inl rfl)
   have hX4 := hX3.below hb4
   have u4 := hX4.c1
   have v4 := hX4.c2
   have p4 := hX4.c3
   have o4 := hX4.c0
   have k4 := hX4.c4
   have z4 := zAa hI4.1 2
   have y4 := zAq hI4.1
   have hIS := hI4.set_2 false
   have hBS : Below w0.heap.size w0 (w4.setCell ⟨g, 2, none⟩ (.bool false)) := hB4.setCell hg _
   have hKS : KeepBut w (w4.setCell ⟨g, 2, none⟩ (.bool false)) g none := hK4.set_ 2 _
   have hXS := hX4.set (j := 2) hne (.bool false)
   go_wp2_with fail
   (with_reducible refine (zBp w0 _ g (n + 1) b false t1 hb0 hb1 hIS hBS).mono ?_)
   rintro e w8 ⟨rfl, hI8, hB8, hK8⟩
   have hX8 := hXS.keep hK8 hne
   have v8 := hX8.c2
   have hle := zDt (bad := false) (t := t1) hb0 hb1
   obtain ⟨r1, er1⟩ : ∃ r, txt b false t1 = r := ⟨_, rfl⟩
   rw [er1] at hI8 hle
   have Er1 := zH er1
   clear er1
   go_wp2_with fail
   (with_reducible refine (zBp w0 _ g (n + 1) r1.1 r1.2 t2 hle.1 hle.2 hI8 hB8).mono ?_)
   rintro e w9 ⟨rfl, hI9, hB9, hK9⟩
   go_wp2
   first | go_end0 | ((try simp only [Exit.inBlock, Exit.then]); refine bodyPost_ret (results_none rfl _ _ _) rfl ?_)
   have hKf := (hKS.trans hK8 (.inl rfl)).trans hK9 (.inl rfl)
   by_cases hfit : (t1.size + t2.size : Int) ≤ 4096 - b
   ·have e1 := Er1.out.symm.trans (zEx (by omega))
    rw [e1, zEx (by simp only; omega)] at hI9
    exact LookPost.yes (by rw [Hchk.out]; exact zT hfit) hB9 hKf hI9 (by rw [Hnod.out]; rfl) (by rw [Hbyt.out]; simp only; omega)
   refine LookPost.no (n' := n + 1) (b' := (txt r1.1 r1.2 t2).1) (by rw [Hchk.out]; exact zF hfit) hB9 hKf ?_
   have : (txt r1.1 r1.2 t2).2 = true := by
    by_cases h1 : (t1.size : Int) ≤ 4096 - b
    ·rw [Er1.out.symm.trans (zEx h1), zIb (by simp only; omega)]
    rw [Er1.out.symm.trans (zIb h1)]; exact zEm
   rw [← this]; exact hI9
  have hc : chk d ⟨3, t1, t2, vs, ks⟩ (64 - n) (4096 - b) = false := zBu (by rw [Hal.out, zF h64, Bool.and_false])
  have h64' : (64 : Int) < (t2.size : Int) := by omega
  go_enter Try.func99, Try.ntmps99
  go_wp2_with fail
  (with_reducible refine (zBw _ ⟨3, t1, t2, vs, ks⟩ A3 c3 A4 c4 true false false true Hbare.out (hM.below hB2)).mono ?_)
  rintro e w3 ⟨rfl, hb3⟩
  have hB3 := zAe hB2 hb3
  have hI3 := hI2.below hb3
  have hK3 := hK2.trans (KeepBut.of_below hb3 g none) (.inl rfl)
  have hX3 := hX2.below hb3
  have u3 := hX3.c1
  have v3 := hX3.c2
  have p3 := hX3.c3
  have o3 := hX3.c0
  have k3 := hX3.c4
  have z3 := zAa hI3.1 2
  have y3 := zAq hI3.1
  go_wp2_with fail
  (with_reducible refine (zFr _ t1 true Hname.out Hbound.out.1).mono ?_)
  rintro e w4 ⟨rfl, hb4⟩
  have hB4 := zAe hB3 hb4
  have hI4 := hI3.below hb4
  have hK4 := hK3.trans (KeepBut.of_below hb4 g none) (.inl rfl)
  have hX4 := hX3.below hb4
  have u4 := hX4.c1
  have v4 := hX4.c2
  have p4 := hX4.c3
  have o4 := hX4.c0
  have k4 := hX4.c4
  have z4 := zAa hI4.1 2
  have y4 := zAq hI4.1
  have hIS := hI4.set_2 true
  have hBS : Below w0.heap.size w0 (w4.setCell ⟨g, 2, none⟩ (.bool true)) := hB4.setCell hg _
  have hKS : KeepBut w (w4.setCell ⟨g, 2, none⟩ (.bool true)) g none := hK4.set_ 2 _
  have hXS := hX4.set (j := 2) hne (.bool true)
  go_wp2_with fail
  (with_reducible refine (zBp w0 _ g (n + 1) b true t1 hb0 hb1 hIS hBS).mono ?_)
  rintro e w8 ⟨rfl, hI8, hB8, hK8⟩
  have hX8 := hXS.keep hK8 hne
  have v8 := hX8.c2
  have hle := zDt (bad := true) (t := t1) hb0 hb1
  obtain ⟨r1, er1⟩ : ∃ r, txt b true t1 = r := ⟨_, rfl⟩
  rw [er1] at hI8 hle
  have Er1 := zH er1
  clear er1
  go_wp2_with fail
  (with_reducible refine (zBp w0 _ g (n + 1) r1.1 r1.2 t2 hle.1 hle.2 hI8 hB8).mono ?_)
  rintro e w9 ⟨rfl, hI9, hB9, hK9⟩
  go_wp2
  first | go_end0 | ((try simp only [Exit.inBlock, Exit.then]); refine bodyPost_ret (results_none rfl _ _ _) rfl ?_)
  have hKf := (hKS.trans hK8 (.inl rfl)).trans hK9 (.inl rfl)
  exact LookPost.no hc hB9 hKf (zEf (u := t2) Er1.out ▸ hI9)
 by_cases e4 : op = 4
 ·subst e4
  have Hal := zH (alone_4 t1 t2 vs ks)
  cases hv : zEa ⟨4, t1, t2, vs, ks⟩ false true false with
  | false =>
   have hc : chk d ⟨4, t1, t2, vs, ks⟩ (64 - n) (4096 - b) = false := zBu (by rw [Hal.out, hv]; rfl)
   have Hbare := zH hv
   clear hv
   go_enter Try.func99, Try.ntmps99
   go_wp2_with fail
   (with_reducible refine (zBw _ ⟨4, t1, t2, vs, ks⟩ A3 c3 A4 c4 false true false false Hbare.out (hM.below hB2)).mono ?_)
   rintro e w3 ⟨rfl, hb3⟩
   have hB3 := zAe hB2 hb3
   have hI3 := hI2.below hb3
   have hK3 := hK2.trans (KeepBut.of_below hb3 g none) (.inl rfl)
   have hX3 := hX2.below hb3
   have u3 := hX3.c1
   have v3 := hX3.c2
   have p3 := hX3.c3
   have o3 := hX3.c0
   have k3 := hX3.c4
   have z3 := zAa hI3.1 2
   have y3 := zAq hI3.1
   have hIS := hI3.set_2 true
   have hBS : Below w0.heap.size w0 (w3.setCell ⟨g, 2, none⟩ (.bool true)) := hB3.setCell hg _
   have hKS : KeepBut w (w3.setCell ⟨g, 2, none⟩ (.bool true)) g none := hK3.set_ 2 _
   have hXS := hX3.set (j := 2) hne (.bool true)
   go_wp2_with fail
   (with_reducible refine (zBp w0 _ g (n + 1) b true t1 hb0 hb1 hIS hBS).mono ?_)
   rintro e w8 ⟨rfl, hI8, hB8, hK8⟩
   have hX8 := hXS.keep hK8 hne
   have hle := zDt (bad := true) (t := t1) hb0 hb1
   obtain ⟨r1, er1⟩ : ∃ r, txt b true t1 = r := ⟨_, rfl⟩
   rw [er1] at hI8 hle
   have Er1 := zH er1
   clear er1
   have p8 := hX8.c3
   go_wp2
   go_loopw [6] (fun u6 wr => ∃ (j : Nat) (bj : Int) (kj : Bool), u6 = .int .i64 j ∧ j ≤ vs.length ∧ IsS122 w0 wr g (n + 1) bj kj ∧ BoxM wr w.heap.size 4 t1 t2 (.slice A3 vs.length c3) (.slice A4 ks.length c4) ∧ Below w0.heap.size w0 wr ∧ KeepBut w wr g none ∧ kj = true ∧ 0 ≤ bj ∧ bj ≤ 4096 ∧ Hid (kj = true → chk d ⟨4, t1, t2, vs, ks⟩ (64 - n) (4096 - b) = false) ∧ Hid (kj = false → bj = b + t1.size + sizes (vs.take j)))
    (fun u6 _ => vs.length - (intOf u6).toNat)
   case atStart =>
    refine ⟨0, r1.1, r1.2, rfl, Nat.zero_le _, hI8, hX8, hB8, hKS.trans hK8 (.inl rfl), by rw [← Er1.out]; exact zEm, hle.1, hle.2, zH (fun _ => hc), zH (fun hk => ?_)⟩
    rw [← Er1.out, zEm] at hk; cases hk
   case round =>
    clear p8 hI8 hX8 hB8 hK8 hIS hBS hKS hXS
    obtain ⟨j, bj, kj, rfl, hj, hIr, hXr, hBr, hKr, hkj, hbj0, hbj1, hkt, hkf⟩ := hrel
    have pr := hXr.c3
    have yr := zAq hIr.1
    have hlen := hM.2.1.2.1
    cases kj with
    | true =>
     have hc' := hkt.out rfl
     have Hc := zH hc'
     clear hc' hkt hkf
     by_cases hlt : j < vs.length
     ·go_wp2
      first | go_end0 | ((try simp only [Exit.inBlock, Exit.then]); refine bodyPost_ret (results_none rfl _ _ _) rfl ?_)
      exact LookPost.no Hc.out hBr hKr hIr
     go_wp2
     first | go_end0 | ((try simp only [Exit.inBlock, Exit.then]); refine bodyPost_ret (results_none rfl _ _ _) rfl ?_)
     exact LookPost.no Hc.out hBr hKr hIr
    | false =>
    cases hkj
  | true =>
  have Hbare := zH hv
  clear hv
  cases hv : zDk t1 with
  | false =>
   have hc : chk d ⟨4, t1, t2, vs, ks⟩ (64 - n) (4096 - b) = false := zBu (by rw [Hal.out, Hbare.out, hv]; rfl)
   have Hname := zH hv
   clear hv
   go_enter Try.func99, Try.ntmps99
   go_wp2_with fail
   (with_reducible refine (zBw _ ⟨4, t1, t2, vs, ks⟩ A3 c3 A4 c4 false true false true Hbare.out (hM.below hB2)).mono ?_)
   rintro e w3 ⟨rfl, hb3⟩
   have hB3 := zAe hB2 hb3
   have hI3 := hI2.below hb3
   have hK3 := hK2.trans (KeepBut.of_below hb3 g none) (.inl rfl)
   have hX3 := hX2.below hb3
   have u3 := hX3.c1
   have v3 := hX3.c2
   have p3 := hX3.c3
   have o3 := hX3.c0
   have k3 := hX3.c4
   have z3 := zAa hI3.1 2
   have y3 := zAq hI3.1
   go_wp2_with fail
   (with_reducible refine (zFr _ t1 false Hname.out Hbound.out.1).mono ?_)
   rintro e w4 ⟨rfl, hb4⟩
   have hB4 := zAe hB3 hb4
   have hI4 := hI3.below hb4
   have hK4 := hK3.trans (KeepBut.of_below hb4 g none) (.inl rfl)
   have hX4 := hX3.below hb4
   have u4 := hX4.c1
   have v4 := hX4.c2
   have p4 := hX4.c3
   have o4 := hX4.c0
   have k4 := hX4.c4
   have z4 := zAa hI4.1 2
   have y4 := zAq hI4.1
   have hIS := hI4.set_2 true
   have hBS : Below w0.heap.size w0 (w4.setCell ⟨g, 2, none⟩ (.bool true)) := hB4.setCell hg _
   have hKS : KeepBut w (w4.setCell ⟨g, 2, none⟩ (.bool true)) g none := hK4.set_ 2 _
   have hXS := hX4.set (j := 2) hne (.bool true)
   go_wp2_with fail
   (with_reducible refine (zBp w0 _ g (n + 1) b true t1 hb0 hb1 hIS hBS).mono ?_)
   rintro e w8 ⟨rfl, hI8, hB8, hK8⟩
   have hX8 := hXS.keep hK8 hne
   have hle := zDt (bad := true) (t := t1) hb0 hb1
   obtain ⟨r1, er1⟩ : ∃ r, txt b true t1 = r := ⟨_, rfl⟩
   rw [er1] at hI8 hle
   have Er1 := zH er1
   clear er1
   have p8 := hX8.c3
   go_wp2
   go_loopw [6] (fun u6 wr => ∃ (j : Nat) (bj : Int) (kj : Bool), u6 = .int .i64 j ∧ j ≤ vs.length ∧ IsS122 w0 wr g (n + 1) bj kj ∧ BoxM wr w.heap.size 4 t1 t2 (.slice A3 vs.length c3) (.slice A4 ks.length c4) ∧ Below w0.heap.size w0 wr ∧ KeepBut w wr g none ∧ kj = true ∧ 0 ≤ bj ∧ bj ≤ 4096 ∧ Hid (kj = true → chk d ⟨4, t1, t2, vs, ks⟩ (64 - n) (4096 - b) = false) ∧ Hid (kj = false → bj = b + t1.size + sizes (vs.take j)))
    (fun u6 _ => vs.length - (intOf u6).toNat)
   case atStart =>
    refine ⟨0, r1.1, r1.2, rfl, Nat.zero_le _, hI8, hX8, hB8, hKS.trans hK8 (.inl rfl), by rw [← Er1.out]; exact zEm, hle.1, hle.2, zH (fun _ => hc), zH (fun hk => ?_)⟩
    rw [← Er1.out, zEm] at hk; cases hk
   case round =>
    clear p8 hI8 hX8 hB8 hK8 hIS hBS hKS hXS
    obtain ⟨j, bj, kj, rfl, hj, hIr, hXr, hBr, hKr, hkj, hbj0, hbj1, hkt, hkf⟩ := hrel
    have pr := hXr.c3
    have yr := zAq hIr.1
    have hlen := hM.2.1.2.1
    cases kj with
    | true =>
     have hc' := hkt.out rfl
     have Hc := zH hc'
     clear hc' hkt hkf
     by_cases hlt : j < vs.length
     ·go_wp2
      first | go_end0 | ((try simp only [Exit.inBlock, Exit.then]); refine bodyPost_ret (results_none rfl _ _ _) rfl ?_)
      exact LookPost.no Hc.out hBr hKr hIr
     go_wp2
     first | go_end0 | ((try simp only [Exit.inBlock, Exit.then]); refine bodyPost_ret (results_none rfl _ _ _) rfl ?_)
     exact LookPost.no Hc.out hBr hKr hIr
    | false =>
    cases hkj
  | true =>
  have Hname := zH hv
  clear hv
  cases hv : zEc vs with
  | false =>
   have hc : chk d ⟨4, t1, t2, vs, ks⟩ (64 - n) (4096 - b) = false := zBu (by rw [Hal.out, Hbare.out, Hname.out, hv]; rfl)
   have Hvals := zH hv
   clear hv
   go_enter Try.func99, Try.ntmps99
   go_wp2_with fail
   (with_reducible refine (zBw _ ⟨4, t1, t2, vs, ks⟩ A3 c3 A4 c4 false true false true Hbare.out (hM.below hB2)).mono ?_)
   rintro e w3 ⟨rfl, hb3⟩
   have hB3 := zAe hB2 hb3
   have hI3 := hI2.below hb3
   have hK3 := hK2.trans (KeepBut.of_below hb3 g none) (.inl rfl)
   have hX3 := hX2.below hb3
   have u3 := hX3.c1
   have v3 := hX3.c2
   have p3 := hX3.c3
   have o3 := hX3.c0
   have k3 := hX3.c4
   have z3 := zAa hI3.1 2
   have y3 := zAq hI3.1
   go_wp2_with fail
   (with_reducible refine (zFr _ t1 true Hname.out Hbound.out.1).mono ?_)
   rintro e w4 ⟨rfl, hb4⟩
   have hB4 := zAe hB3 hb4
   have hI4 := hI3.below hb4
   have hK4 := hK3.trans (KeepBut.of_below hb4 g none) (.inl rfl)
   have hX4 := hX3.below hb4
   have u4 := hX4.c1
   have v4 := hX4.c2
   have p4 := hX4.c3
   have o4 := hX4.c0
   have k4 := hX4.c4
   have z4 := zAa hI4.1 2
   have y4 := zAq hI4.1
   go_wp2_with fail
   (with_reducible refine (values149m w0 _ ⟨4, t1, t2, vs, ks⟩ A3 c3 A4 c4 false Hvals.out hM hB4).mono ?_)
   rintro e w5 ⟨rfl, hb5⟩
   have hB5 := zAe hB4 hb5
   have hI5 := hI4.below hb5
   have hK5 := hK4.trans (KeepBut.of_below hb5 g none) (.inl rfl)
   have hX5 := hX4.below hb5
   have u5 := hX5.c1
   have v5 := hX5.c2
   have p5 := hX5.c3
   have o5 := hX5.c0
   have k5 := hX5.c4
   have z5 := zAa hI5.1 2
   have y5 := zAq hI5.1
   have hIS := hI5.set_2 true
   have hBS : Below w0.heap.size w0 (w5.setCell ⟨g, 2, none⟩ (.bool true)) := hB5.setCell hg _
   have hKS : KeepBut w (w5.setCell ⟨g, 2, none⟩ (.bool true)) g none := hK5.set_ 2 _
   have hXS := hX5.set (j := 2) hne (.bool true)
   go_wp2_with fail
   (with_reducible refine (zBp w0 _ g (n + 1) b true t1 hb0 hb1 hIS hBS).mono ?_)
   rintro e w8 ⟨rfl, hI8, hB8, hK8⟩
   have hX8 := hXS.keep hK8 hne
   have hle := zDt (bad := true) (t := t1) hb0 hb1
   obtain ⟨r1, er1⟩ : ∃ r, txt b true t1 = r := ⟨_, rfl⟩
   rw [er1] at hI8 hle
   have Er1 := zH er1
   clear er1
   have p8 := hX8.c3
   go_wp2
   go_loopw [6] (fun u6 wr => ∃ (j : Nat) (bj : Int) (kj : Bool), u6 = .int .i64 j ∧ j ≤ vs.length ∧ IsS122 w0 wr g (n + 1) bj kj ∧ BoxM wr w.heap.size 4 t1 t2 (.slice A3 vs.length c3) (.slice A4 ks.length c4) ∧ Below w0.heap.size w0 wr ∧ KeepBut w wr g none ∧ kj = true ∧ 0 ≤ bj ∧ bj ≤ 4096 ∧ Hid (kj = true → chk d ⟨4, t1, t2, vs, ks⟩ (64 - n) (4096 - b) = false) ∧ Hid (kj = false → bj = b + t1.size + sizes (vs.take j)))
    (fun u6 _ => vs.length - (intOf u6).toNat)
   case atStart =>
    refine ⟨0, r1.1, r1.2, rfl, Nat.zero_le _, hI8, hX8, hB8, hKS.trans hK8 (.inl rfl), by rw [← Er1.out]; exact zEm, hle.1, hle.2, zH (fun _ => hc), zH (fun hk => ?_)⟩
    rw [← Er1.out, zEm] at hk; cases hk
   case round =>
    clear p8 hI8 hX8 hB8 hK8 hIS hBS hKS hXS
    obtain ⟨j, bj, kj, rfl, hj, hIr, hXr, hBr, hKr, hkj, hbj0, hbj1, hkt, hkf⟩ := hrel
    have pr := hXr.c3
    have yr := zAq hIr.1
    have hlen := hM.2.1.2.1
    cases kj with
    | true =>
     have hc' := hkt.out rfl
     have Hc := zH hc'
     clear hc' hkt hkf
     by_cases hlt : j < vs.length
     ·go_wp2
      first | go_end0 | ((try simp only [Exit.inBlock, Exit.then]); refine bodyPost_ret (results_none rfl _ _ _) rfl ?_)
      exact LookPost.no Hc.out hBr hKr hIr
     go_wp2
     first | go_end0 | ((try simp only [Exit.inBlock, Exit.then]); refine bodyPost_ret (results_none rfl _ _ _) rfl ?_)
     exact LookPost.no Hc.out hBr hKr hIr
    | false =>
    cases hkj
  | true =>
  have hks : ks = [] := by
   have h' := zO (show decide _ = true from Hbare.out)
   rcases h'.2.2.2 with h | h
   ·cases h
   exact List.eq_nil_of_length_eq_zero h
  have ht2 : t2.size = 0 := by
   have h' := zO (show decide _ = true from Hbare.out)
   rcases h'.1 with h | h
   ·cases h
   exact size0 h
  have Hchk := zH (show chk d ⟨4, t1, t2, vs, ks⟩ (64 - n) (4096 - b) = decide ((t1.size + sizes vs : Int) ≤ 4096 - b) from by
   have ha : zBs ⟨4, t1, t2, vs, ks⟩ = true := by rw [Hal.out, Hbare.out, Hname.out, hv]; rfl
   rw [hks] at ha ⊢
   rw [zHe (by omega) (by omega), ha, Bool.true_and, decide_eq_decide]
   omega)
  have Hnod := zH (show zAv ⟨4, t1, t2, vs, ks⟩ = 1 from by rw [hks]; simp [zAv, zBd])
  have Hbyt := zH (show zBy ⟨4, t1, t2, vs, ks⟩ = t1.size + sizes vs from by rw [hks]; simp [zBy, zBr, ht2])
  have Hvals := zH hv
  clear hv hks ht2
  go_enter Try.func99, Try.ntmps99
  go_wp2_with fail
  (with_reducible refine (zBw _ ⟨4, t1, t2, vs, ks⟩ A3 c3 A4 c4 false true false true Hbare.out (hM.below hB2)).mono ?_)
  rintro e w3 ⟨rfl, hb3⟩
  have hB3 := zAe hB2 hb3
  have hI3 := hI2.below hb3
  have hK3 := hK2.trans (KeepBut.of_below hb3 g none) (.inl rfl)
  have hX3 := hX2.below hb3
  have u3 := hX3.c1
  have v3 := hX3.c2
  have p3 := hX3.c3
  have o3 := hX3.c0
  have k3 := hX3.c4
  have z3 := zAa hI3.1 2
  have y3 := zAq hI3.1
  go_wp2_with fail
  (with_reducible refine (zFr _ t1 true Hname.out Hbound.out.1).mono ?_)
  rintro e w4 ⟨rfl, hb4⟩
  have hB4 := zAe hB3 hb4
  have hI4 := hI3.below hb4
  have hK4 := hK3.trans (KeepBut.of_below hb4 g none) (.inl rfl)
  have hX4 := hX3.below hb4
  have u4 := hX4.c1
  have v4 := hX4.c2
  have p4 := hX4.c3
  have o4 := hX4.c0
  have k4 := hX4.c4
  have z4 := zAa hI4.1 2
  have y4 := zAq hI4.1
  go_wp2_with fail
  (with_reducible refine (values149m w0 _ ⟨4, t1, t2, vs, ks⟩ A3 c3 A4 c4 true Hvals.out hM hB4).mono ?_)
  rintro e w5 ⟨rfl, hb5⟩
  have hB5 := zAe hB4 hb5
  have hI5 := hI4.below hb5
  have hK5 := hK4.trans (KeepBut.of_below hb5 g none) (.inl rfl)
  have hX5 := hX4.below hb5
  have u5 := hX5.c1
  have v5 := hX5.c2
  have p5 := hX5.c3
  have o5 := hX5.c0
  have k5 := hX5.c4
  have z5 := zAa hI5.1 2
  have y5 := zAq hI5.1
  have hIS := hI5.set_2 false
  have hBS : Below w0.heap.size w0 (w5.setCell ⟨g, 2, none⟩ (.bool false)) := hB5.setCell hg _
  have hKS : KeepBut w (w5.setCell ⟨g, 2, none⟩ (.bool false)) g none := hK5.set_ 2 _
  have hXS := hX5.set (j := 2) hne (.bool false)
  go_wp2_with fail
  (with_reducible refine (zBp w0 _ g (n + 1) b false t1 hb0 hb1 hIS hBS).mono ?_)
  rintro e w8 ⟨rfl, hI8, hB8, hK8⟩
  have hX8 := hXS.keep hK8 hne
  have hle := zDt (bad := false) (t := t1) hb0 hb1
  obtain ⟨r1, er1⟩ : ∃ r, txt b false t1 = r := ⟨_, rfl⟩
  rw [er1] at hI8 hle
  have Er1 := zH er1
  clear er1
  have p8 := hX8.c3
  go_wp2
  go_loopw [6] (fun u6 wr => ∃ (j : Nat) (bj : Int) (kj : Bool), u6 = .int .i64 j ∧ j ≤ vs.length ∧ IsS122 w0 wr g (n + 1) bj kj ∧ BoxM wr w.heap.size 4 t1 t2 (.slice A3 vs.length c3) (.slice A4 ks.length c4) ∧ Below w0.heap.size w0 wr ∧ KeepBut w wr g none ∧ 0 ≤ bj ∧ bj ≤ 4096 ∧ Hid (kj = true → chk d ⟨4, t1, t2, vs, ks⟩ (64 - n) (4096 - b) = false) ∧ Hid (kj = false → bj = b + t1.size + sizes (vs.take j)))
   (fun u6 _ => vs.length - (intOf u6).toNat)
  case atStart =>
   refine ⟨0, r1.1, r1.2, rfl, Nat.zero_le _, hI8, hX8, hB8, hKS.trans hK8 (.inl rfl), hle.1, hle.2, zH ?_, zH ?_⟩
   ·intro hk
    by_cases h1 : (t1.size : Int) ≤ 4096 - b
    ·rw [← Er1.out, zEx h1] at hk; cases hk
    rw [Hchk.out]; exact zF (by omega)
   intro hk
   by_cases h1 : (t1.size : Int) ≤ 4096 - b
   ·rw [← Er1.out, zEx h1]; simp [sizes]
   rw [← Er1.out, zIb h1] at hk; cases hk
  case round =>
   clear p8 hI8 hX8 hB8 hK8 hIS hBS hKS hXS
   obtain ⟨j, bj, kj, rfl, hj, hIr, hXr, hBr, hKr, hbj0, hbj1, hkt, hkf⟩ := hrel
   have pr := hXr.c3
   have yr := zAq hIr.1
   have hlen := hM.2.1.2.1
   cases kj with
   | true =>
    have hc' := hkt.out rfl
    have Hc := zH hc'
    clear hc' hkt hkf
    by_cases hlt : j < vs.length
    ·go_wp2
     first | go_end0 | ((try simp only [Exit.inBlock, Exit.then]); refine bodyPost_ret (results_none rfl _ _ _) rfl ?_)
     exact LookPost.no Hc.out hBr hKr hIr
    go_wp2
    first | go_end0 | ((try simp only [Exit.inBlock, Exit.then]); refine bodyPost_ret (results_none rfl _ _ _) rfl ?_)
    exact LookPost.no Hc.out hBr hKr hIr
   | false =>
   have hbe := hkf.out rfl
   have Hbe := zH hbe
   clear hbe hkt hkf
   by_cases hlt : j < vs.length
   ·obtain ⟨ad, rfl, hcell⟩ := hM.value j hlt
    have hcell := zAf hBr hcell
    have Hsp := zH (zIr vs j hlt)
    have Hmono := zH (zGx vs (j + 1))
    simp only at hcell
    obtain ⟨v, ev⟩ : ∃ v, vs.getD j ByteArray.empty = v := ⟨_, rfl⟩
    rw [ev] at hcell Hsp
    clear ev
    go_wp2_with fail
    (with_reducible refine (zBp w0 _ g (n + 1) bj false v hbj0 hbj1 hIr hBr).mono ?_)
    rintro e w9 ⟨rfl, hI9, hB9, hK9⟩
    have hX9 := hXr.keep hK9 hne
    have hle9 := zDt (bad := false) (t := v) hbj0 hbj1
    go_wp2_with fail
    go_roundw
    case rel =>
     refine ⟨j + 1, _, _, by go_num, by omega, hI9, hX9, hB9, hKr.trans hK9 (.inl rfl), hle9.1, hle9.2, zH ?_, zH ?_⟩
     ·intro hk
      by_cases h1 : (v.size : Int) ≤ 4096 - bj
      ·rw [zEx h1] at hk; cases hk
      rw [Hchk.out]
      have h2 := Hsp.out
      have h3 := Hmono.out
      have h4 := Hbe.out
      exact zF (by omega)
     intro hk
     by_cases h1 : (v.size : Int) ≤ 4096 - bj
     ·rw [zEx h1, Hsp.out, Hbe.out]; simp only; omega
     rw [zIb h1] at hk; cases hk
    case measure => simp [intOf]; omega
   obtain rfl : j = vs.length := by omega
   have hfin : chk d ⟨4, t1, t2, vs, ks⟩ (64 - n) (4096 - b) = true := by
    have h4 := Hbe.out
    rw [List.take_length] at h4
    rw [Hchk.out]; exact zT (by omega)
   have Hfin := zH hfin
   clear hfin
   go_wp2
   first | go_end0 | ((try simp only [Exit.inBlock, Exit.then]); refine bodyPost_ret (results_none rfl _ _ _) rfl ?_)
   exact LookPost.yes Hfin.out hBr hKr hIr (by rw [Hnod.out]; rfl) (by rw [Hbe.out, Hbyt.out, List.take_length]; omega)
 by_cases e5 : op = 5
 ·subst e5
  have Hal := zH (alone_56 5 (by omega) t1 t2 vs ks)
  have Hnod := zH (show zAv ⟨5, t1, t2, vs, ks⟩ = 1 + zBd ks from zAz _)
  cases hv : zEa ⟨5, t1, t2, vs, ks⟩ false false true with
  | false =>
   have hc : chk d ⟨5, t1, t2, vs, ks⟩ (64 - n) (4096 - b) = false := zBu (by rw [Hal.out, hv])
   have Hbare := zH hv
   clear hv
   go_enter Try.func99, Try.ntmps99
   go_wp2_with fail
   (with_reducible refine (zBw _ ⟨5, t1, t2, vs, ks⟩ A3 c3 A4 c4 false false true false Hbare.out (hM.below hB2)).mono ?_)
   rintro e w3 ⟨rfl, hb3⟩
   have hB3 := zAe hB2 hb3
   have hI3 := hI2.below hb3
   have hK3 := hK2.trans (KeepBut.of_below hb3 g none) (.inl rfl)
   have hX3 := hX2.below hb3
   have u3 := hX3.c1
   have v3 := hX3.c2
   have p3 := hX3.c3
   have o3 := hX3.c0
   have k3 := hX3.c4
   have z3 := zAa hI3.1 2
   have y3 := zAq hI3.1
   have hIS := hI3.set_2 true
   have hBS : Below w0.heap.size w0 (w3.setCell ⟨g, 2, none⟩ (.bool true)) := hB3.setCell hg _
   have hKS : KeepBut w (w3.setCell ⟨g, 2, none⟩ (.bool true)) g none := hK3.set_ 2 _
   have hXS := hX3.set (j := 2) hne (.bool true)
   go_wp2
   go_loopw [7] (fun u7 wr => ∃ (j : Nat) (nj bj : Int) (kj : Bool), u7 = .int .i64 j ∧ j ≤ ks.length ∧ IsS122 w0 wr g nj bj kj ∧ BoxM wr w.heap.size 5 t1 t2 (.slice A3 vs.length c3) (.slice A4 ks.length c4) ∧ Below w0.heap.size w0 wr ∧ KeepBut w wr g none ∧ kj = true ∧ Hid (kj = true → chk d ⟨5, t1, t2, vs, ks⟩ (64 - n) (4096 - b) = false) ∧ Hid (kj = false → 0 ≤ nj ∧ nj ≤ 64 ∧ 0 ≤ bj ∧ bj ≤ 4096 ∧ nj = n + 1 + zBd (ks.take j) ∧ bj = b + zBr (ks.take j) ∧ chk d ⟨5, t1, t2, vs, ks⟩ (64 - n) (4096 - b) = chkL (d + 1) (ks.drop j) (64 - nj) (4096 - bj)))
    (fun u7 _ => ks.length - (intOf u7).toNat)
   case atStart => exact ⟨0, n + 1, b, true, rfl, Nat.zero_le _, hIS, hXS, hBS, hKS, rfl, zH (fun _ => hc), zH (fun h => by cases h)⟩
   case round =>
    clear hIS hBS hKS hXS
    obtain ⟨j, nj, bj, kj, rfl, hj, hIr, hXr, hBr, hKr, hkj, hkt, hkf⟩ := hrel
    have pr := hXr.c4
    have yr := zAq hIr.1
    have hlen := hM.2.2.2.2.1
    cases kj with
    | true =>
     have Hc := zH (hkt.out rfl)
     clear hkt hkf
     by_cases hlt : j < ks.length
     ·go_wp2
      first | go_end0 | ((try simp only [Exit.inBlock, Exit.then]); refine bodyPost_ret (results_none rfl _ _ _) rfl ?_)
      exact LookPost.no Hc.out hBr hKr hIr
     go_wp2
     first | go_end0 | ((try simp only [Exit.inBlock, Exit.then]); refine bodyPost_ret (results_none rfl _ _ _) rfl ?_)
     exact LookPost.no Hc.out hBr hKr hIr
    | false =>
    cases hkj
  | true =>
  obtain ⟨s1, s2, s3⟩ := zIw hv
  have Hbyt := zH (show zBy ⟨5, t1, t2, vs, ks⟩ = zBr ks from by rw [zFh]; simp [s1, s2, s3, sizes])
  have Hstart := zH (show chk d ⟨5, t1, t2, vs, ks⟩ (64 - n) (4096 - b) = chkL (d + 1) ks (64 - (n + 1)) (4096 - b) from by
   rw [Bool.eq_iff_iff, zIa]
   simp only [s1, s2, s3, sizes, Int.natCast_zero, Int.add_zero, Int.sub_zero, show (64 - n - 1 : Int) = 64 - (n + 1) by omega]
   constructor
   ·exact fun h => h.2.2.2.2
   ·exact fun h => ⟨by omega, by omega, by rw [s3] at Hal; rw [Hal.out]; rw [← s3, hv], by omega, h⟩)
  have Hbare := zH hv
  clear hv s1 s2 s3
  go_enter Try.func99, Try.ntmps99
  go_wp2_with fail
  (with_reducible refine (zBw _ ⟨5, t1, t2, vs, ks⟩ A3 c3 A4 c4 false false true true Hbare.out (hM.below hB2)).mono ?_)
  rintro e w3 ⟨rfl, hb3⟩
  have hB3 := zAe hB2 hb3
  have hI3 := hI2.below hb3
  have hK3 := hK2.trans (KeepBut.of_below hb3 g none) (.inl rfl)
  have hX3 := hX2.below hb3
  have u3 := hX3.c1
  have v3 := hX3.c2
  have p3 := hX3.c3
  have o3 := hX3.c0
  have k3 := hX3.c4
  have z3 := zAa hI3.1 2
  have y3 := zAq hI3.1
  have hIS := hI3.set_2 false
  have hBS : Below w0.heap.size w0 (w3.setCell ⟨g, 2, none⟩ (.bool false)) := hB3.setCell hg _
  have hKS : KeepBut w (w3.setCell ⟨g, 2, none⟩ (.bool false)) g none := hK3.set_ 2 _
  have hXS := hX3.set (j := 2) hne (.bool false)
  go_wp2
  go_loopw [7] (fun u7 wr => ∃ (j : Nat) (nj bj : Int) (kj : Bool), u7 = .int .i64 j ∧ j ≤ ks.length ∧ IsS122 w0 wr g nj bj kj ∧ BoxM wr w.heap.size 5 t1 t2 (.slice A3 vs.length c3) (.slice A4 ks.length c4) ∧ Below w0.heap.size w0 wr ∧ KeepBut w wr g none ∧ Hid (kj = true → chk d ⟨5, t1, t2, vs, ks⟩ (64 - n) (4096 - b) = false) ∧ Hid (kj = false → 0 ≤ nj ∧ nj ≤ 64 ∧ 0 ≤ bj ∧ bj ≤ 4096 ∧ nj = n + 1 + zBd (ks.take j) ∧ bj = b + zBr (ks.take j) ∧ chk d ⟨5, t1, t2, vs, ks⟩ (64 - n) (4096 - b) = chkL (d + 1) (ks.drop j) (64 - nj) (4096 - bj)))
   (fun u7 _ => ks.length - (intOf u7).toNat)
  case atStart => exact ⟨0, n + 1, b, false, rfl, Nat.zero_le _, hIS, hXS, hBS, hKS, zH (fun h => by cases h), zH (fun _ => ⟨by omega, by omega, hb0, hb1, by simp [zBd], by simp [zBr], by rw [List.drop_zero]; exact Hstart.out⟩)⟩
  case round =>
   clear hIS hBS hKS hXS
   obtain ⟨j, nj, bj, kj, rfl, hj, hIr, hXr, hBr, hKr, hkt, hkf⟩ := hrel
   have pr := hXr.c4
   have yr := zAq hIr.1
   have hlen := hM.2.2.2.2.1
   cases kj with
   | true =>
    have Hc := zH (hkt.out rfl)
    clear hkt hkf
    by_cases hlt : j < ks.length
    ·go_wp2
     first | go_end0 | ((try simp only [Exit.inBlock, Exit.then]); refine bodyPost_ret (results_none rfl _ _ _) rfl ?_)
     exact LookPost.no Hc.out hBr hKr hIr
    go_wp2
    first | go_end0 | ((try simp only [Exit.inBlock, Exit.then]); refine bodyPost_ret (results_none rfl _ _ _) rfl ?_)
    exact LookPost.no Hc.out hBr hKr hIr
   | false =>
   obtain ⟨hn0', hn1', hb0', hb1', hne', hbe', hce⟩ := hkf.out rfl
   have Hne := zH hne'
   have Hbe := zH hbe'
   have Hce := zH hce
   clear hkt hkf hne' hbe' hce
   by_cases hlt : j < ks.length
   ·obtain ⟨ad, B3, e3, B4, e4, rfl, hMk, k0, k1, k2, k3, k4⟩ := hM.kid j hlt
    simp only at k0 k1 k2 k3 k4 hMk
    have k0 := zAf hBr k0
    have k1 := zAf hBr k1
    have k2 := zAf hBr k2
    have k3 := zAf hBr k3
    have k4 := zAf hBr k4
    have hmem : ks.getD j z25 ∈ ks := by simp [List.getD_eq_getElem?_getD, hlt]
    have hsmall := zCf ⟨5, t1, t2, vs, ks⟩ _ hmem
    have Hbk := zH (zHi Hbound.out.2.2.2 hlt)
    have Hdrop := zH (zHg (d + 1) ks j hlt (64 - nj) (4096 - bj))
    have Hn4 := zH (zDw ks j hlt)
    have Hb4 := zH (zEw ks j hlt)
    obtain ⟨kid, ek⟩ : ∃ kid, ks.getD j z25 = kid := ⟨_, rfl⟩
    rw [ek] at hMk k0 k1 k2 k3 k4 hsmall Hdrop Hn4 Hb4 Hbk
    clear ek hmem
    go_wp2_with fail
    (with_reducible refine (IH.out kid (by omega) Hbk.out (d + 1) nj bj B3 e3 B4 e4 g w0 _ (by omega) (by omega) (by omega) (by omega) (by omega) (by omega) hMk hBr hIr).mono ?_)
    rintro e w5 ⟨rfl, hB5, hK5, n5, b5, hI5, hyes⟩
    have hX5 := hXr.keep hK5 hne
    obtain ⟨kc, ekc⟩ : ∃ kc, chk (d + 1) kid (64 - nj) (4096 - bj) = kc := ⟨_, rfl⟩
    rw [ekc] at hI5 hyes
    have Ekc := zH ekc
    have Hyes := zH hyes
    clear ekc hyes k0 k1 k2 k3 k4
    go_wp2_with fail
    go_roundw
    case rel =>
     refine ⟨j + 1, n5, b5, !kc, by go_num, by omega, hI5, hX5, hB5, hKr.trans hK5 (.inl rfl), zH ?_, zH ?_⟩
     ·intro hk
      rw [Hce.out, ← Bool.not_eq_true, Hdrop.out, Ekc.out]
      rintro ⟨h, _⟩
      rw [h] at hk; cases hk
     intro hk
     have hkc : kc = true := by cases kc; cases hk; rfl
     obtain ⟨h1, h2⟩ := Hyes.out hkc
     have hd := chk_def.1 (Ekc.out.trans hkc)
     refine ⟨by omega, by omega, by omega, by omega, by rw [h1, Hne.out, Hn4.out]; omega, by rw [h2, Hbe.out, Hb4.out]; omega, ?_⟩
     rw [Hce.out, Bool.eq_iff_iff, Hdrop.out, h1, h2, show 64 - nj - (zAv kid : Int) = 64 - (nj + zAv kid) by omega, show 4096 - bj - (zBy kid : Int) = 4096 - (bj + zBy kid) by omega]
     exact ⟨fun h => h.2, fun h => ⟨Ekc.out.trans hkc, h⟩⟩
    case measure => simp [intOf]; omega
   obtain rfl : j = ks.length := by omega
   have Hfin := zH (show chk d ⟨5, t1, t2, vs, ks⟩ (64 - n) (4096 - b) = true from by
    rw [Hce.out, List.drop_length, zHf]; omega)
   have hres : LookPost w0 w g d ⟨5, t1, t2, vs, ks⟩ n b (.returned (.tuple #[])) wr := LookPost.yes Hfin.out hBr hKr hIr (by rw [Hne.out, Hnod.out, List.take_length]; omega) (by rw [Hbe.out, Hbyt.out, List.take_length])
   clear Hfin
   go_wp2
   first | go_end0 | ((try simp only [Exit.inBlock, Exit.then]); refine bodyPost_ret (results_none rfl _ _ _) rfl ?_)
   exact hres
 by_cases e6 : op = 6
 ·subst e6
  have Hal := zH (alone_56 6 (by omega) t1 t2 vs ks)
  have Hnod := zH (show zAv ⟨6, t1, t2, vs, ks⟩ = 1 + zBd ks from zAz _)
  cases hv : zEa ⟨6, t1, t2, vs, ks⟩ false false true with
  | false =>
   have hc : chk d ⟨6, t1, t2, vs, ks⟩ (64 - n) (4096 - b) = false := zBu (by rw [Hal.out, hv])
   have Hbare := zH hv
   clear hv
   go_enter Try.func99, Try.ntmps99
   go_wp2_with fail
   (with_reducible refine (zBw _ ⟨6, t1, t2, vs, ks⟩ A3 c3 A4 c4 false false true false Hbare.out (hM.below hB2)).mono ?_)
   rintro e w3 ⟨rfl, hb3⟩
   have hB3 := zAe hB2 hb3
   have hI3 := hI2.below hb3
   have hK3 := hK2.trans (KeepBut.of_below hb3 g none) (.inl rfl)
   have hX3 := hX2.below hb3
   have u3 := hX3.c1
   have v3 := hX3.c2
   have p3 := hX3.c3
   have o3 := hX3.c0
   have k3 := hX3.c4
   have z3 := zAa hI3.1 2
   have y3 := zAq hI3.1
   have hIS := hI3.set_2 true
   have hBS : Below w0.heap.size w0 (w3.setCell ⟨g, 2, none⟩ (.bool true)) := hB3.setCell hg _
   have hKS : KeepBut w (w3.setCell ⟨g, 2, none⟩ (.bool true)) g none := hK3.set_ 2 _
   have hXS := hX3.set (j := 2) hne (.bool true)
   go_wp2
   go_loopw [7] (fun u7 wr => ∃ (j : Nat) (nj bj : Int) (kj : Bool), u7 = .int .i64 j ∧ j ≤ ks.length ∧ IsS122 w0 wr g nj bj kj ∧ BoxM wr w.heap.size 6 t1 t2 (.slice A3 vs.length c3) (.slice A4 ks.length c4) ∧ Below w0.heap.size w0 wr ∧ KeepBut w wr g none ∧ kj = true ∧ Hid (kj = true → chk d ⟨6, t1, t2, vs, ks⟩ (64 - n) (4096 - b) = false) ∧ Hid (kj = false → 0 ≤ nj ∧ nj ≤ 64 ∧ 0 ≤ bj ∧ bj ≤ 4096 ∧ nj = n + 1 + zBd (ks.take j) ∧ bj = b + zBr (ks.take j) ∧ chk d ⟨6, t1, t2, vs, ks⟩ (64 - n) (4096 - b) = chkL (d + 1) (ks.drop j) (64 - nj) (4096 - bj)))
    (fun u7 _ => ks.length - (intOf u7).toNat)
   case atStart => exact ⟨0, n + 1, b, true, rfl, Nat.zero_le _, hIS, hXS, hBS, hKS, rfl, zH (fun _ => hc), zH (fun h => by cases h)⟩
   case round =>
    clear hIS hBS hKS hXS
    obtain ⟨j, nj, bj, kj, rfl, hj, hIr, hXr, hBr, hKr, hkj, hkt, hkf⟩ := hrel
    have pr := hXr.c4
    have yr := zAq hIr.1
    have hlen := hM.2.2.2.2.1
    cases kj with
    | true =>
     have Hc := zH (hkt.out rfl)
     clear hkt hkf
     by_cases hlt : j < ks.length
     ·go_wp2
      first | go_end0 | ((try simp only [Exit.inBlock, Exit.then]); refine bodyPost_ret (results_none rfl _ _ _) rfl ?_)
      exact LookPost.no Hc.out hBr hKr hIr
     go_wp2
     first | go_end0 | ((try simp only [Exit.inBlock, Exit.then]); refine bodyPost_ret (results_none rfl _ _ _) rfl ?_)
     exact LookPost.no Hc.out hBr hKr hIr
    | false =>
    cases hkj
  | true =>
  obtain ⟨s1, s2, s3⟩ := zIw hv
  have Hbyt := zH (show zBy ⟨6, t1, t2, vs, ks⟩ = zBr ks from by rw [zFh]; simp [s1, s2, s3, sizes])
  have Hstart := zH (show chk d ⟨6, t1, t2, vs, ks⟩ (64 - n) (4096 - b) = chkL (d + 1) ks (64 - (n + 1)) (4096 - b) from by
   rw [Bool.eq_iff_iff, zIa]
   simp only [s1, s2, s3, sizes, Int.natCast_zero, Int.add_zero, Int.sub_zero, show (64 - n - 1 : Int) = 64 - (n + 1) by omega]
   constructor
   ·exact fun h => h.2.2.2.2
   ·exact fun h => ⟨by omega, by omega, by rw [s3] at Hal; rw [Hal.out]; rw [← s3, hv], by omega, h⟩)
  have Hbare := zH hv
  clear hv s1 s2 s3
  go_enter Try.func99, Try.ntmps99
  go_wp2_with fail
  (with_reducible refine (zBw _ ⟨6, t1, t2, vs, ks⟩ A3 c3 A4 c4 false false true true Hbare.out (hM.below hB2)).mono ?_)
  rintro e w3 ⟨rfl, hb3⟩
  have hB3 := zAe hB2 hb3
  have hI3 := hI2.below hb3
  have hK3 := hK2.trans (KeepBut.of_below hb3 g none) (.inl rfl)
  have hX3 := hX2.below hb3
  have u3 := hX3.c1
  have v3 := hX3.c2
  have p3 := hX3.c3
  have o3 := hX3.c0
  have k3 := hX3.c4
  have z3 := zAa hI3.1 2
  have y3 := zAq hI3.1
  have hIS := hI3.set_2 false
  have hBS : Below w0.heap.size w0 (w3.setCell ⟨g, 2, none⟩ (.bool false)) := hB3.setCell hg _
  have hKS : KeepBut w (w3.setCell ⟨g, 2, none⟩ (.bool false)) g none := hK3.set_ 2 _
  have hXS := hX3.set (j := 2) hne (.bool false)
  go_wp2
  go_loopw [7] (fun u7 wr => ∃ (j : Nat) (nj bj : Int) (kj : Bool), u7 = .int .i64 j ∧ j ≤ ks.length ∧ IsS122 w0 wr g nj bj kj ∧ BoxM wr w.heap.size 6 t1 t2 (.slice A3 vs.length c3) (.slice A4 ks.length c4) ∧ Below w0.heap.size w0 wr ∧ KeepBut w wr g none ∧ Hid (kj = true → chk d ⟨6, t1, t2, vs, ks⟩ (64 - n) (4096 - b) = false) ∧ Hid (kj = false → 0 ≤ nj ∧ nj ≤ 64 ∧ 0 ≤ bj ∧ bj ≤ 4096 ∧ nj = n + 1 + zBd (ks.take j) ∧ bj = b + zBr (ks.take j) ∧ chk d ⟨6, t1, t2, vs, ks⟩ (64 - n) (4096 - b) = chkL (d + 1) (ks.drop j) (64 - nj) (4096 - bj)))
   (fun u7 _ => ks.length - (intOf u7).toNat)
  case atStart => exact ⟨0, n + 1, b, false, rfl, Nat.zero_le _, hIS, hXS, hBS, hKS, zH (fun h => by cases h), zH (fun _ => ⟨by omega, by omega, hb0, hb1, by simp [zBd], by simp [zBr], by rw [List.drop_zero]; exact Hstart.out⟩)⟩
  case round =>
   clear hIS hBS hKS hXS
   obtain ⟨j, nj, bj, kj, rfl, hj, hIr, hXr, hBr, hKr, hkt, hkf⟩ := hrel
   have pr := hXr.c4
   have yr := zAq hIr.1
   have hlen := hM.2.2.2.2.1
   cases kj with
   | true =>
    have Hc := zH (hkt.out rfl)
    clear hkt hkf
    by_cases hlt : j < ks.length
    ·go_wp2
     first | go_end0 | ((try simp only [Exit.inBlock, Exit.then]); refine bodyPost_ret (results_none rfl _ _ _) rfl ?_)
     exact LookPost.no Hc.out hBr hKr hIr
    go_wp2
    first | go_end0 | ((try simp only [Exit.inBlock, Exit.then]); refine bodyPost_ret (results_none rfl _ _ _) rfl ?_)
    exact LookPost.no Hc.out hBr hKr hIr
   | false =>
   obtain ⟨hn0', hn1', hb0', hb1', hne', hbe', hce⟩ := hkf.out rfl
   have Hne := zH hne'
   have Hbe := zH hbe'
   have Hce := zH hce
   clear hkt hkf hne' hbe' hce
   by_cases hlt : j < ks.length
   ·obtain ⟨ad, B3, e3, B4, e4, rfl, hMk, k0, k1, k2, k3, k4⟩ := hM.kid j hlt
    simp only at k0 k1 k2 k3 k4 hMk
    have k0 := zAf hBr k0
    have k1 := zAf hBr k1
    have k2 := zAf hBr k2
    have k3 := zAf hBr k3
    have k4 := zAf hBr k4
    have hmem : ks.getD j z25 ∈ ks := by simp [List.getD_eq_getElem?_getD, hlt]
    have hsmall := zCf ⟨6, t1, t2, vs, ks⟩ _ hmem
    have Hbk := zH (zHi Hbound.out.2.2.2 hlt)
    have Hdrop := zH (zHg (d + 1) ks j hlt (64 - nj) (4096 - bj))
    have Hn4 := zH (zDw ks j hlt)
    have Hb4 := zH (zEw ks j hlt)
    obtain ⟨kid, ek⟩ : ∃ kid, ks.getD j z25 = kid := ⟨_, rfl⟩
    rw [ek] at hMk k0 k1 k2 k3 k4 hsmall Hdrop Hn4 Hb4 Hbk
    clear ek hmem
    go_wp2_with fail
    (with_reducible refine (IH.out kid (by omega) Hbk.out (d + 1) nj bj B3 e3 B4 e4 g w0 _ (by omega) (by omega) (by omega) (by omega) (by omega) (by omega) hMk hBr hIr).mono ?_)
    rintro e w5 ⟨rfl, hB5, hK5, n5, b5, hI5, hyes⟩
    have hX5 := hXr.keep hK5 hne
    obtain ⟨kc, ekc⟩ : ∃ kc, chk (d + 1) kid (64 - nj) (4096 - bj) = kc := ⟨_, rfl⟩
    rw [ekc] at hI5 hyes
    have Ekc := zH ekc
    have Hyes := zH hyes
    clear ekc hyes k0 k1 k2 k3 k4
    go_wp2_with fail
    go_roundw
    case rel =>
     refine ⟨j + 1, n5, b5, !kc, by go_num, by omega, hI5, hX5, hB5, hKr.trans hK5 (.inl rfl), zH ?_, zH ?_⟩
     ·intro hk
      rw [Hce.out, ← Bool.not_eq_true, Hdrop.out, Ekc.out]
      rintro ⟨h, _⟩
      rw [h] at hk; cases hk
     intro hk
     have hkc : kc = true := by cases kc; cases hk; rfl
     obtain ⟨h1, h2⟩ := Hyes.out hkc
     have hd := chk_def.1 (Ekc.out.trans hkc)
     refine ⟨by omega, by omega, by omega, by omega, by rw [h1, Hne.out, Hn4.out]; omega, by rw [h2, Hbe.out, Hb4.out]; omega, ?_⟩
     rw [Hce.out, Bool.eq_iff_iff, Hdrop.out, h1, h2, show 64 - nj - (zAv kid : Int) = 64 - (nj + zAv kid) by omega, show 4096 - bj - (zBy kid : Int) = 4096 - (bj + zBy kid) by omega]
     exact ⟨fun h => h.2, fun h => ⟨Ekc.out.trans hkc, h⟩⟩
    case measure => simp [intOf]; omega
   obtain rfl : j = ks.length := by omega
   have Hfin := zH (show chk d ⟨6, t1, t2, vs, ks⟩ (64 - n) (4096 - b) = true from by
    rw [Hce.out, List.drop_length, zHf]; omega)
   have hres : LookPost w0 w g d ⟨6, t1, t2, vs, ks⟩ n b (.returned (.tuple #[])) wr := LookPost.yes Hfin.out hBr hKr hIr (by rw [Hne.out, Hnod.out, List.take_length]; omega) (by rw [Hbe.out, Hbyt.out, List.take_length])
   clear Hfin
   go_wp2
   first | go_end0 | ((try simp only [Exit.inBlock, Exit.then]); refine bodyPost_ret (results_none rfl _ _ _) rfl ?_)
   exact hres
 by_cases e7 : op = 7
 ·subst e7
  have Hal := zH (alone_7 t1 t2 vs ks)
  have Hnod := zH (show zAv ⟨7, t1, t2, vs, ks⟩ = 1 + zBd ks from zAz _)
  cases hv : zEa ⟨7, t1, t2, vs, ks⟩ false false true with
  | false =>
   have hc : chk d ⟨7, t1, t2, vs, ks⟩ (64 - n) (4096 - b) = false := zBu (by rw [Hal.out, hv]; rfl)
   have Hbare := zH hv
   clear hv
   go_enter Try.func99, Try.ntmps99
   go_wp2_with fail
   (with_reducible refine (zBw _ ⟨7, t1, t2, vs, ks⟩ A3 c3 A4 c4 false false true false Hbare.out (hM.below hB2)).mono ?_)
   rintro e w3 ⟨rfl, hb3⟩
   have hB3 := zAe hB2 hb3
   have hI3 := hI2.below hb3
   have hK3 := hK2.trans (KeepBut.of_below hb3 g none) (.inl rfl)
   have hX3 := hX2.below hb3
   have u3 := hX3.c1
   have v3 := hX3.c2
   have p3 := hX3.c3
   have o3 := hX3.c0
   have k3 := hX3.c4
   have z3 := zAa hI3.1 2
   have y3 := zAq hI3.1
   have hIS := hI3.set_2 true
   have hBS : Below w0.heap.size w0 (w3.setCell ⟨g, 2, none⟩ (.bool true)) := hB3.setCell hg _
   have hKS : KeepBut w (w3.setCell ⟨g, 2, none⟩ (.bool true)) g none := hK3.set_ 2 _
   have hXS := hX3.set (j := 2) hne (.bool true)
   go_wp2
   go_loopw [7] (fun u7 wr => ∃ (j : Nat) (nj bj : Int) (kj : Bool), u7 = .int .i64 j ∧ j ≤ ks.length ∧ IsS122 w0 wr g nj bj kj ∧ BoxM wr w.heap.size 7 t1 t2 (.slice A3 vs.length c3) (.slice A4 ks.length c4) ∧ Below w0.heap.size w0 wr ∧ KeepBut w wr g none ∧ kj = true ∧ Hid (kj = true → chk d ⟨7, t1, t2, vs, ks⟩ (64 - n) (4096 - b) = false) ∧ Hid (kj = false → 0 ≤ nj ∧ nj ≤ 64 ∧ 0 ≤ bj ∧ bj ≤ 4096 ∧ nj = n + 1 + zBd (ks.take j) ∧ bj = b + zBr (ks.take j) ∧ chk d ⟨7, t1, t2, vs, ks⟩ (64 - n) (4096 - b) = chkL (d + 1) (ks.drop j) (64 - nj) (4096 - bj)))
    (fun u7 _ => ks.length - (intOf u7).toNat)
   case atStart => exact ⟨0, n + 1, b, true, rfl, Nat.zero_le _, hIS, hXS, hBS, hKS, rfl, zH (fun _ => hc), zH (fun h => by cases h)⟩
   case round =>
    clear hIS hBS hKS hXS
    obtain ⟨j, nj, bj, kj, rfl, hj, hIr, hXr, hBr, hKr, hkj, hkt, hkf⟩ := hrel
    have pr := hXr.c4
    have yr := zAq hIr.1
    have hlen := hM.2.2.2.2.1
    cases kj with
    | true =>
     have Hc := zH (hkt.out rfl)
     clear hkt hkf
     by_cases hlt : j < ks.length
     ·go_wp2
      first | go_end0 | ((try simp only [Exit.inBlock, Exit.then]); refine bodyPost_ret (results_none rfl _ _ _) rfl ?_)
      exact LookPost.no Hc.out hBr hKr hIr
     go_wp2
     first | go_end0 | ((try simp only [Exit.inBlock, Exit.then]); refine bodyPost_ret (results_none rfl _ _ _) rfl ?_)
     exact LookPost.no Hc.out hBr hKr hIr
    | false =>
    cases hkj
  | true =>
  obtain ⟨s1, s2, s3⟩ := zIw hv
  have Hbyt := zH (show zBy ⟨7, t1, t2, vs, ks⟩ = zBr ks from by rw [zFh]; simp [s1, s2, s3, sizes])
  by_cases h1 : ks.length = 1
  ·have h1b : decide ((ks.length : Int) = 1) = true := zT (by omega)
   have h1c : ((ks.length : Int) != 1) = false := by rw [bne_eq_false_iff_eq]; omega
   have h1d : ((ks.length : Int) == 1) = true := by rw [beq_iff_eq]; omega
   have H1 := zH h1
   have Hstart := zH (show chk d ⟨7, t1, t2, vs, ks⟩ (64 - n) (4096 - b) = chkL (d + 1) ks (64 - (n + 1)) (4096 - b) from by
    rw [Bool.eq_iff_iff, zIa]
    simp only [s1, s2, s3, sizes, Int.natCast_zero, Int.add_zero, Int.sub_zero, show (64 - n - 1 : Int) = 64 - (n + 1) by omega]
    constructor
    ·exact fun h => h.2.2.2.2
    ·exact fun h => ⟨by omega, by omega, by rw [s3] at Hal; rw [Hal.out]; rw [← s3, hv, zT h1]; rfl, by omega, h⟩)
   have Hbare := zH hv
   clear hv s1 s2 s3 h1
   go_enter Try.func99, Try.ntmps99
   go_wp2_with fail
   (with_reducible refine (zBw _ ⟨7, t1, t2, vs, ks⟩ A3 c3 A4 c4 false false true true Hbare.out (hM.below hB2)).mono ?_)
   rintro e w3 ⟨rfl, hb3⟩
   have hB3 := zAe hB2 hb3
   have hI3 := hI2.below hb3
   have hK3 := hK2.trans (KeepBut.of_below hb3 g none) (.inl rfl)
   have hX3 := hX2.below hb3
   have u3 := hX3.c1
   have v3 := hX3.c2
   have p3 := hX3.c3
   have o3 := hX3.c0
   have k3 := hX3.c4
   have z3 := zAa hI3.1 2
   have y3 := zAq hI3.1
   have hIS := hI3.set_2 false
   have hBS : Below w0.heap.size w0 (w3.setCell ⟨g, 2, none⟩ (.bool false)) := hB3.setCell hg _
   have hKS : KeepBut w (w3.setCell ⟨g, 2, none⟩ (.bool false)) g none := hK3.set_ 2 _
   have hXS := hX3.set (j := 2) hne (.bool false)
   go_wp2
   go_loopw [7] (fun u7 wr => ∃ (j : Nat) (nj bj : Int) (kj : Bool), u7 = .int .i64 j ∧ j ≤ ks.length ∧ IsS122 w0 wr g nj bj kj ∧ BoxM wr w.heap.size 7 t1 t2 (.slice A3 vs.length c3) (.slice A4 ks.length c4) ∧ Below w0.heap.size w0 wr ∧ KeepBut w wr g none ∧ Hid (kj = true → chk d ⟨7, t1, t2, vs, ks⟩ (64 - n) (4096 - b) = false) ∧ Hid (kj = false → 0 ≤ nj ∧ nj ≤ 64 ∧ 0 ≤ bj ∧ bj ≤ 4096 ∧ nj = n + 1 + zBd (ks.take j) ∧ bj = b + zBr (ks.take j) ∧ chk d ⟨7, t1, t2, vs, ks⟩ (64 - n) (4096 - b) = chkL (d + 1) (ks.drop j) (64 - nj) (4096 - bj)))
    (fun u7 _ => ks.length - (intOf u7).toNat)
   case atStart => exact ⟨0, n + 1, b, false, rfl, Nat.zero_le _, hIS, hXS, hBS, hKS, zH (fun h => by cases h), zH (fun _ => ⟨by omega, by omega, hb0, hb1, by simp [zBd], by simp [zBr], by rw [List.drop_zero]; exact Hstart.out⟩)⟩
   case round =>
    clear hIS hBS hKS hXS
    obtain ⟨j, nj, bj, kj, rfl, hj, hIr, hXr, hBr, hKr, hkt, hkf⟩ := hrel
    have pr := hXr.c4
    have yr := zAq hIr.1
    have hlen := hM.2.2.2.2.1
    cases kj with
    | true =>
     have Hc := zH (hkt.out rfl)
     clear hkt hkf
     by_cases hlt : j < ks.length
     ·go_wp2
      first | go_end0 | ((try simp only [Exit.inBlock, Exit.then]); refine bodyPost_ret (results_none rfl _ _ _) rfl ?_)
      exact LookPost.no Hc.out hBr hKr hIr
     go_wp2
     first | go_end0 | ((try simp only [Exit.inBlock, Exit.then]); refine bodyPost_ret (results_none rfl _ _ _) rfl ?_)
     exact LookPost.no Hc.out hBr hKr hIr
    | false =>
    obtain ⟨hn0', hn1', hb0', hb1', hne', hbe', hce⟩ := hkf.out rfl
    have Hne := zH hne'
    have Hbe := zH hbe'
    have Hce := zH hce
    clear hkt hkf hne' hbe' hce
    by_cases hlt : j < ks.length
    ·obtain ⟨ad, B3, e3, B4, e4, rfl, hMk, k0, k1, k2, k3, k4⟩ := hM.kid j hlt
     simp only at k0 k1 k2 k3 k4 hMk
     have k0 := zAf hBr k0
     have k1 := zAf hBr k1
     have k2 := zAf hBr k2
     have k3 := zAf hBr k3
     have k4 := zAf hBr k4
     have hmem : ks.getD j z25 ∈ ks := by simp [List.getD_eq_getElem?_getD, hlt]
     have hsmall := zCf ⟨7, t1, t2, vs, ks⟩ _ hmem
     have Hbk := zH (zHi Hbound.out.2.2.2 hlt)
     have Hdrop := zH (zHg (d + 1) ks j hlt (64 - nj) (4096 - bj))
     have Hn4 := zH (zDw ks j hlt)
     have Hb4 := zH (zEw ks j hlt)
     obtain ⟨kid, ek⟩ : ∃ kid, ks.getD j z25 = kid := ⟨_, rfl⟩
     rw [ek] at hMk k0 k1 k2 k3 k4 hsmall Hdrop Hn4 Hb4 Hbk
     clear ek hmem
     go_wp2_with fail
     (with_reducible refine (IH.out kid (by omega) Hbk.out (d + 1) nj bj B3 e3 B4 e4 g w0 _ (by omega) (by omega) (by omega) (by omega) (by omega) (by omega) hMk hBr hIr).mono ?_)
     rintro e w5 ⟨rfl, hB5, hK5, n5, b5, hI5, hyes⟩
     have hX5 := hXr.keep hK5 hne
     obtain ⟨kc, ekc⟩ : ∃ kc, chk (d + 1) kid (64 - nj) (4096 - bj) = kc := ⟨_, rfl⟩
     rw [ekc] at hI5 hyes
     have Ekc := zH ekc
     have Hyes := zH hyes
     clear ekc hyes k0 k1 k2 k3 k4
     go_wp2_with fail
     go_roundw
     case rel =>
      refine ⟨j + 1, n5, b5, !kc, by go_num, by omega, hI5, hX5, hB5, hKr.trans hK5 (.inl rfl), zH ?_, zH ?_⟩
      ·intro hk
       rw [Hce.out, ← Bool.not_eq_true, Hdrop.out, Ekc.out]
       rintro ⟨h, _⟩
       rw [h] at hk; cases hk
      intro hk
      have hkc : kc = true := by cases kc; cases hk; rfl
      obtain ⟨h1, h2⟩ := Hyes.out hkc
      have hd := chk_def.1 (Ekc.out.trans hkc)
      refine ⟨by omega, by omega, by omega, by omega, by rw [h1, Hne.out, Hn4.out]; omega, by rw [h2, Hbe.out, Hb4.out]; omega, ?_⟩
      rw [Hce.out, Bool.eq_iff_iff, Hdrop.out, h1, h2, show 64 - nj - (zAv kid : Int) = 64 - (nj + zAv kid) by omega, show 4096 - bj - (zBy kid : Int) = 4096 - (bj + zBy kid) by omega]
      exact ⟨fun h => h.2, fun h => ⟨Ekc.out.trans hkc, h⟩⟩
     case measure => simp [intOf]; omega
    obtain rfl : j = ks.length := by omega
    have Hfin := zH (show chk d ⟨7, t1, t2, vs, ks⟩ (64 - n) (4096 - b) = true from by
     rw [Hce.out, List.drop_length, zHf]; omega)
    have hres : LookPost w0 w g d ⟨7, t1, t2, vs, ks⟩ n b (.returned (.tuple #[])) wr := LookPost.yes Hfin.out hBr hKr hIr (by rw [Hne.out, Hnod.out, List.take_length]; omega) (by rw [Hbe.out, Hbyt.out, List.take_length])
    clear Hfin
    go_wp2
    first | go_end0 | ((try simp only [Exit.inBlock, Exit.then]); refine bodyPost_ret (results_none rfl _ _ _) rfl ?_)
    exact hres
  have hc : chk d ⟨7, t1, t2, vs, ks⟩ (64 - n) (4096 - b) = false := zBu (by rw [Hal.out, zF h1, Bool.and_false])
  have h1b : decide ((ks.length : Int) = 1) = false := zF (by omega)
  have h1c : ((ks.length : Int) != 1) = true := by rw [bne_iff_ne]; omega
  have h1d : ((ks.length : Int) == 1) = false := by rw [beq_eq_false_iff_ne]; omega
  have Hbare := zH hv
  clear hv s1 s2 s3 Hbyt
  go_enter Try.func99, Try.ntmps99
  go_wp2_with fail
  (with_reducible refine (zBw _ ⟨7, t1, t2, vs, ks⟩ A3 c3 A4 c4 false false true true Hbare.out (hM.below hB2)).mono ?_)
  rintro e w3 ⟨rfl, hb3⟩
  have hB3 := zAe hB2 hb3
  have hI3 := hI2.below hb3
  have hK3 := hK2.trans (KeepBut.of_below hb3 g none) (.inl rfl)
  have hX3 := hX2.below hb3
  have u3 := hX3.c1
  have v3 := hX3.c2
  have p3 := hX3.c3
  have o3 := hX3.c0
  have k3 := hX3.c4
  have z3 := zAa hI3.1 2
  have y3 := zAq hI3.1
  have hIS := hI3.set_2 true
  have hBS : Below w0.heap.size w0 (w3.setCell ⟨g, 2, none⟩ (.bool true)) := hB3.setCell hg _
  have hKS : KeepBut w (w3.setCell ⟨g, 2, none⟩ (.bool true)) g none := hK3.set_ 2 _
  have hXS := hX3.set (j := 2) hne (.bool true)
  go_wp2
  go_loopw [7] (fun u7 wr => ∃ (j : Nat) (nj bj : Int) (kj : Bool), u7 = .int .i64 j ∧ j ≤ ks.length ∧ IsS122 w0 wr g nj bj kj ∧ BoxM wr w.heap.size 7 t1 t2 (.slice A3 vs.length c3) (.slice A4 ks.length c4) ∧ Below w0.heap.size w0 wr ∧ KeepBut w wr g none ∧ kj = true ∧ Hid (kj = true → chk d ⟨7, t1, t2, vs, ks⟩ (64 - n) (4096 - b) = false) ∧ Hid (kj = false → 0 ≤ nj ∧ nj ≤ 64 ∧ 0 ≤ bj ∧ bj ≤ 4096 ∧ nj = n + 1 + zBd (ks.take j) ∧ bj = b + zBr (ks.take j) ∧ chk d ⟨7, t1, t2, vs, ks⟩ (64 - n) (4096 - b) = chkL (d + 1) (ks.drop j) (64 - nj) (4096 - bj)))
   (fun u7 _ => ks.length - (intOf u7).toNat)
  case atStart => exact ⟨0, n + 1, b, true, rfl, Nat.zero_le _, hIS, hXS, hBS, hKS, rfl, zH (fun _ => hc), zH (fun h => by cases h)⟩
  case round =>
   clear hIS hBS hKS hXS
   obtain ⟨j, nj, bj, kj, rfl, hj, hIr, hXr, hBr, hKr, hkj, hkt, hkf⟩ := hrel
   have pr := hXr.c4
   have yr := zAq hIr.1
   have hlen := hM.2.2.2.2.1
   cases kj with
   | true =>
    have Hc := zH (hkt.out rfl)
    clear hkt hkf
    by_cases hlt : j < ks.length
    ·go_wp2
     first | go_end0 | ((try simp only [Exit.inBlock, Exit.then]); refine bodyPost_ret (results_none rfl _ _ _) rfl ?_)
     exact LookPost.no Hc.out hBr hKr hIr
    go_wp2
    first | go_end0 | ((try simp only [Exit.inBlock, Exit.then]); refine bodyPost_ret (results_none rfl _ _ _) rfl ?_)
    exact LookPost.no Hc.out hBr hKr hIr
   | false =>
   cases hkj
 have hc : chk d ⟨op, t1, t2, vs, ks⟩ (64 - n) (4096 - b) = false := zBu (alone_other ⟨e0, e1, e2, e3, e4, e5, e6, e7⟩ t1 t2 vs ks)
 go_enter Try.func99, Try.ntmps99
 go_wp2
 first | go_end0 | ((try simp only [Exit.inBlock, Exit.then]); refine bodyPost_ret (results_none rfl _ _ _) rfl ?_)
 exact LookPost.no hc (zAc ((hB.setCell hg _).setCell hg _) (.cells #[.int .i64 op, .string t1, .string t2, .slice A3 vs.length c3, .slice A4 ks.length c4] 25)) ((((KeepBut.refl w g none).set_ 0 _).set_ 2 _).trans (KeepBut.of_below (zAc (Below.refl _ _) _) g none) (.inl rfl)) (((hI.set_0 (n + 1)).set_2 true).alloc _)
end
mutual
def wideM : S25 → Prop
 | ⟨_, _, _, vs, ks⟩ => vs.length ≤ 40 ∧ wideL ks
def wideL : List S25 → Prop
 | [] => True
 | k :: ks => wideM k ∧ wideL ks
end
theorem wideM_mk (m : S25) : wideM m ↔ m.f3.length ≤ 40 ∧ wideL m.f4 := by cases m; simp [wideM]
theorem wideL_take : ∀ {ks : List S25} {j : Nat}, j < ks.length → wideL (ks.take j) → wideM (ks.getD j z25) → wideL (ks.take (j + 1))
 | [], j, h, _, _ => by simp at h
 | k :: ks, 0, _, _, h => by simpa [wideL] using h
 | k :: ks, j + 1, hj, h1, h2 => by
  simp only [List.take_succ_cons, wideL] at h1 ⊢
  exact ⟨h1.1, wideL_take (by simpa using hj) h1.2 (by simpa using h2)⟩
theorem zJn : ∀ {ks : List S25} {j : Nat}, j < ks.length → boundL (ks.take j) → boundM (ks.getD j z25) → boundL (ks.take (j + 1))
 | [], j, h, _, _ => by simp at h
 | k :: ks, 0, _, _, h => by simpa [boundL] using h
 | k :: ks, j + 1, hj, h1, h2 => by
  simp only [List.take_succ_cons, boundL] at h1 ⊢
  exact ⟨h1.1, zJn (by simpa using hj) h1.2 (by simpa using h2)⟩
theorem zJg : ∀ {ks : List S25} {j : Nat}, j < ks.length → zCy (ks.take (j + 1)) = max (zCy (ks.take j)) (zEp (ks.getD j z25))
 | [], j, h => by simp at h
 | k :: ks, 0, _ => by simp [zCy]
 | k :: ks, j + 1, hj => by
  have := zJg (ks := ks) (j := j) (by simpa using hj)
  simp only [List.take_succ_cons, zCy, this, List.getD_cons_succ]; omega
def tinyP (d : Int) (m : S25) : Prop := d + zEp m ≤ 12 ∧ boundM m ∧ wideM m ∧ zAv m ≤ 200
def Cnt (W : World) (g : Nat) (n : Int) : Prop := W.heap[g]? = some (.cells #[.int .i64 n] 3 (0, 0))
theorem Cnt.c {W : World} {g : Nat} {n : Int} (h : Cnt W g n) : W.cell? ⟨g, 0, none⟩ = some (.int .i64 n) := (zAb h 0).trans rfl
theorem Cnt.z {W : World} {g : Nat} {n : Int} (h : Cnt W g n) : W.frozen? ⟨g, 0, none⟩ = false := zAa h 0
theorem Cnt.lt {W : World} {g : Nat} {n : Int} (h : Cnt W g n) : g < W.heap.size := (Array.getElem?_eq_some_iff.1 h).1
theorem Cnt.set {W : World} {g : Nat} {n : Int} (h : Cnt W g n) (x : Int) : Cnt (W.setCell ⟨g, 0, none⟩ (.int .i64 x)) g x := by simpa [Cnt] using zAn h 0 (.int .i64 x)
theorem Cnt.below {W X : World} {g : Nat} {n : Int} (h : Cnt W g n) (hb : Below W.heap.size W X) : Cnt X g n := (hb.block g h.lt).trans h
theorem Cnt.alloc {W : World} {g : Nat} {n : Int} (h : Cnt W g n) (o : Obj) : Cnt (W.alloc o) g n := h.below (zAc (Below.refl _ _) o)
def TinyPost (w0 w : World) (g : Nat) (d : Int) (m : S25) (n : Int) (e : Ending) (w' : World) : Prop :=
 ∃ (v : Bool) (n' : Int), e = .returned (.bool v) ∧ Below w0.heap.size w0 w' ∧ KeepBut w w' g none ∧ Cnt w' g n' ∧ (v = true → d + zEp m ≤ 12 ∧ boundM m ∧ wideM m ∧ n' = n + zAv m ∧ n' ≤ 200)
theorem TinyPost.no {w0 w w' : World} {g : Nat} {d : Int} {m : S25} {n n' : Int} (hB : Below w0.heap.size w0 w') (hK : KeepBut w w' g none) (hC : Cnt w' g n') : TinyPost w0 w g d m n (.returned (.bool false)) w' :=
 ⟨false, n', rfl, hB, hK, hC, fun h => by cases h⟩
theorem tiny95 : ∀ (N : Nat) (m : S25), zAv m ≤ N → ∀ (d n : Int) (A3 : Option Addr) (c3 : Nat) (A4 : Option Addr) (c4 : Nat) (g : Nat) (w0 w : World), 0 ≤ d → d ≤ 100 → 0 ≤ n → n ≤ 200 →
  MC w0 m A3 c3 A4 c4 → Below w0.heap.size w0 w → w0.heap.size ≤ g → Cnt w g n →
  Calls Try.prog 95 #[.agg #[.int .i64 m.f0, .string m.f1, .string m.f2, .slice A3 m.f3.length c3, .slice A4 m.f4.length c4], .pointer (some ⟨g, 0, none⟩), .int .i64 d] w (TinyPost w0 w g d m n) := by
 intro N
 induction N with
 | zero => intro m h; rw [zAz] at h; omega
 | succ N ih =>
 rintro ⟨op, t1, t2, vs, ks⟩ hN
 have IH := zH ih
 clear ih
 intro d n A3 c3 A4 c4 g w0 w hd0 hd1 hn0 hn1 hM hB hg hC
 have hgl := hC.lt
 have hne : w.heap.size ≠ g := by omega
 have q0 := hC.c
 have z0 := hC.z
 have r0 := (hC.alloc (.cells #[.int .i64 op, .string t1, .string t2, .slice A3 vs.length c3, .slice A4 ks.length c4] 25)).c
 have s0 := (hC.alloc (.cells #[.int .i64 op, .string t1, .string t2, .slice A3 vs.length c3, .slice A4 ks.length c4] 25)).z
 have hC2 := (hC.set (n + 1)).alloc (.cells #[.int .i64 op, .string t1, .string t2, .slice A3 vs.length c3, .slice A4 ks.length c4] 25)
 have q1 := hC2.c
 have hB2 : Below w0.heap.size w0 ((w.setCell ⟨g, 0, none⟩ (.int .i64 (n + 1))).alloc (.cells #[.int .i64 op, .string t1, .string t2, .slice A3 vs.length c3, .slice A4 ks.length c4] 25)) := zAc (hB.setCell hg _) _
 have hK2 : KeepBut w ((w.setCell ⟨g, 0, none⟩ (.int .i64 (n + 1))).alloc (.cells #[.int .i64 op, .string t1, .string t2, .slice A3 vs.length c3, .slice A4 ks.length c4] 25)) g none := ((KeepBut.refl w g none).set_ 0 _).trans (KeepBut.of_below (zAc (Below.refl _ _) _) g none) (.inl rfl)
 have hX2 : BoxM ((w.setCell ⟨g, 0, none⟩ (.int .i64 (n + 1))).alloc (.cells #[.int .i64 op, .string t1, .string t2, .slice A3 vs.length c3, .slice A4 ks.length c4] 25)) w.heap.size op t1 t2 (.slice A3 vs.length c3) (.slice A4 ks.length c4) := by
  have := zAs (w.setCell ⟨g, 0, none⟩ (.int .i64 (n + 1))) (.cells #[.int .i64 op, .string t1, .string t2, .slice A3 vs.length c3, .slice A4 ks.length c4] 25)
  simpa [BoxM] using this
 have x1 := hX2.c1
 have x2 := hX2.c2
 have x3 := hX2.c3
 have x4 := hX2.c4
 by_cases h200 : 200 < n + 1
 ·go_enter Try.func95, Try.ntmps95
  go_wp2
  go_ret
  exact TinyPost.no hB2 hK2 hC2
 by_cases h11 : 11 < d
 ·go_enter Try.func95, Try.ntmps95
  go_wp2
  go_ret
  exact TinyPost.no hB2 hK2 hC2
 by_cases h300 : 300 < t1.size
 ·go_enter Try.func95, Try.ntmps95
  go_wp2
  go_ret
  exact TinyPost.no hB2 hK2 hC2
 by_cases h5000 : 5000 < t2.size
 ·go_enter Try.func95, Try.ntmps95
  go_wp2
  go_ret
  exact TinyPost.no hB2 hK2 hC2
 by_cases h40 : 40 < vs.length
 ·go_enter Try.func95, Try.ntmps95
  go_wp2
  go_ret
  exact TinyPost.no hB2 hK2 hC2
 go_enter Try.func95, Try.ntmps95
 go_wp2
 clear q0 z0 r0 s0 q1
 obtain ⟨W2, e2⟩ : ∃ W2, (w.setCell ⟨g, 0, none⟩ (.int .i64 (n + 1))).alloc (.cells #[.int .i64 op, .string t1, .string t2, .slice A3 vs.length c3, .slice A4 ks.length c4] 25) = W2 := ⟨_, rfl⟩
 rw [e2] at hC2 hB2 hK2 hX2 x1 x2 x3 x4 ⊢
 clear e2
 go_loopw [7] (fun u7 wr => ∃ j : Nat, u7 = .int .i64 j ∧ j ≤ vs.length ∧ wr = W2 ∧ Hid (∀ i, i < j → (vs.getD i ByteArray.empty).size ≤ 300))
  (fun u7 _ => vs.length - (intOf u7).toNat)
 case atStart => exact ⟨0, rfl, Nat.zero_le _, rfl, zH (fun i h => by omega)⟩
 case round =>
  obtain ⟨j, rfl, hj, rfl, hall⟩ := hrel
  by_cases hlt : j < vs.length
  ·obtain ⟨ad, rfl, hcell⟩ := hM.value j hlt
   have hcell := zAf hB2 hcell
   simp only at hcell
   obtain ⟨v, ev⟩ : ∃ v, vs.getD j ByteArray.empty = v := ⟨_, rfl⟩
   rw [ev] at hcell
   have Ev := zH ev
   clear ev
   by_cases hv : 300 < v.size
   ·go_wp2
    go_ret
    exact TinyPost.no hB2 hK2 hC2
   go_wp2
   go_roundw
   case rel =>
    refine ⟨j + 1, by go_num, by omega, trivial, zH ?_⟩
    intro i hi
    by_cases e : i = j
    ·subst e; rw [Ev.out]; omega
    exact hall.out i (by omega)
   case measure => simp [intOf]; omega
  obtain rfl : j = vs.length := by omega
  have Hvs := zH (show ∀ u ∈ vs, u.size ≤ 140737488351232 from fun u hu => by
   obtain ⟨i, hi, rfl⟩ := List.getElem_of_mem hu
   have := hall.out i hi
   simp [List.getD_eq_getElem?_getD, hi] at this
   omega)
  clear hall
  have hlen := hM.2.2.2.2.1
  go_wp2
  go_loopw [8] (fun u8 wr2 => ∃ (j : Nat) (nj : Int), u8 = .int .i64 j ∧ j ≤ ks.length ∧ Cnt wr2 g nj ∧ 0 ≤ nj ∧ nj ≤ 200 ∧ BoxM wr2 w.heap.size op t1 t2 (.slice A3 vs.length c3) (.slice A4 ks.length c4) ∧ Below w0.heap.size w0 wr2 ∧ KeepBut w wr2 g none ∧ Hid (nj = n + 1 + zBd (ks.take j) ∧ d + 1 + zCy (ks.take j) ≤ 12 ∧ boundL (ks.take j) ∧ wideL (ks.take j)))
   (fun u8 _ => ks.length - (intOf u8).toNat)
  case atStart => exact ⟨0, n + 1, rfl, Nat.zero_le _, hC2, by omega, by omega, hX2, hB2, hK2, zH ⟨by simp [zBd], by simp [zCy]; omega, by simp [boundL], by simp [wideL]⟩⟩
  case round =>
   clear x1 x2 x3 x4 hC2 hB2 hK2 hX2
   obtain ⟨j, nj, rfl, hj, hCr, hnj0, hnj1, hXr, hBr, hKr, hfacts⟩ := hrel
   have y4 := hXr.c4
   by_cases hlt : j < ks.length
   ·obtain ⟨ad, B3, e3, B4, e4, rfl, hMk, k0, k1, k2, k3, k4⟩ := hM.kid j hlt
    simp only at k0 k1 k2 k3 k4 hMk
    have k0 := zAf hBr k0
    have k1 := zAf hBr k1
    have k2 := zAf hBr k2
    have k3 := zAf hBr k3
    have k4 := zAf hBr k4
    have hmem : ks.getD j z25 ∈ ks := by simp [List.getD_eq_getElem?_getD, hlt]
    have hsmall := zCf ⟨op, t1, t2, vs, ks⟩ _ hmem
    have Hn4 := zH (zDw ks j hlt)
    have Hd4 := zH (zJg hlt)
    have Hb4 := zH (fun h1 h2 => zJn hlt h1 h2)
    have Hw4 := zH (fun h1 h2 => wideL_take hlt h1 h2)
    obtain ⟨kid, ek⟩ : ∃ kid, ks.getD j z25 = kid := ⟨_, rfl⟩
    rw [ek] at hMk k0 k1 k2 k3 k4 hsmall Hn4 Hd4 Hb4 Hw4
    clear ek hmem
    go_wp2_with fail
    (with_reducible refine (IH.out kid (by omega) (d + 1) nj B3 e3 B4 e4 g w0 _ (by omega) (by omega) (by omega) (by omega) hMk hBr hg hCr).mono ?_)
    rintro e w5 ⟨v, n5, rfl, hB5, hK5, hC5, hyes⟩
    have hX5 := hXr.keep hK5 hne
    have Hyes := zH hyes
    clear hyes k0 k1 k2 k3 k4
    cases v with
    | false =>
     go_wp2_with fail
     go_ret
     exact TinyPost.no hB5 (hKr.trans hK5 (.inl rfl)) hC5
    | true =>
    obtain ⟨f1, f2, f3, f4, f5⟩ := Hyes.out rfl
    have F1 := zH f1
    have F2 := zH f2
    have F3 := zH f3
    have F4 := zH f4
    clear f1 f2 f3 f4
    go_wp2_with fail
    go_roundw
    case rel =>
     obtain ⟨g1, g2, g3, g4⟩ := hfacts.out
     refine ⟨j + 1, n5, by go_num, by omega, hC5, by have := F4.out; omega, f5, hX5, hB5, hKr.trans hK5 (.inl rfl), zH ⟨?_, ?_, Hb4.out g3 F2.out, Hw4.out g4 F3.out⟩⟩
     ·rw [F4.out, g1, Hn4.out]; omega
     have := F1.out
     rw [Hd4.out]; omega
    case measure => simp [intOf]; omega
   obtain rfl : j = ks.length := by omega
   have hres : TinyPost w0 w g d ⟨op, t1, t2, vs, ks⟩ n (.returned (.bool true)) wr := by
    obtain ⟨g1, g2, g3, g4⟩ := hfacts.out
    rw [List.take_length] at g1 g2 g3 g4
    exact ⟨true, nj, rfl, hBr, hKr, hCr, fun _ => ⟨by rw [zGa]; simp only; omega, (boundM_mk _).2 ⟨by simp only; omega, by simp only; omega, Hvs.out, g3⟩, (wideM_mk _).2 ⟨by simp only; omega, g4⟩, by rw [zAz]; simp only; omega, hnj1⟩⟩
   go_wp2
   go_ret
   exact hres
theorem tiny31 (w : World) (m : S25) (A3 : Option Addr) (c3 : Nat) (A4 : Option Addr) (c4 : Nat) (hM : MC w m A3 c3 A4 c4) :
  Calls Try.prog 31 #[.agg #[.int .i64 m.f0, .string m.f1, .string m.f2, .slice A3 m.f3.length c3, .slice A4 m.f4.length c4]] w fun e w' => ∃ v : Bool, e = .returned (.bool v) ∧ Below w.heap.size w w' ∧ (v = true → tinyP 0 m) := by
 have hB : Below w.heap.size w ((w.alloc (.cells #[.int .i64 m.f0, .string m.f1, .string m.f2, .slice A3 m.f3.length c3, .slice A4 m.f4.length c4] 25)).alloc (.cells #[.int .i64 0] 3)) := zAc (zAc (Below.refl _ _) _) _
 have hC : Cnt ((w.alloc (.cells #[.int .i64 m.f0, .string m.f1, .string m.f2, .slice A3 m.f3.length c3, .slice A4 m.f4.length c4] 25)).alloc (.cells #[.int .i64 0] 3)) (w.heap.size + 1) 0 := by
  have := zAs (w.alloc (.cells #[.int .i64 m.f0, .string m.f1, .string m.f2, .slice A3 m.f3.length c3, .slice A4 m.f4.length c4] 25)) (.cells #[.int .i64 0] 3)
  rwa [World.size_alloc] at this
 have hh := tiny95 (zAv m) m (Nat.le_refl _) 0 0 A3 c3 A4 c4 (w.heap.size + 1) w _ (by decide) (by decide) (by decide) (by decide) hM hB (by omega) hC
 go_enter Try.func31, Try.ntmps31
 go_wp2_with fail
 (with_reducible refine hh.mono ?_)
 rintro e w5 ⟨v, n', rfl, hB5, -, -, hyes⟩
 have Hyes := zH hyes
 clear hyes
 go_wp2_with fail
 go_ret
 exact ⟨v, rfl, hB5, fun h => by
  obtain ⟨h1, h2, h3, h4, h5⟩ := Hyes.out h
  exact ⟨h1, h2, h3, by omega⟩⟩
theorem infoM : (Try.prog.info? 25).map (fun i => (i.zero, i.size, i.bytes)) = some (some (.agg #[.int .i64 0, .string ⟨#[]⟩, .string ⟨#[]⟩, .slice none 0 0, .slice none 0 0]), 5, 88) := by kernel_rfl
theorem infoS : (Try.prog.info? 9).map (fun i => (i.zero, i.size, i.bytes)) = some (some (.string ByteArray.empty), 1, 16) := by kernel_rfl
theorem zBt {W X : World} {base : Nat} {e : TypeId} {size n : Nat} {v : Value} {xs : List Value} (h : W.ownsRow base e size v n xs) (hm : ∀ k, v.ownBlock = some k → X.heap[k]? = W.heap[k]?) : X.ownsRow base e size v n xs := by
 refine ⟨h.1, ?_⟩
 rcases h.2 with hn | ⟨g, cap, cur, e', hb, hg, rest⟩
 ·exact .inl hn
 exact .inr ⟨g, cap, cur, e', hb, (hm g (by rw [e']; rfl)).trans hg, rest⟩
def MF (W : World) (S : Nat → Prop) (m : S25) (A3 : Option Addr) (c3 : Nat) (A4 : Option Addr) (c4 : Nat) : Prop :=
 ∀ X : World, (∀ b, S b → X.heap[b]? = W.heap[b]?) → MC X m A3 c3 A4 c4
theorem MF.now {W : World} {S : Nat → Prop} {m : S25} {A3 : Option Addr} {c3 : Nat} {A4 : Option Addr} {c4 : Nat} (h : MF W S m A3 c3 A4 c4) : MC W m A3 c3 A4 c4 := h W (fun _ _ => rfl)
theorem MF.move {W Y : World} {S T : Nat → Prop} {m : S25} {A3 : Option Addr} {c3 : Nat} {A4 : Option Addr} {c4 : Nat} (h : MF W S m A3 c3 A4 c4) (hS : ∀ b, S b → T b ∧ Y.heap[b]? = W.heap[b]?) : MF Y T m A3 c3 A4 c4 :=
 fun X hX => h X (fun b hb => (hX b (hS b hb).1).trans (hS b hb).2)
def KR (W : World) (S : Nat → Prop) (m : S25) (cs : List Value) : Prop :=
 ∃ A3 c3 A4 c4, cs = [.int .i64 m.f0, .string m.f1, .string m.f2, .slice A3 m.f3.length c3, .slice A4 m.f4.length c4] ∧ MF W S m A3 c3 A4 c4
theorem KR.move {W Y : World} {S T : Nat → Prop} {m : S25} {cs : List Value} (h : KR W S m cs) (hS : ∀ b, S b → T b ∧ Y.heap[b]? = W.heap[b]?) : KR Y T m cs := by
 obtain ⟨A3, c3, A4, c4, e, hm⟩ := h
 exact ⟨A3, c3, A4, c4, e, hm.move hS⟩
def Part (lo : Nat) (W : World) (v : Value) (b : Nat) : Prop := lo ≤ b ∧ b < W.heap.size ∧ v.ownBlock ≠ some b
theorem zJa : ∀ (ks : List S25), ks.length ≤ zBd ks
 | [] => by simp [zBd]
 | k :: ks => by have := zJa ks; have h2 := zAz k; simp only [List.length_cons, zBd]; omega
theorem depth_kid : ∀ {ks : List S25} {j : Nat}, j < ks.length → zEp (ks.getD j z25) ≤ zCy ks
 | k :: ks, 0, _ => by simp only [List.getD_cons_zero, zCy]; omega
 | k :: ks, j + 1, h => by have := depth_kid (ks := ks) (j := j) (by simpa using h); simp only [List.getD_cons_succ, zCy]; omega
theorem wideL_at : ∀ {ks : List S25} {j : Nat}, wideL ks → j < ks.length → wideM (ks.getD j z25)
 | k :: ks, 0, h, _ => h.1
 | k :: ks, j + 1, h, hj => by have := wideL_at (j := j) h.2 (by simpa using hj); simpa using this
def CopyPost (w : World) (m : S25) (e : Ending) (w' : World) : Prop :=
 ∃ A3 c3 A4 c4, e = .returned (.agg #[.int .i64 m.f0, .string m.f1, .string m.f2, .slice A3 m.f3.length c3, .slice A4 m.f4.length c4]) ∧ MF w' (fun b => w.heap.size ≤ b ∧ b < w'.heap.size) m A3 c3 A4 c4 ∧ Below w.heap.size w w'
theorem MF.of_rows {W : World} {lo lo' : Nat} {m : S25} {v3 v4 : Value} {cells : List Value} (h3 : W.ownsRow lo 9 1 v3 m.f3.length (encs Value.string m.f3)) (h4 : W.ownsRow lo 25 5 v4 m.f4.length cells) (hR : Reps (KR W (Part lo W v4)) 5 m.f4 cells) (hlo : lo' ≤ lo) :
  ∃ A3 c3 A4 c4, v3 = .slice A3 m.f3.length c3 ∧ v4 = .slice A4 m.f4.length c4 ∧ MF W (fun b => lo' ≤ b ∧ b < W.heap.size) m A3 c3 A4 c4 := by
 obtain ⟨A3, c3, e3, hc3, -⟩ := zEn (enc := Value.string) (d := ByteArray.empty) h3
 obtain ⟨A4, c4, e4, -⟩ := zFm h4 (hR.imp_ (fun p c (h : KR W (Part lo W v4) p c) => h)) rfl
 have hc4 : m.f4.length ≤ c4 := by
  rcases h4.2 with ⟨hv, h0⟩ | ⟨g, cap, cur, hv, _, _, hcap, _⟩
  ·rw [e4] at hv; omega
  rw [e4] at hv; cases hv; exact hcap
 refine ⟨A3, c3, A4, c4, e3, e4, fun X hX => ?_⟩
 have g3 : X.ownsRow lo 9 1 v3 m.f3.length (encs Value.string m.f3) := zBt h3 (fun k hk => hX k ⟨by have := (h3.lt _ hk).1; omega, (h3.lt _ hk).2⟩)
 have g4 : X.ownsRow lo 25 5 v4 m.f4.length cells := zBt h4 (fun k hk => hX k ⟨by have := (h4.lt _ hk).1; omega, (h4.lt _ hk).2⟩)
 obtain ⟨B3, d3, f3, -, hr3⟩ := zEn (enc := Value.string) (d := ByteArray.empty) g3
 have hK : Reps (k25.K X) 5 m.f4 cells := hR.imp_ (fun p c ⟨B3, d3, B4, d4, ec, hm⟩ => by
  obtain ⟨q1, q2, q3, q4⟩ := hm X (fun b hb => hX b ⟨by have := hb.1; omega, hb.2.1⟩)
  rw [ec]
  exact k25_mk X p q1 q2 q3 q4)
 obtain ⟨B4, d4, f4, hr4⟩ := zFm g4 hK rfl
 rw [e3] at f3; cases f3
 rw [e4] at f4; cases f4
 exact ⟨hc3, Kd.C_of_reads hr3, hc4, hr4⟩
theorem matcher107 : ∀ (N : Nat) (m : S25), zAv m ≤ N → wideM m → zAv m ≤ 200 → ∀ (d : Int) (A3 : Option Addr) (c3 : Nat) (A4 : Option Addr) (c4 : Nat) (w : World), 0 ≤ d → d + zEp m ≤ 12 →
  MC w m A3 c3 A4 c4 →
  Calls Try.prog 107 #[.agg #[.int .i64 m.f0, .string m.f1, .string m.f2, .slice A3 m.f3.length c3, .slice A4 m.f4.length c4], .int .i64 d] w (CopyPost w m) := by
 intro N
 induction N with
 | zero => intro m h; rw [zAz] at h; omega
 | succ N ih =>
 rintro ⟨op, t1, t2, vs, ks⟩ hN hw h200
 have IH := zH ih
 clear ih
 intro d A3 c3 A4 c4 w hd0 hd1 hM
 obtain ⟨hw1, hw2⟩ := (wideM_mk _).1 hw
 simp only at hw1
 have Hw2 := zH hw2
 have Hdep := zH (zGa ⟨op, t1, t2, vs, ks⟩)
 have hks : ks.length ≤ 200 := by have := zJa ks; rw [zAz] at h200; simp only at h200; omega
 have hdd : ks.length = 0 ∨ d + 1 + zCy ks ≤ 12 := by right; rw [Hdep.out] at hd1; simp only at hd1; omega
 have hR3 := Kd.reads_of_C (enc := Value.string) (d := ByteArray.empty) (h1 := fun _ => rfl) hM.2.1
 simp only at hR3
 have hB0 : Below w.heap.size w ((w.alloc (.cells #[.int .i64 op, .string t1, .string t2, .slice A3 vs.length c3, .slice A4 ks.length c4] 25)).alloc (.cells #[.int .i64 0, .string ⟨#[]⟩, .string ⟨#[]⟩, .slice none 0 0, .slice none 0 0] 25)) := zAc (zAc (Below.refl _ _) _) _
 have HR := zH (hR3.below hB0)
 have hX0 : BoxM ((w.alloc (.cells #[.int .i64 op, .string t1, .string t2, .slice A3 vs.length c3, .slice A4 ks.length c4] 25)).alloc (.cells #[.int .i64 0, .string ⟨#[]⟩, .string ⟨#[]⟩, .slice none 0 0, .slice none 0 0] 25)) w.heap.size op t1 t2 (.slice A3 vs.length c3) (.slice A4 ks.length c4) := by
  have h1 := zAs w (.cells #[.int .i64 op, .string t1, .string t2, .slice A3 vs.length c3, .slice A4 ks.length c4] 25)
  exact (Below.heap_alloc _ _ _ (by simp)).trans h1
 have hP0 : ((w.alloc (.cells #[.int .i64 op, .string t1, .string t2, .slice A3 vs.length c3, .slice A4 ks.length c4] 25)).alloc (.cells #[.int .i64 0, .string ⟨#[]⟩, .string ⟨#[]⟩, .slice none 0 0, .slice none 0 0] 25)).heap[w.heap.size + 1]? = some (.cells #[.int .i64 0, .string ⟨#[]⟩, .string ⟨#[]⟩, .slice none 0 0, .slice none 0 0] 25 (0, 0)) := by
  have h1 := zAs (w.alloc (.cells #[.int .i64 op, .string t1, .string t2, .slice A3 vs.length c3, .slice A4 ks.length c4] 25)) (.cells #[.int .i64 0, .string ⟨#[]⟩, .string ⟨#[]⟩, .slice none 0 0, .slice none 0 0] 25)
  rwa [World.size_alloc] at h1
 have hS0 : ((w.alloc (.cells #[.int .i64 op, .string t1, .string t2, .slice A3 vs.length c3, .slice A4 ks.length c4] 25)).alloc (.cells #[.int .i64 0, .string ⟨#[]⟩, .string ⟨#[]⟩, .slice none 0 0, .slice none 0 0] 25)).heap.size = w.heap.size + 2 := by simp
 have HS := zH hS0
 clear hw hw2 hR3 hS0
 go_enter Try.func107, Try.ntmps107
 go_wp2_with (at_builtin; refine zDc (w0 := ((w.alloc (.cells #[.int .i64 op, .string t1, .string t2, .slice A3 vs.length c3, .slice A4 ks.length c4] 25)).alloc (.cells #[.int .i64 0, .string ⟨#[]⟩, .string ⟨#[]⟩, .slice none 0 0, .slice none 0 0] 25))) (W := ((w.alloc (.cells #[.int .i64 op, .string t1, .string t2, .slice A3 vs.length c3, .slice A4 ks.length c4] 25)).alloc (.cells #[.int .i64 0, .string ⟨#[]⟩, .string ⟨#[]⟩, .slice none 0 0, .slice none 0 0] 25))) .string ByteArray.empty (w.heap.size + 2) rfl (.const (.slice none 0 0)) (.tmp 8) 22 9 (.string ByteArray.empty) 16 rfl Try.underlying22 infoS rfl (by decide) (fun _ => rfl) _ [] vs A3 vs.length c3 rfl rfl (own_nil _ _ _ _) HR.out (Below.refl _ _) (Nat.le_of_eq HS.out.symm) ?_ ?_; (simp; omega); intro v1 w1 hown1 hbel1 hg1 hat1; obtain ⟨Av, cv, rfl, hcv, hrv⟩ := zEn (enc := Value.string) (d := ByteArray.empty) hown1; have hX1 := hX0.below (HS.out ▸ hbel1); have hP1 := (hbel1.block (w.heap.size + 1) (by omega)).trans hP0; have j3 := hX1.c3; have z3 := zAa hX1 3)
 simp only [List.nil_append] at hown1 hcv hrv
 have hX2 : BoxM (w1.setCell ⟨w.heap.size, 3, none⟩ (.slice Av vs.length cv)) w.heap.size op t1 t2 (.slice Av vs.length cv) (.slice A4 ks.length c4) := by
  simpa [BoxM] using zAn hX1 3 (.slice Av vs.length cv)
 have hown2 : (w1.setCell ⟨w.heap.size, 3, none⟩ (.slice Av vs.length cv)).ownsRow (w.heap.size + 2) 9 1 (.slice Av vs.length cv) vs.length (encs Value.string vs) :=
  zBt hown1 (fun k hk => Below.heap_setCell _ _ _ k (by have := (hown1.lt _ hk).1; simp; omega))
 have hP2 : (w1.setCell ⟨w.heap.size, 3, none⟩ (.slice Av vs.length cv)).heap[w.heap.size + 1]? = some (.cells #[.int .i64 0, .string ⟨#[]⟩, .string ⟨#[]⟩, .slice none 0 0, .slice none 0 0] 25 (0, 0)) := (Below.heap_setCell _ _ _ _ (by simp)).trans hP1
 have hB2 : Below w.heap.size w (w1.setCell ⟨w.heap.size, 3, none⟩ (.slice Av vs.length cv)) := (hB0.trans (hbel1.mono (by omega))).setCell (Nat.le_refl _) _
 have hS2 : w.heap.size + 2 ≤ (w1.setCell ⟨w.heap.size, 3, none⟩ (.slice Av vs.length cv)).heap.size := by have := hbel1.size; have := HS.out; simp; omega
 obtain ⟨W3, e3⟩ : ∃ W3, w1.setCell ⟨w.heap.size, 3, none⟩ (.slice Av vs.length cv) = W3 := ⟨_, rfl⟩
 rw [e3] at hX2 hown2 hP2 hB2 hS2 ⊢
 clear e3 hX1 hP1 hg1 hat1 hown1 hcv hrv hbel1 j3 z3 hX0 hP0 hB0 HR HS
 go_loopw [5, 6] (fun u5 u6 wr => ∃ (j : Nat) (cells : List Value), u6 = .int .i64 j ∧ j ≤ ks.length ∧ BoxM wr w.heap.size op t1 t2 (.slice Av vs.length cv) (.slice A4 ks.length c4) ∧ wr.heap[w.heap.size + 1]? = some (.cells #[.int .i64 0, .string ⟨#[]⟩, .string ⟨#[]⟩, .slice none 0 0, .slice none 0 0] 25 (0, 0)) ∧ wr.ownsRow (w.heap.size + 2) 9 1 (.slice Av vs.length cv) vs.length (encs Value.string vs) ∧ wr.ownsRow (w.heap.size + 2) 25 5 u5 j cells ∧ Reps (KR wr (Part (w.heap.size + 2) wr u5)) 5 (ks.take j) cells ∧ Below w.heap.size w wr ∧ w.heap.size + 2 ≤ wr.heap.size)
  (fun _ u6 _ => ks.length - (intOf u6).toNat)
 case atStart => exact ⟨0, [], rfl, Nat.zero_le _, hX2, hP2, hown2, World.ownsRow_nil _ _ _ _, by simpa using Reps.none _ _, hB2, hS2⟩
 case round =>
  clear hX2 hP2 hown2 hB2 hS2
  obtain ⟨j, cells, rfl, hj, hXr, hPr, hO3, hO4, hRr, hBr, hSr⟩ := hrel
  have y4 := hXr.c4
  by_cases hlt : j < ks.length
  ·have hd10 : d + 1 + zCy ks ≤ 12 := by rcases hdd with h | h; omega; exact h
   obtain ⟨ad, B3, e3, B4, e4, rfl, hMk, k0, k1, k2, k3, k4⟩ := hM.kid j hlt
   simp only at k0 k1 k2 k3 k4 hMk
   have k0 := zAf hBr k0
   have k1 := zAf hBr k1
   have k2 := zAf hBr k2
   have k3 := zAf hBr k3
   have k4 := zAf hBr k4
   have hmem : ks.getD j z25 ∈ ks := by simp [List.getD_eq_getElem?_getD, hlt]
   have hsmall := zCf ⟨op, t1, t2, vs, ks⟩ _ hmem
   have hdk := depth_kid hlt
   have Hwk := zH (wideL_at Hw2.out hlt)
   have hdl : 1 ≤ zEp (ks.getD j z25) := by rw [zGa]; omega
   have Htake := zH (show ks.take (j + 1) = ks.take j ++ [ks.getD j z25] from by rw [List.take_succ_eq_append_getElem hlt]; simp [List.getD_eq_getElem?_getD, hlt])
   obtain ⟨kid, ek⟩ : ∃ kid, ks.getD j z25 = kid := ⟨_, rfl⟩
   rw [ek] at hMk k0 k1 k2 k3 k4 hsmall hdk Hwk Htake hdl
   clear ek hmem
   obtain ⟨Au, cu, rfl⟩ := zCh hO4
   have hlt2 : ∀ k, (Value.slice Au j cu).ownBlock = some k → w.heap.size + 2 ≤ k ∧ k < wr.heap.size := fun k hk => hO4.lt _ hk
   have Hlt2 := zH hlt2
   clear hlt2
   go_wp2_with (first | (go_at_call 107; (with_reducible refine (IH.out kid (by omega) Hwk.out (by omega) (d + 1) B3 e3 B4 e4 _ (by omega) (by omega) (hMk.below hBr)).mono ?_); rintro e w5 ⟨D3, f3, D4, f4, rfl, hMF, hB5⟩; have HMF := zH hMF; clear hMF) | (at_builtin; refine zBq (w0 := w5) (W := w5) (w.heap.size + 2) rfl (.tmp 22) (.tmp 31) 23 25 (.agg #[.int .i64 0, .string ⟨#[]⟩, .string ⟨#[]⟩, .slice none 0 0, .slice none 0 0]) 5 88 rfl Try.underlying23 infoM rfl (by decide) (by decide) (.slice Au j cu) j cells [.int .i64 kid.f0, .string kid.f1, .string kid.f2, .slice D3 kid.f3.length f3, .slice D4 kid.f4.length f4] rfl rfl rfl (by intro u hu; simp only [List.mem_cons, List.not_mem_nil, or_false] at hu; rcases hu with rfl | rfl | rfl | rfl | rfl <;> rfl) (zCm hO4 hB5) (Below.refl _ _) (by have := hB5.size; omega) (by omega) ?_; intro v2 w2 hown2 hb2 hg2 hat2))
   go_roundw
   case rel =>
    have hs5 := hB5.size
    have hs2 := hg2.size
    have hX5 := hXr.below hB5
    have hl2 := Hlt2.out
    have hne0 : some w.heap.size ≠ (Value.slice Au j cu).ownBlock := fun e => by have := hl2 _ e.symm; omega
    have hne1 : some (w.heap.size + 1) ≠ (Value.slice Au j cu).ownBlock := fun e => by have := hl2 _ e.symm; omega
    have hXf : BoxM w2 w.heap.size op t1 t2 (.slice Av vs.length cv) (.slice (some ad) ks.length c4) := (hg2.block _ hX5.lt hne0).trans hX5
    have hP5 := (hB5.block (w.heap.size + 1) (by omega)).trans hPr
    have hPf := (hg2.block (w.heap.size + 1) (by omega) hne1).trans hP5
    have hO3f := (zCm hO3 hB5).kept hg2 (own_type_ne (zCm hO3 hB5) (zCm hO4 hB5) (by decide))
    have hfar : ∀ b, b < w5.heap.size → (Value.slice Au j cu).ownBlock ≠ some b → v2.ownBlock ≠ some b := fun b hb hne e => by
     rcases hat2 with h | ⟨b', h, hb'⟩
     ·exact hne (h.symm.trans e)
     ·rw [h] at e; cases e; omega
    refine ⟨j + 1, cells ++ [.int .i64 kid.f0, .string kid.f1, .string kid.f2, .slice D3 kid.f3.length f3, .slice D4 kid.f4.length f4], by go_num, by omega, hXf, hPf, hO3f, hown2, ?_, (hBr.trans (hB5.mono (by omega))).grown hg2 (by omega) (fun k hk => by have := hl2 k hk; omega), by omega⟩
    rw [Htake.out]
    refine Reps.snoc (hRr.imp_ (fun p c hk => hk.move (fun b hb => ?_))) ⟨D3, f3, D4, f4, rfl, HMF.out.move (fun b hb => ?_)⟩ rfl
    ·obtain ⟨b1, b2, b3⟩ := hb
     exact ⟨⟨b1, by omega, hfar b (by omega) b3⟩, (hg2.block b (by omega) (fun e => b3 e.symm)).trans (hB5.block b b2)⟩
    obtain ⟨b1, b2⟩ := hb
    have b3 : (Value.slice Au j cu).ownBlock ≠ some b := fun e => by have := hl2 b e; omega
    exact ⟨⟨by omega, by omega, hfar b b2 b3⟩, hg2.block b b2 (fun e => b3 e.symm)⟩
   case measure => simp [intOf]; omega
  obtain rfl : j = ks.length := by omega
  rw [List.take_length] at hRr
  obtain ⟨F3, g3, F4, g4, ev3, ev4, hMF⟩ := MF.of_rows (m := ⟨op, t1, t2, vs, ks⟩) (lo' := w.heap.size + 2) hO3 hO4 hRr (Nat.le_refl _)
  simp only at ev3 ev4
  cases ev3
  subst ev4
  have HMF := zH hMF
  clear hMF hRr hO3 hO4
  have z4 := zAa hXr 4
  have hX4 : BoxM (wr.setCell ⟨w.heap.size, 4, none⟩ (.slice F4 ks.length g4)) w.heap.size op t1 t2 (.slice Av vs.length cv) (.slice F4 ks.length g4) := by
   simpa [BoxM] using zAn hXr 4 (.slice F4 ks.length g4)
  have c0 := hX4.c0
  have c1 := hX4.c1
  have c2 := hX4.c2
  have c3' := hX4.c3
  have c4' := hX4.c4
  have hP4 : (wr.setCell ⟨w.heap.size, 4, none⟩ (.slice F4 ks.length g4)).heap[w.heap.size + 1]? = some (.cells #[.int .i64 0, .string ⟨#[]⟩, .string ⟨#[]⟩, .slice none 0 0, .slice none 0 0] 25 (0, 0)) := (Below.heap_setCell _ _ _ _ (by simp)).trans hPr
  have d0 := zAb hP4 0
  have d1 := zAb hP4 1
  have d2 := zAb hP4 2
  have d3 := zAb hP4 3
  have d4 := zAb hP4 4
  simp only [zC, zA, zB] at d0 d1 d2 d3 d4
  have q0 := zAa hP4 0
  have q1 := zAa hP4 1
  have q2 := zAa hP4 2
  have q3 := zAa hP4 3
  have q4 := zAa hP4 4
  go_wp2
  have f4 := zAn (zAn (zAn (zAn (zAn hP4 0 (.int .i64 op)) 1 (.string t1)) 2 (.string t2)) 3 (.slice Av vs.length cv)) 4 (.slice F4 ks.length g4)
  simp at f4
  have hBf : Below w.heap.size w ((((((wr.setCell ⟨w.heap.size, 4, none⟩ (.slice F4 ks.length g4)).setCell ⟨w.heap.size + 1, 0, none⟩ (.int .i64 op)).setCell ⟨w.heap.size + 1, 1, none⟩ (.string t1)).setCell ⟨w.heap.size + 1, 2, none⟩ (.string t2)).setCell ⟨w.heap.size + 1, 3, none⟩ (.slice Av vs.length cv)).setCell ⟨w.heap.size + 1, 4, none⟩ (.slice F4 ks.length g4)) :=
   (((((hBr.setCell (by simp) _).setCell (by simp) _).setCell (by simp) _).setCell (by simp) _).setCell (by simp) _).setCell (by simp) _
  refine bodyPost_ret (zAt rfl (.cell (w.heap.size + 1) 25 _ (0, 0) _ rfl f4 Try.underlying25 rfl (by kernel_rfl) .nil)) rfl ⟨Av, cv, F4, g4, rfl, HMF.out.move (fun b hb => ⟨⟨by omega, by simpa using hb.2⟩, ?_⟩), hBf⟩
  have hb1 : b ≠ w.heap.size := by omega
  have hb2 : b ≠ w.heap.size + 1 := by omega
  rw [Below.heap_setCell _ _ _ b (by simpa using hb2), Below.heap_setCell _ _ _ b (by simpa using hb2), Below.heap_setCell _ _ _ b (by simpa using hb2), Below.heap_setCell _ _ _ b (by simpa using hb2), Below.heap_setCell _ _ _ b (by simpa using hb2), Below.heap_setCell _ _ _ b (by simpa using hb1)]
theorem check36 (w : World) (m : S25) (A3 : Option Addr) (c3 : Nat) (A4 : Option Addr) (c4 : Nat) (hb : boundM m) (hM : MC w m A3 c3 A4 c4) :
  Calls Try.prog 36 #[.agg #[.int .i64 m.f0, .string m.f1, .string m.f2, .slice A3 m.f3.length c3, .slice A4 m.f4.length c4]] w fun e w' => e = .returned (.bool (chkB m)) ∧ Below w.heap.size w w' := by
 have hB : Below w.heap.size w ((w.alloc (.cells #[.int .i64 m.f0, .string m.f1, .string m.f2, .slice A3 m.f3.length c3, .slice A4 m.f4.length c4] 25)).alloc (.cells #[.int .i64 0, .int .i64 0, .bool false] 122)) := zAc (zAc (Below.refl _ _) _) _
 have hI : IsS122 w ((w.alloc (.cells #[.int .i64 m.f0, .string m.f1, .string m.f2, .slice A3 m.f3.length c3, .slice A4 m.f4.length c4] 25)).alloc (.cells #[.int .i64 0, .int .i64 0, .bool false] 122)) (w.heap.size + 1) 0 0 false := by
  have := IsS122.new w (w.alloc (.cells #[.int .i64 m.f0, .string m.f1, .string m.f2, .slice A3 m.f3.length c3, .slice A4 m.f4.length c4] 25)) 0 0 false (zAc (Below.refl _ _) _)
  rwa [World.size_alloc] at this
 have hh := look99 (zAv m) m (Nat.le_refl _) hb 1 0 0 A3 c3 A4 c4 (w.heap.size + 1) w _ (by decide) (by decide) (by decide) (by decide) (by decide) (by decide) hM hB hI
 go_enter Try.func36, Try.ntmps36
 go_wp2_with fail
 (with_reducible refine hh.mono ?_)
 rintro e w5 ⟨rfl, hB5, -, n', b', hI5, -⟩
 have hy := zAq hI5.1
 have hq : (!(!chk 1 m (64 - 0) (4096 - 0))) = chkB m := by rw [Bool.not_not]; rfl
 have Hq := zH hq
 clear hq
 obtain ⟨v, ev⟩ : ∃ v, (!chk 1 m (64 - 0) (4096 - 0)) = v := ⟨_, rfl⟩
 rw [ev] at hy Hq
 clear ev hI5
 go_wp2_with fail
 go_ret
 exact ⟨by rw [← Hq.out]; rfl, hB5⟩
end Go.Proofs.Yteafilojjdfllaa
end
section
namespace Go.Proofs.Yteafilojjdfllaa.PAll
open Go.RowKit Go.Proofs.YteafilojjdfllaaW.PrintWords Go.Proofs.YteafilojjdfllaaW.PrintLast Go.Proofs.YteafilojjdfllaaW.PrintMore
section
attribute [local go_sem] zCx zCv zDm zDl zCj zCi zCw zCu   -- for this text's walks alone
set_option linter.unusedVariables false
set_option linter.unusedSimpArgs false
-- NOT PRINTED: function 106 (match_room_holds)
-- NOT PRINTED: function 53 (match_Check)
def label_Value.l0 : Nat → ByteArray → List (S68) → Int → Int → Option (ByteArray)
 | 0, _, _, _, _ => none
 | k + 1, x1, x7, x8, x9 => if x9 < x8 then (if 0 ≤ x9 then (if x9 < (x7.length : Int) then (if ((zFb x7 x9).f0).toList = x1.toList then (some ((zFb x7 x9).f1)) else (label_Value.l0 k x1 x7 x8 (wrap64 (x9 + 1)))) else (none)) else (none)) else (some (⟨#[]⟩ : ByteArray))
def label_Value.f (k : Nat) (l0 : List (S68)) (a1 : ByteArray) : Option (ByteArray) := label_Value.l0 k a1 l0 (l0.length : Int) 0
theorem label_Value.mono_l : ∀ k, (∀ y0 y1 y2 y3, LeO (label_Value.l0 k y0 y1 y2 y3) (label_Value.l0 (k + 1) y0 y1 y2 y3))
 | 0 => fun _ _ _ _ r h => by simp [label_Value.l0] at h
 | k + 1 => by
  have ih0 := label_Value.mono_l k
  ·intro y0 y1 y2 y3
   unfold label_Value.l0
   repeat' first
   | (with_reducible exact ih0 _ _ _ _)
   | (with_reducible exact LeO.refl _)
   | (with_reducible exact LeO.none _)
   | (with_reducible refine LeO.ite ?_ ?_)
   | (with_reducible refine LeO.bind ?_ (fun _ => ?_))
   | exact ih0 _ _ _ _
   | exact LeO.none _
   | refine LeO.ite ?_ ?_
   | refine LeO.bind ?_ (fun _ => ?_)
theorem label_Value.mono : ∀ a0 a1 k, LeO (label_Value.f k a0 a1) (label_Value.f (k + 1) a0 a1) := by
 intro a0 a1 k
 have ih0 := label_Value.mono_l k
 unfold label_Value.f
 repeat' first
   | (with_reducible exact ih0 _ _ _ _)
   | (with_reducible exact LeO.refl _)
   | (with_reducible exact LeO.none _)
   | (with_reducible refine LeO.ite ?_ ?_)
   | (with_reducible refine LeO.bind ?_ (fun _ => ?_))
   | exact ih0 _ _ _ _
   | exact LeO.none _
   | refine LeO.ite ?_ ?_
   | refine LeO.bind ?_ (fun _ => ?_)
theorem label_Value.calls (k : Nat) (A0 : Option Addr) (c0 : Nat) (l0 : List (S68)) (a1 : ByteArray) (r : ByteArray) (w : World) (hr0 : Kd.C k68 w A0 l0.length l0) (hc0 : l0.length ≤ c0) (h : label_Value.f k l0 a1 = some r) :
  Calls Try.prog 65 #[.slice A0 l0.length c0, .string a1] w fun e w' => e = .returned (.string r) ∧ Below w.heap.size w w' := by
 have hu68 := Try.underlying68
 have HR0 := Aside0.mk hr0
 have HC0 := Aside0.mk hc0
 clear hr0 hc0
 have HB := Aside0.mk (Below.refl w.heap.size w)
 have H : (label_Value.l0 k a1 l0 (l0.length : Int) 0) = some r := h
 clear h
 have H' := Aside0.mk H
 clear H
 go_enter Try.func65, Try.ntmps65
 go_wp2
 go_loopg [9] k (fun kq v9 w' => ∃ (x9_1 : Int), v9 = .int .i64 x9_1 ∧ Aside0 (label_Value.l0 kq a1 l0 (l0.length : Int) x9_1 = some r) ∧ Aside0 (kq ≤ k) ∧ Aside0 (Below w.heap.size w w'))
 case atStart => exact ⟨(0), (by first | rfl | (simp; done) | (simp [*]; done)), H', ⟨Nat.le_refl _⟩, ⟨by repeat (first | (with_reducible first | exact HB.out | apply zAc | apply zAd | apply zAg) | exact HB.out)⟩⟩
 case round =>
  clear H'
  try clear p2
  obtain ⟨x9_1, rfl, HA, HK1, HB⟩ := hrel
  cases gk with
  | zero => exact absurd HA.out (by simp [label_Value.l0])
  | succ k1 =>
  have H := HA.out
  clear HA
  simp only [label_Value.l0] at H
  by_cases c3 : x9_1 < (l0.length : Int)
  ·rw [if_pos c3] at H
   have c3b0 : decide (x9_1 < (l0.length : Int)) = true := zT c3
   clear c3
   by_cases c4 : 0 ≤ x9_1
   ·rw [if_pos c4] at H
    have c4b0 : decide (0 ≤ x9_1) = true := zT c4
    clear c4
    by_cases c5 : x9_1 < (l0.length : Int)
    ·rw [if_pos c5] at H
     have c5b0 : decide (x9_1 < (l0.length : Int)) = true := zT c5
     clear c5
     by_cases c6 : ((zFb l0 x9_1).f0).toList = a1.toList
     ·rw [if_pos c6] at H
      have c6b0 : (((zFb l0 x9_1).f0).toList == a1.toList) = true := beq_iff_eq.mpr c6
      have c6b1 : (((zFb l0 x9_1).f0).toList != a1.toList) = false := bne_eq_false_iff_eq.mpr c6
      clear c6
      obtain rfl := Option.some.inj H
      have p119 : 0 ≤ (x9_1 : Int) := zO (by first | (with_reducible assumption) | assumption)
      have q119 : x9_1 < (l0.length : Int) := zO (by first | (with_reducible assumption) | assumption)
      obtain ⟨ad119, e119, hx119_0, hx119_1⟩ := at_T68 HR0.out x9_1 p119 q119
      cases e119
      replace hx119_0 := (HB.out.cell (World.block_lt_of_cell? w _ hx119_0)).trans hx119_0
      replace hx119_1 := (HB.out.cell (World.block_lt_of_cell? w _ hx119_1)).trans hx119_1
      replace p119 := eq_true p119
      replace q119 := eq_true q119
      go_wp2_with (first | ((with_reducible refine zBe (N := 6) rfl ?_); refine zBb ?hg (N := 6) ?hd (cs := #[.string (⟨#[]⟩ : ByteArray), .string (⟨#[]⟩ : ByteArray)]) (t := 68) ?hr ?_; (case hd => rfl); (case hg => rfl); (case hr => first | (go_simp; done) | (go_simp; rfl)); intro gb120 hg w7 hbox hb; have n0_ := Aside0.mk (zAe (by repeat (first | (with_reducible first | exact HB.out | apply zAc | apply zAd | apply zAg) | exact HB.out)) hb); have n1_ := Aside0.mk (hbox); have n2_ := Aside0.mk ((by rw [hg]; exact (zAi (by repeat (first | (with_reducible first | exact HB.out | apply zAc | apply zAd | apply zAg) | exact HB.out))) : w.heap.size ≤ gb120)); have n3_ := Aside0.mk ((by rw [hg]; exact (zAi (by repeat (first | (with_reducible first | exact HB.out | apply zAc | apply zAd | apply zAg) | exact HB.out))) : w.heap.size ≤ gb120)); clear HB; have HB := n0_; have BK120 := n1_; have GW120 := n2_; have GE120 := n3_; clear n0_ n1_ n2_ n3_; clear hb hbox hg; have hcz8_0 : w7.cell? ⟨gb120, 0, none⟩ = some (.string (⟨#[]⟩ : ByteArray)) := (zAb BK120.out 0).trans rfl; have hcz8_1 : w7.cell? ⟨gb120, 1, none⟩ = some (.string (⟨#[]⟩ : ByteArray)) := (zAb BK120.out 1).trans rfl; have hfz8_0 := zAa BK120.out 0; have hfz8_1 := zAa BK120.out 1))
      go_ret
      exact ⟨by first | rfl | (simp [zAl, zAk] <;> rfl) | (simp [*, zAl, zAk] <;> rfl), by repeat (first | (with_reducible first | exact HB.out | apply zAc | apply zAd | apply zAg | refine zAh ?_ GE120.out) | exact HB.out)⟩
     rw [if_neg c6] at H
     have c6b0 : (((zFb l0 x9_1).f0).toList == a1.toList) = false := beq_eq_false_iff_ne.mpr c6
     have c6b1 : (((zFb l0 x9_1).f0).toList != a1.toList) = true := bne_iff_ne.mpr c6
     have H' := Aside0.mk H
     clear H
     have p119 : 0 ≤ (x9_1 : Int) := zO (by first | (with_reducible assumption) | assumption)
     have q119 : x9_1 < (l0.length : Int) := zO (by first | (with_reducible assumption) | assumption)
     obtain ⟨ad119, e119, hx119_0, hx119_1⟩ := at_T68 HR0.out x9_1 p119 q119
     cases e119
     replace hx119_0 := (HB.out.cell (World.block_lt_of_cell? w _ hx119_0)).trans hx119_0
     replace hx119_1 := (HB.out.cell (World.block_lt_of_cell? w _ hx119_1)).trans hx119_1
     replace p119 := eq_true p119
     replace q119 := eq_true q119
     go_wp2_with (first | ((with_reducible refine zBe (N := 6) rfl ?_); refine zBb ?hg (N := 6) ?hd (cs := #[.string (⟨#[]⟩ : ByteArray), .string (⟨#[]⟩ : ByteArray)]) (t := 68) ?hr ?_; (case hd => rfl); (case hg => rfl); (case hr => first | (go_simp; done) | (go_simp; rfl)); intro gb120 hg w9 hbox hb; have n0_ := Aside0.mk (zAe (by repeat (first | (with_reducible first | exact HB.out | apply zAc | apply zAd | apply zAg) | exact HB.out)) hb); have n1_ := Aside0.mk (hbox); have n2_ := Aside0.mk ((by rw [hg]; exact (zAi (by repeat (first | (with_reducible first | exact HB.out | apply zAc | apply zAd | apply zAg) | exact HB.out))) : w.heap.size ≤ gb120)); have n3_ := Aside0.mk ((by rw [hg]; exact (zAi (by repeat (first | (with_reducible first | exact HB.out | apply zAc | apply zAd | apply zAg) | exact HB.out))) : w.heap.size ≤ gb120)); clear HB; have HB := n0_; have BK120 := n1_; have GW120 := n2_; have GE120 := n3_; clear n0_ n1_ n2_ n3_; clear hb hbox hg; have hcz10_0 : w9.cell? ⟨gb120, 0, none⟩ = some (.string (⟨#[]⟩ : ByteArray)) := (zAb BK120.out 0).trans rfl; have hcz10_1 : w9.cell? ⟨gb120, 1, none⟩ = some (.string (⟨#[]⟩ : ByteArray)) := (zAb BK120.out 1).trans rfl; have hfz10_0 := zAa BK120.out 0; have hfz10_1 := zAa BK120.out 1))
     go_roundg k1
     case measure => have := HK1.out; omega
     case rel => exact ⟨(wrap64 (x9_1 + 1)), (by first | rfl | (simp; done) | (simp [*]; done)), H', ⟨by have := HK1.out; omega⟩, ⟨by repeat (first | (with_reducible first | exact HB.out | apply zAc | apply zAd | apply zAg | refine zAh ?_ GE120.out) | exact HB.out)⟩⟩
    rw [if_neg c5] at H
    exact absurd H (by simp)
   rw [if_neg c4] at H
   exact absurd H (by simp)
  rw [if_neg c3] at H
  have c3b0 : decide (x9_1 < (l0.length : Int)) = false := zF c3
  clear c3
  obtain rfl := Option.some.inj H
  go_wp2
  go_ret
  exact ⟨by first | rfl | (simp [zAl, zAk] <;> rfl) | (simp [*, zAl, zAk] <;> rfl), by repeat (first | (with_reducible first | exact HB.out | apply zAc | apply zAd | apply zAg) | exact HB.out)⟩
def stringslite_HasPrefix.f (a0 : ByteArray) (a1 : ByteArray) : Option (Bool) := if (a0.size : Int) ≥ (a1.size : Int) then (if 0 ≤ (a1.size : Int) then (if (a1.size : Int) ≤ (a0.size : Int) then (some ((a0.extract 0 ((a1.size : Int) : Int).toNat).toList == a1.toList)) else (none)) else (none)) else (some false)
theorem stringslite_HasPrefix.calls (a0 : ByteArray) (a1 : ByteArray) (r : Bool) (w : World) (h : stringslite_HasPrefix.f a0 a1 = some r) :
  Calls Try.prog 179 #[.string a0, .string a1] w fun e w' => e = .returned (.bool r) ∧ Drawn0 w w' := by
 have H : (if (a0.size : Int) ≥ (a1.size : Int) then (if 0 ≤ (a1.size : Int) then (if (a1.size : Int) ≤ (a0.size : Int) then (some ((a0.extract 0 ((a1.size : Int) : Int).toNat).toList == a1.toList)) else (none)) else (none)) else (some false)) = some r := h
 clear h
 by_cases c3 : (a0.size : Int) ≥ (a1.size : Int)
 ·rw [if_pos c3] at H
  have c3b0 : decide ((a1.size : Int) ≤ (a0.size : Int)) = true := zT c3
  have c3b1 : decide (a1.size ≤ a0.size) = true := zT (Int.ofNat_le.mp c3)
  clear c3
  by_cases c4 : 0 ≤ (a1.size : Int)
  ·rw [if_pos c4] at H
   have c4b0 := eq_true c4
   have c4b1 : decide (0 ≤ (a1.size : Int)) = true := zT c4
   clear c4
   by_cases c5 : (a1.size : Int) ≤ (a0.size : Int)
   ·rw [if_pos c5] at H
    have c5b0 := eq_true c5
    have c5b1 : decide ((a1.size : Int) ≤ (a0.size : Int)) = true := zT c5
    clear c5
    obtain rfl := Option.some.inj H
    go_enter Try.func179, Try.ntmps179
    go_wp2
    go_ret
    exact ⟨by first | rfl | (simp; done) | (simp [*]; done), by repeat (first | exact Drawn0.refl _ | apply Drawn0.step)⟩
   rw [if_neg c5] at H
   exact absurd H (by simp)
  rw [if_neg c4] at H
  exact absurd H (by simp)
 rw [if_neg c3] at H
 have c3b0 : decide ((a1.size : Int) ≤ (a0.size : Int)) = false := zF c3
 have c3b1 : decide (a1.size ≤ a0.size) = false := zF (fun h => c3 (Int.ofNat_le.mpr h))
 clear c3
 obtain rfl := Option.some.inj H
 go_enter Try.func179, Try.ntmps179
 go_wp2
 go_ret
 exact ⟨by first | rfl | (simp; done) | (simp [*]; done), by repeat (first | exact Drawn0.refl _ | apply Drawn0.step)⟩
def strings_HasPrefix.f (a0 : ByteArray) (a1 : ByteArray) : Option (Bool) := (stringslite_HasPrefix.f a0 a1).bind fun t121 => (some t121)
theorem strings_HasPrefix.calls (a0 : ByteArray) (a1 : ByteArray) (r : Bool) (w : World) (h : strings_HasPrefix.f a0 a1 = some r) :
  Calls Try.prog 158 #[.string a0, .string a1] w fun e w' => e = .returned (.bool r) ∧ Drawn0 w w' := by
 have H : ((stringslite_HasPrefix.f a0 a1).bind fun t121 => (some t121)) = some r := h
 clear h
 replace H := Option.bind_eq_some_iff.mp H
 obtain ⟨t121, A30, H⟩ := H
 replace H : (some t121) = some r := H
 have A3 := Aside0.mk A30
 clear A30
 obtain rfl := Option.some.inj H
 go_enter Try.func158, Try.ntmps158
 go_wp2_with (first | ((with_reducible refine zBj (f := 179) rfl ?_); refine zDx (some 7) rfl rfl Try.func179 (by kernel_rfl) rfl #[.string a0, .string a1] rfl (by (try simp only [List.map_toArray, List.map_cons, List.map_nil]); first | done | rfl | (simp only [List.length_drop, List.length_take]; rfl)) ?_; (with_reducible refine (stringslite_HasPrefix.calls a0 a1 t121 _ A3.out).mono ?_); rintro e w' ⟨rfl, ⟨nd, rfl⟩⟩; refine ⟨_, rfl, ?_⟩))
 go_ret
 exact ⟨by first | rfl | (simp; done) | (simp [*]; done), by repeat (first | exact Drawn0.refl _ | apply Drawn0.step)⟩
end
section
attribute [local go_sem] zCx zCv zDm zDl zCj zCi zCw zCu   -- for this text's walks alone
set_option linter.unusedVariables false
set_option linter.unusedSimpArgs false
mutual
def match_eval.l0 : Nat → ByteArray → List ByteArray → Int → Int → Option (Bool)
 | 0, _, _, _, _ => none
 | k + 1, x5, x40, x41, x42 => if x42 < x41 then (if 0 ≤ x42 then (if x42 < (x40.length : Int) then (if (rdOf ByteArray.empty x40 x42).toList = x5.toList then (some true) else (match_eval.l0 k x5 x40 x41 (wrap64 (x42 + 1)))) else (none)) else (none)) else (some false)
def match_eval.l1 : Nat → List (S68) → Bool → List (S25) → Int → Int → Option (Bool)
 | 0, _, _, _, _, _ => none
 | k + 1, x1, x8, x63, x64, x65 => if x65 < x64 then (if 0 ≤ x65 then (if x65 < (x63.length : Int) then ((match_eval.f k ((zAu x63 x65).f0) ((zAu x63 x65).f1) ((zAu x63 x65).f2) ((zAu x63 x65).f3) ((zAu x63 x65).f4) x1).bind fun t130 => (if (t130 == x8) = true then (some x8) else (match_eval.l1 k x1 x8 x63 x64 (wrap64 (x65 + 1))))) else (none)) else (none)) else (some (!x8))
def match_eval.f : Nat → Int → ByteArray → ByteArray → List ByteArray → List (S25) → List (S68) → Option (Bool)
 | 0, _, _, _, _, _, _ => none
 | k + 1, a0_0, a0_1, a0_2, l0_3, l0_4, l1 => (label_Value.f k l1 a0_1).bind fun t123 => (if a0_0 = 0 then (some true) else (if a0_0 = 1 then (some (t123.toList == a0_2.toList)) else (if a0_0 = 2 then (some (t123.toList != a0_2.toList)) else (if a0_0 = 3 then ((strings_HasPrefix.f t123 a0_2).bind fun t124 => (some t124)) else (if a0_0 = 4 then (match_eval.l0 k t123 l0_3 (l0_3.length : Int) 0) else (if a0_0 = 7 then (if 0 < (l0_4.length : Int) then ((match_eval.f k ((zAu l0_4 0).f0) ((zAu l0_4 0).f1) ((zAu l0_4 0).f2) ((zAu l0_4 0).f3) ((zAu l0_4 0).f4) l1).bind fun t127 => (some (!t127))) else (none)) else (match_eval.l1 k l1 (a0_0 == 6) l0_4 (l0_4.length : Int) 0)))))))
end
theorem match_eval.mono_l : ∀ k, (∀ y0 y1 y2 y3 y4 y5, LeO (match_eval.f k y0 y1 y2 y3 y4 y5) (match_eval.f (k + 1) y0 y1 y2 y3 y4 y5)) ∧ (∀ y0 y1 y2 y3, LeO (match_eval.l0 k y0 y1 y2 y3) (match_eval.l0 (k + 1) y0 y1 y2 y3)) ∧ (∀ y0 y1 y2 y3 y4, LeO (match_eval.l1 k y0 y1 y2 y3 y4) (match_eval.l1 (k + 1) y0 y1 y2 y3 y4))
 | 0 => ⟨fun _ _ _ _ _ _ r h => by simp [match_eval.f] at h, fun _ _ _ _ r h => by simp [match_eval.l0] at h, fun _ _ _ _ _ r h => by simp [match_eval.l1] at h⟩
 | k + 1 => by
  obtain ⟨ih0, ih1, ih2⟩ := match_eval.mono_l k
  refine ⟨?_, ?_, ?_⟩
  ·intro y0 y1 y2 y3 y4 y5
   unfold match_eval.f
   repeat' first
   | (with_reducible exact ih0 _ _ _ _ _ _)
   | (with_reducible exact ih1 _ _ _ _)
   | (with_reducible exact ih2 _ _ _ _ _)
   | (with_reducible exact label_Value.mono _ _ _)
   | (with_reducible exact LeO.refl _)
   | (with_reducible exact LeO.none _)
   | (with_reducible refine LeO.ite ?_ ?_)
   | (with_reducible refine LeO.bind ?_ (fun _ => ?_))
   | exact ih0 _ _ _ _ _ _
   | exact ih1 _ _ _ _
   | exact ih2 _ _ _ _ _
   | exact label_Value.mono _ _ _
   | exact LeO.none _
   | refine LeO.ite ?_ ?_
   | refine LeO.bind ?_ (fun _ => ?_)
  ·intro y0 y1 y2 y3
   unfold match_eval.l0
   repeat' first
   | (with_reducible exact ih0 _ _ _ _ _ _)
   | (with_reducible exact ih1 _ _ _ _)
   | (with_reducible exact ih2 _ _ _ _ _)
   | (with_reducible exact label_Value.mono _ _ _)
   | (with_reducible exact LeO.refl _)
   | (with_reducible exact LeO.none _)
   | (with_reducible refine LeO.ite ?_ ?_)
   | (with_reducible refine LeO.bind ?_ (fun _ => ?_))
   | exact ih0 _ _ _ _ _ _
   | exact ih1 _ _ _ _
   | exact ih2 _ _ _ _ _
   | exact label_Value.mono _ _ _
   | exact LeO.none _
   | refine LeO.ite ?_ ?_
   | refine LeO.bind ?_ (fun _ => ?_)
  ·intro y0 y1 y2 y3 y4
   unfold match_eval.l1
   repeat' first
   | (with_reducible exact ih0 _ _ _ _ _ _)
   | (with_reducible exact ih1 _ _ _ _)
   | (with_reducible exact ih2 _ _ _ _ _)
   | (with_reducible exact label_Value.mono _ _ _)
   | (with_reducible exact LeO.refl _)
   | (with_reducible exact LeO.none _)
   | (with_reducible refine LeO.ite ?_ ?_)
   | (with_reducible refine LeO.bind ?_ (fun _ => ?_))
   | exact ih0 _ _ _ _ _ _
   | exact ih1 _ _ _ _
   | exact ih2 _ _ _ _ _
   | exact label_Value.mono _ _ _
   | exact LeO.none _
   | refine LeO.ite ?_ ?_
   | refine LeO.bind ?_ (fun _ => ?_)
theorem match_eval.mono : ∀ a0 a1 a2 a3 a4 a5 k, LeO (match_eval.f k a0 a1 a2 a3 a4 a5) (match_eval.f (k + 1) a0 a1 a2 a3 a4 a5) := by
 intro a0 a1 a2 a3 a4 a5 k
 obtain ⟨ih0, ih1, ih2⟩ := match_eval.mono_l k
 exact ih0 a0 a1 a2 a3 a4 a5
theorem match_eval.calls (k : Nat) : ∀ (a0_0 : Int) (a0_1 : ByteArray) (a0_2 : ByteArray) (A0_3 : Option Addr) (c0_3 : Nat) (l0_3 : List ByteArray) (A0_4 : Option Addr) (c0_4 : Nat) (l0_4 : List (S25)) (A1 : Option Addr) (c1 : Nat) (l1 : List (S68)) (r : Bool) (w : World) (hr0_3 : Kd.C Kd.string w A0_3 l0_3.length l0_3) (hc0_3 : l0_3.length ≤ c0_3) (hr0_4 : Kd.C k25 w A0_4 l0_4.length l0_4) (hc0_4 : l0_4.length ≤ c0_4) (hr1 : Kd.C k68 w A1 l1.length l1) (hc1 : l1.length ≤ c1) (h : match_eval.f k a0_0 a0_1 a0_2 l0_3 l0_4 l1 = some r),
  Calls Try.prog 108 #[.agg #[.int .i64 a0_0, .string a0_1, .string a0_2, .slice A0_3 l0_3.length c0_3, .slice A0_4 l0_4.length c0_4], .slice A1 l1.length c1] w fun e w' => e = .returned (.bool r) ∧ Below w.heap.size w w' := by
 induction k using Nat.strongRecOn with
 | _ k ih =>
 intro a0_0 a0_1 a0_2 A0_3 c0_3 l0_3 A0_4 c0_4 l0_4 A1 c1 l1 r w hr0_3 hc0_3 hr0_4 hc0_4 hr1 hc1 h
 cases k with
 | zero => exact absurd h (by simp [match_eval.f])
 | succ k =>
 simp only [match_eval.f] at h
 have hu25 := Try.underlying25
 have HR0_3 := Aside0.mk hr0_3
 have HC0_3 := Aside0.mk hc0_3
 clear hr0_3 hc0_3
 have HR0_4 := Aside0.mk hr0_4
 have HC0_4 := Aside0.mk hc0_4
 clear hr0_4 hc0_4
 have HR1 := Aside0.mk hr1
 have HC1 := Aside0.mk hc1
 clear hr1 hc1
 have HB := Aside0.mk (Below.refl w.heap.size w)
 have H : ((label_Value.f k l1 a0_1).bind fun t123 => (if a0_0 = 0 then (some true) else (if a0_0 = 1 then (some (t123.toList == a0_2.toList)) else (if a0_0 = 2 then (some (t123.toList != a0_2.toList)) else (if a0_0 = 3 then ((strings_HasPrefix.f t123 a0_2).bind fun t124 => (some t124)) else (if a0_0 = 4 then (match_eval.l0 k t123 l0_3 (l0_3.length : Int) 0) else (if a0_0 = 7 then (if 0 < (l0_4.length : Int) then ((match_eval.f k ((zAu l0_4 0).f0) ((zAu l0_4 0).f1) ((zAu l0_4 0).f2) ((zAu l0_4 0).f3) ((zAu l0_4 0).f4) l1).bind fun t127 => (some (!t127))) else (none)) else (match_eval.l1 k l1 (a0_0 == 6) l0_4 (l0_4.length : Int) 0)))))))) = some r := h
 clear h
 replace H := Option.bind_eq_some_iff.mp H
 obtain ⟨t123, A30, H⟩ := H
 replace H : (if a0_0 = 0 then (some true) else (if a0_0 = 1 then (some (t123.toList == a0_2.toList)) else (if a0_0 = 2 then (some (t123.toList != a0_2.toList)) else (if a0_0 = 3 then ((strings_HasPrefix.f t123 a0_2).bind fun t124 => (some t124)) else (if a0_0 = 4 then (match_eval.l0 k t123 l0_3 (l0_3.length : Int) 0) else (if a0_0 = 7 then (if 0 < (l0_4.length : Int) then ((match_eval.f k ((zAu l0_4 0).f0) ((zAu l0_4 0).f1) ((zAu l0_4 0).f2) ((zAu l0_4 0).f3) ((zAu l0_4 0).f4) l1).bind fun t127 => (some (!t127))) else (none)) else (match_eval.l1 k l1 (a0_0 == 6) l0_4 (l0_4.length : Int) 0))))))) = some r := H
 have A3 := Aside0.mk A30
 clear A30
 by_cases c4 : a0_0 = 0
 ·rw [if_pos c4] at H
  have c4b0 : (a0_0 == 0) = true := beq_iff_eq.mpr c4
  have c4b1 : (a0_0 != 0) = false := bne_eq_false_iff_eq.mpr c4
  clear c4
  obtain rfl := Option.some.inj H
  go_enter Try.func108, Try.ntmps108
  go_wp2_with (first | ((with_reducible refine zBe (N := 2) rfl ?_); refine zBb ?hg (N := 2) ?hd (cs := #[.int .i64 a0_0, .string a0_1, .string a0_2, .slice A0_3 l0_3.length c0_3, .slice A0_4 l0_4.length c0_4]) (t := 25) ?hr ?_; (case hd => rfl); (case hg => rfl); (case hr => first | (go_simp; done) | (go_simp; rfl)); intro gb122 hg w5 hbox hb; have n0_ := Aside0.mk (zAe (by repeat (first | (with_reducible first | exact HB.out | apply zAc | apply zAd | apply zAg) | exact HB.out)) hb); have n1_ := Aside0.mk (hbox); have n2_ := Aside0.mk ((by rw [hg]; exact (zAi (by repeat (first | (with_reducible first | exact HB.out | apply zAc | apply zAd | apply zAg) | exact HB.out))) : w.heap.size ≤ gb122)); have n3_ := Aside0.mk ((by rw [hg]; exact (zAi (by repeat (first | (with_reducible first | exact HB.out | apply zAc | apply zAd | apply zAg) | exact HB.out))) : w.heap.size ≤ gb122)); clear HB; have HB := n0_; have BK122 := n1_; have GW122 := n2_; have GE122 := n3_; clear n0_ n1_ n2_ n3_; clear hb hbox hg; have hcz6_0 : w5.cell? ⟨gb122, 0, none⟩ = some (.int .i64 a0_0) := (zAb BK122.out 0).trans rfl; have hcz6_1 : w5.cell? ⟨gb122, 1, none⟩ = some (.string a0_1) := (zAb BK122.out 1).trans rfl; have hcz6_2 : w5.cell? ⟨gb122, 2, none⟩ = some (.string a0_2) := (zAb BK122.out 2).trans rfl; have hcz6_3 : w5.cell? ⟨gb122, 3, none⟩ = some (.slice A0_3 l0_3.length c0_3) := (zAb BK122.out 3).trans rfl; have hcz6_4 : w5.cell? ⟨gb122, 4, none⟩ = some (.slice A0_4 l0_4.length c0_4) := (zAb BK122.out 4).trans rfl; have hfz6_0 := zAa BK122.out 0; have hfz6_1 := zAa BK122.out 1; have hfz6_2 := zAa BK122.out 2; have hfz6_3 := zAa BK122.out 3; have hfz6_4 := zAa BK122.out 4) | ((with_reducible refine zBj (f := 65) rfl ?_); refine zDx (some 14) rfl rfl Try.func65 (by kernel_rfl) rfl #[.slice A1 l1.length c1, .string a0_1] rfl (by (try simp only [List.map_toArray, List.map_cons, List.map_nil]); first | done | rfl | (simp only [List.length_drop, List.length_take]; rfl)) ?_; (with_reducible refine (label_Value.calls k _ _ l1 a0_1 t123 _ ?side1 ?side2 A3.out).mono ?_); (case side1 => repeat (first | exact (Kd.C_below HR1.out HB.out) | (with_reducible refine Kd.C_alloc ?_ _) | (with_reducible refine Kd.C_drewN ?_ _) | (with_reducible refine Kd.C_drew ?_))); (case side2 => exact HC1.out); rintro e w7 ⟨rfl, hb⟩; refine ⟨_, rfl, ?_⟩; have n0_ := Aside0.mk (zBo (g := gb122) (o := .cells #[.int .i64 a0_0, .string a0_1, .string a0_2, .slice A0_3 l0_3.length c0_3, .slice A0_4 l0_4.length c0_4] 25 (0, 0)) (by (with_reducible repeat (first | refine zAj ?_ _ | refine zAm ?_ | refine blk_alloc ?_ _)); exact BK122.out) hb); have n1_ := Aside0.mk (zAe (by repeat (first | (with_reducible first | exact HB.out | apply zAc | apply zAd | apply zAg | refine zAh ?_ GE122.out) | exact HB.out)) hb); clear BK122; clear HB; have BK122 := n0_; have HB := n1_; clear n0_ n1_; (try clear hb); (try clear hb2); (try clear hk); (try clear hi); have hcz8_0 : w7.cell? ⟨gb122, 0, none⟩ = some (.int .i64 a0_0) := (zAb BK122.out 0).trans rfl; have hcz8_1 : w7.cell? ⟨gb122, 1, none⟩ = some (.string a0_1) := (zAb BK122.out 1).trans rfl; have hcz8_2 : w7.cell? ⟨gb122, 2, none⟩ = some (.string a0_2) := (zAb BK122.out 2).trans rfl; have hcz8_3 : w7.cell? ⟨gb122, 3, none⟩ = some (.slice A0_3 l0_3.length c0_3) := (zAb BK122.out 3).trans rfl; have hcz8_4 : w7.cell? ⟨gb122, 4, none⟩ = some (.slice A0_4 l0_4.length c0_4) := (zAb BK122.out 4).trans rfl; have hfz8_0 := zAa BK122.out 0; have hfz8_1 := zAa BK122.out 1; have hfz8_2 := zAa BK122.out 2; have hfz8_3 := zAa BK122.out 3; have hfz8_4 := zAa BK122.out 4))
  go_ret
  exact ⟨by first | rfl | (simp [zAl, zAk] <;> rfl) | (simp [*, zAl, zAk] <;> rfl), by repeat (first | (with_reducible first | exact HB.out | apply zAc | apply zAd | apply zAg | refine zAh ?_ GE122.out) | exact HB.out)⟩
 rw [if_neg c4] at H
 have c4b0 : (a0_0 == 0) = false := beq_eq_false_iff_ne.mpr c4
 have c4b1 : (a0_0 != 0) = true := bne_iff_ne.mpr c4
 by_cases c9 : a0_0 = 1
 ·rw [if_pos c9] at H
  have c9b0 : (a0_0 == 1) = true := beq_iff_eq.mpr c9
  have c9b1 : (a0_0 != 1) = false := bne_eq_false_iff_eq.mpr c9
  clear c9
  obtain rfl := Option.some.inj H
  go_enter Try.func108, Try.ntmps108
  go_wp2_with (first | ((with_reducible refine zBe (N := 2) rfl ?_); refine zBb ?hg (N := 2) ?hd (cs := #[.int .i64 a0_0, .string a0_1, .string a0_2, .slice A0_3 l0_3.length c0_3, .slice A0_4 l0_4.length c0_4]) (t := 25) ?hr ?_; (case hd => rfl); (case hg => rfl); (case hr => first | (go_simp; done) | (go_simp; rfl)); intro gb122 hg w10 hbox hb; have n0_ := Aside0.mk (zAe (by repeat (first | (with_reducible first | exact HB.out | apply zAc | apply zAd | apply zAg) | exact HB.out)) hb); have n1_ := Aside0.mk (hbox); have n2_ := Aside0.mk ((by rw [hg]; exact (zAi (by repeat (first | (with_reducible first | exact HB.out | apply zAc | apply zAd | apply zAg) | exact HB.out))) : w.heap.size ≤ gb122)); have n3_ := Aside0.mk ((by rw [hg]; exact (zAi (by repeat (first | (with_reducible first | exact HB.out | apply zAc | apply zAd | apply zAg) | exact HB.out))) : w.heap.size ≤ gb122)); clear HB; have HB := n0_; have BK122 := n1_; have GW122 := n2_; have GE122 := n3_; clear n0_ n1_ n2_ n3_; clear hb hbox hg; have hcz11_0 : w10.cell? ⟨gb122, 0, none⟩ = some (.int .i64 a0_0) := (zAb BK122.out 0).trans rfl; have hcz11_1 : w10.cell? ⟨gb122, 1, none⟩ = some (.string a0_1) := (zAb BK122.out 1).trans rfl; have hcz11_2 : w10.cell? ⟨gb122, 2, none⟩ = some (.string a0_2) := (zAb BK122.out 2).trans rfl; have hcz11_3 : w10.cell? ⟨gb122, 3, none⟩ = some (.slice A0_3 l0_3.length c0_3) := (zAb BK122.out 3).trans rfl; have hcz11_4 : w10.cell? ⟨gb122, 4, none⟩ = some (.slice A0_4 l0_4.length c0_4) := (zAb BK122.out 4).trans rfl; have hfz11_0 := zAa BK122.out 0; have hfz11_1 := zAa BK122.out 1; have hfz11_2 := zAa BK122.out 2; have hfz11_3 := zAa BK122.out 3; have hfz11_4 := zAa BK122.out 4) | ((with_reducible refine zBj (f := 65) rfl ?_); refine zDx (some 14) rfl rfl Try.func65 (by kernel_rfl) rfl #[.slice A1 l1.length c1, .string a0_1] rfl (by (try simp only [List.map_toArray, List.map_cons, List.map_nil]); first | done | rfl | (simp only [List.length_drop, List.length_take]; rfl)) ?_; (with_reducible refine (label_Value.calls k _ _ l1 a0_1 t123 _ ?side1 ?side2 A3.out).mono ?_); (case side1 => repeat (first | exact (Kd.C_below HR1.out HB.out) | (with_reducible refine Kd.C_alloc ?_ _) | (with_reducible refine Kd.C_drewN ?_ _) | (with_reducible refine Kd.C_drew ?_))); (case side2 => exact HC1.out); rintro e w12 ⟨rfl, hb⟩; refine ⟨_, rfl, ?_⟩; have n0_ := Aside0.mk (zBo (g := gb122) (o := .cells #[.int .i64 a0_0, .string a0_1, .string a0_2, .slice A0_3 l0_3.length c0_3, .slice A0_4 l0_4.length c0_4] 25 (0, 0)) (by (with_reducible repeat (first | refine zAj ?_ _ | refine zAm ?_ | refine blk_alloc ?_ _)); exact BK122.out) hb); have n1_ := Aside0.mk (zAe (by repeat (first | (with_reducible first | exact HB.out | apply zAc | apply zAd | apply zAg | refine zAh ?_ GE122.out) | exact HB.out)) hb); clear BK122; clear HB; have BK122 := n0_; have HB := n1_; clear n0_ n1_; (try clear hb); (try clear hb2); (try clear hk); (try clear hi); have hcz13_0 : w12.cell? ⟨gb122, 0, none⟩ = some (.int .i64 a0_0) := (zAb BK122.out 0).trans rfl; have hcz13_1 : w12.cell? ⟨gb122, 1, none⟩ = some (.string a0_1) := (zAb BK122.out 1).trans rfl; have hcz13_2 : w12.cell? ⟨gb122, 2, none⟩ = some (.string a0_2) := (zAb BK122.out 2).trans rfl; have hcz13_3 : w12.cell? ⟨gb122, 3, none⟩ = some (.slice A0_3 l0_3.length c0_3) := (zAb BK122.out 3).trans rfl; have hcz13_4 : w12.cell? ⟨gb122, 4, none⟩ = some (.slice A0_4 l0_4.length c0_4) := (zAb BK122.out 4).trans rfl; have hfz13_0 := zAa BK122.out 0; have hfz13_1 := zAa BK122.out 1; have hfz13_2 := zAa BK122.out 2; have hfz13_3 := zAa BK122.out 3; have hfz13_4 := zAa BK122.out 4))
  go_ret
  exact ⟨by first | rfl | (simp [zAl, zAk] <;> rfl) | (simp [*, zAl, zAk] <;> rfl), by repeat (first | (with_reducible first | exact HB.out | apply zAc | apply zAd | apply zAg | refine zAh ?_ GE122.out) | exact HB.out)⟩
 rw [if_neg c9] at H
 have c9b0 : (a0_0 == 1) = false := beq_eq_false_iff_ne.mpr c9
 have c9b1 : (a0_0 != 1) = true := bne_iff_ne.mpr c9
 by_cases c14 : a0_0 = 2
 ·rw [if_pos c14] at H
  have c14b0 : (a0_0 == 2) = true := beq_iff_eq.mpr c14
  have c14b1 : (a0_0 != 2) = false := bne_eq_false_iff_eq.mpr c14
  clear c14
  obtain rfl := Option.some.inj H
  go_enter Try.func108, Try.ntmps108
  go_wp2_with (first | ((with_reducible refine zBe (N := 2) rfl ?_); refine zBb ?hg (N := 2) ?hd (cs := #[.int .i64 a0_0, .string a0_1, .string a0_2, .slice A0_3 l0_3.length c0_3, .slice A0_4 l0_4.length c0_4]) (t := 25) ?hr ?_; (case hd => rfl); (case hg => rfl); (case hr => first | (go_simp; done) | (go_simp; rfl)); intro gb122 hg w15 hbox hb; have n0_ := Aside0.mk (zAe (by repeat (first | (with_reducible first | exact HB.out | apply zAc | apply zAd | apply zAg) | exact HB.out)) hb); have n1_ := Aside0.mk (hbox); have n2_ := Aside0.mk ((by rw [hg]; exact (zAi (by repeat (first | (with_reducible first | exact HB.out | apply zAc | apply zAd | apply zAg) | exact HB.out))) : w.heap.size ≤ gb122)); have n3_ := Aside0.mk ((by rw [hg]; exact (zAi (by repeat (first | (with_reducible first | exact HB.out | apply zAc | apply zAd | apply zAg) | exact HB.out))) : w.heap.size ≤ gb122)); clear HB; have HB := n0_; have BK122 := n1_; have GW122 := n2_; have GE122 := n3_; clear n0_ n1_ n2_ n3_; clear hb hbox hg; have hcz16_0 : w15.cell? ⟨gb122, 0, none⟩ = some (.int .i64 a0_0) := (zAb BK122.out 0).trans rfl; have hcz16_1 : w15.cell? ⟨gb122, 1, none⟩ = some (.string a0_1) := (zAb BK122.out 1).trans rfl; have hcz16_2 : w15.cell? ⟨gb122, 2, none⟩ = some (.string a0_2) := (zAb BK122.out 2).trans rfl; have hcz16_3 : w15.cell? ⟨gb122, 3, none⟩ = some (.slice A0_3 l0_3.length c0_3) := (zAb BK122.out 3).trans rfl; have hcz16_4 : w15.cell? ⟨gb122, 4, none⟩ = some (.slice A0_4 l0_4.length c0_4) := (zAb BK122.out 4).trans rfl; have hfz16_0 := zAa BK122.out 0; have hfz16_1 := zAa BK122.out 1; have hfz16_2 := zAa BK122.out 2; have hfz16_3 := zAa BK122.out 3; have hfz16_4 := zAa BK122.out 4) | ((with_reducible refine zBj (f := 65) rfl ?_); refine zDx (some 14) rfl rfl Try.func65 (by kernel_rfl) rfl #[.slice A1 l1.length c1, .string a0_1] rfl (by (try simp only [List.map_toArray, List.map_cons, List.map_nil]); first | done | rfl | (simp only [List.length_drop, List.length_take]; rfl)) ?_; (with_reducible refine (label_Value.calls k _ _ l1 a0_1 t123 _ ?side1 ?side2 A3.out).mono ?_); (case side1 => repeat (first | exact (Kd.C_below HR1.out HB.out) | (with_reducible refine Kd.C_alloc ?_ _) | (with_reducible refine Kd.C_drewN ?_ _) | (with_reducible refine Kd.C_drew ?_))); (case side2 => exact HC1.out); rintro e w17 ⟨rfl, hb⟩; refine ⟨_, rfl, ?_⟩; have n0_ := Aside0.mk (zBo (g := gb122) (o := .cells #[.int .i64 a0_0, .string a0_1, .string a0_2, .slice A0_3 l0_3.length c0_3, .slice A0_4 l0_4.length c0_4] 25 (0, 0)) (by (with_reducible repeat (first | refine zAj ?_ _ | refine zAm ?_ | refine blk_alloc ?_ _)); exact BK122.out) hb); have n1_ := Aside0.mk (zAe (by repeat (first | (with_reducible first | exact HB.out | apply zAc | apply zAd | apply zAg | refine zAh ?_ GE122.out) | exact HB.out)) hb); clear BK122; clear HB; have BK122 := n0_; have HB := n1_; clear n0_ n1_; (try clear hb); (try clear hb2); (try clear hk); (try clear hi); have hcz18_0 : w17.cell? ⟨gb122, 0, none⟩ = some (.int .i64 a0_0) := (zAb BK122.out 0).trans rfl; have hcz18_1 : w17.cell? ⟨gb122, 1, none⟩ = some (.string a0_1) := (zAb BK122.out 1).trans rfl; have hcz18_2 : w17.cell? ⟨gb122, 2, none⟩ = some (.string a0_2) := (zAb BK122.out 2).trans rfl; have hcz18_3 : w17.cell? ⟨gb122, 3, none⟩ = some (.slice A0_3 l0_3.length c0_3) := (zAb BK122.out 3).trans rfl; have hcz18_4 : w17.cell? ⟨gb122, 4, none⟩ = some (.slice A0_4 l0_4.length c0_4) := (zAb BK122.out 4).trans rfl; have hfz18_0 := zAa BK122.out 0; have hfz18_1 := zAa BK122.out 1; have hfz18_2 := zAa BK122.out 2; have hfz18_3 := zAa BK122.out 3; have hfz18_4 := zAa BK122.out 4))
  go_ret
  exact ⟨by first | rfl | (simp [zAl, zAk] <;> rfl) | (simp [*, zAl, zAk] <;> rfl), by repeat (first | (with_reducible first | exact HB.out | apply zAc | apply zAd | apply zAg | refine zAh ?_ GE122.out) | exact HB.out)⟩
 rw [if_neg c14] at H
 have c14b0 : (a0_0 == 2) = false := beq_eq_false_iff_ne.mpr c14
 have c14b1 : (a0_0 != 2) = true := bne_iff_ne.mpr c14
 by_cases c19 : a0_0 = 3
 ·rw [if_pos c19] at H
  have c19b0 : (a0_0 == 3) = true := beq_iff_eq.mpr c19
  have c19b1 : (a0_0 != 3) = false := bne_eq_false_iff_eq.mpr c19
  clear c19
  replace H := Option.bind_eq_some_iff.mp H
  obtain ⟨t124, A200, H⟩ := H
  replace H : (some t124) = some r := H
  have A20 := Aside0.mk A200
  clear A200
  obtain rfl := Option.some.inj H
  go_enter Try.func108, Try.ntmps108
  go_wp2_with (first | ((with_reducible refine zBe (N := 2) rfl ?_); refine zBb ?hg (N := 2) ?hd (cs := #[.int .i64 a0_0, .string a0_1, .string a0_2, .slice A0_3 l0_3.length c0_3, .slice A0_4 l0_4.length c0_4]) (t := 25) ?hr ?_; (case hd => rfl); (case hg => rfl); (case hr => first | (go_simp; done) | (go_simp; rfl)); intro gb122 hg w21 hbox hb; have n0_ := Aside0.mk (zAe (by repeat (first | (with_reducible first | exact HB.out | apply zAc | apply zAd | apply zAg) | exact HB.out)) hb); have n1_ := Aside0.mk (hbox); have n2_ := Aside0.mk ((by rw [hg]; exact (zAi (by repeat (first | (with_reducible first | exact HB.out | apply zAc | apply zAd | apply zAg) | exact HB.out))) : w.heap.size ≤ gb122)); have n3_ := Aside0.mk ((by rw [hg]; exact (zAi (by repeat (first | (with_reducible first | exact HB.out | apply zAc | apply zAd | apply zAg) | exact HB.out))) : w.heap.size ≤ gb122)); clear HB; have HB := n0_; have BK122 := n1_; have GW122 := n2_; have GE122 := n3_; clear n0_ n1_ n2_ n3_; clear hb hbox hg; have hcz22_0 : w21.cell? ⟨gb122, 0, none⟩ = some (.int .i64 a0_0) := (zAb BK122.out 0).trans rfl; have hcz22_1 : w21.cell? ⟨gb122, 1, none⟩ = some (.string a0_1) := (zAb BK122.out 1).trans rfl; have hcz22_2 : w21.cell? ⟨gb122, 2, none⟩ = some (.string a0_2) := (zAb BK122.out 2).trans rfl; have hcz22_3 : w21.cell? ⟨gb122, 3, none⟩ = some (.slice A0_3 l0_3.length c0_3) := (zAb BK122.out 3).trans rfl; have hcz22_4 : w21.cell? ⟨gb122, 4, none⟩ = some (.slice A0_4 l0_4.length c0_4) := (zAb BK122.out 4).trans rfl; have hfz22_0 := zAa BK122.out 0; have hfz22_1 := zAa BK122.out 1; have hfz22_2 := zAa BK122.out 2; have hfz22_3 := zAa BK122.out 3; have hfz22_4 := zAa BK122.out 4) | ((with_reducible refine zBj (f := 65) rfl ?_); refine zDx (some 14) rfl rfl Try.func65 (by kernel_rfl) rfl #[.slice A1 l1.length c1, .string a0_1] rfl (by (try simp only [List.map_toArray, List.map_cons, List.map_nil]); first | done | rfl | (simp only [List.length_drop, List.length_take]; rfl)) ?_; (with_reducible refine (label_Value.calls k _ _ l1 a0_1 t123 _ ?side1 ?side2 A3.out).mono ?_); (case side1 => repeat (first | exact (Kd.C_below HR1.out HB.out) | (with_reducible refine Kd.C_alloc ?_ _) | (with_reducible refine Kd.C_drewN ?_ _) | (with_reducible refine Kd.C_drew ?_))); (case side2 => exact HC1.out); rintro e w23 ⟨rfl, hb⟩; refine ⟨_, rfl, ?_⟩; have n0_ := Aside0.mk (zBo (g := gb122) (o := .cells #[.int .i64 a0_0, .string a0_1, .string a0_2, .slice A0_3 l0_3.length c0_3, .slice A0_4 l0_4.length c0_4] 25 (0, 0)) (by (with_reducible repeat (first | refine zAj ?_ _ | refine zAm ?_ | refine blk_alloc ?_ _)); exact BK122.out) hb); have n1_ := Aside0.mk (zAe (by repeat (first | (with_reducible first | exact HB.out | apply zAc | apply zAd | apply zAg | refine zAh ?_ GE122.out) | exact HB.out)) hb); clear BK122; clear HB; have BK122 := n0_; have HB := n1_; clear n0_ n1_; (try clear hb); (try clear hb2); (try clear hk); (try clear hi); have hcz24_0 : w23.cell? ⟨gb122, 0, none⟩ = some (.int .i64 a0_0) := (zAb BK122.out 0).trans rfl; have hcz24_1 : w23.cell? ⟨gb122, 1, none⟩ = some (.string a0_1) := (zAb BK122.out 1).trans rfl; have hcz24_2 : w23.cell? ⟨gb122, 2, none⟩ = some (.string a0_2) := (zAb BK122.out 2).trans rfl; have hcz24_3 : w23.cell? ⟨gb122, 3, none⟩ = some (.slice A0_3 l0_3.length c0_3) := (zAb BK122.out 3).trans rfl; have hcz24_4 : w23.cell? ⟨gb122, 4, none⟩ = some (.slice A0_4 l0_4.length c0_4) := (zAb BK122.out 4).trans rfl; have hfz24_0 := zAa BK122.out 0; have hfz24_1 := zAa BK122.out 1; have hfz24_2 := zAa BK122.out 2; have hfz24_3 := zAa BK122.out 3; have hfz24_4 := zAa BK122.out 4) | ((with_reducible refine zBj (f := 158) rfl ?_); refine zDx (some 36) rfl rfl Try.func158 (by kernel_rfl) rfl #[.string t123, .string a0_2] rfl (by (try simp only [List.map_toArray, List.map_cons, List.map_nil]); first | done | rfl | (simp only [List.length_drop, List.length_take]; rfl)) ?_; (with_reducible refine (strings_HasPrefix.calls t123 a0_2 t124 _ A20.out).mono ?_); rintro e w' ⟨rfl, ⟨nd, rfl⟩⟩; refine ⟨_, rfl, ?_⟩))
  go_ret
  exact ⟨by first | rfl | (simp [zAl, zAk] <;> rfl) | (simp [*, zAl, zAk] <;> rfl), by repeat (first | (with_reducible first | exact HB.out | apply zAc | apply zAd | apply zAg | refine zAh ?_ GE122.out) | exact HB.out)⟩
 rw [if_neg c19] at H
 have c19b0 : (a0_0 == 3) = false := beq_eq_false_iff_ne.mpr c19
 have c19b1 : (a0_0 != 3) = true := bne_iff_ne.mpr c19
 by_cases c25 : a0_0 = 4
 ·rw [if_pos c25] at H
  have c25b0 : (a0_0 == 4) = true := beq_iff_eq.mpr c25
  have c25b1 : (a0_0 != 4) = false := bne_eq_false_iff_eq.mpr c25
  clear c25
  have H' := Aside0.mk H
  clear H
  go_enter Try.func108, Try.ntmps108
  go_wp2_with (first | ((with_reducible refine zBe (N := 2) rfl ?_); refine zBb ?hg (N := 2) ?hd (cs := #[.int .i64 a0_0, .string a0_1, .string a0_2, .slice A0_3 l0_3.length c0_3, .slice A0_4 l0_4.length c0_4]) (t := 25) ?hr ?_; (case hd => rfl); (case hg => rfl); (case hr => first | (go_simp; done) | (go_simp; rfl)); intro gb122 hg w26 hbox hb; have n0_ := Aside0.mk (zAe (by repeat (first | (with_reducible first | exact HB.out | apply zAc | apply zAd | apply zAg) | exact HB.out)) hb); have n1_ := Aside0.mk (hbox); have n2_ := Aside0.mk ((by rw [hg]; exact (zAi (by repeat (first | (with_reducible first | exact HB.out | apply zAc | apply zAd | apply zAg) | exact HB.out))) : w.heap.size ≤ gb122)); have n3_ := Aside0.mk ((by rw [hg]; exact (zAi (by repeat (first | (with_reducible first | exact HB.out | apply zAc | apply zAd | apply zAg) | exact HB.out))) : w.heap.size ≤ gb122)); clear HB; have HB := n0_; have BK122 := n1_; have GW122 := n2_; have GE122 := n3_; clear n0_ n1_ n2_ n3_; clear hb hbox hg; have hcz27_0 : w26.cell? ⟨gb122, 0, none⟩ = some (.int .i64 a0_0) := (zAb BK122.out 0).trans rfl; have hcz27_1 : w26.cell? ⟨gb122, 1, none⟩ = some (.string a0_1) := (zAb BK122.out 1).trans rfl; have hcz27_2 : w26.cell? ⟨gb122, 2, none⟩ = some (.string a0_2) := (zAb BK122.out 2).trans rfl; have hcz27_3 : w26.cell? ⟨gb122, 3, none⟩ = some (.slice A0_3 l0_3.length c0_3) := (zAb BK122.out 3).trans rfl; have hcz27_4 : w26.cell? ⟨gb122, 4, none⟩ = some (.slice A0_4 l0_4.length c0_4) := (zAb BK122.out 4).trans rfl; have hfz27_0 := zAa BK122.out 0; have hfz27_1 := zAa BK122.out 1; have hfz27_2 := zAa BK122.out 2; have hfz27_3 := zAa BK122.out 3; have hfz27_4 := zAa BK122.out 4) | ((with_reducible refine zBj (f := 65) rfl ?_); refine zDx (some 14) rfl rfl Try.func65 (by kernel_rfl) rfl #[.slice A1 l1.length c1, .string a0_1] rfl (by (try simp only [List.map_toArray, List.map_cons, List.map_nil]); first | done | rfl | (simp only [List.length_drop, List.length_take]; rfl)) ?_; (with_reducible refine (label_Value.calls k _ _ l1 a0_1 t123 _ ?side1 ?side2 A3.out).mono ?_); (case side1 => repeat (first | exact (Kd.C_below HR1.out HB.out) | (with_reducible refine Kd.C_alloc ?_ _) | (with_reducible refine Kd.C_drewN ?_ _) | (with_reducible refine Kd.C_drew ?_))); (case side2 => exact HC1.out); rintro e w28 ⟨rfl, hb⟩; refine ⟨_, rfl, ?_⟩; have n0_ := Aside0.mk (zBo (g := gb122) (o := .cells #[.int .i64 a0_0, .string a0_1, .string a0_2, .slice A0_3 l0_3.length c0_3, .slice A0_4 l0_4.length c0_4] 25 (0, 0)) (by (with_reducible repeat (first | refine zAj ?_ _ | refine zAm ?_ | refine blk_alloc ?_ _)); exact BK122.out) hb); have n1_ := Aside0.mk (zAe (by repeat (first | (with_reducible first | exact HB.out | apply zAc | apply zAd | apply zAg | refine zAh ?_ GE122.out) | exact HB.out)) hb); clear BK122; clear HB; have BK122 := n0_; have HB := n1_; clear n0_ n1_; (try clear hb); (try clear hb2); (try clear hk); (try clear hi); have hcz29_0 : w28.cell? ⟨gb122, 0, none⟩ = some (.int .i64 a0_0) := (zAb BK122.out 0).trans rfl; have hcz29_1 : w28.cell? ⟨gb122, 1, none⟩ = some (.string a0_1) := (zAb BK122.out 1).trans rfl; have hcz29_2 : w28.cell? ⟨gb122, 2, none⟩ = some (.string a0_2) := (zAb BK122.out 2).trans rfl; have hcz29_3 : w28.cell? ⟨gb122, 3, none⟩ = some (.slice A0_3 l0_3.length c0_3) := (zAb BK122.out 3).trans rfl; have hcz29_4 : w28.cell? ⟨gb122, 4, none⟩ = some (.slice A0_4 l0_4.length c0_4) := (zAb BK122.out 4).trans rfl; have hfz29_0 := zAa BK122.out 0; have hfz29_1 := zAa BK122.out 1; have hfz29_2 := zAa BK122.out 2; have hfz29_3 := zAa BK122.out 3; have hfz29_4 := zAa BK122.out 4))
  go_loopg [42] k (fun kq v42 w' => ∃ (x42_1 : Int), v42 = .int .i64 x42_1 ∧ Aside0 (match_eval.l0 kq t123 l0_3 (l0_3.length : Int) x42_1 = some r) ∧ Aside0 (kq ≤ k) ∧ Aside0 (w'.heap[gb122]? = some (.cells #[.int .i64 a0_0, .string a0_1, .string a0_2, (.slice A0_3 l0_3.length c0_3), (.slice A0_4 l0_4.length c0_4)] 25 (0, 0))) ∧ Aside0 (Below w.heap.size w w'))
  case atStart => exact ⟨(0), (by first | rfl | (simp; done) | (simp [*]; done)), H', ⟨Nat.le_refl _⟩, ⟨by (with_reducible repeat (first | refine zAj ?_ _ | refine zAm ?_ | refine blk_alloc ?_ _)); exact BK122.out⟩, ⟨by repeat (first | (with_reducible first | exact HB.out | apply zAc | apply zAd | apply zAg | refine zAh ?_ GE122.out) | exact HB.out)⟩⟩
  case round =>
   clear H'
   try clear c1
   try clear c2
   try clear p2
   try clear c4
   try clear c4b0
   try clear c4b1
   try clear c6
   try clear c9
   try clear c9b0
   try clear c9b1
   try clear c10
   try clear c14
   try clear c14b0
   try clear c14b1
   try clear c15
   try clear c19
   try clear c19b0
   try clear c19b1
   try clear c25
   try clear c25b0
   try clear c25b1
   try clear hcz11_0
   try clear hcz11_1
   try clear hcz11_2
   try clear hcz11_3
   try clear hcz11_4
   try clear hcz13_0
   try clear hcz13_1
   try clear hcz13_2
   try clear hcz13_3
   try clear hcz13_4
   try clear hcz16_0
   try clear hcz16_1
   try clear hcz16_2
   try clear hcz16_3
   try clear hcz16_4
   try clear hcz18_0
   try clear hcz18_1
   try clear hcz18_2
   try clear hcz18_3
   try clear hcz18_4
   try clear hcz22_0
   try clear hcz22_1
   try clear hcz22_2
   try clear hcz22_3
   try clear hcz22_4
   try clear hcz24_0
   try clear hcz24_1
   try clear hcz24_2
   try clear hcz24_3
   try clear hcz24_4
   try clear hcz27_0
   try clear hcz27_1
   try clear hcz27_2
   try clear hcz27_3
   try clear hcz27_4
   try clear hcz29_0
   try clear hcz29_1
   try clear hcz29_2
   try clear hcz29_3
   try clear hcz29_4
   try clear hcz6_0
   try clear hcz6_1
   try clear hcz6_2
   try clear hcz6_3
   try clear hcz6_4
   try clear hcz8_0
   try clear hcz8_1
   try clear hcz8_2
   try clear hcz8_3
   try clear hcz8_4
   try clear hfz11_0
   try clear hfz11_1
   try clear hfz11_2
   try clear hfz11_3
   try clear hfz11_4
   try clear hfz13_0
   try clear hfz13_1
   try clear hfz13_2
   try clear hfz13_3
   try clear hfz13_4
   try clear hfz16_0
   try clear hfz16_1
   try clear hfz16_2
   try clear hfz16_3
   try clear hfz16_4
   try clear hfz18_0
   try clear hfz18_1
   try clear hfz18_2
   try clear hfz18_3
   try clear hfz18_4
   try clear hfz22_0
   try clear hfz22_1
   try clear hfz22_2
   try clear hfz22_3
   try clear hfz22_4
   try clear hfz24_0
   try clear hfz24_1
   try clear hfz24_2
   try clear hfz24_3
   try clear hfz24_4
   try clear hfz27_0
   try clear hfz27_1
   try clear hfz27_2
   try clear hfz27_3
   try clear hfz27_4
   try clear hfz29_0
   try clear hfz29_1
   try clear hfz29_2
   try clear hfz29_3
   try clear hfz29_4
   try clear hfz6_0
   try clear hfz6_1
   try clear hfz6_2
   try clear hfz6_3
   try clear hfz6_4
   try clear hfz8_0
   try clear hfz8_1
   try clear hfz8_2
   try clear hfz8_3
   try clear hfz8_4
   obtain ⟨x42_1, rfl, HA, HK1, BK122, HB⟩ := hrel
   cases gk with
   | zero => exact absurd HA.out (by simp [match_eval.l0])
   | succ k1 =>
   have H := HA.out
   clear HA
   simp only [match_eval.l0] at H
   by_cases c30 : x42_1 < (l0_3.length : Int)
   ·rw [if_pos c30] at H
    have c30b0 : decide (x42_1 < (l0_3.length : Int)) = true := zT c30
    clear c30
    by_cases c31 : 0 ≤ x42_1
    ·rw [if_pos c31] at H
     have c31b0 : decide (0 ≤ x42_1) = true := zT c31
     clear c31
     by_cases c32 : x42_1 < (l0_3.length : Int)
     ·rw [if_pos c32] at H
      have c32b0 : decide (x42_1 < (l0_3.length : Int)) = true := zT c32
      clear c32
      by_cases c33 : (rdOf ByteArray.empty l0_3 x42_1).toList = t123.toList
      ·rw [if_pos c33] at H
       have c33b0 : ((rdOf ByteArray.empty l0_3 x42_1).toList == t123.toList) = true := beq_iff_eq.mpr c33
       have c33b1 : ((rdOf ByteArray.empty l0_3 x42_1).toList != t123.toList) = false := bne_eq_false_iff_eq.mpr c33
       clear c33
       obtain rfl := Option.some.inj H
       have p125 : 0 ≤ (x42_1 : Int) := zO (by first | (with_reducible assumption) | assumption)
       have q125 : x42_1 < (l0_3.length : Int) := zO (by first | (with_reducible assumption) | assumption)
       obtain ⟨ad125, e125, hx125_0⟩ := Kd.at_string HR0_3.out x42_1 p125 q125
       cases e125
       replace hx125_0 := (HB.out.cell (World.block_lt_of_cell? w _ hx125_0)).trans hx125_0
       replace p125 := eq_true p125
       replace q125 := eq_true q125
       go_wp2
       go_ret
       exact ⟨by first | rfl | (simp [zAl, zAk] <;> rfl) | (simp [*, zAl, zAk] <;> rfl), by repeat (first | (with_reducible first | exact HB.out | apply zAc | apply zAd | apply zAg | refine zAh ?_ GE122.out) | exact HB.out)⟩
      rw [if_neg c33] at H
      have c33b0 : ((rdOf ByteArray.empty l0_3 x42_1).toList == t123.toList) = false := beq_eq_false_iff_ne.mpr c33
      have c33b1 : ((rdOf ByteArray.empty l0_3 x42_1).toList != t123.toList) = true := bne_iff_ne.mpr c33
      have H' := Aside0.mk H
      clear H
      have p125 : 0 ≤ (x42_1 : Int) := zO (by first | (with_reducible assumption) | assumption)
      have q125 : x42_1 < (l0_3.length : Int) := zO (by first | (with_reducible assumption) | assumption)
      obtain ⟨ad125, e125, hx125_0⟩ := Kd.at_string HR0_3.out x42_1 p125 q125
      cases e125
      replace hx125_0 := (HB.out.cell (World.block_lt_of_cell? w _ hx125_0)).trans hx125_0
      replace p125 := eq_true p125
      replace q125 := eq_true q125
      go_wp2
      go_roundg k1
      case measure => have := HK1.out; omega
      case rel => exact ⟨(wrap64 (x42_1 + 1)), (by first | rfl | (simp; done) | (simp [*]; done)), H', ⟨by have := HK1.out; omega⟩, ⟨by (with_reducible repeat (first | refine zAj ?_ _ | refine zAm ?_ | refine blk_alloc ?_ _)); exact BK122.out⟩, ⟨by repeat (first | (with_reducible first | exact HB.out | apply zAc | apply zAd | apply zAg | refine zAh ?_ GE122.out) | exact HB.out)⟩⟩
     rw [if_neg c32] at H
     exact absurd H (by simp)
    rw [if_neg c31] at H
    exact absurd H (by simp)
   rw [if_neg c30] at H
   have c30b0 : decide (x42_1 < (l0_3.length : Int)) = false := zF c30
   clear c30
   obtain rfl := Option.some.inj H
   go_wp2
   go_ret
   exact ⟨by first | rfl | (simp [zAl, zAk] <;> rfl) | (simp [*, zAl, zAk] <;> rfl), by repeat (first | (with_reducible first | exact HB.out | apply zAc | apply zAd | apply zAg | refine zAh ?_ GE122.out) | exact HB.out)⟩
 rw [if_neg c25] at H
 have c25b0 : (a0_0 == 4) = false := beq_eq_false_iff_ne.mpr c25
 have c25b1 : (a0_0 != 4) = true := bne_iff_ne.mpr c25
 by_cases c34 : a0_0 = 7
 ·rw [if_pos c34] at H
  have c34b0 : (a0_0 == 7) = true := beq_iff_eq.mpr c34
  have c34b1 : (a0_0 != 7) = false := bne_eq_false_iff_eq.mpr c34
  clear c34
  by_cases c35 : 0 < (l0_4.length : Int)
  ·rw [if_pos c35] at H
   have c35b0 : decide (0 < (l0_4.length : Int)) = true := zT c35
   have c35b1 : decide (0 < l0_4.length) = true := zT (by omega)
   clear c35
   replace H := Option.bind_eq_some_iff.mp H
   obtain ⟨t127, A360, H⟩ := H
   replace H : (some (!t127)) = some r := H
   have A36 := Aside0.mk A360
   clear A360
   obtain rfl := Option.some.inj H
   go_enter Try.func108, Try.ntmps108
   go_wp2_with (first | ((with_reducible refine zBe (N := 2) rfl ?_); refine zBb ?hg (N := 2) ?hd (cs := #[.int .i64 a0_0, .string a0_1, .string a0_2, .slice A0_3 l0_3.length c0_3, .slice A0_4 l0_4.length c0_4]) (t := 25) ?hr ?_; (case hd => rfl); (case hg => rfl); (case hr => first | (go_simp; done) | (go_simp; rfl)); intro gb122 hg w37 hbox hb; have n0_ := Aside0.mk (zAe (by repeat (first | (with_reducible first | exact HB.out | apply zAc | apply zAd | apply zAg) | exact HB.out)) hb); have n1_ := Aside0.mk (hbox); have n2_ := Aside0.mk ((by rw [hg]; exact (zAi (by repeat (first | (with_reducible first | exact HB.out | apply zAc | apply zAd | apply zAg) | exact HB.out))) : w.heap.size ≤ gb122)); have n3_ := Aside0.mk ((by rw [hg]; exact (zAi (by repeat (first | (with_reducible first | exact HB.out | apply zAc | apply zAd | apply zAg) | exact HB.out))) : w.heap.size ≤ gb122)); clear HB; have HB := n0_; have BK122 := n1_; have GW122 := n2_; have GE122 := n3_; clear n0_ n1_ n2_ n3_; clear hb hbox hg; have hcz38_0 : w37.cell? ⟨gb122, 0, none⟩ = some (.int .i64 a0_0) := (zAb BK122.out 0).trans rfl; have hcz38_1 : w37.cell? ⟨gb122, 1, none⟩ = some (.string a0_1) := (zAb BK122.out 1).trans rfl; have hcz38_2 : w37.cell? ⟨gb122, 2, none⟩ = some (.string a0_2) := (zAb BK122.out 2).trans rfl; have hcz38_3 : w37.cell? ⟨gb122, 3, none⟩ = some (.slice A0_3 l0_3.length c0_3) := (zAb BK122.out 3).trans rfl; have hcz38_4 : w37.cell? ⟨gb122, 4, none⟩ = some (.slice A0_4 l0_4.length c0_4) := (zAb BK122.out 4).trans rfl; have hfz38_0 := zAa BK122.out 0; have hfz38_1 := zAa BK122.out 1; have hfz38_2 := zAa BK122.out 2; have hfz38_3 := zAa BK122.out 3; have hfz38_4 := zAa BK122.out 4) | ((with_reducible refine zBj (f := 65) rfl ?_); refine zDx (some 14) rfl rfl Try.func65 (by kernel_rfl) rfl #[.slice A1 l1.length c1, .string a0_1] rfl (by (try simp only [List.map_toArray, List.map_cons, List.map_nil]); first | done | rfl | (simp only [List.length_drop, List.length_take]; rfl)) ?_; (with_reducible refine (label_Value.calls k _ _ l1 a0_1 t123 _ ?side1 ?side2 A3.out).mono ?_); (case side1 => repeat (first | exact (Kd.C_below HR1.out HB.out) | (with_reducible refine Kd.C_alloc ?_ _) | (with_reducible refine Kd.C_drewN ?_ _) | (with_reducible refine Kd.C_drew ?_))); (case side2 => exact HC1.out); rintro e w39 ⟨rfl, hb⟩; refine ⟨_, rfl, ?_⟩; have n0_ := Aside0.mk (zBo (g := gb122) (o := .cells #[.int .i64 a0_0, .string a0_1, .string a0_2, .slice A0_3 l0_3.length c0_3, .slice A0_4 l0_4.length c0_4] 25 (0, 0)) (by (with_reducible repeat (first | refine zAj ?_ _ | refine zAm ?_ | refine blk_alloc ?_ _)); exact BK122.out) hb); have n1_ := Aside0.mk (zAe (by repeat (first | (with_reducible first | exact HB.out | apply zAc | apply zAd | apply zAg | refine zAh ?_ GE122.out) | exact HB.out)) hb); clear BK122; clear HB; have BK122 := n0_; have HB := n1_; clear n0_ n1_; (try clear hb); (try clear hb2); (try clear hk); (try clear hi); have hcz40_0 : w39.cell? ⟨gb122, 0, none⟩ = some (.int .i64 a0_0) := (zAb BK122.out 0).trans rfl; have hcz40_1 : w39.cell? ⟨gb122, 1, none⟩ = some (.string a0_1) := (zAb BK122.out 1).trans rfl; have hcz40_2 : w39.cell? ⟨gb122, 2, none⟩ = some (.string a0_2) := (zAb BK122.out 2).trans rfl; have hcz40_3 : w39.cell? ⟨gb122, 3, none⟩ = some (.slice A0_3 l0_3.length c0_3) := (zAb BK122.out 3).trans rfl; have hcz40_4 : w39.cell? ⟨gb122, 4, none⟩ = some (.slice A0_4 l0_4.length c0_4) := (zAb BK122.out 4).trans rfl; have hfz40_0 := zAa BK122.out 0; have hfz40_1 := zAa BK122.out 1; have hfz40_2 := zAa BK122.out 2; have hfz40_3 := zAa BK122.out 3; have hfz40_4 := zAa BK122.out 4; have p126 : 0 ≤ (0 : Int) := (by omega); have q126 : 0 < (l0_4.length : Int) := zO (by first | (with_reducible assumption) | assumption); obtain ⟨ad126, A126_3, c126_3, A126_4, c126_4, e126, hx126_0, hx126_1, hx126_2, hx126_3, hx126_4, hl126_3, hi126_3, hl126_4, hi126_4⟩ := at_T25 HR0_4.out 0 p126 q126; cases e126; have qi126 : (0 < l0_4.length) = True := eq_true (by omega); (try rw [show ((0 : Int)).toNat = 0 from rfl] at hx126_0); (try rw [show 0 * 5 = 0 from rfl] at hx126_0); (try rw [Addr.add_zero'] at hx126_0); (try rw [show ((0 : Int)).toNat = 0 from rfl] at hx126_1); (try rw [show 0 * 5 = 0 from rfl] at hx126_1); (try rw [Addr.add_zero'] at hx126_1); (try rw [show ((0 : Int)).toNat = 0 from rfl] at hx126_2); (try rw [show 0 * 5 = 0 from rfl] at hx126_2); (try rw [Addr.add_zero'] at hx126_2); (try rw [show ((0 : Int)).toNat = 0 from rfl] at hx126_3); (try rw [show 0 * 5 = 0 from rfl] at hx126_3); (try rw [Addr.add_zero'] at hx126_3); (try rw [show ((0 : Int)).toNat = 0 from rfl] at hx126_4); (try rw [show 0 * 5 = 0 from rfl] at hx126_4); (try rw [Addr.add_zero'] at hx126_4); replace hx126_0 := (HB.out.cell (World.block_lt_of_cell? w _ hx126_0)).trans hx126_0; replace hx126_1 := (HB.out.cell (World.block_lt_of_cell? w _ hx126_1)).trans hx126_1; replace hx126_2 := (HB.out.cell (World.block_lt_of_cell? w _ hx126_2)).trans hx126_2; replace hx126_3 := (HB.out.cell (World.block_lt_of_cell? w _ hx126_3)).trans hx126_3; replace hx126_4 := (HB.out.cell (World.block_lt_of_cell? w _ hx126_4)).trans hx126_4; have HR126_3 := Aside0.mk hi126_3; have HC126_3 := Aside0.mk hl126_3; clear hi126_3 hl126_3; have HR126_4 := Aside0.mk hi126_4; have HC126_4 := Aside0.mk hl126_4; clear hi126_4 hl126_4; replace p126 := eq_true p126; replace q126 := eq_true q126) | ((with_reducible refine zBj (f := 108) rfl ?_); refine zDx (some 57) rfl rfl Try.func108 (by kernel_rfl) rfl #[.agg #[.int .i64 ((zAu l0_4 0).f0), .string ((zAu l0_4 0).f1), .string ((zAu l0_4 0).f2), .slice A126_3 ((zAu l0_4 0).f3).length c126_3, .slice A126_4 ((zAu l0_4 0).f4).length c126_4], .slice A1 l1.length c1] rfl (by (try simp only [List.map_toArray, List.map_cons, List.map_nil]); first | done | rfl | (simp only [List.length_drop, List.length_take]; rfl)) ?_; (with_reducible refine (ih k (by omega) ((zAu l0_4 0).f0) ((zAu l0_4 0).f1) ((zAu l0_4 0).f2) _ _ ((zAu l0_4 0).f3) _ _ ((zAu l0_4 0).f4) _ _ l1 t127 _ ?side1 ?side2 ?side3 ?side4 ?side5 ?side6 A36.out).mono ?_); (case side1 => repeat (first | exact (Kd.C_below HR126_3.out HB.out) | (with_reducible refine Kd.C_alloc ?_ _) | (with_reducible refine Kd.C_drewN ?_ _) | (with_reducible refine Kd.C_drew ?_))); (case side2 => exact HC126_3.out); (case side3 => repeat (first | exact (Kd.C_below HR126_4.out HB.out) | (with_reducible refine Kd.C_alloc ?_ _) | (with_reducible refine Kd.C_drewN ?_ _) | (with_reducible refine Kd.C_drew ?_))); (case side4 => exact HC126_4.out); (case side5 => repeat (first | exact (Kd.C_below HR1.out HB.out) | (with_reducible refine Kd.C_alloc ?_ _) | (with_reducible refine Kd.C_drewN ?_ _) | (with_reducible refine Kd.C_drew ?_))); (case side6 => exact HC1.out); rintro e w41 ⟨rfl, hb⟩; refine ⟨_, rfl, ?_⟩; have n0_ := Aside0.mk (zBo (g := gb122) (o := .cells #[.int .i64 a0_0, .string a0_1, .string a0_2, .slice A0_3 l0_3.length c0_3, .slice (some ad126) l0_4.length c0_4] 25 (0, 0)) (by (with_reducible repeat (first | refine zAj ?_ _ | refine zAm ?_ | refine blk_alloc ?_ _)); exact BK122.out) hb); have n1_ := Aside0.mk (zAe (by repeat (first | (with_reducible first | exact HB.out | apply zAc | apply zAd | apply zAg | refine zAh ?_ GE122.out) | exact HB.out)) hb); clear BK122; clear HB; have BK122 := n0_; have HB := n1_; clear n0_ n1_; (try clear hb); (try clear hb2); (try clear hk); (try clear hi)))
   go_ret
   exact ⟨by first | rfl | (simp [zAl, zAk] <;> rfl) | (simp [*, zAl, zAk] <;> rfl), by repeat (first | (with_reducible first | exact HB.out | apply zAc | apply zAd | apply zAg | refine zAh ?_ GE122.out) | exact HB.out)⟩
  rw [if_neg c35] at H
  exact absurd H (by simp)
 rw [if_neg c34] at H
 have c34b0 : (a0_0 == 7) = false := beq_eq_false_iff_ne.mpr c34
 have c34b1 : (a0_0 != 7) = true := bne_iff_ne.mpr c34
 have H' := Aside0.mk H
 clear H
 go_enter Try.func108, Try.ntmps108
 go_wp2_with (first | ((with_reducible refine zBe (N := 2) rfl ?_); refine zBb ?hg (N := 2) ?hd (cs := #[.int .i64 a0_0, .string a0_1, .string a0_2, .slice A0_3 l0_3.length c0_3, .slice A0_4 l0_4.length c0_4]) (t := 25) ?hr ?_; (case hd => rfl); (case hg => rfl); (case hr => first | (go_simp; done) | (go_simp; rfl)); intro gb122 hg w42 hbox hb; have n0_ := Aside0.mk (zAe (by repeat (first | (with_reducible first | exact HB.out | apply zAc | apply zAd | apply zAg) | exact HB.out)) hb); have n1_ := Aside0.mk (hbox); have n2_ := Aside0.mk ((by rw [hg]; exact (zAi (by repeat (first | (with_reducible first | exact HB.out | apply zAc | apply zAd | apply zAg) | exact HB.out))) : w.heap.size ≤ gb122)); have n3_ := Aside0.mk ((by rw [hg]; exact (zAi (by repeat (first | (with_reducible first | exact HB.out | apply zAc | apply zAd | apply zAg) | exact HB.out))) : w.heap.size ≤ gb122)); clear HB; have HB := n0_; have BK122 := n1_; have GW122 := n2_; have GE122 := n3_; clear n0_ n1_ n2_ n3_; clear hb hbox hg; have hcz43_0 : w42.cell? ⟨gb122, 0, none⟩ = some (.int .i64 a0_0) := (zAb BK122.out 0).trans rfl; have hcz43_1 : w42.cell? ⟨gb122, 1, none⟩ = some (.string a0_1) := (zAb BK122.out 1).trans rfl; have hcz43_2 : w42.cell? ⟨gb122, 2, none⟩ = some (.string a0_2) := (zAb BK122.out 2).trans rfl; have hcz43_3 : w42.cell? ⟨gb122, 3, none⟩ = some (.slice A0_3 l0_3.length c0_3) := (zAb BK122.out 3).trans rfl; have hcz43_4 : w42.cell? ⟨gb122, 4, none⟩ = some (.slice A0_4 l0_4.length c0_4) := (zAb BK122.out 4).trans rfl; have hfz43_0 := zAa BK122.out 0; have hfz43_1 := zAa BK122.out 1; have hfz43_2 := zAa BK122.out 2; have hfz43_3 := zAa BK122.out 3; have hfz43_4 := zAa BK122.out 4) | ((with_reducible refine zBj (f := 65) rfl ?_); refine zDx (some 14) rfl rfl Try.func65 (by kernel_rfl) rfl #[.slice A1 l1.length c1, .string a0_1] rfl (by (try simp only [List.map_toArray, List.map_cons, List.map_nil]); first | done | rfl | (simp only [List.length_drop, List.length_take]; rfl)) ?_; (with_reducible refine (label_Value.calls k _ _ l1 a0_1 t123 _ ?side1 ?side2 A3.out).mono ?_); (case side1 => repeat (first | exact (Kd.C_below HR1.out HB.out) | (with_reducible refine Kd.C_alloc ?_ _) | (with_reducible refine Kd.C_drewN ?_ _) | (with_reducible refine Kd.C_drew ?_))); (case side2 => exact HC1.out); rintro e w44 ⟨rfl, hb⟩; refine ⟨_, rfl, ?_⟩; have n0_ := Aside0.mk (zBo (g := gb122) (o := .cells #[.int .i64 a0_0, .string a0_1, .string a0_2, .slice A0_3 l0_3.length c0_3, .slice A0_4 l0_4.length c0_4] 25 (0, 0)) (by (with_reducible repeat (first | refine zAj ?_ _ | refine zAm ?_ | refine blk_alloc ?_ _)); exact BK122.out) hb); have n1_ := Aside0.mk (zAe (by repeat (first | (with_reducible first | exact HB.out | apply zAc | apply zAd | apply zAg | refine zAh ?_ GE122.out) | exact HB.out)) hb); clear BK122; clear HB; have BK122 := n0_; have HB := n1_; clear n0_ n1_; (try clear hb); (try clear hb2); (try clear hk); (try clear hi); have hcz45_0 : w44.cell? ⟨gb122, 0, none⟩ = some (.int .i64 a0_0) := (zAb BK122.out 0).trans rfl; have hcz45_1 : w44.cell? ⟨gb122, 1, none⟩ = some (.string a0_1) := (zAb BK122.out 1).trans rfl; have hcz45_2 : w44.cell? ⟨gb122, 2, none⟩ = some (.string a0_2) := (zAb BK122.out 2).trans rfl; have hcz45_3 : w44.cell? ⟨gb122, 3, none⟩ = some (.slice A0_3 l0_3.length c0_3) := (zAb BK122.out 3).trans rfl; have hcz45_4 : w44.cell? ⟨gb122, 4, none⟩ = some (.slice A0_4 l0_4.length c0_4) := (zAb BK122.out 4).trans rfl; have hfz45_0 := zAa BK122.out 0; have hfz45_1 := zAa BK122.out 1; have hfz45_2 := zAa BK122.out 2; have hfz45_3 := zAa BK122.out 3; have hfz45_4 := zAa BK122.out 4))
 go_loopg [65] k (fun kq v65 w' => ∃ (x65_1 : Int), v65 = .int .i64 x65_1 ∧ Aside0 (match_eval.l1 kq l1 (a0_0 == 6) l0_4 (l0_4.length : Int) x65_1 = some r) ∧ Aside0 (kq ≤ k) ∧ Aside0 (w'.heap[gb122]? = some (.cells #[.int .i64 a0_0, .string a0_1, .string a0_2, (.slice A0_3 l0_3.length c0_3), (.slice A0_4 l0_4.length c0_4)] 25 (0, 0))) ∧ Aside0 (Below w.heap.size w w'))
 case atStart => exact ⟨(0), (by first | rfl | (simp; done) | (simp [*]; done)), H', ⟨Nat.le_refl _⟩, ⟨by (with_reducible repeat (first | refine zAj ?_ _ | refine zAm ?_ | refine blk_alloc ?_ _)); exact BK122.out⟩, ⟨by repeat (first | (with_reducible first | exact HB.out | apply zAc | apply zAd | apply zAg | refine zAh ?_ GE122.out) | exact HB.out)⟩⟩
 case round =>
  clear H'
  try clear c1
  try clear p1
  try clear q1
  try clear hx1
  try clear qi1
  try clear c2
  try clear p2
  try clear c3
  try clear c4
  try clear c4b0
  try clear c4b1
  try clear c6
  try clear p6
  try clear c9
  try clear c9b0
  try clear c9b1
  try clear c10
  try clear c12
  try clear p12
  try clear q12
  try clear hx12
  try clear qi12
  try clear c14
  try clear c14b0
  try clear c14b1
  try clear c15
  try clear c19
  try clear c19b0
  try clear c19b1
  try clear c25
  try clear c25b0
  try clear c25b1
  try clear c30
  try clear c30b0
  try clear c31
  try clear c31b0
  try clear c32
  try clear c32b0
  try clear c33
  try clear c33b0
  try clear c33b1
  try clear c34
  try clear c34b0
  try clear c34b1
  try clear c35
  try clear c35b0
  try clear c35b1
  try clear hcz11_0
  try clear hcz11_1
  try clear hcz11_2
  try clear hcz11_3
  try clear hcz11_4
  try clear hcz13_0
  try clear hcz13_1
  try clear hcz13_2
  try clear hcz13_3
  try clear hcz13_4
  try clear hcz16_0
  try clear hcz16_1
  try clear hcz16_2
  try clear hcz16_3
  try clear hcz16_4
  try clear hcz18_0
  try clear hcz18_1
  try clear hcz18_2
  try clear hcz18_3
  try clear hcz18_4
  try clear hcz22_0
  try clear hcz22_1
  try clear hcz22_2
  try clear hcz22_3
  try clear hcz22_4
  try clear hcz24_0
  try clear hcz24_1
  try clear hcz24_2
  try clear hcz24_3
  try clear hcz24_4
  try clear hcz27_0
  try clear hcz27_1
  try clear hcz27_2
  try clear hcz27_3
  try clear hcz27_4
  try clear hcz29_0
  try clear hcz29_1
  try clear hcz29_2
  try clear hcz29_3
  try clear hcz29_4
  try clear hcz38_0
  try clear hcz38_1
  try clear hcz38_2
  try clear hcz38_3
  try clear hcz38_4
  try clear hcz40_0
  try clear hcz40_1
  try clear hcz40_2
  try clear hcz40_3
  try clear hcz40_4
  try clear hcz43_0
  try clear hcz43_1
  try clear hcz43_2
  try clear hcz43_3
  try clear hcz43_4
  try clear hcz45_0
  try clear hcz45_1
  try clear hcz45_2
  try clear hcz45_3
  try clear hcz45_4
  try clear hcz6_0
  try clear hcz6_1
  try clear hcz6_2
  try clear hcz6_3
  try clear hcz6_4
  try clear hcz8_0
  try clear hcz8_1
  try clear hcz8_2
  try clear hcz8_3
  try clear hcz8_4
  try clear hfz11_0
  try clear hfz11_1
  try clear hfz11_2
  try clear hfz11_3
  try clear hfz11_4
  try clear hfz13_0
  try clear hfz13_1
  try clear hfz13_2
  try clear hfz13_3
  try clear hfz13_4
  try clear hfz16_0
  try clear hfz16_1
  try clear hfz16_2
  try clear hfz16_3
  try clear hfz16_4
  try clear hfz18_0
  try clear hfz18_1
  try clear hfz18_2
  try clear hfz18_3
  try clear hfz18_4
  try clear hfz22_0
  try clear hfz22_1
  try clear hfz22_2
  try clear hfz22_3
  try clear hfz22_4
  try clear hfz24_0
  try clear hfz24_1
  try clear hfz24_2
  try clear hfz24_3
  try clear hfz24_4
  try clear hfz27_0
  try clear hfz27_1
  try clear hfz27_2
  try clear hfz27_3
  try clear hfz27_4
  try clear hfz29_0
  try clear hfz29_1
  try clear hfz29_2
  try clear hfz29_3
  try clear hfz29_4
  try clear hfz38_0
  try clear hfz38_1
  try clear hfz38_2
  try clear hfz38_3
  try clear hfz38_4
  try clear hfz40_0
  try clear hfz40_1
  try clear hfz40_2
  try clear hfz40_3
  try clear hfz40_4
  try clear hfz43_0
  try clear hfz43_1
  try clear hfz43_2
  try clear hfz43_3
  try clear hfz43_4
  try clear hfz45_0
  try clear hfz45_1
  try clear hfz45_2
  try clear hfz45_3
  try clear hfz45_4
  try clear hfz6_0
  try clear hfz6_1
  try clear hfz6_2
  try clear hfz6_3
  try clear hfz6_4
  try clear hfz8_0
  try clear hfz8_1
  try clear hfz8_2
  try clear hfz8_3
  try clear hfz8_4
  try clear hx125_0
  try clear hx126_0
  try clear hx126_1
  try clear hx126_2
  try clear hx126_3
  try clear hx126_4
  try clear p125
  try clear p126
  try clear p2
  try clear q125
  try clear q126
  obtain ⟨x65_1, rfl, HA, HK1, BK122, HB⟩ := hrel
  cases gk with
  | zero => exact absurd HA.out (by simp [match_eval.l1])
  | succ k1 =>
  have H := HA.out
  clear HA
  simp only [match_eval.l1] at H
  by_cases c46 : x65_1 < (l0_4.length : Int)
  ·rw [if_pos c46] at H
   have c46b0 : decide (x65_1 < (l0_4.length : Int)) = true := zT c46
   clear c46
   by_cases c47 : 0 ≤ x65_1
   ·rw [if_pos c47] at H
    have c47b0 : decide (0 ≤ x65_1) = true := zT c47
    clear c47
    by_cases c48 : x65_1 < (l0_4.length : Int)
    ·rw [if_pos c48] at H
     have c48b0 : decide (x65_1 < (l0_4.length : Int)) = true := zT c48
     clear c48
     replace H := Option.bind_eq_some_iff.mp H
     obtain ⟨t130, A490, H⟩ := H
     replace H : (if (t130 == (a0_0 == 6)) = true then (some (a0_0 == 6)) else (match_eval.l1 k1 l1 (a0_0 == 6) l0_4 (l0_4.length : Int) (wrap64 (x65_1 + 1)))) = some r := H
     have A49 := Aside0.mk A490
     clear A490
     by_cases c50 : (t130 == (a0_0 == 6)) = true
     ·rw [if_pos c50] at H
      have c50b0 : (t130 == (a0_0 == 6)) = true := c50
      (try (have c50b1 : decide (t130 = (a0_0 == 6)) = true := by simpa using c50))
      (try (have c50b2 : (t130 == (a0_0 == 6)) = true := by simpa using c50))
      clear c50
      obtain rfl := Option.some.inj H
      have p128 : 0 ≤ (x65_1 : Int) := zO (by first | (with_reducible assumption) | assumption)
      have q128 : x65_1 < (l0_4.length : Int) := zO (by first | (with_reducible assumption) | assumption)
      obtain ⟨ad128, A128_3, c128_3, A128_4, c128_4, e128, hx128_0, hx128_1, hx128_2, hx128_3, hx128_4, hl128_3, hi128_3, hl128_4, hi128_4⟩ := at_T25 HR0_4.out x65_1 p128 q128
      cases e128
      replace hx128_0 := (HB.out.cell (World.block_lt_of_cell? w _ hx128_0)).trans hx128_0
      replace hx128_1 := (HB.out.cell (World.block_lt_of_cell? w _ hx128_1)).trans hx128_1
      replace hx128_2 := (HB.out.cell (World.block_lt_of_cell? w _ hx128_2)).trans hx128_2
      replace hx128_3 := (HB.out.cell (World.block_lt_of_cell? w _ hx128_3)).trans hx128_3
      replace hx128_4 := (HB.out.cell (World.block_lt_of_cell? w _ hx128_4)).trans hx128_4
      have HR128_3 := Aside0.mk hi128_3
      have HC128_3 := Aside0.mk hl128_3
      clear hi128_3 hl128_3
      have HR128_4 := Aside0.mk hi128_4
      have HC128_4 := Aside0.mk hl128_4
      clear hi128_4 hl128_4
      replace p128 := eq_true p128
      replace q128 := eq_true q128
      go_wp2_with (first | ((with_reducible refine zBe (N := 10) rfl ?_); refine zBb ?hg (N := 10) ?hd (cs := #[.int .i64 0, .string (⟨#[]⟩ : ByteArray), .string (⟨#[]⟩ : ByteArray), .slice none 0 0, .slice none 0 0]) (t := 25) ?hr ?_; (case hd => rfl); (case hg => rfl); (case hr => first | (go_simp; done) | (go_simp; rfl)); intro gb129 hg w51 hbox hb; have n0_ := Aside0.mk (zBo (g := gb122) (o := .cells #[.int .i64 a0_0, .string a0_1, .string a0_2, .slice A0_3 l0_3.length c0_3, .slice (some ad128) l0_4.length c0_4] 25 (0, 0)) (by (with_reducible repeat (first | refine zAj ?_ _ | refine zAm ?_ | refine blk_alloc ?_ _)); exact BK122.out) hb); have n1_ := Aside0.mk (zAe (by repeat (first | (with_reducible first | exact HB.out | apply zAc | apply zAd | apply zAg | refine zAh ?_ GE122.out) | exact HB.out)) hb); have n2_ := Aside0.mk (hbox); have n3_ := Aside0.mk ((by rw [hg]; exact (zAi (by repeat (first | (with_reducible first | exact HB.out | apply zAc | apply zAd | apply zAg | refine zAh ?_ GE122.out) | exact HB.out))) : w.heap.size ≤ gb129)); have n4_ := Aside0.mk ((by rw [hg]; exact (zAi (by repeat (first | (with_reducible first | exact HB.out | apply zAc | apply zAd | apply zAg | refine zAh ?_ GE122.out) | exact HB.out))) : w.heap.size ≤ gb129)); have n5_ := Aside0.mk ((by rw [hg]; exact Nat.ne_of_lt (zAp (g := gb122) (o := .cells #[.int .i64 a0_0, .string a0_1, .string a0_2, .slice A0_3 l0_3.length c0_3, .slice (some ad128) l0_4.length c0_4] 25 (0, 0)) (by (with_reducible repeat (first | refine zAj ?_ _ | refine zAm ?_ | refine blk_alloc ?_ _)); exact BK122.out)) : gb122 ≠ gb129)); have n6_ := Aside0.mk ((by rw [hg]; exact Nat.ne_of_gt (zAp (g := gb122) (o := .cells #[.int .i64 a0_0, .string a0_1, .string a0_2, .slice A0_3 l0_3.length c0_3, .slice (some ad128) l0_4.length c0_4] 25 (0, 0)) (by (with_reducible repeat (first | refine zAj ?_ _ | refine zAm ?_ | refine blk_alloc ?_ _)); exact BK122.out)) : gb129 ≠ gb122)); clear BK122; clear HB; have BK122 := n0_; have HB := n1_; have BK129 := n2_; have GW129 := n3_; have GE129 := n4_; have NB122_129 := n5_; have NB129_122 := n6_; clear n0_ n1_ n2_ n3_ n4_ n5_ n6_; clear hb hbox hg; have hnb52 := NB129_122.out; have hnc52 := NB122_129.out; have hcz53_0 : w51.cell? ⟨gb129, 0, none⟩ = some (.int .i64 0) := (zAb BK129.out 0).trans rfl; have hcz53_1 : w51.cell? ⟨gb129, 1, none⟩ = some (.string (⟨#[]⟩ : ByteArray)) := (zAb BK129.out 1).trans rfl; have hcz53_2 : w51.cell? ⟨gb129, 2, none⟩ = some (.string (⟨#[]⟩ : ByteArray)) := (zAb BK129.out 2).trans rfl; have hcz53_3 : w51.cell? ⟨gb129, 3, none⟩ = some (.slice none 0 0) := (zAb BK129.out 3).trans rfl; have hcz53_4 : w51.cell? ⟨gb129, 4, none⟩ = some (.slice none 0 0) := (zAb BK129.out 4).trans rfl; have hfz53_0 := zAa BK129.out 0; have hfz53_1 := zAa BK129.out 1; have hfz53_2 := zAa BK129.out 2; have hfz53_3 := zAa BK129.out 3; have hfz53_4 := zAa BK129.out 4) | ((with_reducible refine zBj (f := 108) rfl ?_); refine zDx (some 71) rfl rfl Try.func108 (by kernel_rfl) rfl #[.agg #[.int .i64 ((zAu l0_4 x65_1).f0), .string ((zAu l0_4 x65_1).f1), .string ((zAu l0_4 x65_1).f2), .slice A128_3 ((zAu l0_4 x65_1).f3).length c128_3, .slice A128_4 ((zAu l0_4 x65_1).f4).length c128_4], .slice A1 l1.length c1] rfl (by (try simp only [List.map_toArray, List.map_cons, List.map_nil]); first | done | rfl | (simp only [List.length_drop, List.length_take]; rfl)) ?_; (with_reducible refine (ih k1 (by have := HK1.out; omega) ((zAu l0_4 x65_1).f0) ((zAu l0_4 x65_1).f1) ((zAu l0_4 x65_1).f2) _ _ ((zAu l0_4 x65_1).f3) _ _ ((zAu l0_4 x65_1).f4) _ _ l1 t130 _ ?side1 ?side2 ?side3 ?side4 ?side5 ?side6 A49.out).mono ?_); (case side1 => exact Kd.C_below HR128_3.out (by repeat (first | (with_reducible first | exact HB.out | apply zAc | apply zAd | apply zAg | refine zAh ?_ GE122.out | refine zAh ?_ GE129.out) | exact HB.out))); (case side2 => exact HC128_3.out); (case side3 => exact Kd.C_below HR128_4.out (by repeat (first | (with_reducible first | exact HB.out | apply zAc | apply zAd | apply zAg | refine zAh ?_ GE122.out | refine zAh ?_ GE129.out) | exact HB.out))); (case side4 => exact HC128_4.out); (case side5 => exact Kd.C_below HR1.out (by repeat (first | (with_reducible first | exact HB.out | apply zAc | apply zAd | apply zAg | refine zAh ?_ GE122.out | refine zAh ?_ GE129.out) | exact HB.out))); (case side6 => exact HC1.out); rintro e w54 ⟨rfl, hb⟩; refine ⟨_, rfl, ?_⟩; have n0_ := Aside0.mk (zBo (g := gb122) (o := .cells #[.int .i64 a0_0, .string a0_1, .string a0_2, .slice A0_3 l0_3.length c0_3, .slice (some ad128) l0_4.length c0_4] 25 (0, 0)) (by (with_reducible repeat (first | refine zAj ?_ _ | refine zAm ?_ | refine blk_alloc ?_ _)); refine zBk ?_ NB122_129.out _; (with_reducible repeat (first | refine zAj ?_ _ | refine zAm ?_ | refine blk_alloc ?_ _)); refine zBk ?_ NB122_129.out _; (with_reducible repeat (first | refine zAj ?_ _ | refine zAm ?_ | refine blk_alloc ?_ _)); refine zBk ?_ NB122_129.out _; (with_reducible repeat (first | refine zAj ?_ _ | refine zAm ?_ | refine blk_alloc ?_ _)); refine zBk ?_ NB122_129.out _; (with_reducible repeat (first | refine zAj ?_ _ | refine zAm ?_ | refine blk_alloc ?_ _)); refine zBk ?_ NB122_129.out _; (with_reducible repeat (first | refine zAj ?_ _ | refine zAm ?_ | refine blk_alloc ?_ _)); exact BK122.out) hb); have n1_ := Aside0.mk (zBo (g := gb129) (o := .cells #[.int .i64 ((zAu l0_4 x65_1).f0), .string ((zAu l0_4 x65_1).f1), .string ((zAu l0_4 x65_1).f2), .slice A128_3 ((zAu l0_4 x65_1).f3).length c128_3, .slice A128_4 ((zAu l0_4 x65_1).f4).length c128_4] 25 (0, 0)) (by (with_reducible repeat (first | refine zAj ?_ _ | refine zAm ?_ | refine blk_alloc ?_ _)); refine zBv (cs := #[.int .i64 ((zAu l0_4 x65_1).f0), .string ((zAu l0_4 x65_1).f1), .string ((zAu l0_4 x65_1).f2), .slice A128_3 ((zAu l0_4 x65_1).f3).length c128_3, .slice none 0 0]) ?_ 4 _ rfl; (with_reducible repeat (first | refine zAj ?_ _ | refine zAm ?_ | refine blk_alloc ?_ _)); refine zBv (cs := #[.int .i64 ((zAu l0_4 x65_1).f0), .string ((zAu l0_4 x65_1).f1), .string ((zAu l0_4 x65_1).f2), .slice none 0 0, .slice none 0 0]) ?_ 3 _ rfl; (with_reducible repeat (first | refine zAj ?_ _ | refine zAm ?_ | refine blk_alloc ?_ _)); refine zBv (cs := #[.int .i64 ((zAu l0_4 x65_1).f0), .string ((zAu l0_4 x65_1).f1), .string (⟨#[]⟩ : ByteArray), .slice none 0 0, .slice none 0 0]) ?_ 2 _ rfl; (with_reducible repeat (first | refine zAj ?_ _ | refine zAm ?_ | refine blk_alloc ?_ _)); refine zBv (cs := #[.int .i64 ((zAu l0_4 x65_1).f0), .string (⟨#[]⟩ : ByteArray), .string (⟨#[]⟩ : ByteArray), .slice none 0 0, .slice none 0 0]) ?_ 1 _ rfl; (with_reducible repeat (first | refine zAj ?_ _ | refine zAm ?_ | refine blk_alloc ?_ _)); refine zBv (cs := #[.int .i64 0, .string (⟨#[]⟩ : ByteArray), .string (⟨#[]⟩ : ByteArray), .slice none 0 0, .slice none 0 0]) ?_ 0 _ rfl; (with_reducible repeat (first | refine zAj ?_ _ | refine zAm ?_ | refine blk_alloc ?_ _)); exact BK129.out) hb); have n2_ := Aside0.mk (zAe (by repeat (first | (with_reducible first | exact HB.out | apply zAc | apply zAd | apply zAg | refine zAh ?_ GE122.out | refine zAh ?_ GE129.out) | exact HB.out)) hb); clear BK122; clear BK129; clear HB; have BK122 := n0_; have BK129 := n1_; have HB := n2_; clear n0_ n1_ n2_; (try clear hb); (try clear hb2); (try clear hk); (try clear hi)))
      go_ret
      exact ⟨by first | rfl | (simp [zAl, zAk] <;> rfl) | (simp [*, zAl, zAk] <;> rfl), by repeat (first | (with_reducible first | exact HB.out | apply zAc | apply zAd | apply zAg | refine zAh ?_ GE122.out | refine zAh ?_ GE129.out) | exact HB.out)⟩
     rw [if_neg c50] at H
     have c50b0 : (t130 == (a0_0 == 6)) = false := by simpa using c50
     (try (have c50b1 : decide (t130 = (a0_0 == 6)) = false := by simpa using c50))
     (try (have c50b2 : (t130 == (a0_0 == 6)) = false := by simpa using c50))
     (try (have c50b3 : ¬ (t130 = (a0_0 == 6)) := by simpa using c50))
     clear c50
     have H' := Aside0.mk H
     clear H
     have p128 : 0 ≤ (x65_1 : Int) := zO (by first | (with_reducible assumption) | assumption)
     have q128 : x65_1 < (l0_4.length : Int) := zO (by first | (with_reducible assumption) | assumption)
     obtain ⟨ad128, A128_3, c128_3, A128_4, c128_4, e128, hx128_0, hx128_1, hx128_2, hx128_3, hx128_4, hl128_3, hi128_3, hl128_4, hi128_4⟩ := at_T25 HR0_4.out x65_1 p128 q128
     cases e128
     replace hx128_0 := (HB.out.cell (World.block_lt_of_cell? w _ hx128_0)).trans hx128_0
     replace hx128_1 := (HB.out.cell (World.block_lt_of_cell? w _ hx128_1)).trans hx128_1
     replace hx128_2 := (HB.out.cell (World.block_lt_of_cell? w _ hx128_2)).trans hx128_2
     replace hx128_3 := (HB.out.cell (World.block_lt_of_cell? w _ hx128_3)).trans hx128_3
     replace hx128_4 := (HB.out.cell (World.block_lt_of_cell? w _ hx128_4)).trans hx128_4
     have HR128_3 := Aside0.mk hi128_3
     have HC128_3 := Aside0.mk hl128_3
     clear hi128_3 hl128_3
     have HR128_4 := Aside0.mk hi128_4
     have HC128_4 := Aside0.mk hl128_4
     clear hi128_4 hl128_4
     replace p128 := eq_true p128
     replace q128 := eq_true q128
     go_wp2_with (first | ((with_reducible refine zBe (N := 10) rfl ?_); refine zBb ?hg (N := 10) ?hd (cs := #[.int .i64 0, .string (⟨#[]⟩ : ByteArray), .string (⟨#[]⟩ : ByteArray), .slice none 0 0, .slice none 0 0]) (t := 25) ?hr ?_; (case hd => rfl); (case hg => rfl); (case hr => first | (go_simp; done) | (go_simp; rfl)); intro gb129 hg w55 hbox hb; have n0_ := Aside0.mk (zBo (g := gb122) (o := .cells #[.int .i64 a0_0, .string a0_1, .string a0_2, .slice A0_3 l0_3.length c0_3, .slice (some ad128) l0_4.length c0_4] 25 (0, 0)) (by (with_reducible repeat (first | refine zAj ?_ _ | refine zAm ?_ | refine blk_alloc ?_ _)); exact BK122.out) hb); have n1_ := Aside0.mk (zAe (by repeat (first | (with_reducible first | exact HB.out | apply zAc | apply zAd | apply zAg | refine zAh ?_ GE122.out) | exact HB.out)) hb); have n2_ := Aside0.mk (hbox); have n3_ := Aside0.mk ((by rw [hg]; exact (zAi (by repeat (first | (with_reducible first | exact HB.out | apply zAc | apply zAd | apply zAg | refine zAh ?_ GE122.out) | exact HB.out))) : w.heap.size ≤ gb129)); have n4_ := Aside0.mk ((by rw [hg]; exact (zAi (by repeat (first | (with_reducible first | exact HB.out | apply zAc | apply zAd | apply zAg | refine zAh ?_ GE122.out) | exact HB.out))) : w.heap.size ≤ gb129)); have n5_ := Aside0.mk ((by rw [hg]; exact Nat.ne_of_lt (zAp (g := gb122) (o := .cells #[.int .i64 a0_0, .string a0_1, .string a0_2, .slice A0_3 l0_3.length c0_3, .slice (some ad128) l0_4.length c0_4] 25 (0, 0)) (by (with_reducible repeat (first | refine zAj ?_ _ | refine zAm ?_ | refine blk_alloc ?_ _)); exact BK122.out)) : gb122 ≠ gb129)); have n6_ := Aside0.mk ((by rw [hg]; exact Nat.ne_of_gt (zAp (g := gb122) (o := .cells #[.int .i64 a0_0, .string a0_1, .string a0_2, .slice A0_3 l0_3.length c0_3, .slice (some ad128) l0_4.length c0_4] 25 (0, 0)) (by (with_reducible repeat (first | refine zAj ?_ _ | refine zAm ?_ | refine blk_alloc ?_ _)); exact BK122.out)) : gb129 ≠ gb122)); clear BK122; clear HB; have BK122 := n0_; have HB := n1_; have BK129 := n2_; have GW129 := n3_; have GE129 := n4_; have NB122_129 := n5_; have NB129_122 := n6_; clear n0_ n1_ n2_ n3_ n4_ n5_ n6_; clear hb hbox hg; have hnb56 := NB129_122.out; have hnc56 := NB122_129.out; have hcz57_0 : w55.cell? ⟨gb129, 0, none⟩ = some (.int .i64 0) := (zAb BK129.out 0).trans rfl; have hcz57_1 : w55.cell? ⟨gb129, 1, none⟩ = some (.string (⟨#[]⟩ : ByteArray)) := (zAb BK129.out 1).trans rfl; have hcz57_2 : w55.cell? ⟨gb129, 2, none⟩ = some (.string (⟨#[]⟩ : ByteArray)) := (zAb BK129.out 2).trans rfl; have hcz57_3 : w55.cell? ⟨gb129, 3, none⟩ = some (.slice none 0 0) := (zAb BK129.out 3).trans rfl; have hcz57_4 : w55.cell? ⟨gb129, 4, none⟩ = some (.slice none 0 0) := (zAb BK129.out 4).trans rfl; have hfz57_0 := zAa BK129.out 0; have hfz57_1 := zAa BK129.out 1; have hfz57_2 := zAa BK129.out 2; have hfz57_3 := zAa BK129.out 3; have hfz57_4 := zAa BK129.out 4) | ((with_reducible refine zBj (f := 108) rfl ?_); refine zDx (some 71) rfl rfl Try.func108 (by kernel_rfl) rfl #[.agg #[.int .i64 ((zAu l0_4 x65_1).f0), .string ((zAu l0_4 x65_1).f1), .string ((zAu l0_4 x65_1).f2), .slice A128_3 ((zAu l0_4 x65_1).f3).length c128_3, .slice A128_4 ((zAu l0_4 x65_1).f4).length c128_4], .slice A1 l1.length c1] rfl (by (try simp only [List.map_toArray, List.map_cons, List.map_nil]); first | done | rfl | (simp only [List.length_drop, List.length_take]; rfl)) ?_; (with_reducible refine (ih k1 (by have := HK1.out; omega) ((zAu l0_4 x65_1).f0) ((zAu l0_4 x65_1).f1) ((zAu l0_4 x65_1).f2) _ _ ((zAu l0_4 x65_1).f3) _ _ ((zAu l0_4 x65_1).f4) _ _ l1 t130 _ ?side1 ?side2 ?side3 ?side4 ?side5 ?side6 A49.out).mono ?_); (case side1 => exact Kd.C_below HR128_3.out (by repeat (first | (with_reducible first | exact HB.out | apply zAc | apply zAd | apply zAg | refine zAh ?_ GE122.out | refine zAh ?_ GE129.out) | exact HB.out))); (case side2 => exact HC128_3.out); (case side3 => exact Kd.C_below HR128_4.out (by repeat (first | (with_reducible first | exact HB.out | apply zAc | apply zAd | apply zAg | refine zAh ?_ GE122.out | refine zAh ?_ GE129.out) | exact HB.out))); (case side4 => exact HC128_4.out); (case side5 => exact Kd.C_below HR1.out (by repeat (first | (with_reducible first | exact HB.out | apply zAc | apply zAd | apply zAg | refine zAh ?_ GE122.out | refine zAh ?_ GE129.out) | exact HB.out))); (case side6 => exact HC1.out); rintro e w58 ⟨rfl, hb⟩; refine ⟨_, rfl, ?_⟩; have n0_ := Aside0.mk (zBo (g := gb122) (o := .cells #[.int .i64 a0_0, .string a0_1, .string a0_2, .slice A0_3 l0_3.length c0_3, .slice (some ad128) l0_4.length c0_4] 25 (0, 0)) (by (with_reducible repeat (first | refine zAj ?_ _ | refine zAm ?_ | refine blk_alloc ?_ _)); refine zBk ?_ NB122_129.out _; (with_reducible repeat (first | refine zAj ?_ _ | refine zAm ?_ | refine blk_alloc ?_ _)); refine zBk ?_ NB122_129.out _; (with_reducible repeat (first | refine zAj ?_ _ | refine zAm ?_ | refine blk_alloc ?_ _)); refine zBk ?_ NB122_129.out _; (with_reducible repeat (first | refine zAj ?_ _ | refine zAm ?_ | refine blk_alloc ?_ _)); refine zBk ?_ NB122_129.out _; (with_reducible repeat (first | refine zAj ?_ _ | refine zAm ?_ | refine blk_alloc ?_ _)); refine zBk ?_ NB122_129.out _; (with_reducible repeat (first | refine zAj ?_ _ | refine zAm ?_ | refine blk_alloc ?_ _)); exact BK122.out) hb); have n1_ := Aside0.mk (zBo (g := gb129) (o := .cells #[.int .i64 ((zAu l0_4 x65_1).f0), .string ((zAu l0_4 x65_1).f1), .string ((zAu l0_4 x65_1).f2), .slice A128_3 ((zAu l0_4 x65_1).f3).length c128_3, .slice A128_4 ((zAu l0_4 x65_1).f4).length c128_4] 25 (0, 0)) (by (with_reducible repeat (first | refine zAj ?_ _ | refine zAm ?_ | refine blk_alloc ?_ _)); refine zBv (cs := #[.int .i64 ((zAu l0_4 x65_1).f0), .string ((zAu l0_4 x65_1).f1), .string ((zAu l0_4 x65_1).f2), .slice A128_3 ((zAu l0_4 x65_1).f3).length c128_3, .slice none 0 0]) ?_ 4 _ rfl; (with_reducible repeat (first | refine zAj ?_ _ | refine zAm ?_ | refine blk_alloc ?_ _)); refine zBv (cs := #[.int .i64 ((zAu l0_4 x65_1).f0), .string ((zAu l0_4 x65_1).f1), .string ((zAu l0_4 x65_1).f2), .slice none 0 0, .slice none 0 0]) ?_ 3 _ rfl; (with_reducible repeat (first | refine zAj ?_ _ | refine zAm ?_ | refine blk_alloc ?_ _)); refine zBv (cs := #[.int .i64 ((zAu l0_4 x65_1).f0), .string ((zAu l0_4 x65_1).f1), .string (⟨#[]⟩ : ByteArray), .slice none 0 0, .slice none 0 0]) ?_ 2 _ rfl; (with_reducible repeat (first | refine zAj ?_ _ | refine zAm ?_ | refine blk_alloc ?_ _)); refine zBv (cs := #[.int .i64 ((zAu l0_4 x65_1).f0), .string (⟨#[]⟩ : ByteArray), .string (⟨#[]⟩ : ByteArray), .slice none 0 0, .slice none 0 0]) ?_ 1 _ rfl; (with_reducible repeat (first | refine zAj ?_ _ | refine zAm ?_ | refine blk_alloc ?_ _)); refine zBv (cs := #[.int .i64 0, .string (⟨#[]⟩ : ByteArray), .string (⟨#[]⟩ : ByteArray), .slice none 0 0, .slice none 0 0]) ?_ 0 _ rfl; (with_reducible repeat (first | refine zAj ?_ _ | refine zAm ?_ | refine blk_alloc ?_ _)); exact BK129.out) hb); have n2_ := Aside0.mk (zAe (by repeat (first | (with_reducible first | exact HB.out | apply zAc | apply zAd | apply zAg | refine zAh ?_ GE122.out | refine zAh ?_ GE129.out) | exact HB.out)) hb); clear BK122; clear BK129; clear HB; have BK122 := n0_; have BK129 := n1_; have HB := n2_; clear n0_ n1_ n2_; (try clear hb); (try clear hb2); (try clear hk); (try clear hi)))
     go_roundg k1
     case measure => have := HK1.out; omega
     case rel => exact ⟨(wrap64 (x65_1 + 1)), (by first | rfl | (simp; done) | (simp [*]; done)), H', ⟨by have := HK1.out; omega⟩, ⟨by (with_reducible repeat (first | refine zAj ?_ _ | refine zAm ?_ | refine blk_alloc ?_ _)); exact BK122.out⟩, ⟨by repeat (first | (with_reducible first | exact HB.out | apply zAc | apply zAd | apply zAg | refine zAh ?_ GE122.out | refine zAh ?_ GE129.out) | exact HB.out)⟩⟩
    rw [if_neg c48] at H
    exact absurd H (by simp)
   rw [if_neg c47] at H
   exact absurd H (by simp)
  rw [if_neg c46] at H
  have c46b0 : decide (x65_1 < (l0_4.length : Int)) = false := zF c46
  clear c46
  obtain rfl := Option.some.inj H
  go_wp2
  go_ret
  exact ⟨by first | rfl | (simp [zAl, zAk] <;> rfl) | (simp [*, zAl, zAk] <;> rfl), by repeat (first | (with_reducible first | exact HB.out | apply zAc | apply zAd | apply zAg | refine zAh ?_ GE122.out) | exact HB.out)⟩
-- NOT PRINTED: function 55 (match_Eval)
-- NOT PRINTED: function 37 (tomb_Covers)
end
end Go.Proofs.Yteafilojjdfllaa.PAll
end
section
namespace Go.Proofs.Yteafilojjdfllaa
open Go Go.RowKit Go.Proofs.YteafilojjdfllaaW.PrintWords Go.Proofs.Yteafilojjdfllaa.PAll
def zGj (n : ByteArray) : List S68 → ByteArray
 | [] => ⟨#[]⟩
 | x :: l => if x.f0.toList = n.toList then x.f1 else zGj n l
def prefB (t v : ByteArray) : Bool := decide (v.size ≤ t.size) && ((t.extract 0 v.size).toList == v.toList)
mutual
def evalM (l : List S68) : S25 → Bool
 | ⟨op, n, v, vs, ks⟩ =>
  if op = 0 then true else if op = 1 then (zGj n l).toList == v.toList else if op = 2 then (zGj n l).toList != v.toList
  else if op = 3 then prefB (zGj n l) v else if op = 4 then vs.any (fun u => decide (u.toList = (zGj n l).toList))
  else if op = 7 then !(evalF l ks) else evalL l (op == 6) ks
def evalF (l : List S68) : List S25 → Bool
 | [] => false
 | k :: _ => evalM l k
def evalL (l : List S68) (dec : Bool) : List S25 → Bool
 | [] => !dec
 | k :: ks => if evalM l k == dec then dec else evalL l dec ks
end
theorem ldrop (l : List S68) (i : Nat) (h : i < l.length) : l.drop i = l.getD i z68 :: l.drop (i + 1) := by
 rw [List.drop_eq_getElem_cons h, List.getD_eq_getElem?_getD, List.getElem?_eq_getElem h, Option.getD_some]
theorem rdT68_nat (l : List S68) (i : Nat) : zFb l (i : Int) = l.getD i z68 := by simp [zFb]
theorem rdT25_nat (l : List S25) (i : Nat) : zAu l (i : Int) = l.getD i z25 := by simp [zAu]
theorem kdrop (l : List S25) (i : Nat) (h : i < l.length) : l.drop i = l.getD i z25 :: l.drop (i + 1) := by
 rw [List.drop_eq_getElem_cons h, List.getD_eq_getElem?_getD, List.getElem?_eq_getElem h, Option.getD_some]
theorem value_l0 (l : List S68) (n : ByteArray) (hl : l.length ≤ 4000000000000000000) : ∀ (d i k : Nat), i ≤ l.length → l.length ≤ i + d → d < k → label_Value.l0 k n l (l.length : Int) (i : Int) = some (zGj n (l.drop i))
 | d, i, 0, _, _, h => by omega
 | d, i, k + 1, hi, hd, hk => by
  simp only [label_Value.l0, w64s i (by omega), rdT68_nat]
  by_cases hlt : i < l.length
  ·have ih := value_l0 l n hl (d - 1) (i + 1) k (by omega) (by omega) (by omega)
   rw [if_pos (by omega), if_pos (by omega), if_pos (by omega), ldrop l i hlt, zGj, ih]
   split <;> rfl
  ·rw [if_neg (by omega), List.drop_of_length_le (by omega), zGj]
theorem label_Value.val (l : List S68) (n : ByteArray) (hl : l.length ≤ 4000000000000000000) (k : Nat) (hk : l.length < k) : label_Value.f k l n = some (zGj n l) := by
 have := value_l0 l n hl l.length 0 k (by omega) (by omega) hk
 simpa [label_Value.f] using this
theorem any_l0 (x : ByteArray) (vs : List ByteArray) (hl : vs.length ≤ 1000) : ∀ (d i k : Nat), i ≤ vs.length → vs.length ≤ i + d → d < k → match_eval.l0 k x vs (vs.length : Int) (i : Int) = some ((vs.drop i).any (fun u => decide (u.toList = x.toList)))
 | d, i, 0, _, _, h => by omega
 | d, i, k + 1, hi, hd, hk => by
  simp only [match_eval.l0, w64s i (by omega), zGd]
  by_cases hlt : i < vs.length
  ·have ih := any_l0 x vs hl (d - 1) (i + 1) k (by omega) (by omega) (by omega)
   rw [if_pos (by omega), if_pos (by omega), if_pos (by omega), vdrop vs i hlt, List.any_cons, ih]
   by_cases e : (vs.getD i ByteArray.empty).toList = x.toList
   ·rw [if_pos e, zT e, Bool.true_or]
   ·rw [if_neg e, zF e, Bool.false_or]
  ·rw [if_neg (by omega), List.drop_of_length_le (by omega)]; rfl
theorem ok_vals {m : S25} (h : zBs m = true) (h4 : m.f0 = 4) : m.f3.length ≤ 16 := by
 unfold zBs at h
 rw [if_neg (by omega), if_neg (by omega), if_pos h4] at h
 simp only [Bool.and_eq_true] at h
 have := h.2
 unfold zEc at this
 rw [Bool.and_eq_true, Bool.and_eq_true] at this
 exact (zO this.1.1).2
theorem ok_kids {m : S25} (h : zBs m = true) (h7 : m.f0 = 7) : m.f4.length = 1 := by
 unfold zBs at h
 rw [if_neg (by omega), if_neg (by omega), if_neg (by omega), if_neg (by omega), if_pos h7] at h
 rw [Bool.and_eq_true] at h
 exact zO h.2
theorem prefix_val (t v : ByteArray) : strings_HasPrefix.f t v = some (prefB t v) := by
 unfold strings_HasPrefix.f stringslite_HasPrefix.f prefB
 by_cases h : v.size ≤ t.size
 ·rw [if_pos (by omega), if_pos (by omega), if_pos (by omega), zT h]
  simp
 rw [if_neg (by omega), zF h]
 simp
theorem eval_kids (l : List S68) (dec : Bool) (ks : List S25) (hks : ks.length ≤ 1000) (F : Nat) (h : ∀ j, j < ks.length → ∀ k, F + 2 * zAv (ks.getD j z25) ≤ k → match_eval.f k (ks.getD j z25).f0 (ks.getD j z25).f1 (ks.getD j z25).f2 (ks.getD j z25).f3 (ks.getD j z25).f4 l = some (evalM l (ks.getD j z25))) :
  ∀ (d i k : Nat), i ≤ ks.length → ks.length ≤ i + d → F + 2 * zBd (ks.drop i) + 1 ≤ k → match_eval.l1 k l dec ks (ks.length : Int) (i : Int) = some (evalL l dec (ks.drop i))
 | d, i, 0, _, _, hk => by omega
 | d, i, k + 1, hi, hd, hk => by
  simp only [match_eval.l1, w64s i (by omega), rdT25_nat]
  by_cases hlt : i < ks.length
  ·rw [kdrop ks i hlt, zBd] at hk
   have hp : 1 ≤ zAv (ks.getD i z25) := by rw [zAz]; omega
   have ih := eval_kids l dec ks hks F h (d - 1) (i + 1) k (by omega) (by omega) (by omega)
   rw [if_pos (by omega), if_pos (by omega), if_pos (by omega), h i hlt k (by omega), Option.bind_some, kdrop ks i hlt, evalL, ih]
   cases evalM l (ks.getD i z25) <;> cases dec <;> rfl
  ·rw [if_neg (by omega), List.drop_of_length_le (by omega), evalL]
theorem okL_at : ∀ {ks : List S25} {j : Nat}, okL ks = true → j < ks.length → okM (ks.getD j z25) = true
 | k :: ks, 0, h, _ => by simp only [okL, Bool.and_eq_true] at h; exact h.1
 | k :: ks, j + 1, h, hj => by
  simp only [okL, Bool.and_eq_true] at h
  have := okL_at (j := j) h.2 (by simpa using hj)
  simpa using this
theorem lenL_nodes : ∀ (ks : List S25), ks.length ≤ zBd ks
 | [] => by simp
 | k :: ks => by have := lenL_nodes ks; have h2 := zAz k; simp only [List.length_cons, zBd]; omega
theorem eval_val (l : List S68) (hl : l.length ≤ 4000000000000000000) : ∀ (N : Nat) (m : S25), zAv m ≤ N → zAv m ≤ 1000 → okM m = true → ∀ k, l.length + 30 + 2 * zAv m ≤ k → match_eval.f k m.f0 m.f1 m.f2 m.f3 m.f4 l = some (evalM l m) := by
 intro N
 induction N with
 | zero => intro m h; rw [zAz] at h; omega
 | succ N ih =>
 rintro ⟨op, n, v, vs, ks⟩ hN h1000 hok k hk
 obtain ⟨k, rfl⟩ : ∃ q, k = q + 1 := ⟨k - 1, by omega⟩
 rw [okM_mk, Bool.and_eq_true] at hok
 obtain ⟨ha, hks⟩ := hok
 have hn := zAz ⟨op, n, v, vs, ks⟩
 have hlk := lenL_nodes ks
 simp only at hn hks hlk ⊢
 have hkid : ∀ j, j < ks.length → ∀ k, l.length + 30 + 2 * zAv (ks.getD j z25) ≤ k → match_eval.f k (ks.getD j z25).f0 (ks.getD j z25).f1 (ks.getD j z25).f2 (ks.getD j z25).f3 (ks.getD j z25).f4 l = some (evalM l (ks.getD j z25)) := fun j hj k hk => by
  have hmem : ks.getD j z25 ∈ ks := by simp [List.getD_eq_getElem?_getD, hj]
  have := zCf ⟨op, n, v, vs, ks⟩ _ hmem
  exact ih _ (by omega) (by omega) (okL_at hks hj) k hk
 simp only [match_eval.f, label_Value.val l n hl k (by omega), Option.bind_some]
 unfold evalM
 by_cases e0 : op = 0
 ·rw [if_pos e0, if_pos e0]
 rw [if_neg e0, if_neg e0]
 by_cases e1 : op = 1
 ·rw [if_pos e1, if_pos e1]
 rw [if_neg e1, if_neg e1]
 by_cases e2 : op = 2
 ·rw [if_pos e2, if_pos e2]
 rw [if_neg e2, if_neg e2]
 by_cases e3 : op = 3
 ·rw [if_pos e3, if_pos e3, prefix_val, Option.bind_some]
 rw [if_neg e3, if_neg e3]
 by_cases e4 : op = 4
 ·rw [if_pos e4, if_pos e4]
  have h16 := ok_vals ha e4
  simp only at h16
  have := any_l0 (zGj n l) vs (by omega) vs.length 0 k (by omega) (by omega) (by omega)
  simpa using this
 rw [if_neg e4, if_neg e4]
 by_cases e7 : op = 7
 ·rw [if_pos e7, if_pos e7]
  have h1 := ok_kids ha e7
  simp only at h1
  have hk0 := hkid 0 (by omega)
  obtain ⟨kid, rfl⟩ : ∃ kid, ks = [kid] := by
   match ks, h1 with
   | [kid], _ => exact ⟨kid, rfl⟩
  simp only [List.length_singleton]
  have hr : zAu [kid] 0 = kid := by simp [zAu]
  simp only [List.getD_cons_zero] at hk0
  rw [if_pos (by omega), hr, hk0 k (by simp only [zBd] at hn; omega), Option.bind_some]
  rfl
 rw [if_neg e7, if_neg e7]
 have := eval_kids l (op == 6) ks (by omega) (l.length + 30) hkid ks.length 0 k (by omega) (by omega) (by rw [List.drop_zero]; omega)
 simpa using this
theorem eval108 (w : World) (m : S25) (A3 : Option Addr) (c3 : Nat) (A4 : Option Addr) (c4 : Nat) (A1 : Option Addr) (c1 : Nat) (l : List S68) (v : Bool) (hv : evalM l m = v) (h1000 : zAv m ≤ 1000) (hok : okM m = true) (hl : l.length ≤ 4000000000000000000)
  (h3 : m.f3.length ≤ c3) (g3 : Kd.C Kd.string w A3 m.f3.length m.f3) (h4 : m.f4.length ≤ c4) (g4 : Kd.C k25 w A4 m.f4.length m.f4) (h1 : l.length ≤ c1) (g1 : Kd.C k68 w A1 l.length l) :
  Calls Try.prog 108 #[.agg #[.int .i64 m.f0, .string m.f1, .string m.f2, .slice A3 m.f3.length c3, .slice A4 m.f4.length c4], .slice A1 l.length c1] w fun e w' => e = .returned (.bool v) ∧ Below w.heap.size w w' :=
 match_eval.calls (l.length + 30 + 2 * zAv m) m.f0 m.f1 m.f2 A3 c3 m.f3 A4 c4 m.f4 A1 c1 l v w g3 h3 g4 h4 g1 h1 (hv ▸ eval_val l hl _ m (Nat.le_refl _) h1000 hok _ (Nat.le_refl _))
end Go.Proofs.Yteafilojjdfllaa
end
section
namespace Go.Proofs.Yteafilojjdfllaa
open Go Go.RowKit Go.Proofs.YteafilojjdfllaaW.PrintWords Go.Proofs.YteafilojjdfllaaW.PrintLast Go.Proofs.YteafilojjdfllaaW.PrintMore Go.Proofs.Yteafilojjdfllaa.PAll
theorem matcher54 (w : World) (m : S25) (A3 : Option Addr) (c3 : Nat) (A4 : Option Addr) (c4 : Nat) (ht : tinyP 0 m) (hM : MC w m A3 c3 A4 c4) :
  Calls Try.prog 54 #[.agg #[.int .i64 m.f0, .string m.f1, .string m.f2, .slice A3 m.f3.length c3, .slice A4 m.f4.length c4]] w (CopyPost w m) := by
 obtain ⟨h1, h2, h3, h4⟩ := ht
 have hB0 : Below w.heap.size w ((w.alloc (.cells #[.int .i64 m.f0, .string m.f1, .string m.f2, .slice A3 m.f3.length c3, .slice A4 m.f4.length c4] 25)).alloc (.cells #[.int .i64 0, .string ⟨#[]⟩, .string ⟨#[]⟩, .slice none 0 0, .slice none 0 0] 25)) := zAc (zAc (Below.refl _ _) _) _
 have hh := matcher107 (zAv m) m (Nat.le_refl _) h3 h4 0 A3 c3 A4 c4 _ (by decide) h1 (hM.below hB0)
 have hP0 := zAs (w.alloc (.cells #[.int .i64 m.f0, .string m.f1, .string m.f2, .slice A3 m.f3.length c3, .slice A4 m.f4.length c4] 25)) (.cells #[.int .i64 0, .string ⟨#[]⟩, .string ⟨#[]⟩, .slice none 0 0, .slice none 0 0] 25)
 rw [World.size_alloc] at hP0
 have Hh := zH hh
 clear hh h1 h2 h3 h4
 go_enter Try.func54, Try.ntmps54
 go_wp2_with fail
 (with_reducible refine Hh.out.mono ?_)
 rintro e w5 ⟨D3, f3, D4, f4, rfl, hMF, hB5⟩
 have hs5 := hB5.size
 simp only [World.size_alloc] at hs5
 have hP5 := (hB5.block (w.heap.size + 1) (by simp)).trans hP0
 have HMF := zH hMF
 have HB5 := zH (zAe hB0 hB5)
 clear hMF hB5 hP0 Hh hB0
 have d0 := zAb hP5 0
 have d1 := zAb hP5 1
 have d2 := zAb hP5 2
 have d3 := zAb hP5 3
 have d4 := zAb hP5 4
 simp only [zC, zA, zB] at d0 d1 d2 d3 d4
 have q0 := zAa hP5 0
 have q1 := zAa hP5 1
 have q2 := zAa hP5 2
 have q3 := zAa hP5 3
 have q4 := zAa hP5 4
 go_wp2
 have f4' := zAn (zAn (zAn (zAn (zAn hP5 0 (.int .i64 m.f0)) 1 (.string m.f1)) 2 (.string m.f2)) 3 (.slice D3 m.f3.length f3)) 4 (.slice D4 m.f4.length f4)
 simp at f4'
 refine bodyPost_ret (zAt rfl (.cell (w.heap.size + 1) 25 _ (0, 0) _ rfl f4' Try.underlying25 rfl (by kernel_rfl) .nil)) rfl ⟨D3, f3, D4, f4, rfl, HMF.out.move (fun b hb => ⟨⟨by have := hb.1; simp at this; omega, by simpa using hb.2⟩, ?_⟩), ?_⟩
 ·have hb2 : b ≠ w.heap.size + 1 := by have := hb.1; simp at this; omega
  rw [Below.heap_setCell _ _ _ b (by simpa using hb2), Below.heap_setCell _ _ _ b (by simpa using hb2), Below.heap_setCell _ _ _ b (by simpa using hb2), Below.heap_setCell _ _ _ b (by simpa using hb2), Below.heap_setCell _ _ _ b (by simpa using hb2)]
 exact ((((HB5.out.setCell (by simp) _).setCell (by simp) _).setCell (by simp) _).setCell (by simp) _).setCell (by simp) _
theorem zFp (w : World) (m : S25) (A3 : Option Addr) (c3 : Nat) (A4 : Option Addr) (c4 : Nat) (v : Bool) (hv : chkB m = v) (hb : boundM m) (hM : MC w m A3 c3 A4 c4) :
  Calls Try.prog 36 #[.agg #[.int .i64 m.f0, .string m.f1, .string m.f2, .slice A3 m.f3.length c3, .slice A4 m.f4.length c4]] w fun e w' => e = .returned (.bool v) ∧ Below w.heap.size w w' := hv ▸ check36 w m A3 c3 A4 c4 hb hM
theorem zHh (w : World) (m : S25) (A3 : Option Addr) (c3 : Nat) (A4 : Option Addr) (c4 : Nat) (v : Bool) (hv : chkB m = v) (hM : MC w m A3 c3 A4 c4) :
  Calls Try.prog 53 #[.agg #[.int .i64 m.f0, .string m.f1, .string m.f2, .slice A3 m.f3.length c3, .slice A4 m.f4.length c4]] w fun e w' => e = .returned (.bool v) ∧ Below w.heap.size w w' := hv ▸ check53 w m A3 c3 A4 c4 hM
def evalB (l : List S68) (m : S25) : Bool := chkB m && evalM l m
theorem Eval55 (w : World) (m : S25) (A3 : Option Addr) (c3 : Nat) (A4 : Option Addr) (c4 : Nat) (A1 : Option Addr) (c1 : Nat) (l : List S68) (v : Bool) (hv : evalB l m = v) (h1000 : zAv m ≤ 1000) (hM : MC w m A3 c3 A4 c4) (hl : l.length ≤ 4000000000000000000) (h1 : l.length ≤ c1) (g1 : Kd.C k68 w A1 l.length l) :
  Calls Try.prog 55 #[.agg #[.int .i64 m.f0, .string m.f1, .string m.f2, .slice A3 m.f3.length c3, .slice A4 m.f4.length c4], .slice A1 l.length c1] w fun e w' => e = .returned (.bool v) ∧ Below w.heap.size w w' := by
 have hB0 : Below w.heap.size w (w.alloc (.cells #[.int .i64 m.f0, .string m.f1, .string m.f2, .slice A3 m.f3.length c3, .slice A4 m.f4.length c4] 25)) := zAc (Below.refl _ _) _
 have hX0 : BoxM (w.alloc (.cells #[.int .i64 m.f0, .string m.f1, .string m.f2, .slice A3 m.f3.length c3, .slice A4 m.f4.length c4] 25)) w.heap.size m.f0 m.f1 m.f2 (.slice A3 m.f3.length c3) (.slice A4 m.f4.length c4) := zAs w _
 unfold evalB at hv
 have G1 := zH g1
 cases h3 : chkB m with
 | false =>
  rw [h3, Bool.false_and] at hv
  subst hv
  have H3 := zH h3
  clear h3 g1
  go_enter Try.func55, Try.ntmps55
  go_wp2_with fail
  (with_reducible refine (zHh _ m A3 c3 A4 c4 false H3.out (hM.below hB0)).mono ?_)
  rintro e w1 ⟨rfl, hb1⟩
  go_wp2_with fail
  go_ret
  exact ⟨rfl, zAe hB0 hb1⟩
 | true =>
 rw [h3, Bool.true_and] at hv
 have Hok := zH (chk_def.1 h3).1
 obtain ⟨m1, m2, m3, m4⟩ := hM.below hB0
 have H3 := zH h3
 have Hv := zH hv
 clear h3 g1 hv
 go_enter Try.func55, Try.ntmps55
 go_wp2_with fail
 (with_reducible refine (zHh _ m A3 c3 A4 c4 true H3.out (hM.below hB0)).mono ?_)
 rintro e w1 ⟨rfl, hb1⟩
 have hX1 := hX0.below hb1
 have x0 := hX1.c0
 have x1 := hX1.c1
 have x2 := hX1.c2
 have x3 := hX1.c3
 have x4 := hX1.c4
 have hB1 := zAe hB0 hb1
 go_wp2_with fail
 (with_reducible refine (eval108 _ m A3 c3 A4 c4 A1 c1 l v Hv.out h1000 Hok.out hl m1 (Kd.C_below m2 hb1) m3 (Kd.C_below m4 hb1) h1 (Kd.C_below G1.out hB1)).mono ?_)
 rintro e w2 ⟨rfl, hb2⟩
 go_wp2_with fail
 go_ret
 exact ⟨rfl, zAe hB1 hb2⟩
theorem assert198 (w : World) : (Instr.typeAssert (.iface 198 (.agg #[])) 20 198 true).run Try.prog w = .ok (.tuple #[.agg #[], .bool true]) w := by kernel_rfl
theorem tmps171 (p q x y : Value) : (#[p, q] ++ ((Array.replicate 15 undef).setIfInBounds 3 x).setIfInBounds 0 y) = #[p, q, y, undef, undef, x, undef, undef, undef, undef, undef, undef, undef, undef, undef, undef, undef] := rfl
abbrev Z5 : Array Value := #[.int .i64 0, .string ⟨#[]⟩, .string ⟨#[]⟩, .slice none 0 0, .slice none 0 0]
theorem catch171 (w0 : World) (g1 g2 : Nat) (a0 a1 a2 a3 a4 : Value) (b : Value) (older : List PanicEntry) (w : World) (hB : Below w0.heap.size w0 w) (hg1 : w0.heap.size ≤ g1) (hg2 : w0.heap.size ≤ g2) (h1 : w.heap[g1]? = some (.cells #[a0, a1, a2, a3, a4] 25 (0, 0))) (h2 : w.heap[g2]? = some (.cells #[b] 4 (0, 0))) (hne : g1 ≠ g2) :
  CallsD Try.prog 171 #[.pointer (some ⟨g1, 0, none⟩), .pointer (some ⟨g2, 0, none⟩)] (.panicking ({ v := .iface 198 (.agg #[]), recovered := false } :: older)) w fun e u' w' =>
   e = .returned (.tuple #[]) ∧ u' = .panicking ({ v := .iface 198 (.agg #[]), recovered := true } :: older) ∧ Below w0.heap.size w0 w' ∧ w'.heap[g1]? = some (.cells Z5 25 (0, 0)) ∧ w'.heap[g2]? = some (.cells #[.bool false] 4 (0, 0)) ∧ (w.heap.size ≤ w'.heap.size ∧ ∀ i, i < w.heap.size → i ≠ g1 → i ≠ g2 → w'.heap[i]? = w.heap[i]?) := by
 have hta := assert198 w
 have hl1 := (Array.getElem?_eq_some_iff.1 h1).1
 have hl2 := (Array.getElem?_eq_some_iff.1 h2).1
 have k1 : (w.alloc (.cells #[] 198)).heap[g1]? = some (.cells #[a0, a1, a2, a3, a4] 25 (0, 0)) := (Below.heap_alloc _ _ _ (by omega)).trans h1
 have k2 : (w.alloc (.cells #[] 198)).heap[g2]? = some (.cells #[b] 4 (0, 0)) := (Below.heap_alloc _ _ _ (by omega)).trans h2
 have HB := zH (zAc hB (.cells #[] 198))
 have K1 := zH k1
 have K2 := zH k2
 have y0 := zAb k1 0
 have y1 := zAb k1 1
 have y2 := zAb k1 2
 have y3 := zAb k1 3
 have y4 := zAb k1 4
 have z0 := zAa k1 0
 have z1 := zAa k1 1
 have z2 := zAa k1 2
 have z3 := zAa k1 3
 have z4 := zAa k1 4
 have x0 := zAb k2 0
 have v0 := zAa k2 0
 simp only [zC, zA, zB] at y0 y1 y2 y3 y4 x0
 have hne2 := hne.symm
 clear h1 h2 k1 k2 hl1 hl2 hB
 refine callsD_of_wpS Try.func171 rfl fun c₀ cs hu => ?_
 apply wpS_seq
 apply wpS_region
 simp [wpOpsS, go_sem, recoverD, hu, Try.ntmps171, Exit.thenS]
 rw [tmps171]
 refine wpS_of_wp ?_
 go_wp2
 refine ⟨rfl, _, rfl, .tuple #[], results_none rfl _ _ _, rfl, rfl, ?_, ?_, ?_, ?_, ?_⟩
 ·exact (((((HB.out.setCell hg1 _).setCell hg1 _).setCell hg1 _).setCell hg1 _).setCell hg1 _).setCell hg2 _
 ·exact (Below.heap_setCell _ _ _ _ hne).trans ((zAn (zAn (zAn (zAn (zAn K1.out 0 _) 1 _) 2 _) 3 _) 4 _).trans (by rfl))
 ·refine (zAn (cs := #[b]) ?_ 0 _).trans (by rfl)
  exact (Below.heap_setCell _ _ _ _ hne2).trans ((Below.heap_setCell _ _ _ _ hne2).trans ((Below.heap_setCell _ _ _ _ hne2).trans ((Below.heap_setCell _ _ _ _ hne2).trans ((Below.heap_setCell _ _ _ _ hne2).trans K2.out))))
 ·simp
 ·intro i hi h1 h2
  exact (Below.heap_setCell _ _ _ _ h2).trans ((Below.heap_setCell _ _ _ _ h1).trans ((Below.heap_setCell _ _ _ _ h1).trans ((Below.heap_setCell _ _ _ _ h1).trans ((Below.heap_setCell _ _ _ _ h1).trans ((Below.heap_setCell _ _ _ _ h1).trans (Below.heap_alloc _ _ _ hi))))))
theorem idle171 (p q : Value) (w : World) :
  CallsD Try.prog 171 #[p, q] .returning w fun e u' w' => e = .returned (.tuple #[]) ∧ u' = .returning ∧ w' = w := by
 refine callsD_of_wpS Try.func171 rfl fun c₀ cs hu => ?_
 apply wpS_seq
 apply wpS_region
 simp [wpOpsS, go_sem, recoverD, hu, Try.ntmps171, Exit.thenS]
 rw [tmps171]
 refine wpS_of_wp ?_
 go_wp2
 refine ⟨rfl, .returning, ?_, .tuple #[], results_none rfl _ _ _, rfl, rfl, rfl⟩
 cases c₀
 simp_all
abbrev mV (m : S25) (A3 : Option Addr) (c3 : Nat) (A4 : Option Addr) (c4 : Nat) : Value := .agg #[.int .i64 m.f0, .string m.f1, .string m.f2, .slice A3 m.f3.length c3, .slice A4 m.f4.length c4]
def RedPost (w0 w : World) (g : Nat) (Q : Option (S25 × Obj)) (e : Ending) (w' : World) : Prop :=
 Below w0.heap.size w0 w' ∧ KeepBut w w' g none ∧ ((Q = none ∧ e = .panicked badP) ∨ ∃ m o A3 c3 A4 c4, Q = some (m, o) ∧ e = .returned (mV m A3 c3 A4 c4) ∧ MF w' (fun b => w.heap.size ≤ b ∧ b < w'.heap.size) m A3 c3 A4 c4 ∧ w'.heap[g]? = some o)
def ReadsPost (w0 w : World) (g : Nat) (Q : Option (S25 × Obj)) (e : Ending) (w' : World) : Prop :=
 Below w0.heap.size w0 w' ∧ KeepBut w w' g none ∧ ((Q = none ∧ e = .returned (.tuple #[.agg Z5, .bool false])) ∨ ∃ m o A3 c3 A4 c4, Q = some (m, o) ∧ e = .returned (.tuple #[mV m A3 c3 A4 c4, .bool true]) ∧ MF w' (fun b => w.heap.size ≤ b ∧ b < w'.heap.size) m A3 c3 A4 c4 ∧ w'.heap[g]? = some o)
theorem keep_two {w V W X : World} {g g1 g2 : Nat} (hV : Below w.heap.size w V) (h1 : w.heap.size ≤ g1) (h2 : w.heap.size ≤ g2) (hK : KeepBut V W g none) (hs : W.heap.size ≤ X.heap.size) (hX : ∀ i, i < W.heap.size → i ≠ g1 → i ≠ g2 → X.heap[i]? = W.heap[i]?) : KeepBut w X g none := by
 have a := hV.size
 have b := hK.1
 exact ⟨by omega, fun i hi hg hr => (hX i (by omega) (by omega) (by omega)).trans ((hK.2 i (by omega) hg hr).trans (hV.block i hi))⟩
theorem reads138 (cap : Value) (w0 w : World) (g : Nat) (Q : Option (S25 × Obj)) (hB : Below w0.heap.size w0 w) (hg : g < w.heap.size)
  (H : ∀ W, Below w.heap.size w W → Calls Try.prog 139 #[cap] W (RedPost w0 W g Q)) :
  Calls Try.prog 138 #[.func (.func 139) #[] #[cap]] w (ReadsPost w0 w g (Q.filter fun q => chkB q.1)) := by
 have hmf : ∀ (fn : Fn) (first cap : Array Value) (w : World), (Instr.makeFunc fn first cap).run Try.prog w = .ok (.func fn first cap) w := fun _ _ _ _ => rfl
 obtain ⟨V, eV⟩ : ∃ V, V = (w.alloc (.cells Z5 25)).alloc (.cells #[.bool false] 4) := ⟨_, rfl⟩
 have hBV : Below w.heap.size w V := eV ▸ zAc (zAc (Below.refl _ _) _) _
 have hs : V.heap.size = w.heap.size + 2 := by rw [eV, World.size_alloc, World.size_alloc]
 have k1 : V.heap[w.heap.size]? = some (.cells Z5 25 (0, 0)) := by rw [eV]; exact (Below.heap_alloc _ _ _ (by simp)).trans (zAs w _)
 have k2 : V.heap[w.heap.size + 1]? = some (.cells #[.bool false] 4 (0, 0)) := by
  have := zAs (w.alloc (.cells Z5 25)) (.cells #[.bool false] 4)
  rw [World.size_alloc] at this
  rw [eV]; exact this
 have HV := zH (H V hBV)
 have HB := zH (zAe hB hBV)
 have HBV := zH hBV
 clear H
 have hw0 := hB.size
 cases Q with
 | none =>
  go_enter_defers Try.func138, Try.ntmps138
  go_wp2_with fail
  rw [← eV]
  refine HV.out.mono ?_
  rintro e w5 ⟨hB5, hK5, hres⟩
  obtain rfl : e = .panicked badP := by
   rcases hres with ⟨-, h⟩ | ⟨m, o, A3, c3, A4, c4, h, -⟩
   ·exact h
   cases h
  have b1 := (hK5.2 w.heap.size (by omega) (by omega) (by simp)).trans k1
  have b2 := (hK5.2 (w.heap.size + 1) (by omega) (by omega) (by simp)).trans k2
  refine leaves_cons (f := 171) (args := #[.pointer (some ⟨w.heap.size, 0, none⟩), .pointer (some ⟨w.heap.size + 1, 0, none⟩)]) (by simp) (by simp [go_sem]) ?_
  refine (catch171 w0 w.heap.size (w.heap.size + 1) _ _ _ _ _ _ [] w5 hB5 hw0 (by omega) b1 b2 (by omega)).mono ?_
  rintro e u' w'' ⟨rfl, rfl, hB6, d1, d2, hs6, hk6⟩
  have y0 := zAb d1 0
  have y1 := zAb d1 1
  have y2 := zAb d1 2
  have y3 := zAb d1 3
  have y4 := zAb d1 4
  have x0 := zAb d2 0
  simp only [zC, zA, zB] at y0 y1 y2 y3 y4 x0
  simp [Leaves, settle, results, Try.results138, go_sem, y0, y1, y2, y3, y4, x0]
  exact ⟨hB6, keep_two HBV.out (Nat.le_refl _) (by omega) hK5 hs6 hk6, Or.inl ⟨rfl, rfl⟩⟩
 | some q =>
 obtain ⟨m, o⟩ := q
 go_enter_defers Try.func138, Try.ntmps138
 go_wp2_with fail
 rw [← eV]
 refine HV.out.mono ?_
 rintro e w5 ⟨hB5, hK5, hres⟩
 obtain ⟨A3, c3, A4, c4, rfl, hF, ho⟩ : ∃ A3 c3 A4 c4, e = .returned (mV m A3 c3 A4 c4) ∧ MF w5 (fun b => V.heap.size ≤ b ∧ b < w5.heap.size) m A3 c3 A4 c4 ∧ w5.heap[g]? = some o := by
  rcases hres with ⟨h, -⟩ | ⟨m', o', A3, c3, A4, c4, h, he, hF, ho⟩
  ·cases h
  simp only [Option.some.injEq, Prod.mk.injEq] at h
  obtain ⟨rfl, rfl⟩ := h
  exact ⟨A3, c3, A4, c4, he, hF, ho⟩
 have b1 := (hK5.2 w.heap.size (by omega) (by omega) (by simp)).trans k1
 have b2 := (hK5.2 (w.heap.size + 1) (by omega) (by omega) (by simp)).trans k2
 obtain ⟨g1, eg1⟩ : ∃ g1, w.heap.size = g1 := ⟨_, rfl⟩
 rw [eg1] at b1 b2 ⊢
 obtain ⟨g2, eg2⟩ : ∃ g2, g1 + 1 = g2 := ⟨_, rfl⟩
 rw [eg2] at b2 ⊢
 have hne : g1 ≠ g2 := by omega
 have y0 := zAb b1 0
 have y1 := zAb b1 1
 have y2 := zAb b1 2
 have y3 := zAb b1 3
 have y4 := zAb b1 4
 have z0 := zAa b1 0
 have z1 := zAa b1 1
 have z2 := zAa b1 2
 have z3 := zAa b1 3
 have z4 := zAa b1 4
 simp only [zC, zA, zB] at y0 y1 y2 y3 y4
 obtain ⟨w6, e6⟩ : ∃ w6, w6 = ((((w5.setCell ⟨g1, 0, none⟩ (.int .i64 m.f0)).setCell ⟨g1, 1, none⟩ (.string m.f1)).setCell ⟨g1, 2, none⟩ (.string m.f2)).setCell ⟨g1, 3, none⟩ (.slice A3 m.f3.length c3)).setCell ⟨g1, 4, none⟩ (.slice A4 m.f4.length c4) := ⟨_, rfl⟩
 have HE := zH e6
 have HF := zH hF
 have HO := zH ho
 have HB5 := zH hB5
 have HK5 := zH hK5
 have HG := zH (show V.heap.size = g1 + 2 by omega)
 have HS := zH (show g < g1 by omega)
 have HW := zH (show w0.heap.size ≤ g1 by omega)
 have B1 := zH b1
 have B2 := zH b2
 have HBV1 := zH (show Below w.heap.size w V from HBV.out)
 have EG1 := zH eg1
 have EG2 := zH eg2
 clear e6 hF ho hB5 hK5 hs hg hw0 b1 b2 hres k1 k2 eg1 eg2 hBV hB eV HV HB HBV
 have D1 := zH (show w6.heap[g1]? = some (.cells #[.int .i64 m.f0, .string m.f1, .string m.f2, .slice A3 m.f3.length c3, .slice A4 m.f4.length c4] 25 (0, 0)) from by
  rw [HE.out]; exact (zAn (zAn (zAn (zAn (zAn B1.out 0 _) 1 _) 2 _) 3 _) 4 _).trans (by rfl))
 have HOLD := zH (show ∀ i, i ≠ g1 → w6.heap[i]? = w5.heap[i]? from by
  intro i h1
  rw [HE.out]
  exact (Below.heap_setCell _ _ _ _ h1).trans ((Below.heap_setCell _ _ _ _ h1).trans ((Below.heap_setCell _ _ _ _ h1).trans ((Below.heap_setCell _ _ _ _ h1).trans (Below.heap_setCell _ _ _ _ h1)))))
 have D2 := zH ((HOLD.out g2 hne.symm).trans B2.out)
 have HM6 := zH (show MC w6 m A3 c3 A4 c4 from HF.out w6 (fun b hb => HOLD.out b (by have := HG.out; omega)))
 have HB6 := zH (show Below w0.heap.size w0 w6 from by rw [HE.out]; exact ((((HB5.out.setCell HW.out _).setCell HW.out _).setCell HW.out _).setCell HW.out _).setCell HW.out _)
 have hs6 : w6.heap.size = w5.heap.size := by rw [HE.out]; simp
 have hg1l := zAp D1.out
 have hg2l := zAp D2.out
 have hg2e : g1 < g2 := by have := EG2.out; omega
 have hggl : g < g1 := HS.out
 cases hv : chkB m with
 | false =>
  have HVV := zH hv
  clear hv
  go_wp2_with fail
  rw [← HE.out]
  (with_reducible refine (zHh w6 m A3 c3 A4 c4 false HVV.out HM6.out).mono ?_)
  rintro e w7 ⟨rfl, hb7⟩
  have c1 := (hb7.block g1 (by omega)).trans D1.out
  have c2 := (hb7.block g2 (by omega)).trans D2.out
  have y0 := zAb c1 0
  have y1 := zAb c1 1
  have y2 := zAb c1 2
  have y3 := zAb c1 3
  have y4 := zAb c1 4
  have z0 := zAa c1 0
  have z1 := zAa c1 1
  have z2 := zAa c1 2
  have z3 := zAa c1 3
  have z4 := zAa c1 4
  have x0 := zAb c2 0
  have v0 := zAa c2 0
  have C1 := zH c1
  have C2 := zH c2
  have HB7 := zH hb7
  simp only [zC, zA, zB] at y0 y1 y2 y3 y4 x0
  clear c1 c2 hb7
  go_wp2
  refine leaves_cons (f := 171) (args := #[.pointer (some ⟨g1, 0, none⟩), .pointer (some ⟨g2, 0, none⟩)]) (by simp) (by simp [go_sem]) ?_
  refine (idle171 _ _ _).mono ?_
  rintro e u' w8 ⟨rfl, rfl, e8⟩
  clear y0 y1 y2 y3 y4 z0 z1 z2 z3 z4 x0 v0
  have hne2 := hne.symm
  have d1 : w8.heap[g1]? = some (.cells Z5 25 (0, 0)) := by
   rw [e8]
   exact (Below.heap_setCell _ _ _ _ hne).trans ((zAn (zAn (zAn (zAn (zAn C1.out 0 _) 1 _) 2 _) 3 _) 4 _).trans (by rfl))
  have d2 : w8.heap[g2]? = some (.cells #[.bool false] 4 (0, 0)) := by
   rw [e8]
   refine (zAn (cs := #[.bool false]) ?_ 0 _).trans (by rfl)
   exact (Below.heap_setCell _ _ _ _ hne2).trans ((Below.heap_setCell _ _ _ _ hne2).trans ((Below.heap_setCell _ _ _ _ hne2).trans ((Below.heap_setCell _ _ _ _ hne2).trans ((Below.heap_setCell _ _ _ _ hne2).trans C2.out))))
  have hs8 : w5.heap.size ≤ w8.heap.size := by
   have := HB7.out.size
   rw [e8]; simp; omega
  have hk8 : ∀ i, i < w5.heap.size → i ≠ g1 → i ≠ g2 → w8.heap[i]? = w5.heap[i]? := by
   intro i hi h1 h2
   rw [e8]
   exact (Below.heap_setCell _ _ _ _ h2).trans ((Below.heap_setCell _ _ _ _ h1).trans ((Below.heap_setCell _ _ _ _ h1).trans ((Below.heap_setCell _ _ _ _ h1).trans ((Below.heap_setCell _ _ _ _ h1).trans ((Below.heap_setCell _ _ _ _ h1).trans ((HB7.out.block i (by omega)).trans (HOLD.out i h1)))))))
  have hB8 : Below w0.heap.size w0 w8 := by
   rw [e8]
   exact ((((((zAe HB6.out HB7.out).setCell HW.out _).setCell HW.out _).setCell HW.out _).setCell HW.out _).setCell HW.out _).setCell (Nat.le_trans HW.out (Nat.le_of_lt hg2e)) _
  clear e8
  have y0 := zAb d1 0
  have y1 := zAb d1 1
  have y2 := zAb d1 2
  have y3 := zAb d1 3
  have y4 := zAb d1 4
  have x0 := zAb d2 0
  simp only [zC, zA, zB] at y0 y1 y2 y3 y4 x0
  simp [Leaves, settle, results, Try.results138, go_sem, y0, y1, y2, y3, y4, x0]
  refine ⟨hB8, keep_two HBV1.out (by have := EG1.out; omega) (by have := EG1.out; omega) HK5.out hs8 hk8, Or.inl ⟨by simp [HVV.out], rfl⟩⟩
 | true =>
 have HVV := zH hv
 clear hv
 go_wp2_with fail
 rw [← HE.out]
 (with_reducible refine (zHh w6 m A3 c3 A4 c4 true HVV.out HM6.out).mono ?_)
 rintro e w7 ⟨rfl, hb7⟩
 have c1 := (hb7.block g1 (by omega)).trans D1.out
 have c2 := (hb7.block g2 (by omega)).trans D2.out
 have y0 := zAb c1 0
 have y1 := zAb c1 1
 have y2 := zAb c1 2
 have y3 := zAb c1 3
 have y4 := zAb c1 4
 have z0 := zAa c1 0
 have z1 := zAa c1 1
 have z2 := zAa c1 2
 have z3 := zAa c1 3
 have z4 := zAa c1 4
 have x0 := zAb c2 0
 have v0 := zAa c2 0
 have C1 := zH c1
 have C2 := zH c2
 have HB7 := zH hb7
 simp only [zC, zA, zB] at y0 y1 y2 y3 y4 x0
 clear c1 c2 hb7
 go_wp2
 refine leaves_cons (f := 171) (args := #[.pointer (some ⟨g1, 0, none⟩), .pointer (some ⟨g2, 0, none⟩)]) (by simp) (by simp [go_sem]) ?_
 refine (idle171 _ _ _).mono ?_
 rintro e u' w8 ⟨rfl, rfl, e8⟩
 clear y0 y1 y2 y3 y4 z0 z1 z2 z3 z4 x0 v0
 have hne2 := hne.symm
 have d1 : w8.heap[g1]? = some (.cells #[.int .i64 m.f0, .string m.f1, .string m.f2, .slice A3 m.f3.length c3, .slice A4 m.f4.length c4] 25 (0, 0)) := by
  rw [e8]
  exact (Below.heap_setCell _ _ _ _ hne).trans ((zAn (zAn (zAn (zAn (zAn C1.out 0 _) 1 _) 2 _) 3 _) 4 _).trans (by rfl))
 have d2 : w8.heap[g2]? = some (.cells #[.bool true] 4 (0, 0)) := by
  rw [e8]
  refine (zAn (cs := #[.bool false]) ?_ 0 _).trans (by rfl)
  exact (Below.heap_setCell _ _ _ _ hne2).trans ((Below.heap_setCell _ _ _ _ hne2).trans ((Below.heap_setCell _ _ _ _ hne2).trans ((Below.heap_setCell _ _ _ _ hne2).trans ((Below.heap_setCell _ _ _ _ hne2).trans C2.out))))
 have hs8 : w5.heap.size ≤ w8.heap.size := by
  have := HB7.out.size
  rw [e8]; simp; omega
 have hk8 : ∀ i, i < w5.heap.size → i ≠ g1 → i ≠ g2 → w8.heap[i]? = w5.heap[i]? := by
  intro i hi h1 h2
  rw [e8]
  exact (Below.heap_setCell _ _ _ _ h2).trans ((Below.heap_setCell _ _ _ _ h1).trans ((Below.heap_setCell _ _ _ _ h1).trans ((Below.heap_setCell _ _ _ _ h1).trans ((Below.heap_setCell _ _ _ _ h1).trans ((Below.heap_setCell _ _ _ _ h1).trans ((HB7.out.block i (by omega)).trans (HOLD.out i h1)))))))
 have hB8 : Below w0.heap.size w0 w8 := by
  rw [e8]
  exact ((((((zAe HB6.out HB7.out).setCell HW.out _).setCell HW.out _).setCell HW.out _).setCell HW.out _).setCell HW.out _).setCell (Nat.le_trans HW.out (Nat.le_of_lt hg2e)) _
 clear e8
 have y0 := zAb d1 0
 have y1 := zAb d1 1
 have y2 := zAb d1 2
 have y3 := zAb d1 3
 have y4 := zAb d1 4
 have x0 := zAb d2 0
 simp only [zC, zA, zB] at y0 y1 y2 y3 y4 x0
 simp [Leaves, settle, results, Try.results138, go_sem, y0, y1, y2, y3, y4, x0]
 refine ⟨hB8, keep_two HBV1.out (by have := EG1.out; omega) (by have := EG1.out; omega) HK5.out hs8 hk8, Or.inr ⟨m, o, A3, c3, A4, c4, by simp [HVV.out], rfl, ?_, ?_⟩⟩
 ·have hg := HG.out
  refine HF.out.move (fun b hb => ?_)
  obtain ⟨hb1, hb2⟩ := hb
  have := EG1.out
  have := EG2.out
  exact ⟨⟨by omega, by omega⟩, hk8 b hb2 (by omega) (by omega)⟩
 exact (hk8 g (by omega) (by omega) (by omega)).trans HO.out
end Go.Proofs.Yteafilojjdfllaa
end
section
namespace Go.Proofs.Yteafilojjdfllaa
open Go Go.Proofs.Yteafilojjdfllaa.PAll
theorem zJo {b : ByteArray} (h : b.toList = []) : b = ⟨#[]⟩ := by
 rw [ByteArray.toList_eq] at h
 cases b
 simp only at h
 rw [Array.toList_eq_nil_iff.1 h]
theorem zGp {α : Type} {l : List α} (h : l.length = 0) : l = [] := List.length_eq_zero_iff.1 h
theorem shape {m : S25} (h : okM m = true) :
  m = ⟨0, ⟨#[]⟩, ⟨#[]⟩, [], []⟩ ∨ (∃ op n v, (op = 1 ∨ op = 2 ∨ op = 3) ∧ zDk n = true ∧ m = ⟨op, n, v, [], []⟩) ∨ (∃ n vs, zDk n = true ∧ m = ⟨4, n, ⟨#[]⟩, vs, []⟩) ∨
   (∃ op ks, (op = 5 ∨ op = 6 ∨ op = 7) ∧ okL ks = true ∧ m = ⟨op, ⟨#[]⟩, ⟨#[]⟩, [], ks⟩) := by
 obtain ⟨op, n, v, vs, ks⟩ := m
 rw [okM_mk, Bool.and_eq_true] at h
 obtain ⟨h, hk⟩ := h
 simp only at hk
 unfold zBs zEe at h
 by_cases e0 : op = 0
 ·rw [if_pos e0] at h
  simp only [Bool.and_eq_true, decide_eq_true_iff] at h
  obtain ⟨⟨h1, h2, h3⟩, h4⟩ := h
  left
  rw [e0, zJo h1, zJo h2, zGp h3, zGp h4]
 rw [if_neg e0] at h
 right
 by_cases e1 : op = 1 ∨ op = 2 ∨ op = 3
 ·rw [if_pos e1] at h
  simp only [Bool.and_eq_true, decide_eq_true_iff] at h
  obtain ⟨h1, _, h2, h3⟩ := h
  exact Or.inl ⟨op, n, v, e1, h1, by rw [zGp h3, zGp h2]⟩
 rw [if_neg e1] at h
 right
 by_cases e4 : op = 4
 ·rw [if_pos e4] at h
  simp only [Bool.and_eq_true, decide_eq_true_iff] at h
  obtain ⟨⟨h1, h2, h3⟩, h4⟩ := h
  exact Or.inl ⟨n, vs, h1, by rw [e4, zJo h3, zGp h2]⟩
 rw [if_neg e4] at h
 right
 by_cases e5 : op = 5 ∨ op = 6
 ·rw [if_pos e5] at h
  simp only [decide_eq_true_iff] at h
  obtain ⟨h1, h2, h3⟩ := h
  exact ⟨op, ks, by omega, hk, by rw [zJo h1, zJo h2, zGp h3]⟩
 rw [if_neg e5] at h
 by_cases e7 : op = 7
 ·rw [if_pos e7] at h
  simp only [Bool.and_eq_true, decide_eq_true_iff] at h
  obtain ⟨⟨h1, h2, h3⟩, h4⟩ := h
  exact ⟨op, ks, by omega, hk, by rw [zJo h1, zJo h2, zGp h3]⟩
 rw [if_neg e7] at h
 cases h
theorem zFn : ∀ {ks : List S25} {k : S25}, okL ks = true → k ∈ ks → okM k = true
 | x :: ks, k, h, hk => by
  simp only [okL, Bool.and_eq_true] at h
  rcases List.mem_cons.1 hk with rfl | hk
  ·exact h.1
  ·exact zFn h.2 hk
mutual
def encM : S25 → List UInt8
 | ⟨op, n, v, vs, ks⟩ => encV op.toNat ++
  (if op = 1 ∨ op = 2 ∨ op = 3 then encT n.data.toList ++ encT v.data.toList
  else if op = 4 then encT n.data.toList ++ (encV vs.length ++ vs.flatMap (fun x => encT x.data.toList))
  else if op = 5 ∨ op = 6 then encV ks.length ++ zBg ks
  else if op = 7 then zBg ks else [])
def zBg : List S25 → List UInt8
 | [] => []
 | k :: ks => encM k ++ zBg ks
end
def decTs : Nat → List UInt8 → Option (List ByteArray × List UInt8)
 | 0, r => some ([], r)
 | n + 1, r => match decT 64 r with
  | none => none
  | some (v, r1) => (decTs n r1).map (fun q => (⟨v.toArray⟩ :: q.1, q.2))
mutual
def decM : Nat → Nat → List UInt8 → Option (S25 × Nat × List UInt8)
 | 0, _, _ => none
 | _, 0, _ => none
 | d + 1, left + 1, r => match decV 0 0 r with
  | none => none
  | some (op, r1) =>
   if op = 0 then some (⟨0, ⟨#[]⟩, ⟨#[]⟩, [], []⟩, left, r1)
   else if op = 1 ∨ op = 2 ∨ op = 3 then (match decT 32 r1 with
    | none => none
    | some (n, r2) => match decT 64 r2 with
     | none => none
     | some (v, r3) => some (⟨op, ⟨n.toArray⟩, ⟨v.toArray⟩, [], []⟩, left, r3))
   else if op = 4 then (match decT 32 r1 with
    | none => none
    | some (n, r2) => match decV 0 0 r2 with
     | none => none
     | some (k, r3) => if k ≤ 16 then (decTs k r3).map (fun q => (⟨4, ⟨n.toArray⟩, ⟨#[]⟩, q.1, []⟩, left, q.2)) else none)
   else if op = 5 ∨ op = 6 then (match decV 0 0 r1 with
    | none => none
    | some (k, r2) => if k ≤ 64 then (zBn d left k r2).map (fun q => (⟨op, ⟨#[]⟩, ⟨#[]⟩, [], q.1⟩, q.2)) else none)
   else if op = 7 then (zBn d left 1 r1).map (fun q => (⟨7, ⟨#[]⟩, ⟨#[]⟩, [], q.1⟩, q.2))
   else none
termination_by d _ _ => (d, 0)
def zBn : Nat → Nat → Nat → List UInt8 → Option (List S25 × Nat × List UInt8)
 | _, left, 0, r => some ([], left, r)
 | d, left, k + 1, r => match decM d left r with
  | none => none
  | some (m, left1, r1) => (zBn d left1 k r1).map (fun q => (m :: q.1, q.2))
termination_by d _ k _ => (d, k + 1)
end
theorem decTs_enc (t : List UInt8) : ∀ (l : List ByteArray), (∀ x ∈ l, x.size ≤ 64) → decTs l.length (l.flatMap (fun x => encT x.data.toList) ++ t) = some (l, t)
 | [], _ => rfl
 | x :: l, h => by
  have h1 : x.data.toList.length ≤ 64 := by have := h x (List.mem_cons_self ..); simpa using this
  rw [List.length_cons, decTs, List.flatMap_cons, List.append_assoc, zIl 64 _ _ h1 (by omega)]
  simp only
  rw [decTs_enc t l (fun y hy => h y (List.mem_cons_of_mem _ hy))]
  rfl
theorem nameB_len {n : ByteArray} (h : zDk n = true) : n.data.toList.length ≤ 32 := by
 unfold zDk at h
 rw [Bool.and_eq_true, decide_eq_true_iff] at h
 have : n.data.toList.length = n.size := by simp
 omega
theorem zCc {m : S25} (h : okM m = true) : (m.f0 = 1 ∨ m.f0 = 2 ∨ m.f0 = 3 → m.f1.data.toList.length ≤ 32 ∧ m.f2.data.toList.length ≤ 64) ∧ (m.f0 = 4 → m.f1.data.toList.length ≤ 32 ∧ m.f3.length ≤ 16 ∧ ∀ x ∈ m.f3, x.size ≤ 64) := by
 rw [okM_mk, Bool.and_eq_true] at h
 have ha := h.1
 unfold zBs at ha
 have e2 : m.f2.data.toList.length = m.f2.size := by simp
 constructor
 ·intro h1
  rw [if_neg (by omega), if_pos h1, Bool.and_eq_true, decide_eq_true_iff] at ha
  have := nameB_len ha.1
  omega
 intro h1
 rw [if_neg (by omega), if_neg (by omega), if_pos h1, Bool.and_eq_true, Bool.and_eq_true] at ha
 refine ⟨nameB_len ha.1.1, ?_⟩
 have hv := ha.2
 unfold zEc at hv
 rw [Bool.and_eq_true, Bool.and_eq_true, decide_eq_true_iff, List.all_eq_true] at hv
 exact ⟨hv.1.1.2, fun x hx => zO (hv.1.2 x hx)⟩
theorem zDd : ∀ (ks : List S25), ks.length ≤ zBd ks
 | [] => by simp [zBd]
 | k :: ks => by have := zDd ks; have h2 := zAz k; simp only [List.length_cons, zBd]; omega
theorem decML_enc (d N : Nat) (ih : ∀ (m : S25) (left : Nat) (t : List UInt8), zAv m ≤ N → okM m = true → zEp m ≤ d → zAv m ≤ left → decM d left (encM m ++ t) = some (m, left - zAv m, t)) : ∀ (ks : List S25) (left : Nat) (t : List UInt8), zBd ks ≤ N → okL ks = true → zCy ks ≤ d → zBd ks ≤ left → zBn d left ks.length (zBg ks ++ t) = some (ks, left - zBd ks, t)
 | [], left, t, _, _, _, _ => by rw [List.length_nil, zBn, zBd]; rfl
 | k :: ks, left, t, hN, hok, hd, hl => by
  rw [zBd] at hN hl
  rw [okL, Bool.and_eq_true] at hok
  rw [zCy] at hd
  rw [List.length_cons, zBn, zBg, List.append_assoc, ih k left _ (by omega) hok.1 (by omega) (by omega)]
  simp only
  rw [decML_enc d N ih ks (left - zAv k) t (by omega) hok.2 (by omega) (by omega), zBd]
  simp only [Option.map_some, Option.some.injEq, Prod.mk.injEq, true_and, and_true]
  omega
theorem decM_enc : ∀ (N : Nat) (m : S25) (d left : Nat) (t : List UInt8), zAv m ≤ N → okM m = true → zEp m ≤ d → zAv m ≤ left → zAv m ≤ 64 → decM d left (encM m ++ t) = some (m, left - zAv m, t)
 | 0, m, _, _, _, h, _, _, _, _ => by rw [zAz] at h; omega
 | N + 1, m, d, left, t, hN, hok, hd, hl, h64 => by
  have hsz := zCc hok
  rw [zAz] at hN hl h64
  rw [zGa] at hd
  obtain ⟨d, rfl⟩ : ∃ q, d = q + 1 := ⟨d - 1, by omega⟩
  obtain ⟨left, rfl⟩ : ∃ q, left = q + 1 := ⟨left - 1, by omega⟩
  have hkids := fun (ks : List S25) (hk : zBd ks ≤ N) (h64 : zBd ks ≤ 64) (left : Nat) (t : List UInt8) => decML_enc d (min N 64) (fun m left t h1 h2 h3 h4 => decM_enc N m d left t (by omega) h2 h3 h4 (by omega)) ks left t (by omega)
  rcases shape hok with rfl | ⟨op, n, v, ho, hn, rfl⟩ | ⟨n, vs, hn, rfl⟩ | ⟨op, ks, ho, hk, rfl⟩
  ·rw [zAz, encM, decM, if_neg (by decide), if_neg (by decide), if_neg (by decide), if_neg (by decide), List.append_nil, zDs _ (by decide)]
   simp [zBd]
  ·obtain ⟨h1, h2⟩ := hsz.1 ho
   simp only at h1 h2
   have e : ((op.toNat : Nat) : Int) = op := by omega
   rw [zAz, encM, decM, if_pos ho, List.append_assoc, zDs _ (by omega)]
   simp only
   rw [if_neg (by omega), if_pos (by omega), List.append_assoc, zIl 32 _ _ h1 (by omega)]
   simp only
   rw [zIl 64 _ _ h2 (by omega)]
   simp [zBd, e]
  ·obtain ⟨h1, h2, h3⟩ := hsz.2 rfl
   simp only at h1 h2 h3
   rw [zAz, encM, decM, if_neg (by decide), if_pos rfl, List.append_assoc, zDs _ (by decide)]
   simp only
   rw [if_neg (by decide), if_neg (by decide), if_pos (by decide), List.append_assoc, zIl 32 _ _ h1 (by omega)]
   simp only
   rw [List.append_assoc, zDs _ (by omega)]
   simp only
   rw [if_pos h2, decTs_enc t vs h3]
   simp [zBd]
  ·simp only at hN hl h64 hd
   have hlen := zDd ks
   have e : ((op.toNat : Nat) : Int) = op := by omega
   rw [zAz, encM, decM, if_neg (by omega), if_neg (by omega)]
   by_cases h7 : op = 7
   ·subst h7
    rw [if_neg (by decide), if_pos rfl, List.append_assoc, zDs _ (by decide)]
    simp only
    rw [if_neg (by decide), if_neg (by decide), if_neg (by decide), if_neg (by decide), if_pos (by decide)]
    have h1 : ks.length = 1 := by
     rw [okM_mk, Bool.and_eq_true] at hok
     have ha := hok.1
     unfold zBs at ha
     simp only at ha
     rw [if_neg (by decide), if_neg (by decide), if_neg (by decide), if_neg (by decide), if_pos trivial, Bool.and_eq_true, decide_eq_true_iff] at ha
     exact ha.2
    have := hkids ks (by omega) (by omega) left t hk (by omega) (by omega)
    rw [h1] at this
    rw [this]
    simp only [Option.map_some, Option.some.injEq, Prod.mk.injEq, true_and, and_true]
    omega
   ·rw [if_pos (by omega), List.append_assoc, zDs _ (by omega)]
    simp only
    rw [if_neg (by omega), if_neg (by omega), if_neg (by omega), if_pos (by omega), List.append_assoc, zDs _ (by omega)]
    simp only
    rw [if_pos (by omega), hkids ks (by omega) (by omega) left t hk (by omega) (by omega)]
    simp only [Option.map_some, e, Option.some.injEq, Prod.mk.injEq, true_and, and_true]
    omega
theorem zHc {l : List UInt8} {v : Nat} {r : List UInt8} (h : decV 0 0 l = some (v, r)) : v < 2 ^ 64 ∧ r.length < l.length := zGg l 0 0 v r (by decide) h
theorem zJh : ∀ (k : Nat) (r : List UInt8) (x : List ByteArray) (t : List UInt8), decTs k r = some (x, t) → x.length = k ∧ k + t.length ≤ r.length
 | 0, r, x, t, h => by
  rw [decTs] at h
  simp only [Option.some.injEq, Prod.mk.injEq] at h
  obtain ⟨rfl, rfl⟩ := h
  simp
 | k + 1, r, x, t, h => by
  rw [decTs] at h
  split at h
  ·cases h
  ·next v r1 h1 =>
   rw [Option.map_eq_some_iff] at h
   obtain ⟨⟨y, u⟩, hy, e⟩ := h
   simp only [Prod.mk.injEq] at e
   obtain ⟨rfl, rfl⟩ := e
   obtain ⟨e1, e2⟩ := zJh k r1 y u hy
   have l1 := zEh h1
   exact ⟨by simp [e1], by omega⟩
theorem decTs_short {k : Nat} {r : List UInt8} (h : r.length < k) : decTs k r = none := by
 cases hq : decTs k r with
 | none => rfl
 | some q => have := (zJh k r q.1 q.2 hq).2; omega
theorem zHd (d : Nat) (ih : ∀ (left : Nat) (r : List UInt8) (m : S25) (left' : Nat) (t : List UInt8), decM d left r = some (m, left', t) → t.length < r.length ∧ left' < left) : ∀ (k left : Nat) (r : List UInt8) (x : List S25) (left' : Nat) (t : List UInt8), zBn d left k r = some (x, left', t) → x.length = k ∧ k + t.length ≤ r.length ∧ left' + k ≤ left
 | 0, left, r, x, left', t, h => by
  rw [zBn] at h
  simp only [Option.some.injEq, Prod.mk.injEq] at h
  obtain ⟨rfl, rfl, rfl⟩ := h
  simp
 | k + 1, left, r, x, left', t, h => by
  rw [zBn] at h
  split at h
  ·cases h
  ·next m left1 r1 h1 =>
   rw [Option.map_eq_some_iff] at h
   obtain ⟨⟨y, l2, u⟩, hy, e⟩ := h
   simp only [Prod.mk.injEq] at e
   obtain ⟨rfl, rfl, rfl⟩ := e
   obtain ⟨e1, e2, e3⟩ := zHd d ih k left1 r1 y l2 u hy
   have l1 := ih left r m left1 r1 h1
   exact ⟨by simp [e1], by omega, by omega⟩
theorem zEi : ∀ (d left : Nat) (r : List UInt8) (m : S25) (left' : Nat) (t : List UInt8), decM d left r = some (m, left', t) → t.length < r.length ∧ left' < left
 | 0, left, r, m, left', t, h => by rw [decM] at h; cases h
 | d + 1, 0, r, m, left', t, h => by rw [decM] at h <;> first | cases h | simp
 | d + 1, left + 1, r, m, left', t, h => by
  rw [decM] at h
  split at h
  ·cases h
  ·next op r1 h1 =>
   have l1 := (zHc h1).2
   split at h
   ·simp only [Option.some.injEq, Prod.mk.injEq] at h
    obtain ⟨rfl, rfl, rfl⟩ := h
    exact ⟨l1, by omega⟩
   ·split at h
    ·split at h
     ·cases h
     ·next n r2 h2 =>
      have l2 := (zEh h2).1
      split at h
      ·cases h
      ·next v r3 h3 =>
       have l3 := (zEh h3).1
       simp only [Option.some.injEq, Prod.mk.injEq] at h
       obtain ⟨rfl, rfl, rfl⟩ := h
       exact ⟨by omega, by omega⟩
    ·split at h
     ·split at h
      ·cases h
      ·next n r2 h2 =>
       have l2 := (zEh h2).1
       split at h
       ·cases h
       ·next k r3 h3 =>
        have l3 := (zHc h3).2
        split at h
        ·rw [Option.map_eq_some_iff] at h
         obtain ⟨⟨y, u⟩, hy, e⟩ := h
         simp only [Prod.mk.injEq] at e
         obtain ⟨rfl, rfl, rfl⟩ := e
         have l4 := (zJh k r3 y u hy).2
         exact ⟨by omega, by omega⟩
        ·cases h
     ·split at h
      ·split at h
       ·cases h
       ·next k r2 h2 =>
        have l2 := (zHc h2).2
        split at h
        ·rw [Option.map_eq_some_iff] at h
         obtain ⟨⟨y, l5, u⟩, hy, e⟩ := h
         simp only [Prod.mk.injEq] at e
         obtain ⟨rfl, rfl, rfl⟩ := e
         obtain ⟨-, l4, l6⟩ := zHd d (zEi d) k left r2 y l5 u hy
         exact ⟨by omega, by omega⟩
        ·cases h
      ·split at h
       ·rw [Option.map_eq_some_iff] at h
        obtain ⟨⟨y, l5, u⟩, hy, e⟩ := h
        simp only [Prod.mk.injEq] at e
        obtain ⟨rfl, rfl, rfl⟩ := e
        obtain ⟨-, l4, l6⟩ := zHd d (zEi d) 1 left r1 y l5 u hy
        exact ⟨by omega, by omega⟩
       ·cases h
theorem zJl {d left k : Nat} {r : List UInt8} (h : r.length < k) : zBn d left k r = none := by
 cases hq : zBn d left k r with
 | none => rfl
 | some q => have := (zHd d (zEi d) k left r q.1 q.2.1 q.2.2 hq).2.1; omega
end Go.Proofs.Yteafilojjdfllaa
end
section
namespace Go.Proofs.Yteafilojjdfllaa
open Go Go.RowKit Go.Proofs.YteafilojjdfllaaW.PrintWords Go.Proofs.YteafilojjdfllaaW.PrintLast Go.Proofs.YteafilojjdfllaaW.PrintMore Go.Proofs.Yteafilojjdfllaa.PAll
def redW (A : Option Addr) (n c : Nat) (bs : List UInt8) (i : Int) (d left : Nat) : Option (S25 × Obj) :=
 if i < 0 then none else (decM d left (bs.drop i.toNat)).map (fun q => (q.1, .cells #[.slice A n c, .int .i64 ((n : Int) - (q.2.2.length : Nat)), .int .i64 (q.2.1 : Nat)] 164 (0, 0)))
theorem zIz (w0 w : World) (g : Nat) (A : Option Addr) (n c : Nat) (bs : List UInt8) (at_ : Int) (d : Nat) (hg : w0.heap.size ≤ g) (hB : Below w0.heap.size w0 w) (hS : RD w g A n c at_ 0) (dz : Int) :
  Calls Try.prog 140 #[.pointer (some ⟨g, 0, none⟩), .int .i64 dz] w (RedPost w0 w g (redW A n c bs at_ d 0)) := by
 have hQ : redW A n c bs at_ d 0 = none := by
  unfold redW
  split
  ·rfl
  cases d <;> simp [decM]
 rw [hQ]
 clear hQ
 have hgl := hS.lt
 have hS2 : RD (w.alloc (.cells Z5 25)) g A n c at_ 0 := (Below.heap_alloc _ _ _ hgl).trans hS
 have g2 := hS2.c2
 have z2 := hS2.z2
 have HS := zH hS2
 have HB := zH hB
 clear hS hB hS2 hgl
 go_enter Try.func140, Try.ntmps140
 go_wp2
 refine ⟨rfl, ?_, ?_, Or.inl ⟨rfl, rfl⟩⟩
 ·exact (zAc HB.out _).setCell hg _
 exact (KeepBut.of_below (zAc (Below.refl w.heap.size w) _) g none).set_ _ _
theorem matcher140b (w0 w : World) (g : Nat) (A : Option Addr) (n c : Nat) (bs : List UInt8) (at_ : Int) (left : Nat) (hl : left ≤ 1000) (hg : w0.heap.size ≤ g) (hB : Below w0.heap.size w0 w) (hS : RD w g A n c at_ ((left + 1 : Nat) : Int)) :
  Calls Try.prog 140 #[.pointer (some ⟨g, 0, none⟩), .int .i64 9] w (RedPost w0 w g (redW A n c bs at_ 0 (left + 1))) := by
 have hQ : redW A n c bs at_ 0 (left + 1) = none := by
  unfold redW
  split
  ·rfl
  simp [decM]
 rw [hQ]
 clear hQ
 have hgl := hS.lt
 have hS2 : RD (w.alloc (.cells Z5 25)) g A n c at_ ((left + 1 : Nat) : Int) := (Below.heap_alloc _ _ _ hgl).trans hS
 have hw1 : wrap64 (((left + 1 : Nat) : Int) - 1) = (left : Int) := by unfold wrap64; omega
 have hd : decide ((left : Int) < 0) = false := zF (by omega)
 have g2 := hS2.c2
 have z2 := hS2.z2
 have HS := zH hS2
 have HB := zH hB
 clear hS hB hS2 hgl
 go_enter Try.func140, Try.ntmps140
 go_wp2
 refine ⟨rfl, ?_, ?_, Or.inl ⟨rfl, rfl⟩⟩
 ·exact (zAc HB.out _).setCell hg _
 exact (KeepBut.of_below (zAc (Below.refl w.heap.size w) _) g none).set_ _ _
theorem redW_num {A : Option Addr} {n c : Nat} {bs : List UInt8} {i : Int} {d left : Nat} (h : zDb 7 bs i = none) : redW A n c bs i (d + 1) (left + 1) = none := by
 unfold zDb getW at h
 unfold redW
 split
 ·rfl
 next hi =>
 rw [if_neg hi] at h
 rw [decM]
 split at h
 ·next hq => rw [hq]; rfl
 next v r hq =>
 rw [hq]
 split at h
 ·cases h
 next hv =>
 simp only
 rw [if_neg (by omega), if_neg (by omega), if_neg (by omega), if_neg (by omega), if_neg (by omega)]
 rfl
theorem matcher140c (w0 w : World) (g : Nat) (A : Option Addr) (n c : Nat) (bs : List UInt8) (at_ : Int) (left d : Nat) (hl : left ≤ 1000) (hd8 : d ≤ 7) (hn : bs.length = n) (hnl : n ≤ 1000000000000000) (hq : zDb 7 bs at_ = none) (hg : w0.heap.size ≤ g) (hB : Below w0.heap.size w0 w) (hS : RD w g A n c at_ ((left + 1 : Nat) : Int)) (hC0 : (Kd.int .u8).C w0 A bs.length (bys bs)) (dz : Int) (hdz : dz = 8 - d) :
  Calls Try.prog 140 #[.pointer (some ⟨g, 0, none⟩), .int .i64 dz] w (RedPost w0 w g (redW A n c bs at_ (d + 1) (left + 1))) := by
 rw [redW_num hq]
 have hgl := hS.lt
 have hS2 : RD (w.alloc (.cells Z5 25)) g A n c at_ ((left + 1 : Nat) : Int) := (Below.heap_alloc _ _ _ hgl).trans hS
 have hw1 : wrap64 (((left + 1 : Nat) : Int) - 1) = (left : Int) := by unfold wrap64; omega
 have hd1 : ¬ (left : Int) < 0 := by omega
 have hd2 : ¬ (8 : Int) < dz := by omega
 have hdd1 : decide ((left : Int) < 0) = false := zF hd1
 have hdd2 : decide ((8 : Int) < dz) = false := zF hd2
 have g2 := hS2.c2
 have z2 := hS2.z2
 obtain ⟨V, eV⟩ : ∃ V, V = (w.alloc (.cells Z5 25)).setCell ⟨g, 2, none⟩ (.int .i64 left) := ⟨_, rfl⟩
 have hBV : Below w0.heap.size w0 V := by rw [eV]; exact (zAc hB _).setCell hg _
 have hKV : KeepBut w V g none := by rw [eV]; exact (KeepBut.of_below (zAc (Below.refl w.heap.size w) _) g none).set_ _ _
 have hSV : RD V g A n c at_ (left : Int) := by rw [eV]; exact hS2.set2 _
 have h1 := zCp w0 V g A n c bs at_ left 7 7 rfl (by decide) hn hnl hg hBV hSV hC0
 rw [hq] at h1
 have H1 := zH h1
 have HK := zH hKV
 clear hS hB hS2 hgl hBV hKV hSV h1 hC0 hn hdz
 go_enter Try.func140, Try.ntmps140
 go_wp2_with fail
 rw [← eV]
 refine H1.out.mono ?_
 rintro e w1 ⟨hB1, hK1, hres⟩
 obtain rfl : e = .panicked badP := by
  rcases hres with ⟨-, h⟩ | ⟨v, r, h, -⟩
  ·exact h
  cases h
 refine ⟨rfl, hB1, HK.out.trans hK1 (Or.inl rfl), Or.inl ⟨rfl, rfl⟩⟩
theorem matcher140d (w0 w : World) (g : Nat) (A : Option Addr) (n c : Nat) (bs : List UInt8) (at_ : Int) (left d : Nat) (hl : left ≤ 1000) (hd8 : d ≤ 7) (hn : bs.length = n) (hnl : n ≤ 1000000000000000) (r : List UInt8) (hq0 : getW bs at_ = some (0, r)) (hg : w0.heap.size ≤ g) (hB : Below w0.heap.size w0 w) (hS : RD w g A n c at_ ((left + 1 : Nat) : Int)) (hC0 : (Kd.int .u8).C w0 A bs.length (bys bs)) (dz : Int) (hdz : dz = 8 - d) :
  Calls Try.prog 140 #[.pointer (some ⟨g, 0, none⟩), .int .i64 dz] w (RedPost w0 w g (redW A n c bs at_ (d + 1) (left + 1))) := by
 have hq : zDb 7 bs at_ = some (.int .i64 0, r) := by unfold zDb; rw [hq0]; rfl
 have hQ : redW A n c bs at_ (d + 1) (left + 1) = some (⟨0, ⟨#[]⟩, ⟨#[]⟩, [], []⟩, .cells #[.slice A n c, .int .i64 ((n : Int) - (r.length : Nat)), .int .i64 left] 164 (0, 0)) := by
  unfold getW at hq0
  unfold redW
  split
  ·next hi => rw [if_pos hi] at hq0; cases hq0
  next hi => rw [if_neg hi] at hq0; rw [decM, hq0]; rfl
 rw [hQ]
 clear hQ hq0
 have hgl := hS.lt
 have hS2 : RD (w.alloc (.cells Z5 25)) g A n c at_ ((left + 1 : Nat) : Int) := (Below.heap_alloc _ _ _ hgl).trans hS
 have hw1 : wrap64 (((left + 1 : Nat) : Int) - 1) = (left : Int) := by unfold wrap64; omega
 have hd1 : ¬ (left : Int) < 0 := by omega
 have hd2 : ¬ (8 : Int) < dz := by omega
 have hdd1 : decide ((left : Int) < 0) = false := zF hd1
 have hdd2 : decide ((8 : Int) < dz) = false := zF hd2
 have g2 := hS2.c2
 have z2 := hS2.z2
 obtain ⟨V, eV⟩ : ∃ V, V = (w.alloc (.cells Z5 25)).setCell ⟨g, 2, none⟩ (.int .i64 left) := ⟨_, rfl⟩
 have hBV : Below w0.heap.size w0 V := by rw [eV]; exact (zAc hB _).setCell hg _
 have hKV : KeepBut w V g none := by rw [eV]; exact (KeepBut.of_below (zAc (Below.refl w.heap.size w) _) g none).set_ _ _
 have hSV : RD V g A n c at_ (left : Int) := by rw [eV]; exact hS2.set2 _
 have h1 := zCp w0 V g A n c bs at_ left 7 7 rfl (by decide) hn hnl hg hBV hSV hC0
 rw [hq] at h1
 have H1 := zH h1
 have HK := zH hKV
 have hV4 : V.heap[w.heap.size]? = some (.cells Z5 25 (0, 0)) := by rw [eV]; exact (Below.heap_setCell _ _ _ _ (by simp; omega)).trans (zAs w _)
 have HV4 := zH hV4
 have HG := zH hgl
 have HW := zH hB.size
 clear hV4
 clear hS hB hS2 hgl hBV hKV hSV h1 hC0 hn hdz
 go_enter Try.func140, Try.ntmps140
 go_wp2_with fail
 rw [← eV]
 refine H1.out.mono ?_
 rintro e w1 ⟨hB1, hK1, hres⟩
 obtain ⟨rfl, hRD⟩ : e = .returned (.int .i64 0) ∧ RD w1 g A n c ((n : Int) - (r.length : Nat)) left := by
  rcases hres with ⟨h, -⟩ | ⟨v, r', h, he, hRD⟩
  ·cases h
  simp only [Option.some.injEq, Prod.mk.injEq] at h
  obtain ⟨rfl, rfl⟩ := h
  exact ⟨he, hRD⟩
 have b4 := (hK1.2 w.heap.size (zAp HV4.out) (by have := HG.out; omega) (by simp)).trans HV4.out
 have k4 : (w1.alloc (.cells Z5 25)).heap[w.heap.size]? = some (.cells Z5 25 (0, 0)) := (Below.heap_alloc _ _ _ (zAp b4)).trans b4
 have HB1 := zH hB1
 have HK1 := zH hK1
 have HRD := zH hRD
 have K4 := zH k4
 clear hB1 hK1 hRD hres b4 eV
 go_wp2
 refine wp_loop_rounds 1 ?_
 rw [rounds_succ]
 have y0 := zAb k4 0
 have y1 := zAb k4 1
 have y2 := zAb k4 2
 have y3 := zAb k4 3
 have y4 := zAb k4 4
 have z0 := zAa k4 0
 have z1 := zAa k4 1
 have z2' := zAa k4 2
 have z3 := zAa k4 3
 have z4 := zAa k4 4
 simp only [zC, zA, zB] at y0 y1 y2 y3 y4
 clear k4
 go_wp2
 have f4 := zAn (zAn (zAn (zAn (zAn K4.out 0 (.int .i64 0)) 1 (.string ⟨#[]⟩)) 2 (.string ⟨#[]⟩)) 3 (.slice none 0 0)) 4 (.slice none 0 0)
 simp at f4
 have hww := HW.out
 have hB9 := zAc HB1.out (.cells Z5 25)
 have hK9 := (HK.out.trans HK1.out (Or.inl rfl)).trans (KeepBut.of_below (zAc (Below.refl w1.heap.size w1) (.cells Z5 25)) g none) (Or.inl rfl)
 refine bodyPost_ret (zAt rfl (.cell w.heap.size 25 _ (0, 0) _ rfl f4 Try.underlying25 rfl (by kernel_rfl) .nil)) rfl ⟨?_, ?_, Or.inr ⟨_, _, none, 0, none, 0, rfl, rfl, ?_, ?_⟩⟩
 ·exact ((((hB9.setCell hww _).setCell hww _).setCell hww _).setCell hww _).setCell hww _
 ·refine ⟨by have := hK9.1; simpa using this, fun i hi h1 h2 => ?_⟩
  have hne : i ≠ w.heap.size := Nat.ne_of_lt hi
  exact (Below.heap_setCell _ _ _ _ hne).trans ((Below.heap_setCell _ _ _ _ hne).trans ((Below.heap_setCell _ _ _ _ hne).trans ((Below.heap_setCell _ _ _ _ hne).trans ((Below.heap_setCell _ _ _ _ hne).trans (hK9.2 i hi h1 h2)))))
 ·exact fun X _ => ⟨Nat.le_refl _, Kd.C_nil _ _, Nat.le_refl _, Kd.C_nil _ _⟩
 have hne : g ≠ w.heap.size := by have := HG.out; omega
 exact (Below.heap_setCell _ _ _ _ hne).trans ((Below.heap_setCell _ _ _ _ hne).trans ((Below.heap_setCell _ _ _ _ hne).trans ((Below.heap_setCell _ _ _ _ hne).trans ((Below.heap_setCell _ _ _ _ hne).trans ((Below.heap_alloc _ _ _ HRD.out.lt).trans HRD.out)))))
end Go.Proofs.Yteafilojjdfllaa
end
