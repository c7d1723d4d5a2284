/- Own text: the document's own look at a matcher goes through it as chk does. -/
import Derived.Test.YteafilojjdfllaaHolds
namespace Go.Proofs.Yteafilojjdfllaa
open Go Go.RowKit Go.Proofs.YteafilojjdfllaaW.PrintWords Go.Proofs.YteafilojjdfllaaW.PrintLast Go.Proofs.YteafilojjdfllaaW.PrintMore Go.Proofs.Yteafilojjdfllaa.PAll

mutual
/-- its texts are no longer than memory bears -/
def boundM : S25 → Prop
  | ⟨_, n, v, vs, ks⟩ => n.size ≤ 140737488351232 ∧ v.size ≤ 140737488351232 ∧ (∀ u ∈ vs, u.size ≤ 140737488351232) ∧ boundL ks
def boundL : List S25 → Prop
  | [] => True
  | k :: ks => boundM k ∧ boundL ks
end
theorem boundM_mk (m : S25) : boundM m ↔ m.f1.size ≤ 140737488351232 ∧ m.f2.size ≤ 140737488351232 ∧ (∀ u ∈ m.f3, u.size ≤ 140737488351232) ∧ boundL m.f4 := by cases m; simp [boundM]
theorem boundL_at : ∀ {ks : List S25} {j : Nat}, boundL ks → j < ks.length → boundM (ks.getD j z25)
  | k :: ks, 0, h, _ => h.1
  | k :: ks, j + 1, h, hj => by
    have := boundL_at (j := j) h.2 (by simpa using hj)
    simpa using this

def bareB (m : S25) (one many kids : Bool) : Bool := decide ((one = true ∨ m.f2.toList = []) ∧ (one = true ∨ many = true ∨ m.f1.toList = []) ∧ (many = true ∨ m.f3.length = 0) ∧ (kids = true ∨ m.f4.length = 0))
theorem bare.val (m : S25) (x y z : Bool) : varveref12_bare.f m.f0 m.f1 m.f2 m.f3 m.f4 x y z = some (bareB m x y z) := by
  have hz : ∀ t : Nat, (((t : Int) == 0) : Bool) = decide (t = 0) := fun t => by rw [Bool.eq_iff_iff]; simp only [beq_iff_eq, decide_eq_true_eq]; omega
  have hc : ∀ t : Nat, ((t : Int) = 0) = (t = 0) := fun t => by apply propext; omega
  unfold varveref12_bare.f bareB
  simp only [hz, hc]
  cases x <;> cases y <;> cases z <;> by_cases h1 : m.f1.toList = [] <;> by_cases h2 : m.f2.toList = [] <;> by_cases h3 : m.f3.length = 0 <;> by_cases h4 : m.f4.length = 0 <;> simp [h1, h2, h3, h4]
theorem bare147 (w : World) (m : S25) (A3 : Option Addr) (c3 : Nat) (A4 : Option Addr) (c4 : Nat) (x y z v : Bool) (hv : bareB m x y z = v) (h : MC w m A3 c3 A4 c4) :
    Calls Try.prog 147 #[.agg #[.int .i64 m.f0, .string m.f1, .string m.f2, .slice A3 m.f3.length c3, .slice A4 m.f4.length c4], .bool x, .bool y, .bool z] w fun e w' => e = .returned (.bool v) ∧ Below w.heap.size w w' :=
  varveref12_bare.calls m.f0 m.f1 m.f2 A3 c3 m.f3 A4 c4 m.f4 x y z v w h.2.1 h.1 h.2.2.2 h.2.2.1 (hv ▸ bare.val m x y z)
theorem name64 (w : World) (s : ByteArray) (v : Bool) (hv : nameB s = v) (hs : s.size ≤ 140737488351232) : Calls Try.prog 64 #[.string s] w fun e w' => e = .returned (.bool v) ∧ Below w.heap.size w w' :=
  (varveref11_Name.calls (s.size + 2) s v w (hv ▸ varveref11_Name.val s hs _ (Nat.le_refl _))).mono fun _ _ h => ⟨h.1, h.2.below⟩
theorem values149 (w : World) (A : Option Addr) (c : Nat) (l : List ByteArray) (v : Bool) (hv : valuesB l = v) (hc : l.length ≤ c) (h : Kd.C Kd.string w A l.length l) : Calls Try.prog 149 #[.slice A l.length c] w fun e w' => e = .returned (.bool v) ∧ Below w.heap.size w w' :=
  (varveref12_values.calls 40 A c l v w h hc (hv ▸ varveref12_values.val l 40 (Nat.le_refl _))).mono fun _ _ h => ⟨h.1, h.2.below⟩

/-- more bytes, with what is left of it -/
def txt (b : Int) (bad : Bool) (t : ByteArray) : Int × Bool := if (t.size : Int) > 4096 - b then (b, true) else (b + t.size, bad)
theorem text148 (w0 w : World) (g : Nat) (n b : Int) (bad : Bool) (t : ByteArray) (h0 : 0 ≤ b) (h1 : b ≤ 4096) (hI : IsS122 w0 w g n b bad) (hB : Below w0.heap.size w0 w) :
    Calls Try.prog 148 #[.pointer (some ⟨g, 0, none⟩), .string t] w fun e w' => e = .returned (.tuple #[]) ∧ IsS122 w0 w' g n (txt b bad t).1 (txt b bad t).2 ∧ Below w0.heap.size w0 w' ∧ KeepBut w w' g none := by
  refine varveref12_size_text.calls g n b bad t n (txt b bad t).1 (txt b bad t).2 w0 w hI hB ?_
  unfold varveref12_size_text.f txt
  rw [show wrap64 (4096 - b) = 4096 - b by unfold wrap64; omega]
  split
  · rfl
  · rw [show wrap64 (b + (t.size : Int)) = b + t.size by unfold wrap64; omega]
theorem txt_le {b : Int} {bad : Bool} {t : ByteArray} (h0 : 0 ≤ b) (h1 : b ≤ 4096) : 0 ≤ (txt b bad t).1 ∧ (txt b bad t).1 ≤ 4096 := by
  unfold txt; split
  · exact ⟨h0, h1⟩
  · simp only; omega

/-- how a look ends -/
def LookPost (w0 w : World) (g : Nat) (d : Int) (m : S25) (n b : Int) (e : Ending) (w' : World) : Prop :=
  e = .returned (.tuple #[]) ∧ Below w0.heap.size w0 w' ∧ KeepBut w w' g none ∧ ∃ n' b', IsS122 w0 w' g n' b' (!chk d m (64 - n) (4096 - b)) ∧ (chk d m (64 - n) (4096 - b) = true → n' = n + nodesM m ∧ b' = b + bytesM m)

theorem LookPost.no {w0 w w' : World} {g : Nat} {d : Int} {m : S25} {n b n' b' : Int} (h : chk d m (64 - n) (4096 - b) = false) (hB : Below w0.heap.size w0 w') (hK : KeepBut w w' g none) (hI : IsS122 w0 w' g n' b' true) : LookPost w0 w g d m n b (.returned (.tuple #[])) w' :=
  ⟨rfl, hB, hK, n', b', by rw [h]; exact hI, fun e => by rw [h] at e; cases e⟩
theorem LookPost.yes {w0 w w' : World} {g : Nat} {d : Int} {m : S25} {n b n' b' : Int} (h : chk d m (64 - n) (4096 - b) = true) (hB : Below w0.heap.size w0 w') (hK : KeepBut w w' g none) (hI : IsS122 w0 w' g n' b' false) (hn : n' = n + nodesM m) (hb : b' = b + bytesM m) : LookPost w0 w g d m n b (.returned (.tuple #[])) w' :=
  ⟨rfl, hB, hK, n', b', by rw [h]; exact hI, fun _ => ⟨hn, hb⟩⟩

/-- the matcher's own box -/
def BoxM (X : World) (p : Nat) (op : Int) (t1 t2 : ByteArray) (s3 s4 : Value) : Prop := X.heap[p]? = some (.cells #[.int .i64 op, .string t1, .string t2, s3, s4] 25 (0, 0))
section
variable {X Y : World} {p : Nat} {op : Int} {t1 t2 : ByteArray} {s3 s4 : Value}
theorem BoxM.lt (h : BoxM X p op t1 t2 s3 s4) : p < X.heap.size := (Array.getElem?_eq_some_iff.1 h).1
theorem BoxM.below (h : BoxM X p op t1 t2 s3 s4) (hb : Below X.heap.size X Y) : BoxM Y p op t1 t2 s3 s4 := (hb.block p h.lt).trans h
theorem BoxM.keep (h : BoxM X p op t1 t2 s3 s4) {g : Nat} (hk : KeepBut X Y g none) (hne : p ≠ g) : BoxM Y p op t1 t2 s3 s4 := (hk.2 p h.lt hne (by simp)).trans h
theorem BoxM.set (h : BoxM X p op t1 t2 s3 s4) {g j : Nat} (hne : p ≠ g) (u : Value) : BoxM (X.setCell ⟨g, j, none⟩ u) p op t1 t2 s3 s4 := (Below.heap_setCell _ _ _ p (by simpa using hne)).trans h
theorem BoxM.c0 (h : BoxM X p op t1 t2 s3 s4) : X.cell? ⟨p, 0, none⟩ = some (.int .i64 op) := (blk_cell h 0).trans rfl
theorem BoxM.c1 (h : BoxM X p op t1 t2 s3 s4) : X.cell? ⟨p, 1, none⟩ = some (.string t1) := (blk_cell h 1).trans rfl
theorem BoxM.c2 (h : BoxM X p op t1 t2 s3 s4) : X.cell? ⟨p, 2, none⟩ = some (.string t2) := (blk_cell h 2).trans rfl
theorem BoxM.c3 (h : BoxM X p op t1 t2 s3 s4) : X.cell? ⟨p, 3, none⟩ = some s3 := (blk_cell h 3).trans rfl
theorem BoxM.c4 (h : BoxM X p op t1 t2 s3 s4) : X.cell? ⟨p, 4, none⟩ = some s4 := (blk_cell h 4).trans rfl
end

theorem size0 {s : ByteArray} (h : s.toList = []) : s.size = 0 := by
  have := congrArg List.length h
  rw [ByteArray.toList_eq, Array.length_toList] at this
  exact this
/-- without kids -/
theorem chk_leaf {d : Int} {op : Int} {t1 t2 : ByteArray} {vs : List ByteArray} {n b : Int} (hd : d ≤ 8) (hn : 1 ≤ n) : chk d ⟨op, t1, t2, vs, []⟩ n b = (aloneB ⟨op, t1, t2, vs, []⟩ && decide ((t1.size + t2.size + sizes vs : Int) ≤ b)) := by
  rw [Bool.eq_iff_iff, chk_iff, chkL_nil, Bool.and_eq_true, decide_eq_true_iff]
  constructor
  · rintro ⟨_, _, h3, h4, _⟩; exact ⟨h3, h4⟩
  · rintro ⟨h3, h4⟩; exact ⟨hd, hn, h3, h4, by omega, by omega, by simp only; omega⟩

theorem txt_bad {b : Int} {t : ByteArray} : (txt b true t).2 = true := by unfold txt; split <;> rfl
theorem txt2_bad {b : Int} {t u : ByteArray} {r : Int × Bool} (h : txt b true t = r) : (txt r.1 r.2 u).2 = true := by
  have : r.2 = true := by rw [← h]; exact txt_bad
  rw [this]; exact txt_bad
theorem txt_ok {b : Int} {t : ByteArray} (h : (t.size : Int) ≤ 4096 - b) : txt b false t = (b + t.size, false) := by unfold txt; rw [if_neg (by omega)]
theorem txt_no {b : Int} {t : ByteArray} (h : ¬ (t.size : Int) ≤ 4096 - b) : txt b false t = (b, true) := by unfold txt; rw [if_pos (by omega)]
theorem not_alone {d : Int} {m : S25} {n b : Int} (h : aloneB m = false) : chk d m n b = false := chk_false_of (fun h' => by rw [h] at h'; exact absurd h'.2.2.1 (by decide))
theorem alone_123 (op : Int) (h : op = 1 ∨ op = 2 ∨ op = 3) (t1 t2 : ByteArray) (vs : List ByteArray) (ks : List S25) : aloneB ⟨op, t1, t2, vs, ks⟩ = (bareB ⟨op, t1, t2, vs, ks⟩ true false false && nameB t1 && decide (t2.size ≤ 64)) := by
  have hb : bareB ⟨op, t1, t2, vs, ks⟩ true false false = decide (vs.length = 0 ∧ ks.length = 0) := by unfold bareB; rw [decide_eq_decide]; simp
  have h0 : ¬ op = 0 := by omega
  rw [hb]
  simp only [aloneB, if_neg h0, if_pos h]
  rw [Bool.eq_iff_iff]
  simp only [Bool.and_eq_true, decide_eq_true_iff]
  constructor
  · rintro ⟨h1, h2, h3, h4⟩; exact ⟨⟨⟨h4, h3⟩, h1⟩, h2⟩
  · rintro ⟨⟨⟨h4, h3⟩, h1⟩, h2⟩; exact ⟨h1, h2, h3, h4⟩
theorem alone_4 (t1 t2 : ByteArray) (vs : List ByteArray) (ks : List S25) : aloneB ⟨4, t1, t2, vs, ks⟩ = (bareB ⟨4, t1, t2, vs, ks⟩ false true false && nameB t1 && valuesB vs) := by
  have hb : bareB ⟨4, t1, t2, vs, ks⟩ false true false = decide (t2.toList = [] ∧ ks.length = 0) := by unfold bareB; rw [decide_eq_decide]; simp
  rw [hb]
  simp only [aloneB]
  rw [if_neg (by omega), if_neg (by omega), if_pos trivial, Bool.eq_iff_iff]
  simp only [Bool.and_eq_true, decide_eq_true_iff]
  constructor
  · rintro ⟨⟨h1, h2, h3⟩, h4⟩; exact ⟨⟨⟨h3, h2⟩, h1⟩, h4⟩
  · rintro ⟨⟨⟨h3, h2⟩, h1⟩, h4⟩; exact ⟨⟨h1, h2, h3⟩, h4⟩
theorem alone_56 (op : Int) (h : op = 5 ∨ op = 6) (t1 t2 : ByteArray) (vs : List ByteArray) (ks : List S25) : aloneB ⟨op, t1, t2, vs, ks⟩ = bareB ⟨op, t1, t2, vs, ks⟩ false false true := by
  have hb : bareB ⟨op, t1, t2, vs, ks⟩ false false true = plainB ⟨op, t1, t2, vs, ks⟩ := by
    unfold bareB plainB; rw [decide_eq_decide]; simp; constructor
    · rintro ⟨h1, h2, h3⟩; exact ⟨h2, h1, h3⟩
    · rintro ⟨h1, h2, h3⟩; exact ⟨h2, h1, h3⟩
  rw [hb]
  simp only [aloneB]
  rw [if_neg (by omega), if_neg (by omega), if_neg (by omega), if_pos h]
theorem alone_7 (t1 t2 : ByteArray) (vs : List ByteArray) (ks : List S25) : aloneB ⟨7, t1, t2, vs, ks⟩ = (bareB ⟨7, t1, t2, vs, ks⟩ false false true && decide (ks.length = 1)) := by
  have hb : bareB ⟨7, t1, t2, vs, ks⟩ false false true = plainB ⟨7, t1, t2, vs, ks⟩ := by
    unfold bareB plainB; rw [decide_eq_decide]; simp; constructor
    · rintro ⟨h1, h2, h3⟩; exact ⟨h2, h1, h3⟩
    · rintro ⟨h1, h2, h3⟩; exact ⟨h2, h1, h3⟩
  rw [hb]
  simp only [aloneB]
  rw [if_neg (by omega), if_neg (by omega), if_neg (by omega), if_neg (by omega), if_pos trivial]
theorem alone_other {op : Int} (h : op ≠ 0 ∧ op ≠ 1 ∧ op ≠ 2 ∧ op ≠ 3 ∧ op ≠ 4 ∧ op ≠ 5 ∧ op ≠ 6 ∧ op ≠ 7) (t1 t2 : ByteArray) (vs : List ByteArray) (ks : List S25) : aloneB ⟨op, t1, t2, vs, ks⟩ = false := by
  simp only [aloneB]
  rw [if_neg (by omega), if_neg (by omega), if_neg (by omega), if_neg (by omega), if_neg (by omega)]
theorem values149m (w0 w : World) (m : S25) (A3 : Option Addr) (c3 : Nat) (A4 : Option Addr) (c4 : Nat) (v : Bool) (hv : valuesB m.f3 = v) (hM : MC w0 m A3 c3 A4 c4) (hB : Below w0.heap.size w0 w) :
    Calls Try.prog 149 #[.slice A3 m.f3.length c3] w fun e w' => e = .returned (.bool v) ∧ Below w.heap.size w w' := values149 w A3 c3 m.f3 v hv hM.1 (Kd.C_below hM.2.1 hB)
theorem sizes_take_le : ∀ (vs : List ByteArray) (j : Nat), sizes (vs.take j) ≤ sizes vs
  | [], _ => by simp
  | v :: vs, 0 => by simp [sizes]
  | v :: vs, j + 1 => by have := sizes_take_le vs j; simp only [List.take_succ_cons, sizes]; omega
theorem plain_own {op : Int} {t1 t2 : ByteArray} {vs : List ByteArray} {ks : List S25} (h : bareB ⟨op, t1, t2, vs, ks⟩ false false true = true) : t1.size = 0 ∧ t2.size = 0 ∧ vs = [] := by
  have h' := of_decide_eq_true (show decide _ = true from h)
  have h2 : t2.toList = [] := by rcases h'.1 with h | h; cases h; exact h
  have h1 : t1.toList = [] := by rcases h'.2.1 with h | h | h; cases h; cases h; exact h
  have h3 : vs = [] := by rcases h'.2.2.1 with h | h; cases h; exact List.eq_nil_of_length_eq_zero h
  exact ⟨size0 h1, size0 h2, h3⟩

set_option maxRecDepth 100000 in
set_option maxHeartbeats 16000000 in
theorem look99 : ∀ (N : Nat) (m : S25), nodesM m ≤ N → boundM m → ∀ (d n b : Int) (A3 : Option Addr) (c3 : Nat) (A4 : Option Addr) (c4 : Nat) (g : Nat) (w0 w : World), 0 ≤ d → d ≤ 100 → 0 ≤ n → n ≤ 64 → 0 ≤ b → b ≤ 4096 →
    MC w0 m A3 c3 A4 c4 → Below w0.heap.size w0 w → IsS122 w0 w g n b false →
    Calls Try.prog 99 #[.pointer (some ⟨g, 0, none⟩), .agg #[.int .i64 m.f0, .string m.f1, .string m.f2, .slice A3 m.f3.length c3, .slice A4 m.f4.length c4], .int .i64 d] w (LookPost w0 w g d m n b) := by
  intro N
  induction N with
  | zero => intro m h; rw [nodesM_mk] at h; omega
  | succ N ih =>
    rintro ⟨op, t1, t2, vs, ks⟩ hN
    have IH := Lib.hid ih
    clear ih
    intro hbound d n b A3 c3 A4 c4 g w0 w hd0 hd1 hn0 hn1 hb0 hb1 hM hB hI
    have hg := hI.2
    have hgl : g < w.heap.size := (Array.getElem?_eq_some_iff.1 hI.1).1
    have hne : w.heap.size ≠ g := by omega
    have q0 := cellS122_0 hI.1
    have z0 := blk_frozen hI.1 0
    have hI0 := hI.alloc (.cells #[.int .i64 op, .string t1, .string t2, .slice A3 vs.length c3, .slice A4 ks.length c4] 25)
    have r0 := cellS122_0 hI0.1
    have s0 := blk_frozen hI0.1 0
    have hI2 := (hI.set_0 (n + 1)).alloc (.cells #[.int .i64 op, .string t1, .string t2, .slice A3 vs.length c3, .slice A4 ks.length c4] 25)
    have q1 := cellS122_0 hI2.1
    have q2 := cellS122_2 hI2.1
    have z2 := blk_frozen hI2.1 2
    have hB2 : Below w0.heap.size w0 ((w.setCell ⟨g, 0, none⟩ (.int .i64 (n + 1))).alloc (.cells #[.int .i64 op, .string t1, .string t2, .slice A3 vs.length c3, .slice A4 ks.length c4] 25)) := below_alloc (hB.setCell hg _) _
    have hK2 : KeepBut w ((w.setCell ⟨g, 0, none⟩ (.int .i64 (n + 1))).alloc (.cells #[.int .i64 op, .string t1, .string t2, .slice A3 vs.length c3, .slice A4 ks.length c4] 25)) g none := ((KeepBut.refl w g none).set_ 0 _).trans (KeepBut.of_below (below_alloc (Below.refl _ _) _) g none) (.inl rfl)
    have hbox : ((w.setCell ⟨g, 0, none⟩ (.int .i64 (n + 1))).alloc (.cells #[.int .i64 op, .string t1, .string t2, .slice A3 vs.length c3, .slice A4 ks.length c4] 25)).heap[w.heap.size]? = some (.cells #[.int .i64 op, .string t1, .string t2, .slice A3 vs.length c3, .slice A4 ks.length c4] 25 (0, 0)) := by
      have := blk_new (w.setCell ⟨g, 0, none⟩ (.int .i64 (n + 1))) (.cells #[.int .i64 op, .string t1, .string t2, .slice A3 vs.length c3, .slice A4 ks.length c4] 25)
      simpa using this
    have hbx : BoxM _ w.heap.size op t1 t2 (.slice A3 vs.length c3) (.slice A4 ks.length c4) := hbox
    have x0 := hbx.c0
    have x1 := hbx.c1
    have x2 := hbx.c2
    have x3 := hbx.c3
    have x4 := hbx.c4
    have Hbound := Lib.hid (show t1.size ≤ 140737488351232 ∧ t2.size ≤ 140737488351232 ∧ (∀ u ∈ vs, u.size ≤ 140737488351232) ∧ boundL ks from (boundM_mk _).1 hbound)
    clear hbox hbound hI0
    by_cases hn : 64 < n + 1
    · have hc : chk d ⟨op, t1, t2, vs, ks⟩ (64 - n) (4096 - b) = false := chk_false_of (fun h => by omega)
      go_enter Try.func99, Try.ntmps99
      go_wp2
      first | go_end0 | ((try simp only [Exit.inBlock, Exit.then]); refine bodyPost_ret (results_none rfl _ _ _) rfl ?_)
      exact LookPost.no hc (below_alloc ((hB.setCell hg _).setCell hg _) (.cells #[.int .i64 op, .string t1, .string t2, .slice A3 vs.length c3, .slice A4 ks.length c4] 25)) ((((KeepBut.refl w g none).set_ 0 _).set_ 2 _).trans (KeepBut.of_below (below_alloc (Below.refl _ _) _) g none) (.inl rfl)) (((hI.set_0 (n + 1)).set_2 true).alloc _)
    · by_cases hd : 8 < d
      · have hc : chk d ⟨op, t1, t2, vs, ks⟩ (64 - n) (4096 - b) = false := chk_false_of (fun h => by omega)
        go_enter Try.func99, Try.ntmps99
        go_wp2
        first | go_end0 | ((try simp only [Exit.inBlock, Exit.then]); refine bodyPost_ret (results_none rfl _ _ _) rfl ?_)
        exact LookPost.no hc (below_alloc ((hB.setCell hg _).setCell hg _) (.cells #[.int .i64 op, .string t1, .string t2, .slice A3 vs.length c3, .slice A4 ks.length c4] 25)) ((((KeepBut.refl w g none).set_ 0 _).set_ 2 _).trans (KeepBut.of_below (below_alloc (Below.refl _ _) _) g none) (.inl rfl)) (((hI.set_0 (n + 1)).set_2 true).alloc _)
      · by_cases e0 : op = 0
        · subst e0
          cases hv : bareB ⟨0, t1, t2, vs, ks⟩ false false false with
          | false =>
            have hc : chk d ⟨0, t1, t2, vs, ks⟩ (64 - n) (4096 - b) = false := chk_false_of (fun h => by
              have h3 := h.2.2.1
              simp only [aloneB, plainB, if_true, Bool.and_eq_true, decide_eq_true_eq] at h3
              have : bareB ⟨0, t1, t2, vs, ks⟩ false false false = true := by unfold bareB; exact decide_eq_true ⟨.inr h3.1.2.1, .inr (.inr h3.1.1), .inr h3.1.2.2, .inr h3.2⟩
              rw [hv] at this; cases this)
            have Hv := Lib.hid hv
            clear hv
            go_enter Try.func99, Try.ntmps99
            go_wp2_with fail
            (with_reducible refine (bare147 _ ⟨0, t1, t2, vs, ks⟩ A3 c3 A4 c4 false false false false Hv.out (hM.below hB2)).mono ?_)
            rintro e w1 ⟨rfl, hb3⟩
            have hI3 := hI2.below hb3
            have z3 := blk_frozen hI3.1 2
            have z4 := cellS122_2 hI3.1
            go_wp2
            first | go_end0 | ((try simp only [Exit.inBlock, Exit.then]); refine bodyPost_ret (results_none rfl _ _ _) rfl ?_)
            exact LookPost.no hc ((below_step hB2 hb3).setCell hg _) ((hK2.trans (KeepBut.of_below hb3 g none) (.inl rfl)).set_ 2 _) (hI3.set_2 true)
          | true =>
            have hb0' := of_decide_eq_true (show decide _ = true from hv)
            have h2 : t2.toList = [] := by rcases hb0'.1 with h | h; cases h; exact h
            have h1 : t1.toList = [] := by rcases hb0'.2.1 with h | h | h; cases h; cases h; exact h
            have h3 : vs = [] := by rcases hb0'.2.2.1 with h | h; cases h; exact List.eq_nil_of_length_eq_zero h
            have h4 : ks = [] := by rcases hb0'.2.2.2 with h | h; cases h; exact List.eq_nil_of_length_eq_zero h
            have hc : chk d ⟨0, t1, t2, vs, ks⟩ (64 - n) (4096 - b) = true := by
              rw [h4, chk_leaf (by omega) (by omega), h3]
              simp only [aloneB, plainB, if_true, h1, h2, sizes, size0 h1, size0 h2]
              simp; omega
            have hnod : nodesM ⟨0, t1, t2, vs, ks⟩ = 1 := by rw [h4]; simp [nodesM, nodesL]
            have hbyt : bytesM ⟨0, t1, t2, vs, ks⟩ = 0 := by rw [h4, h3]; simp [bytesM, bytesL, sizes, size0 h1, size0 h2]
            have Hv := Lib.hid hv
            have Hnod := Lib.hid hnod
            have Hbyt := Lib.hid hbyt
            clear hv hb0' h1 h2 h3 h4 hnod hbyt
            go_enter Try.func99, Try.ntmps99
            go_wp2_with fail
            (with_reducible refine (bare147 _ ⟨0, t1, t2, vs, ks⟩ A3 c3 A4 c4 false false false true Hv.out (hM.below hB2)).mono ?_)
            rintro e w1 ⟨rfl, hb3⟩
            have hI3 := hI2.below hb3
            have z3 := blk_frozen hI3.1 2
            have z4 := cellS122_2 hI3.1
            go_wp2
            first | go_end0 | ((try simp only [Exit.inBlock, Exit.then]); refine bodyPost_ret (results_none rfl _ _ _) rfl ?_)
            exact LookPost.yes hc ((below_step hB2 hb3).setCell hg _) ((hK2.trans (KeepBut.of_below hb3 g none) (.inl rfl)).set_ 2 _) (hI3.set_2 false) (by rw [Hnod.out]; rfl) (by rw [Hbyt.out]; omega)
        · have hX2 := hbx
          by_cases e1 : op = 1
          · subst e1
            have Hal := Lib.hid (alone_123 1 (by omega) t1 t2 vs ks)
            cases hv : bareB ⟨1, t1, t2, vs, ks⟩ true false false with
            | false =>
              have hc : chk d ⟨1, t1, t2, vs, ks⟩ (64 - n) (4096 - b) = false := not_alone (by rw [Hal.out, hv]; rfl)
              have Hbare := Lib.hid hv
              clear hv
              go_enter Try.func99, Try.ntmps99
              go_wp2_with fail
              (with_reducible refine (bare147 _ ⟨1, t1, t2, vs, ks⟩ A3 c3 A4 c4 true false false false Hbare.out (hM.below hB2)).mono ?_)
              rintro e w3 ⟨rfl, hb3⟩
              have hB3 := below_step hB2 hb3
              have hI3 := hI2.below hb3
              have hK3 := hK2.trans (KeepBut.of_below hb3 g none) (.inl rfl)
              have hX3 := hX2.below hb3
              have u3 := hX3.c1
              have v3 := hX3.c2
              have p3 := hX3.c3
              have o3 := hX3.c0
              have k3 := hX3.c4
              have z3 := blk_frozen hI3.1 2
              have y3 := cellS122_2 hI3.1
              have hIS := hI3.set_2 true
              have hBS : Below w0.heap.size w0 (w3.setCell ⟨g, 2, none⟩ (.bool true)) := hB3.setCell hg _
              have hKS : KeepBut w (w3.setCell ⟨g, 2, none⟩ (.bool true)) g none := hK3.set_ 2 _
              have hXS := hX3.set (j := 2) hne (.bool true)
              go_wp2_with fail
              (with_reducible refine (text148 w0 _ g (n + 1) b true t1 hb0 hb1 hIS hBS).mono ?_)
              rintro e w8 ⟨rfl, hI8, hB8, hK8⟩
              have hX8 := hXS.keep hK8 hne
              have v8 := hX8.c2
              have hle := txt_le (bad := true) (t := t1) hb0 hb1
              obtain ⟨r1, er1⟩ : ∃ r, txt b true t1 = r := ⟨_, rfl⟩
              rw [er1] at hI8 hle
              have Er1 := Lib.hid er1
              clear er1
              go_wp2_with fail
              (with_reducible refine (text148 w0 _ g (n + 1) r1.1 r1.2 t2 hle.1 hle.2 hI8 hB8).mono ?_)
              rintro e w9 ⟨rfl, hI9, hB9, hK9⟩
              go_wp2
              first | go_end0 | ((try simp only [Exit.inBlock, Exit.then]); refine bodyPost_ret (results_none rfl _ _ _) rfl ?_)
              have hKf := (hKS.trans hK8 (.inl rfl)).trans hK9 (.inl rfl)
              exact LookPost.no hc hB9 hKf (txt2_bad (u := t2) Er1.out ▸ hI9)
            | true =>
              have Hbare := Lib.hid hv
              clear hv
              cases hv : nameB t1 with
              | false =>
                have hc : chk d ⟨1, t1, t2, vs, ks⟩ (64 - n) (4096 - b) = false := not_alone (by rw [Hal.out, Hbare.out, hv]; rfl)
                have Hname := Lib.hid hv
                clear hv
                go_enter Try.func99, Try.ntmps99
                go_wp2_with fail
                (with_reducible refine (bare147 _ ⟨1, t1, t2, vs, ks⟩ A3 c3 A4 c4 true false false true Hbare.out (hM.below hB2)).mono ?_)
                rintro e w3 ⟨rfl, hb3⟩
                have hB3 := below_step hB2 hb3
                have hI3 := hI2.below hb3
                have hK3 := hK2.trans (KeepBut.of_below hb3 g none) (.inl rfl)
                have hX3 := hX2.below hb3
                have u3 := hX3.c1
                have v3 := hX3.c2
                have p3 := hX3.c3
                have o3 := hX3.c0
                have k3 := hX3.c4
                have z3 := blk_frozen hI3.1 2
                have y3 := cellS122_2 hI3.1
                go_wp2_with fail
                (with_reducible refine (name64 _ t1 false Hname.out Hbound.out.1).mono ?_)
                rintro e w4 ⟨rfl, hb4⟩
                have hB4 := below_step hB3 hb4
                have hI4 := hI3.below hb4
                have hK4 := hK3.trans (KeepBut.of_below hb4 g none) (.inl rfl)
                have hX4 := hX3.below hb4
                have u4 := hX4.c1
                have v4 := hX4.c2
                have p4 := hX4.c3
                have o4 := hX4.c0
                have k4 := hX4.c4
                have z4 := blk_frozen hI4.1 2
                have y4 := cellS122_2 hI4.1
                have hIS := hI4.set_2 true
                have hBS : Below w0.heap.size w0 (w4.setCell ⟨g, 2, none⟩ (.bool true)) := hB4.setCell hg _
                have hKS : KeepBut w (w4.setCell ⟨g, 2, none⟩ (.bool true)) g none := hK4.set_ 2 _
                have hXS := hX4.set (j := 2) hne (.bool true)
                go_wp2_with fail
                (with_reducible refine (text148 w0 _ g (n + 1) b true t1 hb0 hb1 hIS hBS).mono ?_)
                rintro e w8 ⟨rfl, hI8, hB8, hK8⟩
                have hX8 := hXS.keep hK8 hne
                have v8 := hX8.c2
                have hle := txt_le (bad := true) (t := t1) hb0 hb1
                obtain ⟨r1, er1⟩ : ∃ r, txt b true t1 = r := ⟨_, rfl⟩
                rw [er1] at hI8 hle
                have Er1 := Lib.hid er1
                clear er1
                go_wp2_with fail
                (with_reducible refine (text148 w0 _ g (n + 1) r1.1 r1.2 t2 hle.1 hle.2 hI8 hB8).mono ?_)
                rintro e w9 ⟨rfl, hI9, hB9, hK9⟩
                go_wp2
                first | go_end0 | ((try simp only [Exit.inBlock, Exit.then]); refine bodyPost_ret (results_none rfl _ _ _) rfl ?_)
                have hKf := (hKS.trans hK8 (.inl rfl)).trans hK9 (.inl rfl)
                exact LookPost.no hc hB9 hKf (txt2_bad (u := t2) Er1.out ▸ hI9)
              | true =>
                have Hname := Lib.hid hv
                clear hv
                by_cases h64 : t2.size ≤ 64
                · have hks : ks = [] := by
                    have h' := of_decide_eq_true (show decide _ = true from Hbare.out)
                    rcases h'.2.2.2 with h | h
                    · cases h
                    · exact List.eq_nil_of_length_eq_zero h
                  have hvs : vs = [] := by
                    have h' := of_decide_eq_true (show decide _ = true from Hbare.out)
                    rcases h'.2.2.1 with h | h
                    · cases h
                    · exact List.eq_nil_of_length_eq_zero h
                  have Hchk := Lib.hid (show chk d ⟨1, t1, t2, vs, ks⟩ (64 - n) (4096 - b) = decide ((t1.size + t2.size : Int) ≤ 4096 - b) from by
                    have ha : aloneB ⟨1, t1, t2, vs, ks⟩ = true := by rw [Hal.out, Hbare.out, Hname.out, decide_eq_true h64]; rfl
                    rw [hks] at ha ⊢
                    rw [chk_leaf (by omega) (by omega), ha, Bool.true_and, decide_eq_decide, hvs]
                    simp only [sizes]; omega)
                  have Hnod := Lib.hid (show nodesM ⟨1, t1, t2, vs, ks⟩ = 1 from by rw [hks]; simp [nodesM, nodesL])
                  have Hbyt := Lib.hid (show bytesM ⟨1, t1, t2, vs, ks⟩ = t1.size + t2.size from by rw [hks, hvs]; simp [bytesM, bytesL, sizes])
                  clear hks hvs
                  have h64b : decide ((64 : Int) < (t2.size : Int)) = false := decide_eq_false (by omega)
                  have h64c : decide (64 < t2.size) = false := decide_eq_false (by omega)
                  go_enter Try.func99, Try.ntmps99
                  go_wp2_with fail
                  (with_reducible refine (bare147 _ ⟨1, t1, t2, vs, ks⟩ A3 c3 A4 c4 true false false true Hbare.out (hM.below hB2)).mono ?_)
                  rintro e w3 ⟨rfl, hb3⟩
                  have hB3 := below_step hB2 hb3
                  have hI3 := hI2.below hb3
                  have hK3 := hK2.trans (KeepBut.of_below hb3 g none) (.inl rfl)
                  have hX3 := hX2.below hb3
                  have u3 := hX3.c1
                  have v3 := hX3.c2
                  have p3 := hX3.c3
                  have o3 := hX3.c0
                  have k3 := hX3.c4
                  have z3 := blk_frozen hI3.1 2
                  have y3 := cellS122_2 hI3.1
                  go_wp2_with fail
                  (with_reducible refine (name64 _ t1 true Hname.out Hbound.out.1).mono ?_)
                  rintro e w4 ⟨rfl, hb4⟩
                  have hB4 := below_step hB3 hb4
                  have hI4 := hI3.below hb4
                  have hK4 := hK3.trans (KeepBut.of_below hb4 g none) (.inl rfl)
                  have hX4 := hX3.below hb4
                  have u4 := hX4.c1
                  have v4 := hX4.c2
                  have p4 := hX4.c3
                  have o4 := hX4.c0
                  have k4 := hX4.c4
                  have z4 := blk_frozen hI4.1 2
                  have y4 := cellS122_2 hI4.1
                  have hIS := hI4.set_2 false
                  have hBS : Below w0.heap.size w0 (w4.setCell ⟨g, 2, none⟩ (.bool false)) := hB4.setCell hg _
                  have hKS : KeepBut w (w4.setCell ⟨g, 2, none⟩ (.bool false)) g none := hK4.set_ 2 _
                  have hXS := hX4.set (j := 2) hne (.bool false)
                  go_wp2_with fail
                  (with_reducible refine (text148 w0 _ g (n + 1) b false t1 hb0 hb1 hIS hBS).mono ?_)
                  rintro e w8 ⟨rfl, hI8, hB8, hK8⟩
                  have hX8 := hXS.keep hK8 hne
                  have v8 := hX8.c2
                  have hle := txt_le (bad := false) (t := t1) hb0 hb1
                  obtain ⟨r1, er1⟩ : ∃ r, txt b false t1 = r := ⟨_, rfl⟩
                  rw [er1] at hI8 hle
                  have Er1 := Lib.hid er1
                  clear er1
                  go_wp2_with fail
                  (with_reducible refine (text148 w0 _ g (n + 1) r1.1 r1.2 t2 hle.1 hle.2 hI8 hB8).mono ?_)
                  rintro e w9 ⟨rfl, hI9, hB9, hK9⟩
                  go_wp2
                  first | go_end0 | ((try simp only [Exit.inBlock, Exit.then]); refine bodyPost_ret (results_none rfl _ _ _) rfl ?_)
                  have hKf := (hKS.trans hK8 (.inl rfl)).trans hK9 (.inl rfl)
                  by_cases hfit : (t1.size + t2.size : Int) ≤ 4096 - b
                  · have e1 := Er1.out.symm.trans (txt_ok (by omega))
                    rw [e1, txt_ok (by simp only; omega)] at hI9
                    exact LookPost.yes (by rw [Hchk.out]; exact decide_eq_true hfit) hB9 hKf hI9 (by rw [Hnod.out]; rfl) (by rw [Hbyt.out]; simp only; omega)
                  · refine LookPost.no (n' := n + 1) (b' := (txt r1.1 r1.2 t2).1) (by rw [Hchk.out]; exact decide_eq_false hfit) hB9 hKf ?_
                    have : (txt r1.1 r1.2 t2).2 = true := by
                      by_cases h1 : (t1.size : Int) ≤ 4096 - b
                      · rw [Er1.out.symm.trans (txt_ok h1), txt_no (by simp only; omega)]
                      · rw [Er1.out.symm.trans (txt_no h1)]; exact txt_bad
                    rw [← this]; exact hI9
                · have hc : chk d ⟨1, t1, t2, vs, ks⟩ (64 - n) (4096 - b) = false := not_alone (by rw [Hal.out, decide_eq_false h64, Bool.and_false])
                  have h64' : (64 : Int) < (t2.size : Int) := by omega
                  go_enter Try.func99, Try.ntmps99
                  go_wp2_with fail
                  (with_reducible refine (bare147 _ ⟨1, t1, t2, vs, ks⟩ A3 c3 A4 c4 true false false true Hbare.out (hM.below hB2)).mono ?_)
                  rintro e w3 ⟨rfl, hb3⟩
                  have hB3 := below_step hB2 hb3
                  have hI3 := hI2.below hb3
                  have hK3 := hK2.trans (KeepBut.of_below hb3 g none) (.inl rfl)
                  have hX3 := hX2.below hb3
                  have u3 := hX3.c1
                  have v3 := hX3.c2
                  have p3 := hX3.c3
                  have o3 := hX3.c0
                  have k3 := hX3.c4
                  have z3 := blk_frozen hI3.1 2
                  have y3 := cellS122_2 hI3.1
                  go_wp2_with fail
                  (with_reducible refine (name64 _ t1 true Hname.out Hbound.out.1).mono ?_)
                  rintro e w4 ⟨rfl, hb4⟩
                  have hB4 := below_step hB3 hb4
                  have hI4 := hI3.below hb4
                  have hK4 := hK3.trans (KeepBut.of_below hb4 g none) (.inl rfl)
                  have hX4 := hX3.below hb4
                  have u4 := hX4.c1
                  have v4 := hX4.c2
                  have p4 := hX4.c3
                  have o4 := hX4.c0
                  have k4 := hX4.c4
                  have z4 := blk_frozen hI4.1 2
                  have y4 := cellS122_2 hI4.1
                  have hIS := hI4.set_2 true
                  have hBS : Below w0.heap.size w0 (w4.setCell ⟨g, 2, none⟩ (.bool true)) := hB4.setCell hg _
                  have hKS : KeepBut w (w4.setCell ⟨g, 2, none⟩ (.bool true)) g none := hK4.set_ 2 _
                  have hXS := hX4.set (j := 2) hne (.bool true)
                  go_wp2_with fail
                  (with_reducible refine (text148 w0 _ g (n + 1) b true t1 hb0 hb1 hIS hBS).mono ?_)
                  rintro e w8 ⟨rfl, hI8, hB8, hK8⟩
                  have hX8 := hXS.keep hK8 hne
                  have v8 := hX8.c2
                  have hle := txt_le (bad := true) (t := t1) hb0 hb1
                  obtain ⟨r1, er1⟩ : ∃ r, txt b true t1 = r := ⟨_, rfl⟩
                  rw [er1] at hI8 hle
                  have Er1 := Lib.hid er1
                  clear er1
                  go_wp2_with fail
                  (with_reducible refine (text148 w0 _ g (n + 1) r1.1 r1.2 t2 hle.1 hle.2 hI8 hB8).mono ?_)
                  rintro e w9 ⟨rfl, hI9, hB9, hK9⟩
                  go_wp2
                  first | go_end0 | ((try simp only [Exit.inBlock, Exit.then]); refine bodyPost_ret (results_none rfl _ _ _) rfl ?_)
                  have hKf := (hKS.trans hK8 (.inl rfl)).trans hK9 (.inl rfl)
                  exact LookPost.no hc hB9 hKf (txt2_bad (u := t2) Er1.out ▸ hI9)
          · by_cases e2 : op = 2
            · subst e2
              have Hal := Lib.hid (alone_123 2 (by omega) t1 t2 vs ks)
              cases hv : bareB ⟨2, t1, t2, vs, ks⟩ true false false with
              | false =>
                have hc : chk d ⟨2, t1, t2, vs, ks⟩ (64 - n) (4096 - b) = false := not_alone (by rw [Hal.out, hv]; rfl)
                have Hbare := Lib.hid hv
                clear hv
                go_enter Try.func99, Try.ntmps99
                go_wp2_with fail
                (with_reducible refine (bare147 _ ⟨2, t1, t2, vs, ks⟩ A3 c3 A4 c4 true false false false Hbare.out (hM.below hB2)).mono ?_)
                rintro e w3 ⟨rfl, hb3⟩
                have hB3 := below_step hB2 hb3
                have hI3 := hI2.below hb3
                have hK3 := hK2.trans (KeepBut.of_below hb3 g none) (.inl rfl)
                have hX3 := hX2.below hb3
                have u3 := hX3.c1
                have v3 := hX3.c2
                have p3 := hX3.c3
                have o3 := hX3.c0
                have k3 := hX3.c4
                have z3 := blk_frozen hI3.1 2
                have y3 := cellS122_2 hI3.1
                have hIS := hI3.set_2 true
                have hBS : Below w0.heap.size w0 (w3.setCell ⟨g, 2, none⟩ (.bool true)) := hB3.setCell hg _
                have hKS : KeepBut w (w3.setCell ⟨g, 2, none⟩ (.bool true)) g none := hK3.set_ 2 _
                have hXS := hX3.set (j := 2) hne (.bool true)
                go_wp2_with fail
                (with_reducible refine (text148 w0 _ g (n + 1) b true t1 hb0 hb1 hIS hBS).mono ?_)
                rintro e w8 ⟨rfl, hI8, hB8, hK8⟩
                have hX8 := hXS.keep hK8 hne
                have v8 := hX8.c2
                have hle := txt_le (bad := true) (t := t1) hb0 hb1
                obtain ⟨r1, er1⟩ : ∃ r, txt b true t1 = r := ⟨_, rfl⟩
                rw [er1] at hI8 hle
                have Er1 := Lib.hid er1
                clear er1
                go_wp2_with fail
                (with_reducible refine (text148 w0 _ g (n + 1) r1.1 r1.2 t2 hle.1 hle.2 hI8 hB8).mono ?_)
                rintro e w9 ⟨rfl, hI9, hB9, hK9⟩
                go_wp2
                first | go_end0 | ((try simp only [Exit.inBlock, Exit.then]); refine bodyPost_ret (results_none rfl _ _ _) rfl ?_)
                have hKf := (hKS.trans hK8 (.inl rfl)).trans hK9 (.inl rfl)
                exact LookPost.no hc hB9 hKf (txt2_bad (u := t2) Er1.out ▸ hI9)
              | true =>
                have Hbare := Lib.hid hv
                clear hv
                cases hv : nameB t1 with
                | false =>
                  have hc : chk d ⟨2, t1, t2, vs, ks⟩ (64 - n) (4096 - b) = false := not_alone (by rw [Hal.out, Hbare.out, hv]; rfl)
                  have Hname := Lib.hid hv
                  clear hv
                  go_enter Try.func99, Try.ntmps99
                  go_wp2_with fail
                  (with_reducible refine (bare147 _ ⟨2, t1, t2, vs, ks⟩ A3 c3 A4 c4 true false false true Hbare.out (hM.below hB2)).mono ?_)
                  rintro e w3 ⟨rfl, hb3⟩
                  have hB3 := below_step hB2 hb3
                  have hI3 := hI2.below hb3
                  have hK3 := hK2.trans (KeepBut.of_below hb3 g none) (.inl rfl)
                  have hX3 := hX2.below hb3
                  have u3 := hX3.c1
                  have v3 := hX3.c2
                  have p3 := hX3.c3
                  have o3 := hX3.c0
                  have k3 := hX3.c4
                  have z3 := blk_frozen hI3.1 2
                  have y3 := cellS122_2 hI3.1
                  go_wp2_with fail
                  (with_reducible refine (name64 _ t1 false Hname.out Hbound.out.1).mono ?_)
                  rintro e w4 ⟨rfl, hb4⟩
                  have hB4 := below_step hB3 hb4
                  have hI4 := hI3.below hb4
                  have hK4 := hK3.trans (KeepBut.of_below hb4 g none) (.inl rfl)
                  have hX4 := hX3.below hb4
                  have u4 := hX4.c1
                  have v4 := hX4.c2
                  have p4 := hX4.c3
                  have o4 := hX4.c0
                  have k4 := hX4.c4
                  have z4 := blk_frozen hI4.1 2
                  have y4 := cellS122_2 hI4.1
                  have hIS := hI4.set_2 true
                  have hBS : Below w0.heap.size w0 (w4.setCell ⟨g, 2, none⟩ (.bool true)) := hB4.setCell hg _
                  have hKS : KeepBut w (w4.setCell ⟨g, 2, none⟩ (.bool true)) g none := hK4.set_ 2 _
                  have hXS := hX4.set (j := 2) hne (.bool true)
                  go_wp2_with fail
                  (with_reducible refine (text148 w0 _ g (n + 1) b true t1 hb0 hb1 hIS hBS).mono ?_)
                  rintro e w8 ⟨rfl, hI8, hB8, hK8⟩
                  have hX8 := hXS.keep hK8 hne
                  have v8 := hX8.c2
                  have hle := txt_le (bad := true) (t := t1) hb0 hb1
                  obtain ⟨r1, er1⟩ : ∃ r, txt b true t1 = r := ⟨_, rfl⟩
                  rw [er1] at hI8 hle
                  have Er1 := Lib.hid er1
                  clear er1
                  go_wp2_with fail
                  (with_reducible refine (text148 w0 _ g (n + 1) r1.1 r1.2 t2 hle.1 hle.2 hI8 hB8).mono ?_)
                  rintro e w9 ⟨rfl, hI9, hB9, hK9⟩
                  go_wp2
                  first | go_end0 | ((try simp only [Exit.inBlock, Exit.then]); refine bodyPost_ret (results_none rfl _ _ _) rfl ?_)
                  have hKf := (hKS.trans hK8 (.inl rfl)).trans hK9 (.inl rfl)
                  exact LookPost.no hc hB9 hKf (txt2_bad (u := t2) Er1.out ▸ hI9)
                | true =>
                  have Hname := Lib.hid hv
                  clear hv
                  by_cases h64 : t2.size ≤ 64
                  · have hks : ks = [] := by
                      have h' := of_decide_eq_true (show decide _ = true from Hbare.out)
                      rcases h'.2.2.2 with h | h
                      · cases h
                      · exact List.eq_nil_of_length_eq_zero h
                    have hvs : vs = [] := by
                      have h' := of_decide_eq_true (show decide _ = true from Hbare.out)
                      rcases h'.2.2.1 with h | h
                      · cases h
                      · exact List.eq_nil_of_length_eq_zero h
                    have Hchk := Lib.hid (show chk d ⟨2, t1, t2, vs, ks⟩ (64 - n) (4096 - b) = decide ((t1.size + t2.size : Int) ≤ 4096 - b) from by
                      have ha : aloneB ⟨2, t1, t2, vs, ks⟩ = true := by rw [Hal.out, Hbare.out, Hname.out, decide_eq_true h64]; rfl
                      rw [hks] at ha ⊢
                      rw [chk_leaf (by omega) (by omega), ha, Bool.true_and, decide_eq_decide, hvs]
                      simp only [sizes]; omega)
                    have Hnod := Lib.hid (show nodesM ⟨2, t1, t2, vs, ks⟩ = 1 from by rw [hks]; simp [nodesM, nodesL])
                    have Hbyt := Lib.hid (show bytesM ⟨2, t1, t2, vs, ks⟩ = t1.size + t2.size from by rw [hks, hvs]; simp [bytesM, bytesL, sizes])
                    clear hks hvs
                    have h64b : decide ((64 : Int) < (t2.size : Int)) = false := decide_eq_false (by omega)
                    have h64c : decide (64 < t2.size) = false := decide_eq_false (by omega)
                    go_enter Try.func99, Try.ntmps99
                    go_wp2_with fail
                    (with_reducible refine (bare147 _ ⟨2, t1, t2, vs, ks⟩ A3 c3 A4 c4 true false false true Hbare.out (hM.below hB2)).mono ?_)
                    rintro e w3 ⟨rfl, hb3⟩
                    have hB3 := below_step hB2 hb3
                    have hI3 := hI2.below hb3
                    have hK3 := hK2.trans (KeepBut.of_below hb3 g none) (.inl rfl)
                    have hX3 := hX2.below hb3
                    have u3 := hX3.c1
                    have v3 := hX3.c2
                    have p3 := hX3.c3
                    have o3 := hX3.c0
                    have k3 := hX3.c4
                    have z3 := blk_frozen hI3.1 2
                    have y3 := cellS122_2 hI3.1
                    go_wp2_with fail
                    (with_reducible refine (name64 _ t1 true Hname.out Hbound.out.1).mono ?_)
                    rintro e w4 ⟨rfl, hb4⟩
                    have hB4 := below_step hB3 hb4
                    have hI4 := hI3.below hb4
                    have hK4 := hK3.trans (KeepBut.of_below hb4 g none) (.inl rfl)
                    have hX4 := hX3.below hb4
                    have u4 := hX4.c1
                    have v4 := hX4.c2
                    have p4 := hX4.c3
                    have o4 := hX4.c0
                    have k4 := hX4.c4
                    have z4 := blk_frozen hI4.1 2
                    have y4 := cellS122_2 hI4.1
                    have hIS := hI4.set_2 false
                    have hBS : Below w0.heap.size w0 (w4.setCell ⟨g, 2, none⟩ (.bool false)) := hB4.setCell hg _
                    have hKS : KeepBut w (w4.setCell ⟨g, 2, none⟩ (.bool false)) g none := hK4.set_ 2 _
                    have hXS := hX4.set (j := 2) hne (.bool false)
                    go_wp2_with fail
                    (with_reducible refine (text148 w0 _ g (n + 1) b false t1 hb0 hb1 hIS hBS).mono ?_)
                    rintro e w8 ⟨rfl, hI8, hB8, hK8⟩
                    have hX8 := hXS.keep hK8 hne
                    have v8 := hX8.c2
                    have hle := txt_le (bad := false) (t := t1) hb0 hb1
                    obtain ⟨r1, er1⟩ : ∃ r, txt b false t1 = r := ⟨_, rfl⟩
                    rw [er1] at hI8 hle
                    have Er1 := Lib.hid er1
                    clear er1
                    go_wp2_with fail
                    (with_reducible refine (text148 w0 _ g (n + 1) r1.1 r1.2 t2 hle.1 hle.2 hI8 hB8).mono ?_)
                    rintro e w9 ⟨rfl, hI9, hB9, hK9⟩
                    go_wp2
                    first | go_end0 | ((try simp only [Exit.inBlock, Exit.then]); refine bodyPost_ret (results_none rfl _ _ _) rfl ?_)
                    have hKf := (hKS.trans hK8 (.inl rfl)).trans hK9 (.inl rfl)
                    by_cases hfit : (t1.size + t2.size : Int) ≤ 4096 - b
                    · have e1 := Er1.out.symm.trans (txt_ok (by omega))
                      rw [e1, txt_ok (by simp only; omega)] at hI9
                      exact LookPost.yes (by rw [Hchk.out]; exact decide_eq_true hfit) hB9 hKf hI9 (by rw [Hnod.out]; rfl) (by rw [Hbyt.out]; simp only; omega)
                    · refine LookPost.no (n' := n + 1) (b' := (txt r1.1 r1.2 t2).1) (by rw [Hchk.out]; exact decide_eq_false hfit) hB9 hKf ?_
                      have : (txt r1.1 r1.2 t2).2 = true := by
                        by_cases h1 : (t1.size : Int) ≤ 4096 - b
                        · rw [Er1.out.symm.trans (txt_ok h1), txt_no (by simp only; omega)]
                        · rw [Er1.out.symm.trans (txt_no h1)]; exact txt_bad
                      rw [← this]; exact hI9
                  · have hc : chk d ⟨2, t1, t2, vs, ks⟩ (64 - n) (4096 - b) = false := not_alone (by rw [Hal.out, decide_eq_false h64, Bool.and_false])
                    have h64' : (64 : Int) < (t2.size : Int) := by omega
                    go_enter Try.func99, Try.ntmps99
                    go_wp2_with fail
                    (with_reducible refine (bare147 _ ⟨2, t1, t2, vs, ks⟩ A3 c3 A4 c4 true false false true Hbare.out (hM.below hB2)).mono ?_)
                    rintro e w3 ⟨rfl, hb3⟩
                    have hB3 := below_step hB2 hb3
                    have hI3 := hI2.below hb3
                    have hK3 := hK2.trans (KeepBut.of_below hb3 g none) (.inl rfl)
                    have hX3 := hX2.below hb3
                    have u3 := hX3.c1
                    have v3 := hX3.c2
                    have p3 := hX3.c3
                    have o3 := hX3.c0
                    have k3 := hX3.c4
                    have z3 := blk_frozen hI3.1 2
                    have y3 := cellS122_2 hI3.1
                    go_wp2_with fail
                    (with_reducible refine (name64 _ t1 true Hname.out Hbound.out.1).mono ?_)
                    rintro e w4 ⟨rfl, hb4⟩
                    have hB4 := below_step hB3 hb4
                    have hI4 := hI3.below hb4
                    have hK4 := hK3.trans (KeepBut.of_below hb4 g none) (.inl rfl)
                    have hX4 := hX3.below hb4
                    have u4 := hX4.c1
                    have v4 := hX4.c2
                    have p4 := hX4.c3
                    have o4 := hX4.c0
                    have k4 := hX4.c4
                    have z4 := blk_frozen hI4.1 2
                    have y4 := cellS122_2 hI4.1
                    have hIS := hI4.set_2 true
                    have hBS : Below w0.heap.size w0 (w4.setCell ⟨g, 2, none⟩ (.bool true)) := hB4.setCell hg _
                    have hKS : KeepBut w (w4.setCell ⟨g, 2, none⟩ (.bool true)) g none := hK4.set_ 2 _
                    have hXS := hX4.set (j := 2) hne (.bool true)
                    go_wp2_with fail
                    (with_reducible refine (text148 w0 _ g (n + 1) b true t1 hb0 hb1 hIS hBS).mono ?_)
                    rintro e w8 ⟨rfl, hI8, hB8, hK8⟩
                    have hX8 := hXS.keep hK8 hne
                    have v8 := hX8.c2
                    have hle := txt_le (bad := true) (t := t1) hb0 hb1
                    obtain ⟨r1, er1⟩ : ∃ r, txt b true t1 = r := ⟨_, rfl⟩
                    rw [er1] at hI8 hle
                    have Er1 := Lib.hid er1
                    clear er1
                    go_wp2_with fail
                    (with_reducible refine (text148 w0 _ g (n + 1) r1.1 r1.2 t2 hle.1 hle.2 hI8 hB8).mono ?_)
                    rintro e w9 ⟨rfl, hI9, hB9, hK9⟩
                    go_wp2
                    first | go_end0 | ((try simp only [Exit.inBlock, Exit.then]); refine bodyPost_ret (results_none rfl _ _ _) rfl ?_)
                    have hKf := (hKS.trans hK8 (.inl rfl)).trans hK9 (.inl rfl)
                    exact LookPost.no hc hB9 hKf (txt2_bad (u := t2) Er1.out ▸ hI9)
            · by_cases e3 : op = 3
              · subst e3
                have Hal := Lib.hid (alone_123 3 (by omega) t1 t2 vs ks)
                cases hv : bareB ⟨3, t1, t2, vs, ks⟩ true false false with
                | false =>
                  have hc : chk d ⟨3, t1, t2, vs, ks⟩ (64 - n) (4096 - b) = false := not_alone (by rw [Hal.out, hv]; rfl)
                  have Hbare := Lib.hid hv
                  clear hv
                  go_enter Try.func99, Try.ntmps99
                  go_wp2_with fail
                  (with_reducible refine (bare147 _ ⟨3, t1, t2, vs, ks⟩ A3 c3 A4 c4 true false false false Hbare.out (hM.below hB2)).mono ?_)
                  rintro e w3 ⟨rfl, hb3⟩
                  have hB3 := below_step hB2 hb3
                  have hI3 := hI2.below hb3
                  have hK3 := hK2.trans (KeepBut.of_below hb3 g none) (.inl rfl)
                  have hX3 := hX2.below hb3
                  have u3 := hX3.c1
                  have v3 := hX3.c2
                  have p3 := hX3.c3
                  have o3 := hX3.c0
                  have k3 := hX3.c4
                  have z3 := blk_frozen hI3.1 2
                  have y3 := cellS122_2 hI3.1
                  have hIS := hI3.set_2 true
                  have hBS : Below w0.heap.size w0 (w3.setCell ⟨g, 2, none⟩ (.bool true)) := hB3.setCell hg _
                  have hKS : KeepBut w (w3.setCell ⟨g, 2, none⟩ (.bool true)) g none := hK3.set_ 2 _
                  have hXS := hX3.set (j := 2) hne (.bool true)
                  go_wp2_with fail
                  (with_reducible refine (text148 w0 _ g (n + 1) b true t1 hb0 hb1 hIS hBS).mono ?_)
                  rintro e w8 ⟨rfl, hI8, hB8, hK8⟩
                  have hX8 := hXS.keep hK8 hne
                  have v8 := hX8.c2
                  have hle := txt_le (bad := true) (t := t1) hb0 hb1
                  obtain ⟨r1, er1⟩ : ∃ r, txt b true t1 = r := ⟨_, rfl⟩
                  rw [er1] at hI8 hle
                  have Er1 := Lib.hid er1
                  clear er1
                  go_wp2_with fail
                  (with_reducible refine (text148 w0 _ g (n + 1) r1.1 r1.2 t2 hle.1 hle.2 hI8 hB8).mono ?_)
                  rintro e w9 ⟨rfl, hI9, hB9, hK9⟩
                  go_wp2
                  first | go_end0 | ((try simp only [Exit.inBlock, Exit.then]); refine bodyPost_ret (results_none rfl _ _ _) rfl ?_)
                  have hKf := (hKS.trans hK8 (.inl rfl)).trans hK9 (.inl rfl)
                  exact LookPost.no hc hB9 hKf (txt2_bad (u := t2) Er1.out ▸ hI9)
                | true =>
                  have Hbare := Lib.hid hv
                  clear hv
                  cases hv : nameB t1 with
                  | false =>
                    have hc : chk d ⟨3, t1, t2, vs, ks⟩ (64 - n) (4096 - b) = false := not_alone (by rw [Hal.out, Hbare.out, hv]; rfl)
                    have Hname := Lib.hid hv
                    clear hv
                    go_enter Try.func99, Try.ntmps99
                    go_wp2_with fail
                    (with_reducible refine (bare147 _ ⟨3, t1, t2, vs, ks⟩ A3 c3 A4 c4 true false false true Hbare.out (hM.below hB2)).mono ?_)
                    rintro e w3 ⟨rfl, hb3⟩
                    have hB3 := below_step hB2 hb3
                    have hI3 := hI2.below hb3
                    have hK3 := hK2.trans (KeepBut.of_below hb3 g none) (.inl rfl)
                    have hX3 := hX2.below hb3
                    have u3 := hX3.c1
                    have v3 := hX3.c2
                    have p3 := hX3.c3
                    have o3 := hX3.c0
                    have k3 := hX3.c4
                    have z3 := blk_frozen hI3.1 2
                    have y3 := cellS122_2 hI3.1
                    go_wp2_with fail
                    (with_reducible refine (name64 _ t1 false Hname.out Hbound.out.1).mono ?_)
                    rintro e w4 ⟨rfl, hb4⟩
                    have hB4 := below_step hB3 hb4
                    have hI4 := hI3.below hb4
                    have hK4 := hK3.trans (KeepBut.of_below hb4 g none) (.inl rfl)
                    have hX4 := hX3.below hb4
                    have u4 := hX4.c1
                    have v4 := hX4.c2
                    have p4 := hX4.c3
                    have o4 := hX4.c0
                    have k4 := hX4.c4
                    have z4 := blk_frozen hI4.1 2
                    have y4 := cellS122_2 hI4.1
                    have hIS := hI4.set_2 true
                    have hBS : Below w0.heap.size w0 (w4.setCell ⟨g, 2, none⟩ (.bool true)) := hB4.setCell hg _
                    have hKS : KeepBut w (w4.setCell ⟨g, 2, none⟩ (.bool true)) g none := hK4.set_ 2 _
                    have hXS := hX4.set (j := 2) hne (.bool true)
                    go_wp2_with fail
                    (with_reducible refine (text148 w0 _ g (n + 1) b true t1 hb0 hb1 hIS hBS).mono ?_)
                    rintro e w8 ⟨rfl, hI8, hB8, hK8⟩
                    have hX8 := hXS.keep hK8 hne
                    have v8 := hX8.c2
                    have hle := txt_le (bad := true) (t := t1) hb0 hb1
                    obtain ⟨r1, er1⟩ : ∃ r, txt b true t1 = r := ⟨_, rfl⟩
                    rw [er1] at hI8 hle
                    have Er1 := Lib.hid er1
                    clear er1
                    go_wp2_with fail
                    (with_reducible refine (text148 w0 _ g (n + 1) r1.1 r1.2 t2 hle.1 hle.2 hI8 hB8).mono ?_)
                    rintro e w9 ⟨rfl, hI9, hB9, hK9⟩
                    go_wp2
                    first | go_end0 | ((try simp only [Exit.inBlock, Exit.then]); refine bodyPost_ret (results_none rfl _ _ _) rfl ?_)
                    have hKf := (hKS.trans hK8 (.inl rfl)).trans hK9 (.inl rfl)
                    exact LookPost.no hc hB9 hKf (txt2_bad (u := t2) Er1.out ▸ hI9)
                  | true =>
                    have Hname := Lib.hid hv
                    clear hv
                    by_cases h64 : t2.size ≤ 64
                    · have hks : ks = [] := by
                        have h' := of_decide_eq_true (show decide _ = true from Hbare.out)
                        rcases h'.2.2.2 with h | h
                        · cases h
                        · exact List.eq_nil_of_length_eq_zero h
                      have hvs : vs = [] := by
                        have h' := of_decide_eq_true (show decide _ = true from Hbare.out)
                        rcases h'.2.2.1 with h | h
                        · cases h
                        · exact List.eq_nil_of_length_eq_zero h
                      have Hchk := Lib.hid (show chk d ⟨3, t1, t2, vs, ks⟩ (64 - n) (4096 - b) = decide ((t1.size + t2.size : Int) ≤ 4096 - b) from by
                        have ha : aloneB ⟨3, t1, t2, vs, ks⟩ = true := by rw [Hal.out, Hbare.out, Hname.out, decide_eq_true h64]; rfl
                        rw [hks] at ha ⊢
                        rw [chk_leaf (by omega) (by omega), ha, Bool.true_and, decide_eq_decide, hvs]
                        simp only [sizes]; omega)
                      have Hnod := Lib.hid (show nodesM ⟨3, t1, t2, vs, ks⟩ = 1 from by rw [hks]; simp [nodesM, nodesL])
                      have Hbyt := Lib.hid (show bytesM ⟨3, t1, t2, vs, ks⟩ = t1.size + t2.size from by rw [hks, hvs]; simp [bytesM, bytesL, sizes])
                      clear hks hvs
                      have h64b : decide ((64 : Int) < (t2.size : Int)) = false := decide_eq_false (by omega)
                      have h64c : decide (64 < t2.size) = false := decide_eq_false (by omega)
                      go_enter Try.func99, Try.ntmps99
                      go_wp2_with fail
                      (with_reducible refine (bare147 _ ⟨3, t1, t2, vs, ks⟩ A3 c3 A4 c4 true false false true Hbare.out (hM.below hB2)).mono ?_)
                      rintro e w3 ⟨rfl, hb3⟩
                      have hB3 := below_step hB2 hb3
                      have hI3 := hI2.below hb3
                      have hK3 := hK2.trans (KeepBut.of_below hb3 g none) (.inl rfl)
                      have hX3 := hX2.below hb3
                      have u3 := hX3.c1
                      have v3 := hX3.c2
                      have p3 := hX3.c3
                      have o3 := hX3.c0
                      have k3 := hX3.c4
                      have z3 := blk_frozen hI3.1 2
                      have y3 := cellS122_2 hI3.1
                      go_wp2_with fail
                      (with_reducible refine (name64 _ t1 true Hname.out Hbound.out.1).mono ?_)
                      rintro e w4 ⟨rfl, hb4⟩
                      have hB4 := below_step hB3 hb4
                      have hI4 := hI3.below hb4
                      have hK4 := hK3.trans (KeepBut.of_below hb4 g none) (.inl rfl)
                      have hX4 := hX3.below hb4
                      have u4 := hX4.c1
                      have v4 := hX4.c2
                      have p4 := hX4.c3
                      have o4 := hX4.c0
                      have k4 := hX4.c4
                      have z4 := blk_frozen hI4.1 2
                      have y4 := cellS122_2 hI4.1
                      have hIS := hI4.set_2 false
                      have hBS : Below w0.heap.size w0 (w4.setCell ⟨g, 2, none⟩ (.bool false)) := hB4.setCell hg _
                      have hKS : KeepBut w (w4.setCell ⟨g, 2, none⟩ (.bool false)) g none := hK4.set_ 2 _
                      have hXS := hX4.set (j := 2) hne (.bool false)
                      go_wp2_with fail
                      (with_reducible refine (text148 w0 _ g (n + 1) b false t1 hb0 hb1 hIS hBS).mono ?_)
                      rintro e w8 ⟨rfl, hI8, hB8, hK8⟩
                      have hX8 := hXS.keep hK8 hne
                      have v8 := hX8.c2
                      have hle := txt_le (bad := false) (t := t1) hb0 hb1
                      obtain ⟨r1, er1⟩ : ∃ r, txt b false t1 = r := ⟨_, rfl⟩
                      rw [er1] at hI8 hle
                      have Er1 := Lib.hid er1
                      clear er1
                      go_wp2_with fail
                      (with_reducible refine (text148 w0 _ g (n + 1) r1.1 r1.2 t2 hle.1 hle.2 hI8 hB8).mono ?_)
                      rintro e w9 ⟨rfl, hI9, hB9, hK9⟩
                      go_wp2
                      first | go_end0 | ((try simp only [Exit.inBlock, Exit.then]); refine bodyPost_ret (results_none rfl _ _ _) rfl ?_)
                      have hKf := (hKS.trans hK8 (.inl rfl)).trans hK9 (.inl rfl)
                      by_cases hfit : (t1.size + t2.size : Int) ≤ 4096 - b
                      · have e1 := Er1.out.symm.trans (txt_ok (by omega))
                        rw [e1, txt_ok (by simp only; omega)] at hI9
                        exact LookPost.yes (by rw [Hchk.out]; exact decide_eq_true hfit) hB9 hKf hI9 (by rw [Hnod.out]; rfl) (by rw [Hbyt.out]; simp only; omega)
                      · refine LookPost.no (n' := n + 1) (b' := (txt r1.1 r1.2 t2).1) (by rw [Hchk.out]; exact decide_eq_false hfit) hB9 hKf ?_
                        have : (txt r1.1 r1.2 t2).2 = true := by
                          by_cases h1 : (t1.size : Int) ≤ 4096 - b
                          · rw [Er1.out.symm.trans (txt_ok h1), txt_no (by simp only; omega)]
                          · rw [Er1.out.symm.trans (txt_no h1)]; exact txt_bad
                        rw [← this]; exact hI9
                    · have hc : chk d ⟨3, t1, t2, vs, ks⟩ (64 - n) (4096 - b) = false := not_alone (by rw [Hal.out, decide_eq_false h64, Bool.and_false])
                      have h64' : (64 : Int) < (t2.size : Int) := by omega
                      go_enter Try.func99, Try.ntmps99
                      go_wp2_with fail
                      (with_reducible refine (bare147 _ ⟨3, t1, t2, vs, ks⟩ A3 c3 A4 c4 true false false true Hbare.out (hM.below hB2)).mono ?_)
                      rintro e w3 ⟨rfl, hb3⟩
                      have hB3 := below_step hB2 hb3
                      have hI3 := hI2.below hb3
                      have hK3 := hK2.trans (KeepBut.of_below hb3 g none) (.inl rfl)
                      have hX3 := hX2.below hb3
                      have u3 := hX3.c1
                      have v3 := hX3.c2
                      have p3 := hX3.c3
                      have o3 := hX3.c0
                      have k3 := hX3.c4
                      have z3 := blk_frozen hI3.1 2
                      have y3 := cellS122_2 hI3.1
                      go_wp2_with fail
                      (with_reducible refine (name64 _ t1 true Hname.out Hbound.out.1).mono ?_)
                      rintro e w4 ⟨rfl, hb4⟩
                      have hB4 := below_step hB3 hb4
                      have hI4 := hI3.below hb4
                      have hK4 := hK3.trans (KeepBut.of_below hb4 g none) (.inl rfl)
                      have hX4 := hX3.below hb4
                      have u4 := hX4.c1
                      have v4 := hX4.c2
                      have p4 := hX4.c3
                      have o4 := hX4.c0
                      have k4 := hX4.c4
                      have z4 := blk_frozen hI4.1 2
                      have y4 := cellS122_2 hI4.1
                      have hIS := hI4.set_2 true
                      have hBS : Below w0.heap.size w0 (w4.setCell ⟨g, 2, none⟩ (.bool true)) := hB4.setCell hg _
                      have hKS : KeepBut w (w4.setCell ⟨g, 2, none⟩ (.bool true)) g none := hK4.set_ 2 _
                      have hXS := hX4.set (j := 2) hne (.bool true)
                      go_wp2_with fail
                      (with_reducible refine (text148 w0 _ g (n + 1) b true t1 hb0 hb1 hIS hBS).mono ?_)
                      rintro e w8 ⟨rfl, hI8, hB8, hK8⟩
                      have hX8 := hXS.keep hK8 hne
                      have v8 := hX8.c2
                      have hle := txt_le (bad := true) (t := t1) hb0 hb1
                      obtain ⟨r1, er1⟩ : ∃ r, txt b true t1 = r := ⟨_, rfl⟩
                      rw [er1] at hI8 hle
                      have Er1 := Lib.hid er1
                      clear er1
                      go_wp2_with fail
                      (with_reducible refine (text148 w0 _ g (n + 1) r1.1 r1.2 t2 hle.1 hle.2 hI8 hB8).mono ?_)
                      rintro e w9 ⟨rfl, hI9, hB9, hK9⟩
                      go_wp2
                      first | go_end0 | ((try simp only [Exit.inBlock, Exit.then]); refine bodyPost_ret (results_none rfl _ _ _) rfl ?_)
                      have hKf := (hKS.trans hK8 (.inl rfl)).trans hK9 (.inl rfl)
                      exact LookPost.no hc hB9 hKf (txt2_bad (u := t2) Er1.out ▸ hI9)
              · by_cases e4 : op = 4
                · subst e4
                  have Hal := Lib.hid (alone_4 t1 t2 vs ks)
                  cases hv : bareB ⟨4, t1, t2, vs, ks⟩ false true false with
                  | false =>
                    have hc : chk d ⟨4, t1, t2, vs, ks⟩ (64 - n) (4096 - b) = false := not_alone (by rw [Hal.out, hv]; rfl)
                    have Hbare := Lib.hid hv
                    clear hv
                    go_enter Try.func99, Try.ntmps99
                    go_wp2_with fail
                    (with_reducible refine (bare147 _ ⟨4, t1, t2, vs, ks⟩ A3 c3 A4 c4 false true false false Hbare.out (hM.below hB2)).mono ?_)
                    rintro e w3 ⟨rfl, hb3⟩
                    have hB3 := below_step hB2 hb3
                    have hI3 := hI2.below hb3
                    have hK3 := hK2.trans (KeepBut.of_below hb3 g none) (.inl rfl)
                    have hX3 := hX2.below hb3
                    have u3 := hX3.c1
                    have v3 := hX3.c2
                    have p3 := hX3.c3
                    have o3 := hX3.c0
                    have k3 := hX3.c4
                    have z3 := blk_frozen hI3.1 2
                    have y3 := cellS122_2 hI3.1
                    have hIS := hI3.set_2 true
                    have hBS : Below w0.heap.size w0 (w3.setCell ⟨g, 2, none⟩ (.bool true)) := hB3.setCell hg _
                    have hKS : KeepBut w (w3.setCell ⟨g, 2, none⟩ (.bool true)) g none := hK3.set_ 2 _
                    have hXS := hX3.set (j := 2) hne (.bool true)
                    go_wp2_with fail
                    (with_reducible refine (text148 w0 _ g (n + 1) b true t1 hb0 hb1 hIS hBS).mono ?_)
                    rintro e w8 ⟨rfl, hI8, hB8, hK8⟩
                    have hX8 := hXS.keep hK8 hne
                    have hle := txt_le (bad := true) (t := t1) hb0 hb1
                    obtain ⟨r1, er1⟩ : ∃ r, txt b true t1 = r := ⟨_, rfl⟩
                    rw [er1] at hI8 hle
                    have Er1 := Lib.hid er1
                    clear er1
                    have p8 := hX8.c3
                    go_wp2
                    go_loopw [6] (fun u6 wr => ∃ (j : Nat) (bj : Int) (kj : Bool), u6 = .int .i64 j ∧ j ≤ vs.length ∧ IsS122 w0 wr g (n + 1) bj kj ∧ BoxM wr w.heap.size 4 t1 t2 (.slice A3 vs.length c3) (.slice A4 ks.length c4) ∧ Below w0.heap.size w0 wr ∧ KeepBut w wr g none ∧ kj = true ∧ 0 ≤ bj ∧ bj ≤ 4096 ∧ Hid (kj = true → chk d ⟨4, t1, t2, vs, ks⟩ (64 - n) (4096 - b) = false) ∧ Hid (kj = false → bj = b + t1.size + sizes (vs.take j)))
                      (fun u6 _ => vs.length - (intOf u6).toNat)
                    case atStart =>
                      refine ⟨0, r1.1, r1.2, rfl, Nat.zero_le _, hI8, hX8, hB8, hKS.trans hK8 (.inl rfl), by rw [← Er1.out]; exact txt_bad, hle.1, hle.2, Lib.hid (fun _ => hc), Lib.hid (fun hk => ?_)⟩
                      rw [← Er1.out, txt_bad] at hk; cases hk
                    case round =>
                      clear p8 hI8 hX8 hB8 hK8 hIS hBS hKS hXS
                      obtain ⟨j, bj, kj, rfl, hj, hIr, hXr, hBr, hKr, hkj, hbj0, hbj1, hkt, hkf⟩ := hrel
                      have pr := hXr.c3
                      have yr := cellS122_2 hIr.1
                      have hlen := hM.2.1.2.1
                      cases kj with
                      | true =>
                        have hc' := hkt.out rfl
                        have Hc := Lib.hid hc'
                        clear hc' hkt hkf
                        by_cases hlt : j < vs.length
                        · go_wp2
                          first | go_end0 | ((try simp only [Exit.inBlock, Exit.then]); refine bodyPost_ret (results_none rfl _ _ _) rfl ?_)
                          exact LookPost.no Hc.out hBr hKr hIr
                        · go_wp2
                          first | go_end0 | ((try simp only [Exit.inBlock, Exit.then]); refine bodyPost_ret (results_none rfl _ _ _) rfl ?_)
                          exact LookPost.no Hc.out hBr hKr hIr
                      | false =>
                        cases hkj
                  | true =>
                    have Hbare := Lib.hid hv
                    clear hv
                    cases hv : nameB t1 with
                    | false =>
                      have hc : chk d ⟨4, t1, t2, vs, ks⟩ (64 - n) (4096 - b) = false := not_alone (by rw [Hal.out, Hbare.out, hv]; rfl)
                      have Hname := Lib.hid hv
                      clear hv
                      go_enter Try.func99, Try.ntmps99
                      go_wp2_with fail
                      (with_reducible refine (bare147 _ ⟨4, t1, t2, vs, ks⟩ A3 c3 A4 c4 false true false true Hbare.out (hM.below hB2)).mono ?_)
                      rintro e w3 ⟨rfl, hb3⟩
                      have hB3 := below_step hB2 hb3
                      have hI3 := hI2.below hb3
                      have hK3 := hK2.trans (KeepBut.of_below hb3 g none) (.inl rfl)
                      have hX3 := hX2.below hb3
                      have u3 := hX3.c1
                      have v3 := hX3.c2
                      have p3 := hX3.c3
                      have o3 := hX3.c0
                      have k3 := hX3.c4
                      have z3 := blk_frozen hI3.1 2
                      have y3 := cellS122_2 hI3.1
                      go_wp2_with fail
                      (with_reducible refine (name64 _ t1 false Hname.out Hbound.out.1).mono ?_)
                      rintro e w4 ⟨rfl, hb4⟩
                      have hB4 := below_step hB3 hb4
                      have hI4 := hI3.below hb4
                      have hK4 := hK3.trans (KeepBut.of_below hb4 g none) (.inl rfl)
                      have hX4 := hX3.below hb4
                      have u4 := hX4.c1
                      have v4 := hX4.c2
                      have p4 := hX4.c3
                      have o4 := hX4.c0
                      have k4 := hX4.c4
                      have z4 := blk_frozen hI4.1 2
                      have y4 := cellS122_2 hI4.1
                      have hIS := hI4.set_2 true
                      have hBS : Below w0.heap.size w0 (w4.setCell ⟨g, 2, none⟩ (.bool true)) := hB4.setCell hg _
                      have hKS : KeepBut w (w4.setCell ⟨g, 2, none⟩ (.bool true)) g none := hK4.set_ 2 _
                      have hXS := hX4.set (j := 2) hne (.bool true)
                      go_wp2_with fail
                      (with_reducible refine (text148 w0 _ g (n + 1) b true t1 hb0 hb1 hIS hBS).mono ?_)
                      rintro e w8 ⟨rfl, hI8, hB8, hK8⟩
                      have hX8 := hXS.keep hK8 hne
                      have hle := txt_le (bad := true) (t := t1) hb0 hb1
                      obtain ⟨r1, er1⟩ : ∃ r, txt b true t1 = r := ⟨_, rfl⟩
                      rw [er1] at hI8 hle
                      have Er1 := Lib.hid er1
                      clear er1
                      have p8 := hX8.c3
                      go_wp2
                      go_loopw [6] (fun u6 wr => ∃ (j : Nat) (bj : Int) (kj : Bool), u6 = .int .i64 j ∧ j ≤ vs.length ∧ IsS122 w0 wr g (n + 1) bj kj ∧ BoxM wr w.heap.size 4 t1 t2 (.slice A3 vs.length c3) (.slice A4 ks.length c4) ∧ Below w0.heap.size w0 wr ∧ KeepBut w wr g none ∧ kj = true ∧ 0 ≤ bj ∧ bj ≤ 4096 ∧ Hid (kj = true → chk d ⟨4, t1, t2, vs, ks⟩ (64 - n) (4096 - b) = false) ∧ Hid (kj = false → bj = b + t1.size + sizes (vs.take j)))
                        (fun u6 _ => vs.length - (intOf u6).toNat)
                      case atStart =>
                        refine ⟨0, r1.1, r1.2, rfl, Nat.zero_le _, hI8, hX8, hB8, hKS.trans hK8 (.inl rfl), by rw [← Er1.out]; exact txt_bad, hle.1, hle.2, Lib.hid (fun _ => hc), Lib.hid (fun hk => ?_)⟩
                        rw [← Er1.out, txt_bad] at hk; cases hk
                      case round =>
                        clear p8 hI8 hX8 hB8 hK8 hIS hBS hKS hXS
                        obtain ⟨j, bj, kj, rfl, hj, hIr, hXr, hBr, hKr, hkj, hbj0, hbj1, hkt, hkf⟩ := hrel
                        have pr := hXr.c3
                        have yr := cellS122_2 hIr.1
                        have hlen := hM.2.1.2.1
                        cases kj with
                        | true =>
                          have hc' := hkt.out rfl
                          have Hc := Lib.hid hc'
                          clear hc' hkt hkf
                          by_cases hlt : j < vs.length
                          · go_wp2
                            first | go_end0 | ((try simp only [Exit.inBlock, Exit.then]); refine bodyPost_ret (results_none rfl _ _ _) rfl ?_)
                            exact LookPost.no Hc.out hBr hKr hIr
                          · go_wp2
                            first | go_end0 | ((try simp only [Exit.inBlock, Exit.then]); refine bodyPost_ret (results_none rfl _ _ _) rfl ?_)
                            exact LookPost.no Hc.out hBr hKr hIr
                        | false =>
                          cases hkj
                    | true =>
                      have Hname := Lib.hid hv
                      clear hv
                      cases hv : valuesB vs with
                      | false =>
                        have hc : chk d ⟨4, t1, t2, vs, ks⟩ (64 - n) (4096 - b) = false := not_alone (by rw [Hal.out, Hbare.out, Hname.out, hv]; rfl)
                        have Hvals := Lib.hid hv
                        clear hv
                        go_enter Try.func99, Try.ntmps99
                        go_wp2_with fail
                        (with_reducible refine (bare147 _ ⟨4, t1, t2, vs, ks⟩ A3 c3 A4 c4 false true false true Hbare.out (hM.below hB2)).mono ?_)
                        rintro e w3 ⟨rfl, hb3⟩
                        have hB3 := below_step hB2 hb3
                        have hI3 := hI2.below hb3
                        have hK3 := hK2.trans (KeepBut.of_below hb3 g none) (.inl rfl)
                        have hX3 := hX2.below hb3
                        have u3 := hX3.c1
                        have v3 := hX3.c2
                        have p3 := hX3.c3
                        have o3 := hX3.c0
                        have k3 := hX3.c4
                        have z3 := blk_frozen hI3.1 2
                        have y3 := cellS122_2 hI3.1
                        go_wp2_with fail
                        (with_reducible refine (name64 _ t1 true Hname.out Hbound.out.1).mono ?_)
                        rintro e w4 ⟨rfl, hb4⟩
                        have hB4 := below_step hB3 hb4
                        have hI4 := hI3.below hb4
                        have hK4 := hK3.trans (KeepBut.of_below hb4 g none) (.inl rfl)
                        have hX4 := hX3.below hb4
                        have u4 := hX4.c1
                        have v4 := hX4.c2
                        have p4 := hX4.c3
                        have o4 := hX4.c0
                        have k4 := hX4.c4
                        have z4 := blk_frozen hI4.1 2
                        have y4 := cellS122_2 hI4.1
                        go_wp2_with fail
                        (with_reducible refine (values149m w0 _ ⟨4, t1, t2, vs, ks⟩ A3 c3 A4 c4 false Hvals.out hM hB4).mono ?_)
                        rintro e w5 ⟨rfl, hb5⟩
                        have hB5 := below_step hB4 hb5
                        have hI5 := hI4.below hb5
                        have hK5 := hK4.trans (KeepBut.of_below hb5 g none) (.inl rfl)
                        have hX5 := hX4.below hb5
                        have u5 := hX5.c1
                        have v5 := hX5.c2
                        have p5 := hX5.c3
                        have o5 := hX5.c0
                        have k5 := hX5.c4
                        have z5 := blk_frozen hI5.1 2
                        have y5 := cellS122_2 hI5.1
                        have hIS := hI5.set_2 true
                        have hBS : Below w0.heap.size w0 (w5.setCell ⟨g, 2, none⟩ (.bool true)) := hB5.setCell hg _
                        have hKS : KeepBut w (w5.setCell ⟨g, 2, none⟩ (.bool true)) g none := hK5.set_ 2 _
                        have hXS := hX5.set (j := 2) hne (.bool true)
                        go_wp2_with fail
                        (with_reducible refine (text148 w0 _ g (n + 1) b true t1 hb0 hb1 hIS hBS).mono ?_)
                        rintro e w8 ⟨rfl, hI8, hB8, hK8⟩
                        have hX8 := hXS.keep hK8 hne
                        have hle := txt_le (bad := true) (t := t1) hb0 hb1
                        obtain ⟨r1, er1⟩ : ∃ r, txt b true t1 = r := ⟨_, rfl⟩
                        rw [er1] at hI8 hle
                        have Er1 := Lib.hid er1
                        clear er1
                        have p8 := hX8.c3
                        go_wp2
                        go_loopw [6] (fun u6 wr => ∃ (j : Nat) (bj : Int) (kj : Bool), u6 = .int .i64 j ∧ j ≤ vs.length ∧ IsS122 w0 wr g (n + 1) bj kj ∧ BoxM wr w.heap.size 4 t1 t2 (.slice A3 vs.length c3) (.slice A4 ks.length c4) ∧ Below w0.heap.size w0 wr ∧ KeepBut w wr g none ∧ kj = true ∧ 0 ≤ bj ∧ bj ≤ 4096 ∧ Hid (kj = true → chk d ⟨4, t1, t2, vs, ks⟩ (64 - n) (4096 - b) = false) ∧ Hid (kj = false → bj = b + t1.size + sizes (vs.take j)))
                          (fun u6 _ => vs.length - (intOf u6).toNat)
                        case atStart =>
                          refine ⟨0, r1.1, r1.2, rfl, Nat.zero_le _, hI8, hX8, hB8, hKS.trans hK8 (.inl rfl), by rw [← Er1.out]; exact txt_bad, hle.1, hle.2, Lib.hid (fun _ => hc), Lib.hid (fun hk => ?_)⟩
                          rw [← Er1.out, txt_bad] at hk; cases hk
                        case round =>
                          clear p8 hI8 hX8 hB8 hK8 hIS hBS hKS hXS
                          obtain ⟨j, bj, kj, rfl, hj, hIr, hXr, hBr, hKr, hkj, hbj0, hbj1, hkt, hkf⟩ := hrel
                          have pr := hXr.c3
                          have yr := cellS122_2 hIr.1
                          have hlen := hM.2.1.2.1
                          cases kj with
                          | true =>
                            have hc' := hkt.out rfl
                            have Hc := Lib.hid hc'
                            clear hc' hkt hkf
                            by_cases hlt : j < vs.length
                            · go_wp2
                              first | go_end0 | ((try simp only [Exit.inBlock, Exit.then]); refine bodyPost_ret (results_none rfl _ _ _) rfl ?_)
                              exact LookPost.no Hc.out hBr hKr hIr
                            · go_wp2
                              first | go_end0 | ((try simp only [Exit.inBlock, Exit.then]); refine bodyPost_ret (results_none rfl _ _ _) rfl ?_)
                              exact LookPost.no Hc.out hBr hKr hIr
                          | false =>
                            cases hkj
                      | true =>
                        have hks : ks = [] := by
                          have h' := of_decide_eq_true (show decide _ = true from Hbare.out)
                          rcases h'.2.2.2 with h | h
                          · cases h
                          · exact List.eq_nil_of_length_eq_zero h
                        have ht2 : t2.size = 0 := by
                          have h' := of_decide_eq_true (show decide _ = true from Hbare.out)
                          rcases h'.1 with h | h
                          · cases h
                          · exact size0 h
                        have Hchk := Lib.hid (show chk d ⟨4, t1, t2, vs, ks⟩ (64 - n) (4096 - b) = decide ((t1.size + sizes vs : Int) ≤ 4096 - b) from by
                          have ha : aloneB ⟨4, t1, t2, vs, ks⟩ = true := by rw [Hal.out, Hbare.out, Hname.out, hv]; rfl
                          rw [hks] at ha ⊢
                          rw [chk_leaf (by omega) (by omega), ha, Bool.true_and, decide_eq_decide]
                          omega)
                        have Hnod := Lib.hid (show nodesM ⟨4, t1, t2, vs, ks⟩ = 1 from by rw [hks]; simp [nodesM, nodesL])
                        have Hbyt := Lib.hid (show bytesM ⟨4, t1, t2, vs, ks⟩ = t1.size + sizes vs from by rw [hks]; simp [bytesM, bytesL, ht2])
                        have Hvals := Lib.hid hv
                        clear hv hks ht2
                        go_enter Try.func99, Try.ntmps99
                        go_wp2_with fail
                        (with_reducible refine (bare147 _ ⟨4, t1, t2, vs, ks⟩ A3 c3 A4 c4 false true false true Hbare.out (hM.below hB2)).mono ?_)
                        rintro e w3 ⟨rfl, hb3⟩
                        have hB3 := below_step hB2 hb3
                        have hI3 := hI2.below hb3
                        have hK3 := hK2.trans (KeepBut.of_below hb3 g none) (.inl rfl)
                        have hX3 := hX2.below hb3
                        have u3 := hX3.c1
                        have v3 := hX3.c2
                        have p3 := hX3.c3
                        have o3 := hX3.c0
                        have k3 := hX3.c4
                        have z3 := blk_frozen hI3.1 2
                        have y3 := cellS122_2 hI3.1
                        go_wp2_with fail
                        (with_reducible refine (name64 _ t1 true Hname.out Hbound.out.1).mono ?_)
                        rintro e w4 ⟨rfl, hb4⟩
                        have hB4 := below_step hB3 hb4
                        have hI4 := hI3.below hb4
                        have hK4 := hK3.trans (KeepBut.of_below hb4 g none) (.inl rfl)
                        have hX4 := hX3.below hb4
                        have u4 := hX4.c1
                        have v4 := hX4.c2
                        have p4 := hX4.c3
                        have o4 := hX4.c0
                        have k4 := hX4.c4
                        have z4 := blk_frozen hI4.1 2
                        have y4 := cellS122_2 hI4.1
                        go_wp2_with fail
                        (with_reducible refine (values149m w0 _ ⟨4, t1, t2, vs, ks⟩ A3 c3 A4 c4 true Hvals.out hM hB4).mono ?_)
                        rintro e w5 ⟨rfl, hb5⟩
                        have hB5 := below_step hB4 hb5
                        have hI5 := hI4.below hb5
                        have hK5 := hK4.trans (KeepBut.of_below hb5 g none) (.inl rfl)
                        have hX5 := hX4.below hb5
                        have u5 := hX5.c1
                        have v5 := hX5.c2
                        have p5 := hX5.c3
                        have o5 := hX5.c0
                        have k5 := hX5.c4
                        have z5 := blk_frozen hI5.1 2
                        have y5 := cellS122_2 hI5.1
                        have hIS := hI5.set_2 false
                        have hBS : Below w0.heap.size w0 (w5.setCell ⟨g, 2, none⟩ (.bool false)) := hB5.setCell hg _
                        have hKS : KeepBut w (w5.setCell ⟨g, 2, none⟩ (.bool false)) g none := hK5.set_ 2 _
                        have hXS := hX5.set (j := 2) hne (.bool false)
                        go_wp2_with fail
                        (with_reducible refine (text148 w0 _ g (n + 1) b false t1 hb0 hb1 hIS hBS).mono ?_)
                        rintro e w8 ⟨rfl, hI8, hB8, hK8⟩
                        have hX8 := hXS.keep hK8 hne
                        have hle := txt_le (bad := false) (t := t1) hb0 hb1
                        obtain ⟨r1, er1⟩ : ∃ r, txt b false t1 = r := ⟨_, rfl⟩
                        rw [er1] at hI8 hle
                        have Er1 := Lib.hid er1
                        clear er1
                        have p8 := hX8.c3
                        go_wp2
                        go_loopw [6] (fun u6 wr => ∃ (j : Nat) (bj : Int) (kj : Bool), u6 = .int .i64 j ∧ j ≤ vs.length ∧ IsS122 w0 wr g (n + 1) bj kj ∧ BoxM wr w.heap.size 4 t1 t2 (.slice A3 vs.length c3) (.slice A4 ks.length c4) ∧ Below w0.heap.size w0 wr ∧ KeepBut w wr g none ∧ 0 ≤ bj ∧ bj ≤ 4096 ∧ Hid (kj = true → chk d ⟨4, t1, t2, vs, ks⟩ (64 - n) (4096 - b) = false) ∧ Hid (kj = false → bj = b + t1.size + sizes (vs.take j)))
                          (fun u6 _ => vs.length - (intOf u6).toNat)
                        case atStart =>
                          refine ⟨0, r1.1, r1.2, rfl, Nat.zero_le _, hI8, hX8, hB8, hKS.trans hK8 (.inl rfl), hle.1, hle.2, Lib.hid ?_, Lib.hid ?_⟩
                          · intro hk
                            by_cases h1 : (t1.size : Int) ≤ 4096 - b
                            · rw [← Er1.out, txt_ok h1] at hk; cases hk
                            · rw [Hchk.out]; exact decide_eq_false (by omega)
                          · intro hk
                            by_cases h1 : (t1.size : Int) ≤ 4096 - b
                            · rw [← Er1.out, txt_ok h1]; simp [sizes]
                            · rw [← Er1.out, txt_no h1] at hk; cases hk
                        case round =>
                          clear p8 hI8 hX8 hB8 hK8 hIS hBS hKS hXS
                          obtain ⟨j, bj, kj, rfl, hj, hIr, hXr, hBr, hKr, hbj0, hbj1, hkt, hkf⟩ := hrel
                          have pr := hXr.c3
                          have yr := cellS122_2 hIr.1
                          have hlen := hM.2.1.2.1
                          cases kj with
                          | true =>
                            have hc' := hkt.out rfl
                            have Hc := Lib.hid hc'
                            clear hc' hkt hkf
                            by_cases hlt : j < vs.length
                            · go_wp2
                              first | go_end0 | ((try simp only [Exit.inBlock, Exit.then]); refine bodyPost_ret (results_none rfl _ _ _) rfl ?_)
                              exact LookPost.no Hc.out hBr hKr hIr
                            · go_wp2
                              first | go_end0 | ((try simp only [Exit.inBlock, Exit.then]); refine bodyPost_ret (results_none rfl _ _ _) rfl ?_)
                              exact LookPost.no Hc.out hBr hKr hIr
                          | false =>
                            have hbe := hkf.out rfl
                            have Hbe := Lib.hid hbe
                            clear hbe hkt hkf
                            by_cases hlt : j < vs.length
                            · obtain ⟨ad, rfl, hcell⟩ := hM.value j hlt
                              have hcell := pw_cell_below hBr hcell
                              have Hsp := Lib.hid (sizes_split vs j hlt)
                              have Hmono := Lib.hid (sizes_take_le vs (j + 1))
                              simp only at hcell
                              obtain ⟨v, ev⟩ : ∃ v, vs.getD j ByteArray.empty = v := ⟨_, rfl⟩
                              rw [ev] at hcell Hsp
                              clear ev
                              go_wp2_with fail
                              (with_reducible refine (text148 w0 _ g (n + 1) bj false v hbj0 hbj1 hIr hBr).mono ?_)
                              rintro e w9 ⟨rfl, hI9, hB9, hK9⟩
                              have hX9 := hXr.keep hK9 hne
                              have hle9 := txt_le (bad := false) (t := v) hbj0 hbj1
                              go_wp2_with fail
                              go_roundw
                              case rel =>
                                refine ⟨j + 1, _, _, by go_num, by omega, hI9, hX9, hB9, hKr.trans hK9 (.inl rfl), hle9.1, hle9.2, Lib.hid ?_, Lib.hid ?_⟩
                                · intro hk
                                  by_cases h1 : (v.size : Int) ≤ 4096 - bj
                                  · rw [txt_ok h1] at hk; cases hk
                                  · rw [Hchk.out]
                                    have h2 := Hsp.out
                                    have h3 := Hmono.out
                                    have h4 := Hbe.out
                                    exact decide_eq_false (by omega)
                                · intro hk
                                  by_cases h1 : (v.size : Int) ≤ 4096 - bj
                                  · rw [txt_ok h1, Hsp.out, Hbe.out]; simp only; omega
                                  · rw [txt_no h1] at hk; cases hk
                              case measure => simp [intOf]; omega
                            · obtain rfl : j = vs.length := by omega
                              have hfin : chk d ⟨4, t1, t2, vs, ks⟩ (64 - n) (4096 - b) = true := by
                                have h4 := Hbe.out
                                rw [List.take_length] at h4
                                rw [Hchk.out]; exact decide_eq_true (by omega)
                              have Hfin := Lib.hid hfin
                              clear hfin
                              go_wp2
                              first | go_end0 | ((try simp only [Exit.inBlock, Exit.then]); refine bodyPost_ret (results_none rfl _ _ _) rfl ?_)
                              exact LookPost.yes Hfin.out hBr hKr hIr (by rw [Hnod.out]; rfl) (by rw [Hbe.out, Hbyt.out, List.take_length]; omega)
                · by_cases e5 : op = 5
                  · subst e5
                    have Hal := Lib.hid (alone_56 5 (by omega) t1 t2 vs ks)
                    have Hnod := Lib.hid (show nodesM ⟨5, t1, t2, vs, ks⟩ = 1 + nodesL ks from nodesM_mk _)
                    cases hv : bareB ⟨5, t1, t2, vs, ks⟩ false false true with
                    | false =>
                      have hc : chk d ⟨5, t1, t2, vs, ks⟩ (64 - n) (4096 - b) = false := not_alone (by rw [Hal.out, hv])
                      have Hbare := Lib.hid hv
                      clear hv
                      go_enter Try.func99, Try.ntmps99
                      go_wp2_with fail
                      (with_reducible refine (bare147 _ ⟨5, t1, t2, vs, ks⟩ A3 c3 A4 c4 false false true false Hbare.out (hM.below hB2)).mono ?_)
                      rintro e w3 ⟨rfl, hb3⟩
                      have hB3 := below_step hB2 hb3
                      have hI3 := hI2.below hb3
                      have hK3 := hK2.trans (KeepBut.of_below hb3 g none) (.inl rfl)
                      have hX3 := hX2.below hb3
                      have u3 := hX3.c1
                      have v3 := hX3.c2
                      have p3 := hX3.c3
                      have o3 := hX3.c0
                      have k3 := hX3.c4
                      have z3 := blk_frozen hI3.1 2
                      have y3 := cellS122_2 hI3.1
                      have hIS := hI3.set_2 true
                      have hBS : Below w0.heap.size w0 (w3.setCell ⟨g, 2, none⟩ (.bool true)) := hB3.setCell hg _
                      have hKS : KeepBut w (w3.setCell ⟨g, 2, none⟩ (.bool true)) g none := hK3.set_ 2 _
                      have hXS := hX3.set (j := 2) hne (.bool true)
                      go_wp2
                      go_loopw [7] (fun u7 wr => ∃ (j : Nat) (nj bj : Int) (kj : Bool), u7 = .int .i64 j ∧ j ≤ ks.length ∧ IsS122 w0 wr g nj bj kj ∧ BoxM wr w.heap.size 5 t1 t2 (.slice A3 vs.length c3) (.slice A4 ks.length c4) ∧ Below w0.heap.size w0 wr ∧ KeepBut w wr g none ∧ kj = true ∧ Hid (kj = true → chk d ⟨5, t1, t2, vs, ks⟩ (64 - n) (4096 - b) = false) ∧ Hid (kj = false → 0 ≤ nj ∧ nj ≤ 64 ∧ 0 ≤ bj ∧ bj ≤ 4096 ∧ nj = n + 1 + nodesL (ks.take j) ∧ bj = b + bytesL (ks.take j) ∧ chk d ⟨5, t1, t2, vs, ks⟩ (64 - n) (4096 - b) = chkL (d + 1) (ks.drop j) (64 - nj) (4096 - bj)))
                        (fun u7 _ => ks.length - (intOf u7).toNat)
                      case atStart => exact ⟨0, n + 1, b, true, rfl, Nat.zero_le _, hIS, hXS, hBS, hKS, rfl, Lib.hid (fun _ => hc), Lib.hid (fun h => by cases h)⟩
                      case round =>
                        clear hIS hBS hKS hXS
                        obtain ⟨j, nj, bj, kj, rfl, hj, hIr, hXr, hBr, hKr, hkj, hkt, hkf⟩ := hrel
                        have pr := hXr.c4
                        have yr := cellS122_2 hIr.1
                        have hlen := hM.2.2.2.2.1
                        cases kj with
                        | true =>
                          have Hc := Lib.hid (hkt.out rfl)
                          clear hkt hkf
                          by_cases hlt : j < ks.length
                          · go_wp2
                            first | go_end0 | ((try simp only [Exit.inBlock, Exit.then]); refine bodyPost_ret (results_none rfl _ _ _) rfl ?_)
                            exact LookPost.no Hc.out hBr hKr hIr
                          · go_wp2
                            first | go_end0 | ((try simp only [Exit.inBlock, Exit.then]); refine bodyPost_ret (results_none rfl _ _ _) rfl ?_)
                            exact LookPost.no Hc.out hBr hKr hIr
                        | false =>
                          cases hkj
                    | true =>
                      obtain ⟨s1, s2, s3⟩ := plain_own hv
                      have Hbyt := Lib.hid (show bytesM ⟨5, t1, t2, vs, ks⟩ = bytesL ks from by rw [bytesM_mk]; simp [s1, s2, s3, sizes])
                      have Hstart := Lib.hid (show chk d ⟨5, t1, t2, vs, ks⟩ (64 - n) (4096 - b) = chkL (d + 1) ks (64 - (n + 1)) (4096 - b) from by
                        rw [Bool.eq_iff_iff, chk_iff]
                        simp only [s1, s2, s3, sizes, Int.natCast_zero, Int.add_zero, Int.sub_zero, show (64 - n - 1 : Int) = 64 - (n + 1) by omega]
                        constructor
                        · exact fun h => h.2.2.2.2
                        · exact fun h => ⟨by omega, by omega, by rw [s3] at Hal; rw [Hal.out]; rw [← s3, hv], by omega, h⟩)
                      have Hbare := Lib.hid hv
                      clear hv s1 s2 s3
                      go_enter Try.func99, Try.ntmps99
                      go_wp2_with fail
                      (with_reducible refine (bare147 _ ⟨5, t1, t2, vs, ks⟩ A3 c3 A4 c4 false false true true Hbare.out (hM.below hB2)).mono ?_)
                      rintro e w3 ⟨rfl, hb3⟩
                      have hB3 := below_step hB2 hb3
                      have hI3 := hI2.below hb3
                      have hK3 := hK2.trans (KeepBut.of_below hb3 g none) (.inl rfl)
                      have hX3 := hX2.below hb3
                      have u3 := hX3.c1
                      have v3 := hX3.c2
                      have p3 := hX3.c3
                      have o3 := hX3.c0
                      have k3 := hX3.c4
                      have z3 := blk_frozen hI3.1 2
                      have y3 := cellS122_2 hI3.1
                      have hIS := hI3.set_2 false
                      have hBS : Below w0.heap.size w0 (w3.setCell ⟨g, 2, none⟩ (.bool false)) := hB3.setCell hg _
                      have hKS : KeepBut w (w3.setCell ⟨g, 2, none⟩ (.bool false)) g none := hK3.set_ 2 _
                      have hXS := hX3.set (j := 2) hne (.bool false)
                      go_wp2
                      go_loopw [7] (fun u7 wr => ∃ (j : Nat) (nj bj : Int) (kj : Bool), u7 = .int .i64 j ∧ j ≤ ks.length ∧ IsS122 w0 wr g nj bj kj ∧ BoxM wr w.heap.size 5 t1 t2 (.slice A3 vs.length c3) (.slice A4 ks.length c4) ∧ Below w0.heap.size w0 wr ∧ KeepBut w wr g none ∧ Hid (kj = true → chk d ⟨5, t1, t2, vs, ks⟩ (64 - n) (4096 - b) = false) ∧ Hid (kj = false → 0 ≤ nj ∧ nj ≤ 64 ∧ 0 ≤ bj ∧ bj ≤ 4096 ∧ nj = n + 1 + nodesL (ks.take j) ∧ bj = b + bytesL (ks.take j) ∧ chk d ⟨5, t1, t2, vs, ks⟩ (64 - n) (4096 - b) = chkL (d + 1) (ks.drop j) (64 - nj) (4096 - bj)))
                        (fun u7 _ => ks.length - (intOf u7).toNat)
                      case atStart => exact ⟨0, n + 1, b, false, rfl, Nat.zero_le _, hIS, hXS, hBS, hKS, Lib.hid (fun h => by cases h), Lib.hid (fun _ => ⟨by omega, by omega, hb0, hb1, by simp [nodesL], by simp [bytesL], by rw [List.drop_zero]; exact Hstart.out⟩)⟩
                      case round =>
                        clear hIS hBS hKS hXS
                        obtain ⟨j, nj, bj, kj, rfl, hj, hIr, hXr, hBr, hKr, hkt, hkf⟩ := hrel
                        have pr := hXr.c4
                        have yr := cellS122_2 hIr.1
                        have hlen := hM.2.2.2.2.1
                        cases kj with
                        | true =>
                          have Hc := Lib.hid (hkt.out rfl)
                          clear hkt hkf
                          by_cases hlt : j < ks.length
                          · go_wp2
                            first | go_end0 | ((try simp only [Exit.inBlock, Exit.then]); refine bodyPost_ret (results_none rfl _ _ _) rfl ?_)
                            exact LookPost.no Hc.out hBr hKr hIr
                          · go_wp2
                            first | go_end0 | ((try simp only [Exit.inBlock, Exit.then]); refine bodyPost_ret (results_none rfl _ _ _) rfl ?_)
                            exact LookPost.no Hc.out hBr hKr hIr
                        | false =>
                          obtain ⟨hn0', hn1', hb0', hb1', hne', hbe', hce⟩ := hkf.out rfl
                          have Hne := Lib.hid hne'
                          have Hbe := Lib.hid hbe'
                          have Hce := Lib.hid hce
                          clear hkt hkf hne' hbe' hce
                          by_cases hlt : j < ks.length
                          · obtain ⟨ad, B3, e3, B4, e4, rfl, hMk, k0, k1, k2, k3, k4⟩ := hM.kid j hlt
                            simp only at k0 k1 k2 k3 k4 hMk
                            have k0 := pw_cell_below hBr k0
                            have k1 := pw_cell_below hBr k1
                            have k2 := pw_cell_below hBr k2
                            have k3 := pw_cell_below hBr k3
                            have k4 := pw_cell_below hBr k4
                            have hmem : ks.getD j z25 ∈ ks := by simp [List.getD_eq_getElem?_getD, hlt]
                            have hsmall := nodes_lt ⟨5, t1, t2, vs, ks⟩ _ hmem
                            have Hbk := Lib.hid (boundL_at Hbound.out.2.2.2 hlt)
                            have Hdrop := Lib.hid (chkL_drop (d + 1) ks j hlt (64 - nj) (4096 - bj))
                            have Hn4 := Lib.hid (nodesL_split ks j hlt)
                            have Hb4 := Lib.hid (bytesL_split ks j hlt)
                            obtain ⟨kid, ek⟩ : ∃ kid, ks.getD j z25 = kid := ⟨_, rfl⟩
                            rw [ek] at hMk k0 k1 k2 k3 k4 hsmall Hdrop Hn4 Hb4 Hbk
                            clear ek hmem
                            go_wp2_with fail
                            (with_reducible refine (IH.out kid (by omega) Hbk.out (d + 1) nj bj B3 e3 B4 e4 g w0 _ (by omega) (by omega) (by omega) (by omega) (by omega) (by omega) hMk hBr hIr).mono ?_)
                            rintro e w5 ⟨rfl, hB5, hK5, n5, b5, hI5, hyes⟩
                            have hX5 := hXr.keep hK5 hne
                            obtain ⟨kc, ekc⟩ : ∃ kc, chk (d + 1) kid (64 - nj) (4096 - bj) = kc := ⟨_, rfl⟩
                            rw [ekc] at hI5 hyes
                            have Ekc := Lib.hid ekc
                            have Hyes := Lib.hid hyes
                            clear ekc hyes k0 k1 k2 k3 k4
                            go_wp2_with fail
                            go_roundw
                            case rel =>
                              refine ⟨j + 1, n5, b5, !kc, by go_num, by omega, hI5, hX5, hB5, hKr.trans hK5 (.inl rfl), Lib.hid ?_, Lib.hid ?_⟩
                              · intro hk
                                rw [Hce.out, ← Bool.not_eq_true, Hdrop.out, Ekc.out]
                                rintro ⟨h, _⟩
                                rw [h] at hk; cases hk
                              · intro hk
                                have hkc : kc = true := by cases kc; cases hk; rfl
                                obtain ⟨h1, h2⟩ := Hyes.out hkc
                                have hd := chk_def.1 (Ekc.out.trans hkc)
                                refine ⟨by omega, by omega, by omega, by omega, by rw [h1, Hne.out, Hn4.out]; omega, by rw [h2, Hbe.out, Hb4.out]; omega, ?_⟩
                                rw [Hce.out, Bool.eq_iff_iff, Hdrop.out, h1, h2, show 64 - nj - (nodesM kid : Int) = 64 - (nj + nodesM kid) by omega, show 4096 - bj - (bytesM kid : Int) = 4096 - (bj + bytesM kid) by omega]
                                exact ⟨fun h => h.2, fun h => ⟨Ekc.out.trans hkc, h⟩⟩
                            case measure => simp [intOf]; omega
                          · obtain rfl : j = ks.length := by omega
                            have Hfin := Lib.hid (show chk d ⟨5, t1, t2, vs, ks⟩ (64 - n) (4096 - b) = true from by
                              rw [Hce.out, List.drop_length, chkL_nil]; omega)
                            have hres : LookPost w0 w g d ⟨5, t1, t2, vs, ks⟩ n b (.returned (.tuple #[])) wr := LookPost.yes Hfin.out hBr hKr hIr (by rw [Hne.out, Hnod.out, List.take_length]; omega) (by rw [Hbe.out, Hbyt.out, List.take_length])
                            clear Hfin
                            go_wp2
                            first | go_end0 | ((try simp only [Exit.inBlock, Exit.then]); refine bodyPost_ret (results_none rfl _ _ _) rfl ?_)
                            exact hres
                  · by_cases e6 : op = 6
                    · subst e6
                      have Hal := Lib.hid (alone_56 6 (by omega) t1 t2 vs ks)
                      have Hnod := Lib.hid (show nodesM ⟨6, t1, t2, vs, ks⟩ = 1 + nodesL ks from nodesM_mk _)
                      cases hv : bareB ⟨6, t1, t2, vs, ks⟩ false false true with
                      | false =>
                        have hc : chk d ⟨6, t1, t2, vs, ks⟩ (64 - n) (4096 - b) = false := not_alone (by rw [Hal.out, hv])
                        have Hbare := Lib.hid hv
                        clear hv
                        go_enter Try.func99, Try.ntmps99
                        go_wp2_with fail
                        (with_reducible refine (bare147 _ ⟨6, t1, t2, vs, ks⟩ A3 c3 A4 c4 false false true false Hbare.out (hM.below hB2)).mono ?_)
                        rintro e w3 ⟨rfl, hb3⟩
                        have hB3 := below_step hB2 hb3
                        have hI3 := hI2.below hb3
                        have hK3 := hK2.trans (KeepBut.of_below hb3 g none) (.inl rfl)
                        have hX3 := hX2.below hb3
                        have u3 := hX3.c1
                        have v3 := hX3.c2
                        have p3 := hX3.c3
                        have o3 := hX3.c0
                        have k3 := hX3.c4
                        have z3 := blk_frozen hI3.1 2
                        have y3 := cellS122_2 hI3.1
                        have hIS := hI3.set_2 true
                        have hBS : Below w0.heap.size w0 (w3.setCell ⟨g, 2, none⟩ (.bool true)) := hB3.setCell hg _
                        have hKS : KeepBut w (w3.setCell ⟨g, 2, none⟩ (.bool true)) g none := hK3.set_ 2 _
                        have hXS := hX3.set (j := 2) hne (.bool true)
                        go_wp2
                        go_loopw [7] (fun u7 wr => ∃ (j : Nat) (nj bj : Int) (kj : Bool), u7 = .int .i64 j ∧ j ≤ ks.length ∧ IsS122 w0 wr g nj bj kj ∧ BoxM wr w.heap.size 6 t1 t2 (.slice A3 vs.length c3) (.slice A4 ks.length c4) ∧ Below w0.heap.size w0 wr ∧ KeepBut w wr g none ∧ kj = true ∧ Hid (kj = true → chk d ⟨6, t1, t2, vs, ks⟩ (64 - n) (4096 - b) = false) ∧ Hid (kj = false → 0 ≤ nj ∧ nj ≤ 64 ∧ 0 ≤ bj ∧ bj ≤ 4096 ∧ nj = n + 1 + nodesL (ks.take j) ∧ bj = b + bytesL (ks.take j) ∧ chk d ⟨6, t1, t2, vs, ks⟩ (64 - n) (4096 - b) = chkL (d + 1) (ks.drop j) (64 - nj) (4096 - bj)))
                          (fun u7 _ => ks.length - (intOf u7).toNat)
                        case atStart => exact ⟨0, n + 1, b, true, rfl, Nat.zero_le _, hIS, hXS, hBS, hKS, rfl, Lib.hid (fun _ => hc), Lib.hid (fun h => by cases h)⟩
                        case round =>
                          clear hIS hBS hKS hXS
                          obtain ⟨j, nj, bj, kj, rfl, hj, hIr, hXr, hBr, hKr, hkj, hkt, hkf⟩ := hrel
                          have pr := hXr.c4
                          have yr := cellS122_2 hIr.1
                          have hlen := hM.2.2.2.2.1
                          cases kj with
                          | true =>
                            have Hc := Lib.hid (hkt.out rfl)
                            clear hkt hkf
                            by_cases hlt : j < ks.length
                            · go_wp2
                              first | go_end0 | ((try simp only [Exit.inBlock, Exit.then]); refine bodyPost_ret (results_none rfl _ _ _) rfl ?_)
                              exact LookPost.no Hc.out hBr hKr hIr
                            · go_wp2
                              first | go_end0 | ((try simp only [Exit.inBlock, Exit.then]); refine bodyPost_ret (results_none rfl _ _ _) rfl ?_)
                              exact LookPost.no Hc.out hBr hKr hIr
                          | false =>
                            cases hkj
                      | true =>
                        obtain ⟨s1, s2, s3⟩ := plain_own hv
                        have Hbyt := Lib.hid (show bytesM ⟨6, t1, t2, vs, ks⟩ = bytesL ks from by rw [bytesM_mk]; simp [s1, s2, s3, sizes])
                        have Hstart := Lib.hid (show chk d ⟨6, t1, t2, vs, ks⟩ (64 - n) (4096 - b) = chkL (d + 1) ks (64 - (n + 1)) (4096 - b) from by
                          rw [Bool.eq_iff_iff, chk_iff]
                          simp only [s1, s2, s3, sizes, Int.natCast_zero, Int.add_zero, Int.sub_zero, show (64 - n - 1 : Int) = 64 - (n + 1) by omega]
                          constructor
                          · exact fun h => h.2.2.2.2
                          · exact fun h => ⟨by omega, by omega, by rw [s3] at Hal; rw [Hal.out]; rw [← s3, hv], by omega, h⟩)
                        have Hbare := Lib.hid hv
                        clear hv s1 s2 s3
                        go_enter Try.func99, Try.ntmps99
                        go_wp2_with fail
                        (with_reducible refine (bare147 _ ⟨6, t1, t2, vs, ks⟩ A3 c3 A4 c4 false false true true Hbare.out (hM.below hB2)).mono ?_)
                        rintro e w3 ⟨rfl, hb3⟩
                        have hB3 := below_step hB2 hb3
                        have hI3 := hI2.below hb3
                        have hK3 := hK2.trans (KeepBut.of_below hb3 g none) (.inl rfl)
                        have hX3 := hX2.below hb3
                        have u3 := hX3.c1
                        have v3 := hX3.c2
                        have p3 := hX3.c3
                        have o3 := hX3.c0
                        have k3 := hX3.c4
                        have z3 := blk_frozen hI3.1 2
                        have y3 := cellS122_2 hI3.1
                        have hIS := hI3.set_2 false
                        have hBS : Below w0.heap.size w0 (w3.setCell ⟨g, 2, none⟩ (.bool false)) := hB3.setCell hg _
                        have hKS : KeepBut w (w3.setCell ⟨g, 2, none⟩ (.bool false)) g none := hK3.set_ 2 _
                        have hXS := hX3.set (j := 2) hne (.bool false)
                        go_wp2
                        go_loopw [7] (fun u7 wr => ∃ (j : Nat) (nj bj : Int) (kj : Bool), u7 = .int .i64 j ∧ j ≤ ks.length ∧ IsS122 w0 wr g nj bj kj ∧ BoxM wr w.heap.size 6 t1 t2 (.slice A3 vs.length c3) (.slice A4 ks.length c4) ∧ Below w0.heap.size w0 wr ∧ KeepBut w wr g none ∧ Hid (kj = true → chk d ⟨6, t1, t2, vs, ks⟩ (64 - n) (4096 - b) = false) ∧ Hid (kj = false → 0 ≤ nj ∧ nj ≤ 64 ∧ 0 ≤ bj ∧ bj ≤ 4096 ∧ nj = n + 1 + nodesL (ks.take j) ∧ bj = b + bytesL (ks.take j) ∧ chk d ⟨6, t1, t2, vs, ks⟩ (64 - n) (4096 - b) = chkL (d + 1) (ks.drop j) (64 - nj) (4096 - bj)))
                          (fun u7 _ => ks.length - (intOf u7).toNat)
                        case atStart => exact ⟨0, n + 1, b, false, rfl, Nat.zero_le _, hIS, hXS, hBS, hKS, Lib.hid (fun h => by cases h), Lib.hid (fun _ => ⟨by omega, by omega, hb0, hb1, by simp [nodesL], by simp [bytesL], by rw [List.drop_zero]; exact Hstart.out⟩)⟩
                        case round =>
                          clear hIS hBS hKS hXS
                          obtain ⟨j, nj, bj, kj, rfl, hj, hIr, hXr, hBr, hKr, hkt, hkf⟩ := hrel
                          have pr := hXr.c4
                          have yr := cellS122_2 hIr.1
                          have hlen := hM.2.2.2.2.1
                          cases kj with
                          | true =>
                            have Hc := Lib.hid (hkt.out rfl)
                            clear hkt hkf
                            by_cases hlt : j < ks.length
                            · go_wp2
                              first | go_end0 | ((try simp only [Exit.inBlock, Exit.then]); refine bodyPost_ret (results_none rfl _ _ _) rfl ?_)
                              exact LookPost.no Hc.out hBr hKr hIr
                            · go_wp2
                              first | go_end0 | ((try simp only [Exit.inBlock, Exit.then]); refine bodyPost_ret (results_none rfl _ _ _) rfl ?_)
                              exact LookPost.no Hc.out hBr hKr hIr
                          | false =>
                            obtain ⟨hn0', hn1', hb0', hb1', hne', hbe', hce⟩ := hkf.out rfl
                            have Hne := Lib.hid hne'
                            have Hbe := Lib.hid hbe'
                            have Hce := Lib.hid hce
                            clear hkt hkf hne' hbe' hce
                            by_cases hlt : j < ks.length
                            · obtain ⟨ad, B3, e3, B4, e4, rfl, hMk, k0, k1, k2, k3, k4⟩ := hM.kid j hlt
                              simp only at k0 k1 k2 k3 k4 hMk
                              have k0 := pw_cell_below hBr k0
                              have k1 := pw_cell_below hBr k1
                              have k2 := pw_cell_below hBr k2
                              have k3 := pw_cell_below hBr k3
                              have k4 := pw_cell_below hBr k4
                              have hmem : ks.getD j z25 ∈ ks := by simp [List.getD_eq_getElem?_getD, hlt]
                              have hsmall := nodes_lt ⟨6, t1, t2, vs, ks⟩ _ hmem
                              have Hbk := Lib.hid (boundL_at Hbound.out.2.2.2 hlt)
                              have Hdrop := Lib.hid (chkL_drop (d + 1) ks j hlt (64 - nj) (4096 - bj))
                              have Hn4 := Lib.hid (nodesL_split ks j hlt)
                              have Hb4 := Lib.hid (bytesL_split ks j hlt)
                              obtain ⟨kid, ek⟩ : ∃ kid, ks.getD j z25 = kid := ⟨_, rfl⟩
                              rw [ek] at hMk k0 k1 k2 k3 k4 hsmall Hdrop Hn4 Hb4 Hbk
                              clear ek hmem
                              go_wp2_with fail
                              (with_reducible refine (IH.out kid (by omega) Hbk.out (d + 1) nj bj B3 e3 B4 e4 g w0 _ (by omega) (by omega) (by omega) (by omega) (by omega) (by omega) hMk hBr hIr).mono ?_)
                              rintro e w5 ⟨rfl, hB5, hK5, n5, b5, hI5, hyes⟩
                              have hX5 := hXr.keep hK5 hne
                              obtain ⟨kc, ekc⟩ : ∃ kc, chk (d + 1) kid (64 - nj) (4096 - bj) = kc := ⟨_, rfl⟩
                              rw [ekc] at hI5 hyes
                              have Ekc := Lib.hid ekc
                              have Hyes := Lib.hid hyes
                              clear ekc hyes k0 k1 k2 k3 k4
                              go_wp2_with fail
                              go_roundw
                              case rel =>
                                refine ⟨j + 1, n5, b5, !kc, by go_num, by omega, hI5, hX5, hB5, hKr.trans hK5 (.inl rfl), Lib.hid ?_, Lib.hid ?_⟩
                                · intro hk
                                  rw [Hce.out, ← Bool.not_eq_true, Hdrop.out, Ekc.out]
                                  rintro ⟨h, _⟩
                                  rw [h] at hk; cases hk
                                · intro hk
                                  have hkc : kc = true := by cases kc; cases hk; rfl
                                  obtain ⟨h1, h2⟩ := Hyes.out hkc
                                  have hd := chk_def.1 (Ekc.out.trans hkc)
                                  refine ⟨by omega, by omega, by omega, by omega, by rw [h1, Hne.out, Hn4.out]; omega, by rw [h2, Hbe.out, Hb4.out]; omega, ?_⟩
                                  rw [Hce.out, Bool.eq_iff_iff, Hdrop.out, h1, h2, show 64 - nj - (nodesM kid : Int) = 64 - (nj + nodesM kid) by omega, show 4096 - bj - (bytesM kid : Int) = 4096 - (bj + bytesM kid) by omega]
                                  exact ⟨fun h => h.2, fun h => ⟨Ekc.out.trans hkc, h⟩⟩
                              case measure => simp [intOf]; omega
                            · obtain rfl : j = ks.length := by omega
                              have Hfin := Lib.hid (show chk d ⟨6, t1, t2, vs, ks⟩ (64 - n) (4096 - b) = true from by
                                rw [Hce.out, List.drop_length, chkL_nil]; omega)
                              have hres : LookPost w0 w g d ⟨6, t1, t2, vs, ks⟩ n b (.returned (.tuple #[])) wr := LookPost.yes Hfin.out hBr hKr hIr (by rw [Hne.out, Hnod.out, List.take_length]; omega) (by rw [Hbe.out, Hbyt.out, List.take_length])
                              clear Hfin
                              go_wp2
                              first | go_end0 | ((try simp only [Exit.inBlock, Exit.then]); refine bodyPost_ret (results_none rfl _ _ _) rfl ?_)
                              exact hres
                    · by_cases e7 : op = 7
                      · subst e7
                        have Hal := Lib.hid (alone_7 t1 t2 vs ks)
                        have Hnod := Lib.hid (show nodesM ⟨7, t1, t2, vs, ks⟩ = 1 + nodesL ks from nodesM_mk _)
                        cases hv : bareB ⟨7, t1, t2, vs, ks⟩ false false true with
                        | false =>
                          have hc : chk d ⟨7, t1, t2, vs, ks⟩ (64 - n) (4096 - b) = false := not_alone (by rw [Hal.out, hv]; rfl)
                          have Hbare := Lib.hid hv
                          clear hv
                          go_enter Try.func99, Try.ntmps99
                          go_wp2_with fail
                          (with_reducible refine (bare147 _ ⟨7, t1, t2, vs, ks⟩ A3 c3 A4 c4 false false true false Hbare.out (hM.below hB2)).mono ?_)
                          rintro e w3 ⟨rfl, hb3⟩
                          have hB3 := below_step hB2 hb3
                          have hI3 := hI2.below hb3
                          have hK3 := hK2.trans (KeepBut.of_below hb3 g none) (.inl rfl)
                          have hX3 := hX2.below hb3
                          have u3 := hX3.c1
                          have v3 := hX3.c2
                          have p3 := hX3.c3
                          have o3 := hX3.c0
                          have k3 := hX3.c4
                          have z3 := blk_frozen hI3.1 2
                          have y3 := cellS122_2 hI3.1
                          have hIS := hI3.set_2 true
                          have hBS : Below w0.heap.size w0 (w3.setCell ⟨g, 2, none⟩ (.bool true)) := hB3.setCell hg _
                          have hKS : KeepBut w (w3.setCell ⟨g, 2, none⟩ (.bool true)) g none := hK3.set_ 2 _
                          have hXS := hX3.set (j := 2) hne (.bool true)
                          go_wp2
                          go_loopw [7] (fun u7 wr => ∃ (j : Nat) (nj bj : Int) (kj : Bool), u7 = .int .i64 j ∧ j ≤ ks.length ∧ IsS122 w0 wr g nj bj kj ∧ BoxM wr w.heap.size 7 t1 t2 (.slice A3 vs.length c3) (.slice A4 ks.length c4) ∧ Below w0.heap.size w0 wr ∧ KeepBut w wr g none ∧ kj = true ∧ Hid (kj = true → chk d ⟨7, t1, t2, vs, ks⟩ (64 - n) (4096 - b) = false) ∧ Hid (kj = false → 0 ≤ nj ∧ nj ≤ 64 ∧ 0 ≤ bj ∧ bj ≤ 4096 ∧ nj = n + 1 + nodesL (ks.take j) ∧ bj = b + bytesL (ks.take j) ∧ chk d ⟨7, t1, t2, vs, ks⟩ (64 - n) (4096 - b) = chkL (d + 1) (ks.drop j) (64 - nj) (4096 - bj)))
                            (fun u7 _ => ks.length - (intOf u7).toNat)
                          case atStart => exact ⟨0, n + 1, b, true, rfl, Nat.zero_le _, hIS, hXS, hBS, hKS, rfl, Lib.hid (fun _ => hc), Lib.hid (fun h => by cases h)⟩
                          case round =>
                            clear hIS hBS hKS hXS
                            obtain ⟨j, nj, bj, kj, rfl, hj, hIr, hXr, hBr, hKr, hkj, hkt, hkf⟩ := hrel
                            have pr := hXr.c4
                            have yr := cellS122_2 hIr.1
                            have hlen := hM.2.2.2.2.1
                            cases kj with
                            | true =>
                              have Hc := Lib.hid (hkt.out rfl)
                              clear hkt hkf
                              by_cases hlt : j < ks.length
                              · go_wp2
                                first | go_end0 | ((try simp only [Exit.inBlock, Exit.then]); refine bodyPost_ret (results_none rfl _ _ _) rfl ?_)
                                exact LookPost.no Hc.out hBr hKr hIr
                              · go_wp2
                                first | go_end0 | ((try simp only [Exit.inBlock, Exit.then]); refine bodyPost_ret (results_none rfl _ _ _) rfl ?_)
                                exact LookPost.no Hc.out hBr hKr hIr
                            | false =>
                              cases hkj
                        | true =>
                          obtain ⟨s1, s2, s3⟩ := plain_own hv
                          have Hbyt := Lib.hid (show bytesM ⟨7, t1, t2, vs, ks⟩ = bytesL ks from by rw [bytesM_mk]; simp [s1, s2, s3, sizes])
                          by_cases h1 : ks.length = 1
                          · have h1b : decide ((ks.length : Int) = 1) = true := decide_eq_true (by omega)
                            have h1c : ((ks.length : Int) != 1) = false := by rw [bne_eq_false_iff_eq]; omega
                            have h1d : ((ks.length : Int) == 1) = true := by rw [beq_iff_eq]; omega
                            have H1 := Lib.hid h1
                            have Hstart := Lib.hid (show chk d ⟨7, t1, t2, vs, ks⟩ (64 - n) (4096 - b) = chkL (d + 1) ks (64 - (n + 1)) (4096 - b) from by
                              rw [Bool.eq_iff_iff, chk_iff]
                              simp only [s1, s2, s3, sizes, Int.natCast_zero, Int.add_zero, Int.sub_zero, show (64 - n - 1 : Int) = 64 - (n + 1) by omega]
                              constructor
                              · exact fun h => h.2.2.2.2
                              · exact fun h => ⟨by omega, by omega, by rw [s3] at Hal; rw [Hal.out]; rw [← s3, hv, decide_eq_true h1]; rfl, by omega, h⟩)
                            have Hbare := Lib.hid hv
                            clear hv s1 s2 s3 h1
                            go_enter Try.func99, Try.ntmps99
                            go_wp2_with fail
                            (with_reducible refine (bare147 _ ⟨7, t1, t2, vs, ks⟩ A3 c3 A4 c4 false false true true Hbare.out (hM.below hB2)).mono ?_)
                            rintro e w3 ⟨rfl, hb3⟩
                            have hB3 := below_step hB2 hb3
                            have hI3 := hI2.below hb3
                            have hK3 := hK2.trans (KeepBut.of_below hb3 g none) (.inl rfl)
                            have hX3 := hX2.below hb3
                            have u3 := hX3.c1
                            have v3 := hX3.c2
                            have p3 := hX3.c3
                            have o3 := hX3.c0
                            have k3 := hX3.c4
                            have z3 := blk_frozen hI3.1 2
                            have y3 := cellS122_2 hI3.1
                            have hIS := hI3.set_2 false
                            have hBS : Below w0.heap.size w0 (w3.setCell ⟨g, 2, none⟩ (.bool false)) := hB3.setCell hg _
                            have hKS : KeepBut w (w3.setCell ⟨g, 2, none⟩ (.bool false)) g none := hK3.set_ 2 _
                            have hXS := hX3.set (j := 2) hne (.bool false)
                            go_wp2
                            go_loopw [7] (fun u7 wr => ∃ (j : Nat) (nj bj : Int) (kj : Bool), u7 = .int .i64 j ∧ j ≤ ks.length ∧ IsS122 w0 wr g nj bj kj ∧ BoxM wr w.heap.size 7 t1 t2 (.slice A3 vs.length c3) (.slice A4 ks.length c4) ∧ Below w0.heap.size w0 wr ∧ KeepBut w wr g none ∧ Hid (kj = true → chk d ⟨7, t1, t2, vs, ks⟩ (64 - n) (4096 - b) = false) ∧ Hid (kj = false → 0 ≤ nj ∧ nj ≤ 64 ∧ 0 ≤ bj ∧ bj ≤ 4096 ∧ nj = n + 1 + nodesL (ks.take j) ∧ bj = b + bytesL (ks.take j) ∧ chk d ⟨7, t1, t2, vs, ks⟩ (64 - n) (4096 - b) = chkL (d + 1) (ks.drop j) (64 - nj) (4096 - bj)))
                              (fun u7 _ => ks.length - (intOf u7).toNat)
                            case atStart => exact ⟨0, n + 1, b, false, rfl, Nat.zero_le _, hIS, hXS, hBS, hKS, Lib.hid (fun h => by cases h), Lib.hid (fun _ => ⟨by omega, by omega, hb0, hb1, by simp [nodesL], by simp [bytesL], by rw [List.drop_zero]; exact Hstart.out⟩)⟩
                            case round =>
                              clear hIS hBS hKS hXS
                              obtain ⟨j, nj, bj, kj, rfl, hj, hIr, hXr, hBr, hKr, hkt, hkf⟩ := hrel
                              have pr := hXr.c4
                              have yr := cellS122_2 hIr.1
                              have hlen := hM.2.2.2.2.1
                              cases kj with
                              | true =>
                                have Hc := Lib.hid (hkt.out rfl)
                                clear hkt hkf
                                by_cases hlt : j < ks.length
                                · go_wp2
                                  first | go_end0 | ((try simp only [Exit.inBlock, Exit.then]); refine bodyPost_ret (results_none rfl _ _ _) rfl ?_)
                                  exact LookPost.no Hc.out hBr hKr hIr
                                · go_wp2
                                  first | go_end0 | ((try simp only [Exit.inBlock, Exit.then]); refine bodyPost_ret (results_none rfl _ _ _) rfl ?_)
                                  exact LookPost.no Hc.out hBr hKr hIr
                              | false =>
                                obtain ⟨hn0', hn1', hb0', hb1', hne', hbe', hce⟩ := hkf.out rfl
                                have Hne := Lib.hid hne'
                                have Hbe := Lib.hid hbe'
                                have Hce := Lib.hid hce
                                clear hkt hkf hne' hbe' hce
                                by_cases hlt : j < ks.length
                                · obtain ⟨ad, B3, e3, B4, e4, rfl, hMk, k0, k1, k2, k3, k4⟩ := hM.kid j hlt
                                  simp only at k0 k1 k2 k3 k4 hMk
                                  have k0 := pw_cell_below hBr k0
                                  have k1 := pw_cell_below hBr k1
                                  have k2 := pw_cell_below hBr k2
                                  have k3 := pw_cell_below hBr k3
                                  have k4 := pw_cell_below hBr k4
                                  have hmem : ks.getD j z25 ∈ ks := by simp [List.getD_eq_getElem?_getD, hlt]
                                  have hsmall := nodes_lt ⟨7, t1, t2, vs, ks⟩ _ hmem
                                  have Hbk := Lib.hid (boundL_at Hbound.out.2.2.2 hlt)
                                  have Hdrop := Lib.hid (chkL_drop (d + 1) ks j hlt (64 - nj) (4096 - bj))
                                  have Hn4 := Lib.hid (nodesL_split ks j hlt)
                                  have Hb4 := Lib.hid (bytesL_split ks j hlt)
                                  obtain ⟨kid, ek⟩ : ∃ kid, ks.getD j z25 = kid := ⟨_, rfl⟩
                                  rw [ek] at hMk k0 k1 k2 k3 k4 hsmall Hdrop Hn4 Hb4 Hbk
                                  clear ek hmem
                                  go_wp2_with fail
                                  (with_reducible refine (IH.out kid (by omega) Hbk.out (d + 1) nj bj B3 e3 B4 e4 g w0 _ (by omega) (by omega) (by omega) (by omega) (by omega) (by omega) hMk hBr hIr).mono ?_)
                                  rintro e w5 ⟨rfl, hB5, hK5, n5, b5, hI5, hyes⟩
                                  have hX5 := hXr.keep hK5 hne
                                  obtain ⟨kc, ekc⟩ : ∃ kc, chk (d + 1) kid (64 - nj) (4096 - bj) = kc := ⟨_, rfl⟩
                                  rw [ekc] at hI5 hyes
                                  have Ekc := Lib.hid ekc
                                  have Hyes := Lib.hid hyes
                                  clear ekc hyes k0 k1 k2 k3 k4
                                  go_wp2_with fail
                                  go_roundw
                                  case rel =>
                                    refine ⟨j + 1, n5, b5, !kc, by go_num, by omega, hI5, hX5, hB5, hKr.trans hK5 (.inl rfl), Lib.hid ?_, Lib.hid ?_⟩
                                    · intro hk
                                      rw [Hce.out, ← Bool.not_eq_true, Hdrop.out, Ekc.out]
                                      rintro ⟨h, _⟩
                                      rw [h] at hk; cases hk
                                    · intro hk
                                      have hkc : kc = true := by cases kc; cases hk; rfl
                                      obtain ⟨h1, h2⟩ := Hyes.out hkc
                                      have hd := chk_def.1 (Ekc.out.trans hkc)
                                      refine ⟨by omega, by omega, by omega, by omega, by rw [h1, Hne.out, Hn4.out]; omega, by rw [h2, Hbe.out, Hb4.out]; omega, ?_⟩
                                      rw [Hce.out, Bool.eq_iff_iff, Hdrop.out, h1, h2, show 64 - nj - (nodesM kid : Int) = 64 - (nj + nodesM kid) by omega, show 4096 - bj - (bytesM kid : Int) = 4096 - (bj + bytesM kid) by omega]
                                      exact ⟨fun h => h.2, fun h => ⟨Ekc.out.trans hkc, h⟩⟩
                                  case measure => simp [intOf]; omega
                                · obtain rfl : j = ks.length := by omega
                                  have Hfin := Lib.hid (show chk d ⟨7, t1, t2, vs, ks⟩ (64 - n) (4096 - b) = true from by
                                    rw [Hce.out, List.drop_length, chkL_nil]; omega)
                                  have hres : LookPost w0 w g d ⟨7, t1, t2, vs, ks⟩ n b (.returned (.tuple #[])) wr := LookPost.yes Hfin.out hBr hKr hIr (by rw [Hne.out, Hnod.out, List.take_length]; omega) (by rw [Hbe.out, Hbyt.out, List.take_length])
                                  clear Hfin
                                  go_wp2
                                  first | go_end0 | ((try simp only [Exit.inBlock, Exit.then]); refine bodyPost_ret (results_none rfl _ _ _) rfl ?_)
                                  exact hres
                          · have hc : chk d ⟨7, t1, t2, vs, ks⟩ (64 - n) (4096 - b) = false := not_alone (by rw [Hal.out, decide_eq_false h1, Bool.and_false])
                            have h1b : decide ((ks.length : Int) = 1) = false := decide_eq_false (by omega)
                            have h1c : ((ks.length : Int) != 1) = true := by rw [bne_iff_ne]; omega
                            have h1d : ((ks.length : Int) == 1) = false := by rw [beq_eq_false_iff_ne]; omega
                            have Hbare := Lib.hid hv
                            clear hv s1 s2 s3 Hbyt
                            go_enter Try.func99, Try.ntmps99
                            go_wp2_with fail
                            (with_reducible refine (bare147 _ ⟨7, t1, t2, vs, ks⟩ A3 c3 A4 c4 false false true true Hbare.out (hM.below hB2)).mono ?_)
                            rintro e w3 ⟨rfl, hb3⟩
                            have hB3 := below_step hB2 hb3
                            have hI3 := hI2.below hb3
                            have hK3 := hK2.trans (KeepBut.of_below hb3 g none) (.inl rfl)
                            have hX3 := hX2.below hb3
                            have u3 := hX3.c1
                            have v3 := hX3.c2
                            have p3 := hX3.c3
                            have o3 := hX3.c0
                            have k3 := hX3.c4
                            have z3 := blk_frozen hI3.1 2
                            have y3 := cellS122_2 hI3.1
                            have hIS := hI3.set_2 true
                            have hBS : Below w0.heap.size w0 (w3.setCell ⟨g, 2, none⟩ (.bool true)) := hB3.setCell hg _
                            have hKS : KeepBut w (w3.setCell ⟨g, 2, none⟩ (.bool true)) g none := hK3.set_ 2 _
                            have hXS := hX3.set (j := 2) hne (.bool true)
                            go_wp2
                            go_loopw [7] (fun u7 wr => ∃ (j : Nat) (nj bj : Int) (kj : Bool), u7 = .int .i64 j ∧ j ≤ ks.length ∧ IsS122 w0 wr g nj bj kj ∧ BoxM wr w.heap.size 7 t1 t2 (.slice A3 vs.length c3) (.slice A4 ks.length c4) ∧ Below w0.heap.size w0 wr ∧ KeepBut w wr g none ∧ kj = true ∧ Hid (kj = true → chk d ⟨7, t1, t2, vs, ks⟩ (64 - n) (4096 - b) = false) ∧ Hid (kj = false → 0 ≤ nj ∧ nj ≤ 64 ∧ 0 ≤ bj ∧ bj ≤ 4096 ∧ nj = n + 1 + nodesL (ks.take j) ∧ bj = b + bytesL (ks.take j) ∧ chk d ⟨7, t1, t2, vs, ks⟩ (64 - n) (4096 - b) = chkL (d + 1) (ks.drop j) (64 - nj) (4096 - bj)))
                              (fun u7 _ => ks.length - (intOf u7).toNat)
                            case atStart => exact ⟨0, n + 1, b, true, rfl, Nat.zero_le _, hIS, hXS, hBS, hKS, rfl, Lib.hid (fun _ => hc), Lib.hid (fun h => by cases h)⟩
                            case round =>
                              clear hIS hBS hKS hXS
                              obtain ⟨j, nj, bj, kj, rfl, hj, hIr, hXr, hBr, hKr, hkj, hkt, hkf⟩ := hrel
                              have pr := hXr.c4
                              have yr := cellS122_2 hIr.1
                              have hlen := hM.2.2.2.2.1
                              cases kj with
                              | true =>
                                have Hc := Lib.hid (hkt.out rfl)
                                clear hkt hkf
                                by_cases hlt : j < ks.length
                                · go_wp2
                                  first | go_end0 | ((try simp only [Exit.inBlock, Exit.then]); refine bodyPost_ret (results_none rfl _ _ _) rfl ?_)
                                  exact LookPost.no Hc.out hBr hKr hIr
                                · go_wp2
                                  first | go_end0 | ((try simp only [Exit.inBlock, Exit.then]); refine bodyPost_ret (results_none rfl _ _ _) rfl ?_)
                                  exact LookPost.no Hc.out hBr hKr hIr
                              | false =>
                                cases hkj
                      · have hc : chk d ⟨op, t1, t2, vs, ks⟩ (64 - n) (4096 - b) = false := not_alone (alone_other ⟨e0, e1, e2, e3, e4, e5, e6, e7⟩ t1 t2 vs ks)
                        go_enter Try.func99, Try.ntmps99
                        go_wp2
                        first | go_end0 | ((try simp only [Exit.inBlock, Exit.then]); refine bodyPost_ret (results_none rfl _ _ _) rfl ?_)
                        exact LookPost.no hc (below_alloc ((hB.setCell hg _).setCell hg _) (.cells #[.int .i64 op, .string t1, .string t2, .slice A3 vs.length c3, .slice A4 ks.length c4] 25)) ((((KeepBut.refl w g none).set_ 0 _).set_ 2 _).trans (KeepBut.of_below (below_alloc (Below.refl _ _) _) g none) (.inl rfl)) (((hI.set_0 (n + 1)).set_2 true).alloc _)
end Go.Proofs.Yteafilojjdfllaa
