/- Own text: the contract of an iterator that keeps cells of its own, and the law of 'for x := range it' over it, where the body appends to a boxed list. -/
import Derived.RangeFuncNested
import Derived.RangeFuncBound
import Derived.RangeFuncCalls
import Derived.RangeFuncLeaves
import Derived.RangeFuncBox
import Derived.Shelf.Abstract
import Derived.Shelf.RegionOpen
import Derived.WalkKit
import Derived.OwnWalkIn
import Derived.TacticsInMore
import Derived.LoopNIn
import Derived.LoopIn
import Derived.Maps.AppendAt
namespace Go.Proofs.Ytdjiaooieiboaaa
open Go Go.RowKit Go.Shelf

/-- The box Bl holds a list of ints, in cells from base on. -/
def JJ (base Bl : Nat) (pre : List Int) (W : World) : Prop :=
  ∃ v, Boxed W Bl 22 v ∧ W.ownsRow base 3 1 v pre.length (pre.map (Value.int .i64))

/-- Cells below base other than the box lie as they lay. -/
def Keep (base Bl : Nat) (W W' : World) : Prop :=
  W.heap.size ≤ W'.heap.size ∧ ∀ (b : Nat) (o : Obj), b < base → b ≠ Bl → W.heap[b]? = some o → o.isCells = true → W'.heap[b]? = some o

theorem Keep.refl (base Bl : Nat) (W : World) : Keep base Bl W W := ⟨Nat.le_refl _, fun _ _ _ _ h _ => h⟩
theorem Keep.trans {base Bl : Nat} {A B C : World} (h : Keep base Bl A B) (k : Keep base Bl B C) : Keep base Bl A C :=
  ⟨Nat.le_trans h.1 k.1, fun b o hb hn ho hc => k.2 b o hb hn (h.2 b o hb hn ho hc) hc⟩
theorem Keep.mono {a base Bl : Nat} {A B : World} (h : Keep base Bl A B) (ha : a ≤ base) : Keep a Bl A B :=
  ⟨h.1, fun b o hb hn ho hc => h.2 b o (by omega) hn ho hc⟩

theorem JJ.lower {a base Bl : Nat} {pre : List Int} {W : World} (h : JJ base Bl pre W) (ha : a ≤ base) : JJ a Bl pre W := by
  obtain ⟨v, hv, hr⟩ := h
  refine ⟨v, hv, hr.1, ?_⟩
  rcases hr.2 with hn | ⟨g, cap, cur, e, hb, rest⟩
  · exact .inl hn
  · exact .inr ⟨g, cap, cur, e, by omega, rest⟩

/-- An empty list owns nothing: its cells may be said to lie wherever one likes, if it is nil. -/
theorem JJ.nil {Bl : Nat} {W : World} (base : Nat) (h : Boxed W Bl 22 (.slice none 0 0)) : JJ base Bl [] W :=
  ⟨_, h, World.ownsRow_nil _ _ _ _⟩

/-- A step that turns a block that is neither the box nor its list's. -/
theorem JJ.kept {base Bl : Nat} {pre : List Int} {W W' : World} {row : Option Nat} (h : JJ base Bl pre W) (hg : W.grownBy W' row)
    (hr : ∀ r, row = some r → r ≠ Bl ∧ (r < base ∨ ∃ o, W.heap[r]? = some o ∧ o.isCells = false)) : JJ base Bl pre W' := by
  obtain ⟨v, hv, hrow⟩ := h
  refine ⟨v, hv.kept hg (fun e => (hr _ e.symm).1 rfl), hrow.kept hg ?_⟩
  rcases hrow.2 with ⟨rfl, _⟩ | ⟨g, cap, cur, rfl, hb, hgb, _⟩
  · exact .inl rfl
  · refine .inr fun e => ?_
    obtain ⟨_, h2 | ⟨o, ho, hc⟩⟩ := hr g (by simpa [Value.ownBlock] using e.symm)
    · omega
    · rw [hgb] at ho; cases ho; cases hc

/-- It abides new blocks and stores into cells from n₁ on. -/
def AbC (n₁ : Nat) (E : World → Prop) : Prop :=
  ∀ W W' row, E W → W.grownBy W' row → (∀ r, row = some r → n₁ ≤ r ∧ ∃ o : Obj, W.heap[r]? = some o ∧ o.isCells = true) → E W'

/-- Where a call of yield ends. -/
def YPost (base n₁ Bl m : Nat) (E Ex : World → Prop) (pre' : List Int) (W : World) : Ending → World → Prop := fun e W' =>
  JJ base Bl pre' W' ∧ Keep base Bl W W' ∧ Below n₁ W W' ∧
    ((pre'.length < m ∧ e = .returned (.bool true) ∧ E W') ∨ (m ≤ pre'.length ∧ e = .returned (.bool false) ∧ Ex W'))

/-- A call of a function value: a loop's body, or the function numbered g. -/
def YV (g n : Nat) (P : Program) (fv : Value) (args : Array Value) (W : World) (R : Ending → World → Prop) : Prop :=
  (∃ l, fv = .func (.yield l) #[] #[] ∧ YieldAt Fence.wide n P l args W R) ∨
  (∃ lb, fv = .func (.func g) #[] lb ∧ CallsIn Fence.wide n P g (args ++ lb) W R)

def Yields (g n : Nat) (P : Program) (fv : Value) (n₁ Bl m : Nat) (E Ex : World → Prop) : Prop :=
  ∀ base pre x W, n₁ ≤ base → base ≤ W.heap.size → pre.length < m → pre.length < 100000 → JJ base Bl pre W → E W →
    YV g n P fv #[.int .i64 x] W (YPost base n₁ Bl m E Ex (pre ++ [x]) W)

/-- An iterator's contract: it tells xs, in every world that comes behind w0. -/
def Tells (g : Nat) (P : Program) (gf : Nat) (lb : Array Value) (xs : List Int) (w0 : World) : Prop :=
  ∀ n fv n₁ Bl m E Ex W, Below w0.heap.size w0 W → w0.heap.size ≤ n₁ → n₁ ≤ Bl → AbC n₁ E → AbC n₁ Ex → 1 ≤ m →
    (∀ n', Yields g n' P fv n₁ Bl m E Ex) → Boxed W Bl 22 (.slice none 0 0) → E W →
    CallsIn Fence.wide n P gf (#[fv] ++ lb) W fun e W' => (∃ v, e = .returned v) ∧ JJ n₁ Bl (xs.take m) W' ∧ Below n₁ W W' ∧
      ((xs.length < m ∧ E W') ∨ (m ≤ xs.length ∧ Ex W'))

theorem Tells.later {g : Nat} {P : Program} {gf : Nat} {lb : Array Value} {xs : List Int} {w w' : World} (h : Tells g P gf lb xs w) (hb : Below w.heap.size w w') : Tells g P gf lb xs w' :=
  fun n fv n₁ Bl m E Ex W hW hn hBl hE hEx hm hY h0 hE0 => h n fv n₁ Bl m E Ex W (hb.trans (hW.mono hb.size)) (Nat.le_trans hb.size hn) hBl hE hEx hm hY h0 hE0

/-- How the body of a round may be left. -/
def rowPost (base n₁ Bl m id : Nat) (pre' : List Int) (W : World) : Exit → Act → World → Prop
  | .normal, _, W' => KeepsOthers W W' ∧ JJ base Bl pre' W' ∧ Keep base Bl W W' ∧ Below n₁ W W' ∧ pre'.length < m
  | .exit i, _, W' => i = id ∧ KeepsOthers W W' ∧ JJ base Bl pre' W' ∧ Keep base Bl W W' ∧ Below n₁ W W' ∧ m ≤ pre'.length
  | _, _, _ => False

theorem keep_putObj {base Bl : Nat} {W : World} {l : Nat} {o : Obj} (o' : Obj) (hl : W.heap[l]? = some o) (ho : o.isCells = false) : Keep base Bl W (W.putObj l o') :=
  ⟨by simp, fun b ob _ _ hb hc => by
    refine (World.putObj_heap_other (fun e => ?_)).trans hb
    subst e; rw [hl] at hb; cases hb; rw [ho] at hc; cases hc⟩

/-- **'for x := range it { l = append(l, x); if len(l) == most { break } }'.** -/
theorem wpIn_rangeFunc_row {g0 : Nat} {n : Nat} {P : Program} {g : Operand} {ps : Array Tmp} {assign body : Code} {Q : Exit → Act → World → Prop} {a : Act} {w : World}
    {gf : Nat} {lb : Array Value} (hg : a.eval g = .func (.func gf) #[] lb) (eg : ∀ args w, (callFunc gf args).run P w = .ok (.enter gf args) w)
    {xs : List Int} {w0 : World} (hseq : Tells g0 P gf lb xs w0) (hb0 : Below w0.heap.size w0 w) (hps : ps.size = 1)
    (n₁ Bl m id : Nat) (h1 : w0.heap.size ≤ n₁) (hBl : n₁ ≤ Bl) (hm : 1 ≤ m) (hbox : Boxed w Bl 22 (.slice none 0 0)) (a₁ : Int → Act)
    (hassign : ∀ (n' l : Nat) (x : Int) (W : World) (K : Act → World → Prop), K (a₁ x) W →
      assign.wpIn (Fence.wide.inRound l) n' P (Exit.then K (fun _ _ _ => False)) { tmps := (ps.zip #[Value.int .i64 x]).foldl (fun t (p, v) => t.setIfInBounds p v) a.tmps, defers := [] } W)
    (hbody : ∀ (n' l base : Nat) (pre : List Int) (x : Int) (W : World), n₁ ≤ base → base ≤ W.heap.size → pre.length < m → pre.length < 100000 → JJ base Bl pre W → Below n₁ w W →
      body.wpIn (Fence.wide.inRound l) n' P (rowPost base n₁ Bl m id (pre ++ [x]) W) (a₁ x) W)
    (hdone : ∀ (D : Nat) (W : World), w.heap.size ≤ D → JJ n₁ Bl (xs.take m) W → Below n₁ w W → W.heap[D]? = some (.deferred (some [])) → Q .normal { a with defers := { target := .collected D, args := #[] } :: a.defers } W)
    (hstop : ∀ (D : Nat) (W : World), w.heap.size ≤ D → JJ n₁ Bl (xs.take m) W → Below n₁ w W → W.heap[D]? = some (.deferred (some [])) → (Code.exit id).wpIn Fence.wide n P Q { a with defers := { target := .collected D, args := #[] } :: a.defers } W) :
    (Code.rangeFunc g ps assign body).wpIn Fence.wide n P Q a w := by
  have hBlt : Bl < w.heap.size := hbox.lt
  refine wpIn_rangeFunc ?_
  intro fn hfn
  obtain ⟨rec, hrec⟩ : ∃ rec : LoopState → Option Code → Loop, rec = fun st pe => { state := st, pending := pe, fn, tmps := a.tmps, params := ps, assign, body, defers := w.heap.size } := ⟨_, rfl⟩
  obtain ⟨W1, hW1⟩ : ∃ W1, (w.alloc (.deferred (some []))).alloc (.loop (rec .ready none)) = W1 := ⟨_, rfl⟩
  have hs1 : W1.heap.size = w.heap.size + 2 := by rw [← hW1]; simp
  have hL1 : W1.heap[w.heap.size + 1]? = some (.loop (rec .ready none)) := by
    rw [← hW1]; have := World.alloc_heap_new (w.alloc (.deferred (some []))) (.loop (rec .ready none)); rwa [World.size_alloc] at this
  have hK1 : W1.heap[w.heap.size]? = some (.deferred (some [])) := by
    rw [← hW1]; exact (Below.heap_alloc _ _ _ (by simp)).trans (World.alloc_heap_new w _)
  have hbox1 : Boxed W1 Bl 22 (.slice none 0 0) := by rw [← hW1]; exact (hbox.alloc _).alloc _
  have hn₁ : n₁ ≤ w.heap.size := by omega
  have hbw : Below n₁ w W1 := by rw [← hW1]; exact ((Below.refl _ w).alloc hn₁ _).alloc (by simp; omega) _
  have hb1 : Below w0.heap.size w0 W1 := hb0.trans (hbw.mono h1)
  refine ⟨w.heap.size + 1, [{ target := .collected w.heap.size, args := #[] }], W1, { target := .fn (.func gf) lb, args := #[.func (.yield (w.heap.size + 1)) #[] #[]] }, W1, gf,
    #[.func (.yield (w.heap.size + 1)) #[] #[]] ++ lb, W1, ?_, ?_, ?_, ?_, fun h => by simp [Fence.wide] at h, ?_⟩
  · rw [← hW1, hrec]; exact run_enterLoop_outer _ _ _ _ _
  · simp only [resolve, hg]
    simp [go_sem]
  · intro f' hf'; trivial
  · simp [invoke, go_sem, eg]
  · have hnc : ∀ {A B : World} {row : Option Nat} {k : Nat} {o : Obj}, A.grownBy B row → (∀ r, row = some r → ∃ o : Obj, A.heap[r]? = some o ∧ o.isCells = true) → A.heap[k]? = some o → o.isCells = false → B.heap[k]? = some o := by
      intro A B row k o hg' hr hk ho
      refine (hg'.block k (Array.getElem?_eq_some_iff.1 hk).1 ?_).trans hk
      intro e
      obtain ⟨o', ho', hc'⟩ := hr k e.symm
      rw [hk] at ho'; cases ho'; rw [ho] at hc'; cases hc'
    refine (hseq (n - 1) (.func (.yield (w.heap.size + 1)) #[] #[]) n₁ Bl m
      (fun W => Below n₁ w W ∧ W.heap[w.heap.size + 1]? = some (.loop (rec .ready none)) ∧ W.heap[w.heap.size]? = some (.deferred (some [])))
      (fun W => W.heap[w.heap.size + 1]? = some (.loop (rec .done (some (.exit id)))) ∧ W.heap[w.heap.size]? = some (.deferred (some [])))
      W1 hb1 h1 hBl ?_ ?_ hm ?_ hbox1 ⟨hbw, hL1, hK1⟩).mono ?_
    · intro A B row ⟨hb, hl, hk⟩ hg' hr
      exact ⟨hb.grown hg' (Nat.le_trans hn₁ hb.size) (fun k e => (hr k e).1), hnc hg' (fun r e => (hr r e).2) hl rfl, hnc hg' (fun r e => (hr r e).2) hk rfl⟩
    · intro A B row ⟨hl, hk⟩ hg' hr
      exact ⟨hnc hg' (fun r e => (hr r e).2) hl rfl, hnc hg' (fun r e => (hr r e).2) hk rfl⟩
    · -- ONE ROUND
      intro n' base pre x W hbase hbs hpm hp5 hJ ⟨hbW, hl, hk⟩
      have hlt : w.heap.size + 1 < W.heap.size := (Array.getElem?_eq_some_iff.1 hl).1
      have hy := run_yield (P := P) (args := #[Value.int .i64 x]) hl (by rw [hrec]; simp [hps])
      rw [hrec] at hy
      refine .inl ⟨_, rfl, fn, _, assign, body, hy, roundIn_of_wpIn hfn (hassign n' _ x W _ ⟨_, run_beginRound hl (by rw [hrec]), ?_⟩)⟩
      obtain ⟨W2, hW2⟩ : ∃ W2, W.putObj (w.heap.size + 1) (.loop { rec .ready none with state := .busy }) = W2 := ⟨_, rfl⟩
      have hl2 : W2.heap[w.heap.size + 1]? = some (.loop { rec .ready none with state := .busy }) := by rw [← hW2]; exact World.putObj_heap_same hlt
      have hk2 : W2.heap[w.heap.size]? = some (.deferred (some [])) := by rw [← hW2]; exact (World.putObj_heap_other (by omega)).trans hk
      have hg2 : W.grownBy W2 (some (w.heap.size + 1)) := by rw [← hW2]; exact grownBy_putObj' _ _ _
      have hs2 : W2.heap.size = W.heap.size := by rw [← hW2]; simp
      have hJ2 : JJ base Bl pre W2 := hJ.kept hg2 (fun r e => by cases e; exact ⟨by omega, .inr ⟨_, hl, rfl⟩⟩)
      have hKp2 : Keep base Bl W W2 := by rw [← hW2]; exact keep_putObj _ hl rfl
      have hB2 : Below n₁ W W2 := (Below.refl n₁ W).grown hg2 (by omega) (fun k e => by cases e; omega)
      rw [show W.putObj (w.heap.size + 1) (.loop { (rec .ready none) with state := .busy }) = W2 from hW2]
      refine wpIn_mono (hbody n' _ base pre x W2 hbase (by omega) hpm hp5 hJ2 (hbW.trans hB2)) ?_
      have fin : ∀ (jump : Option Code) (W3 : World), KeepsOthers W2 W3 → JJ base Bl (pre ++ [x]) W3 → Keep base Bl W2 W3 → Below n₁ W2 W3 →
          ∃ W4, (Instr.endRound (w.heap.size + 1) jump).run P W3 = .ok (.bool jump.isNone) W4 ∧
          W4.heap[w.heap.size + 1]? = some (.loop (rec (if jump.isNone then .ready else .done) jump)) ∧
          W4.heap[w.heap.size]? = some (.deferred (some [])) ∧ JJ base Bl (pre ++ [x]) W4 ∧ Keep base Bl W W4 ∧ Below n₁ W W4 := fun jump W3 hk3 hJ3 hKp3 hB3 => by
        have hl3 := hk3.same _ _ hl2 rfl
        have := run_endRound (P := P) jump hl3
        rw [hrec] at this ⊢
        have hg4 := grownBy_putObj' W3 (w.heap.size + 1) (.loop (rec (if jump.isNone then .ready else .done) jump))
        refine ⟨_, this, ?_, ?_, ?_, ?_, ?_⟩
        · exact World.putObj_heap_same (Array.getElem?_eq_some_iff.1 hl3).1
        · exact (World.putObj_heap_other (by omega)).trans (hk3.same _ _ hk2 rfl)
        · exact hJ3.kept (grownBy_putObj' _ _ _) (fun r e => by cases e; exact ⟨by omega, .inr ⟨_, hl3, rfl⟩⟩)
        · exact (hKp2.trans hKp3).trans (keep_putObj _ hl3 rfl)
        · exact (hB2.trans hB3).grown (grownBy_putObj' _ _ _) (by have := hB3.size; omega) (fun k e => by cases e; omega)
      rintro e a3 W3 hp
      cases e with
      | normal =>
        obtain ⟨hk3, hJ3, hKp3, hB3, hlen⟩ := hp
        obtain ⟨W4, hr, hl4, hk4, hJ4, hKp4, hB4⟩ := fin none W3 hk3 hJ3 hKp3 hB3
        exact ⟨_, _, hr, hJ4, hKp4, hB4, .inl ⟨hlen, rfl, hbW.trans hB4, hl4, hk4⟩⟩
      | exit i =>
        obtain ⟨rfl, hk3, hJ3, hKp3, hB3, hlen⟩ := hp
        obtain ⟨W4, hr, hl4, hk4, hJ4, hKp4, hB4⟩ := fin (some (.exit i)) W3 hk3 hJ3 hKp3 hB3
        exact ⟨_, _, hr, hJ4, hKp4, hB4, .inr ⟨hlen, rfl, hl4, hk4⟩⟩
      | ret => exact hp.elim
      | goto t => exact hp.elim
      | panic ch => exact hp.elim
      | outgrown => exact hp.elim
    · -- BEHIND THE ITERATOR
      rintro e W2 ⟨⟨v, rfl⟩, hJ, hB, hE⟩
      have fin : ∀ (st : LoopState) (pe : Option Code) (o' : Obj), W2.heap[w.heap.size + 1]? = some (.loop (rec st pe)) → W2.heap[w.heap.size]? = some (.deferred (some [])) →
          JJ n₁ Bl (xs.take m) (W2.putObj (w.heap.size + 1) o') ∧ Below n₁ w (W2.putObj (w.heap.size + 1) o') ∧ (W2.putObj (w.heap.size + 1) o').heap[w.heap.size]? = some (.deferred (some [])) := fun st pe o' hl hk =>
        ⟨hJ.kept (grownBy_putObj' _ _ _) (fun r e => by cases e; exact ⟨by omega, .inr ⟨_, hl, rfl⟩⟩),
          (hbw.trans hB).grown (grownBy_putObj' _ _ _) (by have := hB.size; omega) (fun k e => by cases e; omega),
          (World.putObj_heap_other (by omega)).trans hk⟩
      rcases hE with ⟨_, _, hl, hk⟩ | ⟨_, hl, hk⟩
      · obtain ⟨f1, f2, f3⟩ := fin _ _ _ hl hk
        exact ⟨none, _, by have := run_endLoop (P := P) hl (by rw [hrec]; simp); rw [hrec] at this; exact this, hdone _ _ (Nat.le_refl _) f1 f2 f3⟩
      · obtain ⟨f1, f2, f3⟩ := fin _ _ _ hl hk
        exact ⟨some (.exit id), _, by have := run_endLoop (P := P) hl (by rw [hrec]; simp); rw [hrec] at this; exact this, hstop _ _ (Nat.le_refl _) f1 f2 f3⟩

/-- **THE BODY's ONE STORE: 'l = append(l, x)'**: out of the append law's words. -/
theorem appended {W w1 : World} {base n₁ Bl : Nat} {v v' : Value} {pre : List Int} {x : Int} {tmp : Obj} (hv : Boxed W Bl 22 v) (hrow : W.ownsRow base 3 1 v pre.length (pre.map (Value.int .i64)))
    (h1 : n₁ ≤ base) (h2 : base ≤ W.heap.size) (hBl : n₁ ≤ Bl)
    (hown' : w1.ownsRow base 3 1 v' (pre.length + 1) (pre.map (Value.int .i64) ++ [Value.int .i64 x])) (hgrow : (W.alloc tmp).grownBy w1 v.ownBlock) :
    Boxed w1 Bl 22 v ∧ KeepsOthers W (w1.setCell ⟨Bl, 0, none⟩ v') ∧ JJ base Bl (pre ++ [x]) (w1.setCell ⟨Bl, 0, none⟩ v') ∧ Keep base Bl W (w1.setCell ⟨Bl, 0, none⟩ v') ∧ Below n₁ W (w1.setCell ⟨Bl, 0, none⟩ v') := by
  have hrow1 : W.ownsRow n₁ 3 1 v pre.length (pre.map (Value.int .i64)) := by
    refine ⟨hrow.1, ?_⟩
    rcases hrow.2 with hn | ⟨g, cap, cur, e, hb, rest⟩
    · exact .inl hn
    · exact .inr ⟨g, cap, cur, e, by omega, rest⟩
  have hown1 : w1.ownsRow n₁ 3 1 v' (pre.length + 1) (pre.map (Value.int .i64) ++ [Value.int .i64 x]) := by
    refine ⟨hown'.1, ?_⟩
    rcases hown'.2 with hn | ⟨g, cap, cur, e, hb, rest⟩
    · exact .inl hn
    · exact .inr ⟨g, cap, cur, e, by omega, rest⟩
  obtain ⟨a1, a2, a3, a4, a5⟩ := hv.appended (by decide) hrow1 (by omega) hBl hown1 hgrow
  refine ⟨a1, a4, ⟨v', a2, ?_⟩, ⟨a5.size, ?_⟩, a5⟩
  · have := hown'.kept (grownBy_setCell' w1 Bl v') (.inr (a1.not_row (by decide) hown').symm)
    simpa using this
  · intro b o hb hn ho hc
    rw [Below.heap_setCell _ _ _ b (by simpa using hn)]
    have hlt := (Array.getElem?_eq_some_iff.1 ho).1
    refine (hgrow.block b (by simp; omega) ?_).trans ((Below.heap_alloc W tmp b hlt).trans ho)
    rcases hrow.2 with ⟨rfl, _⟩ | ⟨g, cap, cur, rfl, hbg, _⟩
    · simp [Value.ownBlock]
    · simp [Value.ownBlock]; omega

end Go.Proofs.Ytdjiaooieiboaaa
