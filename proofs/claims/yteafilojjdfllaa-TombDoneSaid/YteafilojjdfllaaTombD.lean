/- Own text: the laws' example of a tomb (awake). -/
import Derived.Test.YteafilojjdfllaaTombC
import Derived.Test.YteafilojjdfllaaPAllx8b
namespace Go.Proofs.Yteafilojjdfllaa
open Go Go.RowKit Go.Proofs.YteafilojjdfllaaW.PrintWords Go.Proofs.YteafilojjdfllaaW.PrintLast Go.Proofs.YteafilojjdfllaaW.PrintMore Go.Proofs.Yteafilojjdfllaa.PAll
set_option linter.unusedVariables false
set_option linter.unusedSimpArgs false

/-- a row of one element -/
theorem C_one {α : Type} {d : Kd α} {W : World} {g : Nat} {x : α} {cs : List Value} {t : TypeId} (hb : W.heap[g]? = some (.cells ⟨cs⟩ t (0, 0))) (hK : d.K W x cs) : d.C W (some ⟨g, 0, none⟩) 1 [x] := by
  refine ⟨rfl, by decide, fun _ => ⟨⟨g, 0, none⟩, rfl, fun j p hj => ?_⟩⟩
  have hj0 : j = 0 := by
    cases j with
    | zero => rfl
    | succ j => simp at hj
  subst hj0
  cases hj
  refine ⟨cs, d.K_len hK, hK, fun i u hu => ?_⟩
  have := blk_cell hb i
  have e : (⟨g, 0, none⟩ : Addr).add (0 * d.sz + i) = ⟨g, i, none⟩ := by simp [Addr.add]; exact Eq.symm
  rw [e]
  simpa [hu] using this

/-- the example's labels -/
def exL : List S68 := [⟨⟨#[104, 111, 115, 116]⟩, ⟨#[104]⟩ ++ (⟨#[48, 49, 50, 51, 52, 53, 54, 55, 56, 57, 97, 98]⟩ : ByteArray).extract 0 1⟩]
theorem exL_set : varvelaw00_Set.f 0 = some exL := by kernel_rfl
def exT : S27 := ⟨5, z25, 0, 8640⟩
def exR : S37 := ⟨exL, 7, ⟨[], [], ⟨0, 0, 0, 0⟩⟩⟩
theorem ex_tomb : tombB 5 0 8640 z25 = true := by kernel_rfl
theorem ex_cover : coverB exT exR = true := by kernel_rfl
theorem ex_need5 : tomb_Needs.f 3 0 0 0 0 0 5 0 [exT] = some false := by kernel_rfl
theorem ex_need4 : tomb_Needs.f 3 0 0 0 0 0 4 0 [exT] = some true := by kernel_rfl
theorem ex_mc (w : World) : MC w z25 none 0 none 0 := ⟨Nat.le_refl _, Kd.C_nil _ _, Nat.le_refl _, Kd.C_nil _ _⟩
theorem ex_k (w : World) : k27.K w exT [.int .i64 5, .int .i64 0, .string ⟨#[]⟩, .string ⟨#[]⟩, .slice none 0 0, .slice none 0 0, .int .i64 0, .int .i64 8640] := k27_mk w exT (Nat.le_refl _) (Kd.C_nil _ _) (Nat.le_refl _) (Kd.C_nil _ _)

theorem exCheck (w : World) : Calls Try.prog 33 #[.agg #[.int .i64 5, .int .i64 0, .string ⟨#[]⟩, .string ⟨#[]⟩, .slice none 0 0, .slice none 0 0, .int .i64 0, .int .i64 8640]] w fun e w' => e = .returned (.bool true) ∧ Below w.heap.size w w' := by
  have h := tombCheck33 w 5 0 8640 z25 none 0 none 0 (ex_mc w)
  rw [ex_tomb] at h
  exact h
theorem exCovers (w : World) (A : Option Addr) (c : Nat) (hc : exL.length ≤ c) (hC : Kd.C k68 w A exL.length exL) : Calls Try.prog 37 #[.agg #[.int .i64 5, .int .i64 0, .string ⟨#[]⟩, .string ⟨#[]⟩, .slice none 0 0, .slice none 0 0, .int .i64 0, .int .i64 8640], .agg #[.slice A exL.length c, .int .i64 7, .slice none 0 0, .slice none 0 0, .int .u64 0, .int .u64 0, .int .u64 0, .int .u64 0]] w fun e w' => e = .returned (.bool true) ∧ Below w.heap.size w w' :=
  Covers37 w exT exR none 0 none 0 A c none 0 0 none 0 0 true ex_cover (by decide) (ex_mc w) (by decide) hc hC
theorem exNeeds5 (w : World) (A : Option Addr) (c : Nat) (hc : 1 ≤ c) (hC : Kd.C k27 w A 1 [exT]) : Calls Try.prog 47 #[.agg #[.int .i64 0, .int .i64 0, .int .i64 0, .int .i64 0, .int .i64 0, .int .i64 5, .int .i64 0], .slice A 1 c] w fun e w' => e = .returned (.bool false) ∧ Below w.heap.size w w' :=
  tomb_Needs.calls 3 0 0 0 0 0 5 0 A c [exT] false w hC hc ex_need5
theorem exNeeds4 (w : World) (A : Option Addr) (c : Nat) (hc : 1 ≤ c) (hC : Kd.C k27 w A 1 [exT]) : Calls Try.prog 47 #[.agg #[.int .i64 0, .int .i64 0, .int .i64 0, .int .i64 0, .int .i64 0, .int .i64 4, .int .i64 0], .slice A 1 c] w fun e w' => e = .returned (.bool true) ∧ Below w.heap.size w w' :=
  tomb_Needs.calls 3 0 0 0 0 0 4 0 A c [exT] true w hC hc ex_need4

set_option maxRecDepth 100000 in
set_option maxHeartbeats 4000000 in
/-- varvelaw19.awake. -/
theorem awake32 (w : World) : Calls Try.prog 32 #[] w fun e w' => e = .returned (.bool true) ∧ Below w.heap.size w w' := by
  have hB0 : Below w.heap.size w (w.alloc (.cells #[.int .i64 5, .int .i64 0, .string ⟨#[]⟩, .string ⟨#[]⟩, .slice none 0 0, .slice none 0 0, .int .i64 0, .int .i64 8640] 27)) := below_alloc (Below.refl _ _) _
  go_enter Try.func32, Try.ntmps32
  go_wp2_with fail
  (with_reducible refine (varvelaw00_Set.calls 0 exL _ exL_set).mono ?_)
  rintro e w1 ⟨v0, rfl, hR, hB1⟩
  obtain ⟨A, c, rfl, hc, hC⟩ := Kd.R_reads hR
  have hX0 : BoxT (w.alloc (.cells #[.int .i64 5, .int .i64 0, .string ⟨#[]⟩, .string ⟨#[]⟩, .slice none 0 0, .slice none 0 0, .int .i64 0, .int .i64 8640] 27)) w.heap.size 5 0 ⟨#[]⟩ ⟨#[]⟩ (.slice none 0 0) (.slice none 0 0) 0 8640 := blk_new w _
  have hX1 := hX0.below hB1
  have HB1 := Lib.hid (below_step hB0 hB1)
  have HC := Lib.hid hC
  obtain ⟨x0, x1, x2, x3, x4, x5, x6, x7⟩ := hX1.all
  have hlt1 : w.heap.size < w1.heap.size := blk_lt hX1
  have HX2 := Lib.hid (hX1.below (below_alloc (Below.refl _ _) (.cells #[.slice A exL.length c, .int .i64 7, .slice none 0 0, .slice none 0 0, .int .u64 0, .int .u64 0, .int .u64 0, .int .u64 0] 37)))
  have HR2 : BoxR (w1.alloc (.cells #[.slice A exL.length c, .int .i64 7, .slice none 0 0, .slice none 0 0, .int .u64 0, .int .u64 0, .int .u64 0, .int .u64 0] 37)) w1.heap.size (.slice A exL.length c) 7 (.slice none 0 0) (.slice none 0 0) 0 0 0 0 := blk_new w1 _
  clear hR hC hX0 hX1 hB0 hB1
  go_wp2_with fail
  (with_reducible refine (exCheck _).mono ?_)
  rintro e w2 ⟨rfl, hB2⟩
  have hT2 := HX2.out.below hB2
  have hR2 := HR2.below hB2
  have HB2 := Lib.hid (below_step (below_alloc HB1.out _) hB2)
  have HC2 := Lib.hid (Kd.C_below (Kd.C_alloc HC.out _) hB2)
  obtain ⟨x0, x1, x2, x3, x4, x5, x6, x7⟩ := hT2.all
  obtain ⟨r0, r1, r2, r3, r4, r5, r6, r7⟩ := hR2.all
  have HT2 := Lib.hid hT2
  clear hT2 hR2 hB2 HC HX2 HR2 HB1
  go_wp2_with fail
  (with_reducible refine (exCovers _ A c hc HC2.out).mono ?_)
  rintro e w3 ⟨rfl, hB3⟩
  have hT3 := HT2.out.below hB3
  have HB3 := Lib.hid (below_step HB2.out hB3)
  obtain ⟨x0, x1, x2, x3, x4, x5, x6, x7⟩ := hT3.all
  have HT3 := Lib.hid hT3
  clear hB3 HC2 HT2 HB2 hT3
  go_wp2_with fail
  (with_reducible refine (exNeeds5 _ _ _ (Nat.le_refl _) (C_one (blk_new _ _) (ex_k _))).mono ?_)
  rintro e w4 ⟨rfl, hB4⟩
  have hT4 := (HT3.out.below (below_alloc (Below.refl _ _) _)).below hB4
  have HB4 := Lib.hid (below_step (below_alloc HB3.out _) hB4)
  obtain ⟨x0, x1, x2, x3, x4, x5, x6, x7⟩ := hT4.all
  clear hB4 HT3 HB3 hT4
  go_wp2_with fail
  (with_reducible refine (exNeeds4 _ _ _ (Nat.le_refl _) (C_one (blk_new _ _) (ex_k _))).mono ?_)
  rintro e w5 ⟨rfl, hB5⟩
  go_wp2_with fail
  go_ret
  exact ⟨rfl, below_step (below_alloc HB4.out _) hB5⟩
end Go.Proofs.Yteafilojjdfllaa
