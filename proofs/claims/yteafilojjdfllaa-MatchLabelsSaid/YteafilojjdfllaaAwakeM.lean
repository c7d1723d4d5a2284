/- Own text: the laws' example of a matcher (awake). -/
import Derived.Test.YteafilojjdfllaaTextW
namespace Go.Proofs.Yteafilojjdfllaa
open Go Go.RowKit Go.Proofs.YteafilojjdfllaaW.PrintWords Go.Proofs.YteafilojjdfllaaW.PrintLast Go.Proofs.YteafilojjdfllaaW.PrintMore Go.Proofs.Yteafilojjdfllaa.PAll

/-- a row of one element -/
theorem C_one' {α : Type} {d : Kd α} {W : World} {g : Nat} {x : α} {cs : List Value} {t : TypeId} (hb : W.heap[g]? = some (.cells ⟨cs⟩ t (0, 0))) (hK : d.K W x cs) : d.C W (some ⟨g, 0, none⟩) 1 [x] := by
  refine ⟨rfl, by decide, fun _ => ⟨⟨g, 0, none⟩, rfl, fun j p hj => ?_⟩⟩
  have hj0 : j = 0 := by
    cases j with
    | zero => rfl
    | succ j => simp at hj
  subst hj0
  cases hj
  refine ⟨cs, d.K_len hK, hK, fun i u hu => ?_⟩
  have := blk_cell hb i
  have e : (⟨g, 0, none⟩ : Addr).add (0 * d.sz + i) = ⟨g, i, none⟩ := by simp [Addr.add]; exact Eq.symm
  rw [e]
  simpa [hu] using this

/-- a row of two elements -/
theorem C_two {α : Type} {d : Kd α} {W : World} {g : Nat} {x y : α} {cs ds : List Value} {t : TypeId} (hb : W.heap[g]? = some (.cells ⟨cs ++ ds⟩ t (0, 0))) (hx : d.K W x cs) (hy : d.K W y ds) : d.C W (some ⟨g, 0, none⟩) 2 [x, y] := by
  have l1 := d.K_len hx
  have l2 := d.K_len hy
  refine ⟨rfl, by decide, fun _ => ⟨⟨g, 0, none⟩, rfl, fun j p hj => ?_⟩⟩
  have hat : ∀ i, (⟨g, 0, none⟩ : Addr).add i = ⟨g, i, none⟩ := fun i => add_plain g i
  match j, hj with
  | 0, hj =>
    cases hj
    refine ⟨cs, l1, hx, fun i u hu => ?_⟩
    have hi := (List.getElem?_eq_some_iff.1 hu).1
    have := blk_cell hb i
    rw [hat]
    rw [show 0 * d.sz + i = i by omega, this]
    simp [List.getElem?_append_left hi, hu]
  | 1, hj =>
    cases hj
    refine ⟨ds, l2, hy, fun i u hu => ?_⟩
    have := blk_cell hb (d.sz + i)
    rw [hat]
    rw [show 1 * d.sz + i = d.sz + i by omega, this, ← l1]
    simp only [List.getElem?_toArray]
    rw [List.getElem?_append_right (by omega), show cs.length + i - cs.length = i by omega, hu]

def exMI : S25 := ⟨2, ⟨#[97]⟩, ⟨#[49]⟩, [], []⟩
def exMK : S25 := ⟨1, ⟨#[97]⟩, ⟨#[120]⟩, [], []⟩
def exMN : S25 := ⟨7, ⟨#[]⟩, ⟨#[]⟩, [], [exMK]⟩
def exMA : S25 := ⟨5, ⟨#[]⟩, ⟨#[]⟩, [], [z25, exMN]⟩
def exML : List S68 := [⟨⟨#[98]⟩, ⟨#[50]⟩⟩]
theorem exM_chk : chkB exMA = true := by kernel_rfl
theorem exM_ev : evalB exML exMA = true := by kernel_rfl
theorem exM_evI : evalB exML exMI = true := by kernel_rfl
theorem exM_text : tB exMA = ⟨#[38, 40, 42, 44, 33, 40, 97, 61, 34, 120, 34, 41, 41]⟩ := by kernel_rfl
theorem k68_one (W : World) (x : S68) : k68.K W x [.string x.f0, .string x.f1] := k68.K_of_M (k68_mkM W 0 (fun _ => True) x)
theorem exEvalI (W : World) (A : Option Addr) (hC : Kd.C k68 W A 1 exML) : Calls Try.prog 55 #[.agg #[.int .i64 2, .string ⟨#[97]⟩, .string ⟨#[49]⟩, .slice none 0 0, .slice none 0 0], .slice A 1 1] W fun e w' => e = .returned (.bool true) ∧ Below W.heap.size W w' :=
  Eval55 W exMI none 0 none 0 A 1 exML true exM_evI (by decide) ⟨Nat.le_refl _, Kd.C_nil _ _, Nat.le_refl _, Kd.C_nil _ _⟩ (by decide) (by decide) hC
theorem exTextA (W : World) (A : Option Addr) (hM : MC W exMA none 0 A 2) : Calls Try.prog 61 #[.agg #[.int .i64 5, .string ⟨#[]⟩, .string ⟨#[]⟩, .slice none 0 0, .slice A 2 2]] W fun e w' => e = .returned (.string ⟨#[38, 40, 42, 44, 33, 40, 97, 61, 34, 120, 34, 41, 41]⟩) ∧ Below W.heap.size W w' := by
  have h := Text61 W exMA none 0 A 2 exM_chk hM
  rw [exM_text] at h
  exact h
theorem exCheckA (W : World) (A : Option Addr) (hM : MC W exMA none 0 A 2) : Calls Try.prog 53 #[.agg #[.int .i64 5, .string ⟨#[]⟩, .string ⟨#[]⟩, .slice none 0 0, .slice A 2 2]] W fun e w' => e = .returned (.bool true) ∧ Below W.heap.size W w' := check53v W exMA none 0 A 2 true exM_chk hM
theorem exEvalA (W : World) (A B : Option Addr) (hM : MC W exMA none 0 A 2) (hC : Kd.C k68 W B 1 exML) : Calls Try.prog 55 #[.agg #[.int .i64 5, .string ⟨#[]⟩, .string ⟨#[]⟩, .slice none 0 0, .slice A 2 2], .slice B 1 1] W fun e w' => e = .returned (.bool true) ∧ Below W.heap.size W w' :=
  Eval55 W exMA none 0 A 2 B 1 exML true exM_ev (by decide) hM (by decide) (by decide) hC
/-- the example in memory -/
theorem exM_world (w : World) : ∃ W : World, ((((w.alloc (.cells #[.string ⟨#[98]⟩, .string ⟨#[50]⟩] 68)).alloc (.cells #[.int .i64 1, .string ⟨#[97]⟩, .string ⟨#[120]⟩, .slice none 0 0, .slice none 0 0] 25)).alloc (.cells #[.int .i64 0, .string ⟨#[]⟩, .string ⟨#[]⟩, .slice none 0 0, .slice none 0 0, .int .i64 7, .string ⟨#[]⟩, .string ⟨#[]⟩, .slice none 0 0, .slice (some ⟨w.heap.size + 1, 0, none⟩) 1 1] 25)).alloc (.cells #[.int .i64 5, .string ⟨#[]⟩, .string ⟨#[]⟩, .slice none 0 0, .slice (some ⟨w.heap.size + 1 + 1, 0, none⟩) 2 2] 25)) = W ∧ Below w.heap.size w W ∧ Kd.C k68 W (some ⟨w.heap.size, 0, none⟩) exML.length exML ∧ MC W exMA none 0 (some ⟨w.heap.size + 1 + 1, 0, none⟩) 2 ∧
    BoxM W (w.heap.size + 1 + 1 + 1) 5 ⟨#[]⟩ ⟨#[]⟩ (.slice none 0 0) (.slice (some ⟨w.heap.size + 1 + 1, 0, none⟩) 2 2) := by
  refine ⟨_, rfl, below_alloc (below_alloc (below_alloc (below_alloc (Below.refl _ _) _) _) _) _, ?_, ?_, ?_⟩
  · have h := blk_new w (.cells #[.string ⟨#[98]⟩, .string ⟨#[50]⟩] 68)
    have hC : Kd.C k68 (w.alloc (.cells #[.string ⟨#[98]⟩, .string ⟨#[50]⟩] 68)) (some ⟨w.heap.size, 0, none⟩) 1 exML := C_one' h (k68_one _ ⟨⟨#[98]⟩, ⟨#[50]⟩⟩)
    exact Kd.C_alloc (Kd.C_alloc (Kd.C_alloc hC _) _) _
  · refine ⟨Nat.le_refl _, Kd.C_nil _ _, Nat.le_refl _, ?_⟩
    refine Kd.C_alloc ?_ _
    have h := blk_new ((w.alloc (.cells #[.string ⟨#[98]⟩, .string ⟨#[50]⟩] 68)).alloc (.cells #[.int .i64 1, .string ⟨#[97]⟩, .string ⟨#[120]⟩, .slice none 0 0, .slice none 0 0] 25)) (.cells #[.int .i64 0, .string ⟨#[]⟩, .string ⟨#[]⟩, .slice none 0 0, .slice none 0 0, .int .i64 7, .string ⟨#[]⟩, .string ⟨#[]⟩, .slice none 0 0, .slice (some ⟨w.heap.size + 1, 0, none⟩) 1 1] 25)
    have e : ((w.alloc (.cells #[.string ⟨#[98]⟩, .string ⟨#[50]⟩] 68)).alloc (.cells #[.int .i64 1, .string ⟨#[97]⟩, .string ⟨#[120]⟩, .slice none 0 0, .slice none 0 0] 25)).heap.size = w.heap.size + 1 + 1 := by simp
    rw [e] at h
    have hk := blk_new (w.alloc (.cells #[.string ⟨#[98]⟩, .string ⟨#[50]⟩] 68)) (.cells #[.int .i64 1, .string ⟨#[97]⟩, .string ⟨#[120]⟩, .slice none 0 0, .slice none 0 0] 25)
    rw [World.size_alloc] at hk
    have hK : Kd.C k25 ((w.alloc (.cells #[.string ⟨#[98]⟩, .string ⟨#[50]⟩] 68)).alloc (.cells #[.int .i64 1, .string ⟨#[97]⟩, .string ⟨#[120]⟩, .slice none 0 0, .slice none 0 0] 25)) (some ⟨w.heap.size + 1, 0, none⟩) 1 [exMK] :=
      C_one' hk (k25_mk _ exMK (Nat.le_refl _) (Kd.C_nil _ _) (Nat.le_refl _) (Kd.C_nil _ _))
    exact C_two (cs := [.int .i64 0, .string ⟨#[]⟩, .string ⟨#[]⟩, .slice none 0 0, .slice none 0 0]) (ds := [.int .i64 7, .string ⟨#[]⟩, .string ⟨#[]⟩, .slice none 0 0, .slice (some ⟨w.heap.size + 1, 0, none⟩) 1 1]) h
      (k25_mk _ z25 (Nat.le_refl _) (Kd.C_nil _ _) (Nat.le_refl _) (Kd.C_nil _ _)) (k25_mk _ exMN (Nat.le_refl _) (Kd.C_nil _ _) (Nat.le_refl _) (Kd.C_alloc hK _))
  · have h := blk_new (((w.alloc (.cells #[.string ⟨#[98]⟩, .string ⟨#[50]⟩] 68)).alloc (.cells #[.int .i64 1, .string ⟨#[97]⟩, .string ⟨#[120]⟩, .slice none 0 0, .slice none 0 0] 25)).alloc (.cells #[.int .i64 0, .string ⟨#[]⟩, .string ⟨#[]⟩, .slice none 0 0, .slice none 0 0, .int .i64 7, .string ⟨#[]⟩, .string ⟨#[]⟩, .slice none 0 0, .slice (some ⟨w.heap.size + 1, 0, none⟩) 1 1] 25)) (.cells #[.int .i64 5, .string ⟨#[]⟩, .string ⟨#[]⟩, .slice none 0 0, .slice (some ⟨w.heap.size + 1 + 1, 0, none⟩) 2 2] 25)
    rw [World.size_alloc, World.size_alloc, World.size_alloc] at h
    exact h

set_option maxRecDepth 100000 in
set_option maxHeartbeats 4000000 in
/-- varvelaw12.awake. -/
theorem awake52 (w : World) : Calls Try.prog 52 #[] w fun e w' => e = .returned (.bool true) ∧ Below w.heap.size w w' := by
  obtain ⟨W3, e3, hB, hL, hM, hX⟩ := exM_world w
  have E3 := Lib.hid e3
  clear e3
  go_enter Try.func52, Try.ntmps52
  go_wp2_with fail
  rw [E3.out]
  (with_reducible refine (exEvalI _ _ hL).mono ?_)
  rintro e w1 ⟨rfl, hb1⟩
  have hX1 := hX.below hb1
  have hB1 := below_step hB hb1
  have hM1 := hM.below hb1
  have hL1 := Kd.C_below hL hb1
  have c0 := hX1.c0
  have c1 := hX1.c1
  have c2 := hX1.c2
  have c3 := hX1.c3
  have c4 := hX1.c4
  clear hX hB hM hL hb1
  go_wp2_with fail
  (with_reducible refine (exTextA _ _ hM1).mono ?_)
  rintro e w2 ⟨rfl, hb2⟩
  have hX2 := hX1.below hb2
  have hB2 := below_step hB1 hb2
  have hM2 := hM1.below hb2
  have hL2 := Kd.C_below hL1 hb2
  have c0 := hX2.c0
  have c1 := hX2.c1
  have c2 := hX2.c2
  have c3 := hX2.c3
  have c4 := hX2.c4
  clear hX1 hB1 hM1 hL1 hb2
  go_wp2_with fail
  (with_reducible refine (exCheckA _ _ hM2).mono ?_)
  rintro e w3 ⟨rfl, hb3⟩
  have hX3 := hX2.below hb3
  have hB3 := below_step hB2 hb3
  have hM3 := hM2.below hb3
  have hL3 := Kd.C_below hL2 hb3
  have c0 := hX3.c0
  have c1 := hX3.c1
  have c2 := hX3.c2
  have c3 := hX3.c3
  have c4 := hX3.c4
  clear hX2 hB2 hM2 hL2 hb3
  go_wp2_with fail
  (with_reducible refine (exEvalA _ _ _ hM3 hL3).mono ?_)
  rintro e w4 ⟨rfl, hb4⟩
  go_wp2_with fail
  go_ret
  exact ⟨rfl, below_step hB3 hb4⟩
end Go.Proofs.Yteafilojjdfllaa
