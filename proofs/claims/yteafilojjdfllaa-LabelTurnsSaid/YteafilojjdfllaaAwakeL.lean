/- Own text: the label laws' example (awake). -/
import Derived.Test.YteafilojjdfllaaLabMake
import Derived.Test.YteafilojjdfllaaLabText
import Derived.Test.YteafilojjdfllaaPAllx6
namespace Go.Proofs.Yteafilojjdfllaa
open Go Go.RowKit Go.Sort Go.Proofs.YteafilojjdfllaaW.PrintWords Go.Proofs.YteafilojjdfllaaW.PrintLast Go.Proofs.YteafilojjdfllaaW.PrintMore Go.Proofs.Yteafilojjdfllaa.PAll
set_option linter.unusedSimpArgs false

def exM : List S68 := [⟨⟨#[98]⟩, ⟨#[50]⟩⟩, ⟨⟨#[97]⟩, ⟨#[49]⟩⟩, ⟨⟨#[99]⟩, ⟨#[]⟩⟩]
def exS : List S68 := [⟨⟨#[97]⟩, ⟨#[49]⟩⟩, ⟨⟨#[98]⟩, ⟨#[50]⟩⟩]
theorem ex_make : makeS exM = some exS := by kernel_rfl
theorem ex_chk : chkS exS = true := by kernel_rfl
theorem ex_ok : ∀ x ∈ exS, okS x = true := by
  intro x hx
  simp only [exS, List.mem_cons, List.not_mem_nil, or_false] at hx
  rcases hx with rfl | rfl <;> kernel_rfl
theorem ex_text : textB exS = ⟨#[97, 61, 34, 49, 34, 44, 98, 61, 34, 50, 34]⟩ := by kernel_rfl
theorem ex_value : label_Value.f 5 exS ⟨#[98]⟩ = some ⟨#[50]⟩ := by kernel_rfl
theorem ex_name : nameB ⟨#[57]⟩ = false := by kernel_rfl
theorem exMake (w : World) (A : Option Addr) (c : Nat) (hC : Kd.C k68 w A 3 exM) : Calls Try.prog 69 #[.slice A 3 c] w fun e w' => (∃ D d, e = .returned (.tuple #[.slice D 2 d, .int .i64 0]) ∧ 2 ≤ d ∧ Kd.C k68 w' D 2 exS) ∧ Below w.heap.size w w' := by
  have h := make69s w exM A c (by decide) (by decide) hC
  rw [ex_make] at h
  exact h
theorem exText (w : World) (A : Option Addr) (c : Nat) (hC : Kd.C k68 w A 2 exS) : Calls Try.prog 79 #[.slice A 2 c] w fun e w' => e = .returned (.string ⟨#[97, 61, 34, 49, 34, 44, 98, 61, 34, 50, 34]⟩) ∧ Below w.heap.size w w' := by
  have h := text79 w exS A c (by decide) ex_ok hC
  rw [ex_text] at h
  exact h
theorem exValue (w : World) (A : Option Addr) (c : Nat) (hc : 2 ≤ c) (hC : Kd.C k68 w A 2 exS) : Calls Try.prog 65 #[.slice A 2 c, .string ⟨#[98]⟩] w fun e w' => e = .returned (.string ⟨#[50]⟩) ∧ Below w.heap.size w w' :=
  label_Value.calls 5 A c exS ⟨#[98]⟩ _ w hC hc ex_value
theorem exCheckL (w : World) (A : Option Addr) (c : Nat) (hC : Kd.C k68 w A 2 exS) : Calls Try.prog 62 #[.slice A 2 c] w fun e w' => e = .returned (.bool true) ∧ Below w.heap.size w w' := by
  have h := check62 w exS A c hC
  rw [ex_chk] at h
  exact h
theorem exName (w : World) : Calls Try.prog 63 #[.string ⟨#[57]⟩] w fun e w' => e = .returned (.bool false) ∧ Below w.heap.size w w' :=
  (name63d w _ false ex_name).mono fun _ _ ⟨he, n, hn⟩ => ⟨he, by rw [hn]; exact pw_below_drewN (Below.refl _ _) n⟩
theorem C_exM (w : World) : Kd.C k68 (w.alloc (.cells #[.string ⟨#[98]⟩, .string ⟨#[50]⟩, .string ⟨#[97]⟩, .string ⟨#[49]⟩, .string ⟨#[99]⟩, .string ⟨#[]⟩] 68)) (some ⟨w.heap.size, 0, none⟩) 3 exM := by
  have h := World.ownsRow_lit (base := w.heap.size) (e := 68) (size := 2) w #[.string ⟨#[98]⟩, .string ⟨#[50]⟩, .string ⟨#[97]⟩, .string ⟨#[49]⟩, .string ⟨#[99]⟩, .string ⟨#[]⟩] 3 (Nat.le_refl _) (by decide) rfl
  have h2 := C_of_holds (d := exM.toArray) (holds_of_own (l := exM) (cap := 3) h) (by decide)
  exact h2
set_option maxRecDepth 100000 in
set_option maxHeartbeats 4000000 in
/-- varvelaw11.awake. -/
theorem awake68 (w : World) : Calls Try.prog 68 #[] w fun e w' => e = .returned (.bool true) ∧ Below w.heap.size w w' := by
  go_enter Try.func68, Try.ntmps68
  go_wp2_with fail
  (with_reducible refine (exMake _ _ _ (C_exM w)).mono ?_)
  rintro e w1 ⟨⟨D, d, rfl, hd, hC⟩, hb1⟩
  have HB1 := Lib.hid (below_step (below_alloc (Below.refl _ _) _) hb1)
  have HC := Lib.hid hC
  clear hb1 hC
  go_wp2_with fail
  (with_reducible refine (exText _ D d HC.out).mono ?_)
  rintro e w2 ⟨rfl, hb2⟩
  have HB2 := Lib.hid (below_step HB1.out hb2)
  have HC2 := Lib.hid (Kd.C_below HC.out hb2)
  go_wp2_with fail
  (with_reducible refine (exValue _ D d hd HC2.out).mono ?_)
  rintro e w3 ⟨rfl, hb3⟩
  have HB3 := Lib.hid (below_step HB2.out hb3)
  have HC3 := Lib.hid (Kd.C_below HC2.out hb3)
  go_wp2_with fail
  (with_reducible refine (exCheckL _ D d HC3.out).mono ?_)
  rintro e w4 ⟨rfl, hb4⟩
  have HB4 := Lib.hid (below_step HB3.out hb4)
  go_wp2_with fail
  (with_reducible refine (exName _).mono ?_)
  rintro e w5 ⟨rfl, hb5⟩
  go_wp2
  go_ret
  exact ⟨rfl, below_step HB4.out hb5⟩
end Go.Proofs.Yteafilojjdfllaa
