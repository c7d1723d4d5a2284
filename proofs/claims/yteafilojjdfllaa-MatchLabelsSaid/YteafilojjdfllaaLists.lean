/- Own text: lists of labels, buckets, hashes in new memory. -/
import Derived.Test.YteafilojjdfllaaCopy
namespace Go.Proofs.Yteafilojjdfllaa
open Go Go.RowKit Go.Proofs.YteafilojjdfllaaW.PrintWords Go.Proofs.YteafilojjdfllaaW.PrintLast Go.Proofs.YteafilojjdfllaaW.PrintMore Go.Proofs.Yteafilojjdfllaa.PAll
set_option linter.unusedVariables false
set_option linter.unusedSimpArgs false

theorem infoL : (Try.prog.info? 68).map (fun i => (i.zero, i.size, i.bytes)) = some (some (.agg #[.string ⟨#[]⟩, .string ⟨#[]⟩]), 2, 32) := by kernel_rfl
theorem infoB : (Try.prog.info? 181).map (fun i => (i.zero, i.size, i.bytes)) = some (some (.agg #[.int .i64 0, .int .u64 0]), 2, 16) := by kernel_rfl
theorem infoN : (Try.prog.info? 31).map (fun i => (i.zero, i.size, i.bytes)) = some (some (.int .u64 0), 1, 8) := by kernel_rfl

/-- it reads so in every world that has these blocks -/
def LF {α : Type} (d : Kd α) (W : World) (S : Nat → Prop) (A : Option Addr) (c : Nat) (xs : List α) : Prop :=
  ∀ X : World, (∀ b, S b → X.heap[b]? = W.heap[b]?) → xs.length ≤ c ∧ d.C X A xs.length xs
theorem LF.now {α : Type} {d : Kd α} {W : World} {S : Nat → Prop} {A : Option Addr} {c : Nat} {xs : List α} (h : LF d W S A c xs) : xs.length ≤ c ∧ d.C W A xs.length xs := h W (fun _ _ => rfl)
theorem LF.move {α : Type} {d : Kd α} {W Y : World} {S T : Nat → Prop} {A : Option Addr} {c : Nat} {xs : List α} (h : LF d W S A c xs) (hS : ∀ b, S b → T b ∧ Y.heap[b]? = W.heap[b]?) : LF d Y T A c xs :=
  fun X hX => h X (fun b hb => (hX b (hS b hb).1).trans (hS b hb).2)
/-- a list in new memory -/
def ListPost {α : Type} (d : Kd α) (w : World) (xs : List α) (e : Ending) (w' : World) : Prop :=
  ∃ A c, e = .returned (.slice A xs.length c) ∧ LF d w' (fun b => w.heap.size ≤ b ∧ b < w'.heap.size) A c xs ∧ Below w.heap.size w w'
theorem ListPost.of {α : Type} {d : Kd α} {e : Nat} {w w' : World} {xs : List α} {v : Value} (h : d.R e w' w.heap.size (fun k => w.heap.size ≤ k) v xs) (_hb : Below w.heap.size w w') : ∃ A c, v = .slice A xs.length c ∧ LF d w' (fun b => w.heap.size ≤ b ∧ b < w'.heap.size) A c xs := by
  obtain ⟨A, c, hv, hc, hC⟩ := Kd.R_reads h
  refine ⟨A, c, hv, fun X hX => ?_⟩
  have h2 : d.R e X w.heap.size (fun k => w.heap.size ≤ k) v xs := Kd.R_step h (fun k h1 h2 => hX k ⟨h1, h2⟩)
  obtain ⟨A', c', hv', hc', hC'⟩ := Kd.R_reads h2
  rw [hv] at hv'
  cases hv'
  exact ⟨hc', hC'⟩

set_option maxRecDepth 100000 in
set_option maxHeartbeats 2000000 in
theorem list56 (w : World) (A : Option Addr) (c : Nat) (xs : List S68) (hl : xs.length * 32 ≤ 140737488355328) (hc : xs.length ≤ c) (hC : Kd.C k68 w A xs.length xs) :
    Calls Try.prog 56 #[.slice A xs.length c] w (ListPost k68 w xs) := by
  have HC := Lib.hid hC
  clear hC
  go_enter Try.func56, Try.ntmps56
  go_wp2_with (at_builtin; refine Kd.R_append_rows k68 (Rr := Kd.K k68 w) (w0 := w) (W := w) w.heap.size rfl (.const (.slice none 0 0)) (.tmp 3) 28 68 (.agg #[.string ⟨#[]⟩, .string ⟨#[]⟩]) 32 rfl Try.underlying28 infoL rfl (by decide) (by decide) (.slice none 0 0) [] xs A xs.length c (fun k => w.heap.size ≤ k) (fun k => w.heap.size ≤ k) rfl rfl (Kd.R_nil _ _ _ _ _) HC.out (fun x cs h => by rw [k68_open h]; exact k68_mkM _ _ _ x) (fun k hk => ⟨hk, by simp [Value.ownBlock]⟩) (fun k hk => hk) (Below.refl _ _) (Nat.le_refl _) (by simpa using hl) ?_; intro v1 w1 hown1 hbel1 hg1 hat1; obtain ⟨Av, cv, rfl, hLF⟩ := ListPost.of hown1 hbel1; have HLF := Lib.hid hLF; clear hLF)
  go_ret
  exact ⟨Av, cv, by simp, HLF.out, hbel1⟩

set_option maxRecDepth 100000 in
set_option maxHeartbeats 2000000 in
theorem list153 (w : World) (A : Option Addr) (c : Nat) (xs : List S68) (hl : xs.length * 32 ≤ 140737488355328) (hc : xs.length ≤ c) (hC : Kd.C k68 w A xs.length xs) :
    Calls Try.prog 153 #[.slice A xs.length c] w (ListPost k68 w xs) := by
  have HC := Lib.hid hC
  clear hC
  go_enter Try.func153, Try.ntmps153
  go_wp2_with (at_builtin; refine Kd.R_append_rows k68 (Rr := Kd.K k68 w) (w0 := w) (W := w) w.heap.size rfl (.const (.slice none 0 0)) (.tmp 3) 28 68 (.agg #[.string ⟨#[]⟩, .string ⟨#[]⟩]) 32 rfl Try.underlying28 infoL rfl (by decide) (by decide) (.slice none 0 0) [] xs A xs.length c (fun k => w.heap.size ≤ k) (fun k => w.heap.size ≤ k) rfl rfl (Kd.R_nil _ _ _ _ _) HC.out (fun x cs h => by rw [k68_open h]; exact k68_mkM _ _ _ x) (fun k hk => ⟨hk, by simp [Value.ownBlock]⟩) (fun k hk => hk) (Below.refl _ _) (Nat.le_refl _) (by simpa using hl) ?_; intro v1 w1 hown1 hbel1 hg1 hat1; obtain ⟨Av, cv, rfl, hLF⟩ := ListPost.of hown1 hbel1; have HLF := Lib.hid hLF; clear hLF)
  go_ret
  exact ⟨Av, cv, by simp, HLF.out, hbel1⟩

set_option maxRecDepth 100000 in
set_option maxHeartbeats 2000000 in
theorem list150 (w : World) (A : Option Addr) (c : Nat) (xs : List S181) (hl : xs.length * 16 ≤ 140737488355328) (hc : xs.length ≤ c) (hC : Kd.C k181 w A xs.length xs) :
    Calls Try.prog 150 #[.slice A xs.length c] w (ListPost k181 w xs) := by
  have HC := Lib.hid hC
  clear hC
  go_enter Try.func150, Try.ntmps150
  go_wp2_with (at_builtin; refine Kd.R_append_rows k181 (Rr := Kd.K k181 w) (w0 := w) (W := w) w.heap.size rfl (.const (.slice none 0 0)) (.tmp 3) 29 181 (.agg #[.int .i64 0, .int .u64 0]) 16 rfl Try.underlying29 infoB rfl (by decide) (by decide) (.slice none 0 0) [] xs A xs.length c (fun k => w.heap.size ≤ k) (fun k => w.heap.size ≤ k) rfl rfl (Kd.R_nil _ _ _ _ _) HC.out (fun x cs h => by rw [k181_open h]; exact k181_mkM _ _ _ x) (fun k hk => ⟨hk, by simp [Value.ownBlock]⟩) (fun k hk => hk) (Below.refl _ _) (Nat.le_refl _) (by simpa using hl) ?_; intro v1 w1 hown1 hbel1 hg1 hat1; obtain ⟨Av, cv, rfl, hLF⟩ := ListPost.of hown1 hbel1; have HLF := Lib.hid hLF; clear hLF)
  go_ret
  exact ⟨Av, cv, by simp, HLF.out, hbel1⟩

set_option maxRecDepth 100000 in
set_option maxHeartbeats 2000000 in
theorem list154 (w : World) (A : Option Addr) (c : Nat) (xs : List S181) (hl : xs.length * 16 ≤ 140737488355328) (hc : xs.length ≤ c) (hC : Kd.C k181 w A xs.length xs) :
    Calls Try.prog 154 #[.slice A xs.length c] w (ListPost k181 w xs) := by
  have HC := Lib.hid hC
  clear hC
  go_enter Try.func154, Try.ntmps154
  go_wp2_with (at_builtin; refine Kd.R_append_rows k181 (Rr := Kd.K k181 w) (w0 := w) (W := w) w.heap.size rfl (.const (.slice none 0 0)) (.tmp 3) 29 181 (.agg #[.int .i64 0, .int .u64 0]) 16 rfl Try.underlying29 infoB rfl (by decide) (by decide) (.slice none 0 0) [] xs A xs.length c (fun k => w.heap.size ≤ k) (fun k => w.heap.size ≤ k) rfl rfl (Kd.R_nil _ _ _ _ _) HC.out (fun x cs h => by rw [k181_open h]; exact k181_mkM _ _ _ x) (fun k hk => ⟨hk, by simp [Value.ownBlock]⟩) (fun k hk => hk) (Below.refl _ _) (Nat.le_refl _) (by simpa using hl) ?_; intro v1 w1 hown1 hbel1 hg1 hat1; obtain ⟨Av, cv, rfl, hLF⟩ := ListPost.of hown1 hbel1; have HLF := Lib.hid hLF; clear hLF)
  go_ret
  exact ⟨Av, cv, by simp, HLF.out, hbel1⟩

set_option maxRecDepth 100000 in
set_option maxHeartbeats 2000000 in
theorem list151 (w : World) (A : Option Addr) (c : Nat) (xs : List Int) (hl : xs.length * 8 ≤ 140737488355328) (hc : xs.length ≤ c) (hC : Kd.C (Kd.int .u64) w A xs.length xs) :
    Calls Try.prog 151 #[.slice A xs.length c] w (ListPost (Kd.int .u64) w xs) := by
  have HC := Lib.hid hC
  clear hC
  go_enter Try.func151, Try.ntmps151
  go_wp2_with (at_builtin; refine Kd.R_append_rows (Kd.int .u64) (Rr := Kd.K (Kd.int .u64) w) (w0 := w) (W := w) w.heap.size rfl (.const (.slice none 0 0)) (.tmp 3) 30 31 (.int .u64 0) 8 rfl Try.underlying30 infoN rfl (by decide) (by decide) (.slice none 0 0) [] xs A xs.length c (fun k => w.heap.size ≤ k) (fun k => w.heap.size ≤ k) rfl rfl (Kd.R_nil _ _ _ _ _) HC.out (fun x cs h => h) (fun k hk => ⟨hk, by simp [Value.ownBlock]⟩) (fun k hk => hk) (Below.refl _ _) (Nat.le_refl _) (by simpa using hl) ?_; intro v1 w1 hown1 hbel1 hg1 hat1; obtain ⟨Av, cv, rfl, hLF⟩ := ListPost.of hown1 hbel1; have HLF := Lib.hid hLF; clear hLF)
  go_ret
  exact ⟨Av, cv, by simp, HLF.out, hbel1⟩

set_option maxRecDepth 100000 in
set_option maxHeartbeats 2000000 in
theorem list155 (w : World) (A : Option Addr) (c : Nat) (xs : List Int) (hl : xs.length * 8 ≤ 140737488355328) (hc : xs.length ≤ c) (hC : Kd.C (Kd.int .u64) w A xs.length xs) :
    Calls Try.prog 155 #[.slice A xs.length c] w (ListPost (Kd.int .u64) w xs) := by
  have HC := Lib.hid hC
  clear hC
  go_enter Try.func155, Try.ntmps155
  go_wp2_with (at_builtin; refine Kd.R_append_rows (Kd.int .u64) (Rr := Kd.K (Kd.int .u64) w) (w0 := w) (W := w) w.heap.size rfl (.const (.slice none 0 0)) (.tmp 3) 30 31 (.int .u64 0) 8 rfl Try.underlying30 infoN rfl (by decide) (by decide) (.slice none 0 0) [] xs A xs.length c (fun k => w.heap.size ≤ k) (fun k => w.heap.size ≤ k) rfl rfl (Kd.R_nil _ _ _ _ _) HC.out (fun x cs h => h) (fun k hk => ⟨hk, by simp [Value.ownBlock]⟩) (fun k hk => hk) (Below.refl _ _) (Nat.le_refl _) (by simpa using hl) ?_; intro v1 w1 hown1 hbel1 hg1 hat1; obtain ⟨Av, cv, rfl, hLF⟩ := ListPost.of hown1 hbel1; have HLF := Lib.hid hLF; clear hLF)
  go_ret
  exact ⟨Av, cv, by simp, HLF.out, hbel1⟩
end Go.Proofs.Yteafilojjdfllaa
