/- Own text: what the label laws lean on: a set in new memory, the same set, a name's value. -/
import Derived.Test.YteafilojjdfllaaLabChkR
import Derived.Test.YteafilojjdfllaaPAllx6
import Derived.Test.YteafilojjdfllaaPAllx9
namespace Go.Proofs.Yteafilojjdfllaa.Lb
open Go Go.RowKit Go.Proofs.YteafilojjdfllaaW.PrintWords Go.Proofs.YteafilojjdfllaaW.PrintLast Go.Proofs.YteafilojjdfllaaW.PrintMore Go.Proofs.Yteafilojjdfllaa.PAll
set_option linter.unusedVariables false
set_option linter.unusedSimpArgs false

theorem infoL : (Try.prog.info? 68).map (fun i => (i.zero, i.size, i.bytes)) = some (some (.agg #[.string ⟨#[]⟩, .string ⟨#[]⟩]), 2, 32) := by kernel_rfl
/-- it reads so in every world that has these blocks -/
def LF {α : Type} (d : Kd α) (W : World) (S : Nat → Prop) (A : Option Addr) (c : Nat) (xs : List α) : Prop :=
  ∀ X : World, (∀ b, S b → X.heap[b]? = W.heap[b]?) → xs.length ≤ c ∧ d.C X A xs.length xs
theorem LF.now {α : Type} {d : Kd α} {W : World} {S : Nat → Prop} {A : Option Addr} {c : Nat} {xs : List α} (h : LF d W S A c xs) : xs.length ≤ c ∧ d.C W A xs.length xs := h W (fun _ _ => rfl)
theorem LF.move {α : Type} {d : Kd α} {W Y : World} {S T : Nat → Prop} {A : Option Addr} {c : Nat} {xs : List α} (h : LF d W S A c xs) (hS : ∀ b, S b → T b ∧ Y.heap[b]? = W.heap[b]?) : LF d Y T A c xs :=
  fun X hX => h X (fun b hb => (hX b (hS b hb).1).trans (hS b hb).2)
/-- a list in new memory -/
def ListPost {α : Type} (d : Kd α) (w : World) (xs : List α) (e : Ending) (w' : World) : Prop :=
  ∃ A c, e = .returned (.slice A xs.length c) ∧ LF d w' (fun b => w.heap.size ≤ b ∧ b < w'.heap.size) A c xs ∧ Below w.heap.size w w'
theorem ListPost.of {α : Type} {d : Kd α} {e : Nat} {w w' : World} {xs : List α} {v : Value} (h : d.R e w' w.heap.size (fun k => w.heap.size ≤ k) v xs) (_hb : Below w.heap.size w w') : ∃ A c, v = .slice A xs.length c ∧ LF d w' (fun b => w.heap.size ≤ b ∧ b < w'.heap.size) A c xs := by
  obtain ⟨A, c, hv, hc, hC⟩ := Kd.R_reads h
  refine ⟨A, c, hv, fun X hX => ?_⟩
  have h2 : d.R e X w.heap.size (fun k => w.heap.size ≤ k) v xs := Kd.R_step h (fun k h1 h2 => hX k ⟨h1, h2⟩)
  obtain ⟨A', c', hv', hc', hC'⟩ := Kd.R_reads h2
  rw [hv] at hv'
  cases hv'
  exact ⟨hc', hC'⟩
set_option maxRecDepth 100000 in
set_option maxHeartbeats 2000000 in
theorem list56 (w : World) (A : Option Addr) (c : Nat) (xs : List S68) (hl : xs.length * 32 ≤ 140737488355328) (hc : xs.length ≤ c) (hC : Kd.C k68 w A xs.length xs) :
    Calls Try.prog 56 #[.slice A xs.length c] w (ListPost k68 w xs) := by
  have HC := Lib.hid hC
  clear hC
  go_enter Try.func56, Try.ntmps56
  go_wp2_with (at_builtin; refine Kd.R_append_rows k68 (Rr := Kd.K k68 w) (w0 := w) (W := w) w.heap.size rfl (.const (.slice none 0 0)) (.tmp 3) 28 68 (.agg #[.string ⟨#[]⟩, .string ⟨#[]⟩]) 32 rfl Try.underlying28 infoL rfl (by decide) (by decide) (.slice none 0 0) [] xs A xs.length c (fun k => w.heap.size ≤ k) (fun k => w.heap.size ≤ k) rfl rfl (Kd.R_nil _ _ _ _ _) HC.out (fun x cs h => by rw [k68_open h]; exact k68_mkM _ _ _ x) (fun k hk => ⟨hk, by simp [Value.ownBlock]⟩) (fun k hk => hk) (Below.refl _ _) (Nat.le_refl _) (by simpa using hl) ?_; intro v1 w1 hown1 hbel1 hg1 hat1; obtain ⟨Av, cv, rfl, hLF⟩ := ListPost.of hown1 hbel1; have HLF := Lib.hid hLF; clear hLF)
  go_ret
  exact ⟨Av, cv, by simp, HLF.out, hbel1⟩

set_option maxRecDepth 100000 in
set_option maxHeartbeats 4000000 in
theorem sameLab67 (w : World) (l : List S68) (A : Option Addr) (c : Nat) (B : Option Addr) (d : Nat) (hl : l.length ≤ 4000000000000000000)
    (hC : Kd.C k68 w A l.length l) (hD : Kd.C k68 w B l.length l) :
    Calls Try.prog 67 #[.slice A l.length c, .slice B l.length d] w fun e w' => e = .returned (.bool true) ∧ Below w.heap.size w w' := by
  have HC := Lib.hid hC
  have HD := Lib.hid hD
  clear hC hD
  have hq : (l.length == l.length) = true := beq_self_eq_true _
  go_enter Try.func67, Try.ntmps67
  go_wp2
  go_loopw [5] (fun u5 wr => ∃ (j : Nat), u5 = .int .i64 j ∧ j ≤ l.length ∧ Below w.heap.size w wr)
    (fun u5 _ => l.length - (intOf u5).toNat)
  case atStart => exact ⟨0, rfl, Nat.zero_le _, by repeat (first | exact Below.refl _ _ | apply pw_below_drewN | apply below_drew)⟩
  case round =>
    obtain ⟨j, rfl, hj, hB⟩ := hrel
    by_cases hlt : j < l.length
    · obtain ⟨ad, rfl, a0, a1⟩ := at_T68 (Kd.C_below HC.out hB) (j : Int) (by omega) (by omega)
      obtain ⟨ad2, rfl, b0, b1⟩ := at_T68 (Kd.C_below HD.out hB) (j : Int) (by omega) (by omega)
      simp only [Int.toNat_natCast] at a0 a1 b0 b1
      go_wp2
      repeat (go_quiet (fail); try go_wp2)
      go_roundw
      case rel => exact ⟨j + 1, by go_num, by omega, by repeat (first | exact hB | apply pw_below_drewN | apply below_drew)⟩
      case measure => simp [intOf]; omega
    · obtain rfl : j = l.length := by omega
      go_wp2
      go_ret
      exact ⟨rfl, by repeat (first | exact hB | apply pw_below_drewN | apply below_drew)⟩

/-- a name's value -/
def valueL (n : ByteArray) : List S68 → ByteArray
  | [] => ⟨#[]⟩
  | x :: l => if x.f0.toList = n.toList then x.f1 else valueL n l
theorem ldrop (l : List S68) (i : Nat) (h : i < l.length) : l.drop i = l.getD i z68 :: l.drop (i + 1) := by
  rw [List.drop_eq_getElem_cons h, List.getD_eq_getElem?_getD, List.getElem?_eq_getElem h, Option.getD_some]
theorem rdT68_nat (l : List S68) (i : Nat) : rd_T68 l (i : Int) = l.getD i z68 := by simp [rd_T68]
theorem value_l0 (l : List S68) (n : ByteArray) (hl : l.length ≤ 4000000000000000000) : ∀ (d i k : Nat), i ≤ l.length → l.length ≤ i + d → d < k → label_Value.l0 k n l (l.length : Int) (i : Int) = some (valueL n (l.drop i))
  | d, i, 0, _, _, h => by omega
  | d, i, k + 1, hi, hd, hk => by
    simp only [label_Value.l0, w64s i (by omega), rdT68_nat]
    by_cases hlt : i < l.length
    · have ih := value_l0 l n hl (d - 1) (i + 1) k (by omega) (by omega) (by omega)
      rw [if_pos (by omega), if_pos (by omega), if_pos (by omega), ldrop l i hlt, valueL, ih]
      split <;> rfl
    · rw [if_neg (by omega), List.drop_of_length_le (by omega), valueL]
theorem label_Value.val (l : List S68) (n : ByteArray) (hl : l.length ≤ 4000000000000000000) (k : Nat) (hk : l.length < k) : label_Value.f k l n = some (valueL n l) := by
  have := value_l0 l n hl l.length 0 k (by omega) (by omega) hk
  simpa [label_Value.f] using this
theorem rvalue_l0 (l : List S68) (n : ByteArray) (hl : l.length ≤ 4000000000000000000) : ∀ (d i k : Nat), i ≤ l.length → l.length ≤ i + d → d < k → varveref11_Value.l0 k l n (i : Int) = some (valueL n (l.drop i))
  | d, i, 0, _, _, h => by omega
  | d, i, k + 1, hi, hd, hk => by
    simp only [varveref11_Value.l0, w64s i (by omega), rdT68_nat]
    by_cases hlt : i < l.length
    · have ih := rvalue_l0 l n hl (d - 1) (i + 1) k (by omega) (by omega) (by omega)
      rw [if_pos (by omega), if_pos (by omega), ldrop l i hlt, valueL, ih]
      split <;> rfl
    · rw [if_neg (by omega), List.drop_of_length_le (by omega), valueL]
theorem varveref11_Value.val (l : List S68) (n : ByteArray) (hl : l.length ≤ 4000000000000000000) (k : Nat) (hk : l.length < k) : varveref11_Value.f k l n = some (valueL n l) := by
  have := rvalue_l0 l n hl l.length 0 k (by omega) (by omega) hk
  simpa [varveref11_Value.f] using this


theorem value65 (w : World) (l : List S68) (n : ByteArray) (A : Option Addr) (c : Nat) (hl : l.length ≤ 4000000000000000000) (hc : l.length ≤ c) (hC : Kd.C k68 w A l.length l) : Calls Try.prog 65 #[.slice A l.length c, .string n] w fun e w' => e = .returned (.string (valueL n l)) ∧ Below w.heap.size w w' :=
  label_Value.calls (l.length + 1) A c l n _ w hC hc (Lb.label_Value.val l n hl _ (Nat.lt_succ_self _))
theorem value66 (w : World) (l : List S68) (n : ByteArray) (A : Option Addr) (c : Nat) (hl : l.length ≤ 4000000000000000000) (hc : l.length ≤ c) (hC : Kd.C k68 w A l.length l) : Calls Try.prog 66 #[.slice A l.length c, .string n] w fun e w' => e = .returned (.string (valueL n l)) ∧ ∃ m, w' = w.drewN m :=
  (varveref11_Value.calls (l.length + 1) A c l n _ w hC hc (Lb.varveref11_Value.val l n hl _ (Nat.lt_succ_self _))).mono fun _ _ ⟨he, n, hn⟩ => ⟨he, n, hn⟩
end Go.Proofs.Yteafilojjdfllaa.Lb
