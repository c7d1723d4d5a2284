/- Own text: a set of one label: whether it may be; leaves over it. -/
import Derived.Test.YteafilojjdfllaaMatB
import Derived.Test.YteafilojjdfllaaLabChkR
namespace Go.Proofs.Yteafilojjdfllaa
open Go Go.RowKit Go.Proofs.YteafilojjdfllaaW.PrintWords Go.Proofs.YteafilojjdfllaaW.PrintLast Go.Proofs.YteafilojjdfllaaW.PrintMore Go.Proofs.Yteafilojjdfllaa.PAll
set_option linter.unusedSimpArgs false

def labOne (n v : ByteArray) : Bool := nameB n && decide (1 ≤ v.size ∧ v.size ≤ 64)
theorem chk_one (n v : ByteArray) : chkS [⟨n, v⟩] = labOne n v := by
  unfold chkS labOne okS
  simp [risesN]
theorem check58one (w : World) (n v : ByteArray) (A : Option Addr) (c : Nat) (hn : n.size ≤ 140737488351232) (_hc : 1 ≤ c) (hC : Kd.C k68 w A 1 [⟨n, v⟩]) :
    Calls Try.prog 58 #[.slice A 1 c] w fun e w' => e = .returned (.bool (labOne n v)) ∧ Below w.heap.size w w' := by
  have h := check58 w [⟨n, v⟩] A c (by simp) (fun x hx => by rw [List.mem_singleton] at hx; rw [hx]; exact hn) hC
  rw [chk_one] at h
  exact h
/-- leaves of a name that may be and a text of at most 64 bytes may be -/
theorem leaf_ok (op : Int) (h : op = 1 ∨ op = 2 ∨ op = 3) (n p : ByteArray) (hn : nameB n = true) (hp : p.size ≤ 64) : chkB ⟨op, n, p, [], []⟩ = true := by
  have hs : n.size ≤ 32 := by
    unfold nameB at hn
    rw [Bool.and_eq_true, decide_eq_true_iff] at hn
    exact hn.1.2.1
  unfold chkB
  rw [chk_def]
  refine ⟨?_, ?_, ?_, ?_⟩
  · unfold okM aloneB
    simp only
    rw [if_neg (by omega), if_pos h, hn, decide_eq_true ⟨hp, rfl, rfl⟩]
    rfl
  · simp [depthM, depthL]
  · simp [nodesM, nodesL]
  · simp [bytesM, bytesL, sizes]; omega
theorem valueL_one (n v : ByteArray) : valueL n [⟨n, v⟩] = v := by simp [valueL]
theorem eval_is (n v p : ByteArray) (hn : nameB n = true) (hp : p.size ≤ 64) : evalB [⟨n, v⟩] ⟨1, n, p, [], []⟩ = (v.toList == p.toList) := by
  unfold evalB
  rw [leaf_ok 1 (by simp) n p hn hp, Bool.true_and]
  unfold evalM
  rw [if_neg (by decide), if_pos rfl, valueL_one]
theorem eval_isnt (n v p : ByteArray) (hn : nameB n = true) (hp : p.size ≤ 64) : evalB [⟨n, v⟩] ⟨2, n, p, [], []⟩ = (v.toList != p.toList) := by
  unfold evalB
  rw [leaf_ok 2 (by simp) n p hn hp, Bool.true_and]
  unfold evalM
  rw [if_neg (by decide), if_neg (by decide), if_pos rfl, valueL_one]
theorem eval_begins (n v p : ByteArray) (hn : nameB n = true) (hp : p.size ≤ 64) : evalB [⟨n, v⟩] ⟨3, n, p, [], []⟩ = prefB v p := by
  unfold evalB
  rw [leaf_ok 3 (by simp) n p hn hp, Bool.true_and]
  unfold evalM
  rw [if_neg (by decide), if_neg (by decide), if_neg (by decide), if_pos rfl, valueL_one]
theorem eval_among (n v : ByteArray) (vs : List ByteArray) (h : chkB ⟨4, n, ⟨#[]⟩, vs, []⟩ = true) : evalB [⟨n, v⟩] ⟨4, n, ⟨#[]⟩, vs, []⟩ = vs.any (fun u => decide (u.toList = v.toList)) := by
  unfold evalB
  rw [h, Bool.true_and]
  unfold evalM
  rw [if_neg (by decide), if_neg (by decide), if_neg (by decide), if_neg (by decide), if_pos rfl, valueL_one]
end Go.Proofs.Yteafilojjdfllaa
