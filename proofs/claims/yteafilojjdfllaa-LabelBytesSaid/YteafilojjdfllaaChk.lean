/- Own text: what a matcher has, and whether it may be: plain. -/
import Derived.Test.YteafilojjdfllaaPAllx0
namespace Go.Proofs.Yteafilojjdfllaa
open Go Go.Proofs.Yteafilojjdfllaa.PAll

mutual
def nodesM : S25 → Nat
  | ⟨_, _, _, _, ks⟩ => 1 + nodesL ks
def nodesL : List S25 → Nat
  | [] => 0
  | k :: ks => nodesM k + nodesL ks
end
def sizes : List ByteArray → Nat
  | [] => 0
  | v :: vs => v.size + sizes vs
mutual
def bytesM : S25 → Nat
  | ⟨_, n, v, vs, ks⟩ => n.size + v.size + sizes vs + bytesL ks
def bytesL : List S25 → Nat
  | [] => 0
  | k :: ks => bytesM k + bytesL ks
end
mutual
def depthM : S25 → Nat
  | ⟨_, _, _, _, ks⟩ => 1 + depthL ks
def depthL : List S25 → Nat
  | [] => 0
  | k :: ks => max (depthM k) (depthL ks)
end

/-- a name -/
def nameC (c : UInt8) : Bool := decide ((97 ≤ (c.toNat : Int) ∧ (c.toNat : Int) ≤ 122) ∨ (48 ≤ (c.toNat : Int) ∧ (c.toNat : Int) ≤ 57) ∨ (c.toNat : Int) = 95)
def nameB (s : ByteArray) : Bool := decide (1 ≤ s.size ∧ s.size ≤ 32 ∧ ¬ (48 ≤ ((s.data.toList.getD 0 0).toNat : Int) ∧ ((s.data.toList.getD 0 0).toNat : Int) ≤ 57)) && s.data.toList.all nameC
/-- Among's values -/
def risesS : List ByteArray → Bool
  | a :: b :: l => Op.bytesLess a.toList b.toList && risesS (b :: l)
  | _ => true
def valuesB (l : List ByteArray) : Bool := decide (1 ≤ l.length ∧ l.length ≤ 16) && l.all (fun v => decide (v.size ≤ 64)) && risesS l
/-- may it be, whatever its kids are? -/
def plainB (m : S25) : Bool := decide (m.f1.toList = [] ∧ m.f2.toList = [] ∧ m.f3.length = 0)
def aloneB (m : S25) : Bool :=
  if m.f0 = 0 then plainB m && decide (m.f4.length = 0)
  else if m.f0 = 1 ∨ m.f0 = 2 ∨ m.f0 = 3 then nameB m.f1 && decide (m.f2.size ≤ 64 ∧ m.f4.length = 0 ∧ m.f3.length = 0)
  else if m.f0 = 4 then nameB m.f1 && decide (m.f4.length = 0 ∧ m.f2.toList = []) && valuesB m.f3
  else if m.f0 = 5 ∨ m.f0 = 6 then plainB m
  else if m.f0 = 7 then plainB m && decide (m.f4.length = 1)
  else false
mutual
def okM : S25 → Bool
  | ⟨a, n, v, vs, ks⟩ => aloneB ⟨a, n, v, vs, ks⟩ && okL ks
def okL : List S25 → Bool
  | [] => true
  | k :: ks => okM k && okL ks
end
/-- may it be, at a depth, with so many matchers and so many bytes left? -/
def chk (d : Int) (m : S25) (n b : Int) : Bool := decide (okM m = true ∧ d + depthM m ≤ 9 ∧ (nodesM m : Int) ≤ n ∧ (bytesM m : Int) ≤ b)
def chkL (d : Int) (ks : List S25) (n b : Int) : Bool := decide (okL ks = true ∧ d + depthL ks ≤ 9 ∧ (nodesL ks : Int) ≤ n ∧ (bytesL ks : Int) ≤ b)
theorem chk_def {d : Int} {m : S25} {n b : Int} : chk d m n b = true ↔ okM m = true ∧ d + depthM m ≤ 9 ∧ (nodesM m : Int) ≤ n ∧ (bytesM m : Int) ≤ b := by unfold chk; exact decide_eq_true_iff
theorem chkL_def {d : Int} {ks : List S25} {n b : Int} : chkL d ks n b = true ↔ okL ks = true ∧ d + depthL ks ≤ 9 ∧ (nodesL ks : Int) ≤ n ∧ (bytesL ks : Int) ≤ b := by unfold chkL; exact decide_eq_true_iff
def chkB (m : S25) : Bool := chk 1 m 64 4096

theorem nodesM_mk (m : S25) : nodesM m = 1 + nodesL m.f4 := by cases m; simp [nodesM]
theorem bytesM_mk (m : S25) : bytesM m = m.f1.size + m.f2.size + sizes m.f3 + bytesL m.f4 := by cases m; simp [bytesM]
theorem depthM_mk (m : S25) : depthM m = 1 + depthL m.f4 := by cases m; simp [depthM]
theorem okM_mk (m : S25) : okM m = (aloneB m && okL m.f4) := by cases m; simp [okM]

theorem chk_iff (d : Int) (m : S25) (n b : Int) : chk d m n b = true ↔ d ≤ 8 ∧ 1 ≤ n ∧ aloneB m = true ∧ (m.f1.size + m.f2.size + sizes m.f3 : Int) ≤ b ∧ chkL (d + 1) m.f4 (n - 1) (b - (m.f1.size + m.f2.size + sizes m.f3 : Int)) = true := by
  rw [chk_def, chkL_def, nodesM_mk, bytesM_mk, depthM_mk, okM_mk, Bool.and_eq_true]
  constructor
  · rintro ⟨⟨h1, h2⟩, h3, h4, h5⟩
    exact ⟨by omega, by omega, h1, by omega, h2, by omega, by omega, by omega⟩
  · rintro ⟨h1, h2, h3, h4, h5, h6, h7, h8⟩
    exact ⟨⟨h3, h5⟩, by omega, by omega, by omega⟩
theorem chkL_nil (d n b : Int) : chkL d [] n b = true ↔ d ≤ 9 ∧ 0 ≤ n ∧ 0 ≤ b := by
  rw [chkL_def]
  simp only [okL, depthL, nodesL, bytesL, true_and]
  constructor
  · rintro ⟨h1, h2, h3⟩; exact ⟨by omega, by omega, by omega⟩
  · rintro ⟨h1, h2, h3⟩; exact ⟨by omega, by omega, by omega⟩
theorem chkL_cons (d : Int) (k : S25) (ks : List S25) (n b : Int) : chkL d (k :: ks) n b = true ↔ chk d k n b = true ∧ chkL d ks (n - nodesM k) (b - bytesM k) = true := by
  rw [chk_def, chkL_def, chkL_def]
  simp only [okL, depthL, nodesL, bytesL, Bool.and_eq_true]
  have hm : d + ((max (depthM k) (depthL ks) : Nat) : Int) ≤ 9 ↔ d + depthM k ≤ 9 ∧ d + depthL ks ≤ 9 := by omega
  rw [hm]
  constructor
  · rintro ⟨⟨h1, h2⟩, ⟨h3, h4⟩, h5, h6⟩
    exact ⟨⟨h1, h3, by omega, by omega⟩, h2, h4, by omega, by omega⟩
  · rintro ⟨⟨h1, h3, h5, h6⟩, h2, h4, h7, h8⟩
    exact ⟨⟨h1, h2⟩, ⟨h3, h4⟩, by omega, by omega⟩
theorem chk_false_of {d : Int} {m : S25} {n b : Int} (h : ¬ (d ≤ 8 ∧ 1 ≤ n ∧ aloneB m = true ∧ (m.f1.size + m.f2.size + sizes m.f3 : Int) ≤ b ∧ chkL (d + 1) m.f4 (n - 1) (b - (m.f1.size + m.f2.size + sizes m.f3 : Int)) = true)) : chk d m n b = false := by
  rw [← Bool.not_eq_true, chk_iff]; exact h

/-- the first j of the kids went through -/
theorem chkL_drop (d : Int) (ks : List S25) (j : Nat) (hj : j < ks.length) (n b : Int) :
    chkL d (ks.drop j) n b = true ↔ chk d (ks.getD j z25) n b = true ∧ chkL d (ks.drop (j + 1)) (n - nodesM (ks.getD j z25)) (b - bytesM (ks.getD j z25)) = true := by
  rw [List.drop_eq_getElem_cons hj, chkL_cons]
  simp [List.getD_eq_getElem?_getD, hj]
theorem nodesL_split (ks : List S25) (j : Nat) (hj : j < ks.length) : nodesL (ks.take (j + 1)) = nodesL (ks.take j) + nodesM (ks.getD j z25) := by
  have h : ∀ (a b : List S25), nodesL (a ++ b) = nodesL a + nodesL b := by
    intro a; induction a with
    | nil => intro b; simp [nodesL]
    | cons x a ih => intro b; simp [nodesL, ih]; omega
  rw [List.take_succ_eq_append_getElem hj, h]
  simp [nodesL, List.getD_eq_getElem?_getD, hj]
theorem bytesL_split (ks : List S25) (j : Nat) (hj : j < ks.length) : bytesL (ks.take (j + 1)) = bytesL (ks.take j) + bytesM (ks.getD j z25) := by
  have h : ∀ (a b : List S25), bytesL (a ++ b) = bytesL a + bytesL b := by
    intro a; induction a with
    | nil => intro b; simp [bytesL]
    | cons x a ih => intro b; simp [bytesL, ih]; omega
  rw [List.take_succ_eq_append_getElem hj, h]
  simp [bytesL, List.getD_eq_getElem?_getD, hj]
theorem sizes_split (vs : List ByteArray) (j : Nat) (hj : j < vs.length) : sizes (vs.take (j + 1)) = sizes (vs.take j) + (vs.getD j ByteArray.empty).size := by
  have h : ∀ (a b : List ByteArray), sizes (a ++ b) = sizes a + sizes b := by
    intro a; induction a with
    | nil => intro b; simp [sizes]
    | cons x a ih => intro b; simp [sizes, ih]; omega
  rw [List.take_succ_eq_append_getElem hj, h]
  simp [sizes, List.getD_eq_getElem?_getD, hj]
theorem nodes_lt (m : S25) (k : S25) (hk : k ∈ m.f4) : nodesM k < nodesM m := by
  rw [nodesM_mk m]
  have : ∀ (ks : List S25), k ∈ ks → nodesM k ≤ nodesL ks := by
    intro ks; induction ks with
    | nil => intro h; cases h
    | cons x ks ih =>
      intro h
      simp only [nodesL]
      rcases List.mem_cons.1 h with rfl | h
      · omega
      · have := ih h; omega
  have := this _ hk
  omega
end Go.Proofs.Yteafilojjdfllaa
