/- A part of the proof of MatchTexts. No condition. -/
import Derived.Shelf.SlGeneric
import Derived.Ground.SlsfProg
import Derived.Shelf.SlLaysF0
import Derived.Test.YteafilojjdfllaaProg
import Derived.Lib.Hide
import Derived.Shelf.SlSortCmp.KitK
import Derived.ArgAppend
import Derived.Laws.Bits64b
import Derived.Lib.LazyBuf
import Derived.Deep.QuietTactic
import Derived.BigQuiet
import Derived.Defers
import Derived.Recover
import Derived.Lib.Strings
import Derived.Lib.Slices
import Derived.Lib.Walk
import Derived.Lib.Bytealg
import Derived.Deep.CutBlock
import Derived.Test.YteafilojjdfllaaZMatchTextsC
section
namespace Go.Proofs.Yteafilojjdfllaa
open Go Go.Proofs.Yteafilojjdfllaa.PAll
/-- texts between quotes, a comma between, a parenthesis behind: so many at most -/
def valsW (step : List UInt8 → Step) : Nat → List UInt8 → Option (List ByteArray × List UInt8)
 | 0, _ => none
 | k + 1, r => match valW step r with
  | none => none
  | some (_, []) => none
  | some (v, c :: t) => if c = 41 then some ([⟨v.toArray⟩], t) else if c = 44 then (valsW step k t).map (fun q => (⟨v.toArray⟩ :: q.1, q.2)) else none
/-- what begins with a name -/
def namedW (cut : List UInt8 → Nat) (step : List UInt8 → Step) (emp : Bool) (r : List UInt8) : Option (S25 × List UInt8) :=
 let n : ByteArray := ⟨(r.take (cut r)).toArray⟩
 match r.drop (cut r) with
 | [] => none
 | c :: q =>
  if c = 61 then (valW step q).map (fun p => (⟨1, n, ⟨p.1.toArray⟩, [], []⟩, p.2))
  else if c = 33 then (match q with | [] => none | e :: q => if e = 61 then (valW step q).map (fun p => (⟨2, n, ⟨p.1.toArray⟩, [], []⟩, p.2)) else none)
  else if c = 94 then (match q with | [] => none | e :: q => if e = 61 then (valW step q).map (fun p => (⟨3, n, ⟨p.1.toArray⟩, [], []⟩, p.2)) else none)
  else if c = 64 then (match q with
   | [] => none
   | e :: q => if e = 40 then (if emp = true ∧ q.head? = some 41 then some (⟨4, n, ⟨#[]⟩, [], []⟩, q.drop 1) else (valsW step 17 q).map (fun p => (⟨4, n, ⟨#[]⟩, p.1, []⟩, p.2))) else none)
  else none
mutual
/-- a matcher: so deep it may be yet, so many matchers may be yet; what is left of them, and of the bytes -/
def readM (cut : List UInt8 → Nat) (step : List UInt8 → Step) (emp : Bool) : Nat → Nat → List UInt8 → Option (S25 × Nat × List UInt8)
 | 0, _, _ => none
 | _, 0, _ => none
 | _, _, [] => none
 | d + 1, left + 1, c :: r =>
  if c = 42 then some (⟨0, ⟨#[]⟩, ⟨#[]⟩, [], []⟩, left, r)
  else if c = 38 ∨ c = 124 ∨ c = 33 then (match r with
   | [] => none
   | e :: q => if e = 40 then (if q.head? = some 41 then some (⟨if c = 38 then 5 else if c = 124 then 6 else 7, ⟨#[]⟩, ⟨#[]⟩, [], []⟩, left, q.drop 1)
     else (readML cut step emp d 65 left q).map (fun p => (⟨if c = 38 then 5 else if c = 124 then 6 else 7, ⟨#[]⟩, ⟨#[]⟩, [], p.1⟩, p.2))) else none)
  else (namedW cut step emp (c :: r)).map (fun p => (p.1, left, p.2))
termination_by d _ _ => (d, 0)
def readML (cut : List UInt8 → Nat) (step : List UInt8 → Step) (emp : Bool) : Nat → Nat → Nat → List UInt8 → Option (List S25 × Nat × List UInt8)
 | _, 0, _, _ => none
 | d, k + 1, left, r => match readM cut step emp d left r with
  | none => none
  | some (_, _, []) => none
  | some (m, left1, c :: t) => if c = 41 then some ([m], left1, t) else if c = 44 then (readML cut step emp d k left1 t).map (fun p => (m :: p.1, p.2)) else none
termination_by d k _ _ => (d, k)
end
/-- the program's: a name ends at the first of four signs -/
def cutM : Nat → List UInt8 → Nat
 | 0, _ => 0
 | _, [] => 0
 | k + 1, c :: r => if c = 61 ∨ c = 33 ∨ c = 94 ∨ c = 64 then 0 else cutM k r + 1
def Cuts (cut : List UInt8 → Nat) : Prop := ∀ (n : ByteArray), nameB n = true → ∀ c s, (c = 61 ∨ c = 33 ∨ c = 94 ∨ c = 64) → cut (n.data.toList ++ c :: s) = n.data.toList.length
theorem cutM_go : ∀ (n : List UInt8) (k : Nat) (c : UInt8) (s : List UInt8), n.all nameC = true → n.length < k → (c = 61 ∨ c = 33 ∨ c = 94 ∨ c = 64) → cutM k (n ++ c :: s) = n.length
 | [], 0, _, _, _, h, _ => absurd h (Nat.not_lt_zero _)
 | [], k + 1, c, s, _, _, hc => by rw [List.nil_append, cutM, if_pos hc]; rfl
 | x :: n, 0, _, _, _, h, _ => absurd h (Nat.not_lt_zero _)
 | x :: n, k + 1, c, s, h, hk, hc => by
  rw [List.all_cons, Bool.and_eq_true] at h
  rw [List.cons_append, cutM, if_neg ?_, cutM_go n k c s h.2 (by simpa using hk) hc]
  ·rfl
  ·rintro (e | e | e | e) <;> rw [e] at h <;> exact absurd h.1 (by decide)
theorem cuts_M : Cuts (cutM 33) := fun n hn c s hc => cutM_go _ 33 c s (nameB_all hn) (by have := nameB_size hn; omega) hc
theorem vals_text {step : List UInt8 → Step} (hr : Right step) (t : List UInt8) : ∀ (l : List ByteArray) (k : Nat), l ≠ [] → l.length ≤ k → valsW step k (commas (l.map quoteT) ++ 41 :: t) = some (l, t)
 | [], _, h, _ => absurd rfl h
 | x :: l, 0, _, h => by simp at h
 | [x], k + 1, _, _ => by
  show valsW step (k + 1) (quoteT x ++ 41 :: t) = _
  rw [valsW, val_quote hr]
  simp
 | x :: y :: l, k + 1, _, h => by
  show valsW step (k + 1) ((quoteT x ++ 44 :: commas ((y :: l).map quoteT)) ++ 41 :: t) = _
  rw [List.append_assoc, valsW, val_quote hr]
  simp only [List.cons_append]
  rw [if_neg (by decide), if_pos trivial, vals_text hr t (y :: l) k (by simp) (by simpa using h)]
  simp
theorem commas_head (l : List ByteArray) (h : l ≠ []) (t : List UInt8) : (commas (l.map quoteT) ++ t).head? = some 34 := by
 match l, h with
 | [x], _ => rfl
 | x :: y :: r, _ => rfl
theorem named_text {cut : List UInt8 → Nat} {step : List UInt8 → Step} {emp : Bool} (hr : Right step) (hc : Cuts cut) {m : S25} (hn : nameB m.f1 = true) (hk : m.f4 = []) (h : (m.f0 = 1 ∨ m.f0 = 2 ∨ m.f0 = 3) ∧ m.f3 = [] ∨ m.f0 = 4 ∧ m.f2 = ⟨#[]⟩ ∧ m.f3 ≠ [] ∧ m.f3.length ≤ 17) (t : List UInt8) :
  namedW cut step emp (textM m ++ t) = some (m, t) := by
 obtain ⟨op, n, v, vs, ks⟩ := m
 simp only at hn hk h
 subst hk
 have hcut : ∀ c s, (c = 61 ∨ c = 33 ∨ c = 94 ∨ c = 64) → (n.data.toList ++ c :: s).take (cut (n.data.toList ++ c :: s)) = n.data.toList ∧ (n.data.toList ++ c :: s).drop (cut (n.data.toList ++ c :: s)) = c :: s := by
  intro c s h; rw [hc n hn c s h]; simp
 rcases h with ⟨ho, rfl⟩ | ⟨rfl, rfl, hv, hl⟩
 ·rcases ho with rfl | rfl | rfl
  ·obtain ⟨e1, e2⟩ := hcut 61 (quoteT v ++ t) (by simp)
   rw [show textM ⟨1, n, v, [], []⟩ = n.data.toList ++ 61 :: quoteT v from rfl]
   simp only [List.append_assoc, List.cons_append]
   unfold namedW
   simp only [e1, e2]
   rw [if_pos trivial, val_quote hr]; simp
  ·obtain ⟨e1, e2⟩ := hcut 33 (61 :: (quoteT v ++ t)) (by simp)
   rw [show textM ⟨2, n, v, [], []⟩ = n.data.toList ++ 33 :: 61 :: quoteT v from rfl]
   simp only [List.append_assoc, List.cons_append]
   unfold namedW
   simp only [e1, e2]
   rw [if_neg (by decide), if_pos trivial, if_pos trivial, val_quote hr]; simp
  ·obtain ⟨e1, e2⟩ := hcut 94 (61 :: (quoteT v ++ t)) (by simp)
   rw [show textM ⟨3, n, v, [], []⟩ = n.data.toList ++ 94 :: 61 :: quoteT v from rfl]
   simp only [List.append_assoc, List.cons_append]
   unfold namedW
   simp only [e1, e2]
   rw [if_neg (by decide), if_neg (by decide), if_pos trivial, if_pos trivial, val_quote hr]; simp
 ·obtain ⟨e1, e2⟩ := hcut 64 (40 :: (commas (vs.map quoteT) ++ 41 :: t)) (by simp)
  rw [show textM ⟨4, n, ⟨#[]⟩, vs, []⟩ = n.data.toList ++ 64 :: 40 :: (commas (vs.map quoteT) ++ [41]) from rfl]
  simp only [List.append_assoc, List.cons_append, List.nil_append]
  unfold namedW
  simp only [e1, e2]
  rw [if_neg (by decide), if_neg (by decide), if_neg (by decide), if_pos trivial, if_pos trivial, commas_head vs hv, if_neg (by rintro ⟨-, h⟩; exact absurd h (by decide)), vals_text hr t vs 17 hv hl]; simp
theorem readM_cons (cut : List UInt8 → Nat) (step : List UInt8 → Step) (emp : Bool) (d left : Nat) (c : UInt8) (r : List UInt8) : readM cut step emp (d + 1) (left + 1) (c :: r) =
  if c = 42 then some (⟨0, ⟨#[]⟩, ⟨#[]⟩, [], []⟩, left, r)
  else if c = 38 ∨ c = 124 ∨ c = 33 then (match r with
   | [] => none
   | e :: q => if e = 40 then (if q.head? = some 41 then some (⟨if c = 38 then 5 else if c = 124 then 6 else 7, ⟨#[]⟩, ⟨#[]⟩, [], []⟩, left, q.drop 1)
     else (readML cut step emp d 65 left q).map (fun p => (⟨if c = 38 then 5 else if c = 124 then 6 else 7, ⟨#[]⟩, ⟨#[]⟩, [], p.1⟩, p.2))) else none)
  else (namedW cut step emp (c :: r)).map (fun p => (p.1, left, p.2)) := by rw [readM.eq_def]
theorem head_not41 {m : S25} (h : okM m = true) (t : List UInt8) : (textM m ++ t).head? ≠ some 41 := by
 obtain ⟨c, r, e, hc⟩ := text_head h
 rw [e]
 simpa using hc
theorem kids_head {ks : List S25} (hk : okL ks = true) (hne : ks ≠ []) (t : List UInt8) : (commas (ks.map textM) ++ t).head? ≠ some 41 := by
 match ks, hne with
 | [x], _ => exact head_not41 (okL_mem hk (List.mem_cons_self ..)) t
 | x :: y :: r, _ =>
  show ((textM x ++ 44 :: commas ((y :: r).map textM)) ++ t).head? ≠ some 41
  rw [List.append_assoc]
  exact head_not41 (okL_mem hk (List.mem_cons_self ..)) _
theorem readML_text {cut : List UInt8 → Nat} {step : List UInt8 → Step} {emp : Bool} (d N : Nat) (ih : ∀ (m : S25) (left : Nat) (t : List UInt8), nodesM m ≤ N → okM m = true → depthM m ≤ d → nodesM m ≤ left → readM cut step emp d left (textM m ++ t) = some (m, left - nodesM m, t)) (t : List UInt8) :
  ∀ (ks : List S25) (k left : Nat), ks ≠ [] → ks.length ≤ k → nodesL ks ≤ N → okL ks = true → depthL ks ≤ d → nodesL ks ≤ left → readML cut step emp d k left (commas (ks.map textM) ++ 41 :: t) = some (ks, left - nodesL ks, t)
 | [], _, _, h, _, _, _, _, _ => absurd rfl h
 | x :: ks, 0, _, _, h, _, _, _, _ => by simp at h
 | [x], k + 1, left, _, _, hN, hok, hd, hl => by
  rw [okL, Bool.and_eq_true] at hok
  rw [nodesL, nodesL] at hN hl
  rw [depthL, depthL] at hd
  show readML cut step emp d (k + 1) left (textM x ++ 41 :: t) = _
  rw [readML, ih x left _ (by omega) hok.1 (by omega) (by omega)]
  simp [nodesL]
 | x :: y :: ks, k + 1, left, _, hk, hN, hok, hd, hl => by
  rw [okL, Bool.and_eq_true] at hok
  rw [nodesL] at hN hl
  rw [depthL] at hd
  show readML cut step emp d (k + 1) left ((textM x ++ 44 :: commas ((y :: ks).map textM)) ++ 41 :: t) = _
  rw [List.append_assoc, readML, ih x left _ (by omega) hok.1 (by omega) (by omega)]
  simp only [List.cons_append]
  rw [if_neg (by decide), if_pos trivial, readML_text d N ih t (y :: ks) k (left - nodesM x) (by simp) (by simpa using hk) (by omega) hok.2 (by omega) (by omega), show nodesL (x :: y :: ks) = nodesM x + nodesL (y :: ks) from rfl]
  simp only [Option.map_some, Option.some.injEq, Prod.mk.injEq, true_and, and_true]
  omega
theorem len_nodesQ : ∀ (ks : List S25), ks.length ≤ nodesL ks
 | [] => by simp [nodesL]
 | k :: ks => by have := len_nodesQ ks; have h2 := nodesM_mk k; simp only [List.length_cons, nodesL]; omega
theorem okP_vals {n v : ByteArray} {vs : List ByteArray} {ks : List S25} (h : okM ⟨4, n, v, vs, ks⟩ = true) : vs ≠ [] ∧ vs.length ≤ 16 := by
 rw [okM_mk, Bool.and_eq_true] at h
 have ha := h.1
 unfold aloneB at ha
 simp only at ha
 rw [if_neg (by decide), if_neg (by decide), if_pos trivial, Bool.and_eq_true, Bool.and_eq_true] at ha
 have hv := ha.2
 unfold valuesB at hv
 rw [Bool.and_eq_true, Bool.and_eq_true, decide_eq_true_iff] at hv
 exact ⟨fun e => by rw [e] at hv; simp at hv, hv.1.1.2⟩
theorem readM_text {cut : List UInt8 → Nat} {step : List UInt8 → Step} {emp : Bool} (hr : Right step) (hc : Cuts cut) : ∀ (N : Nat) (m : S25) (d left : Nat) (t : List UInt8), nodesM m ≤ N → okM m = true → depthM m ≤ d → nodesM m ≤ left → nodesM m ≤ 64 → readM cut step emp d left (textM m ++ t) = some (m, left - nodesM m, t)
 | 0, m, _, _, _, h, _, _, _, _ => by rw [nodesM_mk] at h; omega
 | N + 1, m, d, left, t, hN, hok, hd, hl, h64 => by
  rw [nodesM_mk] at hN hl h64
  rw [depthM_mk] at hd
  obtain ⟨d, rfl⟩ : ∃ q, d = q + 1 := ⟨d - 1, by omega⟩
  obtain ⟨left, rfl⟩ : ∃ q, left = q + 1 := ⟨left - 1, by omega⟩
  have leaf : ∀ (m : S25), okM m = true → nameB m.f1 = true → m.f4 = [] → ((m.f0 = 1 ∨ m.f0 = 2 ∨ m.f0 = 3) ∧ m.f3 = [] ∨ m.f0 = 4 ∧ m.f2 = ⟨#[]⟩ ∧ m.f3 ≠ [] ∧ m.f3.length ≤ 17) → (∃ s, textM m = m.f1.data.toList ++ s) → readM cut step emp (d + 1) (left + 1) (textM m ++ t) = some (m, left + 1 - nodesM m, t) := by
   intro m hok hn hk h ⟨s, hs⟩
   have hw := named_text (emp := emp) hr hc hn hk h t
   obtain ⟨c, r, e, hc1⟩ := nameB_cons hn
   rw [hs, e, List.cons_append, List.cons_append] at hw ⊢
   rw [readM_cons, if_neg (by rintro rfl; exact absurd hc1 (by decide)), if_neg (by rintro (rfl | rfl | rfl) <;> exact absurd hc1 (by decide)), hw, nodesM_mk, hk, nodesL]
   simp
  rcases shape hok with rfl | ⟨op, n, v, ho, hn, rfl⟩ | ⟨n, vs, hn, rfl⟩ | ⟨op, ks, ho, hk, rfl⟩
  ·show readM cut step emp (d + 1) (left + 1) (42 :: t) = _
   rw [readM_cons, if_pos rfl]
   simp [nodesM, nodesL]
  ·refine leaf _ hok hn rfl (Or.inl ⟨ho, rfl⟩) ?_
   rcases ho with rfl | rfl | rfl
   ·exact ⟨_, rfl⟩
   ·exact ⟨_, rfl⟩
   ·exact ⟨_, rfl⟩
  ·obtain ⟨h1, h2⟩ := okP_vals hok
   exact leaf _ hok hn rfl (Or.inr ⟨rfl, rfl, h1, by simp only; omega⟩) ⟨_, rfl⟩
  ·simp only at hN hl h64 hd
   have hlen := len_nodesQ ks
   have key : ∀ (c : UInt8) (op : Int), (c = 38 ∨ c = 124 ∨ c = 33) → (if c = 38 then (5 : Int) else if c = 124 then 6 else 7) = op → readM cut step emp (d + 1) (left + 1) (c :: 40 :: (commas (ks.map textM) ++ [41]) ++ t) = some (⟨op, ⟨#[]⟩, ⟨#[]⟩, [], ks⟩, left + 1 - nodesM ⟨op, ⟨#[]⟩, ⟨#[]⟩, [], ks⟩, t) := by
    intro c op hc1 ho
    simp only [List.cons_append, List.append_assoc, List.nil_append]
    rw [readM_cons, if_neg (by rcases hc1 with rfl | rfl | rfl <;> decide), if_pos hc1, nodesM_mk, ho]
    simp only
    rw [if_pos trivial]
    by_cases hne : ks = []
    ·subst hne
     simp [commas, nodesL]
    ·rw [if_neg (kids_head hk hne _), readML_text d (min N 64) (fun m left t h1 h2 h3 h4 => readM_text hr hc N m d left t (by omega) h2 h3 h4 (by omega)) t ks 65 left hne (by omega) (by omega) hk (by omega) (by omega)]
     simp only [Option.map_some, Option.some.injEq, Prod.mk.injEq, true_and, and_true]
     omega
   rcases ho with rfl | rfl | rfl
   ·rw [text_k (by simp)]; exact key 38 5 (by simp) rfl
   ·rw [text_k (by simp)]; exact key 124 6 (by simp) rfl
   ·rw [text_k (by simp)]; exact key 33 7 (by simp) rfl
/-- more than eight? -/
def deepW : Nat → Bool → List UInt8 → Bool
 | _, _, [] => false
 | o, q, c :: r =>
  if q = true ∧ c = 92 then deepW o q (r.drop 1)
  else if c = 34 then deepW o (!q) r
  else if q = false ∧ c = 40 then (if o + 1 > 8 then true else deepW (o + 1) q r)
  else if q = false ∧ c = 41 then deepW (o - 1) q r
  else deepW o q r
termination_by _ _ l => l.length
decreasing_by all_goals (simp only [List.length_drop, List.length_cons]; omega)
theorem deep_enc (o : Nat) (c : UInt8) (t : List UInt8) : deepW o true (encB c ++ t) = deepW o true t := by
 unfold encB
 by_cases h1 : c = 34 ∨ c = 92
 ·rw [if_pos h1]
  show deepW o true (92 :: c :: t) = _
  rw [deepW, if_pos ⟨rfl, rfl⟩]; rfl
 ·rw [if_neg h1]
  by_cases h2 : c.toNat < 32 ∨ 127 ≤ c.toNat
  ·rw [if_pos h2]
   show deepW o true (92 :: 120 :: hexD (c.toNat / 16) :: hexD (c.toNat % 16) :: t) = _
   have hx : ∀ n : Fin 16, hexD n.val ≠ 34 ∧ hexD n.val ≠ 92 := by decide +kernel
   have hc := c.toNat_lt
   have e1 := hx ⟨c.toNat / 16, by omega⟩
   have e2 := hx ⟨c.toNat % 16, by omega⟩
   simp only at e1 e2
   rw [deepW, if_pos ⟨rfl, rfl⟩]
   show deepW o true (hexD (c.toNat / 16) :: hexD (c.toNat % 16) :: t) = _
   rw [deepW, if_neg (fun h => e1.2 h.2), if_neg e1.1, if_neg (by simp), if_neg (by simp), deepW, if_neg (fun h => e2.2 h.2), if_neg e2.1, if_neg (by simp), if_neg (by simp)]
  ·rw [if_neg h2]
   show deepW o true (c :: t) = _
   rw [deepW, if_neg (fun h => h1 (Or.inr h.2)), if_neg (fun h => h1 (Or.inl h)), if_neg (by simp), if_neg (by simp)]
theorem deep_body (o : Nat) (t : List UInt8) : ∀ (v : List UInt8), deepW o true (v.flatMap encB ++ 34 :: t) = deepW o false t
 | [] => by rw [List.flatMap_nil, List.nil_append, deepW, if_neg (by simp), if_pos rfl]; rfl
 | c :: v => by rw [List.flatMap_cons, List.append_assoc, deep_enc, deep_body o t v]
theorem deep_quote (o : Nat) (v : ByteArray) (t : List UInt8) : deepW o false (quoteT v ++ t) = deepW o false t := by
 unfold quoteT quoteL
 simp only [List.cons_append, List.append_assoc, List.nil_append]
 rw [deepW, if_neg (by simp), if_pos rfl]
 exact deep_body o t _
theorem deep_skip (o : Nat) (c : UInt8) (t : List UInt8) (h : c ≠ 34 ∧ c ≠ 40 ∧ c ≠ 41) : deepW o false (c :: t) = deepW o false t := by
 rw [deepW, if_neg (by simp), if_neg h.1, if_neg (fun e => h.2.1 e.2), if_neg (fun e => h.2.2 e.2)]
theorem deep_name (o : Nat) (t : List UInt8) : ∀ (n : List UInt8), n.all nameC = true → deepW o false (n ++ t) = deepW o false t
 | [], _ => rfl
 | c :: n, h => by
  rw [List.all_cons, Bool.and_eq_true] at h
  rw [List.cons_append, deep_skip o c _ ⟨by rintro rfl; exact absurd h.1 (by decide), by rintro rfl; exact absurd h.1 (by decide), by rintro rfl; exact absurd h.1 (by decide)⟩, deep_name o t n h.2]
theorem deep_open (o : Nat) (t : List UInt8) (h : o + 1 ≤ 8) : deepW o false (40 :: t) = deepW (o + 1) false t := by
 rw [deepW, if_neg (by simp), if_neg (by decide), if_pos ⟨rfl, rfl⟩, if_neg (by omega)]
theorem deep_close (o : Nat) (t : List UInt8) : deepW (o + 1) false (41 :: t) = deepW o false t := by
 rw [deepW, if_neg (by simp), if_neg (by decide), if_neg (by simp), if_pos ⟨rfl, rfl⟩]; rfl
theorem deep_vals (o : Nat) (t : List UInt8) : ∀ (l : List ByteArray), deepW o false (commas (l.map quoteT) ++ t) = deepW o false t
 | [] => rfl
 | [x] => deep_quote o x t
 | x :: y :: l => by
  show deepW o false ((quoteT x ++ 44 :: commas ((y :: l).map quoteT)) ++ t) = _
  rw [List.append_assoc, deep_quote, List.cons_append, deep_skip _ _ _ (by decide), deep_vals o t (y :: l)]
theorem deep_kids (o N : Nat) (ih : ∀ (m : S25) (t : List UInt8), nodesM m ≤ N → okM m = true → o + depthM m ≤ 8 → deepW o false (textM m ++ t) = deepW o false t) (t : List UInt8) :
  ∀ (ks : List S25), nodesL ks ≤ N → okL ks = true → o + depthL ks ≤ 8 → deepW o false (commas (ks.map textM) ++ t) = deepW o false t
 | [], _, _, _ => rfl
 | [x], hN, hok, hd => by
  rw [okL, Bool.and_eq_true] at hok
  rw [nodesL, nodesL] at hN
  rw [depthL, depthL] at hd
  exact ih x t (by omega) hok.1 (by omega)
 | x :: y :: l, hN, hok, hd => by
  rw [okL, Bool.and_eq_true] at hok
  rw [nodesL] at hN
  rw [depthL] at hd
  show deepW o false ((textM x ++ 44 :: commas ((y :: l).map textM)) ++ t) = _
  rw [List.append_assoc, ih x _ (by omega) hok.1 (by omega), List.cons_append, deep_skip _ _ _ (by decide), deep_kids o N ih t (y :: l) (by omega) hok.2 (by omega)]
theorem deep_text : ∀ (N : Nat) (m : S25) (o : Nat) (t : List UInt8), nodesM m ≤ N → okM m = true → o + depthM m ≤ 8 → deepW o false (textM m ++ t) = deepW o false t
 | 0, m, _, _, h, _, _ => by rw [nodesM_mk] at h; omega
 | N + 1, m, o, t, hN, hok, hd => by
  rw [nodesM_mk] at hN
  rw [depthM_mk] at hd
  rcases shape hok with rfl | ⟨op, n, v, ho, hn, rfl⟩ | ⟨n, vs, hn, rfl⟩ | ⟨op, ks, ho, hk, rfl⟩
  ·show deepW o false (42 :: t) = _
   rw [deep_skip _ _ _ (by decide)]
  ·rcases ho with rfl | rfl | rfl
   ·show deepW o false ((n.data.toList ++ 61 :: quoteT v) ++ t) = _
    rw [List.append_assoc, deep_name _ _ _ (nameB_all hn), List.cons_append, deep_skip _ _ _ (by decide), deep_quote]
   ·show deepW o false ((n.data.toList ++ 33 :: 61 :: quoteT v) ++ t) = _
    rw [List.append_assoc, deep_name _ _ _ (nameB_all hn), List.cons_append, deep_skip _ _ _ (by decide), List.cons_append, deep_skip _ _ _ (by decide), deep_quote]
   ·show deepW o false ((n.data.toList ++ 94 :: 61 :: quoteT v) ++ t) = _
    rw [List.append_assoc, deep_name _ _ _ (nameB_all hn), List.cons_append, deep_skip _ _ _ (by decide), List.cons_append, deep_skip _ _ _ (by decide), deep_quote]
  ·show deepW o false ((n.data.toList ++ 64 :: 40 :: (commas (vs.map quoteT) ++ [41])) ++ t) = _
   rw [List.append_assoc, deep_name _ _ _ (nameB_all hn), List.cons_append, deep_skip _ _ _ (by decide), List.cons_append, deep_open _ _ (by omega), List.append_assoc, deep_vals, List.singleton_append, deep_close]
  ·simp only at hN hd
   have key : ∀ c : UInt8, (c ≠ 34 ∧ c ≠ 40 ∧ c ≠ 41) → deepW o false ((c :: 40 :: (commas (ks.map textM) ++ [41])) ++ t) = deepW o false t := by
    intro c hc
    rw [List.cons_append, deep_skip _ _ _ hc, List.cons_append, deep_open _ _ (by omega), List.append_assoc, deep_kids (o + 1) N (fun m t h1 h2 h3 => deep_text N m (o + 1) t h1 h2 h3) _ ks (by omega) hk (by omega), List.singleton_append, deep_close]
   rcases ho with rfl | rfl | rfl
   ·rw [text_k (by simp)]; exact key 38 (by decide)
   ·rw [text_k (by simp)]; exact key 124 (by decide)
   ·rw [text_k (by simp)]; exact key 33 (by decide)
end Go.Proofs.Yteafilojjdfllaa
end
section
namespace Go.Proofs.Yteafilojjdfllaa
open Go Go.RowKit Go.Proofs.YteafilojjdfllaaW.PrintWords Go.Proofs.YteafilojjdfllaaW.PrintLast Go.Proofs.YteafilojjdfllaaW.PrintMore Go.Proofs.Yteafilojjdfllaa.PAll
set_option linter.unusedVariables false
set_option linter.unusedSimpArgs false
theorem deepW_cons (o : Nat) (q : Bool) (c : UInt8) (r : List UInt8) : deepW o q (c :: r) = if q = true ∧ c = 92 then deepW o q (r.drop 1)
  else if c = 34 then deepW o (!q) r
  else if q = false ∧ c = 40 then (if o + 1 > 8 then true else deepW (o + 1) q r)
  else if q = false ∧ c = 41 then deepW (o - 1) q r
  else deepW o q r := by rw [deepW]
theorem u8_eq {c : UInt8} {k : Nat} (hk : k < 256) (h : (c.toNat : Int) = (k : Int)) : c = UInt8.ofNat k := UInt8.toNat_inj.1 (by simp; omega)
section
variable {s : ByteArray} {i o : Nat} {c : UInt8} {q Q : Bool}
theorem deep_at (hi : i < s.size) (hc : bN s i = c) (h : deepW o q (s.data.toList.drop i) = Q) : (if q = true ∧ c = 92 then deepW o q (s.data.toList.drop (i + 2))
  else if c = 34 then deepW o (!q) (s.data.toList.drop (i + 1))
  else if q = false ∧ c = 40 then (if o + 1 > 8 then true else deepW (o + 1) q (s.data.toList.drop (i + 1)))
  else if q = false ∧ c = 41 then deepW (o - 1) q (s.data.toList.drop (i + 1))
  else deepW o q (s.data.toList.drop (i + 1))) = Q := by
 rw [bN_drop s i hi, hc, deepW_cons, List.drop_drop] at h
 exact h
theorem deep_esc (hi : i < s.size) (hx : bN s i = c) (e : (c.toNat : Int) = 92) (h : deepW o true (s.data.toList.drop i) = Q) : deepW o true (s.data.toList.drop (i + 2)) = Q := by
 have h2 := deep_at hi hx h
 rwa [if_pos ⟨rfl, u8_eq (k := 92) (by decide) e⟩] at h2
theorem deep_q (hi : i < s.size) (hx : bN s i = c) (e : (c.toNat : Int) = 34) (h : deepW o q (s.data.toList.drop i) = Q) : deepW o (!q) (s.data.toList.drop (i + 1)) = Q := by
 have h2 := deep_at hi hx h
 have hc := u8_eq (k := 34) (by decide) e
 subst hc
 rwa [if_neg (fun h => absurd h.2 (by decide)), if_pos (by decide)] at h2
theorem deep_in (hi : i < s.size) (hx : bN s i = c) (e1 : ¬(c.toNat : Int) = 92) (e2 : ¬(c.toNat : Int) = 34) (h : deepW o true (s.data.toList.drop i) = Q) : deepW o true (s.data.toList.drop (i + 1)) = Q := by
 have h2 := deep_at hi hx h
 rwa [if_neg (fun h => e1 (by rw [h.2]; decide)), if_neg (fun h => e2 (by rw [h]; decide)), if_neg (by simp), if_neg (by simp)] at h2
theorem deep_o (hi : i < s.size) (hx : bN s i = c) (e : (c.toNat : Int) = 40) (ho : o + 1 ≤ 8) (h : deepW o false (s.data.toList.drop i) = Q) : deepW (o + 1) false (s.data.toList.drop (i + 1)) = Q := by
 have h2 := deep_at hi hx h
 have hc := u8_eq (k := 40) (by decide) e
 subst hc
 rwa [if_neg (by simp), if_neg (by decide), if_pos ⟨rfl, by decide⟩, if_neg (by omega)] at h2
theorem deep_O (hi : i < s.size) (hx : bN s i = c) (e : (c.toNat : Int) = 40) (ho : ¬ o + 1 ≤ 8) (h : deepW o false (s.data.toList.drop i) = Q) : Q = true := by
 have h2 := deep_at hi hx h
 have hc := u8_eq (k := 40) (by decide) e
 subst hc
 rw [if_neg (by simp), if_neg (by decide), if_pos ⟨rfl, by decide⟩, if_pos (by omega)] at h2
 exact h2.symm
theorem deep_c (hi : i < s.size) (hx : bN s i = c) (e : (c.toNat : Int) = 41) (h : deepW o false (s.data.toList.drop i) = Q) : deepW (o - 1) false (s.data.toList.drop (i + 1)) = Q := by
 have h2 := deep_at hi hx h
 have hc := u8_eq (k := 41) (by decide) e
 subst hc
 rwa [if_neg (by simp), if_neg (by decide), if_neg (fun h => absurd h.2 (by decide)), if_pos ⟨rfl, by decide⟩] at h2
theorem deep_n (hi : i < s.size) (hx : bN s i = c) (e2 : ¬(c.toNat : Int) = 34) (e3 : ¬(c.toNat : Int) = 40) (e4 : ¬(c.toNat : Int) = 41) (h : deepW o false (s.data.toList.drop i) = Q) : deepW o false (s.data.toList.drop (i + 1)) = Q := by
 have h2 := deep_at hi hx h
 rwa [if_neg (by simp), if_neg (fun h => e2 (by rw [h]; decide)), if_neg (fun h => e3 (by rw [h.2]; decide)), if_neg (fun h => e4 (by rw [h.2]; decide))] at h2
theorem deep_end (hi : s.size ≤ i) (h : deepW o q (s.data.toList.drop i) = Q) : Q = false := by
 rw [List.drop_of_length_le (by simpa using hi), deepW] at h
 exact h.symm
end
set_option maxRecDepth 100000 in
set_option maxHeartbeats 16000000 in
/-- deep. -/
theorem deep142 (w : World) (s : ByteArray) (hs : s.size ≤ 1000000000) : Calls Try.prog 142 #[.string s] w fun e w' => e = .returned (.bool (deepW 0 false s.data.toList)) ∧ w' = w := by
 obtain ⟨Q, eQ⟩ : ∃ Q, deepW 0 false s.data.toList = Q := ⟨_, rfl⟩
 rw [eQ]
 have HQ0 := Lib.hid eQ
 clear eQ
 go_enter Try.func142, Try.ntmps142
 go_wp2
 go_loopw [3, 4, 5, 6] (fun u3 u4 u5 _ wr => ∃ (o : Nat) (q : Bool) (i : Nat), u3 = .int .i64 (o : Int) ∧ u4 = .bool q ∧ u5 = .int .i64 (i : Int) ∧ o ≤ 8 ∧ i ≤ s.size + 1 ∧ Hid (deepW o q (s.data.toList.drop i) = Q) ∧ wr = w)
  (fun _ _ u5 _ _ => s.size + 1 - (intOf u5).toNat)
 case atStart => exact ⟨0, false, 0, rfl, rfl, rfl, by omega, by omega, HQ0, rfl⟩
 case round =>
  obtain ⟨o, q, i, rfl, rfl, rfl, ho, hi, HQ, rfl⟩ := hrel
  by_cases hlt : i < s.size
  ·have hltI : (i : Int) < (s.size : Int) := by omega
   obtain ⟨c, hc⟩ : ∃ c, bN s i = c := ⟨_, rfl⟩
   have hx0 := bN_at s i c hc
   have HX := Lib.hid hc
   clear hc HQ0
   cases q with
   | true =>
    by_cases e92 : (c.toNat : Int) = 92
    ·have b92 : ((c.toNat : Int) == 92) = true := beq_iff_eq.2 e92
     go_wp2
     go_roundw
     case rel => exact ⟨o, true, i + 2, by go_num, by first | rfl | simp, by go_num, by omega, by omega, Lib.hid (deep_esc hlt HX.out e92 HQ.out), trivial⟩
     case measure => simp [intOf]; omega
    ·have b92 : ((c.toNat : Int) == 92) = false := beq_eq_false_iff_ne.2 e92
     by_cases e34 : (c.toNat : Int) = 34
     ·have b34 : ((c.toNat : Int) == 34) = true := beq_iff_eq.2 e34
      go_wp2
      go_roundw
      case rel => exact ⟨o, false, i + 1, by go_num, by first | rfl | simp, by go_num, by omega, by omega, Lib.hid (deep_q hlt HX.out e34 HQ.out), trivial⟩
      case measure => simp [intOf]; omega
     ·have b34 : ((c.toNat : Int) == 34) = false := beq_eq_false_iff_ne.2 e34
      go_wp2
      go_roundw
      case rel => exact ⟨o, true, i + 1, by go_num, by first | rfl | simp, by go_num, by omega, by omega, Lib.hid (deep_in hlt HX.out e92 e34 HQ.out), trivial⟩
      case measure => simp [intOf]; omega
   | false =>
    by_cases e34 : (c.toNat : Int) = 34
    ·have b34 : ((c.toNat : Int) == 34) = true := beq_iff_eq.2 e34
     go_wp2
     go_roundw
     case rel => exact ⟨o, true, i + 1, by go_num, by first | rfl | simp, by go_num, by omega, by omega, Lib.hid (deep_q hlt HX.out e34 HQ.out), trivial⟩
     case measure => simp [intOf]; omega
    ·have b34 : ((c.toNat : Int) == 34) = false := beq_eq_false_iff_ne.2 e34
     by_cases e40 : (c.toNat : Int) = 40
     ·have b40 : ((c.toNat : Int) == 40) = true := beq_iff_eq.2 e40
      by_cases h8 : o + 1 ≤ 8
      ·have h8I : ¬ (8 : Int) < (o : Int) + 1 := by omega
       go_wp2
       go_roundw
       case rel => exact ⟨o + 1, false, i + 1, by go_num, by first | rfl | simp, by go_num, by omega, by omega, Lib.hid (deep_o hlt HX.out e40 h8 HQ.out), trivial⟩
       case measure => simp [intOf]; omega
      ·have h8I : (8 : Int) < (o : Int) + 1 := by omega
       have HT := Lib.hid (deep_O hlt HX.out e40 h8 HQ.out)
       go_wp2
       go_ret
       rw [HT.out]
       exact ⟨rfl, rfl⟩
     ·have b40 : ((c.toNat : Int) == 40) = false := beq_eq_false_iff_ne.2 e40
      by_cases e41 : (c.toNat : Int) = 41
      ·have b41 : ((c.toNat : Int) == 41) = true := beq_iff_eq.2 e41
       have hm : max (0 : Int) ((o : Int) - 1) = ((o - 1 : Nat) : Int) := by omega
       go_wp2
       go_roundw
       case rel => exact ⟨o - 1, false, i + 1, by go_num, by first | rfl | simp, by go_num, by omega, by omega, Lib.hid (deep_c hlt HX.out e41 HQ.out), trivial⟩
       case measure => simp [intOf]; omega
      ·have b41 : ((c.toNat : Int) == 41) = false := beq_eq_false_iff_ne.2 e41
       go_wp2
       go_roundw
       case rel => exact ⟨o, false, i + 1, by go_num, by first | rfl | simp, by go_num, by omega, by omega, Lib.hid (deep_n hlt HX.out e34 e40 e41 HQ.out), trivial⟩
       case measure => simp [intOf]; omega
  ·have hltI : ¬ (i : Int) < (s.size : Int) := by omega
   have HT := Lib.hid (deep_end (by omega) HQ.out)
   go_wp2
   go_ret
   rw [HT.out]
   exact ⟨rfl, rfl⟩
end Go.Proofs.Yteafilojjdfllaa
end
section
namespace Go.Proofs.Yteafilojjdfllaa
open Go Go.RowKit Go.Proofs.YteafilojjdfllaaW.PrintWords Go.Proofs.YteafilojjdfllaaW.PrintLast
set_option linter.unusedVariables false
def msk (n : Nat) (o : List Nat) (k : Nat) : List Bool := (List.range n).map fun i => (o.take k).contains i
section
variable {P : Program} {ops : Array Oper} {Q : Exit → Act → World → Prop} {S : World → Prop} {ds : List Nat} {T : Bool × List (List Nat × List Nat)} {n k : Nat} {o : List Nat} {N : Option Tmp} {oi : Oper} {v : Value} {fuel : Nat} {a : Act} {w : World}
theorem takeO (hT : rtab .any ops = T) (hi : ops[o.getD k n]? = some oi) (hN : oi.dst = N) (hc : takeT T ds (msk n o k) (msk n o (k + 1)) (o.getD k n) = true)
  (hQ : ∀ c a w, Q (.panic c) (a.put oi.dst v) w → Q (.panic c) a w) (hy : YieldsIf P ops S oi v a) (hS : S w) {a' : Act} (ha : a.put N v = a')
  (h : wpAnyLast P .any ops Q S ds fuel (msk n o (k + 1)).toArray a' w) : wpAnyLast P .any ops Q S ds (fuel + 1) (msk n o k).toArray a w :=
 take_ (msk n o (k + 1)).toArray hi hN (take_of hT hc) hQ hy hS ha h
theorem pureO (hT : rtab .any ops = T) (hi : ops[o.getD k n]? = some oi) (hN : oi.dst = N) (hc : anyT T (msk n o k) (msk n o (k + 1)) (o.getD k n) = true)
  (hQ : ∀ c a w, Q (.panic c) (a.put oi.dst v) w → Q (.panic c) a w) (hy : Yields P ops oi v a) {a' : Act} (ha : a.put N v = a')
  (h : wpAnyLast P .any ops Q S ds fuel (msk n o (k + 1)).toArray a' w) : wpAnyLast P .any ops Q S ds (fuel + 1) (msk n o k).toArray a w :=
 pure_ (msk n o (k + 1)).toArray hi hN (any_of hT hc) hQ hy ha h
theorem oneO {i : Nat} (hT : rtab .any ops = T) (hi : ops[i]? = some oi) (hN : oi.dst = N) (hc : (readyT T.2 (msk n o k) == [i] && (msk n o k).set i true == msk n o (k + 1)) = true) (hd : i ∉ ds)
  (h : ∀ K : Act → World → Prop, Shut (∀ a' w', S w' → (S w' → wpAnyLast P .any ops Q S ds fuel (msk n o (k + 1)).toArray a' w') → K a' w') → if Region.wanted oi (yielded ops a.tmps) = true then Oper.wp P oi a w K Q else K (a.put N undef) w) :
  wpAnyLast P .any ops Q S ds (fuel + 1) (msk n o k).toArray a w :=
 one_ (msk n o (k + 1)).toArray hi hN (one_of hT hc) hd h
theorem lastO {i : Nat} (hT : rtab .any ops = T) (hi : ops[i]? = some oi) (hN : oi.dst = N) (hc : (readyT T.2 (msk n o k) == [i] && (msk n o k).set i true == msk n o (k + 1)) = true) (hd : i ∈ ds)
  (h : ∀ K : Act → World → Prop, Shut (∀ a' w', wpAnyLast P .any ops Q S ds fuel (msk n o (k + 1)).toArray a' w' → K a' w') → if Region.wanted oi (yielded ops a.tmps) = true then Oper.wp P oi a w K Q else K (a.put N undef) w) :
  wpAnyLast P .any ops Q S ds (fuel + 1) (msk n o k).toArray a w :=
 last_ (msk n o (k + 1)).toArray hi hN (one_of hT hc) hd h
end
end Go.Proofs.Yteafilojjdfllaa
end
section
namespace Go.Proofs
open Go.Shelf
end Go.Proofs
end
section
namespace Go.Proofs.Yteafilojjdfllaa
section
open Go Go.RowKit Go.Proofs.YteafilojjdfllaaW.PrintWords Go.Proofs.YteafilojjdfllaaW.PrintLast Go.Proofs.YteafilojjdfllaaW.PrintMore Go.Proofs.Yteafilojjdfllaa.PAll
set_option linter.unusedSimpArgs false
end
section
open Go Go.RowKit Go.Proofs.YteafilojjdfllaaW.PrintWords Go.Proofs.YteafilojjdfllaaW.PrintLast Go.Proofs.YteafilojjdfllaaW.PrintMore Go.Proofs.Yteafilojjdfllaa.PAll
set_option linter.unusedSimpArgs false
end
end Go.Proofs.Yteafilojjdfllaa
end
section
namespace Go.Proofs.Yteafilojjdfllaa
section
open Go Go.RowKit Go.Sort Go.Proofs.YteafilojjdfllaaW.PrintWords Go.Proofs.YteafilojjdfllaaW.PrintLast Go.Proofs.YteafilojjdfllaaW.PrintMore Go.Proofs.Yteafilojjdfllaa.PAll
instance : Inhabited S68 := ⟨z68⟩
end
section
open Go Go.RowKit Go.Sort Go.Proofs.YteafilojjdfllaaW.PrintWords Go.Proofs.YteafilojjdfllaaW.PrintLast Go.Proofs.YteafilojjdfllaaW.PrintMore Go.Proofs.Yteafilojjdfllaa.PAll
set_option linter.unusedSimpArgs false
end
section
namespace Lb
open Go Go.RowKit Go.Proofs.YteafilojjdfllaaW.PrintWords Go.Proofs.YteafilojjdfllaaW.PrintLast Go.Proofs.YteafilojjdfllaaW.PrintMore Go.Proofs.Yteafilojjdfllaa.PAll
set_option linter.unusedVariables false
set_option linter.unusedSimpArgs false
/-- it reads so in every world that has these blocks -/
def LF {α : Type} (d : Kd α) (W : World) (S : Nat → Prop) (A : Option Addr) (c : Nat) (xs : List α) : Prop :=
 ∀ X : World, (∀ b, S b → X.heap[b]? = W.heap[b]?) → xs.length ≤ c ∧ d.C X A xs.length xs
theorem LF.now {α : Type} {d : Kd α} {W : World} {S : Nat → Prop} {A : Option Addr} {c : Nat} {xs : List α} (h : LF d W S A c xs) : xs.length ≤ c ∧ d.C W A xs.length xs := h W (fun _ _ => rfl)
theorem LF.move {α : Type} {d : Kd α} {W Y : World} {S T : Nat → Prop} {A : Option Addr} {c : Nat} {xs : List α} (h : LF d W S A c xs) (hS : ∀ b, S b → T b ∧ Y.heap[b]? = W.heap[b]?) : LF d Y T A c xs :=
 fun X hX => h X (fun b hb => (hX b (hS b hb).1).trans (hS b hb).2)
/-- a name's value -/
def valueL (n : ByteArray) : List S68 → ByteArray
 | [] => ⟨#[]⟩
 | x :: l => if x.f0.toList = n.toList then x.f1 else valueL n l
theorem ldrop (l : List S68) (i : Nat) (h : i < l.length) : l.drop i = l.getD i z68 :: l.drop (i + 1) := by
 rw [List.drop_eq_getElem_cons h, List.getD_eq_getElem?_getD, List.getElem?_eq_getElem h, Option.getD_some]
theorem rdT68_nat (l : List S68) (i : Nat) : rd_T68 l (i : Int) = l.getD i z68 := by simp [rd_T68]
theorem value_l0 (l : List S68) (n : ByteArray) (hl : l.length ≤ 4000000000000000000) : ∀ (d i k : Nat), i ≤ l.length → l.length ≤ i + d → d < k → label_Value.l0 k n l (l.length : Int) (i : Int) = some (valueL n (l.drop i))
 | d, i, 0, _, _, h => by omega
 | d, i, k + 1, hi, hd, hk => by
  simp only [label_Value.l0, w64s i (by omega), rdT68_nat]
  by_cases hlt : i < l.length
  ·have ih := value_l0 l n hl (d - 1) (i + 1) k (by omega) (by omega) (by omega)
   rw [if_pos (by omega), if_pos (by omega), if_pos (by omega), ldrop l i hlt, valueL, ih]
   split <;> rfl
  ·rw [if_neg (by omega), List.drop_of_length_le (by omega), valueL]
theorem label_Value.val (l : List S68) (n : ByteArray) (hl : l.length ≤ 4000000000000000000) (k : Nat) (hk : l.length < k) : label_Value.f k l n = some (valueL n l) := by
 have := value_l0 l n hl l.length 0 k (by omega) (by omega) hk
 simpa [label_Value.f] using this
theorem rvalue_l0 (l : List S68) (n : ByteArray) (hl : l.length ≤ 4000000000000000000) : ∀ (d i k : Nat), i ≤ l.length → l.length ≤ i + d → d < k → varveref11_Value.l0 k l n (i : Int) = some (valueL n (l.drop i))
 | d, i, 0, _, _, h => by omega
 | d, i, k + 1, hi, hd, hk => by
  simp only [varveref11_Value.l0, w64s i (by omega), rdT68_nat]
  by_cases hlt : i < l.length
  ·have ih := rvalue_l0 l n hl (d - 1) (i + 1) k (by omega) (by omega) (by omega)
   rw [if_pos (by omega), if_pos (by omega), ldrop l i hlt, valueL, ih]
   split <;> rfl
  ·rw [if_neg (by omega), List.drop_of_length_le (by omega), valueL]
theorem varveref11_Value.val (l : List S68) (n : ByteArray) (hl : l.length ≤ 4000000000000000000) (k : Nat) (hk : l.length < k) : varveref11_Value.f k l n = some (valueL n l) := by
 have := rvalue_l0 l n hl l.length 0 k (by omega) (by omega) hk
 simpa [varveref11_Value.f] using this
end Lb
end
section
open Go Go.RowKit Go.Proofs.YteafilojjdfllaaW.PrintWords Go.Proofs.YteafilojjdfllaaW.PrintLast Go.Proofs.YteafilojjdfllaaW.PrintMore Go.Proofs.Yteafilojjdfllaa.PAll
set_option linter.unusedSimpArgs false
set_option linter.unusedVariables false
end
section
open Go Go.RowKit Go.Sort Go.Proofs.YteafilojjdfllaaW.PrintWords Go.Proofs.YteafilojjdfllaaW.PrintLast Go.Proofs.YteafilojjdfllaaW.PrintMore Go.Proofs.Yteafilojjdfllaa.PAll
set_option linter.unusedSimpArgs false
end
end Go.Proofs.Yteafilojjdfllaa
end
section
namespace Go.Proofs.Yteafilojjdfllaa
open Go Go.RowKit Go.Proofs.YteafilojjdfllaaW.PrintWords Go.Proofs.Yteafilojjdfllaa.PAll
theorem unq_suffix {step : List UInt8 → Step} : ∀ (n : Nat) (l : List UInt8), l.length ≤ n → ∀ {v t}, unqW step l = some (v, t) → t <:+ l
 | _, [], _, v, t, h => by rw [unqW] at h; cases h
 | 0, x :: l, h0, v, t, h => by simp at h0
 | n + 1, x :: r, hn, v, t, h => by
  rw [unqW] at h
  split at h
  ·cases h
  ·cases h; exact List.suffix_cons _ _
  ·rename_i c k _
   cases hq : unqW step (r.drop k) with
   | none => rw [hq] at h; cases h
   | some q =>
    rw [hq] at h
    cases h
    exact (unq_suffix n (r.drop k) (by simp only [List.length_drop]; simp only [List.length_cons] at hn; omega) (show unqW step (r.drop k) = some (q.1, q.2) from hq)).trans ((List.drop_suffix _ _).trans (List.suffix_cons _ _))
theorem val_suffix {step : List UInt8 → Step} {l v t : List UInt8} (h : valW step l = some (v, t)) : t <:+ l := by
 unfold valW at h
 split at h
 ·exact (unq_suffix _ _ (Nat.le_refl _) h).trans (List.suffix_cons _ _)
 ·cases h
/-- what stands behind a value, by its place -/
theorem val_place {step : List UInt8 → Step} {s : ByteArray} {m : Nat} {v t : List UInt8} (h : valW step (s.data.toList.drop m) = some (v, t)) : t.length ≤ s.size ∧ s.data.toList.drop (s.size - t.length) = t := by
 have h1 := (val_suffix h).trans (List.drop_suffix _ _)
 have h2 := h1.length_le
 have h3 : s.data.toList.length = s.size := by simp
 refine ⟨by omega, ?_⟩
 rw [← h3]
 exact (List.suffix_iff_eq_drop.1 h1).symm
theorem ext_take (s : ByteArray) (i n : Nat) : s.extract i (i + n) = ⟨((s.data.toList.drop i).take n).toArray⟩ := by
 apply ba_ext
 simp [List.take_drop]
theorem ext_drop (s : ByteArray) (i : Nat) : (s.extract i s.size).data.toList = s.data.toList.drop i := by
 simp
 rw [List.take_of_length_le (by simp)]
end Go.Proofs.Yteafilojjdfllaa
end
section
namespace Go.Proofs.Yteafilojjdfllaa
section
open Go Go.RowKit Go.Proofs.YteafilojjdfllaaW.PrintWords Go.Proofs.YteafilojjdfllaaW.PrintLast Go.Proofs.YteafilojjdfllaaW.PrintMore Go.Proofs.Yteafilojjdfllaa.PAll
set_option linter.unusedVariables false
set_option linter.unusedSimpArgs false
/-- the reader's block -/
def SB (W : World) (g : Nat) (s : ByteArray) (i : Nat) (b : Bool) : Prop := W.heap[g]? = some (.cells #[.string s, .int .i64 (i : Int), .bool b] 159 (0, 0))
section
variable {W X : World} {g : Nat} {s : ByteArray} {i : Nat} {b : Bool}
theorem SB.c0 (h : SB W g s i b) : W.cell? ⟨g, 0, none⟩ = some (.string s) := (blk_cell h 0).trans rfl
theorem SB.c1 (h : SB W g s i b) : W.cell? ⟨g, 1, none⟩ = some (.int .i64 (i : Int)) := (blk_cell h 1).trans rfl
theorem SB.c2 (h : SB W g s i b) : W.cell? ⟨g, 2, none⟩ = some (.bool b) := (blk_cell h 2).trans rfl
theorem SB.z1 (h : SB W g s i b) : W.frozen? ⟨g, 1, none⟩ = false := blk_frozen h 1
theorem SB.z2 (h : SB W g s i b) : W.frozen? ⟨g, 2, none⟩ = false := blk_frozen h 2
theorem SB.lt (h : SB W g s i b) : g < W.heap.size := (Array.getElem?_eq_some_iff.1 h).1
theorem SB.set1 (h : SB W g s i b) (j : Nat) : SB (W.setCell ⟨g, 1, none⟩ (.int .i64 (j : Int))) g s j b := by simpa [SB] using blk_set h 1 (.int .i64 (j : Int))
theorem SB.set2 (h : SB W g s i b) (c : Bool) : SB (W.setCell ⟨g, 2, none⟩ (.bool c)) g s i c := by simpa [SB] using blk_set h 2 (.bool c)
theorem SB.below (h : SB W g s i b) (hb : Below W.heap.size W X) : SB X g s i b := (hb.block g h.lt).trans h
theorem SB.alloc (h : SB W g s i b) (o : Obj) : SB (W.alloc o) g s i b := h.below (below_alloc (Below.refl _ _) o)
theorem SB.drewN (h : SB W g s i b) (n : Nat) : SB (W.drewN n) g s i b := h
theorem SB.drew (h : SB W g s i b) : SB W.drew g s i b := h
end
/-- how a step of the reader ends -/
def SPost (w0 w : World) (g : Nat) (s : ByteArray) (i : Nat) (b : Bool) (v : Value) (e : Ending) (w' : World) : Prop :=
 e = .returned v ∧ Below w0.heap.size w0 w' ∧ KeepBut w w' g none ∧ SB w' g s i b
/-- the reader moves on -/
theorem SPost.moved {w0 w : World} {g : Nat} {s : ByteArray} {i j : Nat} {b : Bool} {v : Value} {m : Nat} (hB : Below w0.heap.size w0 w) (hg : w0.heap.size ≤ g) (hS : SB w g s i b) : SPost w0 w g s j b v (.returned v) ((w.drewN m).setCell ⟨g, 1, none⟩ (.int .i64 (j : Int))) :=
 ⟨rfl, (pw_below_drewN hB m).setCell hg _, (keep_drewN (KeepBut.refl w g none) m).set_ 1 _, (hS.drewN m).set1 j⟩
end
section
open Go Go.RowKit Go.Proofs.YteafilojjdfllaaW.PrintWords Go.Proofs.YteafilojjdfllaaW.PrintLast Go.Proofs.YteafilojjdfllaaW.PrintMore Go.Proofs.Yteafilojjdfllaa.PAll
set_option linter.unusedVariables false
set_option linter.unusedSimpArgs false
theorem measS {W W' : World} {g n j : Nat} (h : j < n) (c1 : W.cell? ⟨g, 1, none⟩ = some (.int .i64 (j : Int))) (c2 : W'.cell? ⟨g, 1, none⟩ = some (.int .i64 ((j + 1 : Nat) : Int))) : n - (intOf ((W'.cell? ⟨g, 1, none⟩).getD undef)).toNat < n - (intOf ((W.cell? ⟨g, 1, none⟩).getD undef)).toNat := by
 rw [c1, c2]
 show n - ((j + 1 : Nat) : Int).toNat < n - (j : Int).toNat
 omega
section
variable {P : Program} {ops : Array Oper} {Q : Exit → Act → World → Prop} {S : World → Prop} {ds : List Nat} {T : Bool × List (List Nat × List Nat)}
end
end
end Go.Proofs.Yteafilojjdfllaa
end
section
namespace Go.Proofs.Yteafilojjdfllaa
section
open Go Go.Proofs.Yteafilojjdfllaa.PAll
end
section
open Go Go.RowKit Go.Proofs.YteafilojjdfllaaW.PrintWords Go.Proofs.YteafilojjdfllaaW.PrintLast Go.Proofs.YteafilojjdfllaaW.PrintMore Go.Proofs.Yteafilojjdfllaa.PAll
set_option linter.unusedVariables false
set_option linter.unusedSimpArgs false
def bys (l : List UInt8) : List Int := l.map fun b => (b.toNat : Int)
/-- bytes that may be appended to: a row of the call's own, or one with no room behind it -/
def BR (W : World) (base : Nat) (v : Value) (xs : List UInt8) : Prop :=
 (Kd.int .u8).R 5 W base (fun _ => True) v (bys xs) ∨ ∃ A, v = .slice A xs.length xs.length ∧ (Kd.int .u8).C W A xs.length (bys xs)
theorem BR.below {W W1 : World} {base : Nat} {v : Value} {xs : List UInt8} (h : BR W base v xs) (hb : Below W.heap.size W W1) : BR W1 base v xs := by
 rcases h with h | ⟨A, e, h⟩
 ·exact .inl (Kd.R_below h hb)
 ·exact .inr ⟨A, e, Kd.C_below h hb⟩
section
variable {ops : Array Oper} {rest : List Oper} {o : Oper} {a : Act} {Q : Exit → Act → World → Prop}
end
end
section
open Go Go.RowKit Go.Proofs.YteafilojjdfllaaW.PrintWords Go.Proofs.YteafilojjdfllaaW.PrintLast Go.Proofs.YteafilojjdfllaaW.PrintMore Go.Proofs.Yteafilojjdfllaa.PAll
set_option linter.unusedVariables false
set_option linter.unusedSimpArgs false
end
section
open Go Go.RowKit Go.Proofs.YteafilojjdfllaaW.PrintWords Go.Proofs.YteafilojjdfllaaW.PrintLast Go.Proofs.YteafilojjdfllaaW.PrintMore Go.Proofs.Yteafilojjdfllaa.PAll
set_option linter.unusedVariables false
set_option linter.unusedSimpArgs false
/-- the reader's block -/
def RB (W : World) (g : Nat) (A : Option Addr) (n c : Nat) (i : Int) (b : Bool) : Prop := W.heap[g]? = some (.cells #[.slice A n c, .int .i64 i, .bool b] 93 (0, 0))
section
variable {W X : World} {g : Nat} {A : Option Addr} {n c : Nat} {i : Int} {b : Bool}
theorem RB.c0 (h : RB W g A n c i b) : W.cell? ⟨g, 0, none⟩ = some (.slice A n c) := (blk_cell h 0).trans rfl
theorem RB.c1 (h : RB W g A n c i b) : W.cell? ⟨g, 1, none⟩ = some (.int .i64 i) := (blk_cell h 1).trans rfl
theorem RB.c2 (h : RB W g A n c i b) : W.cell? ⟨g, 2, none⟩ = some (.bool b) := (blk_cell h 2).trans rfl
theorem RB.z1 (h : RB W g A n c i b) : W.frozen? ⟨g, 1, none⟩ = false := blk_frozen h 1
theorem RB.z2 (h : RB W g A n c i b) : W.frozen? ⟨g, 2, none⟩ = false := blk_frozen h 2
theorem RB.lt (h : RB W g A n c i b) : g < W.heap.size := (Array.getElem?_eq_some_iff.1 h).1
theorem RB.set1 (h : RB W g A n c i b) (j : Int) : RB (W.setCell ⟨g, 1, none⟩ (.int .i64 j)) g A n c j b := by simpa [RB] using blk_set h 1 (.int .i64 j)
theorem RB.set2 (h : RB W g A n c i b) (d : Bool) : RB (W.setCell ⟨g, 2, none⟩ (.bool d)) g A n c i d := by simpa [RB] using blk_set h 2 (.bool d)
theorem RB.below (h : RB W g A n c i b) (hb : Below W.heap.size W X) : RB X g A n c i b := (hb.block g h.lt).trans h
theorem RB.drewN (h : RB W g A n c i b) (m : Nat) : RB (W.drewN m) g A n c i b := h
end
end
section
open Go Go.RowKit Go.Proofs.YteafilojjdfllaaW.PrintWords Go.Proofs.YteafilojjdfllaaW.PrintLast Go.Proofs.YteafilojjdfllaaW.PrintMore Go.Proofs.Yteafilojjdfllaa.PAll
set_option linter.unusedVariables false
set_option linter.unusedSimpArgs false
end
end Go.Proofs.Yteafilojjdfllaa
end
section
namespace Go.Proofs.Yteafilojjdfllaa
open Go Go.RowKit Go.Proofs.YteafilojjdfllaaW.PrintWords Go.Proofs.YteafilojjdfllaaW.PrintLast Go.Proofs.YteafilojjdfllaaW.PrintMore Go.Proofs.Yteafilojjdfllaa.PAll
set_option linter.unusedVariables false
set_option linter.unusedSimpArgs false
/-- what is thrown -/
def badP : List PanicEntry := [{ v := .iface 198 (.agg #[]), recovered := false }]
/-- the reader's block -/
def RD (W : World) (g : Nat) (A : Option Addr) (n c : Nat) (i k : Int) : Prop := W.heap[g]? = some (.cells #[.slice A n c, .int .i64 i, .int .i64 k] 164 (0, 0))
section
variable {W X : World} {g : Nat} {A : Option Addr} {n c : Nat} {i k : Int}
theorem RD.c0 (h : RD W g A n c i k) : W.cell? ⟨g, 0, none⟩ = some (.slice A n c) := (blk_cell h 0).trans rfl
theorem RD.c1 (h : RD W g A n c i k) : W.cell? ⟨g, 1, none⟩ = some (.int .i64 i) := (blk_cell h 1).trans rfl
theorem RD.c2 (h : RD W g A n c i k) : W.cell? ⟨g, 2, none⟩ = some (.int .i64 k) := (blk_cell h 2).trans rfl
theorem RD.z1 (h : RD W g A n c i k) : W.frozen? ⟨g, 1, none⟩ = false := blk_frozen h 1
theorem RD.z2 (h : RD W g A n c i k) : W.frozen? ⟨g, 2, none⟩ = false := blk_frozen h 2
theorem RD.lt (h : RD W g A n c i k) : g < W.heap.size := (Array.getElem?_eq_some_iff.1 h).1
theorem RD.set1 (h : RD W g A n c i k) (j : Int) : RD (W.setCell ⟨g, 1, none⟩ (.int .i64 j)) g A n c j k := by simpa [RD] using blk_set h 1 (.int .i64 j)
theorem RD.set2 (h : RD W g A n c i k) (j : Int) : RD (W.setCell ⟨g, 2, none⟩ (.int .i64 j)) g A n c i j := by simpa [RD] using blk_set h 2 (.int .i64 j)
theorem RD.below (h : RD W g A n c i k) (hb : Below W.heap.size W X) : RD X g A n c i k := (hb.block g h.lt).trans h
theorem RD.drewN (h : RD W g A n c i k) (m : Nat) : RD (W.drewN m) g A n c i k := h
end
/-- how a part of the reader ends: it threw, or it hands back v and stands behind it -/
def RDPost (w0 w : World) (g : Nat) (A : Option Addr) (n c : Nat) (k : Int) (Q : Option (Value × List UInt8)) (e : Ending) (w' : World) : Prop :=
 Below w0.heap.size w0 w' ∧ KeepBut w w' g none ∧
  ((Q = none ∧ e = .panicked badP) ∨ ∃ v r, Q = some (v, r) ∧ e = .returned v ∧ RD w' g A n c ((n : Int) - (r.length : Nat)) k)
end Go.Proofs.Yteafilojjdfllaa
end
section
namespace Go.Proofs.Yteafilojjdfllaa
open Go Go.RowKit Go.Proofs.YteafilojjdfllaaW.PrintWords Go.Proofs.YteafilojjdfllaaW.PrintLast Go.Proofs.YteafilojjdfllaaW.PrintMore Go.Proofs.Yteafilojjdfllaa.PAll
set_option linter.unusedVariables false
set_option linter.unusedSimpArgs false
/-- the parser's block -/
def PB (W : World) (g : Nat) (s : ByteArray) (i : Nat) (l : Int) : Prop := W.heap[g]? = some (.cells #[.string s, .int .i64 (i : Int), .int .i64 l] 172 (0, 0))
section
variable {W X : World} {g : Nat} {s : ByteArray} {i : Nat} {l : Int}
theorem PB.c0 (h : PB W g s i l) : W.cell? ⟨g, 0, none⟩ = some (.string s) := (blk_cell h 0).trans rfl
theorem PB.c1 (h : PB W g s i l) : W.cell? ⟨g, 1, none⟩ = some (.int .i64 (i : Int)) := (blk_cell h 1).trans rfl
theorem PB.c2 (h : PB W g s i l) : W.cell? ⟨g, 2, none⟩ = some (.int .i64 l) := (blk_cell h 2).trans rfl
theorem PB.z1 (h : PB W g s i l) : W.frozen? ⟨g, 1, none⟩ = false := blk_frozen h 1
theorem PB.z2 (h : PB W g s i l) : W.frozen? ⟨g, 2, none⟩ = false := blk_frozen h 2
theorem PB.lt (h : PB W g s i l) : g < W.heap.size := (Array.getElem?_eq_some_iff.1 h).1
theorem PB.set1 (h : PB W g s i l) (j : Nat) : PB (W.setCell ⟨g, 1, none⟩ (.int .i64 (j : Int))) g s j l := by simpa [PB] using blk_set h 1 (.int .i64 (j : Int))
theorem PB.set2 (h : PB W g s i l) (c : Int) : PB (W.setCell ⟨g, 2, none⟩ (.int .i64 c)) g s i c := by simpa [PB] using blk_set h 2 (.int .i64 c)
theorem PB.below (h : PB W g s i l) (hb : Below W.heap.size W X) : PB X g s i l := (hb.block g h.lt).trans h
end
/-- how a step of the parser ends -/
def PPost (w0 w : World) (g : Nat) (s : ByteArray) (i : Nat) (l : Int) (v : Value) (e : Ending) (w' : World) : Prop :=
 e = .returned v ∧ Below w0.heap.size w0 w' ∧ KeepBut w w' g none ∧ PB w' g s i l
theorem pref158 (w : World) (t v : ByteArray) (b : Bool) (hb : prefB t v = b) : Calls Try.prog 158 #[.string t, .string v] w fun e w' => e = .returned (.bool b) ∧ Below w.heap.size w w' := by
 refine (strings_HasPrefix.calls t v b w (by rw [prefix_val, hb])).mono ?_
 rintro e w' ⟨rfl, h⟩
 refine ⟨rfl, ?_⟩
 obtain ⟨m, rfl⟩ := h
 exact pw_below_drewN (Below.refl _ _) _
noncomputable def tabR174_1 : Bool × List (List Nat × List Nat) := rtab .any (opsOf Try.f174 1)
theorem tabR174_1_eq : rtab .any (opsOf Try.f174 1) = tabR174_1 := rfl
set_option maxRecDepth 100000 in
set_option maxHeartbeats 16000000 in
/-- takes. -/
theorem takes174 (w0 w : World) (g : Nat) (s : ByteArray) (i : Nat) (l : Int) (x : ByteArray) (b : Bool) (hi : i ≤ s.size) (hs : s.size ≤ 1000000000) (hx : x.size ≤ 2) (hb : prefB (s.extract i s.size) x = b) (hg : w0.heap.size ≤ g) (hB : Below w0.heap.size w0 w) (hP : PB w g s i l) :
  Calls Try.prog 174 #[.pointer (some ⟨g, 0, none⟩), .string x] w (PPost w0 w g s (if b = true then i + x.size else i) l (.bool b)) := by
 have HP := Lib.hid hP
 have HB := Lib.hid hB
 have HX := Lib.hid hb
 obtain ⟨J, eJ⟩ : ∃ J, (if b = true then i + x.size else i) = J := ⟨_, rfl⟩
 rw [eJ]
 have HJ := Lib.hid eJ
 clear eJ
 have f0 := fun W (hb : Below w.heap.size w W) => pw_cell_below hb HP.out.c0
 have f1 := fun W (hb : Below w.heap.size w W) => pw_cell_below hb HP.out.c1
 have hiI : (i : Int) ≤ (s.size : Int) := by omega
 clear hP hB hb
 go_enter Try.func174, Try.ntmps174
 go_wp2_with fail
 refine start_ (n := 12) (S := fun W => Below w.heap.size w W) (ds := []) (msk 12 [0, 1, 2, 4, 5, 6, 9, 3, 7, 8, 10, 11] 0).toArray (by kernel_rfl) rfl rfl (below_drew (Below.refl _ _)) (fun hHeld => ?_)
 refine with_tab (T := tabR174_1) tabR174_1_eq (fun HT_ => ?_)
 iterate 10 (first | (refine pureO HT_.out (N := some _) (v := ?_) (a' := ?_) rfl rfl (by kernel_rfl) (fun _ _ _ h => h) (Or.inl ⟨by rfl, ?_⟩) ?_ ?_; rotate_left; intro w'; go_simp; (with_reducible rfl); rotate_left; simp only [Act.put, List.setIfInBounds_toArray, List.set_cons_zero, List.set_cons_succ, i64_w, i32_w]; rfl) | (refine takeO HT_.out (N := some _) (v := ?_) (a' := ?_) rfl rfl (by kernel_rfl) (fun _ _ _ h => h) (Or.inl ⟨by rfl, ?_⟩) hHeld ?_ ?_; rotate_left; intro w' hh; have q0 := f0 w' hh; have q1 := f1 w' hh; go_simp; (with_reducible rfl); rotate_left; simp only [Act.put, List.setIfInBounds_toArray, List.set_cons_zero, List.set_cons_succ, i64_w, i32_w]; rfl))
 refine oneO (i := 10) (N := some 15) HT_.out rfl rfl (by kernel_rfl) (by decide) (fun K_ hK_ => ?_)
 refine goes_ Try.func158 (by kernel_rfl) rfl #[.string (s.extract i s.size), .string x] (by rfl) rfl rfl (by (try simp only [List.map_toArray, List.map_cons, List.map_nil]); first | done | rfl) ?_
 (with_reducible refine (pref158 _ _ x b HX.out).mono ?_)
 rintro e w9 ⟨rfl, hb9⟩
 refine ⟨_, rfl, ?_⟩
 refine hK_.out _ _ (below_step hHeld hb9) (fun hHeld => ?_)
 clear hK_ K_
 try simp only [Act.put, List.setIfInBounds_toArray, List.set_cons_zero, List.set_cons_succ]
 (refine pureO HT_.out (N := some _) (v := ?_) (a' := ?_) rfl rfl (by kernel_rfl) (fun _ _ _ h => h) (Or.inl ⟨by rfl, ?_⟩) ?_ ?_; rotate_left; intro w'; go_simp; (with_reducible rfl); rotate_left; simp only [Act.put, List.setIfInBounds_toArray, List.set_cons_zero, List.set_cons_succ, i64_w, i32_w]; rfl)
 refine done_ (done_of HT_.out (by kernel_rfl)) ?_
 have HP1 := Lib.hid (HP.out.below hHeld)
 have HB1 := Lib.hid (below_step HB.out hHeld)
 have HK1 := Lib.hid (KeepBut.of_below hHeld g none)
 clear f0 f1
 cases b with
 | false =>
  have eJ : J = i := HJ.out.symm
  subst eJ
  go_wp2
  go_ret
  exact ⟨rfl, HB1.out, HK1.out, HP1.out⟩
 | true =>
  have eJ : J = i + x.size := HJ.out.symm
  subst eJ
  have f1 := HP1.out.c1
  have f2 := HP1.out.z1
  have HP2 := Lib.hid (HP1.out.set1 (i + x.size))
  have HB2 := Lib.hid (HB1.out.setCell (p := ⟨g, 1, none⟩) hg (.int .i64 ((i + x.size : Nat) : Int)))
  have HK2 := Lib.hid (HK1.out.set_ 1 (.int .i64 ((i + x.size : Nat) : Int)))
  go_wp2
  go_ret
  exact ⟨rfl, HB2.out, HK2.out, HP2.out⟩
set_option maxRecDepth 100000 in
set_option maxHeartbeats 16000000 in
/-- must. -/
theorem must187 (w0 w : World) (g : Nat) (s : ByteArray) (i : Nat) (l : Int) (x : ByteArray) (b : Bool) (hi : i ≤ s.size) (hs : s.size ≤ 1000000000) (hx : x.size ≤ 2) (hb : prefB (s.extract i s.size) x = b) (hg : w0.heap.size ≤ g) (hB : Below w0.heap.size w0 w) (hP : PB w g s i l) :
  Calls Try.prog 187 #[.pointer (some ⟨g, 0, none⟩), .string x] w fun e w' => Below w0.heap.size w0 w' ∧ KeepBut w w' g none ∧ ((b = false ∧ e = .panicked badP) ∨ (b = true ∧ e = .returned (.tuple #[]) ∧ PB w' g s (i + x.size) l)) := by
 have H1 := Lib.hid (takes174 w0 w g s i l x b hi hs hx hb hg hB hP)
 clear hb hB hP
 go_enter Try.func187, Try.ntmps187
 go_wp2_with fail
 (with_reducible refine H1.out.mono ?_)
 rintro e w1 ⟨rfl, hb1, hk1, hp1⟩
 have HR := Lib.hid (And.intro hb1 (And.intro hk1 hp1))
 clear hb1 hk1 hp1 H1
 cases b with
 | false =>
  go_wp2
  exact ⟨rfl, HR.out.1, HR.out.2.1, rfl⟩
 | true =>
  go_wp2
  refine ⟨rfl, .tuple #[], results_none rfl _ _ _, HR.out.1, HR.out.2.1, rfl, ?_⟩
  have h := HR.out.2.2
  rwa [if_pos trivial] at h
end Go.Proofs.Yteafilojjdfllaa
end
section
namespace Go.Proofs.Yteafilojjdfllaa
open Go Go.RowKit Go.Proofs.YteafilojjdfllaaW.PrintWords Go.Proofs.YteafilojjdfllaaW.PrintLast Go.Proofs.YteafilojjdfllaaW.PrintMore Go.Proofs.Yteafilojjdfllaa.PAll
set_option linter.unusedVariables false
set_option linter.unusedSimpArgs false
noncomputable def tabR189_1 : Bool × List (List Nat × List Nat) := rtab .any (opsOf Try.f189 1)
theorem tabR189_1_eq : rtab .any (opsOf Try.f189 1) = tabR189_1 := rfl
set_option maxRecDepth 100000 in
set_option maxHeartbeats 16000000 in
/-- value. -/
theorem value189n (w0 w : World) (g : Nat) (s : ByteArray) (i : Nat) (l : Int) (hq : valW stepP (s.data.toList.drop i) = none) (hi : i ≤ s.size) (hs : s.size ≤ 1000000000) (hg : w0.heap.size ≤ g) (hB : Below w0.heap.size w0 w) (hP : PB w g s i l) :
  Calls Try.prog 189 #[.pointer (some ⟨g, 0, none⟩)] w fun e w' => Below w0.heap.size w0 w' ∧ KeepBut w w' g none ∧ e = .panicked badP := by
 have HP := Lib.hid hP
 have HB := Lib.hid hB
 have HU : Hid (∀ W, Calls Try.prog 132 #[.string s, .int .i64 (i : Int)] W fun e w' => e = .returned (.tuple #[.string ⟨#[]⟩, .int .i64 0, .bool false]) ∧ Below W.heap.size W w') := Lib.hid (fun W => by
  have h := unq132 W s i hi hs
  rw [hq] at h
  skip
  exact h)
 have f0 := fun W (hb : Below w.heap.size w W) => pw_cell_below hb HP.out.c0
 have f1 := fun W (hb : Below w.heap.size w W) => pw_cell_below hb HP.out.c1
 clear hP hB
 go_enter Try.func189, Try.ntmps189
 go_wp2_with fail
 refine start_ (n := 16) (S := fun W => Below w.heap.size w W) (ds := []) (msk 16 [0, 1, 2, 4, 5, 6, 3, 7, 8, 9, 10, 11, 12, 13, 14, 15] 0).toArray (by kernel_rfl) rfl rfl (below_drew (Below.refl _ _)) (fun hHeld => ?_)
 refine with_tab (T := tabR189_1) tabR189_1_eq (fun HT_ => ?_)
 iterate 8 (first | (refine pureO HT_.out (N := some _) (v := ?_) (a' := ?_) rfl rfl (by kernel_rfl) (fun _ _ _ h => h) (Or.inl ⟨by rfl, ?_⟩) ?_ ?_; rotate_left; intro w'; go_simp; (with_reducible rfl); rotate_left; simp only [Act.put, List.setIfInBounds_toArray, List.set_cons_zero, List.set_cons_succ, i64_w, i32_w]; rfl) | (refine takeO HT_.out (N := some _) (v := ?_) (a' := ?_) rfl rfl (by kernel_rfl) (fun _ _ _ h => h) (Or.inl ⟨by rfl, ?_⟩) hHeld ?_ ?_; rotate_left; intro w' hh; have q0 := f0 w' hh; have q1 := f1 w' hh; go_simp; (with_reducible rfl); rotate_left; simp only [Act.put, List.setIfInBounds_toArray, List.set_cons_zero, List.set_cons_succ, i64_w, i32_w]; rfl))
 refine oneO (i := 8) (N := some 15) HT_.out rfl rfl (by kernel_rfl) (by decide) (fun K_ hK_ => ?_)
 refine goes_ Try.func132 (by kernel_rfl) rfl #[.string s, .int .i64 (i : Int)] (by rfl) rfl rfl (by (try simp only [List.map_toArray, List.map_cons, List.map_nil]); first | done | rfl) ?_
 (with_reducible refine (HU.out _).mono ?_)
 rintro e w9 ⟨rfl, hb9⟩
 refine ⟨_, rfl, ?_⟩
 refine hK_.out _ _ (below_step hHeld hb9) (fun hHeld => ?_)
 clear hK_ K_
 try simp only [Act.put, List.setIfInBounds_toArray, List.set_cons_zero, List.set_cons_succ]
 iterate 7 (refine pureO HT_.out (N := some _) (v := ?_) (a' := ?_) rfl rfl (by kernel_rfl) (fun _ _ _ h => h) (Or.inl ⟨by rfl, ?_⟩) ?_ ?_; rotate_left; intro w'; go_simp; (with_reducible rfl); rotate_left; simp only [Act.put, List.setIfInBounds_toArray, List.set_cons_zero, List.set_cons_succ, i64_w, i32_w]; rfl)
 refine done_ (done_of HT_.out (by kernel_rfl)) ?_
 have HP1 := Lib.hid (HP.out.below hHeld)
 have HB1 := Lib.hid (below_step HB.out hHeld)
 have HK1 := Lib.hid (KeepBut.of_below hHeld g none)
 clear f0 f1
 go_wp2
 exact ⟨rfl, HB1.out, HK1.out, rfl⟩
set_option maxRecDepth 100000 in
set_option maxHeartbeats 16000000 in
/-- value. -/
theorem value189y (w0 w : World) (g : Nat) (s : ByteArray) (i : Nat) (l : Int) (v r : List UInt8) (j : Nat) (hq : valW stepP (s.data.toList.drop i) = some (v, r)) (hj : (s.size : Int) - (r.length : Nat) = (j : Int)) (hi : i ≤ s.size) (hs : s.size ≤ 1000000000) (hg : w0.heap.size ≤ g) (hB : Below w0.heap.size w0 w) (hP : PB w g s i l) :
  Calls Try.prog 189 #[.pointer (some ⟨g, 0, none⟩)] w fun e w' => Below w0.heap.size w0 w' ∧ KeepBut w w' g none ∧ e = .returned (.string ⟨v.toArray⟩) ∧ PB w' g s j l := by
 have HP := Lib.hid hP
 have HB := Lib.hid hB
 have HU : Hid (∀ W, Calls Try.prog 132 #[.string s, .int .i64 (i : Int)] W fun e w' => e = .returned (.tuple #[.string ⟨v.toArray⟩, .int .i64 (j : Int), .bool true]) ∧ Below W.heap.size W w') := Lib.hid (fun W => by
  have h := unq132 W s i hi hs
  rw [hq] at h
  rw [← hj]
  exact h)
 have f0 := fun W (hb : Below w.heap.size w W) => pw_cell_below hb HP.out.c0
 have f1 := fun W (hb : Below w.heap.size w W) => pw_cell_below hb HP.out.c1
 clear hP hB
 go_enter Try.func189, Try.ntmps189
 go_wp2_with fail
 refine start_ (n := 16) (S := fun W => Below w.heap.size w W) (ds := []) (msk 16 [0, 1, 2, 4, 5, 6, 3, 7, 8, 9, 10, 11, 12, 13, 14, 15] 0).toArray (by kernel_rfl) rfl rfl (below_drew (Below.refl _ _)) (fun hHeld => ?_)
 refine with_tab (T := tabR189_1) tabR189_1_eq (fun HT_ => ?_)
 iterate 8 (first | (refine pureO HT_.out (N := some _) (v := ?_) (a' := ?_) rfl rfl (by kernel_rfl) (fun _ _ _ h => h) (Or.inl ⟨by rfl, ?_⟩) ?_ ?_; rotate_left; intro w'; go_simp; (with_reducible rfl); rotate_left; simp only [Act.put, List.setIfInBounds_toArray, List.set_cons_zero, List.set_cons_succ, i64_w, i32_w]; rfl) | (refine takeO HT_.out (N := some _) (v := ?_) (a' := ?_) rfl rfl (by kernel_rfl) (fun _ _ _ h => h) (Or.inl ⟨by rfl, ?_⟩) hHeld ?_ ?_; rotate_left; intro w' hh; have q0 := f0 w' hh; have q1 := f1 w' hh; go_simp; (with_reducible rfl); rotate_left; simp only [Act.put, List.setIfInBounds_toArray, List.set_cons_zero, List.set_cons_succ, i64_w, i32_w]; rfl))
 refine oneO (i := 8) (N := some 15) HT_.out rfl rfl (by kernel_rfl) (by decide) (fun K_ hK_ => ?_)
 refine goes_ Try.func132 (by kernel_rfl) rfl #[.string s, .int .i64 (i : Int)] (by rfl) rfl rfl (by (try simp only [List.map_toArray, List.map_cons, List.map_nil]); first | done | rfl) ?_
 (with_reducible refine (HU.out _).mono ?_)
 rintro e w9 ⟨rfl, hb9⟩
 refine ⟨_, rfl, ?_⟩
 refine hK_.out _ _ (below_step hHeld hb9) (fun hHeld => ?_)
 clear hK_ K_
 try simp only [Act.put, List.setIfInBounds_toArray, List.set_cons_zero, List.set_cons_succ]
 iterate 7 (refine pureO HT_.out (N := some _) (v := ?_) (a' := ?_) rfl rfl (by kernel_rfl) (fun _ _ _ h => h) (Or.inl ⟨by rfl, ?_⟩) ?_ ?_; rotate_left; intro w'; go_simp; (with_reducible rfl); rotate_left; simp only [Act.put, List.setIfInBounds_toArray, List.set_cons_zero, List.set_cons_succ, i64_w, i32_w]; rfl)
 refine done_ (done_of HT_.out (by kernel_rfl)) ?_
 have HP1 := Lib.hid (HP.out.below hHeld)
 have HB1 := Lib.hid (below_step HB.out hHeld)
 have HK1 := Lib.hid (KeepBut.of_below hHeld g none)
 clear f0 f1
 have f2 := HP1.out.z1
 have f1 := HP1.out.c1
 have HP2 := Lib.hid (HP1.out.set1 j)
 have HB2 := Lib.hid (HB1.out.setCell (p := ⟨g, 1, none⟩) hg (.int .i64 ((j : Nat) : Int)))
 have HK2 := Lib.hid (HK1.out.set_ 1 (.int .i64 ((j : Nat) : Int)))
 go_wp2
 go_ret
 exact ⟨HB2.out, HK2.out, rfl, HP2.out⟩
end Go.Proofs.Yteafilojjdfllaa
end
section
namespace Go.Proofs.Yteafilojjdfllaa
open Go Go.RowKit Go.Proofs.YteafilojjdfllaaW.PrintWords Go.Proofs.YteafilojjdfllaaW.PrintLast Go.Proofs.YteafilojjdfllaaW.PrintMore Go.Proofs.Yteafilojjdfllaa.PAll
set_option linter.unusedVariables false
set_option linter.unusedSimpArgs false
theorem assert198 (w : World) : (Instr.typeAssert (.iface 198 (.agg #[])) 20 198 true).run Try.prog w = .ok (.tuple #[.agg #[], .bool true]) w := by kernel_rfl
theorem tmps171 (p q x y : Value) : (#[p, q] ++ ((Array.replicate 15 undef).setIfInBounds 3 x).setIfInBounds 0 y) = #[p, q, y, undef, undef, x, undef, undef, undef, undef, undef, undef, undef, undef, undef, undef, undef] := rfl
abbrev Z5 : Array Value := #[.int .i64 0, .string ⟨#[]⟩, .string ⟨#[]⟩, .slice none 0 0, .slice none 0 0]
set_option maxRecDepth 100000 in
set_option maxHeartbeats 16000000 in
/-- it caught: no matcher, not well. -/
theorem catch171 (w0 : World) (g1 g2 : Nat) (a0 a1 a2 a3 a4 : Value) (b : Value) (older : List PanicEntry) (w : World) (hB : Below w0.heap.size w0 w) (hg1 : w0.heap.size ≤ g1) (hg2 : w0.heap.size ≤ g2) (h1 : w.heap[g1]? = some (.cells #[a0, a1, a2, a3, a4] 25 (0, 0))) (h2 : w.heap[g2]? = some (.cells #[b] 4 (0, 0))) (hne : g1 ≠ g2) :
  CallsD Try.prog 171 #[.pointer (some ⟨g1, 0, none⟩), .pointer (some ⟨g2, 0, none⟩)] (.panicking ({ v := .iface 198 (.agg #[]), recovered := false } :: older)) w fun e u' w' =>
   e = .returned (.tuple #[]) ∧ u' = .panicking ({ v := .iface 198 (.agg #[]), recovered := true } :: older) ∧ Below w0.heap.size w0 w' ∧ w'.heap[g1]? = some (.cells Z5 25 (0, 0)) ∧ w'.heap[g2]? = some (.cells #[.bool false] 4 (0, 0)) ∧ (w.heap.size ≤ w'.heap.size ∧ ∀ i, i < w.heap.size → i ≠ g1 → i ≠ g2 → w'.heap[i]? = w.heap[i]?) := by
 have hta := assert198 w
 have hl1 := (Array.getElem?_eq_some_iff.1 h1).1
 have hl2 := (Array.getElem?_eq_some_iff.1 h2).1
 have k1 : (w.alloc (.cells #[] 198)).heap[g1]? = some (.cells #[a0, a1, a2, a3, a4] 25 (0, 0)) := (Below.heap_alloc _ _ _ (by omega)).trans h1
 have k2 : (w.alloc (.cells #[] 198)).heap[g2]? = some (.cells #[b] 4 (0, 0)) := (Below.heap_alloc _ _ _ (by omega)).trans h2
 have HB := Lib.hid (below_alloc hB (.cells #[] 198))
 have K1 := Lib.hid k1
 have K2 := Lib.hid k2
 have y0 := blk_cell k1 0
 have y1 := blk_cell k1 1
 have y2 := blk_cell k1 2
 have y3 := blk_cell k1 3
 have y4 := blk_cell k1 4
 have z0 := blk_frozen k1 0
 have z1 := blk_frozen k1 1
 have z2 := blk_frozen k1 2
 have z3 := blk_frozen k1 3
 have z4 := blk_frozen k1 4
 have x0 := blk_cell k2 0
 have v0 := blk_frozen k2 0
 simp only [List.getElem?_toArray, List.getElem?_cons_zero, List.getElem?_cons_succ] at y0 y1 y2 y3 y4 x0
 have hne2 := hne.symm
 clear h1 h2 k1 k2 hl1 hl2 hB
 refine callsD_of_wpS Try.func171 rfl fun c₀ cs hu => ?_
 apply wpS_seq
 apply wpS_region
 simp [wpOpsS, go_sem, recoverD, hu, Try.ntmps171, Exit.thenS]
 rw [tmps171]
 refine wpS_of_wp ?_
 go_wp2
 refine ⟨rfl, _, rfl, .tuple #[], results_none rfl _ _ _, rfl, rfl, ?_, ?_, ?_, ?_, ?_⟩
 ·exact (((((HB.out.setCell hg1 _).setCell hg1 _).setCell hg1 _).setCell hg1 _).setCell hg1 _).setCell hg2 _
 ·exact (Below.heap_setCell _ _ _ _ hne).trans ((blk_set (blk_set (blk_set (blk_set (blk_set K1.out 0 _) 1 _) 2 _) 3 _) 4 _).trans (by rfl))
 ·refine (blk_set (cs := #[b]) ?_ 0 _).trans (by rfl)
  exact (Below.heap_setCell _ _ _ _ hne2).trans ((Below.heap_setCell _ _ _ _ hne2).trans ((Below.heap_setCell _ _ _ _ hne2).trans ((Below.heap_setCell _ _ _ _ hne2).trans ((Below.heap_setCell _ _ _ _ hne2).trans K2.out))))
 ·simp
 ·intro i hi h1 h2
  exact (Below.heap_setCell _ _ _ _ h2).trans ((Below.heap_setCell _ _ _ _ h1).trans ((Below.heap_setCell _ _ _ _ h1).trans ((Below.heap_setCell _ _ _ _ h1).trans ((Below.heap_setCell _ _ _ _ h1).trans ((Below.heap_setCell _ _ _ _ h1).trans (Below.heap_alloc _ _ _ hi))))))
set_option maxRecDepth 100000 in
set_option maxHeartbeats 16000000 in
/-- nothing was thrown. -/
theorem idle171 (p q : Value) (w : World) :
  CallsD Try.prog 171 #[p, q] .returning w fun e u' w' => e = .returned (.tuple #[]) ∧ u' = .returning ∧ w' = w := by
 refine callsD_of_wpS Try.func171 rfl fun c₀ cs hu => ?_
 apply wpS_seq
 apply wpS_region
 simp [wpOpsS, go_sem, recoverD, hu, Try.ntmps171, Exit.thenS]
 rw [tmps171]
 refine wpS_of_wp ?_
 go_wp2
 refine ⟨rfl, .returning, ?_, .tuple #[], results_none rfl _ _ _, rfl, rfl, rfl⟩
 cases c₀
 simp_all
/-- a matcher's value -/
abbrev mV (m : S25) (A3 : Option Addr) (c3 : Nat) (A4 : Option Addr) (c4 : Nat) : Value := .agg #[.int .i64 m.f0, .string m.f1, .string m.f2, .slice A3 m.f3.length c3, .slice A4 m.f4.length c4]
/-- how a reader's closure ends: it threw, or it hands back a matcher in memory of its own, and the reader's block is so -/
def RedPost (w0 w : World) (g : Nat) (Q : Option (S25 × Obj)) (e : Ending) (w' : World) : Prop :=
 Below w0.heap.size w0 w' ∧ KeepBut w w' g none ∧ ((Q = none ∧ e = .panicked badP) ∨ ∃ m o A3 c3 A4 c4, Q = some (m, o) ∧ e = .returned (mV m A3 c3 A4 c4) ∧ MF w' (fun b => w.heap.size ≤ b ∧ b < w'.heap.size) m A3 c3 A4 c4 ∧ w'.heap[g]? = some o)
/-- how reads ends -/
def ReadsPost (w0 w : World) (g : Nat) (Q : Option (S25 × Obj)) (e : Ending) (w' : World) : Prop :=
 Below w0.heap.size w0 w' ∧ KeepBut w w' g none ∧ ((Q = none ∧ e = .returned (.tuple #[.agg Z5, .bool false])) ∨ ∃ m o A3 c3 A4 c4, Q = some (m, o) ∧ e = .returned (.tuple #[mV m A3 c3 A4 c4, .bool true]) ∧ MF w' (fun b => w.heap.size ≤ b ∧ b < w'.heap.size) m A3 c3 A4 c4 ∧ w'.heap[g]? = some o)
theorem keep_two {w V W X : World} {g g1 g2 : Nat} (hV : Below w.heap.size w V) (h1 : w.heap.size ≤ g1) (h2 : w.heap.size ≤ g2) (hK : KeepBut V W g none) (hs : W.heap.size ≤ X.heap.size) (hX : ∀ i, i < W.heap.size → i ≠ g1 → i ≠ g2 → X.heap[i]? = W.heap[i]?) : KeepBut w X g none := by
 have a := hV.size
 have b := hK.1
 exact ⟨by omega, fun i hi hg hr => (hX i (by omega) (by omega) (by omega)).trans ((hK.2 i (by omega) hg hr).trans (hV.block i hi))⟩
end Go.Proofs.Yteafilojjdfllaa
end
section
namespace Go.Proofs.Yteafilojjdfllaa
open Go Go.Proofs.Yteafilojjdfllaa.PAll
end Go.Proofs.Yteafilojjdfllaa
end
section
namespace Go.Proofs.Yteafilojjdfllaa
open Go Go.Proofs.Yteafilojjdfllaa.PAll
end Go.Proofs.Yteafilojjdfllaa
end
section
namespace Go.Proofs.Yteafilojjdfllaa
open Go Go.RowKit Go.Proofs.YteafilojjdfllaaW.PrintWords Go.Proofs.YteafilojjdfllaaW.PrintLast Go.Proofs.YteafilojjdfllaaW.PrintMore Go.Proofs.Yteafilojjdfllaa.PAll
set_option linter.unusedVariables false
set_option linter.unusedSimpArgs false
end Go.Proofs.Yteafilojjdfllaa
end
section
namespace Go.Proofs.Yteafilojjdfllaa
open Go Go.RowKit Go.Proofs.YteafilojjdfllaaW.PrintWords Go.Proofs.YteafilojjdfllaaW.PrintLast Go.Proofs.YteafilojjdfllaaW.PrintMore Go.Proofs.Yteafilojjdfllaa.PAll
set_option linter.unusedVariables false
set_option linter.unusedSimpArgs false
end Go.Proofs.Yteafilojjdfllaa
end
section
namespace Go.Proofs.Yteafilojjdfllaa
open Go Go.RowKit Go.Proofs.YteafilojjdfllaaW.PrintWords Go.Proofs.YteafilojjdfllaaW.PrintLast Go.Proofs.YteafilojjdfllaaW.PrintMore Go.Proofs.Yteafilojjdfllaa.PAll
set_option linter.unusedVariables false
set_option linter.unusedSimpArgs false
theorem RDPost.none_ {w0 w w' : World} {g : Nat} {A : Option Addr} {n c : Nat} {k : Int} {e : Ending} (h : RDPost w0 w g A n c k none e w') : e = .panicked badP ∧ Below w0.heap.size w0 w' ∧ KeepBut w w' g none := by
 obtain ⟨h1, h2, ⟨-, h3⟩ | ⟨v, r, h3, -⟩⟩ := h
 ·exact ⟨h3, h1, h2⟩
 ·cases h3
theorem RDPost.some_ {w0 w w' : World} {g : Nat} {A : Option Addr} {n c : Nat} {k : Int} {e : Ending} {v : Value} {r : List UInt8} {j : Int} (h : RDPost w0 w g A n c k (some (v, r)) e w') (hj : (n : Int) - (r.length : Nat) = j) : e = .returned v ∧ Below w0.heap.size w0 w' ∧ KeepBut w w' g none ∧ RD w' g A n c j k := by
 obtain ⟨h1, h2, ⟨h3, -⟩ | ⟨v', r', h3, h4, h5⟩⟩ := h
 ·cases h3
 ·simp only [Option.some.injEq, Prod.mk.injEq] at h3
  obtain ⟨rfl, rfl⟩ := h3
  rw [hj] at h5
  exact ⟨h4, h1, h2, h5⟩
/-- the result is laid into its block: what is said of the end -/
theorem red_tail {w0 w W : World} {g K : Nat} {o : Obj} {m : S25} {A3 A4 : Option Addr} {c3 c4 : Nat} (hK : K = w.heap.size) (hb : W.heap[K]? = some (.cells Z5 25 (0, 0))) (hg : w0.heap.size ≤ g) (hgl : g < w.heap.size) (hw0 : w0.heap.size ≤ w.heap.size) (hB : Below w0.heap.size w0 W) (hKB : KeepBut w W g none) (hO : W.heap[g]? = some o) (hM : MF W (fun b => K < b ∧ b < W.heap.size) m A3 c3 A4 c4) :
  (((((W.setCell ⟨K, 0, none⟩ (.int .i64 m.f0)).setCell ⟨K, 1, none⟩ (.string m.f1)).setCell ⟨K, 2, none⟩ (.string m.f2)).setCell ⟨K, 3, none⟩ (.slice A3 m.f3.length c3)).setCell ⟨K, 4, none⟩ (.slice A4 m.f4.length c4)).heap[K]? = some (.cells #[.int .i64 m.f0, .string m.f1, .string m.f2, .slice A3 m.f3.length c3, .slice A4 m.f4.length c4] 25 (0, 0)) ∧
  RedPost w0 w g (some (m, o)) (.returned (mV m A3 c3 A4 c4)) (((((W.setCell ⟨K, 0, none⟩ (.int .i64 m.f0)).setCell ⟨K, 1, none⟩ (.string m.f1)).setCell ⟨K, 2, none⟩ (.string m.f2)).setCell ⟨K, 3, none⟩ (.slice A3 m.f3.length c3)).setCell ⟨K, 4, none⟩ (.slice A4 m.f4.length c4)) := by
 have far : ∀ i, i ≠ K → (((((W.setCell ⟨K, 0, none⟩ (.int .i64 m.f0)).setCell ⟨K, 1, none⟩ (.string m.f1)).setCell ⟨K, 2, none⟩ (.string m.f2)).setCell ⟨K, 3, none⟩ (.slice A3 m.f3.length c3)).setCell ⟨K, 4, none⟩ (.slice A4 m.f4.length c4)).heap[i]? = W.heap[i]? := fun i hne =>
  (Below.heap_setCell _ _ _ _ hne).trans ((Below.heap_setCell _ _ _ _ hne).trans ((Below.heap_setCell _ _ _ _ hne).trans ((Below.heap_setCell _ _ _ _ hne).trans (Below.heap_setCell _ _ _ _ hne))))
 have hwK : w0.heap.size ≤ K := by omega
 have hs : ∀ x0 x1 x2 x3 x4, (((((W.setCell ⟨K, 0, none⟩ x0).setCell ⟨K, 1, none⟩ x1).setCell ⟨K, 2, none⟩ x2).setCell ⟨K, 3, none⟩ x3).setCell ⟨K, 4, none⟩ x4).heap.size = W.heap.size := fun _ _ _ _ _ => by simp
 refine ⟨(blk_set (blk_set (blk_set (blk_set (blk_set hb 0 _) 1 _) 2 _) 3 _) 4 _).trans (by rfl), ?_, ?_, Or.inr ⟨m, o, A3, c3, A4, c4, rfl, rfl, ?_, ?_⟩⟩
 ·exact ((((hB.setCell hwK _).setCell hwK _).setCell hwK _).setCell hwK _).setCell hwK _
 ·refine ⟨by rw [hs]; exact hKB.1, fun i hi h1 h2 => ?_⟩
  exact (far i (by omega)).trans (hKB.2 i hi h1 h2)
 ·refine hM.move (fun b hb => ⟨⟨by omega, by rw [hs]; exact hb.2⟩, far b (by omega)⟩)
 ·exact (far g (by omega)).trans hO
end Go.Proofs.Yteafilojjdfllaa
end
section
namespace Go.Proofs.Yteafilojjdfllaa
open Go Go.RowKit Go.Proofs.YteafilojjdfllaaW.PrintWords Go.Proofs.YteafilojjdfllaaW.PrintLast Go.Proofs.YteafilojjdfllaaW.PrintMore Go.Proofs.Yteafilojjdfllaa.PAll
set_option linter.unusedVariables false
set_option linter.unusedSimpArgs false
section
variable {P : Program} {ops : Array Oper} {Q : Exit → Act → World → Prop}
/-- a call that may throw -/
theorem goesP_ {oi : Oper} {N : Option Tmp} {a : Act} {w : World} {K : Act → World → Prop} {f : FuncId} {fn : Func} {as' : Array Operand} {ts : Array TypeId} (hf : P.funcs[f]? = some fn) (hname : (fn.name == "runtime.NumGoroutine") = false) (hb : fn.body.isSome = true) (args : Array Value)
  (hw : Region.wanted oi (yielded ops a.tmps) = true) (hN : oi.dst = N) (hop : oi.op = .call { callee := .value (.func f), args := as', argTypes := ts }) (hargs : as'.map a.eval = args)
  (h : Calls P f args w fun e w' => (∃ v, e = .returned v ∧ K (a.put N v) w') ∨ ∃ ch, e = .panicked ch ∧ Q (.panic ch) a w') : if Region.wanted oi (yielded ops a.tmps) = true then Oper.wp P oi a w K Q else K (a.put N undef) w := by
 have he := enters_ hf hname hb args w
 have hrun : (execOp a.eval oi).run P w = .ok (.enter f args) w := by
  unfold execOp
  simp [hop, resolve, Deferred.ofValue, invoke, Act.eval, hargs, he]
 rw [if_pos hw]
 subst hN
 unfold Oper.wp
 rw [hrun, Oper.upon_enter]
 refine h.mono fun e w'' hh => ?_
 rcases hh with ⟨v, rfl, hk⟩ | ⟨ch, rfl, hk⟩
 ·exact hk
 ·exact hk
end
end Go.Proofs.Yteafilojjdfllaa
end
section
namespace Go.Proofs.Yteafilojjdfllaa
open Go Go.RowKit Go.Proofs.YteafilojjdfllaaW.PrintWords Go.Proofs.YteafilojjdfllaaW.PrintLast Go.Proofs.YteafilojjdfllaaW.PrintMore Go.Proofs.Yteafilojjdfllaa.PAll
set_option linter.unusedVariables false
set_option linter.unusedSimpArgs false
/-- the world of the closure: the parser, the box of its pointer, the matcher under way and its row of values -/
structure VC (w0 wn w : World) (g B G base : Nat) (s nm : ByteArray) (i : Nat) (l : Int) (vs : List ByteArray) (n : Nat) (Au : Option Addr) (cu : Nat) : Prop where
 below : Below w0.heap.size w0 w
 keep : KeepBut wn w g none
 size : base ≤ w.heap.size
 box : w.heap[B]? = some (.cells #[.pointer (some ⟨g, 0, none⟩)] 170 (0, 0))
 blk : w.heap[G]? = some (.cells #[.int .i64 4, .string nm, .string ⟨#[]⟩, .slice Au n cu, .slice none 0 0] 25 (0, 0))
 par : PB w g s i l
 own : w.ownsRow base 9 1 (.slice Au n cu) n (encs Value.string vs)
 len : vs.length = n
/-- where these lie -/
structure VL (w0 wn : World) (g B G base : Nat) : Prop where
 g0 : w0.heap.size ≤ g
 gn : g < wn.heap.size
 nB : B ≠ g
 nG : wn.heap.size ≤ G
 Bb : B < base
 Gb : G < base
 ne : B ≠ G
noncomputable def tabR188_2 : Bool × List (List Nat × List Nat) := rtab .any (opsOf Try.f188 2)
theorem tabR188_2_eq : rtab .any (opsOf Try.f188 2) = tabR188_2 := rfl
set_option maxRecDepth 100000 in
set_option maxHeartbeats 16000000 in
/-- too many. -/
theorem value188a (w0 wn w : World) (g B G base : Nat) (s nm : ByteArray) (i : Nat) (l : Int) (vs : List ByteArray) (n : Nat) (Au : Option Addr) (cu : Nat) (HL : VL w0 wn g B G base) (hV : VC w0 wn w g B G base s nm i l vs n Au cu) (hn : 16 < n) :
  Calls Try.prog 188 #[.pointer (some ⟨G, 0, none⟩), .pointer (some ⟨B, 0, none⟩)] w fun e w' => e = .panicked badP ∧ Below w0.heap.size w0 w' ∧ KeepBut wn w' g none := by
 obtain ⟨L1, L2, L3, L4, L5, L6, L7⟩ := HL
 have HV := Lib.hid hV
 have k3 : w.cell? ⟨G, 3, none⟩ = some (.slice Au n cu) := (blk_cell hV.blk 3).trans rfl
 have kB : w.cell? ⟨B, 0, none⟩ = some (.pointer (some ⟨g, 0, none⟩)) := (blk_cell hV.box 0).trans rfl
 have t1 : (16 : Int) < (n : Int) := by omega
 clear hV
 go_enter Try.func188, Try.ntmps188
 go_wp2
 exact ⟨rfl, rfl, HV.out.below, HV.out.keep⟩
set_option maxRecDepth 100000 in
set_option maxHeartbeats 16000000 in
/-- no value. -/
theorem value188n (w0 wn w : World) (g B G base : Nat) (s nm : ByteArray) (i : Nat) (l : Int) (vs : List ByteArray) (n : Nat) (Au : Option Addr) (cu : Nat) (HL : VL w0 wn g B G base) (hV : VC w0 wn w g B G base s nm i l vs n Au cu) (hn : ¬ 16 < n) (hi : i ≤ s.size) (hs : s.size ≤ 1000000000) (hq : valW stepP (s.data.toList.drop i) = none) :
  Calls Try.prog 188 #[.pointer (some ⟨G, 0, none⟩), .pointer (some ⟨B, 0, none⟩)] w fun e w' => e = .panicked badP ∧ Below w0.heap.size w0 w' ∧ KeepBut wn w' g none := by
 obtain ⟨L1, L2, L3, L4, L5, L6, L7⟩ := HL
 have HV := Lib.hid hV
 have k3 : w.cell? ⟨G, 3, none⟩ = some (.slice Au n cu) := (blk_cell hV.blk 3).trans rfl
 have kB : w.cell? ⟨B, 0, none⟩ = some (.pointer (some ⟨g, 0, none⟩)) := (blk_cell hV.box 0).trans rfl
 have t1 : ¬ (16 : Int) < (n : Int) := by omega
 have H7 := Lib.hid (value189n w0 w.drew g s i l hq hi hs L1 (below_drew hV.below) hV.par)
 have k3d : w.drew.cell? ⟨G, 3, none⟩ = some (.slice Au n cu) := k3
 have kBd : w.drew.cell? ⟨B, 0, none⟩ = some (.pointer (some ⟨g, 0, none⟩)) := kB
 clear hV hq
 go_enter Try.func188, Try.ntmps188
 go_wp2_with fail
 refine start_ (n := 8) (S := fun w' => w'.cell? ⟨G, 3, none⟩ = some (.slice Au n cu) ∧ w'.cell? ⟨B, 0, none⟩ = some (.pointer (some ⟨g, 0, none⟩))) (ds := [7]) (msk 8 [0, 1, 2, 3] 0).toArray (by kernel_rfl) rfl rfl ⟨k3d, kBd⟩ (fun hHeld => ?_)
 refine with_tab (T := tabR188_2) tabR188_2_eq (fun HT_ => ?_)
 iterate 3 (first | (refine pureO HT_.out (N := some _) (v := ?_) (a' := ?_) rfl rfl (by kernel_rfl) (fun _ _ _ h => h) (Or.inl ⟨by rfl, ?_⟩) ?_ ?_; rotate_left; intro w'; go_simp; (with_reducible rfl); rotate_left; simp only [Act.put, List.setIfInBounds_toArray, List.set_cons_zero, List.set_cons_succ, i64_w, i32_w]; rfl) | (refine takeO HT_.out (N := some _) (v := ?_) (a' := ?_) rfl rfl (by kernel_rfl) (fun _ _ _ h => h) (Or.inl ⟨by rfl, ?_⟩) hHeld ?_ ?_; rotate_left; intro w' hh; have q0 := hh.1; have q1 := hh.2; go_simp; (with_reducible rfl); rotate_left; simp only [Act.put, List.setIfInBounds_toArray, List.set_cons_zero, List.set_cons_succ, i64_w, i32_w]; rfl))
 refine oneO (i := 3) (N := some 11) HT_.out rfl rfl (by kernel_rfl) (by decide) (fun K_ hK_ => ?_)
 refine goesP_ Try.func189 (by kernel_rfl) rfl #[.pointer (some ⟨g, 0, none⟩)] (by rfl) rfl rfl (by (try simp only [List.map_toArray, List.map_cons, List.map_nil]); first | done | rfl) ?_
 refine (H7.out).mono ?_
 rintro e w9 ⟨hB9, hK9, rfl⟩
 refine Or.inr ⟨_, rfl, ?_⟩
 exact ⟨rfl, rfl, hB9, (HV.out.keep.trans (KeepBut.of_below (below_drew (Below.refl w.heap.size w)) g none) (Or.inl rfl)).trans hK9 (Or.inl rfl)⟩
set_option maxRecDepth 100000 in
set_option maxHeartbeats 16000000 in
/-- one more. -/
theorem value188y (w0 wn w : World) (g B G base : Nat) (s nm : ByteArray) (i : Nat) (l : Int) (vs : List ByteArray) (n : Nat) (Au : Option Addr) (cu : Nat) (HL : VL w0 wn g B G base) (hV : VC w0 wn w g B G base s nm i l vs n Au cu) (hn : ¬ 16 < n) (hi : i ≤ s.size) (hs : s.size ≤ 1000000000) (v r : List UInt8) (j : Nat) (x : ByteArray) (hx : (⟨v.toArray⟩ : ByteArray) = x) (hq : valW stepP (s.data.toList.drop i) = some (v, r)) (hj : (s.size : Int) - (r.length : Nat) = (j : Int)) :
  Calls Try.prog 188 #[.pointer (some ⟨G, 0, none⟩), .pointer (some ⟨B, 0, none⟩)] w fun e w' => ∃ A2 c2, e = .returned (.tuple #[]) ∧ VC w0 wn w' g B G base s nm j l (vs ++ [x]) (n + 1) A2 c2 := by
 obtain ⟨L1, L2, L3, L4, L5, L6, L7⟩ := HL
 have HV := Lib.hid hV
 have k3 : w.cell? ⟨G, 3, none⟩ = some (.slice Au n cu) := (blk_cell hV.blk 3).trans rfl
 have kB : w.cell? ⟨B, 0, none⟩ = some (.pointer (some ⟨g, 0, none⟩)) := (blk_cell hV.box 0).trans rfl
 have t1 : ¬ (16 : Int) < (n : Int) := by omega
 have h7 := value189y w0 w.drew g s i l v r j hq hj hi hs L1 (below_drew hV.below) hV.par
 rw [hx] at h7
 have H7 := Lib.hid h7
 have k3d : w.drew.cell? ⟨G, 3, none⟩ = some (.slice Au n cu) := k3
 have kBd : w.drew.cell? ⟨B, 0, none⟩ = some (.pointer (some ⟨g, 0, none⟩)) := kB
 clear hV hq h7 hx hj
 go_enter Try.func188, Try.ntmps188
 go_wp2_with fail
 refine start_ (n := 8) (S := fun w' => w'.cell? ⟨G, 3, none⟩ = some (.slice Au n cu) ∧ w'.cell? ⟨B, 0, none⟩ = some (.pointer (some ⟨g, 0, none⟩))) (ds := [7]) (msk 8 [0, 1, 2, 3, 4, 5, 6, 7] 0).toArray (by kernel_rfl) rfl rfl ⟨k3d, kBd⟩ (fun hHeld => ?_)
 refine with_tab (T := tabR188_2) tabR188_2_eq (fun HT_ => ?_)
 iterate 3 (first | (refine pureO HT_.out (N := some _) (v := ?_) (a' := ?_) rfl rfl (by kernel_rfl) (fun _ _ _ h => h) (Or.inl ⟨by rfl, ?_⟩) ?_ ?_; rotate_left; intro w'; go_simp; (with_reducible rfl); rotate_left; simp only [Act.put, List.setIfInBounds_toArray, List.set_cons_zero, List.set_cons_succ, i64_w, i32_w]; rfl) | (refine takeO HT_.out (N := some _) (v := ?_) (a' := ?_) rfl rfl (by kernel_rfl) (fun _ _ _ h => h) (Or.inl ⟨by rfl, ?_⟩) hHeld ?_ ?_; rotate_left; intro w' hh; have q0 := hh.1; have q1 := hh.2; go_simp; (with_reducible rfl); rotate_left; simp only [Act.put, List.setIfInBounds_toArray, List.set_cons_zero, List.set_cons_succ, i64_w, i32_w]; rfl))
 refine oneO (i := 3) (N := some 11) HT_.out rfl rfl (by kernel_rfl) (by decide) (fun K_ hK_ => ?_)
 refine goesP_ Try.func189 (by kernel_rfl) rfl #[.pointer (some ⟨g, 0, none⟩)] (by rfl) rfl rfl (by (try simp only [List.map_toArray, List.map_cons, List.map_nil]); first | done | rfl) ?_
 refine (H7.out).mono ?_
 rintro e w5 ⟨hB5, hK5, rfl, hP5⟩
 have hV := HV.out
 have f5 := (hK5.2 G (by show G < w.heap.size; have := hV.size; omega) (by omega) (by simp)).trans hV.blk
 have f4 := (hK5.2 B (by show B < w.heap.size; have := hV.size; omega) (by omega) (by simp)).trans hV.box
 have hs5 : w.heap.size ≤ w5.heap.size := hK5.1
 have hO5 : w5.ownsRow base 9 1 (.slice Au n cu) n (encs Value.string vs) := own_move hV.own (fun k hk => hK5.2 k (hV.own.lt _ hk).2 (by have := (hV.own.lt _ hk).1; omega) (by simp))
 have HK5 := Lib.hid ((hV.keep.trans (KeepBut.of_below (below_drew (Below.refl w.heap.size w)) g none) (Or.inl rfl)).trans hK5 (Or.inl rfl))
 have HS5 := Lib.hid (Nat.le_trans hV.size hs5)
 have HP5 := Lib.hid hP5
 have HB5 := Lib.hid hB5
 have F5 := Lib.hid f5
 have F4 := Lib.hid f4
 have HO5 := Lib.hid hO5
 have HLT := Lib.hid (fun k (hk : (Value.slice Au n cu).ownBlock = some k) => hO5.lt _ hk)
 have h5 : w5.cell? ⟨G, 3, none⟩ = some (.slice Au n cu) := (blk_cell f5 3).trans rfl
 have h4 : w5.cell? ⟨B, 0, none⟩ = some (.pointer (some ⟨g, 0, none⟩)) := (blk_cell f4 0).trans rfl
 refine Or.inl ⟨_, rfl, ?_⟩
 refine hK_.out _ _ ⟨h5, h4⟩ (fun hHeld => ?_)
 clear hK_ K_ h5 h4 hK5 f5 f4 hO5 hP5 hB5 hV hs5
 try simp only [Act.put, List.setIfInBounds_toArray, List.set_cons_zero, List.set_cons_succ]
 refine oneO (i := 4) (N := some 12) HT_.out rfl rfl (by kernel_rfl) (by decide) (fun K_ hK_ => ?_)
 go_simp
 refine hK_.out _ _ ⟨(blk_cell ((Below.heap_alloc _ _ _ (blk_lt F5.out)).trans F5.out) 3).trans rfl, (blk_cell ((Below.heap_alloc _ _ _ (blk_lt F4.out)).trans F4.out) 0).trans rfl⟩ (fun hHeld => ?_)
 clear hK_ K_
 try simp only [Act.put, List.setIfInBounds_toArray, List.set_cons_zero, List.set_cons_succ]
 refine oneO (i := 5) (N := some 13) HT_.out rfl rfl (by kernel_rfl) (by decide) (fun K_ hK_ => ?_)
 have hs5 := HS5.out
 refine step_append_cells (w0 := w5) (W := w5) base (by rfl) (.tmp 9) (.tmp 12) 22 9 (.string ByteArray.empty) 1 16 rfl Try.underlying22 infoS rfl (by decide) (by decide) (.slice Au n cu) n (encs Value.string vs) [.string x] rfl rfl rfl (by intro u hu; simp only [List.mem_cons, List.not_mem_nil, or_false] at hu; subst hu; rfl) HO5.out (Below.refl _ _) (by omega) (by omega) ?_
 intro v2 w6 hown6 hb6 hg6 hat6
 obtain ⟨A2, c2, rfl⟩ := own_slice hown6
 have hl2 := HLT.out
 have hneG : some G ≠ (Value.slice Au n cu).ownBlock := fun e => by have := (hl2 _ e.symm).1; omega
 have hneB : some B ≠ (Value.slice Au n cu).ownBlock := fun e => by have := (hl2 _ e.symm).1; omega
 have hneg : some g ≠ (Value.slice Au n cu).ownBlock := fun e => by have := (hl2 _ e.symm).1; omega
 have q5 := (hg6.block G (blk_lt F5.out) hneG).trans F5.out
 have q4 := (hg6.block B (blk_lt F4.out) hneB).trans F4.out
 have qg : PB w6 g s j l := (hg6.block g HP5.out.lt hneg).trans HP5.out
 have hB6 : Below w0.heap.size w0 w6 := HB5.out.grown hg6 (by omega) (fun k hk => by have := (hl2 k hk).1; omega)
 have hK6 : KeepBut wn w6 g none := ⟨by have := HK5.out.1; have := hg6.size; omega, fun i hi h1 h2 => (hg6.block i (by have := HK5.out.1; omega) (fun e => by have := (hl2 _ e.symm).1; omega)).trans (HK5.out.2 i hi h1 h2)⟩
 have Q5 := Lib.hid q5
 have Q4 := Lib.hid q4
 have QG := Lib.hid qg
 have HB6 := Lib.hid hB6
 have HK6 := Lib.hid hK6
 have HO6 := Lib.hid hown6
 have HS6 := Lib.hid (show base ≤ w6.heap.size by have := hg6.size; omega)
 have HL6 := Lib.hid (fun k (hk : (Value.slice A2 (n + 1) c2).ownBlock = some k) => hown6.lt _ hk)
 have h6 : w6.cell? ⟨G, 3, none⟩ = some (.slice Au n cu) := (blk_cell q5 3).trans rfl
 have h6B : w6.cell? ⟨B, 0, none⟩ = some (.pointer (some ⟨g, 0, none⟩)) := (blk_cell q4 0).trans rfl
 have zz := blk_frozen q5 3
 refine hK_.out _ _ ⟨h6, h6B⟩ (fun hHeld => ?_)
 clear hK_ K_ hg6 hb6 hat6 hown6 hB6 hK6 qg q4 hneg hneB hneG hl2 q5 h6B
 try simp only [Act.put, List.setIfInBounds_toArray, List.set_cons_zero, List.set_cons_succ]
 (refine pureO HT_.out (N := some _) (v := ?_) (a' := ?_) rfl rfl (by kernel_rfl) (fun _ _ _ h => h) (Or.inl ⟨by rfl, ?_⟩) ?_ ?_; rotate_left; intro w'; go_simp; (with_reducible rfl); rotate_left; simp only [Act.put, List.setIfInBounds_toArray, List.set_cons_zero, List.set_cons_succ, i64_w, i32_w]; rfl)
 refine lastO (i := 7) (N := none) HT_.out rfl rfl (by kernel_rfl) (by decide) (fun K_ hK_ => ?_)
 have hcell : w6.cell? ⟨G, 3, none⟩ = some (.slice Au n cu) := h6
 go_simp
 refine hK_.out _ _ ?_
 clear hK_ K_
 try simp only [Act.put, List.setIfInBounds_toArray, List.set_cons_zero, List.set_cons_succ]
 refine done_ (done_of HT_.out (by kernel_rfl)) ?_
 have hV := HV.out
 go_wp2
 refine ⟨rfl, .tuple #[], results_none rfl _ _ _, A2, c2, rfl, HB6.out.setCell (show w0.heap.size ≤ G by omega) _, ⟨by have := HK6.out.1; simpa using this, fun i hi h1 h2 => (Below.heap_setCell _ _ _ _ (show i ≠ G by omega)).trans (HK6.out.2 i hi h1 h2)⟩, by simpa using HS6.out, (Below.heap_setCell _ _ _ _ L7).trans Q4.out, (blk_set Q5.out 3 _).trans (by rfl), (Below.heap_setCell _ _ _ _ (show g ≠ G by omega)).trans QG.out, ?_, by rw [List.length_append, hV.len]; rfl⟩
 have e : encs Value.string (vs ++ [x]) = encs Value.string vs ++ [.string x] := by simp [encs]
 rw [e]
 exact own_move HO6.out (fun k hk => Below.heap_setCell _ _ _ _ (show k ≠ G by have := (HL6.out k hk).1; omega))
end Go.Proofs.Yteafilojjdfllaa
end
section
namespace Go.Proofs.Yteafilojjdfllaa
open Go Go.RowKit Go.Proofs.YteafilojjdfllaaW.PrintWords Go.Proofs.YteafilojjdfllaaW.PrintLast Go.Proofs.YteafilojjdfllaaW.PrintMore Go.Proofs.Yteafilojjdfllaa.PAll
set_option linter.unusedVariables false
set_option linter.unusedSimpArgs false
/-- is that byte next? -/
def nextB (c : UInt8) (r : List UInt8) : Bool := r.head? == some c
theorem pref_one (s : ByteArray) (i : Nat) (c : UInt8) (hi : i ≤ s.size) : prefB (s.extract i s.size) ⟨#[c]⟩ = nextB c (s.data.toList.drop i) := by
 have hz : (⟨#[c]⟩ : ByteArray).size = 1 := rfl
 have hs : (s.extract i s.size).size = s.size - i := by rw [ByteArray.size_extract]; omega
 unfold prefB nextB
 rw [hz, hs, ByteArray.toList_eq, ByteArray.toList_eq]
 have hd := ext_take (s.extract i s.size) 0 1
 rw [Nat.zero_add, List.drop_zero, ext_drop] at hd
 rw [hd]
 by_cases h : 1 ≤ s.size - i
 ·rw [decide_eq_true h, Bool.true_and, bN_drop s i (by omega)]
  by_cases e : bN s i = c <;> simp [e]
 ·rw [decide_eq_false h, List.drop_of_length_le (by simp; omega)]
  rfl
/-- behind a value -/
def restW (k : Nat) (r : List UInt8) : Option (List ByteArray × List UInt8) := if nextB 41 r = true then some ([], r.drop 1) else if nextB 44 r = true then valsW stepP k (r.drop 1) else none
theorem valsW_rest (k : Nat) (r : List UInt8) : valsW stepP (k + 1) r = match valW stepP r with
  | none => none
  | some (v, t) => (restW k t).map (fun q => (⟨v.toArray⟩ :: q.1, q.2)) := by
 rw [valsW]
 cases valW stepP r with
 | none => rfl
 | some p =>
  obtain ⟨v, t⟩ := p
  cases t with
  | nil => rfl
  | cons c t =>
   unfold restW nextB
   by_cases h1 : c = 41
   ·subst h1; rfl
   ·by_cases h2 : c = 44
    ·subst h2; simp
    ·simp [h1, h2]
def listV (r : List UInt8) : Option (List ByteArray × List UInt8) := if nextB 40 r = true then (if nextB 41 (r.drop 1) = true then some ([], r.drop 2) else valsW stepP 17 (r.drop 1)) else none
theorem next_lt {s : ByteArray} {i : Nat} {c : UInt8} (h : nextB c (s.data.toList.drop i) = true) : i + 1 ≤ s.size := by
 unfold nextB at h
 by_cases hi : i < s.size
 ·exact hi
 ·rw [List.drop_of_length_le (by simp; omega)] at h
  cases h
section
variable {w0 wn w w' : World} {g B G base : Nat} {s nm : ByteArray} {i j : Nat} {l : Int} {vs : List ByteArray} {n : Nat} {Au : Option Addr} {cu : Nat}
theorem VC.moved (h : VC w0 wn w g B G base s nm i l vs n Au cu) (HL : VL w0 wn g B G base) (hB : Below w0.heap.size w0 w') (hK : KeepBut w w' g none) (hP : PB w' g s j l) : VC w0 wn w' g B G base s nm j l vs n Au cu := by
 obtain ⟨L1, L2, L3, L4, L5, L6, L7⟩ := HL
 have hs := h.size
 exact ⟨hB, h.keep.trans hK (Or.inl rfl), Nat.le_trans hs hK.1, (hK.2 B (by omega) (by omega) (by simp)).trans h.box, (hK.2 G (by omega) (by omega) (by simp)).trans h.blk, hP,
  own_move h.own (fun k hk => hK.2 k (h.own.lt _ hk).2 (by have := (h.own.lt _ hk).1; omega) (by simp)), h.len⟩
theorem VC.drew (h : VC w0 wn w g B G base s nm i l vs n Au cu) : VC w0 wn w.drew g B G base s nm i l vs n Au cu :=
 ⟨below_drew h.below, h.keep.trans (KeepBut.of_below (below_drew (Below.refl w.heap.size w)) g none) (Or.inl rfl), h.size, h.box, h.blk, h.par, h.own, h.len⟩
end
/-- how a list of values ends -/
def LPost (w0 wn : World) (g B G base : Nat) (s nm : ByteArray) (l : Int) (Q : Option (List ByteArray × List UInt8)) (e : Ending) (w' : World) : Prop :=
 (Q = none ∧ e = .panicked badP ∧ Below w0.heap.size w0 w' ∧ KeepBut wn w' g none) ∨ ∃ vs r j A c, Q = some (vs, r) ∧ s.data.toList.drop j = r ∧ j ≤ s.size ∧ e = .returned (.tuple #[]) ∧ VC w0 wn w' g B G base s nm j l vs vs.length A c
set_option maxRecDepth 100000 in
set_option maxHeartbeats 32000000 in
/-- list, of values. -/
theorem list176v (w0 wn w : World) (g B G base : Nat) (s nm : ByteArray) (i : Nat) (l : Int) (Au : Option Addr) (cu : Nat) (HL : VL w0 wn g B G base) (hV : VC w0 wn w g B G base s nm i l [] 0 Au cu) (hi : i ≤ s.size) (hs : s.size ≤ 1000000000) (Q : Option (List ByteArray × List UInt8)) (hQ : listV (s.data.toList.drop i) = Q) :
  Calls Try.prog 176 #[.pointer (some ⟨g, 0, none⟩), .func (.func 188) #[] #[.pointer (some ⟨G, 0, none⟩), .pointer (some ⟨B, 0, none⟩)]] w (LPost w0 wn g B G base s nm l Q) := by
 have HV := Lib.hid hV
 have L1 := HL.g0
 have HLL := Lib.hid HL
 obtain ⟨b1, e1⟩ : ∃ b, nextB 40 (s.data.toList.drop i) = b := ⟨_, rfl⟩
 have H1 := Lib.hid (must187 w0 w g s i l ⟨#[40]⟩ b1 hi hs (by decide) ((pref_one s i 40 hi).trans e1) L1 hV.below hV.par)
 have HQ := Lib.hid hQ
 have E1 := Lib.hid e1
 clear hV hQ e1 HL
 go_enter Try.func176, Try.ntmps176
 go_wp2_with fail
 cases b1 with
 | false =>
  (with_reducible refine H1.out.mono ?_)
  rintro e w1 ⟨hb1, hk1, ⟨-, rfl⟩ | ⟨h, -⟩⟩
  ·exact ⟨rfl, Or.inl ⟨by rw [← HQ.out]; unfold listV; rw [E1.out]; rfl, rfl, hb1, HV.out.keep.trans hk1 (Or.inl rfl)⟩⟩
  ·cases h
 | true =>
  (with_reducible refine H1.out.mono ?_)
  rintro e w1 ⟨hb1, hk1, ⟨h, -⟩ | ⟨-, rfl, hp1⟩⟩
  ·cases h
  have HV1 := Lib.hid (HV.out.moved HLL.out hb1 hk1 hp1)
  have hi1 : i + 1 ≤ s.size := next_lt E1.out
  have HQ1 := Lib.hid (show (if nextB 41 (s.data.toList.drop (i + 1)) = true then some ([], s.data.toList.drop (i + 2)) else valsW stepP 17 (s.data.toList.drop (i + 1))) = Q by rw [← HQ.out]; unfold listV; rw [E1.out, if_pos rfl, List.drop_drop, List.drop_drop])
  obtain ⟨b2, e2⟩ : ∃ b, nextB 41 (s.data.toList.drop (i + 1)) = b := ⟨_, rfl⟩
  have H2 := Lib.hid (takes174 w0 w1 g s (i + 1) l ⟨#[41]⟩ b2 hi1 hs (by decide) ((pref_one s (i + 1) 41 hi1).trans e2) L1 HV1.out.below HV1.out.par)
  have E2 := Lib.hid e2
  clear hb1 hk1 hp1 H1 e2 HQ HV
  go_wp2_with fail
  (with_reducible refine H2.out.mono ?_)
  rintro e w2 ⟨rfl, hb2, hk2, hp2⟩
  cases b2 with
  | true =>
   have HV2 := Lib.hid (HV1.out.moved HLL.out hb2 hk2 hp2)
   clear hb2 hk2 hp2 H2
   go_wp2
   have hx : LPost w0 wn g B G base s nm l Q (.returned (.tuple #[])) w2 := Or.inr ⟨[], _, i + 2, _, _, by rw [← HQ1.out, if_pos E2.out], rfl, next_lt E2.out, rfl, HV2.out⟩
   first | exact bodyPost_ret (results_none rfl _ _ _) rfl hx | (simp only [Exit.inBlock, Exit.then]; exact bodyPost_ret (results_none rfl _ _ _) rfl hx) | exact ⟨rfl, .tuple #[], results_none rfl _ _ _, hx⟩
  | false =>
   have HV2 := Lib.hid (HV1.out.moved HLL.out hb2 hk2 hp2)
   have HQ2 := Lib.hid (show valsW stepP 17 (s.data.toList.drop (i + 1)) = Q by rw [← HQ1.out, if_neg (by rw [E2.out]; decide)])
   clear hb2 hk2 hp2 H2 HQ1 HV1
   cases hq : valW stepP (s.data.toList.drop (i + 1)) with
   | none =>
    have H3 := Lib.hid (value188n w0 wn w2 g B G base s nm (i + 1) l [] 0 Au cu HLL.out HV2.out (by decide) hi1 hs hq)
    have HQ3 := Lib.hid (show Q = none by rw [← HQ2.out, valsW_rest, hq])
    clear hq
    go_wp2_with fail
    (with_reducible refine H3.out.mono ?_)
    rintro e w3 ⟨rfl, hb3, hk3⟩
    exact ⟨rfl, Or.inl ⟨HQ3.out, rfl, hb3, hk3⟩⟩
   | some q =>
    obtain ⟨v, r⟩ := q
    obtain ⟨hr1, hr2⟩ := val_place hq
    obtain ⟨j, hj⟩ : ∃ j : Nat, s.size - r.length = j := ⟨_, rfl⟩
    obtain ⟨x, ex⟩ : ∃ x : ByteArray, (⟨v.toArray⟩ : ByteArray) = x := ⟨_, rfl⟩
    have H3 := Lib.hid (value188y w0 wn w2 g B G base s nm (i + 1) l [] 0 Au cu HLL.out HV2.out (by decide) hi1 hs v r j x ex hq (by omega))
    rw [hj] at hr2
    have HQ3 := Lib.hid (show Q = (restW 16 r).map (fun q => ([x] ++ q.1, q.2)) by rw [← HQ2.out, valsW_rest, hq, ← ex]; rfl)
    have HR := Lib.hid (And.intro hr2 (show j ≤ s.size by omega))
    clear hq ex hr1 hr2 hj
    go_wp2_with fail
    (with_reducible refine H3.out.mono ?_)
    rintro e w3 ⟨A3, c3, rfl, hv3⟩
    have HV3 := Lib.hid hv3
    clear hv3 H3
    go_wp2
    go_loopw [] (fun wr => ∃ (n p : Nat) (vs : List ByteArray) (rr : List UInt8) (A : Option Addr) (c : Nat), 1 ≤ n ∧ n ≤ 17 ∧ p ≤ s.size ∧ Hid (s.data.toList.drop p = rr) ∧ Hid (Q = (restW (17 - n) rr).map (fun q => (vs ++ q.1, q.2))) ∧ Hid (VC w0 wn wr g B G base s nm p l vs n A c))
     (fun wr => s.size - (intOf ((wr.cell? ⟨g, 1, none⟩).getD undef)).toNat)
    case atStart => exact ⟨1, j, [x], r, A3, c3, by decide, by decide, HR.out.2, Lib.hid HR.out.1, HQ3, HV3⟩
    case round =>
     obtain ⟨n, p, vs, rr, A, c, hn1, hn17, hp, HRR, HQr, HVr⟩ := hrel
     clear HV3 HQ3 HR HV2 HQ2
     obtain ⟨b3, e3⟩ : ∃ b, nextB 41 (s.data.toList.drop p) = b := ⟨_, rfl⟩
     have H4 := Lib.hid (takes174 w0 wr g s p l ⟨#[41]⟩ b3 hp hs (by decide) ((pref_one s p 41 hp).trans e3) L1 HVr.out.below HVr.out.par)
     have E3 := Lib.hid e3
     clear e3
     go_wp2_with fail
     (with_reducible refine H4.out.mono ?_)
     rintro e w4 ⟨rfl, hb4, hk4, hp4⟩
     have HV4 := Lib.hid (HVr.out.moved HLL.out hb4 hk4 hp4)
     clear hb4 hk4 hp4 H4
     cases b3 with
     | true =>
      have HQ4 := Lib.hid (show Q = some (vs, rr.drop 1) by rw [HQr.out]; unfold restW; rw [← HRR.out, if_pos E3.out]; simp)
      have hlen : vs.length = n := HV4.out.len
      subst hlen
      have hx : LPost w0 wn g B G base s nm l Q (.returned (.tuple #[])) w4 := Or.inr ⟨vs, _, p + 1, _, _, HQ4.out, by rw [← HRR.out, List.drop_drop], next_lt E3.out, rfl, HV4.out⟩
      go_wp2
      first | exact bodyPost_ret (results_none rfl _ _ _) rfl hx | (simp only [Exit.inBlock, Exit.then]; exact bodyPost_ret (results_none rfl _ _ _) rfl hx) | exact ⟨rfl, .tuple #[], results_none rfl _ _ _, hx⟩
     | false =>
      obtain ⟨b4, e4⟩ : ∃ b, nextB 44 (s.data.toList.drop p) = b := ⟨_, rfl⟩
      have H5 := Lib.hid (must187 w0 w4 g s p l ⟨#[44]⟩ b4 hp hs (by decide) ((pref_one s p 44 hp).trans e4) L1 HV4.out.below HV4.out.par)
      have E4 := Lib.hid e4
      clear e4
      go_wp2_with fail
      cases b4 with
      | false =>
       (with_reducible refine H5.out.mono ?_)
       rintro e w5 ⟨hb5, hk5, ⟨-, rfl⟩ | ⟨h, -⟩⟩
       ·exact ⟨rfl, Or.inl ⟨by rw [HQr.out]; unfold restW; rw [← HRR.out, if_neg (by rw [E3.out]; decide), if_neg (by rw [E4.out]; decide)]; rfl, rfl, hb5, HV4.out.keep.trans hk5 (Or.inl rfl)⟩⟩
       ·cases h
      | true =>
       (with_reducible refine H5.out.mono ?_)
       rintro e w5 ⟨hb5, hk5, ⟨h, -⟩ | ⟨-, rfl, hp5⟩⟩
       ·cases h
       have HV5 := Lib.hid (HV4.out.moved HLL.out hb5 hk5 hp5)
       have hp1 : p + 1 ≤ s.size := next_lt E4.out
       have HQ5 := Lib.hid (show Q = (valsW stepP (17 - n) (s.data.toList.drop (p + 1))).map (fun q => (vs ++ q.1, q.2)) by rw [HQr.out]; unfold restW; rw [← HRR.out, if_neg (by rw [E3.out]; decide), if_pos E4.out, List.drop_drop])
       clear hb5 hk5 hp5 H5 HV4
       by_cases h17 : 16 < n
       ·have H6 := Lib.hid (value188a w0 wn w5 g B G base s nm (p + 1) l vs n A c HLL.out HV5.out h17)
        have HQ6 := Lib.hid (show Q = none by rw [HQ5.out, show 17 - n = 0 by omega, valsW]; rfl)
        go_wp2_with fail
        (with_reducible refine H6.out.mono ?_)
        rintro e w6 ⟨rfl, hb6, hk6⟩
        exact ⟨rfl, Or.inl ⟨HQ6.out, rfl, hb6, hk6⟩⟩
       ·cases hq : valW stepP (s.data.toList.drop (p + 1)) with
        | none =>
         have H6 := Lib.hid (value188n w0 wn w5 g B G base s nm (p + 1) l vs n A c HLL.out HV5.out h17 hp1 hs hq)
         have HQ6 := Lib.hid (show Q = none by rw [HQ5.out, show 17 - n = (16 - n) + 1 by omega, valsW_rest, hq]; rfl)
         clear hq
         go_wp2_with fail
         (with_reducible refine H6.out.mono ?_)
         rintro e w6 ⟨rfl, hb6, hk6⟩
         exact ⟨rfl, Or.inl ⟨HQ6.out, rfl, hb6, hk6⟩⟩
        | some q =>
         obtain ⟨v2, r2⟩ := q
         obtain ⟨hr1, hr2⟩ := val_place hq
         obtain ⟨j2, hj2⟩ : ∃ j2 : Nat, s.size - r2.length = j2 := ⟨_, rfl⟩
         obtain ⟨x2, ex2⟩ : ∃ x : ByteArray, (⟨v2.toArray⟩ : ByteArray) = x := ⟨_, rfl⟩
         have H6 := Lib.hid (value188y w0 wn w5 g B G base s nm (p + 1) l vs n A c HLL.out HV5.out h17 hp1 hs v2 r2 j2 x2 ex2 hq (by omega))
         rw [hj2] at hr2
         have HQ6 := Lib.hid (show Q = (restW (17 - (n + 1)) r2).map (fun q => ((vs ++ [x2]) ++ q.1, q.2)) by
          rw [HQ5.out, show 17 - n = (17 - (n + 1)) + 1 by omega, valsW_rest, hq, ← ex2]
          simp only [Option.map_map]
          congr 1
          funext q
          simp)
         have hlt2 : p < j2 := by
          have h1 := (val_suffix hq).length_le
          rw [List.length_drop] at h1
          have h2 : s.data.toList.length = s.size := by simp
          omega
         have HR2 := Lib.hid (And.intro hr2 (show j2 ≤ s.size by omega))
         clear hq ex2 hr1 hr2 hj2
         go_wp2_with fail
         (with_reducible refine H6.out.mono ?_)
         rintro e w6 ⟨A6, c6, rfl, hv6⟩
         have HV6 := Lib.hid hv6
         clear hv6 H6
         go_wp2
         go_roundw
         case rel => exact ⟨n + 1, j2, vs ++ [x2], r2, A6, c6, by omega, by omega, HR2.out.2, Lib.hid HR2.out.1, HQ6, HV6⟩
         case measure =>
          have h1 := HVr.out.par.c1
          have h2 := HV6.out.par.c1
          have h3 := HR2.out.2
          rw [h1, h2]
          simp [intOf]
          omega
end Go.Proofs.Yteafilojjdfllaa
end
section
namespace Go.Proofs
set_option maxHeartbeats 2000000 in
set_option maxRecDepth 100000 in
theorem Try.stringslite_Index_one (s : ByteArray) (c : UInt8) (w : World) :
  Calls Try.prog 195 #[.string s, .string ⟨#[c]⟩] w fun e w' => e = .returned (.int .i64 (Lib.indexByte s.data.toList c)) ∧ w' = w := by
 go_enter Try.func195, Try.ntmps195
 go_wp2_with (go_at_call 168; refine (Try.stringslite_IndexByte _ _ _).mono ?_; rintro e w' ⟨rfl, rfl⟩)
 ·have h : ([c] == s.toList) = true := by assumption
  go_ret
  refine ⟨?_, rfl⟩
  have e : s.data.toList = [c] := by rw [← Lib.toList_data]; exact (beq_iff_eq.1 h).symm
  rw [e]
  simp [Lib.indexByte]
 ·go_ret
  exact ⟨rfl, rfl⟩
set_option maxHeartbeats 1000000 in
theorem Try.strings_Index_one (s : ByteArray) (c : UInt8) (w : World) :
  Calls Try.prog 193 #[.string s, .string ⟨#[c]⟩] w fun e w' => e = .returned (.int .i64 (Lib.indexByte s.data.toList c)) ∧ w' = w := by
 go_enter Try.func193, Try.ntmps193
 go_wp2_with (go_at_call 195; refine (Try.stringslite_Index_one _ _ _).mono ?_; rintro e w' ⟨rfl, rfl⟩)
 go_ret
 exact ⟨rfl, rfl⟩
set_option maxHeartbeats 1000000 in
theorem Try.strings_Contains_one (s : ByteArray) (c : UInt8) (w : World) :
  Calls Try.prog 186 #[.string s, .string ⟨#[c]⟩] w fun e w' => e = .returned (.bool (decide (0 ≤ Lib.indexByte s.data.toList c))) ∧ w' = w := by
 go_enter Try.func186, Try.ntmps186
 go_wp2_with (go_at_call 193; refine (Try.strings_Index_one _ _ _).mono ?_; rintro e w' ⟨rfl, rfl⟩)
 go_ret
 exact ⟨rfl, rfl⟩
namespace Yteafilojjdfllaa
/-- the four signs -/
def signB (c : UInt8) : Bool := decide (c = 61 ∨ c = 33 ∨ c = 94 ∨ c = 64)
theorem sign_index : ∀ n : Fin 256, decide (0 ≤ Lib.indexByte [61, 33, 94, 64] n.val.toUInt8) = signB n.val.toUInt8 := by decide +kernel
theorem cont186 (w : World) (c : UInt8) (b : Bool) (hb : signB c = b) : Calls Try.prog 186 #[.string ⟨#[61, 33, 94, 64]⟩, .string ⟨#[c]⟩] w fun e w' => e = .returned (.bool b) ∧ w' = w := by
 refine (Try.strings_Contains_one ⟨#[61, 33, 94, 64]⟩ c w).mono ?_
 rintro e w' ⟨rfl, rfl⟩
 refine ⟨?_, rfl⟩
 have h := sign_index ⟨c.toNat, c.toNat_lt⟩
 simp only [show c.toNat.toUInt8 = c from by simp] at h
 rw [← hb, ← h]
end Yteafilojjdfllaa
end Go.Proofs
end
section
namespace Go.Proofs.Yteafilojjdfllaa
open Go Go.RowKit Go.Proofs.YteafilojjdfllaaW.PrintWords Go.Proofs.YteafilojjdfllaaW.PrintLast Go.Proofs.YteafilojjdfllaaW.PrintMore Go.Proofs.Yteafilojjdfllaa.PAll
set_option linter.unusedVariables false
set_option linter.unusedSimpArgs false
theorem cutM_end (k : Nat) : cutM k [] = 0 := by cases k <;> rfl
theorem cutM_sign {k : Nat} {c : UInt8} {r : List UInt8} (h : signB c = true) : cutM k (c :: r) = 0 := by
 cases k with
 | zero => rfl
 | succ k => rw [cutM, if_pos (of_decide_eq_true h)]
theorem cutM_more {k : Nat} {c : UInt8} {r : List UInt8} (h : signB c = false) : cutM (k + 1) (c :: r) = cutM k r + 1 := by
 rw [cutM, if_neg (of_decide_eq_false h)]
theorem one_at (s : ByteArray) (j : Nat) (c : UInt8) (h : j < s.size) (hc : bN s j = c) : s.extract j (j + 1) = ⟨#[c]⟩ := by
 rw [ext_take, bN_drop s j h, hc]
 rfl
/-- are these two bytes next? -/
def next2 (c d : UInt8) (r : List UInt8) : Bool := r.take 2 == [c, d]
theorem pref_two (s : ByteArray) (i : Nat) (c d : UInt8) (hi : i ≤ s.size) : prefB (s.extract i s.size) ⟨#[c, d]⟩ = next2 c d (s.data.toList.drop i) := by
 have hz : (⟨#[c, d]⟩ : ByteArray).size = 2 := rfl
 have hs : (s.extract i s.size).size = s.size - i := by rw [ByteArray.size_extract]; omega
 unfold prefB next2
 rw [hz, hs, ByteArray.toList_eq, ByteArray.toList_eq]
 have hd := ext_take (s.extract i s.size) 0 2
 rw [Nat.zero_add, List.drop_zero, ext_drop] at hd
 rw [hd]
 by_cases h : 2 ≤ s.size - i
 ·rw [decide_eq_true h, Bool.true_and]
 ·rw [decide_eq_false h, Bool.false_and]
  symm
  have hl : ((s.data.toList.drop i).take 2).length ≠ 2 := by simp; omega
  exact beq_eq_false_iff_ne.2 (fun e => hl (by rw [e]; rfl))
theorem next2_lt {s : ByteArray} {i : Nat} {c d : UInt8} (h : next2 c d (s.data.toList.drop i) = true) : i + 2 ≤ s.size := by
 unfold next2 at h
 have h1 := congrArg List.length (eq_of_beq h)
 simp at h1
 omega
/-- behind a name -/
def tailW (n : ByteArray) (r : List UInt8) : Option (S25 × List UInt8) :=
 if nextB 61 r = true then (valW stepP (r.drop 1)).map (fun p => (⟨1, n, ⟨p.1.toArray⟩, [], []⟩, p.2))
 else if next2 33 61 r = true then (valW stepP (r.drop 2)).map (fun p => (⟨2, n, ⟨p.1.toArray⟩, [], []⟩, p.2))
 else if next2 94 61 r = true then (valW stepP (r.drop 2)).map (fun p => (⟨3, n, ⟨p.1.toArray⟩, [], []⟩, p.2))
 else if nextB 64 r = true then (listV (r.drop 1)).map (fun p => (⟨4, n, ⟨#[]⟩, p.1, []⟩, p.2))
 else none
theorem nextB_cons (x c : UInt8) (q : List UInt8) : (nextB x (c :: q) = true) = (c = x) := by unfold nextB; simp
theorem next2_cons (x y c : UInt8) (q : List UInt8) : (next2 x y (c :: q) = true) = (c = x ∧ q.head? = some y) := by unfold next2; cases q <;> simp
theorem namedW_tail (r : List UInt8) : namedW (cutM 33) stepP true r = tailW ⟨(r.take (cutM 33 r)).toArray⟩ (r.drop (cutM 33 r)) := by
 unfold namedW
 generalize (⟨(r.take (cutM 33 r)).toArray⟩ : ByteArray) = n
 generalize r.drop (cutM 33 r) = q
 unfold tailW
 match q with
 | [] => rfl
 | c :: q =>
  simp only [nextB_cons, next2_cons, List.drop_succ_cons, List.drop_zero]
  by_cases h1 : c = 61
  ·rw [if_pos h1, if_pos h1]
  rw [if_neg h1, if_neg h1]
  by_cases h2 : c = 33
  ·subst h2
   rw [if_pos rfl]
   match q with
   | [] => simp
   | e :: q =>
    by_cases he : e = 61
    ·subst he; simp
    ·simp [he]
  rw [if_neg h2, if_neg (show ¬ (c = 33 ∧ q.head? = some 61) from fun h => h2 h.1)]
  by_cases h3 : c = 94
  ·subst h3
   rw [if_pos rfl]
   match q with
   | [] => simp
   | e :: q =>
    by_cases he : e = 61
    ·subst he; simp
    ·simp [he]
  rw [if_neg h3, if_neg (show ¬ (c = 94 ∧ q.head? = some 61) from fun h => h3 h.1)]
  by_cases h4 : c = 64
  ·rw [if_pos h4, if_pos h4]
   unfold listV
   match q with
   | [] => rfl
   | e :: q =>
    simp only [nextB_cons, List.drop_succ_cons, List.drop_zero]
    by_cases he : e = 40
    ·subst he
     rw [if_pos rfl, if_pos rfl]
     by_cases hq : q.head? = some 41
     ·rw [if_pos ⟨trivial, hq⟩, if_pos (by unfold nextB; rw [hq]; rfl)]
      rfl
     ·rw [if_neg (fun h => hq h.2), if_neg (by unfold nextB; simpa using hq)]
    ·rw [if_neg he, if_neg he]
     rfl
  ·rw [if_neg h4, if_neg h4]
end Go.Proofs.Yteafilojjdfllaa
end
section
namespace Go.Proofs.Yteafilojjdfllaa
open Go Go.RowKit Go.Proofs.YteafilojjdfllaaW.PrintWords Go.Proofs.YteafilojjdfllaaW.PrintLast Go.Proofs.YteafilojjdfllaaW.PrintMore Go.Proofs.Yteafilojjdfllaa.PAll
set_option linter.unusedVariables false
set_option linter.unusedSimpArgs false
theorem RedPost.none_ {w0 w w' : World} {g : Nat} {e : Ending} (h : RedPost w0 w g none e w') : e = .panicked badP ∧ Below w0.heap.size w0 w' ∧ KeepBut w w' g none := by
 obtain ⟨h1, h2, ⟨-, h3⟩ | ⟨m, o, A3, c3, A4, c4, h3, -⟩⟩ := h
 ·exact ⟨h3, h1, h2⟩
 ·cases h3
theorem RedPost.some_ {w0 w w' : World} {g : Nat} {e : Ending} {m : S25} {o : Obj} (h : RedPost w0 w g (some (m, o)) e w') : ∃ A3 c3 A4 c4, e = .returned (mV m A3 c3 A4 c4) ∧ Below w0.heap.size w0 w' ∧ KeepBut w w' g none ∧ MF w' (fun b => w.heap.size ≤ b ∧ b < w'.heap.size) m A3 c3 A4 c4 ∧ w'.heap[g]? = some o := by
 obtain ⟨h1, h2, ⟨h3, -⟩ | ⟨m', o', A3, c3, A4, c4, h3, h4, h5, h6⟩⟩ := h
 ·cases h3
 ·simp only [Option.some.injEq, Prod.mk.injEq] at h3
  obtain ⟨rfl, rfl⟩ := h3
  exact ⟨A3, c3, A4, c4, h4, h1, h2, h5, h6⟩
end Go.Proofs.Yteafilojjdfllaa
end
section
namespace Go.Proofs.Yteafilojjdfllaa
open Go Go.RowKit Go.Proofs.YteafilojjdfllaaW.PrintWords Go.Proofs.YteafilojjdfllaaW.PrintLast Go.Proofs.YteafilojjdfllaaW.PrintMore Go.Proofs.Yteafilojjdfllaa.PAll
set_option linter.unusedVariables false
set_option linter.unusedSimpArgs false
theorem cutM_le : ∀ (k : Nat) (r : List UInt8), cutM k r ≤ r.length
 | 0, r => by rw [cutM]; exact Nat.zero_le _
 | k + 1, [] => by rw [cutM_end]; exact Nat.zero_le _
 | k + 1, c :: r => by
  rw [cutM]
  have := cutM_le k r
  split <;> simp <;> omega
theorem ct_next {ct p i : Nat} {c : UInt8} {r : List UInt8} (hip : i ≤ p) (h32 : p - i ≤ 32) (h : ct = (p - i) + cutM (33 - (p - i)) (c :: r)) (hs : signB c = false) : ct = (p + 1 - i) + cutM (33 - (p + 1 - i)) r ∧ i ≤ p + 1 ∧ p + 1 ≤ i + 33 := by
 obtain ⟨k, hk⟩ : ∃ k, 33 - (p - i) = k + 1 := ⟨32 - (p - i), by omega⟩
 rw [hk, cutM_more hs] at h
 rw [show 33 - (p + 1 - i) = k by omega]
 omega
theorem ct_sign {ct p i e : Nat} {c : UInt8} {r : List UInt8} (hip : i ≤ p) (h : ct = (p - i) + cutM (33 - (p - i)) (c :: r)) (hs : signB c = true) (he : i + ct = e) : p = e := by
 rw [cutM_sign hs] at h
 omega
/-- the parser's block, as an object -/
abbrev pObj (s : ByteArray) (j : Nat) (l : Int) : Obj := .cells #[.string s, .int .i64 (j : Int), .int .i64 l] 172 (0, 0)
/-- the result is laid into its block: what is said of the end -/
theorem nam_tail {w0 w W : World} {g K : Nat} {o : Obj} {m : S25} {A3 A4 : Option Addr} {c3 c4 : Nat} (hK : w.heap.size ≤ K) (hb : W.heap[K]? = some (.cells Z5 25 (0, 0))) (hg : w0.heap.size ≤ g) (hgl : g < w.heap.size) (hw0 : w0.heap.size ≤ w.heap.size) (hB : Below w0.heap.size w0 W) (hKB : KeepBut w W g none) (hO : W.heap[g]? = some o) (hM : MF W (fun b => K < b ∧ b < W.heap.size) m A3 c3 A4 c4) :
  (((((W.setCell ⟨K, 0, none⟩ (.int .i64 m.f0)).setCell ⟨K, 1, none⟩ (.string m.f1)).setCell ⟨K, 2, none⟩ (.string m.f2)).setCell ⟨K, 3, none⟩ (.slice A3 m.f3.length c3)).setCell ⟨K, 4, none⟩ (.slice A4 m.f4.length c4)).heap[K]? = some (.cells #[.int .i64 m.f0, .string m.f1, .string m.f2, .slice A3 m.f3.length c3, .slice A4 m.f4.length c4] 25 (0, 0)) ∧
  RedPost w0 w g (some (m, o)) (.returned (mV m A3 c3 A4 c4)) (((((W.setCell ⟨K, 0, none⟩ (.int .i64 m.f0)).setCell ⟨K, 1, none⟩ (.string m.f1)).setCell ⟨K, 2, none⟩ (.string m.f2)).setCell ⟨K, 3, none⟩ (.slice A3 m.f3.length c3)).setCell ⟨K, 4, none⟩ (.slice A4 m.f4.length c4)) := by
 have far : ∀ i, i ≠ K → (((((W.setCell ⟨K, 0, none⟩ (.int .i64 m.f0)).setCell ⟨K, 1, none⟩ (.string m.f1)).setCell ⟨K, 2, none⟩ (.string m.f2)).setCell ⟨K, 3, none⟩ (.slice A3 m.f3.length c3)).setCell ⟨K, 4, none⟩ (.slice A4 m.f4.length c4)).heap[i]? = W.heap[i]? := fun i hne =>
  (Below.heap_setCell _ _ _ _ hne).trans ((Below.heap_setCell _ _ _ _ hne).trans ((Below.heap_setCell _ _ _ _ hne).trans ((Below.heap_setCell _ _ _ _ hne).trans (Below.heap_setCell _ _ _ _ hne))))
 have hwK : w0.heap.size ≤ K := by omega
 have hs : ∀ x0 x1 x2 x3 x4, (((((W.setCell ⟨K, 0, none⟩ x0).setCell ⟨K, 1, none⟩ x1).setCell ⟨K, 2, none⟩ x2).setCell ⟨K, 3, none⟩ x3).setCell ⟨K, 4, none⟩ x4).heap.size = W.heap.size := fun _ _ _ _ _ => by simp
 refine ⟨(blk_set (blk_set (blk_set (blk_set (blk_set hb 0 _) 1 _) 2 _) 3 _) 4 _).trans (by rfl), ?_, ?_, Or.inr ⟨m, o, A3, c3, A4, c4, rfl, rfl, ?_, ?_⟩⟩
 ·exact ((((hB.setCell hwK _).setCell hwK _).setCell hwK _).setCell hwK _).setCell hwK _
 ·refine ⟨by rw [hs]; exact hKB.1, fun i hi h1 h2 => ?_⟩
  exact (far i (by omega)).trans (hKB.2 i hi h1 h2)
 ·refine hM.move (fun b hb => ⟨⟨by omega, by rw [hs]; exact hb.2⟩, far b (by omega)⟩)
 ·exact (far g (by omega)).trans hO
/-- the world while a matcher that begins with a name is read -/
structure NS (w0 wn W : World) (g B K G : Nat) (s nm : ByteArray) (j : Nat) (l op : Int) : Prop where
 below : Below w0.heap.size w0 W
 keep : KeepBut wn W g none
 size : G < W.heap.size
 box : W.heap[B]? = some (.cells #[.pointer (some ⟨g, 0, none⟩)] 170 (0, 0))
 res : W.heap[K]? = some (.cells Z5 25 (0, 0))
 blk : W.heap[G]? = some (.cells #[.int .i64 op, .string nm, .string ⟨#[]⟩, .slice none 0 0, .slice none 0 0] 25 (0, 0))
 par : PB W g s j l
/-- where these lie -/
structure NL (w0 w wn : World) (g B K G : Nat) : Prop where
 g0 : w0.heap.size ≤ g
 gl : g < w.heap.size
 w0l : w0.heap.size ≤ w.heap.size
 eB : w.heap.size = B
 eK : B + 1 = K
 eG : wn.heap.size = G
 lK : K + 1 ≤ G
section
variable {w0 w wn W W' : World} {g B K G : Nat} {s nm : ByteArray} {i j : Nat} {l op : Int}
theorem NS.moved (h : NS w0 wn W g B K G s nm i l op) (L : NL w0 w wn g B K G) (hB : Below w0.heap.size w0 W') (hK : KeepBut W W' g none) (hP : PB W' g s j l) : NS w0 wn W' g B K G s nm j l op := by
 obtain ⟨L1, L2, L0, L3, L4, L5, L6⟩ := L
 have hs := h.size
 have hs2 := hK.1
 exact ⟨hB, h.keep.trans hK (Or.inl rfl), by omega, (hK.2 B (by omega) (by omega) (by simp)).trans h.box, (hK.2 K (by omega) (by omega) (by simp)).trans h.res, (hK.2 G (by omega) (by omega) (by simp)).trans h.blk, hP⟩
theorem NS.setop (h : NS w0 wn W g B K G s nm i l op) (L : NL w0 w wn g B K G) (o : Int) : NS w0 wn (W.setCell ⟨G, 0, none⟩ (.int .i64 o)) g B K G s nm i l o := by
 obtain ⟨L1, L2, L0, L3, L4, L5, L6⟩ := L
 have hk := h.keep
 exact ⟨h.below.setCell (show w0.heap.size ≤ G by omega) _, ⟨by simpa using hk.1, fun i hi h1 h2 => (Below.heap_setCell _ _ _ _ (show i ≠ G by omega)).trans (hk.2 i hi h1 h2)⟩, by simpa using h.size,
  (Below.heap_setCell _ _ _ _ (show B ≠ G by omega)).trans h.box, (Below.heap_setCell _ _ _ _ (show K ≠ G by omega)).trans h.res, (blk_set h.blk 0 _).trans (by rfl), (Below.heap_setCell _ _ _ _ (show g ≠ G by omega)).trans h.par⟩
theorem NS.cB (h : NS w0 wn W g B K G s nm i l op) : W.cell? ⟨B, 0, none⟩ = some (.pointer (some ⟨g, 0, none⟩)) := (blk_cell h.box 0).trans rfl
theorem NS.zG (h : NS w0 wn W g B K G s nm i l op) (k : Nat) : W.frozen? ⟨G, k, none⟩ = false := blk_frozen h.blk k
theorem NS.zK (h : NS w0 wn W g B K G s nm i l op) (k : Nat) : W.frozen? ⟨K, k, none⟩ = false := blk_frozen h.res k
theorem NS.c0 (h : NS w0 wn W g B K G s nm i l op) : W.cell? ⟨G, 0, none⟩ = some (.int .i64 op) := (blk_cell h.blk 0).trans rfl
theorem NS.c1 (h : NS w0 wn W g B K G s nm i l op) : W.cell? ⟨G, 1, none⟩ = some (.string nm) := (blk_cell h.blk 1).trans rfl
theorem NS.c2 (h : NS w0 wn W g B K G s nm i l op) : W.cell? ⟨G, 2, none⟩ = some (.string ⟨#[]⟩) := (blk_cell h.blk 2).trans rfl
theorem NS.c3 (h : NS w0 wn W g B K G s nm i l op) : W.cell? ⟨G, 3, none⟩ = some (.slice none 0 0) := (blk_cell h.blk 3).trans rfl
theorem NS.c4 (h : NS w0 wn W g B K G s nm i l op) : W.cell? ⟨G, 4, none⟩ = some (.slice none 0 0) := (blk_cell h.blk 4).trans rfl
theorem NS.k0 (h : NS w0 wn W g B K G s nm i l op) : W.cell? ⟨K, 0, none⟩ = some (.int .i64 0) := (blk_cell h.res 0).trans rfl
theorem NS.k1 (h : NS w0 wn W g B K G s nm i l op) : W.cell? ⟨K, 1, none⟩ = some (.string ⟨#[]⟩) := (blk_cell h.res 1).trans rfl
theorem NS.k2 (h : NS w0 wn W g B K G s nm i l op) : W.cell? ⟨K, 2, none⟩ = some (.string ⟨#[]⟩) := (blk_cell h.res 2).trans rfl
theorem NS.k3 (h : NS w0 wn W g B K G s nm i l op) : W.cell? ⟨K, 3, none⟩ = some (.slice none 0 0) := (blk_cell h.res 3).trans rfl
theorem NS.k4 (h : NS w0 wn W g B K G s nm i l op) : W.cell? ⟨K, 4, none⟩ = some (.slice none 0 0) := (blk_cell h.res 4).trans rfl
end
noncomputable def tabR175_2 : Bool × List (List Nat × List Nat) := rtab .any (opsOf Try.f175 2)
theorem tabR175_2_eq : rtab .any (opsOf Try.f175 2) = tabR175_2 := rfl
set_option maxRecDepth 100000 in
set_option maxHeartbeats 64000000 in
/-- named. -/
theorem named175 (w0 w : World) (g : Nat) (s : ByteArray) (i : Nat) (l : Int) (hi : i ≤ s.size) (hs : s.size ≤ 1000000000) (hg : w0.heap.size ≤ g) (hB : Below w0.heap.size w0 w) (hP : PB w g s i l) :
  Calls Try.prog 175 #[.pointer (some ⟨g, 0, none⟩)] w (RedPost w0 w g ((namedW (cutM 33) stepP true (s.data.toList.drop i)).map fun q => (q.1, pObj s (s.size - q.2.length) l))) := by
 obtain ⟨ct, hct⟩ : ∃ ct, cutM 33 (s.data.toList.drop i) = ct := ⟨_, rfl⟩
 obtain ⟨e, he⟩ : ∃ e, i + ct = e := ⟨_, rfl⟩
 obtain ⟨nm, hnm⟩ : ∃ nm : ByteArray, s.extract i e = nm := ⟨_, rfl⟩
 obtain ⟨Q, hQ⟩ : ∃ Q, tailW nm (s.data.toList.drop e) = Q := ⟨_, rfl⟩
 have hQ0 : namedW (cutM 33) stepP true (s.data.toList.drop i) = Q := by
  rw [namedW_tail, hct, List.drop_drop, he, ← ext_take, he, hnm, hQ]
 rw [hQ0]
 have HQ := Lib.hid hQ
 have HCT := Lib.hid hct
 have HE := Lib.hid he
 have HNM := Lib.hid hnm
 have HB := Lib.hid hB
 have HPP := Lib.hid hP
 have HWS := Lib.hid hB.size
 have p1 := hP.c1
 have hgl := hP.lt
 have HGL := Lib.hid hgl
 clear hQ hQ0 hB hP hct he hnm
 go_enter Try.func175, Try.ntmps175
 go_upto_block 0 with fail
 obtain ⟨V, eV⟩ : ∃ V, V = (w.alloc (.cells #[.pointer (some ⟨g, 0, none⟩)] 170)).alloc (.cells Z5 25) := ⟨_, rfl⟩
 rw [← eV]
 obtain ⟨B, eB⟩ : ∃ B, w.heap.size = B := ⟨_, rfl⟩
 obtain ⟨K, eK⟩ : ∃ K, B + 1 = K := ⟨_, rfl⟩
 rw [eB, eK]
 have HBV : Hid (Below w.heap.size w V) := Lib.hid (by rw [eV]; exact below_alloc (below_alloc (Below.refl _ _) _) _)
 have HVB : Hid (V.heap[B]? = some (.cells #[.pointer (some ⟨g, 0, none⟩)] 170 (0, 0))) := Lib.hid (by
  rw [eV, ← eB]
  exact (Below.heap_alloc _ _ _ (blk_lt (blk_new w _))).trans (blk_new w _))
 have HVK : Hid (V.heap[K]? = some (.cells Z5 25 (0, 0))) := Lib.hid (by
  rw [eV, ← eK, ← eB]
  have h := blk_new (w.alloc (.cells #[.pointer (some ⟨g, 0, none⟩)] 170)) (.cells Z5 25)
  rwa [World.size_alloc] at h)
 have HVS : Hid (K + 1 ≤ V.heap.size) := Lib.hid (by rw [eV, World.size_alloc, World.size_alloc]; omega)
 have EB := Lib.hid eB
 have EK := Lib.hid eK
 have HGB := Lib.hid (show B ≠ g by omega)
 have HGK := Lib.hid (show K ≠ g by omega)
 clear eV
 go_cut [] from 9 to 52 (fun wx => Hid (PB wx g s e l) ∧ Hid (wx.heap[B]? = some (.cells #[.pointer (some ⟨g, 0, none⟩)] 170 (0, 0))) ∧ Hid (wx.heap[K]? = some (.cells Z5 25 (0, 0))) ∧ Hid (Below w0.heap.size w0 wx) ∧ Hid (KeepBut w wx g none) ∧ Hid (K + 1 ≤ wx.heap.size))
 case first =>
  go_wp2_with fail
  go_loopw [] (fun wr => ∃ (p : Nat), i ≤ p ∧ p ≤ s.size ∧ p ≤ i + 33 ∧ Hid (ct = (p - i) + cutM (33 - (p - i)) (s.data.toList.drop p)) ∧ Hid (wr.heap[B]? = some (.cells #[.pointer (some ⟨g, 0, none⟩)] 170 (0, 0))) ∧ Hid (wr.heap[K]? = some (.cells Z5 25 (0, 0))) ∧ Hid (PB wr g s p l) ∧ Hid (Below w0.heap.size w0 wr) ∧ Hid (KeepBut w wr g none) ∧ Hid (K + 1 ≤ wr.heap.size))
   (fun wr => s.size - (intOf ((wr.cell? ⟨g, 1, none⟩).getD undef)).toNat)
  case atStart => exact ⟨i, Nat.le_refl _, hi, by omega, Lib.hid (by rw [Nat.sub_self, Nat.zero_add]; exact HCT.out.symm), HVB, HVK, Lib.hid (HPP.out.below HBV.out), Lib.hid (below_step HB.out HBV.out), Lib.hid (KeepBut.of_below HBV.out g none), HVS⟩
  case round =>
   obtain ⟨p, hip, hp, hp33, HC, HBX, HKX, HPX, HBW, HKW, HSZ⟩ := hrel
   have fin : Hid (∀ W, Below wr.heap.size wr W → p = e → (Hid (PB W g s e l) ∧ Hid (W.heap[B]? = some (.cells #[.pointer (some ⟨g, 0, none⟩)] 170 (0, 0))) ∧ Hid (W.heap[K]? = some (.cells Z5 25 (0, 0))) ∧ Hid (Below w0.heap.size w0 W) ∧ Hid (KeepBut w W g none) ∧ Hid (K + 1 ≤ W.heap.size))) := Lib.hid (fun W hb hpe => by
    rw [← hpe]
    exact ⟨Lib.hid (HPX.out.below hb), Lib.hid ((hb.block B (blk_lt HBX.out)).trans HBX.out), Lib.hid ((hb.block K (blk_lt HKX.out)).trans HKX.out), Lib.hid (below_step HBW.out hb), Lib.hid (HKW.out.trans (KeepBut.of_below hb g none) (Or.inl rfl)), Lib.hid (Nat.le_trans HSZ.out hb.size)⟩)
   have g0 := HPX.out.c0
   have g1 := HPX.out.c1
   have gB : wr.cell? ⟨B, 0, none⟩ = some (.pointer (some ⟨g, 0, none⟩)) := (blk_cell HBX.out 0).trans rfl
   have hw1 : wrap64 ((p : Int) - (i : Int)) = (p : Int) - (i : Int) := by unfold wrap64; omega
   by_cases hlt : p < s.size
   ·have dl : decide (p < s.size) = true := decide_eq_true hlt
    have dlI : decide ((p : Int) < (s.size : Int)) = true := decide_eq_true (by omega)
    by_cases h32 : p - i ≤ 32
    ·have d32 : decide ((p : Int) - (i : Int) ≤ 32) = true := decide_eq_true (by omega)
     obtain ⟨c, hc⟩ : ∃ c, bN s p = c := ⟨_, rfl⟩
     obtain ⟨b, hb⟩ : ∃ b, signB c = b := ⟨_, rfl⟩
     have hsl : s.extract p (p + 1) = ⟨#[c]⟩ := one_at s p c hlt hc
     have HX := Lib.hid hc
     have HSB := Lib.hid hb
     have hp1 : wrap64 ((p : Int) + 1) = ((p + 1 : Nat) : Int) := by unfold wrap64; omega
     have hp0 : (0 : Int) ≤ (p : Int) + 1 := Int.natCast_nonneg (p + 1)
     have hpp : (p : Int) ≤ (p : Int) + 1 := Int.ofNat_le.2 (Nat.le_succ p)
     have hpI : (p : Int) + 1 ≤ (s.size : Int) := Int.ofNat_le.2 (show p + 1 ≤ s.size from hlt)
     clear hc hb
     cases b with
     | true =>
      go_wp2_with fail
      have f0 := fun W (hb : Below wr.heap.size wr W) => pw_cell_below hb g0
      have f1 := fun W (hb : Below wr.heap.size wr W) => pw_cell_below hb g1
      have fB := fun W (hb : Below wr.heap.size wr W) => pw_cell_below hb gB
      refine start_ (n := 37) (S := fun W => Below wr.heap.size wr W) (ds := []) (msk 37 [0, 1, 2, 3, 4, 5, 6, 7, 8, 9, 10, 15, 11, 12, 13, 14, 16, 17, 18, 19, 20, 21, 22, 23, 24, 25, 26, 27, 28, 29, 30, 31, 32, 33, 34, 35, 36] 0).toArray (by kernel_rfl) rfl rfl (below_drew (Below.refl _ _)) (fun hHeld => ?_)
      refine with_tab (T := tabR175_2) tabR175_2_eq (fun HT_ => ?_)
      iterate 34 (first | (refine pureO HT_.out (N := some _) (v := ?_) (a' := ?_) rfl rfl (by kernel_rfl) (fun _ _ _ h => h) (Or.inl ⟨by rfl, ?_⟩) ?_ ?_; rotate_left; intro w'; go_simp; (with_reducible rfl); rotate_left; simp only [Act.put, List.setIfInBounds_toArray, List.set_cons_zero, List.set_cons_succ, i64_w, i32_w]; rfl) | (refine takeO HT_.out (N := some _) (v := ?_) (a' := ?_) rfl rfl (by kernel_rfl) (fun _ _ _ h => h) (Or.inl ⟨by rfl, ?_⟩) hHeld ?_ ?_; rotate_left; intro w' hh; have q0 := f0 w' hh; have q1 := f1 w' hh; have qB := fB w' hh; go_simp; (with_reducible rfl); rotate_left; simp only [Act.put, List.setIfInBounds_toArray, List.set_cons_zero, List.set_cons_succ, i64_w, i32_w]; rfl))
      refine oneO (i := 34) (N := some 43) HT_.out rfl rfl (by kernel_rfl) (by decide) (fun K_ hK_ => ?_)
      refine goes_ Try.func186 (by kernel_rfl) rfl #[.string ⟨#[61, 33, 94, 64]⟩, .string ⟨#[c]⟩] (by rfl) rfl rfl (by (try simp only [List.map_toArray, List.map_cons, List.map_nil]); first | done | rfl) ?_
      (with_reducible refine (cont186 _ c true HSB.out).mono ?_)
      rintro e w9 ⟨rfl, rfl⟩
      refine ⟨_, rfl, ?_⟩
      refine hK_.out _ _ (hHeld) (fun hHeld => ?_)
      clear hK_ K_
      try simp only [Act.put, List.setIfInBounds_toArray, List.set_cons_zero, List.set_cons_succ]
      iterate 2 (refine pureO HT_.out (N := some _) (v := ?_) (a' := ?_) rfl rfl (by kernel_rfl) (fun _ _ _ h => h) (Or.inl ⟨by rfl, ?_⟩) ?_ ?_; rotate_left; intro w'; go_simp; (with_reducible rfl); rotate_left; simp only [Act.put, List.setIfInBounds_toArray, List.set_cons_zero, List.set_cons_succ, i64_w, i32_w]; rfl)
      refine done_ (done_of HT_.out (by kernel_rfl)) ?_
      clear f0 f1 fB
      go_wp2
      go_meet
      case rel => exact fin.out _ (by first | exact hHeld | exact below_drew (Below.refl _ _) | exact pw_below_drewN (Below.refl _ _) _) (ct_sign hip (by have h := HC.out; rwa [bN_drop s p hlt, HX.out] at h) HSB.out HE.out)
     | false =>
      go_wp2_with fail
      have f0 := fun W (hb : Below wr.heap.size wr W) => pw_cell_below hb g0
      have f1 := fun W (hb : Below wr.heap.size wr W) => pw_cell_below hb g1
      have fB := fun W (hb : Below wr.heap.size wr W) => pw_cell_below hb gB
      refine start_ (n := 37) (S := fun W => Below wr.heap.size wr W) (ds := []) (msk 37 [0, 1, 2, 3, 4, 5, 6, 7, 8, 9, 10, 15, 11, 12, 13, 14, 16, 17, 18, 19, 20, 21, 22, 23, 24, 25, 26, 27, 28, 29, 30, 31, 32, 33, 34, 35, 36] 0).toArray (by kernel_rfl) rfl rfl (below_drew (Below.refl _ _)) (fun hHeld => ?_)
      refine with_tab (T := tabR175_2) tabR175_2_eq (fun HT_ => ?_)
      iterate 34 (first | (refine pureO HT_.out (N := some _) (v := ?_) (a' := ?_) rfl rfl (by kernel_rfl) (fun _ _ _ h => h) (Or.inl ⟨by rfl, ?_⟩) ?_ ?_; rotate_left; intro w'; go_simp; (with_reducible rfl); rotate_left; simp only [Act.put, List.setIfInBounds_toArray, List.set_cons_zero, List.set_cons_succ, i64_w, i32_w]; rfl) | (refine takeO HT_.out (N := some _) (v := ?_) (a' := ?_) rfl rfl (by kernel_rfl) (fun _ _ _ h => h) (Or.inl ⟨by rfl, ?_⟩) hHeld ?_ ?_; rotate_left; intro w' hh; have q0 := f0 w' hh; have q1 := f1 w' hh; have qB := fB w' hh; go_simp; (with_reducible rfl); rotate_left; simp only [Act.put, List.setIfInBounds_toArray, List.set_cons_zero, List.set_cons_succ, i64_w, i32_w]; rfl))
      refine oneO (i := 34) (N := some 43) HT_.out rfl rfl (by kernel_rfl) (by decide) (fun K_ hK_ => ?_)
      refine goes_ Try.func186 (by kernel_rfl) rfl #[.string ⟨#[61, 33, 94, 64]⟩, .string ⟨#[c]⟩] (by rfl) rfl rfl (by (try simp only [List.map_toArray, List.map_cons, List.map_nil]); first | done | rfl) ?_
      (with_reducible refine (cont186 _ c false HSB.out).mono ?_)
      rintro e w9 ⟨rfl, rfl⟩
      refine ⟨_, rfl, ?_⟩
      refine hK_.out _ _ (hHeld) (fun hHeld => ?_)
      clear hK_ K_
      try simp only [Act.put, List.setIfInBounds_toArray, List.set_cons_zero, List.set_cons_succ]
      iterate 2 (refine pureO HT_.out (N := some _) (v := ?_) (a' := ?_) rfl rfl (by kernel_rfl) (fun _ _ _ h => h) (Or.inl ⟨by rfl, ?_⟩) ?_ ?_; rotate_left; intro w'; go_simp; (with_reducible rfl); rotate_left; simp only [Act.put, List.setIfInBounds_toArray, List.set_cons_zero, List.set_cons_succ, i64_w, i32_w]; rfl)
      refine done_ (done_of HT_.out (by kernel_rfl)) ?_
      clear f0 f1 fB
      have HNX := Lib.hid (ct_next (ct := ct) (r := s.data.toList.drop (p + 1)) hip h32 (HC.out.trans (by rw [bN_drop s p hlt, HX.out])) HSB.out)
      have HPX1 := Lib.hid (HPX.out.below hHeld)
      have HBX1 := Lib.hid ((hHeld.block B (blk_lt HBX.out)).trans HBX.out)
      have HKX1 := Lib.hid ((hHeld.block K (blk_lt HKX.out)).trans HKX.out)
      have HBW1 := Lib.hid (below_step HBW.out hHeld)
      have HKW1 := Lib.hid (HKW.out.trans (KeepBut.of_below hHeld g none) (Or.inl rfl))
      have HSZ1 := Lib.hid (Nat.le_trans HSZ.out hHeld.size)
      have e1 := HPX1.out.c1
      have z1 := HPX1.out.z1
      have eB1 := (blk_cell HBX1.out 0)
      simp only [List.getElem?_toArray, List.getElem?_cons_zero] at eB1
      have hgB : B ≠ g := HGB.out
      have hgK : K ≠ g := HGK.out
      clear g0 g1 gB hp0 hpp hpI hsl hw1 hHeld
      go_wp2
      go_roundw
      case rel => exact ⟨p + 1, HNX.out.2.1, hlt, HNX.out.2.2, Lib.hid HNX.out.1, Lib.hid ((Below.heap_setCell _ _ _ _ hgB).trans HBX1.out), Lib.hid ((Below.heap_setCell _ _ _ _ hgK).trans HKX1.out), Lib.hid (HPX1.out.set1 (p + 1)), Lib.hid (HBW1.out.setCell hg _), Lib.hid (HKW1.out.set_ 1 _), Lib.hid (by have := HSZ1.out; simpa using this)⟩
      case measure => exact measS hlt HPX.out.c1 (HPX1.out.set1 (p + 1)).c1
    ·have d32 : decide ((p : Int) - (i : Int) ≤ 32) = false := decide_eq_false (by omega)
     go_wp2_with fail
     go_quiet (fail)
     go_wp2
     go_meet
     case rel => exact fin.out _ (by first | exact hHeld | exact below_drew (Below.refl _ _) | exact pw_below_drewN (Below.refl _ _) _) (by have h := HC.out; rw [show 33 - (p - i) = 0 by omega, cutM] at h; have := HE.out; omega)
   ·have dl : decide (p < s.size) = false := decide_eq_false hlt
    have dlI : decide ((p : Int) < (s.size : Int)) = false := decide_eq_false (by omega)
    go_wp2_with fail
    go_quiet (fail)
    go_wp2
    go_meet
    case rel => exact fin.out _ (by first | exact hHeld | exact below_drew (Below.refl _ _) | exact pw_below_drewN (Below.refl _ _) _) (by have h := HC.out; rw [List.drop_of_length_le (by simp; omega), cutM_end] at h; have := HE.out; omega)
 case rest =>
  obtain ⟨HPx, HBx, HKx, HB0, HK0, HSZ⟩ := hcut
  clear HVB HVK HBV HVS
  obtain ⟨G, eG⟩ : ∃ G, wc.heap.size = G := ⟨_, rfl⟩
  have HL := Lib.hid (show NL w0 w wc g B K G from ⟨hg, HGL.out, HWS.out, EB.out, EK.out, eG, by have := HSZ.out; omega⟩)
  obtain ⟨Z, eZ⟩ : ∃ Z, Z = wc.alloc (.cells Z5 25) := ⟨_, rfl⟩
  have hZB : Below wc.heap.size wc Z := by rw [eZ]; exact below_alloc (Below.refl _ _) _
  have g0 := HPx.out.c0
  have g1 := HPx.out.c1
  have gB : wc.cell? ⟨B, 0, none⟩ = some (.pointer (some ⟨g, 0, none⟩)) := (blk_cell HBx.out 0).trans rfl
  have y0 := (HPx.out.below hZB).c0
  have y1 := (HPx.out.below hZB).c1
  have yB : Z.cell? ⟨B, 0, none⟩ = some (.pointer (some ⟨g, 0, none⟩)) := (blk_cell ((hZB.block B (blk_lt HBx.out)).trans HBx.out) 0).trans rfl
  rw [eZ] at y0 y1 yB
  have hieI : (i : Int) ≤ (e : Int) := by have := HE.out; omega
  have hesI : (e : Int) ≤ (s.size : Int) := by have := cutM_le 33 (s.data.toList.drop i); rw [HCT.out] at this; have h2 := HE.out; simp at this; omega
  have hex := HNM.out
  go_wp2_with fail
  go_region
  obtain ⟨W4, eW4⟩ : ∃ W4, W4 = (wc.alloc (.cells #[.int .i64 0, .string nm, .string ⟨#[]⟩, .slice none 0 0, .slice none 0 0] 25)).drew := ⟨_, rfl⟩
  rw [← eW4]
  have hB4 : Below wc.heap.size wc W4 := by rw [eW4]; exact below_drew (below_alloc (Below.refl _ _) _)
  have HN4 : Hid (NS w0 wc W4 g B K G s nm e l 0) := Lib.hid ⟨below_step HB0.out hB4, KeepBut.of_below hB4 g none, by rw [eW4, World.size_drew, World.size_alloc]; omega, (hB4.block B (blk_lt HBx.out)).trans HBx.out, (hB4.block K (blk_lt HKx.out)).trans HKx.out, by rw [eW4, ← eG]; exact blk_new wc _, HPx.out.below hB4⟩
  have hes : e ≤ s.size := by omega
  have HQR : Hid (RedPost w0 w g none (.panicked badP) = RedPost w0 w g none (.panicked badP)) := Lib.hid rfl
  have HKc := HKx
  clear g0 g1 gB y0 y1 yB hieI hesI hex eZ hZB Z eW4 hB4 HPx HBx HKx HB0 p1 hgl eB eK HSZ
  have cB := HN4.out.cB
  have HNE := Lib.hid (show K ≠ G by have := HL.out.lK; omega)
  obtain ⟨b1, e1⟩ : ∃ b, nextB 61 (s.data.toList.drop e) = b := ⟨_, rfl⟩
  have H1 := Lib.hid (takes174 w0 W4 g s e l ⟨#[61]⟩ b1 hes hs (by decide) ((pref_one s e 61 hes).trans e1) hg HN4.out.below HN4.out.par)
  have E1 := Lib.hid e1
  clear e1
  go_wp2_with fail
  (with_reducible refine H1.out.mono ?_)
  rintro ee w5 ⟨rfl, hb5, hk5, hp5⟩
  cases b1 with
  | true =>
   have HN5 : Hid (NS w0 wc w5 g B K G s nm (e + 1) l 0) := Lib.hid (HN4.out.moved HL.out hb5 hk5 hp5)
   have HE5 : Hid (e + 1 ≤ s.size) := Lib.hid (next_lt E1.out)
   clear hb5 hk5 hp5 H1 cB
   have HNs := Lib.hid (HN5.out.setop HL.out 1)
   have c50 := HN5.out.c0
   have z50 := HN5.out.zG 0
   have cB6 := HNs.out.cB
   cases hq : valW stepP (s.data.toList.drop (e + 1)) with
   | none =>
    have H6 := Lib.hid (value189n w0 (w5.setCell ⟨G, 0, none⟩ (.int .i64 1)) g s (e + 1) l hq HE5.out hs hg HNs.out.below HNs.out.par)
    have HQ6 := Lib.hid (show Q = none by rw [← HQ.out]; unfold tailW; rw [if_pos E1.out, List.drop_drop]; rw [hq]; rfl)
    clear hq
    go_wp2_with fail
    (with_reducible refine H6.out.mono ?_)
    rintro ee w61 ⟨hb61, hk61, rfl⟩
    exact ⟨rfl, hb61, HK0.out.trans (HNs.out.keep.trans hk61 (Or.inl rfl)) (Or.inl rfl), Or.inl ⟨by rw [HQ6.out]; rfl, rfl⟩⟩
   | some q =>
    obtain ⟨v, r⟩ := q
    obtain ⟨hr1, hr2⟩ := val_place hq
    obtain ⟨j2, hj2⟩ : ∃ j2 : Nat, s.size - r.length = j2 := ⟨_, rfl⟩
    obtain ⟨x2, ex2⟩ : ∃ x : ByteArray, (⟨v.toArray⟩ : ByteArray) = x := ⟨_, rfl⟩
    have h6 := value189y w0 (w5.setCell ⟨G, 0, none⟩ (.int .i64 1)) g s (e + 1) l v r j2 hq (by omega) HE5.out hs hg HNs.out.below HNs.out.par
    rw [ex2] at h6
    have H6 := Lib.hid h6
    have HQ6 := Lib.hid (show Q = some (⟨1, nm, x2, [], []⟩, r) by rw [← HQ.out]; unfold tailW; rw [if_pos E1.out, List.drop_drop]; rw [hq, ← ex2]; rfl)
    have HJ2 := Lib.hid hj2
    clear hq hr1 hr2 hj2 ex2 h6
    go_wp2_with fail
    (with_reducible refine H6.out.mono ?_)
    rintro ee w71 ⟨hb71, hk71, rfl, hp71⟩
    have HNt := Lib.hid (HNs.out.moved HL.out hb71 hk71 hp71)
    have cB7 := HNt.out.cB
    have hKG : K ≠ G := HNE.out
    have hGK : G ≠ K := HNE.out.symm
    clear hb71 hk71 hp71 H6 c50 z50 cB6
    have y0 := HNt.out.c0
    have y1 := HNt.out.c1
    have y2 := HNt.out.c2
    have y3 := HNt.out.c3
    have y4 := HNt.out.c4
    have xk0 := HNt.out.k0
    have xk1 := HNt.out.k1
    have xk2 := HNt.out.k2
    have xk3 := HNt.out.k3
    have xk4 := HNt.out.k4
    have xz0 := HNt.out.zK 0
    have xz1 := HNt.out.zK 1
    have xz2 := HNt.out.zK 2
    have xz3 := HNt.out.zK 3
    have xz4 := HNt.out.zK 4
    have yz2 := HNt.out.zG 2
    go_wp2
    have h71 := HNt.out
    obtain ⟨L1, L2, L0, L3, L4, L5, L6⟩ := HL.out
    have hk71 := HK0.out.trans h71.keep (Or.inl rfl)
    have hT := nam_tail (m := ⟨1, nm, x2, [], []⟩) (A3 := none) (c3 := 0) (A4 := none) (c4 := 0) (W := w71.setCell ⟨G, 2, none⟩ (.string x2)) (w := w) (w0 := w0) (g := g) (K := K) (o := pObj s j2 l) (by omega) ((Below.heap_setCell _ _ _ _ hKG).trans h71.res) hg L2 L0 (h71.below.setCell (show w0.heap.size ≤ G by omega) _) ⟨by simpa using hk71.1, fun i hi h1 h2 => (Below.heap_setCell _ _ _ _ (show i ≠ G by omega)).trans (hk71.2 i hi h1 h2)⟩ ((Below.heap_setCell _ _ _ _ (show g ≠ G by omega)).trans h71.par) (fun X _ => ⟨Nat.le_refl _, Kd.C_nil _ _, Nat.le_refl _, Kd.C_nil _ _⟩)
    rw [HQ6.out]
    simp only [Option.map_some, HJ2.out]
    exact bodyPost_ret (results_single rfl (.cell K 25 _ (0, 0) _ rfl hT.1 Try.underlying25 rfl (by kernel_rfl) .nil)) rfl hT.2
  | false =>
   have HN5 : Hid (NS w0 wc w5 g B K G s nm e l 0) := Lib.hid (HN4.out.moved HL.out hb5 hk5 hp5)
   clear hb5 hk5 hp5 H1 cB HN4
   have cB := HN5.out.cB
   obtain ⟨b2, e2⟩ : ∃ b, next2 33 61 (s.data.toList.drop e) = b := ⟨_, rfl⟩
   have H2 := Lib.hid (takes174 w0 w5 g s e l ⟨#[33, 61]⟩ b2 hes hs (by decide) ((pref_two s e 33 61 hes).trans e2) hg HN5.out.below HN5.out.par)
   have E2 := Lib.hid e2
   clear e2
   go_wp2_with fail
   (with_reducible refine H2.out.mono ?_)
   rintro ee w6 ⟨rfl, hb6, hk6, hp6⟩
   cases b2 with
   | true =>
    have HN6 : Hid (NS w0 wc w6 g B K G s nm (e + 2) l 0) := Lib.hid (HN5.out.moved HL.out hb6 hk6 hp6)
    have HE5 : Hid (e + 2 ≤ s.size) := Lib.hid (next2_lt E2.out)
    clear hb6 hk6 hp6 H2 cB HN5
    have HNs := Lib.hid (HN6.out.setop HL.out 2)
    have c50 := HN6.out.c0
    have z50 := HN6.out.zG 0
    have cB6 := HNs.out.cB
    cases hq : valW stepP (s.data.toList.drop (e + 2)) with
    | none =>
     have H6 := Lib.hid (value189n w0 (w6.setCell ⟨G, 0, none⟩ (.int .i64 2)) g s (e + 2) l hq HE5.out hs hg HNs.out.below HNs.out.par)
     have HQ6 := Lib.hid (show Q = none by rw [← HQ.out]; unfold tailW; rw [if_neg (by rw [E1.out]; decide), if_pos E2.out, List.drop_drop]; rw [hq]; rfl)
     clear hq
     go_wp2_with fail
     (with_reducible refine H6.out.mono ?_)
     rintro ee w61 ⟨hb61, hk61, rfl⟩
     exact ⟨rfl, hb61, HK0.out.trans (HNs.out.keep.trans hk61 (Or.inl rfl)) (Or.inl rfl), Or.inl ⟨by rw [HQ6.out]; rfl, rfl⟩⟩
    | some q =>
     obtain ⟨v, r⟩ := q
     obtain ⟨hr1, hr2⟩ := val_place hq
     obtain ⟨j2, hj2⟩ : ∃ j2 : Nat, s.size - r.length = j2 := ⟨_, rfl⟩
     obtain ⟨x2, ex2⟩ : ∃ x : ByteArray, (⟨v.toArray⟩ : ByteArray) = x := ⟨_, rfl⟩
     have h6 := value189y w0 (w6.setCell ⟨G, 0, none⟩ (.int .i64 2)) g s (e + 2) l v r j2 hq (by omega) HE5.out hs hg HNs.out.below HNs.out.par
     rw [ex2] at h6
     have H6 := Lib.hid h6
     have HQ6 := Lib.hid (show Q = some (⟨2, nm, x2, [], []⟩, r) by rw [← HQ.out]; unfold tailW; rw [if_neg (by rw [E1.out]; decide), if_pos E2.out, List.drop_drop]; rw [hq, ← ex2]; rfl)
     have HJ2 := Lib.hid hj2
     clear hq hr1 hr2 hj2 ex2 h6
     go_wp2_with fail
     (with_reducible refine H6.out.mono ?_)
     rintro ee w71 ⟨hb71, hk71, rfl, hp71⟩
     have HNt := Lib.hid (HNs.out.moved HL.out hb71 hk71 hp71)
     have cB7 := HNt.out.cB
     have hKG : K ≠ G := HNE.out
     have hGK : G ≠ K := HNE.out.symm
     clear hb71 hk71 hp71 H6 c50 z50 cB6
     have y0 := HNt.out.c0
     have y1 := HNt.out.c1
     have y2 := HNt.out.c2
     have y3 := HNt.out.c3
     have y4 := HNt.out.c4
     have xk0 := HNt.out.k0
     have xk1 := HNt.out.k1
     have xk2 := HNt.out.k2
     have xk3 := HNt.out.k3
     have xk4 := HNt.out.k4
     have xz0 := HNt.out.zK 0
     have xz1 := HNt.out.zK 1
     have xz2 := HNt.out.zK 2
     have xz3 := HNt.out.zK 3
     have xz4 := HNt.out.zK 4
     have yz2 := HNt.out.zG 2
     go_wp2
     have h71 := HNt.out
     obtain ⟨L1, L2, L0, L3, L4, L5, L6⟩ := HL.out
     have hk71 := HK0.out.trans h71.keep (Or.inl rfl)
     have hT := nam_tail (m := ⟨2, nm, x2, [], []⟩) (A3 := none) (c3 := 0) (A4 := none) (c4 := 0) (W := w71.setCell ⟨G, 2, none⟩ (.string x2)) (w := w) (w0 := w0) (g := g) (K := K) (o := pObj s j2 l) (by omega) ((Below.heap_setCell _ _ _ _ hKG).trans h71.res) hg L2 L0 (h71.below.setCell (show w0.heap.size ≤ G by omega) _) ⟨by simpa using hk71.1, fun i hi h1 h2 => (Below.heap_setCell _ _ _ _ (show i ≠ G by omega)).trans (hk71.2 i hi h1 h2)⟩ ((Below.heap_setCell _ _ _ _ (show g ≠ G by omega)).trans h71.par) (fun X _ => ⟨Nat.le_refl _, Kd.C_nil _ _, Nat.le_refl _, Kd.C_nil _ _⟩)
     rw [HQ6.out]
     simp only [Option.map_some, HJ2.out]
     exact bodyPost_ret (results_single rfl (.cell K 25 _ (0, 0) _ rfl hT.1 Try.underlying25 rfl (by kernel_rfl) .nil)) rfl hT.2
   | false =>
    have HN6 : Hid (NS w0 wc w6 g B K G s nm e l 0) := Lib.hid (HN5.out.moved HL.out hb6 hk6 hp6)
    clear hb6 hk6 hp6 H2 cB HN5
    have cB := HN6.out.cB
    obtain ⟨b3, e3⟩ : ∃ b, next2 94 61 (s.data.toList.drop e) = b := ⟨_, rfl⟩
    have H3 := Lib.hid (takes174 w0 w6 g s e l ⟨#[94, 61]⟩ b3 hes hs (by decide) ((pref_two s e 94 61 hes).trans e3) hg HN6.out.below HN6.out.par)
    have E3 := Lib.hid e3
    clear e3
    go_wp2_with fail
    (with_reducible refine H3.out.mono ?_)
    rintro ee w7 ⟨rfl, hb7, hk7, hp7⟩
    cases b3 with
    | true =>
     have HN7 : Hid (NS w0 wc w7 g B K G s nm (e + 2) l 0) := Lib.hid (HN6.out.moved HL.out hb7 hk7 hp7)
     have HE5 : Hid (e + 2 ≤ s.size) := Lib.hid (next2_lt E3.out)
     clear hb7 hk7 hp7 H3 cB HN6
     have HNs := Lib.hid (HN7.out.setop HL.out 3)
     have c50 := HN7.out.c0
     have z50 := HN7.out.zG 0
     have cB6 := HNs.out.cB
     cases hq : valW stepP (s.data.toList.drop (e + 2)) with
     | none =>
      have H6 := Lib.hid (value189n w0 (w7.setCell ⟨G, 0, none⟩ (.int .i64 3)) g s (e + 2) l hq HE5.out hs hg HNs.out.below HNs.out.par)
      have HQ6 := Lib.hid (show Q = none by rw [← HQ.out]; unfold tailW; rw [if_neg (by rw [E1.out]; decide), if_neg (by rw [E2.out]; decide), if_pos E3.out, List.drop_drop]; rw [hq]; rfl)
      clear hq
      go_wp2_with fail
      (with_reducible refine H6.out.mono ?_)
      rintro ee w61 ⟨hb61, hk61, rfl⟩
      exact ⟨rfl, hb61, HK0.out.trans (HNs.out.keep.trans hk61 (Or.inl rfl)) (Or.inl rfl), Or.inl ⟨by rw [HQ6.out]; rfl, rfl⟩⟩
     | some q =>
      obtain ⟨v, r⟩ := q
      obtain ⟨hr1, hr2⟩ := val_place hq
      obtain ⟨j2, hj2⟩ : ∃ j2 : Nat, s.size - r.length = j2 := ⟨_, rfl⟩
      obtain ⟨x2, ex2⟩ : ∃ x : ByteArray, (⟨v.toArray⟩ : ByteArray) = x := ⟨_, rfl⟩
      have h6 := value189y w0 (w7.setCell ⟨G, 0, none⟩ (.int .i64 3)) g s (e + 2) l v r j2 hq (by omega) HE5.out hs hg HNs.out.below HNs.out.par
      rw [ex2] at h6
      have H6 := Lib.hid h6
      have HQ6 := Lib.hid (show Q = some (⟨3, nm, x2, [], []⟩, r) by rw [← HQ.out]; unfold tailW; rw [if_neg (by rw [E1.out]; decide), if_neg (by rw [E2.out]; decide), if_pos E3.out, List.drop_drop]; rw [hq, ← ex2]; rfl)
      have HJ2 := Lib.hid hj2
      clear hq hr1 hr2 hj2 ex2 h6
      go_wp2_with fail
      (with_reducible refine H6.out.mono ?_)
      rintro ee w71 ⟨hb71, hk71, rfl, hp71⟩
      have HNt := Lib.hid (HNs.out.moved HL.out hb71 hk71 hp71)
      have cB7 := HNt.out.cB
      have hKG : K ≠ G := HNE.out
      have hGK : G ≠ K := HNE.out.symm
      clear hb71 hk71 hp71 H6 c50 z50 cB6
      have y0 := HNt.out.c0
      have y1 := HNt.out.c1
      have y2 := HNt.out.c2
      have y3 := HNt.out.c3
      have y4 := HNt.out.c4
      have xk0 := HNt.out.k0
      have xk1 := HNt.out.k1
      have xk2 := HNt.out.k2
      have xk3 := HNt.out.k3
      have xk4 := HNt.out.k4
      have xz0 := HNt.out.zK 0
      have xz1 := HNt.out.zK 1
      have xz2 := HNt.out.zK 2
      have xz3 := HNt.out.zK 3
      have xz4 := HNt.out.zK 4
      have yz2 := HNt.out.zG 2
      go_wp2
      have h71 := HNt.out
      obtain ⟨L1, L2, L0, L3, L4, L5, L6⟩ := HL.out
      have hk71 := HK0.out.trans h71.keep (Or.inl rfl)
      have hT := nam_tail (m := ⟨3, nm, x2, [], []⟩) (A3 := none) (c3 := 0) (A4 := none) (c4 := 0) (W := w71.setCell ⟨G, 2, none⟩ (.string x2)) (w := w) (w0 := w0) (g := g) (K := K) (o := pObj s j2 l) (by omega) ((Below.heap_setCell _ _ _ _ hKG).trans h71.res) hg L2 L0 (h71.below.setCell (show w0.heap.size ≤ G by omega) _) ⟨by simpa using hk71.1, fun i hi h1 h2 => (Below.heap_setCell _ _ _ _ (show i ≠ G by omega)).trans (hk71.2 i hi h1 h2)⟩ ((Below.heap_setCell _ _ _ _ (show g ≠ G by omega)).trans h71.par) (fun X _ => ⟨Nat.le_refl _, Kd.C_nil _ _, Nat.le_refl _, Kd.C_nil _ _⟩)
      rw [HQ6.out]
      simp only [Option.map_some, HJ2.out]
      exact bodyPost_ret (results_single rfl (.cell K 25 _ (0, 0) _ rfl hT.1 Try.underlying25 rfl (by kernel_rfl) .nil)) rfl hT.2
    | false =>
     have HN7 : Hid (NS w0 wc w7 g B K G s nm e l 0) := Lib.hid (HN6.out.moved HL.out hb7 hk7 hp7)
     clear hb7 hk7 hp7 H3 cB HN6
     have cB := HN7.out.cB
     obtain ⟨b4, e4⟩ : ∃ b, nextB 64 (s.data.toList.drop e) = b := ⟨_, rfl⟩
     have H4 := Lib.hid (must187 w0 w7 g s e l ⟨#[64]⟩ b4 hes hs (by decide) ((pref_one s e 64 hes).trans e4) hg HN7.out.below HN7.out.par)
     have E4 := Lib.hid e4
     clear e4
     go_wp2_with fail
     cases b4 with
     | false =>
      (with_reducible refine H4.out.mono ?_)
      rintro ee w8 ⟨hb8, hk8, ⟨-, rfl⟩ | ⟨h, -⟩⟩
      ·have HQ6 := Lib.hid (show Q = none by rw [← HQ.out]; unfold tailW; rw [if_neg (by rw [E1.out]; decide), if_neg (by rw [E2.out]; decide), if_neg (by rw [E3.out]; decide), if_neg (by rw [E4.out]; decide)])
       exact ⟨rfl, hb8, HK0.out.trans (HN7.out.keep.trans hk8 (Or.inl rfl)) (Or.inl rfl), Or.inl ⟨by rw [HQ6.out]; rfl, rfl⟩⟩
      ·cases h
     | true =>
      (with_reducible refine H4.out.mono ?_)
      rintro ee w8 ⟨hb8, hk8, ⟨h, -⟩ | ⟨-, rfl, hp8⟩⟩
      ·cases h
      have HN8 : Hid (NS w0 wc w8 g B K G s nm (e + 1) l 0) := Lib.hid (HN7.out.moved HL.out hb8 hk8 hp8)
      have HE5 : Hid (e + 1 ≤ s.size) := Lib.hid (next_lt E4.out)
      clear hb8 hk8 hp8 H4 cB HN7
      have HN9 := Lib.hid (HN8.out.setop HL.out 4)
      have c50 := HN8.out.c0
      have z50 := HN8.out.zG 0
      have cB9 := HN9.out.cB
      obtain ⟨w9, ew9⟩ : ∃ w9, w9 = w8.setCell ⟨G, 0, none⟩ (.int .i64 4) := ⟨_, rfl⟩
      have hmf : ∀ (fn : Fn) (first cap : Array Value) (w : World), (Instr.makeFunc fn first cap).run Try.prog w = .ok (.func fn first cap) w := fun _ _ _ _ => rfl
      obtain ⟨base, hbase⟩ : ∃ base, w9.heap.size = base := ⟨_, rfl⟩
      rw [← ew9] at HN9
      obtain ⟨L1, L2, L0, L3, L4, L5, L6⟩ := HL.out
      have h9 := HN9.out
      have H5 := Lib.hid (list176v w0 wc w9 g B G base s nm (e + 1) l none 0 ⟨hg, by omega, by omega, by omega, by have := h9.size; omega, by have := h9.size; omega, by omega⟩ ⟨h9.below, h9.keep, by omega, h9.box, h9.blk, h9.par, World.ownsRow_nil _ _ _ _, rfl⟩ HE5.out hs _ rfl)
      have HB := Lib.hid (show K < base by have := h9.size; omega)
      clear h9 hbase L1 L2 L0 L3 L4 L5 L6
      go_wp2_with fail
      rw [← ew9]
      refine H5.out.mono ?_
      intro ee w10 hp10
      rcases hp10 with ⟨hq, rfl, hb10, hk10⟩ | ⟨vs, r, j2, A, c, hq, hr, hj, rfl, hv10⟩
      ·have HQ6 := Lib.hid (show Q = none by rw [← HQ.out]; unfold tailW; rw [if_neg (by rw [E1.out]; decide), if_neg (by rw [E2.out]; decide), if_neg (by rw [E3.out]; decide), if_pos E4.out, List.drop_drop, hq]; rfl)
       exact ⟨rfl, hb10, HK0.out.trans hk10 (Or.inl rfl), Or.inl ⟨by rw [HQ6.out]; rfl, rfl⟩⟩
      ·have HQ6 := Lib.hid (show Q = some (⟨4, nm, ⟨#[]⟩, vs, []⟩, r) by rw [← HQ.out]; unfold tailW; rw [if_neg (by rw [E1.out]; decide), if_neg (by rw [E2.out]; decide), if_neg (by rw [E3.out]; decide), if_pos E4.out, List.drop_drop, hq]; rfl)
       have HJ2 := Lib.hid (show s.size - r.length = j2 by rw [← hr]; simp; omega)
       have HV := Lib.hid hv10
       have y0 := (blk_cell hv10.blk 0).trans rfl
       have y1 := (blk_cell hv10.blk 1).trans rfl
       have y2 := (blk_cell hv10.blk 2).trans rfl
       have y3 := (blk_cell hv10.blk 3).trans rfl
       have y4 := (blk_cell hv10.blk 4).trans rfl
       have hK10 := (hv10.keep.2 K (by have := HL.out.lK; have := HL.out.eG; omega) HGK.out (by simp)).trans HKc.out
       have HK10 := Lib.hid hK10
       have x0 := (blk_cell hK10 0).trans rfl
       have x1 := (blk_cell hK10 1).trans rfl
       have x2 := (blk_cell hK10 2).trans rfl
       have x3 := (blk_cell hK10 3).trans rfl
       have x4 := (blk_cell hK10 4).trans rfl
       have xz0 := blk_frozen hK10 0
       have xz1 := blk_frozen hK10 1
       have xz2 := blk_frozen hK10 2
       have xz3 := blk_frozen hK10 3
       have xz4 := blk_frozen hK10 4
       simp only [List.getElem?_toArray, List.getElem?_cons_zero, List.getElem?_cons_succ] at y0 y1 y2 y3 y4 x0 x1 x2 x3 x4
       have hKG : K ≠ G := HNE.out
       have hGK : G ≠ K := HNE.out.symm
       clear hv10 hK10 hq hr H5 ew9 c50 z50 cB9 HN8 HN9
       go_wp2
       have hv := HV.out
       obtain ⟨L1, L2, L0, L3, L4, L5, L6⟩ := HL.out
       have hk7 := HK0.out.trans hv.keep (Or.inl rfl)
       obtain ⟨F3, gg3, F4, gg4, ev3, ev4, hMF⟩ := MF.of_rows (m := ⟨4, nm, ⟨#[]⟩, vs, []⟩) (lo' := base) hv.own (World.ownsRow_nil _ base 25 5) (by simpa using Reps.none _ _) (Nat.le_refl _)
       simp only at ev3 ev4
       cases ev3
       cases ev4
       have hT := nam_tail (m := ⟨4, nm, ⟨#[]⟩, vs, []⟩) (W := w10) (w := w) (w0 := w0) (g := g) (K := K) (o := pObj s j2 l) (by omega) HK10.out hg L2 L0 hv.below hk7 hv.par (hMF.move (fun b hb => ⟨⟨by have := hb.1; have := HB.out; omega, hb.2⟩, rfl⟩))
       rw [HQ6.out]
       simp only [Option.map_some, HJ2.out]
       exact bodyPost_ret (results_single rfl (.cell K 25 _ (0, 0) _ rfl hT.1 Try.underlying25 rfl (by kernel_rfl) .nil)) rfl hT.2
end Go.Proofs.Yteafilojjdfllaa
end
section
namespace Go.Proofs.Yteafilojjdfllaa
open Go Go.RowKit Go.Proofs.YteafilojjdfllaaW.PrintWords Go.Proofs.YteafilojjdfllaaW.PrintLast Go.Proofs.YteafilojjdfllaaW.PrintMore Go.Proofs.Yteafilojjdfllaa.PAll
set_option linter.unusedVariables false
set_option linter.unusedSimpArgs false
/-- behind a kid -/
def restK (cut : List UInt8 → Nat) (step : List UInt8 → Step) (emp : Bool) (d k left : Nat) (r : List UInt8) : Option (List S25 × Nat × List UInt8) := if nextB 41 r = true then some ([], left, r.drop 1) else if nextB 44 r = true then readML cut step emp d k left (r.drop 1) else none
theorem readML_rest (cut : List UInt8 → Nat) (step : List UInt8 → Step) (emp : Bool) (d k left : Nat) (r : List UInt8) : readML cut step emp d (k + 1) left r = match readM cut step emp d left r with
  | none => none
  | some (m, l1, t) => (restK cut step emp d k l1 t).map (fun q => (m :: q.1, q.2)) := by
 rw [readML]
 show (match readM cut step emp d left r with
  | none => none
  | some (_, _, []) => none
  | some (m, left1, c :: t) => _) = _
 cases readM cut step emp d left r with
 | none => rfl
 | some p =>
  obtain ⟨m, l1, t⟩ := p
  cases t with
  | nil => rfl
  | cons c t =>
   unfold restK nextB
   by_cases h1 : c = 41
   ·subst h1; rfl
   ·by_cases h2 : c = 44
    ·subst h2; simp
    ·simp [h1, h2]
def listK (cut : List UInt8 → Nat) (step : List UInt8 → Step) (emp : Bool) (d left : Nat) (r : List UInt8) : Option (List S25 × Nat × List UInt8) := if nextB 40 r = true then (if nextB 41 (r.drop 1) = true then some ([], left, r.drop 2) else readML cut step emp d 65 left (r.drop 1)) else none
theorem readM_step (cut : List UInt8 → Nat) (step : List UInt8 → Step) (emp : Bool) (d left : Nat) (r : List UInt8) (h0 : namedW cut step emp [] = none) : readM cut step emp (d + 1) (left + 1) r =
  if nextB 42 r = true then some (⟨0, ⟨#[]⟩, ⟨#[]⟩, [], []⟩, left, r.drop 1)
  else if nextB 38 r = true then (listK cut step emp d left (r.drop 1)).map (fun p => (⟨5, ⟨#[]⟩, ⟨#[]⟩, [], p.1⟩, p.2))
  else if nextB 124 r = true then (listK cut step emp d left (r.drop 1)).map (fun p => (⟨6, ⟨#[]⟩, ⟨#[]⟩, [], p.1⟩, p.2))
  else if nextB 33 r = true then (listK cut step emp d left (r.drop 1)).map (fun p => (⟨7, ⟨#[]⟩, ⟨#[]⟩, [], p.1⟩, p.2))
  else (namedW cut step emp r).map (fun p => (p.1, left, p.2)) := by
 match r with
 | [] =>
  rw [readM.eq_def, h0]
  rfl
 | c :: r =>
  have hlist : ∀ (op : Int), (match r with
   | [] => none
   | e :: q => if e = 40 then (if q.head? = some 41 then some ((⟨op, ⟨#[]⟩, ⟨#[]⟩, [], []⟩ : S25), left, q.drop 1)
     else (readML cut step emp d 65 left q).map (fun p => ((⟨op, ⟨#[]⟩, ⟨#[]⟩, [], p.1⟩ : S25), p.2))) else none) = (listK cut step emp d left r).map (fun p => (⟨op, ⟨#[]⟩, ⟨#[]⟩, [], p.1⟩, p.2)) := by
   intro op
   unfold listK
   match r with
   | [] => rfl
   | e :: q =>
    simp only [nextB_cons, List.drop_succ_cons, List.drop_zero]
    by_cases he : e = 40
    ·subst he
     rw [if_pos rfl, if_pos rfl]
     by_cases hq : q.head? = some 41
     ·rw [if_pos hq, if_pos (by unfold nextB; rw [hq]; rfl)]
      rfl
     ·rw [if_neg hq, if_neg (by unfold nextB; simpa using hq)]
    ·rw [if_neg he, if_neg he]
     rfl
  have hn : ∀ x : UInt8, (nextB x (c :: r) = true) = (c = x) := fun x => by unfold nextB; simp
  show readM cut step emp (d + 1) (left + 1) (c :: r) = _
  rw [readM_cons]
  simp only [hn, List.drop_succ_cons, List.drop_zero]
  by_cases h4 : c = 42
  ·rw [if_pos h4, if_pos h4]
  rw [if_neg h4, if_neg h4]
  by_cases h1 : c = 38
  ·subst h1
   rw [if_pos (Or.inl rfl), if_pos rfl]
   exact hlist 5
  by_cases h2 : c = 124
  ·subst h2
   rw [if_pos (Or.inr (Or.inl rfl)), if_neg h1, if_pos rfl]
   exact hlist 6
  by_cases h3 : c = 33
  ·subst h3
   rw [if_pos (Or.inr (Or.inr rfl)), if_neg h1, if_neg h2, if_pos rfl]
   exact hlist 7
  rw [if_neg (show ¬ (c = 38 ∨ c = 124 ∨ c = 33) by rintro (h | h | h) <;> contradiction), if_neg h1, if_neg h2, if_neg h3]
end Go.Proofs.Yteafilojjdfllaa
end
section
namespace Go.Proofs.Yteafilojjdfllaa
open Go Go.Proofs.Yteafilojjdfllaa.PAll
theorem valsW_suf {step : List UInt8 → Step} : ∀ (k : Nat) (r : List UInt8) (x : List ByteArray) (t : List UInt8), valsW step k r = some (x, t) → t <:+ r
 | 0, r, x, t, h => by rw [valsW] at h; cases h
 | k + 1, r, x, t, h => by
  rw [valsW] at h
  cases hv : valW step r with
  | none => rw [hv] at h; cases h
  | some q =>
   obtain ⟨v, l⟩ := q
   rw [hv] at h
   have hs := val_suffix hv
   cases l with
   | nil => cases h
   | cons c l =>
    simp only at h
    have h2 : l <:+ r := (List.suffix_cons c l).trans hs
    split at h
    ·simp only [Option.some.injEq, Prod.mk.injEq] at h
     rw [← h.2]
     exact h2
    ·split at h
     ·cases hq : valsW step k l with
      | none => rw [hq] at h; cases h
      | some p =>
       rw [hq] at h
       simp only [Option.map_some, Option.some.injEq, Prod.mk.injEq] at h
       rw [← h.2]
       exact (valsW_suf k l p.1 p.2 hq).trans h2
     ·cases h
theorem map_some' {α β : Type} {f : α → β} {o : Option α} {b : β} (h : o.map f = some b) : ∃ a, o = some a ∧ f a = b := by
 cases o with
 | none => cases h
 | some a => exact ⟨a, rfl, by simpa using h⟩
theorem namedW_suf {cut : List UInt8 → Nat} {step : List UInt8 → Step} {emp : Bool} {r : List UInt8} {m : S25} {t : List UInt8} (h : namedW cut step emp r = some (m, t)) : t <:+ r := by
 unfold namedW at h
 simp only at h
 have hd : r.drop (cut r) <:+ r := List.drop_suffix _ _
 generalize hq : r.drop (cut r) = q at h hd
 match q with
 | [] => cases h
 | c :: q =>
  simp only at h
  have h1 : q <:+ r := (List.suffix_cons c q).trans hd
  split at h
  ·obtain ⟨a, ha, e⟩ := map_some' h
   simp only [Prod.mk.injEq] at e
   rw [← e.2]
   exact (val_suffix ha).trans h1
  ·split at h
   ·match q with
    | [] => cases h
    | e :: q =>
     simp only at h
     split at h
     ·obtain ⟨a, ha, e⟩ := map_some' h
      simp only [Prod.mk.injEq] at e
      rw [← e.2]
      exact (val_suffix ha).trans ((List.suffix_cons _ q).trans h1)
     ·cases h
   ·split at h
    ·match q with
     | [] => cases h
     | e :: q =>
      simp only at h
      split at h
      ·obtain ⟨a, ha, e⟩ := map_some' h
       simp only [Prod.mk.injEq] at e
       rw [← e.2]
       exact (val_suffix ha).trans ((List.suffix_cons _ q).trans h1)
      ·cases h
    ·split at h
     ·match q with
      | [] => cases h
      | e :: q =>
       simp only at h
       have h2 : q <:+ r := (List.suffix_cons _ q).trans h1
       split at h
       ·split at h
        ·simp only [Option.some.injEq, Prod.mk.injEq] at h
         rw [← h.2]
         exact (List.drop_suffix _ _).trans h2
        ·obtain ⟨a, ha, e⟩ := map_some' h
         simp only [Prod.mk.injEq] at e
         rw [← e.2]
         exact (valsW_suf _ _ _ _ ha).trans h2
       ·cases h
     ·cases h
theorem readML_suf {cut : List UInt8 → Nat} {step : List UInt8 → Step} {emp : Bool} (d : Nat) (ih : ∀ (left : Nat) (r : List UInt8) (m : S25) (l' : Nat) (t : List UInt8), readM cut step emp d left r = some (m, l', t) → t <:+ r ∧ l' < left) :
  ∀ (k left : Nat) (r : List UInt8) (x : List S25) (l' : Nat) (t : List UInt8), readML cut step emp d k left r = some (x, l', t) → t <:+ r ∧ l' < left
 | 0, left, r, x, l', t, h => by rw [readML] at h; cases h
 | k + 1, left, r, x, l', t, h => by
  rw [readML] at h
  cases hv : readM cut step emp d left r with
  | none => rw [hv] at h; cases h
  | some q =>
   obtain ⟨m, l1, l⟩ := q
   rw [hv] at h
   obtain ⟨hs, hl⟩ := ih _ _ _ _ _ hv
   cases l with
   | nil => cases h
   | cons c l =>
    simp only at h
    have h2 : l <:+ r := (List.suffix_cons c l).trans hs
    split at h
    ·simp only [Option.some.injEq, Prod.mk.injEq] at h
     obtain ⟨-, rfl, rfl⟩ := h
     exact ⟨h2, hl⟩
    ·split at h
     ·obtain ⟨a, ha, e⟩ := map_some' h
      simp only [Prod.mk.injEq] at e
      obtain ⟨-, e2⟩ := e
      have := readML_suf d ih k l1 l a.1 a.2.1 a.2.2 ha
      rw [e2] at this
      exact ⟨this.1.trans h2, by have := this.2; omega⟩
     ·cases h
theorem readM_suf {cut : List UInt8 → Nat} {step : List UInt8 → Step} {emp : Bool} : ∀ (d left : Nat) (r : List UInt8) (m : S25) (l' : Nat) (t : List UInt8), readM cut step emp d left r = some (m, l', t) → t <:+ r ∧ l' < left
 | 0, left, r, m, l', t, h => by rw [readM.eq_def] at h; cases h
 | d + 1, 0, r, m, l', t, h => by rw [readM.eq_def] at h; cases h
 | d + 1, left + 1, [], m, l', t, h => by rw [readM.eq_def] at h; cases h
 | d + 1, left + 1, c :: r, m, l', t, h => by
  rw [readM_cons] at h
  have h1 : r <:+ c :: r := List.suffix_cons c r
  split at h
  ·simp only [Option.some.injEq, Prod.mk.injEq] at h
   obtain ⟨-, rfl, rfl⟩ := h
   exact ⟨h1, Nat.lt_succ_self _⟩
  ·split at h
   ·match r with
    | [] => cases h
    | e :: q =>
     simp only at h
     have h2 : q <:+ c :: e :: q := (List.suffix_cons _ q).trans h1
     split at h
     ·split at h
      ·simp only [Option.some.injEq, Prod.mk.injEq] at h
       obtain ⟨-, rfl, rfl⟩ := h
       exact ⟨(List.drop_suffix _ _).trans h2, Nat.lt_succ_self _⟩
      ·obtain ⟨a, ha, e⟩ := map_some' h
       simp only [Prod.mk.injEq] at e
       obtain ⟨-, e2⟩ := e
       have := readML_suf d (fun left r m l' t h => readM_suf d left r m l' t h) _ _ _ a.1 a.2.1 a.2.2 ha
       rw [e2] at this
       exact ⟨this.1.trans h2, by have := this.2; omega⟩
     ·cases h
   ·obtain ⟨a, ha, e⟩ := map_some' h
    simp only [Prod.mk.injEq] at e
    obtain ⟨-, rfl, rfl⟩ := e
    exact ⟨namedW_suf (m := a.1) (t := a.2) ha, Nat.lt_succ_self _⟩
end Go.Proofs.Yteafilojjdfllaa
end
section
namespace Go.Proofs.Yteafilojjdfllaa
open Go Go.RowKit Go.Proofs.YteafilojjdfllaaW.PrintWords Go.Proofs.YteafilojjdfllaaW.PrintLast Go.Proofs.YteafilojjdfllaaW.PrintMore Go.Proofs.Yteafilojjdfllaa.PAll
set_option linter.unusedVariables false
set_option linter.unusedSimpArgs false
section
variable {P : Program} {ops : Array Oper} {Q : Exit → Act → World → Prop} {K : Act → World → Prop} {o : Oper} {a : Act}
/-- append of one element whose block lies anywhere -/
theorem append_at {W : World} (base : Nat) (hw : Region.wanted o (yielded ops a.tmps) = true) (s x : Operand) (t e : TypeId) (z : Value) (size bytes : Nat)
  (ho : o.op = .call { callee := .builtin .append, args := #[s, x], argTypes := #[t, t] })
  (ht : P.underlying t = some (.slice e)) (hinfo : (P.info? e).map (fun i => (i.zero, i.size, i.bytes)) = some (some z, size, bytes)) (hz : z.cells.size = size) (hs0 : 0 < size) (hb0 : 0 < bytes)
  (v : Value) (n : Nat) (xs ys : List Value) (bz : Nat) (hs : a.eval s = v) (hx : a.eval x = .slice (some ⟨bz, 0, none⟩) 1 1) (hbz : W.heap[bz]? = some (.cells ys.toArray e (0, 0))) (hys : ys.length = size) (h1 : ∀ u ∈ ys, u.oneCell' = true)
  (HO : W.ownsRow base e size v n xs) (hbase : base ≤ W.heap.size) (hl : (n + 1) * bytes ≤ 140737488355328)
  (h : ∀ v1 w1, w1.ownsRow base e size v1 (n + 1) (xs ++ ys) → W.grownBy w1 v.ownBlock → (v1.ownBlock = v.ownBlock ∨ v1.ownBlock = some W.heap.size) → K (a.put o.dst v1) w1) :
  if Region.wanted o (yielded ops a.tmps) = true then Oper.wp P o a W K Q else K (a.put o.dst undef) W := by
 obtain ⟨i0, hi, hzz⟩ := Option.map_eq_some_iff.1 hinfo
 simp only [Prod.mk.injEq] at hzz
 obtain ⟨hz0, hz1, hz2⟩ := hzz
 have hlen : n + 1 ≤ 140737488355328 := Nat.le_trans (Nat.le_mul_of_pos_right _ hb0) hl
 rw [if_pos hw]
 obtain ⟨v1, w1, hr, hown, hg, _, hat⟩ := run_append_own_at (P := P) W base t o.type e i0 z size bytes ht hi hz0 hz1 hz2 hz hs0 v n xs HO ⟨bz, 0, none⟩ 1 1 ys (by rw [hys]; simp)
  (by simpa using World.news_of_block (cs := ys.toArray) (t := e) (fr := (0, 0)) hbz) h1 (by simp only [maxLen]; omega) hl hbase
 unfold Oper.wp execOp
 simp only [ho, resolve, invoke, builtin, Sem.run_bind, Sem.run_pure, Result.andThen_ok, List.map_toArray, List.map_cons, List.map_nil, hs, hx, hr]
 exact h v1 w1 hown hg hat
end
section
variable {P : Program} {ops : Array Oper} {Q : Exit → Act → World → Prop} {md : Region.Mode} {S : World → Prop} {ds : List Nat}
/-- two stores that end a region, in either order -/
theorem twoLast_ {i j : Nat} {Ni Nj : Option Tmp} {oi oj : Oper} {fuel : Nat} {l : Array Bool} {a : Act} {w : World} (li lj : Array Bool) (hi : ops[i]? = some oi) (hj : ops[j]? = some oj) (hNi : oi.dst = Ni) (hNj : oj.dst = Nj)
  (hc : (Region.ready md ops l == [i, j] && l.setIfInBounds i true == li && l.setIfInBounds j true == lj) = true) (hdi : i ∈ ds) (hdj : j ∈ ds)
  (h1 : ∀ K : Act → World → Prop, Shut (∀ a' w', wpAnyLast P md ops Q S ds fuel li a' w' → K a' w') → if Region.wanted oi (yielded ops a.tmps) = true then Oper.wp P oi a w K Q else K (a.put Ni undef) w)
  (h2 : ∀ K : Act → World → Prop, Shut (∀ a' w', wpAnyLast P md ops Q S ds fuel lj a' w' → K a' w') → if Region.wanted oj (yielded ops a.tmps) = true then Oper.wp P oj a w K Q else K (a.put Nj undef) w) :
  wpAnyLast P md ops Q S ds (fuel + 1) l a w := by
 subst hNi
 subst hNj
 simp only [Bool.and_eq_true, beq_iff_eq] at hc
 obtain ⟨⟨h3, h4⟩, h5⟩ := hc
 subst h4
 subst h5
 exact wpAnyLast_ready h3 (by simp) (AllReadyL.cons_last hi hdi (fun K hK => h1 K hK) (AllReadyL.cons_last hj hdj (fun K hK => h2 K hK) AllReadyL.nil))
end
theorem set_mid {α : Type} : ∀ (xs : List α) (y : α) (ys : List α) (z : α), (xs ++ y :: ys).set xs.length z = xs ++ z :: ys
 | [], y, ys, z => rfl
 | x :: xs, y, ys, z => by simp [set_mid xs y ys z]
/-- the last element of an own row is laid anew -/
theorem own_elem {w : World} {base R c n : Nat} {cells : List Value} {u0 u1 u2 u3 u4 v0 v1 v2 v3 v4 : Value} (h : w.ownsRow base 25 5 (.slice (some ⟨R, 0, none⟩) (n + 1) c) (n + 1) (cells ++ [u0, u1, u2, u3, u4])) (k : Nat) (hk : k = cells.length) :
  (((((w.setCell ⟨R, k, none⟩ v0).setCell ⟨R, k + 1, none⟩ v1).setCell ⟨R, k + 2, none⟩ v2).setCell ⟨R, k + 3, none⟩ v3).setCell ⟨R, k + 4, none⟩ v4).ownsRow base 25 5 (.slice (some ⟨R, 0, none⟩) (n + 1) c) (n + 1) (cells ++ [v0, v1, v2, v3, v4]) := by
 subst hk
 have h0 := (h.stored cells.length v0).1
 rw [set_mid] at h0
 have e1 := (h0.stored (cells.length + 1) v1).1
 rw [show cells ++ [v0, u1, u2, u3, u4] = (cells ++ [v0]) ++ u1 :: [u2, u3, u4] by simp, show cells.length + 1 = (cells ++ [v0]).length by simp, set_mid] at e1
 have e2 := (e1.stored (cells.length + 2) v2).1
 rw [show (cells ++ [v0]) ++ v1 :: [u2, u3, u4] = (cells ++ [v0, v1]) ++ u2 :: [u3, u4] by simp, show cells.length + 2 = (cells ++ [v0, v1]).length by simp, set_mid] at e2
 have e3 := (e2.stored (cells.length + 3) v3).1
 rw [show (cells ++ [v0, v1]) ++ v2 :: [u3, u4] = (cells ++ [v0, v1, v2]) ++ u3 :: [u4] by simp, show cells.length + 3 = (cells ++ [v0, v1, v2]).length by simp, set_mid] at e3
 have e4 := (e3.stored (cells.length + 4) v4).1
 rw [show (cells ++ [v0, v1, v2]) ++ v3 :: [u4] = (cells ++ [v0, v1, v2, v3]) ++ u4 :: [] by simp, show cells.length + 4 = (cells ++ [v0, v1, v2, v3]).length by simp, set_mid] at e4
 simpa using e4
theorem own_some {w : World} {base : Nat} {e : TypeId} {size n : Nat} {v : Value} {xs : List Value} (h : w.ownsRow base e size v (n + 1) xs) : ∃ R c, v = .slice (some ⟨R, 0, none⟩) (n + 1) c := by
 rcases h.2 with ⟨hv, h0⟩ | ⟨g, cap, cur, hv, _⟩
 ·cases h0
 ·exact ⟨g, cap, hv⟩
/-- the world of the closure: the parser, the boxes of its pointer and of the depth, the matcher under way and its row of kids -/
structure VK (w0 wn w : World) (g B D G base : Nat) (s : ByteArray) (op dz : Int) (i : Nat) (l : Int) (ks : List S25) (cells : List Value) (n : Nat) (Au : Option Addr) (cu : Nat) : Prop where
 below : Below w0.heap.size w0 w
 keep : KeepBut wn w g none
 size : base ≤ w.heap.size
 box : w.heap[B]? = some (.cells #[.pointer (some ⟨g, 0, none⟩)] 170 (0, 0))
 dbox : w.heap[D]? = some (.cells #[.int .i64 dz] 3 (0, 0))
 blk : w.heap[G]? = some (.cells #[.int .i64 op, .string ⟨#[]⟩, .string ⟨#[]⟩, .slice none 0 0, .slice Au n cu] 25 (0, 0))
 par : PB w g s i l
 own : w.ownsRow base 25 5 (.slice Au n cu) n cells
 reps : Reps (KR w (Part base w (.slice Au n cu))) 5 ks cells
 len : ks.length = n
 clen : cells.length = n * 5
/-- where these lie -/
structure VM (w0 wn : World) (g B D G base : Nat) : Prop where
 g0 : w0.heap.size ≤ g
 gn : g < wn.heap.size
 nB : B ≠ g
 nD : D ≠ g
 nG : wn.heap.size ≤ G
 Bb : B < base
 Db : D < base
 Gb : G < base
 eB : B ≠ G
 eD : D ≠ G
 w0l : w0.heap.size ≤ wn.heap.size
section
variable {w0 wn w w' : World} {g B D G base : Nat} {s : ByteArray} {op dz : Int} {i j : Nat} {l l' : Int} {ks : List S25} {cells : List Value} {n : Nat} {Au : Option Addr} {cu : Nat}
theorem VK.moved (h : VK w0 wn w g B D G base s op dz i l ks cells n Au cu) (HL : VM w0 wn g B D G base) (hB : Below w0.heap.size w0 w') (hK : KeepBut w w' g none) (hP : PB w' g s j l') : VK w0 wn w' g B D G base s op dz j l' ks cells n Au cu := by
 obtain ⟨L1, L2, L3, L4, L5, L6, L7, L8, L9, L10, L11⟩ := HL
 have hs := h.size
 have hs2 := hK.1
 exact ⟨hB, h.keep.trans hK (Or.inl rfl), Nat.le_trans hs hK.1, (hK.2 B (by omega) (by omega) (by simp)).trans h.box, (hK.2 D (by omega) (by omega) (by simp)).trans h.dbox, (hK.2 G (by omega) (by omega) (by simp)).trans h.blk, hP,
  own_move h.own (fun k hk => hK.2 k (h.own.lt _ hk).2 (by have := (h.own.lt _ hk).1; omega) (by simp)),
  h.reps.imp_ (fun p c hk => hk.move (fun b hb => ⟨⟨hb.1, by have := hb.2.1; omega, hb.2.2⟩, hK.2 b hb.2.1 (by have := hb.1; omega) (by simp)⟩)), h.len, h.clen⟩
theorem VK.drew (h : VK w0 wn w g B D G base s op dz i l ks cells n Au cu) : VK w0 wn w.drew g B D G base s op dz i l ks cells n Au cu :=
 ⟨below_drew h.below, h.keep.trans (KeepBut.of_below (below_drew (Below.refl w.heap.size w)) g none) (Or.inl rfl), h.size, h.box, h.dbox, h.blk, h.par, h.own, h.reps, h.len, h.clen⟩
end
/-- the parser's matcher, as deep as it may be yet -/
def IHp (w0 : World) (g : Nat) (s : ByteArray) (d : Nat) (dz : Int) : Prop :=
 ∀ (w : World) (i left : Nat), left ≤ 64 → i ≤ s.size → Below w0.heap.size w0 w → PB w g s i (left : Int) → Calls Try.prog 144 #[.pointer (some ⟨g, 0, none⟩), .int .i64 dz] w (RedPost w0 w g ((readM (cutM 33) stepP true d left (s.data.toList.drop i)).map fun q => (q.1, pObj s (s.size - q.2.2.length) (q.2.1 : Nat))))
theorem read_place {cut : List UInt8 → Nat} {step : List UInt8 → Step} {emp : Bool} {s : ByteArray} {i d left l1 : Nat} {m : S25} {t : List UInt8} (hi : i ≤ s.size) (h : readM cut step emp d left (s.data.toList.drop i) = some (m, l1, t)) : ∃ j, s.size - t.length = j ∧ j ≤ s.size ∧ s.data.toList.drop j = t ∧ l1 < left ∧ i ≤ j := by
 obtain ⟨h1, h2⟩ := readM_suf _ _ _ _ _ _ h
 obtain ⟨u, hu⟩ := h1
 have hl := congrArg List.length hu
 simp only [List.length_append, List.length_drop] at hl
 have hsz : s.data.toList.length = s.size := by simp
 have hsuf : t <:+ s.data.toList := List.IsSuffix.trans ⟨u, hu⟩ (List.drop_suffix _ _)
 refine ⟨s.size - t.length, rfl, by omega, ?_, h2, ?_⟩
 ·have := List.suffix_iff_eq_drop.1 hsuf
  rw [hsz] at this
  exact this.symm
 ·omega
end Go.Proofs.Yteafilojjdfllaa
end
section
namespace Go.Proofs.Yteafilojjdfllaa
open Go Go.RowKit Go.Proofs.YteafilojjdfllaaW.PrintWords Go.Proofs.YteafilojjdfllaaW.PrintLast Go.Proofs.YteafilojjdfllaaW.PrintMore Go.Proofs.Yteafilojjdfllaa.PAll
set_option linter.unusedVariables false
set_option linter.unusedSimpArgs false
noncomputable def tabR177_0 : Bool × List (List Nat × List Nat) := rtab .any (opsOf Try.f177 0)
theorem tabR177_0_eq : rtab .any (opsOf Try.f177 0) = tabR177_0 := rfl
set_option maxRecDepth 100000 in
set_option maxHeartbeats 16000000 in
/-- no kid. -/
theorem kid177n (w0 wn w : World) (g B D G base : Nat) (s : ByteArray) (op dz : Int) (i left d : Nat) (ks : List S25) (cells : List Value) (n : Nat) (Au : Option Addr) (cu : Nat) (HL : VM w0 wn g B D G base) (hV : VK w0 wn w g B D G base s op dz i (left : Int) ks cells n Au cu) (hi : i ≤ s.size) (hs : s.size ≤ 1000000000) (hl : left ≤ 64) (hn : n ≤ 64) (hdz : wrap64 (dz + 1) = dz + 1) (ih : IHp w0 g s d (dz + 1)) (hq : readM (cutM 33) stepP true d left (s.data.toList.drop i) = none) :
  Calls Try.prog 177 #[.pointer (some ⟨G, 0, none⟩), .pointer (some ⟨B, 0, none⟩), .pointer (some ⟨D, 0, none⟩)] w fun e w' => e = .panicked badP ∧ Below w0.heap.size w0 w' ∧ KeepBut wn w' g none := by
 have IH := Lib.hid ih
 clear ih
 have HV := Lib.hid hV.drew
 have HLL := Lib.hid HL
 have k4 : w.drew.cell? ⟨G, 4, none⟩ = some (.slice Au n cu) := (blk_cell HV.out.blk 4).trans rfl
 have kB : w.drew.cell? ⟨B, 0, none⟩ = some (.pointer (some ⟨g, 0, none⟩)) := (blk_cell HV.out.box 0).trans rfl
 have kD : w.drew.cell? ⟨D, 0, none⟩ = some (.int .i64 dz) := (blk_cell HV.out.dbox 0).trans rfl
 have HDW := Lib.hid hdz
 have HQ := Lib.hid hq
 clear hq
 clear hV HL
 go_enter Try.func177, Try.ntmps177
 go_wp2_with fail
 refine start_ (n := 13) (S := fun w' => w'.cell? ⟨G, 4, none⟩ = some (.slice Au n cu) ∧ w'.cell? ⟨B, 0, none⟩ = some (.pointer (some ⟨g, 0, none⟩)) ∧ w'.cell? ⟨D, 0, none⟩ = some (.int .i64 dz)) (ds := [10, 12]) #[false, false, false, false, false, false, false, false, false, false, false, false, false] (by kernel_rfl) rfl rfl ⟨k4, kB, kD⟩ (fun hHeld => ?_)
 clear k4 kB kD
 obtain ⟨V, eV⟩ : ∃ V, V = w.drew := ⟨_, rfl⟩
 rw [← eV] at HV hHeld ⊢
 clear eV
 refine with_tab (T := tabR177_0) tabR177_0_eq (fun HT_ => ?_)
 refine pure_ (i := 0) (N := some 3) (v := ?_) (a' := ?_) #[true, false, false, false, false, false, false, false, false, false, false, false, false] rfl rfl (any_of HT_.out (by kernel_rfl)) (fun _ _ _ h => h) (Or.inl ⟨by rfl, ?_⟩) ?_ ?_
 rotate_left
 ·intro w'
  go_simp
  with_reducible rfl
 rotate_left
 ·simp only [Act.put, List.setIfInBounds_toArray, List.set_cons_zero, List.set_cons_succ, i64_w, i32_w]
  rfl
 refine take_ (i := 1) (N := some 4) (v := ?_) (a' := ?_) #[true, true, false, false, false, false, false, false, false, false, false, false, false] rfl rfl (take_of HT_.out (by kernel_rfl)) (fun _ _ _ h => h) (Or.inl ⟨by rfl, ?_⟩) hHeld ?_ ?_
 rotate_left
 ·intro w' hh
  have q0 := hh.1
  have q1 := hh.2.1
  have q2 := hh.2.2
  go_simp
  with_reducible rfl
 rotate_left
 ·simp only [Act.put, List.setIfInBounds_toArray, List.set_cons_zero, List.set_cons_succ, i64_w, i32_w]
  rfl
 refine take_ (i := 2) (N := some 5) (v := ?_) (a' := ?_) #[true, true, true, false, false, false, false, false, false, false, false, false, false] rfl rfl (take_of HT_.out (by kernel_rfl)) (fun _ _ _ h => h) (Or.inl ⟨by rfl, ?_⟩) hHeld ?_ ?_
 rotate_left
 ·intro w' hh
  have q0 := hh.1
  have q1 := hh.2.1
  have q2 := hh.2.2
  go_simp
  with_reducible rfl
 rotate_left
 ·simp only [Act.put, List.setIfInBounds_toArray, List.set_cons_zero, List.set_cons_succ, i64_w, i32_w]
  rfl
 refine take_ (i := 3) (N := some 6) (v := ?_) (a' := ?_) #[true, true, true, true, false, false, false, false, false, false, false, false, false] rfl rfl (take_of HT_.out (by kernel_rfl)) (fun _ _ _ h => h) (Or.inl ⟨by rfl, ?_⟩) hHeld ?_ ?_
 rotate_left
 ·intro w' hh
  have q0 := hh.1
  have q1 := hh.2.1
  have q2 := hh.2.2
  go_simp
  with_reducible rfl
 rotate_left
 ·simp only [Act.put, List.setIfInBounds_toArray, List.set_cons_zero, List.set_cons_succ, i64_w, i32_w]
  rfl
 have hdw := HDW.out
 refine pure_ (i := 4) (N := some 7) (v := ?_) (a' := ?_) #[true, true, true, true, true, false, false, false, false, false, false, false, false] rfl rfl (any_of HT_.out (by kernel_rfl)) (fun _ _ _ h => h) (Or.inl ⟨by rfl, ?_⟩) ?_ ?_
 rotate_left
 ·intro w'
  go_simp
  with_reducible rfl
 rotate_left
 ·simp only [Act.put, List.setIfInBounds_toArray, List.set_cons_zero, List.set_cons_succ, i64_w, i32_w, hdw]
  rfl
 clear hdw
 refine pure_ (i := 6) (N := some 9) (v := ?_) (a' := ?_) #[true, true, true, true, true, false, true, false, false, false, false, false, false] rfl rfl (any_of HT_.out (by kernel_rfl)) (fun _ _ _ h => h) (Or.inl ⟨by rfl, ?_⟩) ?_ ?_
 rotate_left
 ·intro w'
  go_simp
  with_reducible rfl
 rotate_left
 ·simp only [Act.put, List.setIfInBounds_toArray, List.set_cons_zero, List.set_cons_succ, i64_w, i32_w]
  rfl
 have H1 := Lib.hid (IH.out V i left hl hi HV.out.below HV.out.par)
 rw [HQ.out] at H1
 refine two_ (i := 5) (j := 7) (Ni := some 8) (Nj := some 10) #[true, true, true, true, true, true, true, false, false, false, false, false, false] #[true, true, true, true, true, false, true, true, false, false, false, false, false] rfl rfl rfl rfl (two_of HT_.out (by kernel_rfl)) (by decide) (by decide) (fun K_ hK_ => ?_) (fun K_ hK_ => ?_)
 ·
  refine goesP_ Try.func144 (by kernel_rfl) rfl #[.pointer (some ⟨g, 0, none⟩), .int .i64 (dz + 1)] (by rfl) rfl rfl (by (try simp only [List.map_toArray, List.map_cons, List.map_nil]); first | done | rfl) ?_
  refine (H1.out).mono ?_
  intro e w5 hp5
  obtain ⟨rfl, hB5, hK5⟩ := hp5.none_
  exact Or.inr ⟨_, rfl, rfl, rfl, hB5, HV.out.keep.trans hK5 (Or.inl rfl)⟩
 ·
  go_simp
  have hVA := HV.out.moved HLL.out (below_alloc HV.out.below (.cells Z5 25)) (KeepBut.of_below (below_alloc (Below.refl V.heap.size V) _) g none) (HV.out.par.below (below_alloc (Below.refl _ _) _))
  refine hK_.out _ _ ⟨(blk_cell hVA.blk 4).trans rfl, (blk_cell hVA.box 0).trans rfl, (blk_cell hVA.dbox 0).trans rfl⟩ (fun hHeld => ?_)
  clear hK_ K_
  have H2 := Lib.hid (IH.out _ i left hl hi hVA.below hVA.par)
  rw [HQ.out] at H2
  try simp only [Act.put, List.setIfInBounds_toArray, List.set_cons_zero, List.set_cons_succ]
  refine one_ (i := 5) (N := some 8) #[true, true, true, true, true, true, true, true, false, false, false, false, false] rfl rfl (one_of HT_.out (by kernel_rfl)) (by decide) (fun K_ hK_ => ?_)
  refine goesP_ Try.func144 (by kernel_rfl) rfl #[.pointer (some ⟨g, 0, none⟩), .int .i64 (dz + 1)] (by rfl) rfl rfl (by (try simp only [List.map_toArray, List.map_cons, List.map_nil]); first | done | rfl) ?_
  refine (H2.out).mono ?_
  intro e w5 hp5
  obtain ⟨rfl, hB5, hK5⟩ := hp5.none_
  exact Or.inr ⟨_, rfl, rfl, rfl, hB5, hVA.keep.trans hK5 (Or.inl rfl)⟩
set_option maxRecDepth 100000 in
set_option maxHeartbeats 16000000 in
/-- one more kid. -/
theorem kid177y (w0 wn w : World) (g B D G base : Nat) (s : ByteArray) (op dz : Int) (i left d : Nat) (ks : List S25) (cells : List Value) (n : Nat) (Au : Option Addr) (cu : Nat) (HL : VM w0 wn g B D G base) (hV : VK w0 wn w g B D G base s op dz i (left : Int) ks cells n Au cu) (hi : i ≤ s.size) (hs : s.size ≤ 1000000000) (hl : left ≤ 64) (hn : n ≤ 64) (hdz : wrap64 (dz + 1) = dz + 1) (ih : IHp w0 g s d (dz + 1)) (m : S25) (l1 j : Nat) (t : List UInt8) (hq : readM (cutM 33) stepP true d left (s.data.toList.drop i) = some (m, l1, t)) (hj : s.size - t.length = j) :
  Calls Try.prog 177 #[.pointer (some ⟨G, 0, none⟩), .pointer (some ⟨B, 0, none⟩), .pointer (some ⟨D, 0, none⟩)] w fun e w' => ∃ A2 c2 cells2, e = .returned (.tuple #[]) ∧ VK w0 wn w' g B D G base s op dz j (l1 : Int) (ks ++ [m]) cells2 (n + 1) A2 c2 := by
 have IH := Lib.hid ih
 clear ih
 have HV := Lib.hid hV.drew
 have HLL := Lib.hid HL
 have k4 : w.drew.cell? ⟨G, 4, none⟩ = some (.slice Au n cu) := (blk_cell HV.out.blk 4).trans rfl
 have kB : w.drew.cell? ⟨B, 0, none⟩ = some (.pointer (some ⟨g, 0, none⟩)) := (blk_cell HV.out.box 0).trans rfl
 have kD : w.drew.cell? ⟨D, 0, none⟩ = some (.int .i64 dz) := (blk_cell HV.out.dbox 0).trans rfl
 have HDW := Lib.hid hdz
 have HQ := Lib.hid (show (readM (cutM 33) stepP true d left (s.data.toList.drop i)).map (fun q => (q.1, pObj s (s.size - q.2.2.length) ((q.2.1 : Nat) : Int))) = some (m, pObj s j (l1 : Int)) by rw [hq]; simp only [Option.map_some, hj])
 clear hq hj
 clear hV HL
 go_enter Try.func177, Try.ntmps177
 go_wp2_with fail
 refine start_ (n := 13) (S := fun w' => w'.cell? ⟨G, 4, none⟩ = some (.slice Au n cu) ∧ w'.cell? ⟨B, 0, none⟩ = some (.pointer (some ⟨g, 0, none⟩)) ∧ w'.cell? ⟨D, 0, none⟩ = some (.int .i64 dz)) (ds := [10, 12]) #[false, false, false, false, false, false, false, false, false, false, false, false, false] (by kernel_rfl) rfl rfl ⟨k4, kB, kD⟩ (fun hHeld => ?_)
 clear k4 kB kD
 obtain ⟨V, eV⟩ : ∃ V, V = w.drew := ⟨_, rfl⟩
 rw [← eV] at HV hHeld ⊢
 clear eV
 refine with_tab (T := tabR177_0) tabR177_0_eq (fun HT_ => ?_)
 refine pure_ (i := 0) (N := some 3) (v := ?_) (a' := ?_) #[true, false, false, false, false, false, false, false, false, false, false, false, false] rfl rfl (any_of HT_.out (by kernel_rfl)) (fun _ _ _ h => h) (Or.inl ⟨by rfl, ?_⟩) ?_ ?_
 rotate_left
 ·intro w'
  go_simp
  with_reducible rfl
 rotate_left
 ·simp only [Act.put, List.setIfInBounds_toArray, List.set_cons_zero, List.set_cons_succ, i64_w, i32_w]
  rfl
 refine take_ (i := 1) (N := some 4) (v := ?_) (a' := ?_) #[true, true, false, false, false, false, false, false, false, false, false, false, false] rfl rfl (take_of HT_.out (by kernel_rfl)) (fun _ _ _ h => h) (Or.inl ⟨by rfl, ?_⟩) hHeld ?_ ?_
 rotate_left
 ·intro w' hh
  have q0 := hh.1
  have q1 := hh.2.1
  have q2 := hh.2.2
  go_simp
  with_reducible rfl
 rotate_left
 ·simp only [Act.put, List.setIfInBounds_toArray, List.set_cons_zero, List.set_cons_succ, i64_w, i32_w]
  rfl
 refine take_ (i := 2) (N := some 5) (v := ?_) (a' := ?_) #[true, true, true, false, false, false, false, false, false, false, false, false, false] rfl rfl (take_of HT_.out (by kernel_rfl)) (fun _ _ _ h => h) (Or.inl ⟨by rfl, ?_⟩) hHeld ?_ ?_
 rotate_left
 ·intro w' hh
  have q0 := hh.1
  have q1 := hh.2.1
  have q2 := hh.2.2
  go_simp
  with_reducible rfl
 rotate_left
 ·simp only [Act.put, List.setIfInBounds_toArray, List.set_cons_zero, List.set_cons_succ, i64_w, i32_w]
  rfl
 refine take_ (i := 3) (N := some 6) (v := ?_) (a' := ?_) #[true, true, true, true, false, false, false, false, false, false, false, false, false] rfl rfl (take_of HT_.out (by kernel_rfl)) (fun _ _ _ h => h) (Or.inl ⟨by rfl, ?_⟩) hHeld ?_ ?_
 rotate_left
 ·intro w' hh
  have q0 := hh.1
  have q1 := hh.2.1
  have q2 := hh.2.2
  go_simp
  with_reducible rfl
 rotate_left
 ·simp only [Act.put, List.setIfInBounds_toArray, List.set_cons_zero, List.set_cons_succ, i64_w, i32_w]
  rfl
 have hdw := HDW.out
 refine pure_ (i := 4) (N := some 7) (v := ?_) (a' := ?_) #[true, true, true, true, true, false, false, false, false, false, false, false, false] rfl rfl (any_of HT_.out (by kernel_rfl)) (fun _ _ _ h => h) (Or.inl ⟨by rfl, ?_⟩) ?_ ?_
 rotate_left
 ·intro w'
  go_simp
  with_reducible rfl
 rotate_left
 ·simp only [Act.put, List.setIfInBounds_toArray, List.set_cons_zero, List.set_cons_succ, i64_w, i32_w, hdw]
  rfl
 clear hdw
 refine pure_ (i := 6) (N := some 9) (v := ?_) (a' := ?_) #[true, true, true, true, true, false, true, false, false, false, false, false, false] rfl rfl (any_of HT_.out (by kernel_rfl)) (fun _ _ _ h => h) (Or.inl ⟨by rfl, ?_⟩) ?_ ?_
 rotate_left
 ·intro w'
  go_simp
  with_reducible rfl
 rotate_left
 ·simp only [Act.put, List.setIfInBounds_toArray, List.set_cons_zero, List.set_cons_succ, i64_w, i32_w]
  rfl
 have H1 := IH.out V i left hl hi HV.out.below HV.out.par
 rw [HQ.out] at H1
 have H1 := Lib.hid H1
 refine join_ (σ := Option Addr × Nat × Option Addr × Nat × Nat) 5 #[true, true, true, true, true, true, true, true, false, false, false, false, false] (fun q => [(8, mV m q.1 q.2.1 q.2.2.1 q.2.2.2.1), (10, .slice (some ⟨q.2.2.2.2, 0, none⟩) 1 1)]) (fun q w' => VK w0 wn w' g B D G base s op dz j (l1 : Int) ks cells n Au cu ∧ w'.heap[q.2.2.2.2]? = some (.cells Z5 25 (0, 0)) ∧ V.heap.size ≤ q.2.2.2.2 ∧ V.heap.size ≤ w'.heap.size ∧ MF w' (fun b => V.heap.size ≤ b ∧ b < w'.heap.size) m q.1 q.2.1 q.2.2.1 q.2.2.2.1) ?_ (fun hJ => ?_)
 rotate_left
 ·refine two_ (i := 5) (j := 7) (Ni := some 8) (Nj := some 10) #[true, true, true, true, true, true, true, false, false, false, false, false, false] #[true, true, true, true, true, false, true, true, false, false, false, false, false] rfl rfl rfl rfl (two_of HT_.out (by kernel_rfl)) (by decide) (by decide) (fun K_ hK_ => ?_) (fun K_ hK_ => ?_)
  ·
   refine goesP_ Try.func144 (by kernel_rfl) rfl #[.pointer (some ⟨g, 0, none⟩), .int .i64 (dz + 1)] (by rfl) rfl rfl (by (try simp only [List.map_toArray, List.map_cons, List.map_nil]); first | done | rfl) ?_
   refine (H1.out).mono ?_
   intro e w5 hp5
   obtain ⟨D3, f3, D4, f4, rfl, hB5, hK5, hMF5, hP5⟩ := hp5.some_
   have hV5 := HV.out.moved HLL.out hB5 hK5 hP5
   have hs5 := hK5.1
   refine Or.inl ⟨_, rfl, ?_⟩
   refine hK_.out _ _ ⟨(blk_cell hV5.blk 4).trans rfl, (blk_cell hV5.box 0).trans rfl, (blk_cell hV5.dbox 0).trans rfl⟩ (fun hHeld => ?_)
   clear hK_ K_
   try simp only [Act.put, List.setIfInBounds_toArray, List.set_cons_zero, List.set_cons_succ]
   refine one_ (i := 7) (N := some 10) #[true, true, true, true, true, true, true, true, false, false, false, false, false] rfl rfl (one_of HT_.out (by kernel_rfl)) (by decide) (fun K_ hK_ => ?_)
   go_simp
   have hVA := hV5.moved HLL.out (below_alloc hV5.below (.cells Z5 25)) (KeepBut.of_below (below_alloc (Below.refl w5.heap.size w5) _) g none) (hV5.par.below (below_alloc (Below.refl _ _) _))
   refine hK_.out _ _ ⟨(blk_cell hVA.blk 4).trans rfl, (blk_cell hVA.box 0).trans rfl, (blk_cell hVA.dbox 0).trans rfl⟩ (fun hHeld => ?_)
   exact norm_ (by simp only [putAll, Act.put, List.setIfInBounds_toArray, List.set_cons_zero, List.set_cons_succ]) (hJ (D3, f3, D4, f4, w5.heap.size) _ ⟨hVA, blk_new w5 _, hs5, by rw [World.size_alloc]; omega, hMF5.move (fun b hb => ⟨⟨hb.1, by rw [World.size_alloc]; have := hb.2; omega⟩, Below.heap_alloc _ _ _ hb.2⟩)⟩)
  ·go_simp
   have hVA := HV.out.moved HLL.out (below_alloc HV.out.below (.cells Z5 25)) (KeepBut.of_below (below_alloc (Below.refl V.heap.size V) _) g none) (HV.out.par.below (below_alloc (Below.refl _ _) _))
   refine hK_.out _ _ ⟨(blk_cell hVA.blk 4).trans rfl, (blk_cell hVA.box 0).trans rfl, (blk_cell hVA.dbox 0).trans rfl⟩ (fun hHeld => ?_)
   clear hK_ K_
   have H2 := IH.out _ i left hl hi hVA.below hVA.par
   rw [HQ.out] at H2
   have H2 := Lib.hid H2
   try simp only [Act.put, List.setIfInBounds_toArray, List.set_cons_zero, List.set_cons_succ]
   refine one_ (i := 5) (N := some 8) #[true, true, true, true, true, true, true, true, false, false, false, false, false] rfl rfl (one_of HT_.out (by kernel_rfl)) (by decide) (fun K_ hK_ => ?_)
   refine goesP_ Try.func144 (by kernel_rfl) rfl #[.pointer (some ⟨g, 0, none⟩), .int .i64 (dz + 1)] (by rfl) rfl rfl (by (try simp only [List.map_toArray, List.map_cons, List.map_nil]); first | done | rfl) ?_
   refine (H2.out).mono ?_
   intro e w5 hp5
   obtain ⟨D3, f3, D4, f4, rfl, hB5, hK5, hMF5, hP5⟩ := hp5.some_
   have hV5 := hVA.moved HLL.out hB5 hK5 hP5
   have hs5 := hK5.1
   rw [World.size_alloc] at hs5
   have hbz := (hK5.2 V.heap.size (by rw [World.size_alloc]; omega) (by have := HV.out.par.lt; omega) (by simp)).trans (blk_new V _)
   refine Or.inl ⟨_, rfl, ?_⟩
   refine hK_.out _ _ ⟨(blk_cell hV5.blk 4).trans rfl, (blk_cell hV5.box 0).trans rfl, (blk_cell hV5.dbox 0).trans rfl⟩ (fun hHeld => ?_)
   exact norm_ (by simp only [putAll, Act.put, List.setIfInBounds_toArray, List.set_cons_zero, List.set_cons_succ]) (hJ (D3, f3, D4, f4, V.heap.size) _ ⟨hV5, hbz, Nat.le_refl _, by omega, hMF5.move (fun b hb => ⟨⟨by have := hb.1; rw [World.size_alloc] at this; omega, hb.2⟩, rfl⟩)⟩)
 rintro ⟨D3, f3, D4, f4, bz⟩ W ⟨hW, hbz, hzb, hvs, hMF⟩
 simp only at hbz hzb hMF
 simp only [putAll, Act.put, List.setIfInBounds_toArray, List.set_cons_zero, List.set_cons_succ]
 clear hHeld H1
 have HW := Lib.hid hW
 have HMF := Lib.hid hMF
 have HZ := Lib.hid (And.intro hzb hvs)
 have HVS := Lib.hid (And.intro HV.out.size (fun k (hk : (Value.slice Au n cu).ownBlock = some k) => HV.out.own.lt _ hk))
 refine one_ (i := 8) (N := some 11) #[true, true, true, true, true, true, true, true, true, false, false, false, false] rfl rfl (one_of HT_.out (by kernel_rfl)) (by decide) (fun K_ hK_ => ?_)
 refine append_at (W := W) base (by rfl) (.tmp 4) (.tmp 10) 23 25 (.agg Z5) 5 88 rfl Try.underlying23 infoM rfl (by decide) (by decide) (.slice Au n cu) n cells [.int .i64 0, .string ⟨#[]⟩, .string ⟨#[]⟩, .slice none 0 0, .slice none 0 0] bz rfl rfl hbz rfl (by intro u hu; simp only [List.mem_cons, List.not_mem_nil, or_false] at hu; rcases hu with rfl | rfl | rfl | rfl | rfl <;> rfl) hW.own hW.size (by omega) ?_
 intro v2 w6 hown6 hg6 hat6
 obtain ⟨R, c2, rfl⟩ := own_some hown6
 obtain ⟨L1, L2, L3, L4, L5, L6, L7, L8, L9, L10, L11⟩ := HLL.out
 have hlo := hW.own.lt
 have hln := hown6.lt R rfl
 have hneG : some G ≠ (Value.slice Au n cu).ownBlock := fun e => by have := (hlo _ e.symm).1; omega
 have hneB : some B ≠ (Value.slice Au n cu).ownBlock := fun e => by have := (hlo _ e.symm).1; omega
 have hneD : some D ≠ (Value.slice Au n cu).ownBlock := fun e => by have := (hlo _ e.symm).1; omega
 have hwn := hW.keep.1
 have hneg : some g ≠ (Value.slice Au n cu).ownBlock := fun e => by have := (hlo _ e.symm).1; omega
 have q5 := (hg6.block G (blk_lt hW.blk) hneG).trans hW.blk
 have q4 := (hg6.block B (blk_lt hW.box) hneB).trans hW.box
 have qD := (hg6.block D (blk_lt hW.dbox) hneD).trans hW.dbox
 have qg : PB w6 g s j l1 := (hg6.block g hW.par.lt hneg).trans hW.par
 refine hK_.out _ _ ⟨(blk_cell q5 4).trans rfl, (blk_cell q4 0).trans rfl, (blk_cell qD 0).trans rfl⟩ (fun hHeld => ?_)
 clear hK_ K_
 try simp only [Act.put, List.setIfInBounds_toArray, List.set_cons_zero, List.set_cons_succ]
 have HB6 : Hid (Below w0.heap.size w0 w6) := Lib.hid (hW.below.grown hg6 (by omega) (fun k hk => by have := (hlo k hk).1; omega))
 have HK6 : Hid (KeepBut wn w6 g none) := Lib.hid ⟨by have := hg6.size; omega, fun i hi h1 h2 => (hg6.block i (by omega) (fun e => by have := (hlo _ e.symm).1; omega)).trans (hW.keep.2 i hi h1 h2)⟩
 have HG6 := Lib.hid hg6
 have HAT := Lib.hid hat6
 have HO6 := Lib.hid hown6
 have HQS := Lib.hid (And.intro q5 (And.intro q4 (And.intro qD qg)))
 have HLN := Lib.hid hln
 have HRG := Lib.hid (show R ≠ G by omega)
 have hcl := hW.clen
 have FIN : Hid (∀ X : World, X.heap.size = w6.heap.size → (∀ i, i ≠ R → i ≠ G → X.heap[i]? = w6.heap[i]?) → X.heap[G]? = some (.cells #[.int .i64 op, .string ⟨#[]⟩, .string ⟨#[]⟩, .slice none 0 0, .slice (some ⟨R, 0, none⟩) (n + 1) c2] 25 (0, 0)) → X.ownsRow base 25 5 (.slice (some ⟨R, 0, none⟩) (n + 1) c2) (n + 1) (cells ++ [.int .i64 m.f0, .string m.f1, .string m.f2, .slice D3 m.f3.length f3, .slice D4 m.f4.length f4]) → Below w0.heap.size w0 X → VK w0 wn X g B D G base s op dz j (l1 : Int) (ks ++ [m]) (cells ++ [.int .i64 m.f0, .string m.f1, .string m.f2, .slice D3 m.f3.length f3, .slice D4 m.f4.length f4]) (n + 1) (some ⟨R, 0, none⟩) c2) := Lib.hid (fun X hsz hX hGX hOX hBX => by
  have hW := HW.out
  have hzv := HZ.out.2
  have hs6 := hg6.size
  have hbR : base ≤ R := (hown6.lt R rfl).1
  have hfar : ∀ b, b < W.heap.size → (Value.slice Au n cu).ownBlock ≠ some b → R ≠ b := fun b hb hne e => by
   subst e
   rcases hat6 with h | h
   ·exact hne h.symm
   ·have h' : R = W.heap.size := by simpa [Value.ownBlock] using h
    omega
  refine ⟨hBX, ⟨by rw [hsz]; omega, fun i hi h1 h2 => (hX i (by omega) (by omega)).trans ((hg6.block i (by omega) (fun e => by have := (hlo _ e.symm).1; omega)).trans (hW.keep.2 i hi h1 h2))⟩, by have := hW.size; omega, (hX B (by omega) L9).trans q4, (hX D (by omega) L10).trans qD, hGX, (hX g (by omega) (by omega)).trans qg, hOX, Reps.snoc (hW.reps.imp_ (fun p c hk => hk.move (fun b hb => ?_))) ⟨D3, f3, D4, f4, rfl, HMF.out.move (fun b hb => ?_)⟩ rfl, by rw [List.length_append, hW.len]; rfl, by rw [List.length_append, hW.clen]; simp; omega⟩
  ·obtain ⟨b1, b2, b3⟩ := hb
   have hRb := hfar b b2 b3
   refine ⟨⟨b1, by omega, fun e => hRb (by simpa [Value.ownBlock] using e)⟩, (hX b (fun e => hRb e.symm) (by omega)).trans (hg6.block b b2 (fun e => b3 e.symm))⟩
  ·obtain ⟨b1, b2⟩ := hb
   have hv1 := HVS.out.1
   have b3 : (Value.slice Au n cu).ownBlock ≠ some b := fun e => by have := (HVS.out.2 b e).2; omega
   have hRb := hfar b b2 b3
   refine ⟨⟨by omega, by omega, fun e => hRb (by simpa [Value.ownBlock] using e)⟩, (hX b (fun e => hRb e.symm) (by omega)).trans (hg6.block b b2 (fun e => b3 e.symm))⟩)
 have HCL := Lib.hid hcl
 have HBG := Lib.hid (And.intro (show w0.heap.size ≤ G by omega) (show w0.heap.size ≤ R by have := (hown6.lt R rfl).1; omega))
 have cR0 := hown6.cellAt (n * 5) (by omega)
 have cR1 := hown6.cellAt (n * 5 + 1) (by omega)
 have cR2 := hown6.cellAt (n * 5 + 2) (by omega)
 have cR3 := hown6.cellAt (n * 5 + 3) (by omega)
 have cR4 := hown6.cellAt (n * 5 + 4) (by omega)
 rw [List.getElem?_append_right (by omega), hcl, Nat.sub_self] at cR0
 rw [List.getElem?_append_right (by omega), hcl, Nat.add_sub_cancel_left] at cR1 cR2 cR3 cR4
 simp only [List.getElem?_cons_zero, List.getElem?_cons_succ] at cR0 cR1 cR2 cR3 cR4
 have zR0 := hown6.frozenAt (n * 5)
 have zR1 := hown6.frozenAt (n * 5 + 1)
 have zR2 := hown6.frozenAt (n * 5 + 2)
 have zR3 := hown6.frozenAt (n * 5 + 3)
 have zR4 := hown6.frozenAt (n * 5 + 4)
 have zG4 := blk_frozen q5 4
 have cG4 : w6.cell? ⟨G, 4, none⟩ = some (.slice Au n cu) := (blk_cell q5 4).trans rfl
 have hRG : R ≠ G := HRG.out
 have hGR : G ≠ R := HRG.out.symm
 have hnn : (n : Int) < (n : Int) + 1 := Int.ofNat_lt.2 (Nat.lt_succ_self n)
 have hn0 : (0 : Int) ≤ (n : Int) := Int.natCast_nonneg n
 have hnN : n < n + 1 := Nat.lt_succ_self n
 clear hneg hneD hneB hneG hown6 hg6 hat6 hln hlo hwn q5 q4 qD qg hW hbz hzb hvs hMF hcl L1 L2 L3 L4 L5 L6 L7 L8 L9 L10 L11
 refine pure_ (i := 9) (N := some 12) (v := ?_) (a' := ?_) #[true, true, true, true, true, true, true, true, true, true, false, false, false] rfl rfl (any_of HT_.out (by kernel_rfl)) (fun _ _ _ h => h) (Or.inl ⟨by rfl, ?_⟩) ?_ ?_
 rotate_left
 ·intro w'
  go_simp
  with_reducible rfl
 rotate_left
 ·simp only [Act.put, List.setIfInBounds_toArray, List.set_cons_zero, List.set_cons_succ, i64_w, i32_w]
  rfl
 refine pure_ (i := 11) (N := some 13) (v := ?_) (a' := ?_) #[true, true, true, true, true, true, true, true, true, true, false, true, false] rfl rfl (any_of HT_.out (by kernel_rfl)) (fun _ _ _ h => h) (Or.inl ⟨by rfl, ?_⟩) ?_ ?_
 rotate_left
 ·intro w'
  go_simp
  with_reducible rfl
 rotate_left
 ·simp only [Act.put, List.setIfInBounds_toArray, List.set_cons_zero, List.set_cons_succ, i64_w, i32_w]
  rfl
 refine twoLast_ (i := 10) (j := 12) (Ni := none) (Nj := none) #[true, true, true, true, true, true, true, true, true, true, true, true, false] #[true, true, true, true, true, true, true, true, true, true, false, true, true] rfl rfl rfl rfl (two_of HT_.out (by kernel_rfl)) (by decide) (by decide) (fun K_ hK_ => ?_) (fun K_ hK_ => ?_)
 ·go_simp
  refine hK_.out _ _ ?_
  clear hK_ K_
  try simp only [Act.put, List.setIfInBounds_toArray, List.set_cons_zero, List.set_cons_succ]
  refine last_ (i := 12) (N := none) #[true, true, true, true, true, true, true, true, true, true, true, true, true] rfl rfl (one_of HT_.out (by kernel_rfl)) (by decide) (fun K_ hK_ => ?_)
  go_simp
  refine hK_.out _ _ ?_
  clear hK_ K_
  try simp only [Act.put, List.setIfInBounds_toArray, List.set_cons_zero, List.set_cons_succ]
  refine done_ (done_of HT_.out (by kernel_rfl)) ?_
  go_wp2
  refine ⟨rfl, .tuple #[], results_none rfl _ _ _, _, _, _, rfl, FIN.out _ (by simp) (fun i h1 h2 => (Below.heap_setCell _ _ _ _ h2).trans ((Below.heap_setCell _ _ _ _ h1).trans ((Below.heap_setCell _ _ _ _ h1).trans ((Below.heap_setCell _ _ _ _ h1).trans ((Below.heap_setCell _ _ _ _ h1).trans (Below.heap_setCell _ _ _ _ h1)))))) ((blk_set (((Below.heap_setCell _ _ _ _ hGR).trans ((Below.heap_setCell _ _ _ _ hGR).trans ((Below.heap_setCell _ _ _ _ hGR).trans ((Below.heap_setCell _ _ _ _ hGR).trans (Below.heap_setCell _ _ _ _ hGR))))).trans HQS.out.1) 4 _).trans (by rfl)) (own_move (own_elem HO6.out (n * 5) HCL.out.symm) (fun k hk => Below.heap_setCell _ _ _ _ (show k ≠ G by have h : R = k := (by simpa [Value.ownBlock] using hk); omega))) ((((((HB6.out.setCell HBG.out.2 _).setCell HBG.out.2 _).setCell HBG.out.2 _).setCell HBG.out.2 _).setCell HBG.out.2 _).setCell HBG.out.1 _)⟩
 ·go_simp
  refine hK_.out _ _ ?_
  clear hK_ K_
  try simp only [Act.put, List.setIfInBounds_toArray, List.set_cons_zero, List.set_cons_succ]
  refine last_ (i := 10) (N := none) #[true, true, true, true, true, true, true, true, true, true, true, true, true] rfl rfl (one_of HT_.out (by kernel_rfl)) (by decide) (fun K_ hK_ => ?_)
  go_simp
  refine hK_.out _ _ ?_
  clear hK_ K_
  try simp only [Act.put, List.setIfInBounds_toArray, List.set_cons_zero, List.set_cons_succ]
  refine done_ (done_of HT_.out (by kernel_rfl)) ?_
  go_wp2
  refine ⟨rfl, .tuple #[], results_none rfl _ _ _, _, _, _, rfl, FIN.out _ (by simp) (fun i h1 h2 => (Below.heap_setCell _ _ _ _ h1).trans ((Below.heap_setCell _ _ _ _ h1).trans ((Below.heap_setCell _ _ _ _ h1).trans ((Below.heap_setCell _ _ _ _ h1).trans ((Below.heap_setCell _ _ _ _ h1).trans (Below.heap_setCell _ _ _ _ h2)))))) (((Below.heap_setCell _ _ _ _ hGR).trans ((Below.heap_setCell _ _ _ _ hGR).trans ((Below.heap_setCell _ _ _ _ hGR).trans ((Below.heap_setCell _ _ _ _ hGR).trans (Below.heap_setCell _ _ _ _ hGR))))).trans ((blk_set HQS.out.1 4 _).trans (by rfl))) (own_elem (own_move HO6.out (fun k hk => Below.heap_setCell _ _ _ _ (show k ≠ G by have h : R = k := (by simpa [Value.ownBlock] using hk); omega))) (n * 5) HCL.out.symm) ((((((HB6.out.setCell HBG.out.1 _).setCell HBG.out.2 _).setCell HBG.out.2 _).setCell HBG.out.2 _).setCell HBG.out.2 _).setCell HBG.out.2 _)⟩
end Go.Proofs.Yteafilojjdfllaa
end
section
namespace Go.Proofs.Yteafilojjdfllaa
open Go Go.RowKit Go.Proofs.YteafilojjdfllaaW.PrintWords Go.Proofs.YteafilojjdfllaaW.PrintLast Go.Proofs.YteafilojjdfllaaW.PrintMore Go.Proofs.Yteafilojjdfllaa.PAll
set_option linter.unusedVariables false
set_option linter.unusedSimpArgs false
/-- how a list of kids ends -/
def LPostK (w0 wn : World) (g B D G base : Nat) (s : ByteArray) (op dz : Int) (Q : Option (List S25 × Nat × List UInt8)) (e : Ending) (w' : World) : Prop :=
 (Q = none ∧ e = .panicked badP ∧ Below w0.heap.size w0 w' ∧ KeepBut wn w' g none) ∨ ∃ ks l1 r j cells A c, Q = some (ks, l1, r) ∧ s.data.toList.drop j = r ∧ j ≤ s.size ∧ e = .returned (.tuple #[]) ∧ VK w0 wn w' g B D G base s op dz j ((l1 : Nat) : Int) ks cells ks.length A c
set_option maxRecDepth 100000 in
set_option maxHeartbeats 32000000 in
/-- list, of kids. -/
theorem list176k (w0 wn w : World) (g B D G base : Nat) (s : ByteArray) (op dz : Int) (i left d : Nat) (HL : VM w0 wn g B D G base) (hV : VK w0 wn w g B D G base s op dz i (left : Int) [] [] 0 none 0) (hi : i ≤ s.size) (hs : s.size ≤ 1000000000) (hl : left ≤ 63) (hdz : wrap64 (dz + 1) = dz + 1) (ih : IHp w0 g s d (dz + 1)) (Q : Option (List S25 × Nat × List UInt8)) (hQ : listK (cutM 33) stepP true d left (s.data.toList.drop i) = Q) :
  Calls Try.prog 176 #[.pointer (some ⟨g, 0, none⟩), .func (.func 177) #[] #[.pointer (some ⟨G, 0, none⟩), .pointer (some ⟨B, 0, none⟩), .pointer (some ⟨D, 0, none⟩)]] w (LPostK w0 wn g B D G base s op dz Q) := by
 have IH := Lib.hid ih
 have HDZ := Lib.hid hdz
 clear ih hdz
 have HV := Lib.hid hV
 have L1 := HL.g0
 have HLL := Lib.hid HL
 obtain ⟨b1, e1⟩ : ∃ b, nextB 40 (s.data.toList.drop i) = b := ⟨_, rfl⟩
 have H1 := Lib.hid (must187 w0 w g s i (left : Int) ⟨#[40]⟩ b1 hi hs (by decide) ((pref_one s i 40 hi).trans e1) L1 hV.below hV.par)
 have HQ := Lib.hid hQ
 have E1 := Lib.hid e1
 clear hV hQ e1 HL
 go_enter Try.func176, Try.ntmps176
 go_wp2_with fail
 cases b1 with
 | false =>
  (with_reducible refine H1.out.mono ?_)
  rintro e w1 ⟨hb1, hk1, ⟨-, rfl⟩ | ⟨h, -⟩⟩
  ·exact ⟨rfl, Or.inl ⟨by rw [← HQ.out]; unfold listK; rw [E1.out]; rfl, rfl, hb1, HV.out.keep.trans hk1 (Or.inl rfl)⟩⟩
  ·cases h
 | true =>
  (with_reducible refine H1.out.mono ?_)
  rintro e w1 ⟨hb1, hk1, ⟨h, -⟩ | ⟨-, rfl, hp1⟩⟩
  ·cases h
  have HV1 := Lib.hid (HV.out.moved HLL.out hb1 hk1 hp1)
  have hi1 : i + 1 ≤ s.size := next_lt E1.out
  have HQ1 := Lib.hid (show (if nextB 41 (s.data.toList.drop (i + 1)) = true then some ([], left, s.data.toList.drop (i + 2)) else readML (cutM 33) stepP true d 65 left (s.data.toList.drop (i + 1))) = Q by rw [← HQ.out]; unfold listK; rw [E1.out, if_pos rfl, List.drop_drop, List.drop_drop])
  obtain ⟨b2, e2⟩ : ∃ b, nextB 41 (s.data.toList.drop (i + 1)) = b := ⟨_, rfl⟩
  have H2 := Lib.hid (takes174 w0 w1 g s (i + 1) (left : Int) ⟨#[41]⟩ b2 hi1 hs (by decide) ((pref_one s (i + 1) 41 hi1).trans e2) L1 HV1.out.below HV1.out.par)
  have E2 := Lib.hid e2
  clear hb1 hk1 hp1 H1 e2 HQ HV
  go_wp2_with fail
  (with_reducible refine H2.out.mono ?_)
  rintro e w2 ⟨rfl, hb2, hk2, hp2⟩
  cases b2 with
  | true =>
   have HV2 := Lib.hid (HV1.out.moved HLL.out hb2 hk2 hp2)
   clear hb2 hk2 hp2 H2
   go_wp2
   have hx : LPostK w0 wn g B D G base s op dz Q (.returned (.tuple #[])) w2 := Or.inr ⟨[], left, _, i + 2, [], _, _, by rw [← HQ1.out, if_pos E2.out], rfl, next_lt E2.out, rfl, HV2.out⟩
   first | exact bodyPost_ret (results_none rfl _ _ _) rfl hx | (simp only [Exit.inBlock, Exit.then]; exact bodyPost_ret (results_none rfl _ _ _) rfl hx) | exact ⟨rfl, .tuple #[], results_none rfl _ _ _, hx⟩
  | false =>
   have HV2 := Lib.hid (HV1.out.moved HLL.out hb2 hk2 hp2)
   have HQ2 := Lib.hid (show readML (cutM 33) stepP true d 65 left (s.data.toList.drop (i + 1)) = Q by rw [← HQ1.out, if_neg (by rw [E2.out]; decide)])
   clear hb2 hk2 hp2 H2 HQ1 HV1
   cases hq : readM (cutM 33) stepP true d left (s.data.toList.drop (i + 1)) with
   | none =>
    have H3 := Lib.hid (kid177n w0 wn w2 g B D G base s op dz (i + 1) left d [] [] 0 none 0 HLL.out HV2.out hi1 hs (by omega) (by decide) HDZ.out IH.out hq)
    have HQ3 := Lib.hid (show Q = none by rw [← HQ2.out, readML_rest, hq])
    clear hq
    go_wp2_with fail
    (with_reducible refine H3.out.mono ?_)
    rintro e w3 ⟨rfl, hb3, hk3⟩
    exact ⟨rfl, Or.inl ⟨HQ3.out, rfl, hb3, hk3⟩⟩
   | some q =>
    obtain ⟨m, l1, t⟩ := q
    obtain ⟨j, hj, hjs, hjt, hll, hij⟩ := read_place hi1 hq
    have H3 := Lib.hid (kid177y w0 wn w2 g B D G base s op dz (i + 1) left d [] [] 0 none 0 HLL.out HV2.out hi1 hs (by omega) (by decide) HDZ.out IH.out m l1 j t hq hj)
    have HQ3 := Lib.hid (show Q = (restK (cutM 33) stepP true d 64 l1 t).map (fun q => ([m] ++ q.1, q.2)) by rw [← HQ2.out, readML_rest, hq]; rfl)
    have HR := Lib.hid (And.intro hjt (And.intro hjs hll))
    clear hq hj hjs hjt hll hij
    go_wp2_with fail
    (with_reducible refine H3.out.mono ?_)
    rintro e w3 ⟨A3, c3, cs3, rfl, hv3⟩
    have HV3 := Lib.hid hv3
    clear hv3 H3
    go_wp2
    go_loopw [] (fun wr => ∃ (n p l2 : Nat) (ks : List S25) (cells : List Value) (rr : List UInt8) (A : Option Addr) (c : Nat), 1 ≤ n ∧ n + l2 ≤ 63 ∧ p ≤ s.size ∧ Hid (s.data.toList.drop p = rr) ∧ Hid (Q = (restK (cutM 33) stepP true d (65 - n) l2 rr).map (fun q => (ks ++ q.1, q.2))) ∧ Hid (VK w0 wn wr g B D G base s op dz p ((l2 : Nat) : Int) ks cells n A c))
     (fun wr => s.size - (intOf ((wr.cell? ⟨g, 1, none⟩).getD undef)).toNat)
    case atStart => exact ⟨1, j, l1, [m], cs3, t, A3, c3, by decide, by have := HR.out.2.2; omega, HR.out.2.1, Lib.hid HR.out.1, HQ3, HV3⟩
    case round =>
     obtain ⟨n, p, l2, ks, cells, rr, A, c, hn1, hn17, hp, HRR, HQr, HVr⟩ := hrel
     clear HV3 HQ3 HR HV2 HQ2
     obtain ⟨b3, e3⟩ : ∃ b, nextB 41 (s.data.toList.drop p) = b := ⟨_, rfl⟩
     have H4 := Lib.hid (takes174 w0 wr g s p ((l2 : Nat) : Int) ⟨#[41]⟩ b3 hp hs (by decide) ((pref_one s p 41 hp).trans e3) L1 HVr.out.below HVr.out.par)
     have E3 := Lib.hid e3
     clear e3
     go_wp2_with fail
     (with_reducible refine H4.out.mono ?_)
     rintro e w4 ⟨rfl, hb4, hk4, hp4⟩
     have HV4 := Lib.hid (HVr.out.moved HLL.out hb4 hk4 hp4)
     clear hb4 hk4 hp4 H4
     cases b3 with
     | true =>
      have HQ4 := Lib.hid (show Q = some (ks, l2, rr.drop 1) by rw [HQr.out]; unfold restK; rw [← HRR.out, if_pos E3.out]; simp)
      have hlen : ks.length = n := HV4.out.len
      subst hlen
      have hx : LPostK w0 wn g B D G base s op dz Q (.returned (.tuple #[])) w4 := Or.inr ⟨ks, l2, _, p + 1, cells, _, _, HQ4.out, by rw [← HRR.out, List.drop_drop], next_lt E3.out, rfl, HV4.out⟩
      go_wp2
      first | exact bodyPost_ret (results_none rfl _ _ _) rfl hx | (simp only [Exit.inBlock, Exit.then]; exact bodyPost_ret (results_none rfl _ _ _) rfl hx) | exact ⟨rfl, .tuple #[], results_none rfl _ _ _, hx⟩
     | false =>
      obtain ⟨b4, e4⟩ : ∃ b, nextB 44 (s.data.toList.drop p) = b := ⟨_, rfl⟩
      have H5 := Lib.hid (must187 w0 w4 g s p ((l2 : Nat) : Int) ⟨#[44]⟩ b4 hp hs (by decide) ((pref_one s p 44 hp).trans e4) L1 HV4.out.below HV4.out.par)
      have E4 := Lib.hid e4
      clear e4
      go_wp2_with fail
      cases b4 with
      | false =>
       (with_reducible refine H5.out.mono ?_)
       rintro e w5 ⟨hb5, hk5, ⟨-, rfl⟩ | ⟨h, -⟩⟩
       ·exact ⟨rfl, Or.inl ⟨by rw [HQr.out]; unfold restK; rw [← HRR.out, if_neg (by rw [E3.out]; decide), if_neg (by rw [E4.out]; decide)]; rfl, rfl, hb5, HV4.out.keep.trans hk5 (Or.inl rfl)⟩⟩
       ·cases h
      | true =>
       (with_reducible refine H5.out.mono ?_)
       rintro e w5 ⟨hb5, hk5, ⟨h, -⟩ | ⟨-, rfl, hp5⟩⟩
       ·cases h
       have HV5 := Lib.hid (HV4.out.moved HLL.out hb5 hk5 hp5)
       have hp1 : p + 1 ≤ s.size := next_lt E4.out
       have HQ5 := Lib.hid (show Q = (readML (cutM 33) stepP true d (65 - n) l2 (s.data.toList.drop (p + 1))).map (fun q => (ks ++ q.1, q.2)) by rw [HQr.out]; unfold restK; rw [← HRR.out, if_neg (by rw [E3.out]; decide), if_pos E4.out, List.drop_drop])
       clear hb5 hk5 hp5 H5 HV4
       cases hq : readM (cutM 33) stepP true d l2 (s.data.toList.drop (p + 1)) with
       | none =>
        have H6 := Lib.hid (kid177n w0 wn w5 g B D G base s op dz (p + 1) l2 d ks cells n A c HLL.out HV5.out hp1 hs (by omega) (by omega) HDZ.out IH.out hq)
        have HQ6 := Lib.hid (show Q = none by rw [HQ5.out, show 65 - n = (64 - n) + 1 by omega, readML_rest, hq]; rfl)
        clear hq
        go_wp2_with fail
        (with_reducible refine H6.out.mono ?_)
        rintro e w6 ⟨rfl, hb6, hk6⟩
        exact ⟨rfl, Or.inl ⟨HQ6.out, rfl, hb6, hk6⟩⟩
       | some q =>
        obtain ⟨m2, l3, t2⟩ := q
        obtain ⟨j2, hj2, hjs2, hjt2, hll2, hij2⟩ := read_place hp1 hq
        have H6 := Lib.hid (kid177y w0 wn w5 g B D G base s op dz (p + 1) l2 d ks cells n A c HLL.out HV5.out hp1 hs (by omega) (by omega) HDZ.out IH.out m2 l3 j2 t2 hq hj2)
        have HQ6 := Lib.hid (show Q = (restK (cutM 33) stepP true d (65 - (n + 1)) l3 t2).map (fun q => ((ks ++ [m2]) ++ q.1, q.2)) by
         rw [HQ5.out, show 65 - n = (65 - (n + 1)) + 1 by omega, readML_rest, hq]
         simp only [Option.map_map]
         congr 1
         funext q
         simp)
        have HR2 := Lib.hid (And.intro hjt2 (And.intro hjs2 (And.intro hll2 hij2)))
        clear hq hj2 hjs2 hjt2 hll2 hij2
        go_wp2_with fail
        (with_reducible refine H6.out.mono ?_)
        rintro e w6 ⟨A6, c6, cs6, rfl, hv6⟩
        have HV6 := Lib.hid hv6
        clear hv6 H6
        go_wp2
        go_roundw
        case rel => exact ⟨n + 1, j2, l3, ks ++ [m2], cs6, t2, A6, c6, by omega, by have := HR2.out.2.2.1; omega, HR2.out.2.1, Lib.hid HR2.out.1, HQ6, HV6⟩
        case measure =>
         have h1 := HVr.out.par.c1
         have h2 := HV6.out.par.c1
         have h3 := HR2.out.2.1
         have h4 := HR2.out.2.2.2
         rw [h1, h2]
         simp [intOf]
         omega
end Go.Proofs.Yteafilojjdfllaa
end
section
namespace Go.Proofs.Yteafilojjdfllaa
open Go Go.RowKit Go.Proofs.YteafilojjdfllaaW.PrintWords Go.Proofs.YteafilojjdfllaaW.PrintLast Go.Proofs.YteafilojjdfllaaW.PrintMore Go.Proofs.Yteafilojjdfllaa.PAll
set_option linter.unusedVariables false
set_option linter.unusedSimpArgs false
/-- the world while a matcher is read -/
structure MS (w0 wn W : World) (g B D K G : Nat) (s : ByteArray) (dz : Int) (j : Nat) (l op : Int) : Prop where
 below : Below w0.heap.size w0 W
 keep : KeepBut wn W g none
 size : G < W.heap.size
 box : W.heap[B]? = some (.cells #[.pointer (some ⟨g, 0, none⟩)] 170 (0, 0))
 dbox : W.heap[D]? = some (.cells #[.int .i64 dz] 3 (0, 0))
 res : W.heap[K]? = some (.cells Z5 25 (0, 0))
 blk : W.heap[G]? = some (.cells #[.int .i64 op, .string ⟨#[]⟩, .string ⟨#[]⟩, .slice none 0 0, .slice none 0 0] 25 (0, 0))
 par : PB W g s j l
/-- where these lie -/
structure ML (w0 w wn : World) (g B D K G : Nat) : Prop where
 g0 : w0.heap.size ≤ g
 gl : g < w.heap.size
 w0l : w0.heap.size ≤ w.heap.size
 eB : w.heap.size = B
 eD : B + 1 = D
 eK : D + 1 = K
 eG : K + 1 = G
 wG : wn.heap.size = G
section
variable {w0 w wn W W' : World} {g B D K G : Nat} {s : ByteArray} {dz : Int} {i j : Nat} {l op : Int}
theorem MS.moved (h : MS w0 wn W g B D K G s dz i l op) (L : ML w0 w wn g B D K G) (hB : Below w0.heap.size w0 W') (hK : KeepBut W W' g none) (hP : PB W' g s j l) : MS w0 wn W' g B D K G s dz j l op := by
 obtain ⟨L1, L2, L0, L3, L4, L5, L6, L7⟩ := L
 have hs := h.size
 have hs2 := hK.1
 exact ⟨hB, h.keep.trans hK (Or.inl rfl), by omega, (hK.2 B (by omega) (by omega) (by simp)).trans h.box, (hK.2 D (by omega) (by omega) (by simp)).trans h.dbox, (hK.2 K (by omega) (by omega) (by simp)).trans h.res, (hK.2 G (by omega) (by omega) (by simp)).trans h.blk, hP⟩
theorem MS.setop (h : MS w0 wn W g B D K G s dz i l op) (L : ML w0 w wn g B D K G) (o : Int) : MS w0 wn (W.setCell ⟨G, 0, none⟩ (.int .i64 o)) g B D K G s dz i l o := by
 obtain ⟨L1, L2, L0, L3, L4, L5, L6, L7⟩ := L
 have hk := h.keep
 exact ⟨h.below.setCell (show w0.heap.size ≤ G by omega) _, ⟨by simpa using hk.1, fun i hi h1 h2 => (Below.heap_setCell _ _ _ _ (show i ≠ G by omega)).trans (hk.2 i hi h1 h2)⟩, by simpa using h.size,
  (Below.heap_setCell _ _ _ _ (show B ≠ G by omega)).trans h.box, (Below.heap_setCell _ _ _ _ (show D ≠ G by omega)).trans h.dbox, (Below.heap_setCell _ _ _ _ (show K ≠ G by omega)).trans h.res, (blk_set h.blk 0 _).trans (by rfl), (Below.heap_setCell _ _ _ _ (show g ≠ G by omega)).trans h.par⟩
theorem MS.cB (h : MS w0 wn W g B D K G s dz i l op) : W.cell? ⟨B, 0, none⟩ = some (.pointer (some ⟨g, 0, none⟩)) := (blk_cell h.box 0).trans rfl
theorem MS.zG (h : MS w0 wn W g B D K G s dz i l op) (k : Nat) : W.frozen? ⟨G, k, none⟩ = false := blk_frozen h.blk k
theorem MS.zK (h : MS w0 wn W g B D K G s dz i l op) (k : Nat) : W.frozen? ⟨K, k, none⟩ = false := blk_frozen h.res k
theorem MS.c0 (h : MS w0 wn W g B D K G s dz i l op) : W.cell? ⟨G, 0, none⟩ = some (.int .i64 op) := (blk_cell h.blk 0).trans rfl
theorem MS.c1 (h : MS w0 wn W g B D K G s dz i l op) : W.cell? ⟨G, 1, none⟩ = some (.string ⟨#[]⟩) := (blk_cell h.blk 1).trans rfl
theorem MS.c2 (h : MS w0 wn W g B D K G s dz i l op) : W.cell? ⟨G, 2, none⟩ = some (.string ⟨#[]⟩) := (blk_cell h.blk 2).trans rfl
theorem MS.c3 (h : MS w0 wn W g B D K G s dz i l op) : W.cell? ⟨G, 3, none⟩ = some (.slice none 0 0) := (blk_cell h.blk 3).trans rfl
theorem MS.c4 (h : MS w0 wn W g B D K G s dz i l op) : W.cell? ⟨G, 4, none⟩ = some (.slice none 0 0) := (blk_cell h.blk 4).trans rfl
theorem MS.k0 (h : MS w0 wn W g B D K G s dz i l op) : W.cell? ⟨K, 0, none⟩ = some (.int .i64 0) := (blk_cell h.res 0).trans rfl
theorem MS.k1 (h : MS w0 wn W g B D K G s dz i l op) : W.cell? ⟨K, 1, none⟩ = some (.string ⟨#[]⟩) := (blk_cell h.res 1).trans rfl
theorem MS.k2 (h : MS w0 wn W g B D K G s dz i l op) : W.cell? ⟨K, 2, none⟩ = some (.string ⟨#[]⟩) := (blk_cell h.res 2).trans rfl
theorem MS.k3 (h : MS w0 wn W g B D K G s dz i l op) : W.cell? ⟨K, 3, none⟩ = some (.slice none 0 0) := (blk_cell h.res 3).trans rfl
theorem MS.k4 (h : MS w0 wn W g B D K G s dz i l op) : W.cell? ⟨K, 4, none⟩ = some (.slice none 0 0) := (blk_cell h.res 4).trans rfl
end
set_option maxRecDepth 100000 in
set_option maxHeartbeats 16000000 in
/-- so many are read. -/
theorem mat144a (w0 w : World) (g : Nat) (s : ByteArray) (i d : Nat) (dz : Int) (hg : w0.heap.size ≤ g) (hB : Below w0.heap.size w0 w) (hP : PB w g s i 0) :
  Calls Try.prog 144 #[.pointer (some ⟨g, 0, none⟩), .int .i64 dz] w (RedPost w0 w g none) := by
 have hgl := hP.lt
 obtain ⟨V0, eV0⟩ : ∃ V0, V0 = ((w.alloc (.cells #[.pointer (some ⟨g, 0, none⟩)] 170)).alloc (.cells #[.int .i64 dz] 3)).alloc (.cells Z5 25) := ⟨_, rfl⟩
 have hB0 : Below w.heap.size w V0 := by rw [eV0]; exact below_alloc (below_alloc (below_alloc (Below.refl _ _) _) _) _
 have hP0 := hP.below hB0
 have hc2 := hP0.c2
 have hz2 := hP0.z2
 rw [eV0] at hc2 hz2
 have HB := Lib.hid (below_step hB hB0)
 have HK := Lib.hid (KeepBut.of_below hB0 g none)
 clear hP hB hP0 hB0 hgl
 go_enter Try.func144, Try.ntmps144
 go_wp2
 rw [← eV0]
 exact ⟨rfl, HB.out.setCell hg _, HK.out.set_ _ _, Or.inl ⟨rfl, rfl⟩⟩
set_option maxRecDepth 100000 in
set_option maxHeartbeats 16000000 in
/-- too deep. -/
theorem mat144b (w0 w : World) (g : Nat) (s : ByteArray) (i left : Nat) (hl : left ≤ 1000) (dz : Int) (hdz : dz = 9) (hg : w0.heap.size ≤ g) (hB : Below w0.heap.size w0 w) (hP : PB w g s i ((left + 1 : Nat) : Int)) :
  Calls Try.prog 144 #[.pointer (some ⟨g, 0, none⟩), .int .i64 dz] w (RedPost w0 w g none) := by
 have hgl := hP.lt
 obtain ⟨V0, eV0⟩ : ∃ V0, V0 = ((w.alloc (.cells #[.pointer (some ⟨g, 0, none⟩)] 170)).alloc (.cells #[.int .i64 dz] 3)).alloc (.cells Z5 25) := ⟨_, rfl⟩
 have hB0 : Below w.heap.size w V0 := by rw [eV0]; exact below_alloc (below_alloc (below_alloc (Below.refl _ _) _) _) _
 have hP0 := hP.below hB0
 have hc2 := hP0.c2
 have hz2 := hP0.z2
 rw [eV0] at hc2 hz2
 have hw1 : wrap64 (((left + 1 : Nat) : Int) - 1) = (left : Int) := by unfold wrap64; omega
 have hd : decide ((left : Int) < 0) = false := decide_eq_false (by omega)
 have hd2 : decide ((8 : Int) < dz) = true := decide_eq_true (by omega)
 have ht2 : (8 : Int) < dz := by omega
 have HB := Lib.hid (below_step hB hB0)
 have HK := Lib.hid (KeepBut.of_below hB0 g none)
 have hgB : w.heap.size + 1 ≠ g := by omega
 have hgD : g ≠ w.heap.size + 1 := by omega
 have hgB2 : w.heap.size ≠ g := by omega
 have hgD2 : g ≠ w.heap.size := by omega
 clear hP hB hP0 hB0 hgl hdz
 go_enter Try.func144, Try.ntmps144
 go_wp2
 rw [← eV0]
 exact ⟨rfl, HB.out.setCell hg _, HK.out.set_ _ _, Or.inl ⟨rfl, rfl⟩⟩
set_option maxRecDepth 100000 in
set_option maxHeartbeats 64000000 in
/-- a matcher. -/
theorem mat144c (w0 w : World) (g : Nat) (s : ByteArray) (i left d : Nat) (hl : left ≤ 63) (hd7 : d ≤ 7) (dz : Int) (hdz : dz = 8 - (d : Int)) (hi : i ≤ s.size) (hs : s.size ≤ 1000000000) (hg : w0.heap.size ≤ g) (hB : Below w0.heap.size w0 w) (hP : PB w g s i ((left + 1 : Nat) : Int)) (ih : IHp w0 g s d (dz + 1)) :
  Calls Try.prog 144 #[.pointer (some ⟨g, 0, none⟩), .int .i64 dz] w (RedPost w0 w g ((readM (cutM 33) stepP true (d + 1) (left + 1) (s.data.toList.drop i)).map fun q => (q.1, pObj s (s.size - q.2.2.length) (q.2.1 : Nat)))) := by
 obtain ⟨Q, hQ⟩ : ∃ Q, readM (cutM 33) stepP true (d + 1) (left + 1) (s.data.toList.drop i) = Q := ⟨_, rfl⟩
 rw [hQ]
 rw [readM_step _ _ _ _ _ _ rfl] at hQ
 have HQ := Lib.hid hQ
 have IH := Lib.hid ih
 clear hQ ih
 have hgl := hP.lt
 obtain ⟨V0, eV0⟩ : ∃ V0, V0 = ((w.alloc (.cells #[.pointer (some ⟨g, 0, none⟩)] 170)).alloc (.cells #[.int .i64 dz] 3)).alloc (.cells Z5 25) := ⟨_, rfl⟩
 have hB0 : Below w.heap.size w V0 := by rw [eV0]; exact below_alloc (below_alloc (below_alloc (Below.refl _ _) _) _) _
 have hP0 := hP.below hB0
 have hc2 := hP0.c2
 have hz2 := hP0.z2
 rw [eV0] at hc2 hz2
 have hw1 : wrap64 (((left + 1 : Nat) : Int) - 1) = (left : Int) := by unfold wrap64; omega
 have hd : decide ((left : Int) < 0) = false := decide_eq_false (by omega)
 have ht : ¬ (left : Int) < 0 := by omega
 have hd2 : decide ((8 : Int) < dz) = false := decide_eq_false (by omega)
 have ht2 : ¬ (8 : Int) < dz := by omega
 have HDZ := Lib.hid (show wrap64 (dz + 1) = dz + 1 by unfold wrap64; omega)
 have hgB : w.heap.size + 1 ≠ g := by omega
 have hgD : g ≠ w.heap.size + 1 := by omega
 have hgB2 : w.heap.size ≠ g := by omega
 have hgD2 : g ≠ w.heap.size := by omega
 obtain ⟨V, eV⟩ : ∃ V, V = V0.setCell ⟨g, 2, none⟩ (.int .i64 (left : Int)) := ⟨_, rfl⟩
 obtain ⟨B, eB⟩ : ∃ B, w.heap.size = B := ⟨_, rfl⟩
 obtain ⟨D, eD⟩ : ∃ D, B + 1 = D := ⟨_, rfl⟩
 obtain ⟨K, eK⟩ : ∃ K, D + 1 = K := ⟨_, rfl⟩
 obtain ⟨G, eG⟩ : ∃ G, K + 1 = G := ⟨_, rfl⟩
 have hVs : V.heap.size = G := by rw [eV, World.size_setCell, eV0]; simp; omega
 have HL := Lib.hid (show ML w0 w V g B D K G from ⟨hg, hgl, hB.size, eB, eD, eK, eG, hVs⟩)
 have HK0 := Lib.hid (show KeepBut w V g none from by rw [eV]; exact (KeepBut.of_below hB0 g none).set_ _ _)
 have v1 : V0.heap[B]? = some (.cells #[.pointer (some ⟨g, 0, none⟩)] 170 (0, 0)) := by
  rw [eV0, ← eB]
  exact (Below.heap_alloc _ _ _ (by simp; omega)).trans ((Below.heap_alloc _ _ _ (by simp)).trans (blk_new w _))
 have v2 : V0.heap[D]? = some (.cells #[.int .i64 dz] 3 (0, 0)) := by
  rw [eV0, ← eD, ← eB]
  have h := blk_new (w.alloc (.cells #[.pointer (some ⟨g, 0, none⟩)] 170)) (.cells #[.int .i64 dz] 3)
  rw [World.size_alloc] at h
  exact (Below.heap_alloc _ _ _ (by simp)).trans h
 have v3 : V0.heap[K]? = some (.cells Z5 25 (0, 0)) := by
  rw [eV0, ← eK, ← eD, ← eB]
  have h := blk_new ((w.alloc (.cells #[.pointer (some ⟨g, 0, none⟩)] 170)).alloc (.cells #[.int .i64 dz] 3)) (.cells Z5 25)
  rw [World.size_alloc, World.size_alloc] at h
  exact h
 have HKV : Hid (V.heap[K]? = some (.cells Z5 25 (0, 0))) := Lib.hid (by rw [eV]; exact (Below.heap_setCell _ _ _ _ (show K ≠ g by omega)).trans v3)
 have HV : Hid (MS w0 V (V.alloc (.cells Z5 25)) g B D K G s dz i (left : Int) 0) := Lib.hid (by
  have f : ∀ k, k ≠ g → k < V0.heap.size → (V.alloc (.cells Z5 25)).heap[k]? = V0.heap[k]? := fun k h1 h2 => by
   rw [eV]
   exact (Below.heap_alloc _ _ _ (by simpa using h2)).trans (Below.heap_setCell _ _ _ _ h1)
  have hs0 : V0.heap.size = G := by rw [← hVs, eV, World.size_setCell]
  refine ⟨below_alloc (by rw [eV]; exact (below_step hB hB0).setCell hg _) _, KeepBut.of_below (below_alloc (Below.refl _ _) _) g none, by rw [World.size_alloc]; omega, (f B (by omega) (by omega)).trans v1, (f D (by omega) (by omega)).trans v2, (f K (by omega) (by omega)).trans v3, by rw [← hVs]; exact blk_new V _, ?_⟩
  exact PB.below (by rw [eV]; exact hP0.set2 _) (below_alloc (Below.refl _ _) _))
 have cb0 := blk_cell v1 0
 have cd0 := blk_cell v2 0
 simp only [List.getElem?_toArray, List.getElem?_cons_zero] at cb0 cd0
 rw [eV0] at cb0 cd0
 have hBg : B ≠ g := by omega
 have hgB' : g ≠ B := by omega
 have hDg : D ≠ g := by omega
 have hgD' : g ≠ D := by omega
 rw [eV0] at eV
 clear hP hB hP0 hB0 hgl hdz v1 v2 v3
 go_enter Try.func144, Try.ntmps144
 go_upto_block 0 with fail
 rw [← eV]
 obtain ⟨W4, eW4⟩ : ∃ W4, W4 = V.alloc (.cells Z5 25) := ⟨_, rfl⟩
 rw [← eW4] at HV ⊢
 clear eW4 eV hc2 hz2 cb0 cd0 hBg hgB' hDg hgD' hgB hgD hgB2 hgD2 hw1 hd ht hd2 ht2 eB eD eK eG hVs eV0
 have HNE := Lib.hid (show K ≠ G by have := HL.out.eG; omega)
 have hKG : K ≠ G := HNE.out
 have hGK : G ≠ K := HNE.out.symm
 have cB0 := HV.out.cB
 obtain ⟨b0, e0⟩ : ∃ b, nextB 42 (s.data.toList.drop i) = b := ⟨_, rfl⟩
 have H0 := Lib.hid (takes174 w0 W4 g s i (left : Int) ⟨#[42]⟩ b0 hi hs (by decide) ((pref_one s i 42 hi).trans e0) hg HV.out.below HV.out.par)
 have E0 := Lib.hid e0
 clear e0
 go_wp2_with fail
 (with_reducible refine H0.out.mono ?_)
 rintro ee w5 ⟨rfl, hb5, hk5, hp5⟩
 cases b0 with
 | true =>
  have HM5 : Hid (MS w0 V w5 g B D K G s dz (i + 1) (left : Int) 0) := Lib.hid (HV.out.moved HL.out hb5 hk5 hp5)
  have hi1 : i + 1 ≤ s.size := next_lt E0.out
  clear hb5 hk5 hp5 H0 cB0
  have y0 := HM5.out.c0
  have y1 := HM5.out.c1
  have y2 := HM5.out.c2
  have y3 := HM5.out.c3
  have y4 := HM5.out.c4
  have xk0 := HM5.out.k0
  have xk1 := HM5.out.k1
  have xk2 := HM5.out.k2
  have xk3 := HM5.out.k3
  have xk4 := HM5.out.k4
  have xz0 := HM5.out.zK 0
  have xz1 := HM5.out.zK 1
  have xz2 := HM5.out.zK 2
  have xz3 := HM5.out.zK 3
  have xz4 := HM5.out.zK 4
  go_wp2
  have h5 := HM5.out
  obtain ⟨L1, L2, L0, L3, L4, L5, L6, L7⟩ := HL.out
  have hQ : Q = some (⟨0, ⟨#[]⟩, ⟨#[]⟩, [], []⟩, left, s.data.toList.drop (i + 1)) := by rw [← HQ.out, if_pos E0.out, List.drop_drop]
  have hT := nam_tail (m := ⟨0, ⟨#[]⟩, ⟨#[]⟩, [], []⟩) (A3 := none) (c3 := 0) (A4 := none) (c4 := 0) (W := w5) (w := w) (w0 := w0) (g := g) (K := K) (o := pObj s (i + 1) (left : Int)) (by omega) h5.res hg L2 L0 h5.below (HK0.out.trans h5.keep (Or.inl rfl)) h5.par (fun X _ => ⟨Nat.le_refl _, Kd.C_nil _ _, Nat.le_refl _, Kd.C_nil _ _⟩)
  rw [hQ]
  simp only [Option.map_some, List.length_drop, show s.size - (s.data.toList.length - (i + 1)) = i + 1 by simp; omega]
  exact bodyPost_ret (results_single rfl (.cell K 25 _ (0, 0) _ rfl hT.1 Try.underlying25 rfl (by kernel_rfl) .nil)) rfl hT.2
 | false =>
  have HM5 : Hid (MS w0 V w5 g B D K G s dz i (left : Int) 0) := Lib.hid (HV.out.moved HL.out hb5 hk5 hp5)
  clear hb5 hk5 hp5 H0 cB0
  have cB1 := HM5.out.cB
  obtain ⟨b1, e1⟩ : ∃ b, nextB 38 (s.data.toList.drop i) = b := ⟨_, rfl⟩
  have H1 := Lib.hid (takes174 w0 w5 g s i (left : Int) ⟨#[38]⟩ b1 hi hs (by decide) ((pref_one s i 38 hi).trans e1) hg HM5.out.below HM5.out.par)
  have E1 := Lib.hid e1
  clear e1
  go_wp2_with fail
  (with_reducible refine H1.out.mono ?_)
  rintro ee w6 ⟨rfl, hb5, hk5, hp5⟩
  cases b1 with
  | true =>
   have HM5 : Hid (MS w0 V w6 g B D K G s dz (i + 1) (left : Int) 0) := Lib.hid (HM5.out.moved HL.out hb5 hk5 hp5)
   have hi1 : i + 1 ≤ s.size := next_lt E1.out
   clear hb5 hk5 hp5 H1 cB1
   have HM6 := Lib.hid (HM5.out.setop HL.out 5)
   have c50 := HM5.out.c0
   have z50 := HM5.out.zG 0
   have cB6 := HM6.out.cB
   obtain ⟨w9, ew9⟩ : ∃ w9, w9 = w6.setCell ⟨G, 0, none⟩ (.int .i64 5) := ⟨_, rfl⟩
   have hmf : ∀ (fn : Fn) (first cap : Array Value) (w : World), (Instr.makeFunc fn first cap).run Try.prog w = .ok (.func fn first cap) w := fun _ _ _ _ => rfl
   obtain ⟨base, hbase⟩ : ∃ base, w9.heap.size = base := ⟨_, rfl⟩
   rw [← ew9] at HM6
   obtain ⟨L1, L2, L0, L3, L4, L5, L6, L7⟩ := HL.out
   have h9 := HM6.out
   have H9 := Lib.hid (list176k w0 V w9 g B D G base s 5 dz (i + 1) left d ⟨hg, by omega, by omega, by omega, by omega, by have := h9.size; omega, by have := h9.size; omega, by have := h9.size; omega, by omega, by omega, by omega⟩ ⟨h9.below, h9.keep, by omega, h9.box, h9.dbox, h9.blk, h9.par, World.ownsRow_nil _ _ _ _, by simpa using Reps.none _ _, rfl, rfl⟩ hi1 hs hl HDZ.out IH.out _ rfl)
   have HBS := Lib.hid (show K < base by have := h9.size; omega)
   clear h9 hbase L1 L2 L0 L3 L4 L5 L6 L7
   go_wp2_with fail
   rw [← ew9]
   refine H9.out.mono ?_
   intro ee w10 hp10
   rcases hp10 with ⟨hq, rfl, hb10, hk10⟩ | ⟨ks, l1, r, j2, cs, A, c, hq, hr, hj, rfl, hv10⟩
   ·have hQ : Q = none := by rw [← HQ.out, if_neg (by rw [E0.out]; decide), if_pos E1.out, List.drop_drop, hq]; rfl
    exact ⟨rfl, hb10, HK0.out.trans hk10 (Or.inl rfl), Or.inl ⟨by rw [hQ]; rfl, rfl⟩⟩
   ·have HQ6 := Lib.hid (show Q = some (⟨5, ⟨#[]⟩, ⟨#[]⟩, [], ks⟩, l1, r) by rw [← HQ.out, if_neg (by rw [E0.out]; decide), if_pos E1.out, List.drop_drop, hq]; rfl)
    have HJ2 := Lib.hid (show s.size - r.length = j2 by rw [← hr]; simp; omega)
    have HVV := Lib.hid hv10
    have y0 := (blk_cell hv10.blk 0).trans rfl
    have y1 := (blk_cell hv10.blk 1).trans rfl
    have y2 := (blk_cell hv10.blk 2).trans rfl
    have y3 := (blk_cell hv10.blk 3).trans rfl
    have y4 := (blk_cell hv10.blk 4).trans rfl
    have hKg : K ≠ g := by obtain ⟨L1, L2, L0, L3, L4, L5, L6, L7⟩ := HL.out; omega
    have hK10 := (hv10.keep.2 K (by obtain ⟨L1, L2, L0, L3, L4, L5, L6, L7⟩ := HL.out; omega) hKg (by simp)).trans HKV.out
    have HK10 := Lib.hid hK10
    have x0 := (blk_cell hK10 0).trans rfl
    have x1 := (blk_cell hK10 1).trans rfl
    have x2 := (blk_cell hK10 2).trans rfl
    have x3 := (blk_cell hK10 3).trans rfl
    have x4 := (blk_cell hK10 4).trans rfl
    have xz0 := blk_frozen hK10 0
    have xz1 := blk_frozen hK10 1
    have xz2 := blk_frozen hK10 2
    have xz3 := blk_frozen hK10 3
    have xz4 := blk_frozen hK10 4
    simp only [List.getElem?_toArray, List.getElem?_cons_zero, List.getElem?_cons_succ] at y0 y1 y2 y3 y4 x0 x1 x2 x3 x4
    clear hv10 hK10 hq hr H9 ew9 c50 z50 cB6 HM6 HM5
    go_wp2
    have hv := HVV.out
    obtain ⟨L1, L2, L0, L3, L4, L5, L6, L7⟩ := HL.out
    have hk7 := HK0.out.trans hv.keep (Or.inl rfl)
    obtain ⟨F3, gg3, F4, gg4, ev3, ev4, hMF⟩ := MF.of_rows (m := ⟨5, ⟨#[]⟩, ⟨#[]⟩, [], ks⟩) (lo' := base) (World.ownsRow_nil _ _ _ _) hv.own hv.reps (Nat.le_refl _)
    simp only at ev3 ev4
    cases ev3
    cases ev4
    have hT := nam_tail (m := ⟨5, ⟨#[]⟩, ⟨#[]⟩, [], ks⟩) (W := w10) (w := w) (w0 := w0) (g := g) (K := K) (o := pObj s j2 ((l1 : Nat) : Int)) (by omega) HK10.out hg L2 L0 hv.below hk7 hv.par (hMF.move (fun b hb => ⟨⟨by have := hb.1; have := HBS.out; omega, hb.2⟩, rfl⟩))
    rw [HQ6.out]
    simp only [Option.map_some, HJ2.out]
    exact bodyPost_ret (results_single rfl (.cell K 25 _ (0, 0) _ rfl hT.1 Try.underlying25 rfl (by kernel_rfl) .nil)) rfl hT.2
  | false =>
   have HM6 : Hid (MS w0 V w6 g B D K G s dz i (left : Int) 0) := Lib.hid (HM5.out.moved HL.out hb5 hk5 hp5)
   clear hb5 hk5 hp5 H1 cB1
   have cB2 := HM6.out.cB
   obtain ⟨b2, e2⟩ : ∃ b, nextB 124 (s.data.toList.drop i) = b := ⟨_, rfl⟩
   have H2 := Lib.hid (takes174 w0 w6 g s i (left : Int) ⟨#[124]⟩ b2 hi hs (by decide) ((pref_one s i 124 hi).trans e2) hg HM6.out.below HM6.out.par)
   have E2 := Lib.hid e2
   clear e2
   go_wp2_with fail
   (with_reducible refine H2.out.mono ?_)
   rintro ee w7 ⟨rfl, hb5, hk5, hp5⟩
   cases b2 with
   | true =>
    have HM5 : Hid (MS w0 V w7 g B D K G s dz (i + 1) (left : Int) 0) := Lib.hid (HM6.out.moved HL.out hb5 hk5 hp5)
    have hi1 : i + 1 ≤ s.size := next_lt E2.out
    clear hb5 hk5 hp5 H2 cB2
    have HM6 := Lib.hid (HM5.out.setop HL.out 6)
    have c50 := HM5.out.c0
    have z50 := HM5.out.zG 0
    have cB6 := HM6.out.cB
    obtain ⟨w9, ew9⟩ : ∃ w9, w9 = w7.setCell ⟨G, 0, none⟩ (.int .i64 6) := ⟨_, rfl⟩
    have hmf : ∀ (fn : Fn) (first cap : Array Value) (w : World), (Instr.makeFunc fn first cap).run Try.prog w = .ok (.func fn first cap) w := fun _ _ _ _ => rfl
    obtain ⟨base, hbase⟩ : ∃ base, w9.heap.size = base := ⟨_, rfl⟩
    rw [← ew9] at HM6
    obtain ⟨L1, L2, L0, L3, L4, L5, L6, L7⟩ := HL.out
    have h9 := HM6.out
    have H9 := Lib.hid (list176k w0 V w9 g B D G base s 6 dz (i + 1) left d ⟨hg, by omega, by omega, by omega, by omega, by have := h9.size; omega, by have := h9.size; omega, by have := h9.size; omega, by omega, by omega, by omega⟩ ⟨h9.below, h9.keep, by omega, h9.box, h9.dbox, h9.blk, h9.par, World.ownsRow_nil _ _ _ _, by simpa using Reps.none _ _, rfl, rfl⟩ hi1 hs hl HDZ.out IH.out _ rfl)
    have HBS := Lib.hid (show K < base by have := h9.size; omega)
    clear h9 hbase L1 L2 L0 L3 L4 L5 L6 L7
    go_wp2_with fail
    rw [← ew9]
    refine H9.out.mono ?_
    intro ee w10 hp10
    rcases hp10 with ⟨hq, rfl, hb10, hk10⟩ | ⟨ks, l1, r, j2, cs, A, c, hq, hr, hj, rfl, hv10⟩
    ·have hQ : Q = none := by rw [← HQ.out, if_neg (by rw [E0.out]; decide), if_neg (by rw [E1.out]; decide), if_pos E2.out, List.drop_drop, hq]; rfl
     exact ⟨rfl, hb10, HK0.out.trans hk10 (Or.inl rfl), Or.inl ⟨by rw [hQ]; rfl, rfl⟩⟩
    ·have HQ6 := Lib.hid (show Q = some (⟨6, ⟨#[]⟩, ⟨#[]⟩, [], ks⟩, l1, r) by rw [← HQ.out, if_neg (by rw [E0.out]; decide), if_neg (by rw [E1.out]; decide), if_pos E2.out, List.drop_drop, hq]; rfl)
     have HJ2 := Lib.hid (show s.size - r.length = j2 by rw [← hr]; simp; omega)
     have HVV := Lib.hid hv10
     have y0 := (blk_cell hv10.blk 0).trans rfl
     have y1 := (blk_cell hv10.blk 1).trans rfl
     have y2 := (blk_cell hv10.blk 2).trans rfl
     have y3 := (blk_cell hv10.blk 3).trans rfl
     have y4 := (blk_cell hv10.blk 4).trans rfl
     have hKg : K ≠ g := by obtain ⟨L1, L2, L0, L3, L4, L5, L6, L7⟩ := HL.out; omega
     have hK10 := (hv10.keep.2 K (by obtain ⟨L1, L2, L0, L3, L4, L5, L6, L7⟩ := HL.out; omega) hKg (by simp)).trans HKV.out
     have HK10 := Lib.hid hK10
     have x0 := (blk_cell hK10 0).trans rfl
     have x1 := (blk_cell hK10 1).trans rfl
     have x2 := (blk_cell hK10 2).trans rfl
     have x3 := (blk_cell hK10 3).trans rfl
     have x4 := (blk_cell hK10 4).trans rfl
     have xz0 := blk_frozen hK10 0
     have xz1 := blk_frozen hK10 1
     have xz2 := blk_frozen hK10 2
     have xz3 := blk_frozen hK10 3
     have xz4 := blk_frozen hK10 4
     simp only [List.getElem?_toArray, List.getElem?_cons_zero, List.getElem?_cons_succ] at y0 y1 y2 y3 y4 x0 x1 x2 x3 x4
     clear hv10 hK10 hq hr H9 ew9 c50 z50 cB6 HM6 HM5
     go_wp2
     have hv := HVV.out
     obtain ⟨L1, L2, L0, L3, L4, L5, L6, L7⟩ := HL.out
     have hk7 := HK0.out.trans hv.keep (Or.inl rfl)
     obtain ⟨F3, gg3, F4, gg4, ev3, ev4, hMF⟩ := MF.of_rows (m := ⟨6, ⟨#[]⟩, ⟨#[]⟩, [], ks⟩) (lo' := base) (World.ownsRow_nil _ _ _ _) hv.own hv.reps (Nat.le_refl _)
     simp only at ev3 ev4
     cases ev3
     cases ev4
     have hT := nam_tail (m := ⟨6, ⟨#[]⟩, ⟨#[]⟩, [], ks⟩) (W := w10) (w := w) (w0 := w0) (g := g) (K := K) (o := pObj s j2 ((l1 : Nat) : Int)) (by omega) HK10.out hg L2 L0 hv.below hk7 hv.par (hMF.move (fun b hb => ⟨⟨by have := hb.1; have := HBS.out; omega, hb.2⟩, rfl⟩))
     rw [HQ6.out]
     simp only [Option.map_some, HJ2.out]
     exact bodyPost_ret (results_single rfl (.cell K 25 _ (0, 0) _ rfl hT.1 Try.underlying25 rfl (by kernel_rfl) .nil)) rfl hT.2
   | false =>
    have HM7 : Hid (MS w0 V w7 g B D K G s dz i (left : Int) 0) := Lib.hid (HM6.out.moved HL.out hb5 hk5 hp5)
    clear hb5 hk5 hp5 H2 cB2
    have cB3 := HM7.out.cB
    obtain ⟨b3, e3⟩ : ∃ b, nextB 33 (s.data.toList.drop i) = b := ⟨_, rfl⟩
    have H3 := Lib.hid (takes174 w0 w7 g s i (left : Int) ⟨#[33]⟩ b3 hi hs (by decide) ((pref_one s i 33 hi).trans e3) hg HM7.out.below HM7.out.par)
    have E3 := Lib.hid e3
    clear e3
    go_wp2_with fail
    (with_reducible refine H3.out.mono ?_)
    rintro ee w8 ⟨rfl, hb5, hk5, hp5⟩
    cases b3 with
    | true =>
     have HM5 : Hid (MS w0 V w8 g B D K G s dz (i + 1) (left : Int) 0) := Lib.hid (HM7.out.moved HL.out hb5 hk5 hp5)
     have hi1 : i + 1 ≤ s.size := next_lt E3.out
     clear hb5 hk5 hp5 H3 cB3
     have HM6 := Lib.hid (HM5.out.setop HL.out 7)
     have c50 := HM5.out.c0
     have z50 := HM5.out.zG 0
     have cB6 := HM6.out.cB
     obtain ⟨w9, ew9⟩ : ∃ w9, w9 = w8.setCell ⟨G, 0, none⟩ (.int .i64 7) := ⟨_, rfl⟩
     have hmf : ∀ (fn : Fn) (first cap : Array Value) (w : World), (Instr.makeFunc fn first cap).run Try.prog w = .ok (.func fn first cap) w := fun _ _ _ _ => rfl
     obtain ⟨base, hbase⟩ : ∃ base, w9.heap.size = base := ⟨_, rfl⟩
     rw [← ew9] at HM6
     obtain ⟨L1, L2, L0, L3, L4, L5, L6, L7⟩ := HL.out
     have h9 := HM6.out
     have H9 := Lib.hid (list176k w0 V w9 g B D G base s 7 dz (i + 1) left d ⟨hg, by omega, by omega, by omega, by omega, by have := h9.size; omega, by have := h9.size; omega, by have := h9.size; omega, by omega, by omega, by omega⟩ ⟨h9.below, h9.keep, by omega, h9.box, h9.dbox, h9.blk, h9.par, World.ownsRow_nil _ _ _ _, by simpa using Reps.none _ _, rfl, rfl⟩ hi1 hs hl HDZ.out IH.out _ rfl)
     have HBS := Lib.hid (show K < base by have := h9.size; omega)
     clear h9 hbase L1 L2 L0 L3 L4 L5 L6 L7
     go_wp2_with fail
     rw [← ew9]
     refine H9.out.mono ?_
     intro ee w10 hp10
     rcases hp10 with ⟨hq, rfl, hb10, hk10⟩ | ⟨ks, l1, r, j2, cs, A, c, hq, hr, hj, rfl, hv10⟩
     ·have hQ : Q = none := by rw [← HQ.out, if_neg (by rw [E0.out]; decide), if_neg (by rw [E1.out]; decide), if_neg (by rw [E2.out]; decide), if_pos E3.out, List.drop_drop, hq]; rfl
      exact ⟨rfl, hb10, HK0.out.trans hk10 (Or.inl rfl), Or.inl ⟨by rw [hQ]; rfl, rfl⟩⟩
     ·have HQ6 := Lib.hid (show Q = some (⟨7, ⟨#[]⟩, ⟨#[]⟩, [], ks⟩, l1, r) by rw [← HQ.out, if_neg (by rw [E0.out]; decide), if_neg (by rw [E1.out]; decide), if_neg (by rw [E2.out]; decide), if_pos E3.out, List.drop_drop, hq]; rfl)
      have HJ2 := Lib.hid (show s.size - r.length = j2 by rw [← hr]; simp; omega)
      have HVV := Lib.hid hv10
      have y0 := (blk_cell hv10.blk 0).trans rfl
      have y1 := (blk_cell hv10.blk 1).trans rfl
      have y2 := (blk_cell hv10.blk 2).trans rfl
      have y3 := (blk_cell hv10.blk 3).trans rfl
      have y4 := (blk_cell hv10.blk 4).trans rfl
      have hKg : K ≠ g := by obtain ⟨L1, L2, L0, L3, L4, L5, L6, L7⟩ := HL.out; omega
      have hK10 := (hv10.keep.2 K (by obtain ⟨L1, L2, L0, L3, L4, L5, L6, L7⟩ := HL.out; omega) hKg (by simp)).trans HKV.out
      have HK10 := Lib.hid hK10
      have x0 := (blk_cell hK10 0).trans rfl
      have x1 := (blk_cell hK10 1).trans rfl
      have x2 := (blk_cell hK10 2).trans rfl
      have x3 := (blk_cell hK10 3).trans rfl
      have x4 := (blk_cell hK10 4).trans rfl
      have xz0 := blk_frozen hK10 0
      have xz1 := blk_frozen hK10 1
      have xz2 := blk_frozen hK10 2
      have xz3 := blk_frozen hK10 3
      have xz4 := blk_frozen hK10 4
      simp only [List.getElem?_toArray, List.getElem?_cons_zero, List.getElem?_cons_succ] at y0 y1 y2 y3 y4 x0 x1 x2 x3 x4
      clear hv10 hK10 hq hr H9 ew9 c50 z50 cB6 HM6 HM5
      go_wp2
      have hv := HVV.out
      obtain ⟨L1, L2, L0, L3, L4, L5, L6, L7⟩ := HL.out
      have hk7 := HK0.out.trans hv.keep (Or.inl rfl)
      obtain ⟨F3, gg3, F4, gg4, ev3, ev4, hMF⟩ := MF.of_rows (m := ⟨7, ⟨#[]⟩, ⟨#[]⟩, [], ks⟩) (lo' := base) (World.ownsRow_nil _ _ _ _) hv.own hv.reps (Nat.le_refl _)
      simp only at ev3 ev4
      cases ev3
      cases ev4
      have hT := nam_tail (m := ⟨7, ⟨#[]⟩, ⟨#[]⟩, [], ks⟩) (W := w10) (w := w) (w0 := w0) (g := g) (K := K) (o := pObj s j2 ((l1 : Nat) : Int)) (by omega) HK10.out hg L2 L0 hv.below hk7 hv.par (hMF.move (fun b hb => ⟨⟨by have := hb.1; have := HBS.out; omega, hb.2⟩, rfl⟩))
      rw [HQ6.out]
      simp only [Option.map_some, HJ2.out]
      exact bodyPost_ret (results_single rfl (.cell K 25 _ (0, 0) _ rfl hT.1 Try.underlying25 rfl (by kernel_rfl) .nil)) rfl hT.2
    | false =>
     have HM8 : Hid (MS w0 V w8 g B D K G s dz i (left : Int) 0) := Lib.hid (HM7.out.moved HL.out hb5 hk5 hp5)
     clear hb5 hk5 hp5 H3 cB3
     have cB := HM8.out.cB
     have H9 := Lib.hid (named175 w0 w8 g s i (left : Int) hi hs hg HM8.out.below HM8.out.par)
     have hQ : Hid (Q = (namedW (cutM 33) stepP true (s.data.toList.drop i)).map (fun p => (p.1, left, p.2))) := Lib.hid (by rw [← HQ.out, if_neg (by rw [E0.out]; decide), if_neg (by rw [E1.out]; decide), if_neg (by rw [E2.out]; decide), if_neg (by rw [E3.out]; decide)])
     go_wp2_with fail
     refine H9.out.mono ?_
     intro ee w9 hp9
     cases hq : namedW (cutM 33) stepP true (s.data.toList.drop i) with
     | none =>
      rw [hq] at hp9
      obtain ⟨rfl, hB9, hK9⟩ := hp9.none_
      have hQ2 := hQ.out
      rw [hq] at hQ2
      exact ⟨rfl, hB9, HK0.out.trans (HM8.out.keep.trans hK9 (Or.inl rfl)) (Or.inl rfl), Or.inl ⟨by rw [hQ2]; rfl, rfl⟩⟩
     | some q =>
      obtain ⟨m, r⟩ := q
      rw [hq] at hp9
      obtain ⟨A3, c3, A4, c4, rfl, hB9, hK9, hMF9, ho⟩ := hp9.some_
      have HQ6 := Lib.hid (show Q = some (m, left, r) by have h := hQ.out; rw [hq] at h; exact h)
      have hs8 := HM8.out.size
      have hKg : K ≠ g := by obtain ⟨L1, L2, L0, L3, L4, L5, L6, L7⟩ := HL.out; omega
      have hK10 := (hK9.2 K (by obtain ⟨L1, L2, L0, L3, L4, L5, L6, L7⟩ := HL.out; omega) hKg (by simp)).trans HM8.out.res
      have HK10 := Lib.hid hK10
      have x0 := (blk_cell hK10 0).trans rfl
      have x1 := (blk_cell hK10 1).trans rfl
      have x2 := (blk_cell hK10 2).trans rfl
      have x3 := (blk_cell hK10 3).trans rfl
      have x4 := (blk_cell hK10 4).trans rfl
      have xz0 := blk_frozen hK10 0
      have xz1 := blk_frozen hK10 1
      have xz2 := blk_frozen hK10 2
      have xz3 := blk_frozen hK10 3
      have xz4 := blk_frozen hK10 4
      simp only [List.getElem?_toArray, List.getElem?_cons_zero, List.getElem?_cons_succ] at x0 x1 x2 x3 x4
      have HB9 := Lib.hid hB9
      have HK9 := Lib.hid hK9
      have HMF := Lib.hid hMF9
      have HO := Lib.hid ho
      have HS8 := Lib.hid hs8
      clear hB9 hK9 hMF9 ho hK10 hp9 hq H9 cB hs8
      go_wp2
      obtain ⟨L1, L2, L0, L3, L4, L5, L6, L7⟩ := HL.out
      have hT := nam_tail (m := m) (A3 := A3) (c3 := c3) (A4 := A4) (c4 := c4) (W := w9) (w := w) (w0 := w0) (g := g) (K := K) (o := pObj s (s.size - r.length) (left : Int)) (by omega) HK10.out hg L2 L0 HB9.out (HK0.out.trans (HM8.out.keep.trans HK9.out (Or.inl rfl)) (Or.inl rfl)) HO.out (HMF.out.move (fun b hb => ⟨⟨by have := hb.1; have := HS8.out; omega, hb.2⟩, rfl⟩))
      rw [HQ6.out]
      simp only [Option.map_some]
      exact bodyPost_ret (results_single rfl (.cell K 25 _ (0, 0) _ rfl hT.1 Try.underlying25 rfl (by kernel_rfl) .nil)) rfl hT.2
end Go.Proofs.Yteafilojjdfllaa
end
section
namespace Go.Proofs.Yteafilojjdfllaa
open Go Go.RowKit Go.Proofs.YteafilojjdfllaaW.PrintWords Go.Proofs.YteafilojjdfllaaW.PrintLast Go.Proofs.YteafilojjdfllaaW.PrintMore Go.Proofs.Yteafilojjdfllaa.PAll
set_option linter.unusedVariables false
set_option linter.unusedSimpArgs false
set_option maxRecDepth 100000 in
set_option maxHeartbeats 16000000 in
theorem reads138p (cap : Value) (w0 w : World) (g : Nat) (Q : Option (S25 × Obj)) (hB : Below w0.heap.size w0 w) (hg : g < w.heap.size)
  (H : ∀ W, Below w.heap.size w W → Calls Try.prog 143 #[cap] W (RedPost w0 W g Q)) :
  Calls Try.prog 138 #[.func (.func 143) #[] #[cap]] w (ReadsPost w0 w g (Q.filter fun q => chkB q.1)) := by
 have hmf : ∀ (fn : Fn) (first cap : Array Value) (w : World), (Instr.makeFunc fn first cap).run Try.prog w = .ok (.func fn first cap) w := fun _ _ _ _ => rfl
 obtain ⟨V, eV⟩ : ∃ V, V = (w.alloc (.cells Z5 25)).alloc (.cells #[.bool false] 4) := ⟨_, rfl⟩
 have hBV : Below w.heap.size w V := eV ▸ below_alloc (below_alloc (Below.refl _ _) _) _
 have hs : V.heap.size = w.heap.size + 2 := by rw [eV, World.size_alloc, World.size_alloc]
 have k1 : V.heap[w.heap.size]? = some (.cells Z5 25 (0, 0)) := by rw [eV]; exact (Below.heap_alloc _ _ _ (by simp)).trans (blk_new w _)
 have k2 : V.heap[w.heap.size + 1]? = some (.cells #[.bool false] 4 (0, 0)) := by
  have := blk_new (w.alloc (.cells Z5 25)) (.cells #[.bool false] 4)
  rw [World.size_alloc] at this
  rw [eV]; exact this
 have HV := Lib.hid (H V hBV)
 have HB := Lib.hid (below_step hB hBV)
 have HBV := Lib.hid hBV
 clear H
 have hw0 := hB.size
 cases Q with
 | none =>
  go_enter_defers Try.func138, Try.ntmps138
  go_wp2_with fail
  rw [← eV]
  refine HV.out.mono ?_
  rintro e w5 ⟨hB5, hK5, hres⟩
  obtain rfl : e = .panicked badP := by
   rcases hres with ⟨-, h⟩ | ⟨m, o, A3, c3, A4, c4, h, -⟩
   ·exact h
   ·cases h
  have b1 := (hK5.2 w.heap.size (by omega) (by omega) (by simp)).trans k1
  have b2 := (hK5.2 (w.heap.size + 1) (by omega) (by omega) (by simp)).trans k2
  refine leaves_cons (f := 171) (args := #[.pointer (some ⟨w.heap.size, 0, none⟩), .pointer (some ⟨w.heap.size + 1, 0, none⟩)]) (by simp) (by simp [go_sem]) ?_
  refine (catch171 w0 w.heap.size (w.heap.size + 1) _ _ _ _ _ _ [] w5 hB5 hw0 (by omega) b1 b2 (by omega)).mono ?_
  rintro e u' w'' ⟨rfl, rfl, hB6, d1, d2, hs6, hk6⟩
  have y0 := blk_cell d1 0
  have y1 := blk_cell d1 1
  have y2 := blk_cell d1 2
  have y3 := blk_cell d1 3
  have y4 := blk_cell d1 4
  have x0 := blk_cell d2 0
  simp only [List.getElem?_toArray, List.getElem?_cons_zero, List.getElem?_cons_succ] at y0 y1 y2 y3 y4 x0
  simp [Leaves, settle, results, Try.results138, go_sem, y0, y1, y2, y3, y4, x0]
  exact ⟨hB6, keep_two HBV.out (Nat.le_refl _) (by omega) hK5 hs6 hk6, Or.inl ⟨rfl, rfl⟩⟩
 | some q =>
  obtain ⟨m, o⟩ := q
  go_enter_defers Try.func138, Try.ntmps138
  go_wp2_with fail
  rw [← eV]
  refine HV.out.mono ?_
  rintro e w5 ⟨hB5, hK5, hres⟩
  obtain ⟨A3, c3, A4, c4, rfl, hF, ho⟩ : ∃ A3 c3 A4 c4, e = .returned (mV m A3 c3 A4 c4) ∧ MF w5 (fun b => V.heap.size ≤ b ∧ b < w5.heap.size) m A3 c3 A4 c4 ∧ w5.heap[g]? = some o := by
   rcases hres with ⟨h, -⟩ | ⟨m', o', A3, c3, A4, c4, h, he, hF, ho⟩
   ·cases h
   ·simp only [Option.some.injEq, Prod.mk.injEq] at h
    obtain ⟨rfl, rfl⟩ := h
    exact ⟨A3, c3, A4, c4, he, hF, ho⟩
  have b1 := (hK5.2 w.heap.size (by omega) (by omega) (by simp)).trans k1
  have b2 := (hK5.2 (w.heap.size + 1) (by omega) (by omega) (by simp)).trans k2
  obtain ⟨g1, eg1⟩ : ∃ g1, w.heap.size = g1 := ⟨_, rfl⟩
  rw [eg1] at b1 b2 ⊢
  obtain ⟨g2, eg2⟩ : ∃ g2, g1 + 1 = g2 := ⟨_, rfl⟩
  rw [eg2] at b2 ⊢
  have hne : g1 ≠ g2 := by omega
  have y0 := blk_cell b1 0
  have y1 := blk_cell b1 1
  have y2 := blk_cell b1 2
  have y3 := blk_cell b1 3
  have y4 := blk_cell b1 4
  have z0 := blk_frozen b1 0
  have z1 := blk_frozen b1 1
  have z2 := blk_frozen b1 2
  have z3 := blk_frozen b1 3
  have z4 := blk_frozen b1 4
  simp only [List.getElem?_toArray, List.getElem?_cons_zero, List.getElem?_cons_succ] at y0 y1 y2 y3 y4
  obtain ⟨w6, e6⟩ : ∃ w6, w6 = ((((w5.setCell ⟨g1, 0, none⟩ (.int .i64 m.f0)).setCell ⟨g1, 1, none⟩ (.string m.f1)).setCell ⟨g1, 2, none⟩ (.string m.f2)).setCell ⟨g1, 3, none⟩ (.slice A3 m.f3.length c3)).setCell ⟨g1, 4, none⟩ (.slice A4 m.f4.length c4) := ⟨_, rfl⟩
  have HE := Lib.hid e6
  have HF := Lib.hid hF
  have HO := Lib.hid ho
  have HB5 := Lib.hid hB5
  have HK5 := Lib.hid hK5
  have HG := Lib.hid (show V.heap.size = g1 + 2 by omega)
  have HS := Lib.hid (show g < g1 by omega)
  have HW := Lib.hid (show w0.heap.size ≤ g1 by omega)
  have B1 := Lib.hid b1
  have B2 := Lib.hid b2
  have HBV1 := Lib.hid (show Below w.heap.size w V from HBV.out)
  have EG1 := Lib.hid eg1
  have EG2 := Lib.hid eg2
  clear e6 hF ho hB5 hK5 hs hg hw0 b1 b2 hres k1 k2 eg1 eg2 hBV hB eV HV HB HBV
  have D1 := Lib.hid (show w6.heap[g1]? = some (.cells #[.int .i64 m.f0, .string m.f1, .string m.f2, .slice A3 m.f3.length c3, .slice A4 m.f4.length c4] 25 (0, 0)) from by
   rw [HE.out]; exact (blk_set (blk_set (blk_set (blk_set (blk_set B1.out 0 _) 1 _) 2 _) 3 _) 4 _).trans (by rfl))
  have HOLD := Lib.hid (show ∀ i, i ≠ g1 → w6.heap[i]? = w5.heap[i]? from by
   intro i h1
   rw [HE.out]
   exact (Below.heap_setCell _ _ _ _ h1).trans ((Below.heap_setCell _ _ _ _ h1).trans ((Below.heap_setCell _ _ _ _ h1).trans ((Below.heap_setCell _ _ _ _ h1).trans (Below.heap_setCell _ _ _ _ h1)))))
  have D2 := Lib.hid ((HOLD.out g2 hne.symm).trans B2.out)
  have HM6 := Lib.hid (show MC w6 m A3 c3 A4 c4 from HF.out w6 (fun b hb => HOLD.out b (by have := HG.out; omega)))
  have HB6 := Lib.hid (show Below w0.heap.size w0 w6 from by rw [HE.out]; exact ((((HB5.out.setCell HW.out _).setCell HW.out _).setCell HW.out _).setCell HW.out _).setCell HW.out _)
  have hs6 : w6.heap.size = w5.heap.size := by rw [HE.out]; simp
  have hg1l := blk_lt D1.out
  have hg2l := blk_lt D2.out
  have hg2e : g1 < g2 := by have := EG2.out; omega
  have hggl : g < g1 := HS.out
  cases hv : chkB m with
  | false =>
   have HVV := Lib.hid hv
   clear hv
   go_wp2_with fail
   rw [← HE.out]
   (with_reducible refine (check53v w6 m A3 c3 A4 c4 false HVV.out HM6.out).mono ?_)
   rintro e w7 ⟨rfl, hb7⟩
   have c1 := (hb7.block g1 (by omega)).trans D1.out
   have c2 := (hb7.block g2 (by omega)).trans D2.out
   have y0 := blk_cell c1 0
   have y1 := blk_cell c1 1
   have y2 := blk_cell c1 2
   have y3 := blk_cell c1 3
   have y4 := blk_cell c1 4
   have z0 := blk_frozen c1 0
   have z1 := blk_frozen c1 1
   have z2 := blk_frozen c1 2
   have z3 := blk_frozen c1 3
   have z4 := blk_frozen c1 4
   have x0 := blk_cell c2 0
   have v0 := blk_frozen c2 0
   have C1 := Lib.hid c1
   have C2 := Lib.hid c2
   have HB7 := Lib.hid hb7
   simp only [List.getElem?_toArray, List.getElem?_cons_zero, List.getElem?_cons_succ] at y0 y1 y2 y3 y4 x0
   clear c1 c2 hb7
   go_wp2
   refine leaves_cons (f := 171) (args := #[.pointer (some ⟨g1, 0, none⟩), .pointer (some ⟨g2, 0, none⟩)]) (by simp) (by simp [go_sem]) ?_
   refine (idle171 _ _ _).mono ?_
   rintro e u' w8 ⟨rfl, rfl, e8⟩
   clear y0 y1 y2 y3 y4 z0 z1 z2 z3 z4 x0 v0
   have hne2 := hne.symm
   have d1 : w8.heap[g1]? = some (.cells Z5 25 (0, 0)) := by
    rw [e8]
    exact (Below.heap_setCell _ _ _ _ hne).trans ((blk_set (blk_set (blk_set (blk_set (blk_set C1.out 0 _) 1 _) 2 _) 3 _) 4 _).trans (by rfl))
   have d2 : w8.heap[g2]? = some (.cells #[.bool false] 4 (0, 0)) := by
    rw [e8]
    refine (blk_set (cs := #[.bool false]) ?_ 0 _).trans (by rfl)
    exact (Below.heap_setCell _ _ _ _ hne2).trans ((Below.heap_setCell _ _ _ _ hne2).trans ((Below.heap_setCell _ _ _ _ hne2).trans ((Below.heap_setCell _ _ _ _ hne2).trans ((Below.heap_setCell _ _ _ _ hne2).trans C2.out))))
   have hs8 : w5.heap.size ≤ w8.heap.size := by
    have := HB7.out.size
    rw [e8]; simp; omega
   have hk8 : ∀ i, i < w5.heap.size → i ≠ g1 → i ≠ g2 → w8.heap[i]? = w5.heap[i]? := by
    intro i hi h1 h2
    rw [e8]
    exact (Below.heap_setCell _ _ _ _ h2).trans ((Below.heap_setCell _ _ _ _ h1).trans ((Below.heap_setCell _ _ _ _ h1).trans ((Below.heap_setCell _ _ _ _ h1).trans ((Below.heap_setCell _ _ _ _ h1).trans ((Below.heap_setCell _ _ _ _ h1).trans ((HB7.out.block i (by omega)).trans (HOLD.out i h1)))))))
   have hB8 : Below w0.heap.size w0 w8 := by
    rw [e8]
    exact ((((((below_step HB6.out HB7.out).setCell HW.out _).setCell HW.out _).setCell HW.out _).setCell HW.out _).setCell HW.out _).setCell (Nat.le_trans HW.out (Nat.le_of_lt hg2e)) _
   clear e8
   have y0 := blk_cell d1 0
   have y1 := blk_cell d1 1
   have y2 := blk_cell d1 2
   have y3 := blk_cell d1 3
   have y4 := blk_cell d1 4
   have x0 := blk_cell d2 0
   simp only [List.getElem?_toArray, List.getElem?_cons_zero, List.getElem?_cons_succ] at y0 y1 y2 y3 y4 x0
   simp [Leaves, settle, results, Try.results138, go_sem, y0, y1, y2, y3, y4, x0]
   refine ⟨hB8, keep_two HBV1.out (by have := EG1.out; omega) (by have := EG1.out; omega) HK5.out hs8 hk8, Or.inl ⟨by simp [HVV.out], rfl⟩⟩
  | true =>
   have HVV := Lib.hid hv
   clear hv
   go_wp2_with fail
   rw [← HE.out]
   (with_reducible refine (check53v w6 m A3 c3 A4 c4 true HVV.out HM6.out).mono ?_)
   rintro e w7 ⟨rfl, hb7⟩
   have c1 := (hb7.block g1 (by omega)).trans D1.out
   have c2 := (hb7.block g2 (by omega)).trans D2.out
   have y0 := blk_cell c1 0
   have y1 := blk_cell c1 1
   have y2 := blk_cell c1 2
   have y3 := blk_cell c1 3
   have y4 := blk_cell c1 4
   have z0 := blk_frozen c1 0
   have z1 := blk_frozen c1 1
   have z2 := blk_frozen c1 2
   have z3 := blk_frozen c1 3
   have z4 := blk_frozen c1 4
   have x0 := blk_cell c2 0
   have v0 := blk_frozen c2 0
   have C1 := Lib.hid c1
   have C2 := Lib.hid c2
   have HB7 := Lib.hid hb7
   simp only [List.getElem?_toArray, List.getElem?_cons_zero, List.getElem?_cons_succ] at y0 y1 y2 y3 y4 x0
   clear c1 c2 hb7
   go_wp2
   refine leaves_cons (f := 171) (args := #[.pointer (some ⟨g1, 0, none⟩), .pointer (some ⟨g2, 0, none⟩)]) (by simp) (by simp [go_sem]) ?_
   refine (idle171 _ _ _).mono ?_
   rintro e u' w8 ⟨rfl, rfl, e8⟩
   clear y0 y1 y2 y3 y4 z0 z1 z2 z3 z4 x0 v0
   have hne2 := hne.symm
   have d1 : w8.heap[g1]? = some (.cells #[.int .i64 m.f0, .string m.f1, .string m.f2, .slice A3 m.f3.length c3, .slice A4 m.f4.length c4] 25 (0, 0)) := by
    rw [e8]
    exact (Below.heap_setCell _ _ _ _ hne).trans ((blk_set (blk_set (blk_set (blk_set (blk_set C1.out 0 _) 1 _) 2 _) 3 _) 4 _).trans (by rfl))
   have d2 : w8.heap[g2]? = some (.cells #[.bool true] 4 (0, 0)) := by
    rw [e8]
    refine (blk_set (cs := #[.bool false]) ?_ 0 _).trans (by rfl)
    exact (Below.heap_setCell _ _ _ _ hne2).trans ((Below.heap_setCell _ _ _ _ hne2).trans ((Below.heap_setCell _ _ _ _ hne2).trans ((Below.heap_setCell _ _ _ _ hne2).trans ((Below.heap_setCell _ _ _ _ hne2).trans C2.out))))
   have hs8 : w5.heap.size ≤ w8.heap.size := by
    have := HB7.out.size
    rw [e8]; simp; omega
   have hk8 : ∀ i, i < w5.heap.size → i ≠ g1 → i ≠ g2 → w8.heap[i]? = w5.heap[i]? := by
    intro i hi h1 h2
    rw [e8]
    exact (Below.heap_setCell _ _ _ _ h2).trans ((Below.heap_setCell _ _ _ _ h1).trans ((Below.heap_setCell _ _ _ _ h1).trans ((Below.heap_setCell _ _ _ _ h1).trans ((Below.heap_setCell _ _ _ _ h1).trans ((Below.heap_setCell _ _ _ _ h1).trans ((HB7.out.block i (by omega)).trans (HOLD.out i h1)))))))
   have hB8 : Below w0.heap.size w0 w8 := by
    rw [e8]
    exact ((((((below_step HB6.out HB7.out).setCell HW.out _).setCell HW.out _).setCell HW.out _).setCell HW.out _).setCell HW.out _).setCell (Nat.le_trans HW.out (Nat.le_of_lt hg2e)) _
   clear e8
   have y0 := blk_cell d1 0
   have y1 := blk_cell d1 1
   have y2 := blk_cell d1 2
   have y3 := blk_cell d1 3
   have y4 := blk_cell d1 4
   have x0 := blk_cell d2 0
   simp only [List.getElem?_toArray, List.getElem?_cons_zero, List.getElem?_cons_succ] at y0 y1 y2 y3 y4 x0
   simp [Leaves, settle, results, Try.results138, go_sem, y0, y1, y2, y3, y4, x0]
   refine ⟨hB8, keep_two HBV1.out (by have := EG1.out; omega) (by have := EG1.out; omega) HK5.out hs8 hk8, Or.inr ⟨m, o, A3, c3, A4, c4, by simp [HVV.out], rfl, ?_, ?_⟩⟩
   ·have hg := HG.out
    refine HF.out.move (fun b hb => ?_)
    obtain ⟨hb1, hb2⟩ := hb
    have := EG1.out
    have := EG2.out
    exact ⟨⟨by omega, by omega⟩, hk8 b hb2 (by omega) (by omega)⟩
   ·exact (hk8 g (by omega) (by omega) (by omega)).trans HO.out
theorem readM_zero (cut : List UInt8 → Nat) (step : List UInt8 → Step) (emp : Bool) (left : Nat) (r : List UInt8) : readM cut step emp 0 left r = none := by rw [readM.eq_def]
theorem readM_left0 (cut : List UInt8 → Nat) (step : List UInt8 → Step) (emp : Bool) (d : Nat) (r : List UInt8) : readM cut step emp d 0 r = none := by cases d <;> rw [readM.eq_def]
theorem matcher144 (w0 : World) (g : Nat) (s : ByteArray) (hs : s.size ≤ 1000000000) (hg : w0.heap.size ≤ g) : ∀ (d : Nat) (dz : Int), d ≤ 8 → dz = 9 - (d : Int) → IHp w0 g s d dz := by
 intro d
 induction d with
 | zero =>
  intro dz _ hdz w i left hl hi hB hP
  rw [readM_zero]
  cases left with
  | zero => exact mat144a w0 w g s i 0 dz hg hB hP
  | succ left => exact mat144b w0 w g s i left (by omega) dz (by omega) hg hB hP
 | succ d ih =>
  intro dz hd hdz w i left hl hi hB hP
  cases left with
  | zero =>
   rw [readM_left0]
   exact mat144a w0 w g s i (d + 1) dz hg hB hP
  | succ left => exact mat144c w0 w g s i left d (by omega) (by omega) dz (by omega) hi hs hg hB hP (ih (dz + 1) (by omega) (by omega))
/-- what the parser's closure makes of a text -/
def parseQ (s : ByteArray) : Option (S25 × Obj) := (readM (cutM 33) stepP true 8 64 s.data.toList).map fun q => (q.1, pObj s (s.size - q.2.2.length) (q.2.1 : Nat))
set_option maxRecDepth 100000 in
set_option maxHeartbeats 16000000 in
/-- the closure that parses. -/
theorem parse143 (w0 w : World) (g gp : Nat) (s : ByteArray) (hs : s.size ≤ 1000000000) (hg : w0.heap.size ≤ g) (hB : Below w0.heap.size w0 w) (hS : PB w g s 0 64) (hP : w.heap[gp]? = some (.cells #[.pointer (some ⟨g, 0, none⟩)] 170 (0, 0))) :
  Calls Try.prog 143 #[.pointer (some ⟨gp, 0, none⟩)] w (RedPost w0 w g (parseQ s)) := by
 obtain ⟨Q, eQ⟩ : ∃ Q, parseQ s = Q := ⟨_, rfl⟩
 have hM := matcher144 w0 g s hs hg 8 1 (by decide) (by decide) (w.alloc (.cells Z5 25)) 0 64 (by decide) (Nat.zero_le _) (below_alloc hB _) ((Below.heap_alloc _ _ _ hS.lt).trans hS)
 rw [List.drop_zero] at hM
 have hM' : Calls Try.prog 144 #[.pointer (some ⟨g, 0, none⟩), .int .i64 1] (w.alloc (.cells Z5 25)) (RedPost w0 (w.alloc (.cells Z5 25)) g (parseQ s)) := hM
 clear hM
 rw [eQ] at hM' ⊢
 have p0 := blk_cell ((Below.heap_alloc w (.cells Z5 25) _ (blk_lt hP)).trans hP) 0
 simp only [List.getElem?_toArray, List.getElem?_cons_zero, List.getElem?_cons_succ] at p0
 obtain ⟨V, eV⟩ : ∃ V, V = w.alloc (.cells Z5 25) := ⟨_, rfl⟩
 rw [← eV] at hM'
 obtain ⟨K, eK⟩ : ∃ K, w.heap.size = K := ⟨_, rfl⟩
 have hV4 : V.heap[K]? = some (.cells Z5 25 (0, 0)) := by rw [eV, ← eK]; exact blk_new w _
 have hKV : KeepBut w V g none := by rw [eV]; exact KeepBut.of_below (below_alloc (Below.refl w.heap.size w) _) g none
 have hVs : V.heap.size = K + 1 := by rw [eV, World.size_alloc, eK]
 have H1 := Lib.hid hM'
 have HK := Lib.hid hKV
 have HV4 := Lib.hid hV4
 have HG := Lib.hid hS.lt
 have HW := Lib.hid hB.size
 have EK := Lib.hid eK.symm
 have HVS := Lib.hid hVs
 clear hM' hB hS hP hKV hV4 eQ hVs
 go_enter Try.func143, Try.ntmps143
 go_wp2_with fail
 rw [← eV]
 refine H1.out.mono ?_
 intro e w5 hp
 cases Q with
 | none =>
  obtain ⟨rfl, hB5, hK5⟩ := hp.none_
  exact ⟨rfl, hB5, HK.out.trans hK5 (Or.inl rfl), Or.inl ⟨rfl, rfl⟩⟩
 | some q =>
  obtain ⟨m, o⟩ := q
  obtain ⟨A3, c3, A4, c4, rfl, hB5, hK5, hMF, ho⟩ := hp.some_
  have k4 := (hK5.2 K (blk_lt HV4.out) (by have := HG.out; have := EK.out; omega) (by simp)).trans HV4.out
  have HB5 := Lib.hid hB5
  have HK5 := Lib.hid (HK.out.trans hK5 (Or.inl rfl))
  have HMF := Lib.hid hMF
  have HO := Lib.hid ho
  have K4 := Lib.hid k4
  have y0 := blk_cell k4 0
  have y1 := blk_cell k4 1
  have y2 := blk_cell k4 2
  have y3 := blk_cell k4 3
  have y4 := blk_cell k4 4
  have z0 := blk_frozen k4 0
  have z1 := blk_frozen k4 1
  have z2 := blk_frozen k4 2
  have z3 := blk_frozen k4 3
  have z4 := blk_frozen k4 4
  simp only [List.getElem?_toArray, List.getElem?_cons_zero, List.getElem?_cons_succ] at y0 y1 y2 y3 y4
  clear hB5 hK5 hMF ho k4 hp eV
  go_wp2
  have hT := red_tail (W := w5) (w := w) (o := o) (m := m) EK.out K4.out hg HG.out HW.out HB5.out HK5.out HO.out (HMF.out.move (fun b hb => ⟨⟨by have := hb.1; have := HVS.out; omega, hb.2⟩, rfl⟩))
  exact bodyPost_ret (results_single rfl (.cell K 25 _ (0, 0) _ rfl hT.1 Try.underlying25 rfl (by kernel_rfl) .nil)) rfl hT.2
/-- what Parse makes of a text that is not nested too deep -/
def parseM (s : ByteArray) : Option S25 := match readM (cutM 33) stepP true 8 64 s.data.toList with
 | none => none
 | some q => if chkB q.1 = true ∧ tB q.1 = s then some q.1 else none
theorem parse_cases (s : ByteArray) : ((parseQ s).filter (fun q => chkB q.1) = none ∧ parseM s = none) ∨ (∃ m o, (parseQ s).filter (fun q => chkB q.1) = some (m, o) ∧ chkB m = true ∧ tB m ≠ s ∧ parseM s = none) ∨ ∃ m o, (parseQ s).filter (fun q => chkB q.1) = some (m, o) ∧ chkB m = true ∧ tB m = s ∧ parseM s = some m := by
 unfold parseQ parseM
 cases h : readM (cutM 33) stepP true 8 64 s.data.toList with
 | none => exact Or.inl ⟨rfl, rfl⟩
 | some q =>
  cases hc : chkB q.1 with
  | false => exact Or.inl ⟨by simp [Option.filter, hc], by simp [hc]⟩
  | true =>
   by_cases ht : tB q.1 = s
   ·exact Or.inr (Or.inr ⟨q.1, pObj s (s.size - q.2.2.length) (q.2.1 : Nat), by simp only [Option.map_some, Option.filter, hc, if_true], hc, ht, by simp [hc, ht]⟩)
   ·exact Or.inr (Or.inl ⟨q.1, pObj s (s.size - q.2.2.length) (q.2.1 : Nat), by simp only [Option.map_some, Option.filter, hc, if_true], hc, ht, by simp [ht]⟩)
/-- how Parse ends -/
def ParP (w : World) (dp : Bool) (Q : Option S25) (e : Ending) (w' : World) : Prop :=
 Below w.heap.size w w' ∧ ((dp = true ∧ e = .returned (.tuple #[.agg Z5, .int .i64 18])) ∨ (dp = false ∧ Q = none ∧ e = .returned (.tuple #[.agg Z5, .int .i64 17])) ∨ ∃ m A3 c3 A4 c4, dp = false ∧ Q = some m ∧ e = .returned (.tuple #[mV m A3 c3 A4 c4, .int .i64 0]) ∧ MF w' (fun b => w.heap.size ≤ b ∧ b < w'.heap.size) m A3 c3 A4 c4)
theorem text_of {m : S25} {A3 : Option Addr} {c3 : Nat} {A4 : Option Addr} {c4 : Nat} (w : World) (hc : chkB m = true) (hM : MC w m A3 c3 A4 c4) (t : ByteArray) (ht : tB m = t) :
  Calls Try.prog 110 #[.agg #[.int .i64 m.f0, .string m.f1, .string m.f2, .slice A3 m.f3.length c3, .slice A4 m.f4.length c4]] w fun e w' => e = .returned (.string t) ∧ Below w.heap.size w w' := by
 obtain ⟨h1, h2, h3, h4⟩ := chk_def.1 hc
 rw [← ht]
 exact text110 _ m (Nat.le_refl _) h1 (by omega) (by omega) A3 c3 A4 c4 w hM
/-- the result is laid -/
theorem par_tail {w W : World} {K : Nat} (a0 a1 a2 a3 a4 : Value) (hK : w.heap.size ≤ K) (hb : W.heap[K]? = some (.cells Z5 25 (0, 0))) (hB : Below w.heap.size w W) :
  (((((W.setCell ⟨K, 0, none⟩ a0).setCell ⟨K, 1, none⟩ a1).setCell ⟨K, 2, none⟩ a2).setCell ⟨K, 3, none⟩ a3).setCell ⟨K, 4, none⟩ a4).heap[K]? = some (.cells #[a0, a1, a2, a3, a4] 25 (0, 0)) ∧
  Below w.heap.size w (((((W.setCell ⟨K, 0, none⟩ a0).setCell ⟨K, 1, none⟩ a1).setCell ⟨K, 2, none⟩ a2).setCell ⟨K, 3, none⟩ a3).setCell ⟨K, 4, none⟩ a4) :=
 ⟨(blk_set (blk_set (blk_set (blk_set (blk_set hb 0 _) 1 _) 2 _) 3 _) 4 _).trans (by rfl), ((((hB.setCell hK _).setCell hK _).setCell hK _).setCell hK _).setCell hK _⟩
set_option maxRecDepth 100000 in
set_option maxHeartbeats 16000000 in
/-- match.Parse. -/
theorem parse92 (w : World) (s : ByteArray) (hs : s.size ≤ 1000000000) : Calls Try.prog 92 #[.string s] w (ParP w (deepW 0 false s.data.toList) (parseM s)) := by
 obtain ⟨dp, edp⟩ : ∃ dp, deepW 0 false s.data.toList = dp := ⟨_, rfl⟩
 have hD := deep142 (w.alloc (.cells Z5 25)) s hs
 rw [edp] at hD ⊢
 clear edp
 have HD := Lib.hid hD
 clear hD
 cases dp with
 | true =>
  go_enter Try.func92, Try.ntmps92
  go_wp2_with fail
  refine HD.out.mono ?_
  rintro e w1 ⟨rfl, hw1⟩
  obtain ⟨R0, e0⟩ : ∃ R0, w.heap.size = R0 := ⟨_, rfl⟩
  have K0 : Hid (w1.heap[R0]? = some (.cells Z5 25 (0, 0))) := Lib.hid (by rw [hw1, ← e0]; exact blk_new w _)
  have HB1 : Hid (Below w.heap.size w w1) := Lib.hid (by rw [hw1]; exact below_alloc (Below.refl _ _) _)
  have HR0 := Lib.hid e0
  rw [e0]
  have y0 := blk_cell K0.out 0
  have z0 := blk_frozen K0.out 0
  have y1 := blk_cell K0.out 1
  have z1 := blk_frozen K0.out 1
  have y2 := blk_cell K0.out 2
  have z2 := blk_frozen K0.out 2
  have y3 := blk_cell K0.out 3
  have z3 := blk_frozen K0.out 3
  have y4 := blk_cell K0.out 4
  have z4 := blk_frozen K0.out 4
  simp only [List.getElem?_toArray, List.getElem?_cons_zero, List.getElem?_cons_succ] at y0 y1 y2 y3 y4
  clear hw1 e0
  go_wp2
  obtain ⟨t2, t3⟩ := par_tail (.int .i64 0) (.string ⟨#[]⟩) (.string ⟨#[]⟩) (.slice none 0 0) (.slice none 0 0) (Nat.le_of_eq HR0.out) K0.out HB1.out
  exact bodyPost_ret (results_list (vs := [.agg Z5, .int .i64 18]) rfl (by decide) (.cell R0 25 _ (0, 0) _ rfl t2 Try.underlying25 rfl (by kernel_rfl) (.tmp .nil))) rfl ⟨t3, Or.inl ⟨rfl, rfl⟩⟩
 | false =>
  obtain ⟨V, eV⟩ : ∃ V, V = ((w.alloc (.cells Z5 25)).alloc (.cells #[.string s, .int .i64 0, .int .i64 64] 172)).alloc (.cells #[.pointer (some ⟨w.heap.size + 1, 0, none⟩)] 170) := ⟨_, rfl⟩
  have hs1 : V.heap.size = w.heap.size + 3 := by rw [eV]; simp
  have hBV : Below w.heap.size w V := by rw [eV]; exact below_alloc (below_alloc (below_alloc (Below.refl _ _) _) _) _
  have k0 : V.heap[w.heap.size]? = some (.cells Z5 25 (0, 0)) := by rw [eV]; exact (Below.heap_alloc _ _ _ (by simp; omega)).trans ((Below.heap_alloc _ _ _ (by simp)).trans (blk_new w _))
  have k1 : PB V (w.heap.size + 1) s 0 64 := by
   have := blk_new (w.alloc (.cells Z5 25)) (.cells #[.string s, .int .i64 0, .int .i64 64] 172)
   rw [World.size_alloc] at this
   rw [eV]; exact (Below.heap_alloc _ _ _ (by simp)).trans this
  have k2 : V.heap[w.heap.size + 2]? = some (.cells #[.pointer (some ⟨w.heap.size + 1, 0, none⟩)] 170 (0, 0)) := by
   have := blk_new ((w.alloc (.cells Z5 25)).alloc (.cells #[.string s, .int .i64 0, .int .i64 64] 172)) (.cells #[.pointer (some ⟨w.heap.size + 1, 0, none⟩)] 170)
   rw [World.size_alloc, World.size_alloc] at this
   rw [eV]; exact this
  have hR := reads138p (.pointer (some ⟨w.heap.size + 2, 0, none⟩)) w V (w.heap.size + 1) (parseQ s) hBV (by omega) (fun W hW => parse143 w W (w.heap.size + 1) (w.heap.size + 2) s hs (by omega) (below_step hBV hW) ((hW.block _ (by omega)).trans k1) ((hW.block _ (by omega)).trans k2))
  have hQ := parse_cases s
  obtain ⟨Q, eQ⟩ : ∃ Q, (parseQ s).filter (fun q => chkB q.1) = Q := ⟨_, rfl⟩
  rw [eQ] at hR hQ
  obtain ⟨M, eM⟩ : ∃ M, parseM s = M := ⟨_, rfl⟩
  rw [eM] at hQ ⊢
  have hmf : ∀ (fn : Fn) (first cap : Array Value) (w : World), (Instr.makeFunc fn first cap).run Try.prog w = .ok (.func fn first cap) w := fun _ _ _ _ => rfl
  obtain ⟨R0, e0⟩ : ∃ R0, w.heap.size = R0 := ⟨_, rfl⟩
  obtain ⟨R1, e1⟩ : ∃ R1, R0 + 1 = R1 := ⟨_, rfl⟩
  obtain ⟨R2, e2⟩ : ∃ R2, R1 + 1 = R2 := ⟨_, rfl⟩
  have e2' : w.heap.size + 2 = R2 := by omega
  have e1' : w.heap.size + 1 = R1 := by omega
  rw [e1'] at k1 k2 eV
  rw [e2'] at k2
  rw [e2'] at hR
  rw [e0] at k0
  have H1 := Lib.hid hR
  have HQ := Lib.hid hQ
  have HBV := Lib.hid hBV
  have HS := Lib.hid (show V.heap.size = R0 + 3 by omega)
  have K0 := Lib.hid k0
  have HR0 := Lib.hid e0
  clear hR hQ hBV hs1 k0 k1 k2 eQ eM e1' e2'
  go_enter Try.func92, Try.ntmps92
  go_wp2_with fail
  refine HD.out.mono ?_
  rintro e wd ⟨rfl, rfl⟩
  go_wp2_with fail
  rw [← eV]
  refine H1.out.mono ?_
  rintro e w5 ⟨hB5, hK5, hres⟩
  have hs5 := hK5.1
  have hVs := HS.out
  have k0 := (hK5.2 R0 (by omega) (by omega) (by simp)).trans K0.out
  have HB5 := Lib.hid hB5
  have HL := Lib.hid (show R0 < w5.heap.size by omega)
  rcases hres with ⟨rfl, rfl⟩ | ⟨m, o, A3, c3, A4, c4, rfl, rfl, hMF, ho⟩
  ·obtain rfl : M = none := by
    rcases HQ.out with ⟨-, h⟩ | ⟨m, o, h, -⟩ | ⟨m, o, h, -⟩
    ·exact h
    ·cases h
    ·cases h
   have k0' : (w5.alloc (.cells Z5 25)).heap[R0]? = some (.cells Z5 25 (0, 0)) := (Below.heap_alloc _ _ _ HL.out).trans k0
   have K0' := Lib.hid k0'
   have y0 := blk_cell k0' 0
   have z0 := blk_frozen k0' 0
   have y1 := blk_cell k0' 1
   have z1 := blk_frozen k0' 1
   have y2 := blk_cell k0' 2
   have z2 := blk_frozen k0' 2
   have y3 := blk_cell k0' 3
   have z3 := blk_frozen k0' 3
   have y4 := blk_cell k0' 4
   have z4 := blk_frozen k0' 4
   simp only [List.getElem?_toArray, List.getElem?_cons_zero, List.getElem?_cons_succ] at y0 y1 y2 y3 y4
   clear k0 k0' hB5 hK5 hs5 eV hVs e0 e1 e2
   go_wp2
   obtain ⟨t2, t3⟩ := par_tail (.int .i64 0) (.string ⟨#[]⟩) (.string ⟨#[]⟩) (.slice none 0 0) (.slice none 0 0) (Nat.le_of_eq HR0.out) K0'.out (below_alloc HB5.out (.cells Z5 25))
   exact bodyPost_ret (results_list (vs := [.agg Z5, .int .i64 17]) rfl (by decide) (.cell R0 25 _ (0, 0) _ rfl t2 Try.underlying25 rfl (by kernel_rfl) (.tmp .nil))) rfl ⟨t3, Or.inr (Or.inl ⟨rfl, rfl, rfl⟩)⟩
  ·have hQQ : chkB m = true ∧ ((tB m ≠ s ∧ M = none) ∨ (tB m = s ∧ M = some m)) := by
    rcases HQ.out with ⟨h, -⟩ | ⟨m', o', h, h1, h2, h3⟩ | ⟨m', o', h, h1, h2, h3⟩
    ·cases h
    ·simp only [Option.some.injEq, Prod.mk.injEq] at h
     obtain ⟨rfl, rfl⟩ := h
     exact ⟨h1, Or.inl ⟨h2, h3⟩⟩
    ·simp only [Option.some.injEq, Prod.mk.injEq] at h
     obtain ⟨rfl, rfl⟩ := h
     exact ⟨h1, Or.inr ⟨h2, h3⟩⟩
   obtain ⟨t, et⟩ : ∃ t, tB m = t := ⟨_, rfl⟩
   obtain ⟨w6, e6⟩ : ∃ w6, w6 = w5.alloc (.cells #[.int .i64 m.f0, .string m.f1, .string m.f2, .slice A3 m.f3.length c3, .slice A4 m.f4.length c4] 25) := ⟨_, rfl⟩
   have hB6 : Below w5.heap.size w5 w6 := by rw [e6]; exact below_alloc (Below.refl _ _) _
   have k6 := (hB6.block R0 HL.out).trans k0
   have m6 : w6.heap[w5.heap.size]? = some (.cells #[.int .i64 m.f0, .string m.f1, .string m.f2, .slice A3 m.f3.length c3, .slice A4 m.f4.length c4] 25 (0, 0)) := by rw [e6]; exact blk_new w5 _
   have hMF6 : MF w6 (fun b => w.heap.size ≤ b ∧ b < w6.heap.size ∧ b ≠ R0) m A3 c3 A4 c4 := hMF.move (fun b hb => ⟨⟨by omega, by have := hb.2; have := hB6.size; omega, by have := hb.1; omega⟩, hB6.block b hb.2⟩)
   have H2 := Lib.hid (text_of w6 hQQ.1 hMF6.now t et)
   have HT := Lib.hid (show (t ≠ s ∧ M = none) ∨ (t = s ∧ M = some m) by rw [← et]; exact hQQ.2)
   have HB6 := Lib.hid (below_step hB5 hB6)
   have K6 := Lib.hid k6
   have M6 := Lib.hid m6
   have HMF6 := Lib.hid hMF6
   obtain ⟨gm, egm⟩ : ∃ gm, w5.heap.size = gm := ⟨_, rfl⟩
   rw [egm] at M6
   have hne : R0 ≠ gm := by have := HL.out; omega
   have y0 := blk_cell M6.out 0
   have y1 := blk_cell M6.out 1
   have y2 := blk_cell M6.out 2
   have y3 := blk_cell M6.out 3
   have y4 := blk_cell M6.out 4
   simp only [List.getElem?_toArray, List.getElem?_cons_zero, List.getElem?_cons_succ] at y0 y1 y2 y3 y4
   clear k0 k6 m6 hMF6 hMF hB5 hK5 hs5 eV hVs e0 e1 e2 hQQ et hB6 ho
   go_upto_region 5 with fail
   rw [← e6]
   clear e6
   go_wp2_with fail
   (with_reducible refine H2.out.mono ?_)
   rintro e w7 ⟨rfl, hb7⟩
   have k7 := (hb7.block R0 (blk_lt K6.out)).trans K6.out
   have m7 := (hb7.block gm (blk_lt M6.out)).trans M6.out
   have K7 := Lib.hid k7
   have HB7 := Lib.hid (below_step HB6.out hb7)
   have HMF7 := Lib.hid (HMF6.out.move (Y := w7) (T := fun b => w.heap.size ≤ b ∧ b < w7.heap.size ∧ b ≠ R0) (fun b hb => ⟨⟨hb.1, by have := hb.2.1; have := hb7.size; omega, hb.2.2⟩, hb7.block b hb.2.1⟩))
   have x0 := blk_cell m7 0
   have x1 := blk_cell m7 1
   have x2 := blk_cell m7 2
   have x3 := blk_cell m7 3
   have x4 := blk_cell m7 4
   have y0 := blk_cell k7 0
   have z0 := blk_frozen k7 0
   have y1 := blk_cell k7 1
   have z1 := blk_frozen k7 1
   have y2 := blk_cell k7 2
   have z2 := blk_frozen k7 2
   have y3 := blk_cell k7 3
   have z3 := blk_frozen k7 3
   have y4 := blk_cell k7 4
   have z4 := blk_frozen k7 4
   simp only [List.getElem?_toArray, List.getElem?_cons_zero, List.getElem?_cons_succ] at y0 y1 y2 y3 y4 x0 x1 x2 x3 x4
   clear k7 m7 hb7 H2
   by_cases ht : t = s
   ·have hte : (t.toList == s.toList) = true := by rw [ht]; exact beq_self_eq_true _
    have hM : M = some m := by
     rcases HT.out with ⟨h, -⟩ | ⟨-, h⟩
     ·exact absurd ht h
     ·exact h
    have HM := Lib.hid hM
    clear ht hM
    go_wp2
    obtain ⟨t2, t3⟩ := par_tail (.int .i64 m.f0) (.string m.f1) (.string m.f2) (.slice A3 m.f3.length c3) (.slice A4 m.f4.length c4) (Nat.le_of_eq HR0.out) K7.out HB7.out
    refine bodyPost_ret (results_list (vs := [.agg #[.int .i64 m.f0, .string m.f1, .string m.f2, .slice A3 m.f3.length c3, .slice A4 m.f4.length c4], .int .i64 0]) rfl (by simp) (.cell R0 25 _ (0, 0) _ rfl t2 Try.underlying25 rfl (by kernel_rfl) (.tmp .nil))) rfl ⟨t3, Or.inr (Or.inr ⟨m, A3, c3, A4, c4, rfl, HM.out, rfl, HMF7.out.move (fun b hb => ⟨⟨hb.1, by simp only [World.size_setCell]; exact hb.2.1⟩, ?_⟩)⟩)⟩
    have hne : b ≠ R0 := hb.2.2
    exact (Below.heap_setCell _ _ _ _ hne).trans ((Below.heap_setCell _ _ _ _ hne).trans ((Below.heap_setCell _ _ _ _ hne).trans ((Below.heap_setCell _ _ _ _ hne).trans (Below.heap_setCell _ _ _ _ hne))))
   ·have hte : (t.toList == s.toList) = false := by rw [beq_eq_false_iff_ne]; exact fun h => ht (toList_iff.1 h)
    have hM : M = none := by
     rcases HT.out with ⟨-, h⟩ | ⟨h, -⟩
     ·exact h
     ·exact absurd h ht
    have HM := Lib.hid hM
    clear ht hM
    go_wp2
    obtain ⟨t2, t3⟩ := par_tail (.int .i64 0) (.string ⟨#[]⟩) (.string ⟨#[]⟩) (.slice none 0 0) (.slice none 0 0) (Nat.le_of_eq HR0.out) K7.out HB7.out
    exact bodyPost_ret (results_list (vs := [.agg Z5, .int .i64 17]) rfl (by decide) (.cell R0 25 _ (0, 0) _ rfl t2 Try.underlying25 rfl (by kernel_rfl) (.tmp .nil))) rfl ⟨t3, Or.inr (Or.inl ⟨rfl, HM.out, rfl⟩)⟩
end Go.Proofs.Yteafilojjdfllaa
end
section
namespace Go.Proofs.Yteafilojjdfllaa
open Go Go.RowKit Go.Proofs.YteafilojjdfllaaW.PrintWords Go.Proofs.YteafilojjdfllaaW.PrintLast Go.Proofs.YteafilojjdfllaaW.PrintMore Go.Proofs.Yteafilojjdfllaa.PAll
set_option linter.unusedVariables false
set_option linter.unusedSimpArgs false
/-- a matcher's text, parsed -/
theorem parseM_text {m : S25} (h : chkB m = true) : parseM (tB m) = some m ∧ deepW 0 false (tB m).data.toList = false := by
 obtain ⟨h1, h2, h3, h4⟩ := chk_def.1 h
 have e : (tB m).data.toList = textM m := rfl
 have hr := readM_text (emp := true) right_P cuts_M _ m 8 64 [] (Nat.le_refl _) h1 (by omega) (by omega) (by omega)
 have hd := deep_text _ m 0 [] (Nat.le_refl _) h1 (by omega)
 rw [List.append_nil] at hr hd
 constructor
 ·unfold parseM
  rw [e, hr]
  simp [h]
 ·rw [e, hd, deepW]
end Go.Proofs.Yteafilojjdfllaa
end
section
namespace Go.Proofs.Yteafilojjdfllaa
open Go Go.RowKit Go.Proofs.YteafilojjdfllaaW.PrintWords Go.Proofs.YteafilojjdfllaaW.PrintLast Go.Proofs.YteafilojjdfllaaW.PrintMore Go.Proofs.Yteafilojjdfllaa.PAll
set_option linter.unusedVariables false
set_option linter.unusedSimpArgs false
theorem u8w : ∀ n : Fin 17, IntKind.u8.wrap ((n.val : Nat) : Int) = ((n.val : Nat) : Int) := by decide +kernel
theorem dig_ext : ∀ n : Fin 16, (⟨#[48, 49, 50, 51, 52, 53, 54, 55, 56, 57, 97, 98, 99, 100, 101, 102]⟩ : ByteArray).extract n.val (n.val + 1) = ⟨#[hexD n.val]⟩ := by decide +kernel
theorem one_ext (s : ByteArray) (j : Nat) (h : j < s.size) : s.extract j (j + 1) = ⟨#[s.data.toList.getD j 0]⟩ := by
 apply ba_ext
 have h' : j < s.data.size := h
 have hl : j < s.data.toList.length := by simpa using h
 simp only [ByteArray.data_extract, Array.toList_extract, List.extract_eq_take_drop, Nat.add_sub_cancel_left]
 rw [List.drop_eq_getElem_cons hl]
 rw [List.getD_eq_getElem?_getD, List.getElem?_eq_getElem hl]
 simp
theorem addS (a b : List UInt8) (h : (a ++ b).length ≤ 1000000000) : Op.stringOp .add ⟨a.toArray⟩ ⟨b.toArray⟩ = pure (.string ⟨(a ++ b).toArray⟩) := add_to (by simp) (by simpa using h)
set_option maxRecDepth 100000 in
set_option maxHeartbeats 8000000 in
/-- the document's Quoted. -/
theorem quoted133 (w : World) (t : ByteArray) (ht : t.size ≤ 1000000) : Calls Try.prog 133 #[.string t] w fun e w' => e = .returned (.string (qB t)) ∧ ∃ m, w' = w.drewN m := by
 suffices h : Calls Try.prog 133 #[.string t] w fun e w' => e = .returned (.string (qB t)) ∧ Drawn0 w w' from h.mono fun _ _ ⟨he, n, hn⟩ => ⟨he, n, hn⟩
 go_enter Try.func133, Try.ntmps133
 go_wp2
 go_loopw [3, 4, 5] (fun u3 u4 _ wr => ∃ (j : Nat) (acc : List UInt8), u4 = .int .i64 j ∧ u3 = .string ⟨acc.toArray⟩ ∧ j ≤ t.size ∧ acc.length ≤ 4 * j + 1 ∧ Hid (quoteT t = acc ++ ((t.data.toList.drop j).flatMap encB ++ [34])) ∧ Drawn0 w wr)
  (fun _ u4 _ _ => t.size - (intOf u4).toNat)
 case atStart => exact ⟨0, [34], rfl, rfl, Nat.zero_le _, by simp, Lib.hid (by unfold quoteT quoteL; rfl), ⟨0, rfl⟩⟩
 case round =>
  obtain ⟨j, acc, rfl, rfl, hj, hal, HA, hB⟩ := hrel
  by_cases hlt : j < t.size
  ·obtain ⟨c, hc⟩ : ∃ c, t.data.toList.getD j 0 = c := ⟨_, rfl⟩
   have h1 : t.extract j (j + 1) = ⟨[c].toArray⟩ := by rw [one_ext t j hlt, hc]
   have hx0 : ∀ h : j < t.size, ((t[j]'h).toNat : Int) = (c.toNat : Int) := fun h => by
    have h' : j < t.data.size := h
    rw [← hc, List.getD_eq_getElem?_getD, Array.getElem?_toList, Array.getElem?_eq_getElem h']
    rfl
   have HA1 := Lib.hid (show quoteT t = (acc ++ encB c) ++ ((t.data.toList.drop (j + 1)).flatMap encB ++ [34]) from by rw [HA.out, bdrop t j hlt, hc, List.flatMap_cons]; simp)
   have hcn := c.toNat_lt
   clear hc
   by_cases e1 : c = 34 ∨ c = 92
   ·have he : encB c = [92] ++ [c] := by unfold encB; rw [if_pos e1]; rfl
    rw [he] at HA1
    have A1 := addS acc [92] (by simp; omega)
    have A2 := addS (acc ++ [92]) [c] (by simp; omega)
    rcases e1 with e1 | e1
    ·have b1 : ((c.toNat : Int) == 34) = true := by rw [e1]; rfl
     clear he e1
     go_wp2
     go_roundw
     case rel => exact ⟨j + 1, acc ++ [92] ++ [c], by go_num, by first | rfl | (simp; done) | exact congrArg Value.string (ba_ext (by simp)), by omega, by simp only [List.length_append, List.length_cons, List.length_nil]; omega, Lib.hid (by rw [HA1.out]; first | done | simp), by repeat (first | exact hB | apply Drawn0.step)⟩
     case measure => simp [intOf]; omega
    ·have b0 : ((c.toNat : Int) == 34) = false := by rw [e1]; rfl
     have b1 : ((c.toNat : Int) == 92) = true := by rw [e1]; rfl
     clear he e1
     go_wp2
     go_roundw
     case rel => exact ⟨j + 1, acc ++ [92] ++ [c], by go_num, by first | rfl | (simp; done) | exact congrArg Value.string (ba_ext (by simp)), by omega, by simp only [List.length_append, List.length_cons, List.length_nil]; omega, Lib.hid (by rw [HA1.out]; first | done | simp), by repeat (first | exact hB | apply Drawn0.step)⟩
     case measure => simp [intOf]; omega
   ·have b0 : ((c.toNat : Int) == 34) = false := beq_eq_false_iff_ne.2 (fun h => e1 (Or.inl (UInt8.toNat_inj.1 (by have : (34 : UInt8).toNat = 34 := rfl; omega))))
    have b1 : ((c.toNat : Int) == 92) = false := beq_eq_false_iff_ne.2 (fun h => e1 (Or.inr (UInt8.toNat_inj.1 (by have : (92 : UInt8).toNat = 92 := rfl; omega))))
    by_cases e2 : c.toNat < 32 ∨ c.toNat ≥ 127
    ·have he : encB c = [92, 120] ++ [hexD (c.toNat / 16)] ++ [hexD (c.toNat % 16)] := by unfold encB; rw [if_neg e1, if_pos e2]; rfl
     rw [he] at HA1
     obtain ⟨q, hq⟩ : ∃ q, c.toNat / 16 = q := ⟨_, rfl⟩
     obtain ⟨r, hr⟩ : ∃ r, c.toNat % 16 = r := ⟨_, rfl⟩
     have hq16 : q < 16 := by omega
     have hr16 : r < 16 := by omega
     rw [hq, hr] at HA1
     have s1 : (⟨#[48, 49, 50, 51, 52, 53, 54, 55, 56, 57, 97, 98, 99, 100, 101, 102]⟩ : ByteArray).extract q (q + 1) = ⟨[hexD q].toArray⟩ := dig_ext ⟨q, hq16⟩
     have s2 : (⟨#[48, 49, 50, 51, 52, 53, 54, 55, 56, 57, 97, 98, 99, 100, 101, 102]⟩ : ByteArray).extract r (r + 1) = ⟨[hexD r].toArray⟩ := dig_ext ⟨r, hr16⟩
     have A1 := addS acc [92, 120] (by simp; omega)
     have A2 := addS (acc ++ [92, 120]) [hexD q] (by simp; omega)
     have A3 := addS (acc ++ [92, 120] ++ [hexD q]) [hexD r] (by simp; omega)
     have td : Int.tdiv (c.toNat : Int) 16 = (q : Int) := by rw [Int.tdiv_eq_ediv_of_nonneg (by omega)]; omega
     have tm : Int.tmod (c.toNat : Int) 16 = (r : Int) := by rw [Int.tmod_eq_emod_of_nonneg (by omega)]; omega
     have ed : (c.toNat : Int) / 16 = (q : Int) := by omega
     have em : (c.toNat : Int) % 16 = (r : Int) := by omega
     have wq : IntKind.u8.wrap ((q : Int) + 1) = (q : Int) + 1 := u8w ⟨q + 1, by omega⟩
     have wr' : IntKind.u8.wrap ((r : Int) + 1) = (r : Int) + 1 := u8w ⟨r + 1, by omega⟩
     have wq0 : IntKind.u8.wrap (q : Int) = (q : Int) := u8w ⟨q, by omega⟩
     have wr0 : IntKind.u8.wrap (r : Int) = (r : Int) := u8w ⟨r, by omega⟩
     clear he e1 hq hr
     rcases Nat.lt_or_ge c.toNat 32 with e3 | e3
     ·have n1 : (c.toNat : Int) < 32 := by omega
      go_wp2
      go_quiet (fail)
      go_wp2
      go_roundw
      case rel => exact ⟨j + 1, acc ++ [92, 120] ++ [hexD q] ++ [hexD r], by go_num, by first | rfl | (simp; done) | exact congrArg Value.string (ba_ext (by simp)), by omega, by simp only [List.length_append, List.length_cons, List.length_nil]; omega, Lib.hid (by rw [HA1.out]; first | done | simp), by repeat (first | exact hB | apply Drawn0.step)⟩
      case measure => simp [intOf]; omega
     ·have n1 : ¬ (c.toNat : Int) < 32 := by omega
      have n2 : (127 : Int) ≤ (c.toNat : Int) := by omega
      go_wp2
      go_quiet (fail)
      go_wp2
      go_roundw
      case rel => exact ⟨j + 1, acc ++ [92, 120] ++ [hexD q] ++ [hexD r], by go_num, by first | rfl | (simp; done) | exact congrArg Value.string (ba_ext (by simp)), by omega, by simp only [List.length_append, List.length_cons, List.length_nil]; omega, Lib.hid (by rw [HA1.out]; first | done | simp), by repeat (first | exact hB | apply Drawn0.step)⟩
      case measure => simp [intOf]; omega
    ·have he : encB c = [c] := by unfold encB; rw [if_neg e1, if_neg e2]
     rw [he] at HA1
     have n1 : ¬ (c.toNat : Int) < 32 := by omega
     have n2 : ¬ (127 : Int) ≤ (c.toNat : Int) := by omega
     have A1 := addS acc [c] (by simp; omega)
     clear he e1 e2
     go_wp2
     go_roundw
     case rel => exact ⟨j + 1, acc ++ [c], by go_num, by first | rfl | (simp; done) | exact congrArg Value.string (ba_ext (by simp)), by omega, by simp only [List.length_append, List.length_cons, List.length_nil]; omega, Lib.hid (by rw [HA1.out]; first | done | simp), by repeat (first | exact hB | apply Drawn0.step)⟩
     case measure => simp [intOf]; omega
  ·obtain rfl : j = t.size := by omega
   have A1 := addS acc [34] (by simp; omega)
   have HQ := Lib.hid (show qB t = ⟨(acc ++ [34]).toArray⟩ from by unfold qB; rw [HA.out, List.drop_of_length_le (by simp)]; simp)
   go_wp2
   go_ret
   exact ⟨by rw [HQ.out]; simp, by repeat (first | exact hB | apply Drawn0.step)⟩
end Go.Proofs.Yteafilojjdfllaa
end
