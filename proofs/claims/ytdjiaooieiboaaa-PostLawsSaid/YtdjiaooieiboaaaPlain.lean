/- Own text: the plain law of Post: what the merge and Less tell, by members. -/
import Derived.Test.YtdjiaooieiboaaaIterF
namespace Go.Proofs.Ytdjiaooieiboaaa

/-- rising -/
abbrev Up (l : List Int) : Prop := l.Pairwise (· < ·)

theorem up_iff : ∀ (l : List Int), rises l = true ↔ Up l
  | [] => by simp [rises]
  | [a] => by simp [rises]
  | a :: b :: l => by
    have ih := up_iff (b :: l)
    simp only [rises, Bool.and_eq_true, decide_eq_true_eq, ih]
    constructor
    · rintro ⟨h, h2⟩
      refine List.pairwise_cons.2 ⟨fun x hx => ?_, h2⟩
      rcases List.mem_cons.1 hx with rfl | hx
      · exact h
      · exact Int.lt_trans h ((List.pairwise_cons.1 h2).1 x hx)
    · intro h
      obtain ⟨h1, h2⟩ := List.pairwise_cons.1 h
      exact ⟨h1 b (by simp), h2⟩

theorem up_ext : ∀ {a b : List Int}, Up a → Up b → (∀ x, x ∈ a ↔ x ∈ b) → a = b
  | [], [], _, _, _ => rfl
  | [], y :: b, _, _, h => by have := (h y).2 (by simp); cases this
  | x :: a, [], _, _, h => by have := (h x).1 (by simp); cases this
  | x :: a, y :: b, ha, hb, h => by
    obtain ⟨a1, a2⟩ := List.pairwise_cons.1 ha
    obtain ⟨b1, b2⟩ := List.pairwise_cons.1 hb
    have e : x = y := by
      rcases List.mem_cons.1 ((h x).1 (by simp)) with e | hx
      · exact e
      · rcases List.mem_cons.1 ((h y).2 (by simp)) with e | hy
        · exact e.symm
        · have := a1 y hy; have := b1 x hx; omega
    subst e
    refine congrArg (x :: ·) (up_ext a2 b2 fun z => ⟨fun hz => ?_, fun hz => ?_⟩)
    · rcases List.mem_cons.1 ((h z).1 (List.mem_cons_of_mem _ hz)) with e | h'
      · subst e; have := a1 z hz; omega
      · exact h'
    · rcases List.mem_cons.1 ((h z).2 (List.mem_cons_of_mem _ hz)) with e | h'
      · subst e; have := b1 z hz; omega
      · exact h'

/-! ### Less -/
theorem mem_dropWhile_up {b : List Int} (hb : Up b) (n x : Int) (hx : n ≤ x) : x ∈ b.dropWhile (fun y => decide (y < n)) ↔ x ∈ b := by
  induction b with
  | nil => simp
  | cons y b ih =>
    obtain ⟨b1, b2⟩ := List.pairwise_cons.1 hb
    rw [List.dropWhile_cons]
    by_cases h : y < n
    · rw [if_pos (by simpa using h), ih b2]
      constructor
      · exact List.mem_cons_of_mem _
      · intro hm
        rcases List.mem_cons.1 hm with e | h'
        · omega
        · exact h'
    · rw [if_neg (by simpa using h)]
theorem up_dropWhile {b : List Int} (hb : Up b) (p : Int → Bool) : Up (b.dropWhile p) := hb.sublist (List.dropWhile_sublist _)
theorem head_dropWhile {b : List Int} (hb : Up b) (n : Int) : (b.dropWhile (fun y => decide (y < n))).head? = some n ↔ n ∈ b := by
  induction b with
  | nil => simp
  | cons y b ih =>
    obtain ⟨b1, b2⟩ := List.pairwise_cons.1 hb
    rw [List.dropWhile_cons]
    by_cases h : y < n
    · rw [if_pos (by simpa using h), ih b2]
      simp; omega
    · rw [if_neg (by simpa using h)]
      simp
      constructor
      · exact fun h => .inl h.symm
      · rintro (h' | h')
        · exact h'.symm
        · have := b1 n h'; omega
theorem mem_lessGo : ∀ (a b : List Int), Up a → Up b → ∀ x, x ∈ lessGo a b ↔ x ∈ a ∧ x ∉ b
  | [], b, _, _, x => by simp [lessGo]
  | n :: a, b, ha, hb, x => by
    obtain ⟨a1, a2⟩ := List.pairwise_cons.1 ha
    have hb' := up_dropWhile hb (fun y => decide (y < n))
    have ih := mem_lessGo a _ a2 hb' x
    have hm : x ∈ a → (x ∈ b.dropWhile (fun y => decide (y < n)) ↔ x ∈ b) := fun h => mem_dropWhile_up hb n x (by have := a1 x h; omega)
    unfold lessGo
    by_cases hn : n ∈ b
    · rw [if_pos ((head_dropWhile hb n).2 hn), ih]
      constructor
      · rintro ⟨h, h2⟩; exact ⟨List.mem_cons_of_mem _ h, by rwa [hm h] at h2⟩
      · rintro ⟨h, h2⟩
        rcases List.mem_cons.1 h with rfl | h
        · exact absurd hn h2
        · exact ⟨h, by rwa [hm h]⟩
    · rw [if_neg (fun h => hn ((head_dropWhile hb n).1 h)), List.mem_cons, ih]
      constructor
      · rintro (rfl | ⟨h, h2⟩)
        · exact ⟨by simp, hn⟩
        · exact ⟨List.mem_cons_of_mem _ h, by rwa [hm h] at h2⟩
      · rintro ⟨h, h2⟩
        rcases List.mem_cons.1 h with rfl | h
        · exact .inl rfl
        · exact .inr ⟨h, by rwa [hm h]⟩
theorem up_lessGo : ∀ (a b : List Int), Up a → Up (lessGo a b)
  | [], b, _ => by simp [lessGo]
  | n :: a, b, ha => by
    obtain ⟨a1, a2⟩ := List.pairwise_cons.1 ha
    have ih := up_lessGo a (b.dropWhile (fun y => decide (y < n))) a2
    have sub : ∀ (a b : List Int), ∀ x, x ∈ lessGo a b → x ∈ a := by
      intro a
      induction a with
      | nil => intro b x h; simp [lessGo] at h
      | cons m a ih =>
        intro b x h
        unfold lessGo at h
        split at h
        · exact List.mem_cons_of_mem _ (ih _ x h)
        · rcases List.mem_cons.1 h with rfl | h
          · simp
          · exact List.mem_cons_of_mem _ (ih _ x h)
    unfold lessGo
    split
    · exact ih
    · exact List.pairwise_cons.2 ⟨fun x hx => a1 x (sub _ _ x hx), ih⟩

/-! ### the merge -/
/-- in how many of the first p lists, from the places on -/
def occR (R : Nat → List Int) (x : Int) : Nat → Nat
  | 0 => 0
  | p + 1 => occR R x p + (if x ∈ R p then 1 else 0)
def anyR (R : Nat → List Int) (x : Int) (p : Nat) : Prop := ∃ i, i < p ∧ x ∈ R i
/-- what is left of list i -/
def rem (ls : List (List Int)) (f : Nat → Nat) (i : Nat) : List Int := (ls.getD i []).drop (f i)

theorem occR_congr {R S : Nat → List Int} {x : Int} : ∀ {p : Nat}, (∀ i, i < p → (x ∈ R i ↔ x ∈ S i)) → occR R x p = occR S x p
  | 0, _ => rfl
  | p + 1, h => by
    have ih := occR_congr (R := R) (S := S) (x := x) (p := p) (fun i hi => h i (by omega))
    simp only [occR, ih, h p (by omega)]
theorem hd_rem (ls : List (List Int)) (f : Nat → Nat) (i : Nat) : hd ls f i = (rem ls f i).head? := by
  unfold hd rem; simp
theorem rem_adv (ls : List (List Int)) (f : Nat → Nat) (n : Int) (i : Nat) : rem ls (adv ls n f) i = if hd ls f i = some n then (rem ls f i).tail else rem ls f i := by
  unfold rem adv
  split <;> simp
theorem acc_none {ls : List (List Int)} {f : Nat → Nat} : ∀ {p : Nat}, acc ls f p = none → ∀ i, i < p → rem ls f i = []
  | 0, _, i, hi => by omega
  | p + 1, h, i, hi => by
    unfold acc at h
    cases hh : hd ls f p with
    | none =>
      rw [hh] at h
      by_cases e : i = p
      · subst e; rw [hd_rem] at hh; exact List.head?_eq_none_iff.1 hh
      · exact acc_none h i (by omega)
    | some x =>
      rw [hh] at h
      cases ha : acc ls f p with
      | none => rw [ha] at h; cases h
      | some m => rw [ha] at h; simp only at h; split at h <;> cases h
theorem acc_min {ls : List (List Int)} {f : Nat → Nat} {n : Int} : ∀ {p : Nat}, acc ls f p = some n → ∀ i, i < p → ∀ y, hd ls f i = some y → n ≤ y
  | 0, h, i, hi, y, hy => by omega
  | p + 1, h, i, hi, y, hy => by
    unfold acc at h
    cases hh : hd ls f p with
    | none =>
      rw [hh] at h
      by_cases e : i = p
      · subst e; rw [hh] at hy; cases hy
      · exact acc_min h i (by omega) y hy
    | some x =>
      rw [hh] at h
      cases ha : acc ls f p with
      | none =>
        rw [ha] at h; cases h
        by_cases e : i = p
        · subst e; rw [hh] at hy; cases hy; omega
        · have := acc_none ha i (by omega)
          rw [hd_rem, this] at hy; cases hy
      | some m =>
        rw [ha] at h
        simp only at h
        split at h
        · cases h
          by_cases e : i = p
          · subst e; rw [hh] at hy; cases hy; omega
          · have := acc_min ha i (by omega) y hy; omega
        · cases h
          by_cases e : i = p
          · subst e; rw [hh] at hy; cases hy; omega
          · exact acc_min ha i (by omega) y hy

theorem head_mem {l : List Int} (hl : Up l) {n : Int} (hmin : ∀ y, l.head? = some y → n ≤ y) : l.head? = some n ↔ n ∈ l := by
  cases l with
  | nil => simp
  | cons y l =>
    have := hmin y rfl
    obtain ⟨b1, b2⟩ := List.pairwise_cons.1 hl
    simp
    constructor
    · exact fun h => .inl h.symm
    · rintro (h | h)
      · exact h.symm
      · have := b1 n h; omega
theorem ge_head {l : List Int} (hl : Up l) {n x : Int} (hmin : ∀ y, l.head? = some y → n ≤ y) (hx : x ∈ l) : n ≤ x := by
  cases l with
  | nil => cases hx
  | cons y l =>
    have := hmin y rfl
    obtain ⟨b1, b2⟩ := List.pairwise_cons.1 hl
    rcases List.mem_cons.1 hx with rfl | h
    · exact this
    · have := b1 x h; omega
theorem mem_adv {l : List Int} (hl : Up l) {n x : Int} (hmin : ∀ y, l.head? = some y → n ≤ y) : x ∈ (if l.head? = some n then l.tail else l) ↔ x ∈ l ∧ x ≠ n := by
  cases l with
  | nil => simp
  | cons y l =>
    have hm := hmin y rfl
    obtain ⟨b1, b2⟩ := List.pairwise_cons.1 hl
    by_cases e : y = n
    · subst e
      simp
      constructor
      · intro h; have := b1 x h; exact ⟨.inr h, by omega⟩
      · rintro ⟨h | h, h2⟩
        · exact absurd h h2
        · exact h
    · simp [e]
      rintro (h | h)
      · omega
      · have := b1 x h; omega
theorem cnt_occ {ls : List (List Int)} {f : Nat → Nat} {n : Int} : ∀ {p : Nat}, (∀ i, i < p → Up (rem ls f i)) → (∀ i, i < p → ∀ y, hd ls f i = some y → n ≤ y) → cnt ls n f p = occR (rem ls f) n p
  | 0, _, _ => rfl
  | p + 1, h, hm => by
    have := cnt_occ (ls := ls) (f := f) (n := n) (p := p) (fun i hi => h i (by omega)) (fun i hi => hm i (by omega))
    have e : hd ls f p = some n ↔ n ∈ rem ls f p := by rw [hd_rem]; exact head_mem (h p (by omega)) (fun y hy => hm p (by omega) y (by rw [hd_rem]; exact hy))
    simp only [cnt, occR, this, e]

theorem mg_spec (ls : List (List Int)) (k : Int) : ∀ (c : Nat) (f : Nat → Nat), tot ls f ls.length < c → (∀ i, i < ls.length → Up (rem ls f i)) →
    Up (mg ls k c f) ∧ ∀ x, x ∈ mg ls k c f ↔ anyR (rem ls f) x ls.length ∧ k ≤ occR (rem ls f) x ls.length
  | 0, f, h, _ => by omega
  | c + 1, f, h, hup => by
    unfold mg
    cases ha : acc ls f ls.length with
    | none =>
      have hz := acc_none ha
      simp only
      refine ⟨List.Pairwise.nil, fun x => ⟨(fun h => by cases h), ?_⟩⟩
      rintro ⟨⟨i, hi, hx⟩, _⟩
      rw [hz i hi] at hx; cases hx
    | some n =>
      have hmin := acc_min ha
      have hmr : ∀ i, i < ls.length → ∀ y, (rem ls f i).head? = some y → n ≤ y := fun i hi y hy => hmin i hi y (by rw [hd_rem]; exact hy)
      have hup' : ∀ i, i < ls.length → Up (rem ls (adv ls n f) i) := by
        intro i hi
        rw [rem_adv]
        split
        · exact (hup i hi).sublist (List.tail_sublist _)
        · exact hup i hi
      have ht : tot ls (adv ls n f) ls.length < c := by
        obtain ⟨i, hi, hh⟩ := acc_hd ha
        have := tot_adv_lt ls f n ls.length i hi hh
        omega
      obtain ⟨ih1, ih2⟩ := mg_spec ls k c (adv ls n f) ht hup'
      have hmem : ∀ i, i < ls.length → ∀ x, x ∈ rem ls (adv ls n f) i ↔ x ∈ rem ls f i ∧ x ≠ n := by
        intro i hi x
        rw [rem_adv, hd_rem]
        exact mem_adv (hup i hi) (hmr i hi)
      have hany : ∀ x, anyR (rem ls (adv ls n f)) x ls.length ↔ anyR (rem ls f) x ls.length ∧ x ≠ n := by
        intro x
        constructor
        · rintro ⟨i, hi, hx⟩; obtain ⟨a, b⟩ := (hmem i hi x).1 hx; exact ⟨⟨i, hi, a⟩, b⟩
        · rintro ⟨⟨i, hi, hx⟩, b⟩; exact ⟨i, hi, (hmem i hi x).2 ⟨hx, b⟩⟩
      have hocc : ∀ x, x ≠ n → occR (rem ls (adv ls n f)) x ls.length = occR (rem ls f) x ls.length := fun x hx => occR_congr (fun i hi => by rw [hmem i hi x]; simp [hx])
      have hge : ∀ x, x ∈ mg ls k c (adv ls n f) → n < x := by
        intro x hx
        obtain ⟨h1, _⟩ := (ih2 x).1 hx
        obtain ⟨⟨i, hi, h2⟩, h3⟩ := (hany x).1 h1
        have := ge_head (hup i hi) (hmr i hi) h2
        omega
      have hcnt := cnt_occ (n := n) hup hmin
      have hin : anyR (rem ls f) n ls.length := by
        obtain ⟨i, hi, hh⟩ := acc_hd ha
        exact ⟨i, hi, by rw [hd_rem] at hh; exact List.mem_of_head? hh⟩
      simp only
      split
      · rename_i hlt
        refine ⟨ih1, fun x => ?_⟩
        rw [ih2, hany]
        constructor
        · rintro ⟨⟨h1, h2⟩, h3⟩; exact ⟨h1, by rwa [hocc x h2] at h3⟩
        · rintro ⟨h1, h3⟩
          have h2 : x ≠ n := by rintro rfl; omega
          exact ⟨⟨h1, h2⟩, by rwa [hocc x h2]⟩
      · rename_i hlt
        refine ⟨List.pairwise_cons.2 ⟨hge, ih1⟩, fun x => ?_⟩
        rw [List.mem_cons, ih2, hany]
        constructor
        · rintro (rfl | ⟨⟨h1, h2⟩, h3⟩)
          · exact ⟨hin, by omega⟩
          · exact ⟨h1, by rwa [hocc x h2] at h3⟩
        · rintro ⟨h1, h3⟩
          by_cases h2 : x = n
          · exact .inl h2
          · exact .inr ⟨⟨h1, h2⟩, by rwa [hocc x h2]⟩

/-- in how many lists -/
def occ (ls : List (List Int)) (x : Int) : Nat := ls.countP (fun l => decide (x ∈ l))
theorem occR_occ (ls : List (List Int)) (x : Int) : occR (rem ls (fun _ => 0)) x ls.length = occ ls x := by
  have h : ∀ p, p ≤ ls.length → occR (rem ls (fun _ => 0)) x p = (ls.take p).countP (fun l => decide (x ∈ l)) := by
    intro p
    induction p with
    | zero => intro _; simp [occR]
    | succ p ih =>
      intro hp
      have hlt : p < ls.length := by omega
      rw [List.take_succ_eq_append_getElem hlt, List.countP_append, occR, ih (by omega)]
      simp [rem, List.getD_eq_getElem?_getD, hlt, List.countP_singleton]
  rw [h _ (Nat.le_refl _), List.take_length]; rfl
theorem anyR_any (ls : List (List Int)) (x : Int) : anyR (rem ls (fun _ => 0)) x ls.length ↔ ∃ l ∈ ls, x ∈ l := by
  constructor
  · rintro ⟨i, hi, hx⟩
    exact ⟨ls[i], List.getElem_mem hi, by simpa [rem, List.getD_eq_getElem?_getD, hi] using hx⟩
  · rintro ⟨l, hl, hx⟩
    obtain ⟨i, hi, e⟩ := List.getElem_of_mem hl
    exact ⟨i, hi, by simpa [rem, List.getD_eq_getElem?_getD, hi, e] using hx⟩
theorem mostGo_spec (ls : List (List Int)) (k : Int) (h : ∀ l ∈ ls, Up l) : Up (mostGo ls k) ∧ ∀ x, x ∈ mostGo ls k ↔ (∃ l ∈ ls, x ∈ l) ∧ k ≤ occ ls x := by
  have := mg_spec ls k (tot ls (fun _ => 0) ls.length + 1) (fun _ => 0) (by omega) (fun i hi => by
    have : Up (ls.getD i []) := h _ (by simp [List.getD_eq_getElem?_getD, hi])
    simpa [rem] using this)
  refine ⟨this.1, fun x => ?_⟩
  rw [show mostGo ls k = mg ls k (tot ls (fun _ => 0) ls.length + 1) (fun _ => 0) from rfl, this.2, occR_occ, anyR_any]
end Go.Proofs.Ytdjiaooieiboaaa
