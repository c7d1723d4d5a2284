/- Own text: a law's arguments, opened: whole numbers, texts, lists and structs of them, with their sizes. -/
import Derived.Test.YteafilojjdfllaaRows
import Derived.Test.YteafilojjdfllaaHolds
import Derived.Test.YteafilojjdfllaaPAllx0
import Derived.WalkKit
import Derived.ProofKit
import Derived.OpenShut
import Derived.ChangeOld
import Derived.Below
import Derived.Carry
import Derived.SizedLaws
namespace Go.Proofs.Yteafilojjdfllaa
open Go Go.ChangeShapes Go.WideShapes Go.ChangeAt Go.RowKit Go.Proofs.YteafilojjdfllaaW.PrintWords Go.Proofs.Yteafilojjdfllaa.PAll
theorem own : ownKnob Try.prog.godebug = none := by kernel_rfl
theorem laidOut : laidOutB Try.prog = true := by kernel_rfl

/-- below the heap's old size nothing has turned: so all arguments read as they did -/
theorem trodAll_below {H : Type} {enc : TypeId × Value → H} {W W' : World} (hb : Below W.heap.size W W') : ∀ {ts : List TypeId} {vs : List Value} {ds : List (DataW H)} {ps : List MemPlace},
    (∀ t ∈ ts, Try.prog.readableRec t = true ∧ t < Try.prog.types.size) →
    DataW.TrodAll enc Try.prog W 0 (fun _ => true) true ts vs ds ps → DataW.TrodAll enc Try.prog W' 0 (fun b => decide (b < W.heap.size)) true ts vs ds ps
  | [], vs, ds, ps, _, h => by
    obtain ⟨rfl, rfl, rfl⟩ := trodAll_nil h
    exact trodAll_mk0
  | t :: ts, vs, ds, ps, hr, h => by
    obtain ⟨v0, vs0, d0, ds0, p0, q0, rfl, rfl, rfl, h0, r0⟩ := trodAll_cons h
    have ht := hr t (List.mem_cons_self ..)
    refine trodAll_cons_mk (Below.trod laidOut ht.1 ht.2 h0 hb ?_) (trodAll_below hb (fun u hu => hr u (List.mem_cons_of_mem _ hu)) r0)
    obtain ⟨n, hn⟩ := h0
    exact DataW.trod_lt n t _ _ hn

theorem maxLen_eq : maxLen = 9223372036854775807 := by decide
/-- no block is greater -/
abbrev R47 : Nat := 140737488351232
theorem reach47 : reachBytes ≤ R47 := by decide

section
variable {H : Type} {enc : TypeId × Value → H} {W : World}
/-- what a type's cells are -/
def OpN (enc : TypeId × Value → H) (W : World) {α : Type} (d : Kd α) (t : TypeId) (S : α → Prop) (n : Nat) : Prop :=
  ∀ cs x, DataW.trod enc Try.prog W 0 (fun _ => true) true n t cs = some x → (∀ k ∈ x.1.weights Try.prog t, k ≤ R47) → ∃ y, d.K W y cs ∧ S y

theorem op_int {k : IntKind} {t : TypeId} (hu : Try.prog.underlying t = some (.int k)) (n : Nat) : OpN enc W (Kd.int k) t (fun a => (Lit.int k a).wf = true) n := by
  intro cs x h _
  obtain ⟨a, rfl, -, hw⟩ := DataW.trod_int hu h
  exact ⟨a, rfl, hw⟩
theorem op_string {t : TypeId} (hu : Try.prog.underlying t = some .string) (n : Nat) : OpN enc W Kd.string t (fun s => s.size ≤ R47) n := by
  intro cs x h hw
  obtain ⟨s, rfl, rfl, _⟩ := DataW.trod_string hu h
  refine ⟨s, rfl, ?_⟩
  have := hw s.data.toList.length (by simp [DataW.weights])
  rwa [Array.length_toList] at this

theorem weightsAll_mem {P : Program} {e : TypeId} : ∀ {ds : List (DataW H)} {d : DataW H}, d ∈ ds → ∀ n ∈ d.weights P e, n ∈ DataW.weightsAll P e ds
  | d0 :: ds, d, hd, n, hn => by
    simp only [DataW.weightsAll, List.mem_append]
    rcases List.mem_cons.1 hd with rfl | h
    · exact Or.inl hn
    · exact Or.inr (weightsAll_mem h n hn)

theorem op_slice {α : Type} {d : Kd α} {S : α → Prop} {t e B : Nat} (hu : Try.prog.underlying t = some (.slice e)) (hsz : Try.prog.cellsOf e = d.sz) (hB : Try.prog.bytesOf e = B) (n : Nat) (ih : ∀ m, m < n → OpN enc W d e S m) :
    OpN enc W (Kd.slice e d) t (fun l => l.length * B ≤ R47 ∧ l.length ≤ 9223372036854775807 ∧ ∀ y ∈ l, S y) n := by
  intro cs x h hw
  rcases DataW.trod_slice hu h with ⟨rfl, _⟩ | ⟨a, len, cap, elems, rest, m, rfl, rfl, rfl, _, hlc, hcm, hel, hcell, _, _⟩
  · exact ⟨[], ⟨none, 0, rfl, Nat.le_refl _, Kd.C_nil _ _⟩, by simp⟩
  · have hmx := maxLen_eq
    have hpos := hw ((elems.length + rest.length) * B) (by simp [DataW.weights, hu, hB])
    have hlen : len * B ≤ R47 := Nat.le_trans (Nat.mul_le_mul_right _ (by omega)) hpos
    by_cases h0 : len = 0
    · subst h0
      exact ⟨[], ⟨some a, cap, rfl, Nat.zero_le _, ⟨rfl, by simp, fun h => absurd h (Nat.lt_irrefl 0)⟩⟩, by simp⟩
    have hex : ∀ i, i < len → ∃ y cs', d.K W y cs' ∧ S y ∧ ∀ j u, cs'[j]? = some u → W.cell? (a.add (i * d.sz + j)) = some u := by
      intro i hi
      have hc := hcell i hi
      rw [hsz, List.getElem?_eq_getElem (by omega : i < elems.length)] at hc
      obtain ⟨cs', h1, h2⟩ := Option.bind_eq_some_iff.1 hc
      obtain ⟨y, hK, hS⟩ := ih m (Nat.lt_succ_self m) cs' _ h2 (fun k hk => hw k (by
        simp only [DataW.weights, hu, List.mem_cons, List.mem_append]
        exact Or.inr (Or.inl (weightsAll_mem (List.mem_map_of_mem (List.getElem_mem ..)) k hk))))
      refine ⟨y, cs', hK, hS, fun j u hj => ?_⟩
      obtain ⟨q1, q2, q3⟩ := World.cells?_some h1
      have hjl := (List.getElem?_eq_some_iff.1 hj).1
      have := q3 j (by omega)
      rw [hj, Addr.add_add] at this
      exact this
    obtain ⟨y0, _⟩ := hex 0 (by omega)
    have hex2 : ∃ f : Nat → α, ∀ i, i < len → ∃ cs', d.K W (f i) cs' ∧ S (f i) ∧ ∀ j u, cs'[j]? = some u → W.cell? (a.add (i * d.sz + j)) = some u := by
      refine ⟨fun i => if hi : i < len then Classical.choose (hex i hi) else y0, fun i hi => ?_⟩
      simp only [hi, dif_pos]
      exact Classical.choose_spec (hex i hi)
    obtain ⟨f, hf⟩ := hex2
    have hl : ((List.range len).map f).length = len := by simp
    refine ⟨(List.range len).map f, ⟨some a, cap, by rw [hl], by omega, ⟨rfl, by omega, fun _ => ⟨a, rfl, fun j p hj => ?_⟩⟩⟩, by rw [hl]; exact hlen, by omega, ?_⟩
    · have hjl : j < len := by have := (List.getElem?_eq_some_iff.1 hj).1; omega
      obtain ⟨cs', hK, -, hc⟩ := hf j hjl
      have hp : f j = p := by simpa [hjl] using hj
      rw [hp] at hK
      exact ⟨cs', d.K_len hK, hK, hc⟩
    · intro y hy
      obtain ⟨i, hi, rfl⟩ := List.mem_map.1 hy
      obtain ⟨_, _, hS, _⟩ := hf i (List.mem_range.1 hi)
      exact hS

/-- a struct's fields -/
theorem op_fields {t : TypeId} {fs : Array Field} (hu : Try.prog.underlying t = some (.struct fs)) {n : Nat} {cs : List Value} {x : DataW H × List MemPlace} (h : DataW.trod enc Try.prog W 0 (fun _ => true) true n t cs = some x) (hw : ∀ k ∈ x.1.weights Try.prog t, k ≤ R47) :
    ∃ m, n = m + 1 ∧ cs.length = Try.prog.cellsOf t ∧ ∀ (i ft off : Nat), (fs[i]?).map (fun f => (f.type, f.offset)) = some (ft, off) → ∃ y, DataW.trod enc Try.prog W 0 (fun _ => true) true m ft ((cs.drop off).take (Try.prog.cellsOf ft)) = some y ∧ ∀ k ∈ y.1.weights Try.prog ft, k ≤ R47 := by
  obtain ⟨xs, m, rfl, rfl, hl, hxl, hx⟩ := DataW.trod_struct hu h
  refine ⟨m, rfl, hl, fun i ft off hf0 => ?_⟩
  obtain ⟨f, hf, he⟩ := Option.map_eq_some_iff.1 hf0
  obtain ⟨rfl, rfl⟩ := Prod.mk.inj he
  have hi : i < xs.length := by rw [hxl]; exact (Array.getElem?_eq_some_iff.1 hf).1
  refine ⟨xs[i], by rw [hx i f hf, List.getElem?_eq_getElem hi], fun k hk => hw k ?_⟩
  simp only [DataW.weights, hu]
  refine DataW.weights_mem_each (j := i) (t := f.type) (d := xs[i].1) ?_ ?_ k hk
  · have := (Array.getElem?_eq_some_iff.1 hf)
    simp [hf]
  · simp [hi]
end

theorem cells3 : Try.prog.cellsOf 3 = Kd.sz (Kd.int .i64) := by kernel_rfl
theorem cellN3 : Try.prog.cellsOf 3 = 1 := by kernel_rfl
theorem cells9 : Try.prog.cellsOf 9 = Kd.sz Kd.string := by kernel_rfl
theorem cellN9 : Try.prog.cellsOf 9 = 1 := by kernel_rfl
theorem cells31 : Try.prog.cellsOf 31 = Kd.sz (Kd.int .u64) := by kernel_rfl
theorem cellN31 : Try.prog.cellsOf 31 = 1 := by kernel_rfl
theorem cellN22 : Try.prog.cellsOf 22 = 1 := by kernel_rfl
theorem cellN23 : Try.prog.cellsOf 23 = 1 := by kernel_rfl
theorem cellN28 : Try.prog.cellsOf 28 = 1 := by kernel_rfl
theorem cellN29 : Try.prog.cellsOf 29 = 1 := by kernel_rfl
theorem cellN30 : Try.prog.cellsOf 30 = 1 := by kernel_rfl
theorem cells25 : Try.prog.cellsOf 25 = Kd.sz k25 := by kernel_rfl
theorem cellN25 : Try.prog.cellsOf 25 = 5 := by kernel_rfl
theorem cells27 : Try.prog.cellsOf 27 = Kd.sz k27 := by kernel_rfl
theorem cellN27 : Try.prog.cellsOf 27 = 8 := by kernel_rfl
theorem cells33 : Try.prog.cellsOf 33 = Kd.sz k33 := by kernel_rfl
theorem cellN33 : Try.prog.cellsOf 33 = 4 := by kernel_rfl
theorem cells35 : Try.prog.cellsOf 35 = Kd.sz k35 := by kernel_rfl
theorem cellN35 : Try.prog.cellsOf 35 = 6 := by kernel_rfl
theorem cells37 : Try.prog.cellsOf 37 = Kd.sz k37 := by kernel_rfl
theorem cellN37 : Try.prog.cellsOf 37 = 8 := by kernel_rfl
theorem cells58 : Try.prog.cellsOf 58 = Kd.sz k58 := by kernel_rfl
theorem cellN58 : Try.prog.cellsOf 58 = 7 := by kernel_rfl
theorem cells68 : Try.prog.cellsOf 68 = Kd.sz k68 := by kernel_rfl
theorem cellN68 : Try.prog.cellsOf 68 = 2 := by kernel_rfl
theorem cells181 : Try.prog.cellsOf 181 = Kd.sz k181 := by kernel_rfl
theorem cellN181 : Try.prog.cellsOf 181 = 2 := by kernel_rfl
theorem len2 {α : Type} {cs : List α} (h : cs.length = 2) : ∃ c0 c1, cs = [c0, c1] := by
  match cs, h with
  | [c0, c1], _ => exact ⟨c0, c1, rfl⟩
theorem len4 {α : Type} {cs : List α} (h : cs.length = 4) : ∃ c0 c1 c2 c3, cs = [c0, c1, c2, c3] := by
  match cs, h with
  | [c0, c1, c2, c3], _ => exact ⟨c0, c1, c2, c3, rfl⟩
theorem len5 {α : Type} {cs : List α} (h : cs.length = 5) : ∃ c0 c1 c2 c3 c4, cs = [c0, c1, c2, c3, c4] := by
  match cs, h with
  | [c0, c1, c2, c3, c4], _ => exact ⟨c0, c1, c2, c3, c4, rfl⟩
theorem len6 {α : Type} {cs : List α} (h : cs.length = 6) : ∃ c0 c1 c2 c3 c4 c5, cs = [c0, c1, c2, c3, c4, c5] := by
  match cs, h with
  | [c0, c1, c2, c3, c4, c5], _ => exact ⟨c0, c1, c2, c3, c4, c5, rfl⟩
theorem len7 {α : Type} {cs : List α} (h : cs.length = 7) : ∃ c0 c1 c2 c3 c4 c5 c6, cs = [c0, c1, c2, c3, c4, c5, c6] := by
  match cs, h with
  | [c0, c1, c2, c3, c4, c5, c6], _ => exact ⟨c0, c1, c2, c3, c4, c5, c6, rfl⟩
theorem len8 {α : Type} {cs : List α} (h : cs.length = 8) : ∃ c0 c1 c2 c3 c4 c5 c6 c7, cs = [c0, c1, c2, c3, c4, c5, c6, c7] := by
  match cs, h with
  | [c0, c1, c2, c3, c4, c5, c6, c7], _ => exact ⟨c0, c1, c2, c3, c4, c5, c6, c7, rfl⟩
section
variable {H : Type} {enc : TypeId × Value → H} {W : World}
theorem op68 (n : Nat) : OpN enc W k68 68 (fun y => y.f0.size ≤ R47 ∧ y.f1.size ≤ R47) n := by
    intro cs x h hw
    obtain ⟨m, rfl, hl, hx⟩ := op_fields Try.underlying68 h hw
    rw [cellN68] at hl
    obtain ⟨c0, c1, rfl⟩ := len2 hl
    obtain ⟨y0, e0, w0⟩ := hx 0 9 0 rfl
    rw [cellN9] at e0
    obtain ⟨z0, k0, s0⟩ := (op_string Try.underlying9 m) [c0] _ e0 w0
    obtain ⟨y1, e1, w1⟩ := hx 1 9 1 rfl
    rw [cellN9] at e1
    obtain ⟨z1, k1, s1⟩ := (op_string Try.underlying9 m) [c1] _ e1 w1
    exact ⟨⟨z0, z1⟩, ⟨[c0], [c1], rfl, k0, k1⟩, ⟨s0, s1⟩⟩
theorem op181 (n : Nat) : OpN enc W k181 181 (fun _ => True) n := by
    intro cs x h hw
    obtain ⟨m, rfl, hl, hx⟩ := op_fields Try.underlying181 h hw
    rw [cellN181] at hl
    obtain ⟨c0, c1, rfl⟩ := len2 hl
    obtain ⟨y0, e0, w0⟩ := hx 0 3 0 rfl
    rw [cellN3] at e0
    obtain ⟨z0, k0, s0⟩ := (op_int Try.underlying3 m) [c0] _ e0 w0
    obtain ⟨y1, e1, w1⟩ := hx 1 31 1 rfl
    rw [cellN31] at e1
    obtain ⟨z1, k1, s1⟩ := (op_int Try.underlying31 m) [c1] _ e1 w1
    exact ⟨⟨z0, z1⟩, ⟨[c0], [c1], rfl, k0, k1⟩, trivial⟩
theorem op33 (n : Nat) : OpN enc W k33 33 (fun _ => True) n := by
    intro cs x h hw
    obtain ⟨m, rfl, hl, hx⟩ := op_fields Try.underlying33 h hw
    rw [cellN33] at hl
    obtain ⟨c0, c1, c2, c3, rfl⟩ := len4 hl
    obtain ⟨y0, e0, w0⟩ := hx 0 31 0 rfl
    rw [cellN31] at e0
    obtain ⟨z0, k0, s0⟩ := (op_int Try.underlying31 m) [c0] _ e0 w0
    obtain ⟨y1, e1, w1⟩ := hx 1 31 1 rfl
    rw [cellN31] at e1
    obtain ⟨z1, k1, s1⟩ := (op_int Try.underlying31 m) [c1] _ e1 w1
    obtain ⟨y2, e2, w2⟩ := hx 2 31 2 rfl
    rw [cellN31] at e2
    obtain ⟨z2, k2, s2⟩ := (op_int Try.underlying31 m) [c2] _ e2 w2
    obtain ⟨y3, e3, w3⟩ := hx 3 31 3 rfl
    rw [cellN31] at e3
    obtain ⟨z3, k3, s3⟩ := (op_int Try.underlying31 m) [c3] _ e3 w3
    exact ⟨⟨z0, z1, z2, z3⟩, ⟨[c0], [c1, c2, c3], rfl, k0, ⟨[c1], [c2, c3], rfl, k1, ⟨[c2], [c3], rfl, k2, k3⟩⟩⟩, trivial⟩
theorem op25 (n : Nat) : OpN enc W k25 25 (fun _ => True) n := by
  induction n using Nat.strongRecOn with
  | _ n ih =>
    intro cs x h hw
    obtain ⟨m, rfl, hl, hx⟩ := op_fields Try.underlying25 h hw
    rw [cellN25] at hl
    obtain ⟨c0, c1, c2, c3, c4, rfl⟩ := len5 hl
    obtain ⟨y0, e0, w0⟩ := hx 0 3 0 rfl
    rw [cellN3] at e0
    obtain ⟨z0, k0, s0⟩ := (op_int Try.underlying3 m) [c0] _ e0 w0
    obtain ⟨y1, e1, w1⟩ := hx 1 9 1 rfl
    rw [cellN9] at e1
    obtain ⟨z1, k1, s1⟩ := (op_string Try.underlying9 m) [c1] _ e1 w1
    obtain ⟨y2, e2, w2⟩ := hx 2 9 2 rfl
    rw [cellN9] at e2
    obtain ⟨z2, k2, s2⟩ := (op_string Try.underlying9 m) [c2] _ e2 w2
    obtain ⟨y3, e3, w3⟩ := hx 3 22 3 rfl
    rw [cellN22] at e3
    obtain ⟨z3, k3, s3⟩ := (op_slice (B := 16) Try.underlying22 cells9 (by kernel_rfl) m (fun q _ => op_string Try.underlying9 q)) [c3] _ e3 w3
    obtain ⟨y4, e4, w4⟩ := hx 4 23 4 rfl
    rw [cellN23] at e4
    obtain ⟨z4, k4, s4⟩ := (op_slice (B := 88) Try.underlying23 cells25 (by kernel_rfl) m (fun q hq => ih q (Nat.lt_succ_of_lt hq))) [c4] _ e4 w4
    obtain ⟨A3, d3, q3, l3, g3⟩ := k3
    obtain ⟨A4, d4, q4, l4, g4⟩ := k4
    cases k0; cases k1; cases k2; cases q3; cases q4
    exact ⟨⟨z0, z1, z2, z3, z4⟩, k25_mk W ⟨z0, z1, z2, z3, z4⟩ l3 g3 l4 g4, trivial⟩
theorem op27 (n : Nat) : OpN enc W k27 27 (fun y => (Lit.int .i64 y.f0).wf = true ∧ (Lit.int .i64 y.f2).wf = true ∧ (Lit.int .i64 y.f3).wf = true) n := by
    intro cs x h hw
    obtain ⟨m, rfl, hl, hx⟩ := op_fields Try.underlying27 h hw
    rw [cellN27] at hl
    obtain ⟨c0, c1, c2, c3, c4, c5, c6, c7, rfl⟩ := len8 hl
    obtain ⟨y0, e0, w0⟩ := hx 0 3 0 rfl
    rw [cellN3] at e0
    obtain ⟨z0, k0, s0⟩ := (op_int Try.underlying3 m) [c0] _ e0 w0
    obtain ⟨y1, e1, w1⟩ := hx 1 25 1 rfl
    rw [cellN25] at e1
    obtain ⟨z1, k1, s1⟩ := (op25 m) [c1, c2, c3, c4, c5] _ e1 w1
    obtain ⟨y2, e2, w2⟩ := hx 2 3 6 rfl
    rw [cellN3] at e2
    obtain ⟨z2, k2, s2⟩ := (op_int Try.underlying3 m) [c6] _ e2 w2
    obtain ⟨y3, e3, w3⟩ := hx 3 3 7 rfl
    rw [cellN3] at e3
    obtain ⟨z3, k3, s3⟩ := (op_int Try.underlying3 m) [c7] _ e3 w3
    exact ⟨⟨z0, z1, z2, z3⟩, ⟨[c0], [c1, c2, c3, c4, c5, c6, c7], rfl, k0, ⟨[c1, c2, c3, c4, c5], [c6, c7], rfl, k1, ⟨[c6], [c7], rfl, k2, k3⟩⟩⟩, ⟨s0, s2, s3⟩⟩
theorem op35 (n : Nat) : OpN enc W k35 35 (fun y => y.f0.length * 16 ≤ R47 ∧ y.f1.length * 8 ≤ R47) n := by
    intro cs x h hw
    obtain ⟨m, rfl, hl, hx⟩ := op_fields Try.underlying35 h hw
    rw [cellN35] at hl
    obtain ⟨c0, c1, c2, c3, c4, c5, rfl⟩ := len6 hl
    obtain ⟨y0, e0, w0⟩ := hx 0 29 0 rfl
    rw [cellN29] at e0
    obtain ⟨z0, k0, s0⟩ := (op_slice (B := 16) Try.underlying29 cells181 (by kernel_rfl) m (fun q _ => op181 q)) [c0] _ e0 w0
    obtain ⟨y1, e1, w1⟩ := hx 1 30 1 rfl
    rw [cellN30] at e1
    obtain ⟨z1, k1, s1⟩ := (op_slice (B := 8) Try.underlying30 cells31 (by kernel_rfl) m (fun q _ => op_int Try.underlying31 q)) [c1] _ e1 w1
    obtain ⟨y2, e2, w2⟩ := hx 2 33 2 rfl
    rw [cellN33] at e2
    obtain ⟨z2, k2, s2⟩ := (op33 m) [c2, c3, c4, c5] _ e2 w2
    exact ⟨⟨z0, z1, z2⟩, ⟨[c0], [c1, c2, c3, c4, c5], rfl, k0, ⟨[c1], [c2, c3, c4, c5], rfl, k1, k2⟩⟩, ⟨s0.1, s1.1⟩⟩
theorem op37 (n : Nat) : OpN enc W k37 37 (fun y => y.f0.length * 32 ≤ R47 ∧ (Lit.int .i64 y.f1).wf = true ∧ y.f2.f0.length * 16 ≤ R47 ∧ y.f2.f1.length * 8 ≤ R47) n := by
    intro cs x h hw
    obtain ⟨m, rfl, hl, hx⟩ := op_fields Try.underlying37 h hw
    rw [cellN37] at hl
    obtain ⟨c0, c1, c2, c3, c4, c5, c6, c7, rfl⟩ := len8 hl
    obtain ⟨y0, e0, w0⟩ := hx 0 28 0 rfl
    rw [cellN28] at e0
    obtain ⟨z0, k0, s0⟩ := (op_slice (B := 32) Try.underlying28 cells68 (by kernel_rfl) m (fun q _ => op68 q)) [c0] _ e0 w0
    obtain ⟨y1, e1, w1⟩ := hx 1 3 1 rfl
    rw [cellN3] at e1
    obtain ⟨z1, k1, s1⟩ := (op_int Try.underlying3 m) [c1] _ e1 w1
    obtain ⟨y2, e2, w2⟩ := hx 2 35 2 rfl
    rw [cellN35] at e2
    obtain ⟨z2, k2, s2⟩ := (op35 m) [c2, c3, c4, c5, c6, c7] _ e2 w2
    exact ⟨⟨z0, z1, z2⟩, ⟨[c0], [c1, c2, c3, c4, c5, c6, c7], rfl, k0, ⟨[c1], [c2, c3, c4, c5, c6, c7], rfl, k1, k2⟩⟩, ⟨s0.1, s1, s2.1, s2.2⟩⟩
theorem op58 (n : Nat) : OpN enc W k58 58 (fun y => (Lit.int .i64 y.f2).wf = true ∧ (Lit.int .i64 y.f5).wf = true) n := by
    intro cs x h hw
    obtain ⟨m, rfl, hl, hx⟩ := op_fields Try.underlying58 h hw
    rw [cellN58] at hl
    obtain ⟨c0, c1, c2, c3, c4, c5, c6, rfl⟩ := len7 hl
    obtain ⟨y0, e0, w0⟩ := hx 0 3 0 rfl
    rw [cellN3] at e0
    obtain ⟨z0, k0, s0⟩ := (op_int Try.underlying3 m) [c0] _ e0 w0
    obtain ⟨y1, e1, w1⟩ := hx 1 3 1 rfl
    rw [cellN3] at e1
    obtain ⟨z1, k1, s1⟩ := (op_int Try.underlying3 m) [c1] _ e1 w1
    obtain ⟨y2, e2, w2⟩ := hx 2 3 2 rfl
    rw [cellN3] at e2
    obtain ⟨z2, k2, s2⟩ := (op_int Try.underlying3 m) [c2] _ e2 w2
    obtain ⟨y3, e3, w3⟩ := hx 3 3 3 rfl
    rw [cellN3] at e3
    obtain ⟨z3, k3, s3⟩ := (op_int Try.underlying3 m) [c3] _ e3 w3
    obtain ⟨y4, e4, w4⟩ := hx 4 3 4 rfl
    rw [cellN3] at e4
    obtain ⟨z4, k4, s4⟩ := (op_int Try.underlying3 m) [c4] _ e4 w4
    obtain ⟨y5, e5, w5⟩ := hx 5 3 5 rfl
    rw [cellN3] at e5
    obtain ⟨z5, k5, s5⟩ := (op_int Try.underlying3 m) [c5] _ e5 w5
    obtain ⟨y6, e6, w6⟩ := hx 6 3 6 rfl
    rw [cellN3] at e6
    obtain ⟨z6, k6, s6⟩ := (op_int Try.underlying3 m) [c6] _ e6 w6
    exact ⟨⟨z0, z1, z2, z3, z4, z5, z6⟩, ⟨[c0], [c1, c2, c3, c4, c5, c6], rfl, k0, ⟨[c1], [c2, c3, c4, c5, c6], rfl, k1, ⟨[c2], [c3, c4, c5, c6], rfl, k2, ⟨[c3], [c4, c5, c6], rfl, k3, ⟨[c4], [c5, c6], rfl, k4, ⟨[c5], [c6], rfl, k5, k6⟩⟩⟩⟩⟩⟩, ⟨s2, s5⟩⟩
end
section
variable {H : Type} {enc : TypeId × Value → H} {W : World} {base : Nat} {v : Value} {d : DataW H} {p : List MemPlace}
set_option maxRecDepth 100000 in
theorem hw_of {ts : List TypeId} {ds : List (DataW H)} {j : Nat} {t : TypeId} {d : DataW H} (hsz : (DataW.weightsEach Try.prog ts ds).all (· ≤ reachBytes) = true) (ht : ts[j]? = some t) (hd : ds[j]? = some d) : ∀ k ∈ d.weights Try.prog t, k ≤ R47 :=
  fun k hk => Nat.le_trans (of_decide_eq_true (List.all_eq_true.1 hsz _ (DataW.weights_mem_each ht hd k hk))) reach47
set_option maxRecDepth 100000 in
theorem open_m (hv : Value.okWide Try.prog W .any base 25 v) (h : DataW.Trod enc Try.prog W 0 (fun _ => true) true 25 v d p) (hw : ∀ k ∈ d.weights Try.prog 25, k ≤ R47) :
    ∃ (m : S25) (A3 : Option Addr) (c3 : Nat) (A4 : Option Addr) (c4 : Nat), v = .agg #[.int .i64 m.f0, .string m.f1, .string m.f2, .slice A3 m.f3.length c3, .slice A4 m.f4.length c4] ∧ MC W m A3 c3 A4 c4 := by
  obtain ⟨cs, rfl, hsz⟩ := okWide_struct Try.underlying25 hv
  obtain ⟨fuel, hf⟩ := h
  obtain ⟨y, hK, -⟩ := op25 fuel cs.toList _ (by simpa [Value.cells] using hf) hw
  obtain ⟨A3, c3, A4, c4, e, l3, g3, l4, g4⟩ := k25_open hK
  exact ⟨y, A3, c3, A4, c4, by cases cs; simp only at e; rw [e], ⟨l3, g3, l4, g4⟩⟩
set_option maxRecDepth 100000 in
theorem open_t (hv : Value.okWide Try.prog W .any base 27 v) (h : DataW.Trod enc Try.prog W 0 (fun _ => true) true 27 v d p) (hw : ∀ k ∈ d.weights Try.prog 27, k ≤ R47) :
    ∃ (x : S27) (A3 : Option Addr) (c3 : Nat) (A4 : Option Addr) (c4 : Nat), v = .agg #[.int .i64 x.f0, .int .i64 x.f1.f0, .string x.f1.f1, .string x.f1.f2, .slice A3 x.f1.f3.length c3, .slice A4 x.f1.f4.length c4, .int .i64 x.f2, .int .i64 x.f3] ∧ MC W x.f1 A3 c3 A4 c4 := by
  obtain ⟨cs, rfl, hsz⟩ := okWide_struct Try.underlying27 hv
  obtain ⟨fuel, hf⟩ := h
  obtain ⟨y, hK, -⟩ := op27 fuel cs.toList _ (by simpa [Value.cells] using hf) hw
  obtain ⟨A3, c3, A4, c4, e, l3, g3, l4, g4⟩ := k27_open hK
  exact ⟨y, A3, c3, A4, c4, by cases cs; simp only at e; rw [e], ⟨l3, g3, l4, g4⟩⟩
set_option maxRecDepth 100000 in
theorem open_r (hv : Value.okWide Try.prog W .any base 37 v) (h : DataW.Trod enc Try.prog W 0 (fun _ => true) true 37 v d p) (hw : ∀ k ∈ d.weights Try.prog 37, k ≤ R47) :
    ∃ (x : S37) (A0 : Option Addr) (c0 : Nat) (A5 : Option Addr) (c5 : Nat) (A6 : Option Addr) (c6 : Nat), v = .agg #[.slice A0 x.f0.length c0, .int .i64 x.f1, .slice A5 x.f2.f0.length c5, .slice A6 x.f2.f1.length c6, .int .u64 x.f2.f2.f0, .int .u64 x.f2.f2.f1, .int .u64 x.f2.f2.f2, .int .u64 x.f2.f2.f3] ∧
      (x.f0.length ≤ c0 ∧ Kd.C k68 W A0 x.f0.length x.f0 ∧ x.f2.f0.length ≤ c5 ∧ Kd.C k181 W A5 x.f2.f0.length x.f2.f0 ∧ x.f2.f1.length ≤ c6 ∧ Kd.C (Kd.int .u64) W A6 x.f2.f1.length x.f2.f1) ∧ (x.f0.length * 32 ≤ R47 ∧ x.f2.f0.length * 16 ≤ R47 ∧ x.f2.f1.length * 8 ≤ R47) := by
  obtain ⟨cs, rfl, hsz⟩ := okWide_struct Try.underlying37 hv
  obtain ⟨fuel, hf⟩ := h
  obtain ⟨y, hK, s0, -, s2, s3⟩ := op37 fuel cs.toList _ (by simpa [Value.cells] using hf) hw
  obtain ⟨A0, c0, A2, c2, A3, c3, e, l0, g0, l2, g2, l3, g3⟩ := k37_open hK
  exact ⟨y, A0, c0, A2, c2, A3, c3, by cases cs; simp only at e; rw [e], ⟨l0, g0, l2, g2, l3, g3⟩, s0, s2, s3⟩
set_option maxRecDepth 100000 in
/-- a list -/
theorem open_sl {α : Type} {dk : Kd α} {S : α → Prop} {t e B : Nat} (hu : Try.prog.underlying t = some (.slice e)) (hsz : Try.prog.cellsOf e = dk.sz) (hB : Try.prog.bytesOf e = B) (op : ∀ n, OpN enc W dk e S n)
    (hv : Value.okWide Try.prog W .any base t v) (h : DataW.Trod enc Try.prog W 0 (fun _ => true) true t v d p) (hw : ∀ k ∈ d.weights Try.prog t, k ≤ R47) :
    ∃ (A : Option Addr) (c : Nat) (l : List α), v = .slice A l.length c ∧ l.length ≤ c ∧ Kd.C dk W A l.length l ∧ l.length * B ≤ R47 ∧ l.length ≤ 9223372036854775807 ∧ ∀ y ∈ l, S y := by
  obtain ⟨a, len, cap, rfl⟩ := okWide_slice hu hv
  obtain ⟨fuel, hf⟩ := h
  obtain ⟨y, hK, s1, s2, s3⟩ := op_slice hu hsz hB fuel (fun m _ => op m) [.slice a len cap] _ (by simpa [Value.cells] using hf) hw
  obtain ⟨A, c, e, hl, hC⟩ := hK
  exact ⟨A, c, y, (List.cons.inj e).1, hl, hC, s1, s2, s3⟩
set_option maxRecDepth 100000 in
theorem open_str (hv : Value.okWide Try.prog W .any base 9 v) (h : DataW.Trod enc Try.prog W 0 (fun _ => true) true 9 v d p) (hw : ∀ k ∈ d.weights Try.prog 9, k ≤ R47) : ∃ s : ByteArray, v = .string s ∧ s.size ≤ R47 := by
  obtain ⟨s, rfl⟩ := okWide_string Try.underlying9 hv
  obtain ⟨fuel, hf⟩ := h
  obtain ⟨y, hK, hs⟩ := op_string (W := W) Try.underlying9 fuel [.string s] _ (by simpa [Value.cells] using hf) hw
  have e : [Value.string s] = [Value.string y] := hK
  simp only [List.cons.injEq, Value.string.injEq, and_true] at e
  exact ⟨s, rfl, e ▸ hs⟩
end
end Go.Proofs.Yteafilojjdfllaa
