/- Own text: a matcher in new memory reads as it did. -/
import Derived.Test.YteafilojjdfllaaTiny
namespace Go.Proofs.Yteafilojjdfllaa
open Go Go.RowKit Go.Proofs.YteafilojjdfllaaW.PrintWords Go.Proofs.YteafilojjdfllaaW.PrintLast Go.Proofs.YteafilojjdfllaaW.PrintMore Go.Proofs.Yteafilojjdfllaa.PAll

theorem infoM : (Try.prog.info? 25).map (fun i => (i.zero, i.size, i.bytes)) = some (some (.agg #[.int .i64 0, .string ⟨#[]⟩, .string ⟨#[]⟩, .slice none 0 0, .slice none 0 0]), 5, 88) := by kernel_rfl
theorem infoS : (Try.prog.info? 9).map (fun i => (i.zero, i.size, i.bytes)) = some (some (.string ByteArray.empty), 1, 16) := by kernel_rfl

theorem own_move {W X : World} {base : Nat} {e : TypeId} {size n : Nat} {v : Value} {xs : List Value} (h : W.ownsRow base e size v n xs) (hm : ∀ k, v.ownBlock = some k → X.heap[k]? = W.heap[k]?) : X.ownsRow base e size v n xs := by
  refine ⟨h.1, ?_⟩
  rcases h.2 with hn | ⟨g, cap, cur, e', hb, hg, rest⟩
  · exact .inl hn
  · exact .inr ⟨g, cap, cur, e', hb, (hm g (by rw [e']; rfl)).trans hg, rest⟩

/-- it reads so in every world that has these blocks -/
def MF (W : World) (S : Nat → Prop) (m : S25) (A3 : Option Addr) (c3 : Nat) (A4 : Option Addr) (c4 : Nat) : Prop :=
  ∀ X : World, (∀ b, S b → X.heap[b]? = W.heap[b]?) → MC X m A3 c3 A4 c4
theorem MF.now {W : World} {S : Nat → Prop} {m : S25} {A3 : Option Addr} {c3 : Nat} {A4 : Option Addr} {c4 : Nat} (h : MF W S m A3 c3 A4 c4) : MC W m A3 c3 A4 c4 := h W (fun _ _ => rfl)
theorem MF.move {W Y : World} {S T : Nat → Prop} {m : S25} {A3 : Option Addr} {c3 : Nat} {A4 : Option Addr} {c4 : Nat} (h : MF W S m A3 c3 A4 c4) (hS : ∀ b, S b → T b ∧ Y.heap[b]? = W.heap[b]?) : MF Y T m A3 c3 A4 c4 :=
  fun X hX => h X (fun b hb => (hX b (hS b hb).1).trans (hS b hb).2)

/-- a kid's cells in the row -/
def KR (W : World) (S : Nat → Prop) (m : S25) (cs : List Value) : Prop :=
  ∃ A3 c3 A4 c4, cs = [.int .i64 m.f0, .string m.f1, .string m.f2, .slice A3 m.f3.length c3, .slice A4 m.f4.length c4] ∧ MF W S m A3 c3 A4 c4
theorem KR.move {W Y : World} {S T : Nat → Prop} {m : S25} {cs : List Value} (h : KR W S m cs) (hS : ∀ b, S b → T b ∧ Y.heap[b]? = W.heap[b]?) : KR Y T m cs := by
  obtain ⟨A3, c3, A4, c4, e, hm⟩ := h
  exact ⟨A3, c3, A4, c4, e, hm.move hS⟩
/-- the blocks from lo on, but for the row's own -/
def Part (lo : Nat) (W : World) (v : Value) (b : Nat) : Prop := lo ≤ b ∧ b < W.heap.size ∧ v.ownBlock ≠ some b

theorem len_nodes : ∀ (ks : List S25), ks.length ≤ nodesL ks
  | [] => by simp [nodesL]
  | k :: ks => by have := len_nodes ks; have h2 := nodesM_mk k; simp only [List.length_cons, nodesL]; omega
theorem depth_kid : ∀ {ks : List S25} {j : Nat}, j < ks.length → depthM (ks.getD j z25) ≤ depthL ks
  | k :: ks, 0, _ => by simp only [List.getD_cons_zero, depthL]; omega
  | k :: ks, j + 1, h => by have := depth_kid (ks := ks) (j := j) (by simpa using h); simp only [List.getD_cons_succ, depthL]; omega
theorem nodes_kid : ∀ {ks : List S25} {j : Nat}, j < ks.length → nodesM (ks.getD j z25) ≤ nodesL ks
  | k :: ks, 0, _ => by simp only [List.getD_cons_zero, nodesL]; omega
  | k :: ks, j + 1, h => by have := nodes_kid (ks := ks) (j := j) (by simpa using h); simp only [List.getD_cons_succ, nodesL]; omega
theorem wideL_at : ∀ {ks : List S25} {j : Nat}, wideL ks → j < ks.length → wideM (ks.getD j z25)
  | k :: ks, 0, h, _ => h.1
  | k :: ks, j + 1, h, hj => by have := wideL_at (j := j) h.2 (by simpa using hj); simpa using this

/-- a matcher in new memory -/
def CopyPost (w : World) (m : S25) (e : Ending) (w' : World) : Prop :=
  ∃ A3 c3 A4 c4, e = .returned (.agg #[.int .i64 m.f0, .string m.f1, .string m.f2, .slice A3 m.f3.length c3, .slice A4 m.f4.length c4]) ∧ MF w' (fun b => w.heap.size ≤ b ∧ b < w'.heap.size) m A3 c3 A4 c4 ∧ Below w.heap.size w w'

/-- out of the two rows, the whole -/
theorem MF.of_rows {W : World} {lo lo' : Nat} {m : S25} {v3 v4 : Value} {cells : List Value} (h3 : W.ownsRow lo 9 1 v3 m.f3.length (encs Value.string m.f3)) (h4 : W.ownsRow lo 25 5 v4 m.f4.length cells) (hR : Reps (KR W (Part lo W v4)) 5 m.f4 cells) (hlo : lo' ≤ lo) :
    ∃ A3 c3 A4 c4, v3 = .slice A3 m.f3.length c3 ∧ v4 = .slice A4 m.f4.length c4 ∧ MF W (fun b => lo' ≤ b ∧ b < W.heap.size) m A3 c3 A4 c4 := by
  obtain ⟨A3, c3, e3, hc3, -⟩ := own_reads_of_le (enc := Value.string) (d := ByteArray.empty) h3
  obtain ⟨A4, c4, e4, -⟩ := own_reads_row h4 (hR.imp_ (fun p c (h : KR W (Part lo W v4) p c) => h)) rfl
  have hc4 : m.f4.length ≤ c4 := by
    rcases h4.2 with ⟨hv, h0⟩ | ⟨g, cap, cur, hv, _, _, hcap, _⟩
    · rw [e4] at hv; omega
    · rw [e4] at hv; cases hv; exact hcap
  refine ⟨A3, c3, A4, c4, e3, e4, fun X hX => ?_⟩
  have g3 : X.ownsRow lo 9 1 v3 m.f3.length (encs Value.string m.f3) := own_move h3 (fun k hk => hX k ⟨by have := (h3.lt _ hk).1; omega, (h3.lt _ hk).2⟩)
  have g4 : X.ownsRow lo 25 5 v4 m.f4.length cells := own_move h4 (fun k hk => hX k ⟨by have := (h4.lt _ hk).1; omega, (h4.lt _ hk).2⟩)
  obtain ⟨B3, d3, f3, -, hr3⟩ := own_reads_of_le (enc := Value.string) (d := ByteArray.empty) g3
  have hK : Reps (k25.K X) 5 m.f4 cells := hR.imp_ (fun p c ⟨B3, d3, B4, d4, ec, hm⟩ => by
    obtain ⟨q1, q2, q3, q4⟩ := hm X (fun b hb => hX b ⟨by have := hb.1; omega, hb.2.1⟩)
    rw [ec]
    exact k25_mk X p q1 q2 q3 q4)
  obtain ⟨B4, d4, f4, hr4⟩ := own_reads_row g4 hK rfl
  rw [e3] at f3; cases f3
  rw [e4] at f4; cases f4
  exact ⟨hc3, Kd.C_of_reads hr3, hc4, hr4⟩
end Go.Proofs.Yteafilojjdfllaa
