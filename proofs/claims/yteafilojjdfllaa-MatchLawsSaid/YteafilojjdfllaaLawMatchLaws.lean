/- Own text: the law MatchLaws, walked. -/
import Derived.Test.YteafilojjdfllaaMLawB
namespace Go.Proofs.Yteafilojjdfllaa
open Go Go.RowKit Go.Proofs.YteafilojjdfllaaW.PrintWords Go.Proofs.YteafilojjdfllaaW.PrintLast Go.Proofs.YteafilojjdfllaaW.PrintMore Go.Proofs.Yteafilojjdfllaa.PAll
set_option linter.unusedSimpArgs false

/-- the three matchers made of two -/
theorem laws_world (W : World) (m n : S25) (A3 : Option Addr) (c3 : Nat) (A4 : Option Addr) (c4 : Nat) (B3 : Option Addr) (b3 : Nat) (B4 : Option Addr) (b4 : Nat) (hM : MC W m A3 c3 A4 c4) (hN : MC W n B3 b3 B4 b4) :
    ∃ V : World, ((((((W.alloc (.cells #[.int .i64 m.f0, .string m.f1, .string m.f2, .slice A3 m.f3.length c3, .slice A4 m.f4.length c4] 25)).alloc (.cells #[.int .i64 7, .string ⟨#[]⟩, .string ⟨#[]⟩, .slice none 0 0, .slice (some ⟨W.heap.size, 0, none⟩) 1 1] 25)).alloc (.cells #[.int .i64 m.f0, .string m.f1, .string m.f2, .slice A3 m.f3.length c3, .slice A4 m.f4.length c4, .int .i64 n.f0, .string n.f1, .string n.f2, .slice B3 n.f3.length b3, .slice B4 n.f4.length b4] 25)).alloc (.cells #[.int .i64 5, .string ⟨#[]⟩, .string ⟨#[]⟩, .slice none 0 0, .slice (some ⟨W.heap.size + 1 + 1, 0, none⟩) 2 2] 25)).alloc (.cells #[.int .i64 m.f0, .string m.f1, .string m.f2, .slice A3 m.f3.length c3, .slice A4 m.f4.length c4, .int .i64 n.f0, .string n.f1, .string n.f2, .slice B3 n.f3.length b3, .slice B4 n.f4.length b4] 25)).alloc (.cells #[.int .i64 6, .string ⟨#[]⟩, .string ⟨#[]⟩, .slice none 0 0, .slice (some ⟨W.heap.size + 1 + 1 + 1 + 1, 0, none⟩) 2 2] 25)) = V ∧ Below W.heap.size W V ∧ (MC V ⟨7, ⟨#[]⟩, ⟨#[]⟩, [], [m]⟩ none 0 (some ⟨W.heap.size, 0, none⟩) 1 ∧ MC V ⟨5, ⟨#[]⟩, ⟨#[]⟩, [], [m, n]⟩ none 0 (some ⟨W.heap.size + 1 + 1, 0, none⟩) 2 ∧ MC V ⟨6, ⟨#[]⟩, ⟨#[]⟩, [], [m, n]⟩ none 0 (some ⟨W.heap.size + 1 + 1 + 1 + 1, 0, none⟩) 2) ∧
      BoxM V (W.heap.size + 1) 7 ⟨#[]⟩ ⟨#[]⟩ (.slice none 0 0) (.slice (some ⟨W.heap.size, 0, none⟩) 1 1) ∧ BoxM V (W.heap.size + 1 + 1 + 1) 5 ⟨#[]⟩ ⟨#[]⟩ (.slice none 0 0) (.slice (some ⟨W.heap.size + 1 + 1, 0, none⟩) 2 2) ∧ BoxM V (W.heap.size + 1 + 1 + 1 + 1 + 1) 6 ⟨#[]⟩ ⟨#[]⟩ (.slice none 0 0) (.slice (some ⟨W.heap.size + 1 + 1 + 1 + 1, 0, none⟩) 2 2) := by
  have hb : Below W.heap.size W (W.alloc (.cells #[.int .i64 m.f0, .string m.f1, .string m.f2, .slice A3 m.f3.length c3, .slice A4 m.f4.length c4] 25)) ∧ Below W.heap.size W ((W.alloc (.cells #[.int .i64 m.f0, .string m.f1, .string m.f2, .slice A3 m.f3.length c3, .slice A4 m.f4.length c4] 25)).alloc (.cells #[.int .i64 7, .string ⟨#[]⟩, .string ⟨#[]⟩, .slice none 0 0, .slice (some ⟨W.heap.size, 0, none⟩) 1 1] 25)) ∧ Below W.heap.size W (((W.alloc (.cells #[.int .i64 m.f0, .string m.f1, .string m.f2, .slice A3 m.f3.length c3, .slice A4 m.f4.length c4] 25)).alloc (.cells #[.int .i64 7, .string ⟨#[]⟩, .string ⟨#[]⟩, .slice none 0 0, .slice (some ⟨W.heap.size, 0, none⟩) 1 1] 25)).alloc (.cells #[.int .i64 m.f0, .string m.f1, .string m.f2, .slice A3 m.f3.length c3, .slice A4 m.f4.length c4, .int .i64 n.f0, .string n.f1, .string n.f2, .slice B3 n.f3.length b3, .slice B4 n.f4.length b4] 25)) ∧ Below W.heap.size W ((((W.alloc (.cells #[.int .i64 m.f0, .string m.f1, .string m.f2, .slice A3 m.f3.length c3, .slice A4 m.f4.length c4] 25)).alloc (.cells #[.int .i64 7, .string ⟨#[]⟩, .string ⟨#[]⟩, .slice none 0 0, .slice (some ⟨W.heap.size, 0, none⟩) 1 1] 25)).alloc (.cells #[.int .i64 m.f0, .string m.f1, .string m.f2, .slice A3 m.f3.length c3, .slice A4 m.f4.length c4, .int .i64 n.f0, .string n.f1, .string n.f2, .slice B3 n.f3.length b3, .slice B4 n.f4.length b4] 25)).alloc (.cells #[.int .i64 5, .string ⟨#[]⟩, .string ⟨#[]⟩, .slice none 0 0, .slice (some ⟨W.heap.size + 1 + 1, 0, none⟩) 2 2] 25)) ∧ Below W.heap.size W (((((W.alloc (.cells #[.int .i64 m.f0, .string m.f1, .string m.f2, .slice A3 m.f3.length c3, .slice A4 m.f4.length c4] 25)).alloc (.cells #[.int .i64 7, .string ⟨#[]⟩, .string ⟨#[]⟩, .slice none 0 0, .slice (some ⟨W.heap.size, 0, none⟩) 1 1] 25)).alloc (.cells #[.int .i64 m.f0, .string m.f1, .string m.f2, .slice A3 m.f3.length c3, .slice A4 m.f4.length c4, .int .i64 n.f0, .string n.f1, .string n.f2, .slice B3 n.f3.length b3, .slice B4 n.f4.length b4] 25)).alloc (.cells #[.int .i64 5, .string ⟨#[]⟩, .string ⟨#[]⟩, .slice none 0 0, .slice (some ⟨W.heap.size + 1 + 1, 0, none⟩) 2 2] 25)).alloc (.cells #[.int .i64 m.f0, .string m.f1, .string m.f2, .slice A3 m.f3.length c3, .slice A4 m.f4.length c4, .int .i64 n.f0, .string n.f1, .string n.f2, .slice B3 n.f3.length b3, .slice B4 n.f4.length b4] 25)) ∧ Below W.heap.size W ((((((W.alloc (.cells #[.int .i64 m.f0, .string m.f1, .string m.f2, .slice A3 m.f3.length c3, .slice A4 m.f4.length c4] 25)).alloc (.cells #[.int .i64 7, .string ⟨#[]⟩, .string ⟨#[]⟩, .slice none 0 0, .slice (some ⟨W.heap.size, 0, none⟩) 1 1] 25)).alloc (.cells #[.int .i64 m.f0, .string m.f1, .string m.f2, .slice A3 m.f3.length c3, .slice A4 m.f4.length c4, .int .i64 n.f0, .string n.f1, .string n.f2, .slice B3 n.f3.length b3, .slice B4 n.f4.length b4] 25)).alloc (.cells #[.int .i64 5, .string ⟨#[]⟩, .string ⟨#[]⟩, .slice none 0 0, .slice (some ⟨W.heap.size + 1 + 1, 0, none⟩) 2 2] 25)).alloc (.cells #[.int .i64 m.f0, .string m.f1, .string m.f2, .slice A3 m.f3.length c3, .slice A4 m.f4.length c4, .int .i64 n.f0, .string n.f1, .string n.f2, .slice B3 n.f3.length b3, .slice B4 n.f4.length b4] 25)).alloc (.cells #[.int .i64 6, .string ⟨#[]⟩, .string ⟨#[]⟩, .slice none 0 0, .slice (some ⟨W.heap.size + 1 + 1 + 1 + 1, 0, none⟩) 2 2] 25)) :=
    ⟨below_alloc (Below.refl _ _) _, below_alloc (below_alloc (Below.refl _ _) _) _, below_alloc (below_alloc (below_alloc (Below.refl _ _) _) _) _, below_alloc (below_alloc (below_alloc (below_alloc (Below.refl _ _) _) _) _) _, below_alloc (below_alloc (below_alloc (below_alloc (below_alloc (Below.refl _ _) _) _) _) _) _, below_alloc (below_alloc (below_alloc (below_alloc (below_alloc (below_alloc (Below.refl _ _) _) _) _) _) _) _⟩
  obtain ⟨hb1, hb2, hb3, hb4, hb5, hb6⟩ := hb
  have s1 : (W.alloc (.cells #[.int .i64 m.f0, .string m.f1, .string m.f2, .slice A3 m.f3.length c3, .slice A4 m.f4.length c4] 25)).heap.size = W.heap.size + 1 := by simp
  have s2 : ((W.alloc (.cells #[.int .i64 m.f0, .string m.f1, .string m.f2, .slice A3 m.f3.length c3, .slice A4 m.f4.length c4] 25)).alloc (.cells #[.int .i64 7, .string ⟨#[]⟩, .string ⟨#[]⟩, .slice none 0 0, .slice (some ⟨W.heap.size, 0, none⟩) 1 1] 25)).heap.size = W.heap.size + 1 + 1 := by simp
  have s3 : (((W.alloc (.cells #[.int .i64 m.f0, .string m.f1, .string m.f2, .slice A3 m.f3.length c3, .slice A4 m.f4.length c4] 25)).alloc (.cells #[.int .i64 7, .string ⟨#[]⟩, .string ⟨#[]⟩, .slice none 0 0, .slice (some ⟨W.heap.size, 0, none⟩) 1 1] 25)).alloc (.cells #[.int .i64 m.f0, .string m.f1, .string m.f2, .slice A3 m.f3.length c3, .slice A4 m.f4.length c4, .int .i64 n.f0, .string n.f1, .string n.f2, .slice B3 n.f3.length b3, .slice B4 n.f4.length b4] 25)).heap.size = W.heap.size + 1 + 1 + 1 := by simp
  have s4 : ((((W.alloc (.cells #[.int .i64 m.f0, .string m.f1, .string m.f2, .slice A3 m.f3.length c3, .slice A4 m.f4.length c4] 25)).alloc (.cells #[.int .i64 7, .string ⟨#[]⟩, .string ⟨#[]⟩, .slice none 0 0, .slice (some ⟨W.heap.size, 0, none⟩) 1 1] 25)).alloc (.cells #[.int .i64 m.f0, .string m.f1, .string m.f2, .slice A3 m.f3.length c3, .slice A4 m.f4.length c4, .int .i64 n.f0, .string n.f1, .string n.f2, .slice B3 n.f3.length b3, .slice B4 n.f4.length b4] 25)).alloc (.cells #[.int .i64 5, .string ⟨#[]⟩, .string ⟨#[]⟩, .slice none 0 0, .slice (some ⟨W.heap.size + 1 + 1, 0, none⟩) 2 2] 25)).heap.size = W.heap.size + 1 + 1 + 1 + 1 := by simp
  have s5 : (((((W.alloc (.cells #[.int .i64 m.f0, .string m.f1, .string m.f2, .slice A3 m.f3.length c3, .slice A4 m.f4.length c4] 25)).alloc (.cells #[.int .i64 7, .string ⟨#[]⟩, .string ⟨#[]⟩, .slice none 0 0, .slice (some ⟨W.heap.size, 0, none⟩) 1 1] 25)).alloc (.cells #[.int .i64 m.f0, .string m.f1, .string m.f2, .slice A3 m.f3.length c3, .slice A4 m.f4.length c4, .int .i64 n.f0, .string n.f1, .string n.f2, .slice B3 n.f3.length b3, .slice B4 n.f4.length b4] 25)).alloc (.cells #[.int .i64 5, .string ⟨#[]⟩, .string ⟨#[]⟩, .slice none 0 0, .slice (some ⟨W.heap.size + 1 + 1, 0, none⟩) 2 2] 25)).alloc (.cells #[.int .i64 m.f0, .string m.f1, .string m.f2, .slice A3 m.f3.length c3, .slice A4 m.f4.length c4, .int .i64 n.f0, .string n.f1, .string n.f2, .slice B3 n.f3.length b3, .slice B4 n.f4.length b4] 25)).heap.size = W.heap.size + 1 + 1 + 1 + 1 + 1 := by simp
  have h0 := blk_new W (.cells #[.int .i64 m.f0, .string m.f1, .string m.f2, .slice A3 m.f3.length c3, .slice A4 m.f4.length c4] 25)
  have h1 := blk_new (W.alloc (.cells #[.int .i64 m.f0, .string m.f1, .string m.f2, .slice A3 m.f3.length c3, .slice A4 m.f4.length c4] 25)) (.cells #[.int .i64 7, .string ⟨#[]⟩, .string ⟨#[]⟩, .slice none 0 0, .slice (some ⟨W.heap.size, 0, none⟩) 1 1] 25)
  rw [s1] at h1
  have h2 := blk_new ((W.alloc (.cells #[.int .i64 m.f0, .string m.f1, .string m.f2, .slice A3 m.f3.length c3, .slice A4 m.f4.length c4] 25)).alloc (.cells #[.int .i64 7, .string ⟨#[]⟩, .string ⟨#[]⟩, .slice none 0 0, .slice (some ⟨W.heap.size, 0, none⟩) 1 1] 25)) (.cells #[.int .i64 m.f0, .string m.f1, .string m.f2, .slice A3 m.f3.length c3, .slice A4 m.f4.length c4, .int .i64 n.f0, .string n.f1, .string n.f2, .slice B3 n.f3.length b3, .slice B4 n.f4.length b4] 25)
  rw [s2] at h2
  have h3 := blk_new (((W.alloc (.cells #[.int .i64 m.f0, .string m.f1, .string m.f2, .slice A3 m.f3.length c3, .slice A4 m.f4.length c4] 25)).alloc (.cells #[.int .i64 7, .string ⟨#[]⟩, .string ⟨#[]⟩, .slice none 0 0, .slice (some ⟨W.heap.size, 0, none⟩) 1 1] 25)).alloc (.cells #[.int .i64 m.f0, .string m.f1, .string m.f2, .slice A3 m.f3.length c3, .slice A4 m.f4.length c4, .int .i64 n.f0, .string n.f1, .string n.f2, .slice B3 n.f3.length b3, .slice B4 n.f4.length b4] 25)) (.cells #[.int .i64 5, .string ⟨#[]⟩, .string ⟨#[]⟩, .slice none 0 0, .slice (some ⟨W.heap.size + 1 + 1, 0, none⟩) 2 2] 25)
  rw [s3] at h3
  have h4 := blk_new ((((W.alloc (.cells #[.int .i64 m.f0, .string m.f1, .string m.f2, .slice A3 m.f3.length c3, .slice A4 m.f4.length c4] 25)).alloc (.cells #[.int .i64 7, .string ⟨#[]⟩, .string ⟨#[]⟩, .slice none 0 0, .slice (some ⟨W.heap.size, 0, none⟩) 1 1] 25)).alloc (.cells #[.int .i64 m.f0, .string m.f1, .string m.f2, .slice A3 m.f3.length c3, .slice A4 m.f4.length c4, .int .i64 n.f0, .string n.f1, .string n.f2, .slice B3 n.f3.length b3, .slice B4 n.f4.length b4] 25)).alloc (.cells #[.int .i64 5, .string ⟨#[]⟩, .string ⟨#[]⟩, .slice none 0 0, .slice (some ⟨W.heap.size + 1 + 1, 0, none⟩) 2 2] 25)) (.cells #[.int .i64 m.f0, .string m.f1, .string m.f2, .slice A3 m.f3.length c3, .slice A4 m.f4.length c4, .int .i64 n.f0, .string n.f1, .string n.f2, .slice B3 n.f3.length b3, .slice B4 n.f4.length b4] 25)
  rw [s4] at h4
  have h5 := blk_new (((((W.alloc (.cells #[.int .i64 m.f0, .string m.f1, .string m.f2, .slice A3 m.f3.length c3, .slice A4 m.f4.length c4] 25)).alloc (.cells #[.int .i64 7, .string ⟨#[]⟩, .string ⟨#[]⟩, .slice none 0 0, .slice (some ⟨W.heap.size, 0, none⟩) 1 1] 25)).alloc (.cells #[.int .i64 m.f0, .string m.f1, .string m.f2, .slice A3 m.f3.length c3, .slice A4 m.f4.length c4, .int .i64 n.f0, .string n.f1, .string n.f2, .slice B3 n.f3.length b3, .slice B4 n.f4.length b4] 25)).alloc (.cells #[.int .i64 5, .string ⟨#[]⟩, .string ⟨#[]⟩, .slice none 0 0, .slice (some ⟨W.heap.size + 1 + 1, 0, none⟩) 2 2] 25)).alloc (.cells #[.int .i64 m.f0, .string m.f1, .string m.f2, .slice A3 m.f3.length c3, .slice A4 m.f4.length c4, .int .i64 n.f0, .string n.f1, .string n.f2, .slice B3 n.f3.length b3, .slice B4 n.f4.length b4] 25)) (.cells #[.int .i64 6, .string ⟨#[]⟩, .string ⟨#[]⟩, .slice none 0 0, .slice (some ⟨W.heap.size + 1 + 1 + 1 + 1, 0, none⟩) 2 2] 25)
  rw [s5] at h5
  have m1 := hM.below hb1
  have m3 := hM.below hb3
  have n3 := hN.below hb3
  have m5 := hM.below hb5
  have n5 := hN.below hb5
  have k1 : Kd.C k25 (W.alloc (.cells #[.int .i64 m.f0, .string m.f1, .string m.f2, .slice A3 m.f3.length c3, .slice A4 m.f4.length c4] 25)) (some ⟨W.heap.size, 0, none⟩) 1 [m] := C_one' h0 (k25_mk _ m m1.1 m1.2.1 m1.2.2.1 m1.2.2.2)
  have k3 : Kd.C k25 (((W.alloc (.cells #[.int .i64 m.f0, .string m.f1, .string m.f2, .slice A3 m.f3.length c3, .slice A4 m.f4.length c4] 25)).alloc (.cells #[.int .i64 7, .string ⟨#[]⟩, .string ⟨#[]⟩, .slice none 0 0, .slice (some ⟨W.heap.size, 0, none⟩) 1 1] 25)).alloc (.cells #[.int .i64 m.f0, .string m.f1, .string m.f2, .slice A3 m.f3.length c3, .slice A4 m.f4.length c4, .int .i64 n.f0, .string n.f1, .string n.f2, .slice B3 n.f3.length b3, .slice B4 n.f4.length b4] 25)) (some ⟨W.heap.size + 1 + 1, 0, none⟩) 2 [m, n] := C_two (cs := [.int .i64 m.f0, .string m.f1, .string m.f2, .slice A3 m.f3.length c3, .slice A4 m.f4.length c4]) (ds := [.int .i64 n.f0, .string n.f1, .string n.f2, .slice B3 n.f3.length b3, .slice B4 n.f4.length b4]) h2 (k25_mk _ m m3.1 m3.2.1 m3.2.2.1 m3.2.2.2) (k25_mk _ n n3.1 n3.2.1 n3.2.2.1 n3.2.2.2)
  have k5 : Kd.C k25 (((((W.alloc (.cells #[.int .i64 m.f0, .string m.f1, .string m.f2, .slice A3 m.f3.length c3, .slice A4 m.f4.length c4] 25)).alloc (.cells #[.int .i64 7, .string ⟨#[]⟩, .string ⟨#[]⟩, .slice none 0 0, .slice (some ⟨W.heap.size, 0, none⟩) 1 1] 25)).alloc (.cells #[.int .i64 m.f0, .string m.f1, .string m.f2, .slice A3 m.f3.length c3, .slice A4 m.f4.length c4, .int .i64 n.f0, .string n.f1, .string n.f2, .slice B3 n.f3.length b3, .slice B4 n.f4.length b4] 25)).alloc (.cells #[.int .i64 5, .string ⟨#[]⟩, .string ⟨#[]⟩, .slice none 0 0, .slice (some ⟨W.heap.size + 1 + 1, 0, none⟩) 2 2] 25)).alloc (.cells #[.int .i64 m.f0, .string m.f1, .string m.f2, .slice A3 m.f3.length c3, .slice A4 m.f4.length c4, .int .i64 n.f0, .string n.f1, .string n.f2, .slice B3 n.f3.length b3, .slice B4 n.f4.length b4] 25)) (some ⟨W.heap.size + 1 + 1 + 1 + 1, 0, none⟩) 2 [m, n] := C_two (cs := [.int .i64 m.f0, .string m.f1, .string m.f2, .slice A3 m.f3.length c3, .slice A4 m.f4.length c4]) (ds := [.int .i64 n.f0, .string n.f1, .string n.f2, .slice B3 n.f3.length b3, .slice B4 n.f4.length b4]) h4 (k25_mk _ m m5.1 m5.2.1 m5.2.2.1 m5.2.2.2) (k25_mk _ n n5.1 n5.2.1 n5.2.2.1 n5.2.2.2)
  have xb1 : BoxM ((W.alloc (.cells #[.int .i64 m.f0, .string m.f1, .string m.f2, .slice A3 m.f3.length c3, .slice A4 m.f4.length c4] 25)).alloc (.cells #[.int .i64 7, .string ⟨#[]⟩, .string ⟨#[]⟩, .slice none 0 0, .slice (some ⟨W.heap.size, 0, none⟩) 1 1] 25)) (W.heap.size + 1) 7 ⟨#[]⟩ ⟨#[]⟩ (.slice none 0 0) (.slice (some ⟨W.heap.size, 0, none⟩) 1 1) := h1
  have xb3 : BoxM ((((W.alloc (.cells #[.int .i64 m.f0, .string m.f1, .string m.f2, .slice A3 m.f3.length c3, .slice A4 m.f4.length c4] 25)).alloc (.cells #[.int .i64 7, .string ⟨#[]⟩, .string ⟨#[]⟩, .slice none 0 0, .slice (some ⟨W.heap.size, 0, none⟩) 1 1] 25)).alloc (.cells #[.int .i64 m.f0, .string m.f1, .string m.f2, .slice A3 m.f3.length c3, .slice A4 m.f4.length c4, .int .i64 n.f0, .string n.f1, .string n.f2, .slice B3 n.f3.length b3, .slice B4 n.f4.length b4] 25)).alloc (.cells #[.int .i64 5, .string ⟨#[]⟩, .string ⟨#[]⟩, .slice none 0 0, .slice (some ⟨W.heap.size + 1 + 1, 0, none⟩) 2 2] 25)) (W.heap.size + 1 + 1 + 1) 5 ⟨#[]⟩ ⟨#[]⟩ (.slice none 0 0) (.slice (some ⟨W.heap.size + 1 + 1, 0, none⟩) 2 2) := h3
  have xb5 : BoxM ((((((W.alloc (.cells #[.int .i64 m.f0, .string m.f1, .string m.f2, .slice A3 m.f3.length c3, .slice A4 m.f4.length c4] 25)).alloc (.cells #[.int .i64 7, .string ⟨#[]⟩, .string ⟨#[]⟩, .slice none 0 0, .slice (some ⟨W.heap.size, 0, none⟩) 1 1] 25)).alloc (.cells #[.int .i64 m.f0, .string m.f1, .string m.f2, .slice A3 m.f3.length c3, .slice A4 m.f4.length c4, .int .i64 n.f0, .string n.f1, .string n.f2, .slice B3 n.f3.length b3, .slice B4 n.f4.length b4] 25)).alloc (.cells #[.int .i64 5, .string ⟨#[]⟩, .string ⟨#[]⟩, .slice none 0 0, .slice (some ⟨W.heap.size + 1 + 1, 0, none⟩) 2 2] 25)).alloc (.cells #[.int .i64 m.f0, .string m.f1, .string m.f2, .slice A3 m.f3.length c3, .slice A4 m.f4.length c4, .int .i64 n.f0, .string n.f1, .string n.f2, .slice B3 n.f3.length b3, .slice B4 n.f4.length b4] 25)).alloc (.cells #[.int .i64 6, .string ⟨#[]⟩, .string ⟨#[]⟩, .slice none 0 0, .slice (some ⟨W.heap.size + 1 + 1 + 1 + 1, 0, none⟩) 2 2] 25)) (W.heap.size + 1 + 1 + 1 + 1 + 1) 6 ⟨#[]⟩ ⟨#[]⟩ (.slice none 0 0) (.slice (some ⟨W.heap.size + 1 + 1 + 1 + 1, 0, none⟩) 2 2) := h5
  refine ⟨_, rfl, hb6, ⟨⟨Nat.le_refl _, Kd.C_nil _ _, Nat.le_refl _, ?_⟩, ⟨Nat.le_refl _, Kd.C_nil _ _, Nat.le_refl _, ?_⟩, ⟨Nat.le_refl _, Kd.C_nil _ _, Nat.le_refl _, ?_⟩⟩, ?_, ?_, xb5⟩
  · exact Kd.C_alloc (Kd.C_alloc (Kd.C_alloc (Kd.C_alloc (Kd.C_alloc k1 _) _) _) _) _
  · exact Kd.C_alloc (Kd.C_alloc (Kd.C_alloc k3 _) _) _
  · exact Kd.C_alloc k5 _
  · exact xb1.below (below_alloc (below_alloc (below_alloc (below_alloc (Below.refl _ _) _) _) _) _)
  · exact xb3.below (below_alloc (below_alloc (Below.refl _ _) _) _)
/-- the three boxes -/
def KL (w W V : World) : Prop := Below w.heap.size w V ∧ Below W.heap.size W V ∧ BoxM V (W.heap.size + 1) 7 ⟨#[]⟩ ⟨#[]⟩ (.slice none 0 0) (.slice (some ⟨W.heap.size, 0, none⟩) 1 1) ∧ BoxM V (W.heap.size + 1 + 1 + 1) 5 ⟨#[]⟩ ⟨#[]⟩ (.slice none 0 0) (.slice (some ⟨W.heap.size + 1 + 1, 0, none⟩) 2 2) ∧ BoxM V (W.heap.size + 1 + 1 + 1 + 1 + 1) 6 ⟨#[]⟩ ⟨#[]⟩ (.slice none 0 0) (.slice (some ⟨W.heap.size + 1 + 1 + 1 + 1, 0, none⟩) 2 2)
def KLP (w W V V' : World) : Prop := KL w W V' ∧ Below V.heap.size V V' ∧ (V'.cell? ⟨W.heap.size + 1, 0, none⟩ = some (.int .i64 7) ∧ V'.cell? ⟨W.heap.size + 1, 1, none⟩ = some (.string ⟨#[]⟩) ∧ V'.cell? ⟨W.heap.size + 1, 2, none⟩ = some (.string ⟨#[]⟩) ∧ V'.cell? ⟨W.heap.size + 1, 3, none⟩ = some (.slice none 0 0) ∧ V'.cell? ⟨W.heap.size + 1, 4, none⟩ = some (.slice (some ⟨W.heap.size, 0, none⟩) 1 1)) ∧ (V'.cell? ⟨W.heap.size + 1 + 1 + 1, 0, none⟩ = some (.int .i64 5) ∧ V'.cell? ⟨W.heap.size + 1 + 1 + 1, 1, none⟩ = some (.string ⟨#[]⟩) ∧ V'.cell? ⟨W.heap.size + 1 + 1 + 1, 2, none⟩ = some (.string ⟨#[]⟩) ∧ V'.cell? ⟨W.heap.size + 1 + 1 + 1, 3, none⟩ = some (.slice none 0 0) ∧ V'.cell? ⟨W.heap.size + 1 + 1 + 1, 4, none⟩ = some (.slice (some ⟨W.heap.size + 1 + 1, 0, none⟩) 2 2)) ∧ (V'.cell? ⟨W.heap.size + 1 + 1 + 1 + 1 + 1, 0, none⟩ = some (.int .i64 6) ∧ V'.cell? ⟨W.heap.size + 1 + 1 + 1 + 1 + 1, 1, none⟩ = some (.string ⟨#[]⟩) ∧ V'.cell? ⟨W.heap.size + 1 + 1 + 1 + 1 + 1, 2, none⟩ = some (.string ⟨#[]⟩) ∧ V'.cell? ⟨W.heap.size + 1 + 1 + 1 + 1 + 1, 3, none⟩ = some (.slice none 0 0) ∧ V'.cell? ⟨W.heap.size + 1 + 1 + 1 + 1 + 1, 4, none⟩ = some (.slice (some ⟨W.heap.size + 1 + 1 + 1 + 1, 0, none⟩) 2 2))
theorem KL.post {w W V V' : World} (h : KL w W V) (hb : Below V.heap.size V V') : KLP w W V V' := by
  have q1 := h.2.2.1.below hb
  have q2 := h.2.2.2.1.below hb
  have q3 := h.2.2.2.2.below hb
  exact ⟨⟨below_step h.1 hb, below_step h.2.1 hb, q1, q2, q3⟩, hb, ⟨q1.c0, q1.c1, q1.c2, q1.c3, q1.c4⟩, ⟨q2.c0, q2.c1, q2.c2, q2.c3, q2.c4⟩, ⟨q3.c0, q3.c1, q3.c2, q3.c3, q3.c4⟩⟩
theorem KL.calls {w W V : World} {f : FuncId} {args : Array Value} {Q : Ending → World → Prop} (h : KL w W V) (hc : Calls Try.prog f args V fun e W' => Q e W' ∧ Below V.heap.size V W') :
    Calls Try.prog f args V fun e W' => Q e W' ∧ KLP w W V W' := hc.mono fun _ _ ⟨hq, hb⟩ => ⟨hq, h.post hb⟩
def litA (op : Int) (A : Option Addr) (k : Nat) : Value := .agg #[.int .i64 op, .string ⟨#[]⟩, .string ⟨#[]⟩, .slice none 0 0, .slice A k k]
theorem lit36 (V : World) (op : Int) (ks : List S25) (k : Nat) (A : Option Addr) (v : Bool) (hk : ks.length = k) (hv : chkB ⟨op, ⟨#[]⟩, ⟨#[]⟩, [], ks⟩ = v) (hb : boundL ks) (hM : MC V ⟨op, ⟨#[]⟩, ⟨#[]⟩, [], ks⟩ none 0 A k) :
    Calls Try.prog 36 #[.agg #[.int .i64 op, .string ⟨#[]⟩, .string ⟨#[]⟩, .slice none 0 0, .slice A k k]] V fun e W' => e = .returned (.bool v) ∧ Below V.heap.size V W' := by
  subst hk
  exact check36v V ⟨op, ⟨#[]⟩, ⟨#[]⟩, [], ks⟩ none 0 A ks.length v hv ((boundM_mk _).2 ⟨Nat.zero_le _, Nat.zero_le _, by simp, hb⟩) hM
theorem lit55 (V : World) (op : Int) (ks : List S25) (k : Nat) (A : Option Addr) (v : Bool) (A1 : Option Addr) (c1 : Nat) (l : List S68) (hk : ks.length = k) (hv : evalB l ⟨op, ⟨#[]⟩, ⟨#[]⟩, [], ks⟩ = v) (hn : nodesL ks ≤ 900) (hM : MC V ⟨op, ⟨#[]⟩, ⟨#[]⟩, [], ks⟩ none 0 A k) (hl : l.length ≤ 1000) (h1 : l.length ≤ c1) (g1 : Kd.C k68 V A1 l.length l) :
    Calls Try.prog 55 #[.agg #[.int .i64 op, .string ⟨#[]⟩, .string ⟨#[]⟩, .slice none 0 0, .slice A k k], .slice A1 l.length c1] V fun e W' => e = .returned (.bool v) ∧ Below V.heap.size V W' := by
  subst hk
  exact Eval55 V ⟨op, ⟨#[]⟩, ⟨#[]⟩, [], ks⟩ none 0 A ks.length A1 c1 l v hv (by rw [nodesM_mk]; simp only; omega) hM (by omega) h1 g1
theorem mcNil (V : World) (op : Int) : MC V ⟨op, ⟨#[]⟩, ⟨#[]⟩, [], []⟩ none 0 none 0 := ⟨Nat.le_refl _, Kd.C_nil _ _, Nat.le_refl _, Kd.C_nil _ _⟩
theorem and_chk : chkB ⟨5, ⟨#[]⟩, ⟨#[]⟩, [], []⟩ = true := by kernel_rfl
theorem or_chk : chkB ⟨6, ⟨#[]⟩, ⟨#[]⟩, [], []⟩ = true := by kernel_rfl
set_option maxRecDepth 100000 in
set_option maxHeartbeats 16000000 in
theorem matchLaws_walk (w : World) (m n : S25) (A3 : Option Addr) (c3 : Nat) (A4 : Option Addr) (c4 : Nat) (B3 : Option Addr) (b3 : Nat) (B4 : Option Addr) (b4 : Nat) (A1 : Option Addr) (c1 : Nat) (l : List S68) (hM : MC w m A3 c3 A4 c4) (hN : MC w n B3 b3 B4 b4) (hlc : l.length ≤ c1) (hC : Kd.C k68 w A1 l.length l) :
    Calls Try.prog 11 #[.agg #[.int .i64 m.f0, .string m.f1, .string m.f2, .slice A3 m.f3.length c3, .slice A4 m.f4.length c4], .agg #[.int .i64 n.f0, .string n.f1, .string n.f2, .slice B3 n.f3.length b3, .slice B4 n.f4.length b4], .slice A1 l.length c1] w fun e w' => e = .returned (.bool true) ∧ Below w.heap.size w w' := by
  have hk := K2.new w m n (.slice A3 m.f3.length c3) (.slice A4 m.f4.length c4) (.slice B3 n.f3.length b3) (.slice B4 n.f4.length b4)
  go_enter Try.func11, Try.ntmps11
  go_wp2_with fail
  (with_reducible refine (t31 hk hM).mono ?_)
  rintro e w' ⟨⟨v, rfl, htn⟩, hk, -, ⟨e0, e1, e2, e3, e4⟩, g0, g1, g2, g3, g4⟩
  cases v with
  | false =>
    go_wp2_with fail
    (with_reducible refine (t52 hk).mono ?_)
    rintro e w9 ⟨rfl, hk, -⟩
    go_wp2_with fail
    go_ret
    exact ⟨rfl, hk.bel⟩
  | true =>
    have HT := Lib.hid (htn rfl)
    clear htn
    go_wp2_with fail
    (with_reducible refine (t31' hk hN).mono ?_)
    rintro e w' ⟨⟨v, rfl, htn⟩, hk, -, ⟨e0, e1, e2, e3, e4⟩, g0, g1, g2, g3, g4⟩
    cases v with
    | false =>
      go_wp2_with fail
      (with_reducible refine (t52 hk).mono ?_)
      rintro e w9 ⟨rfl, hk, -⟩
      go_wp2_with fail
      go_ret
      exact ⟨rfl, hk.bel⟩
    | true =>
      have HU := Lib.hid (htn rfl)
      clear htn
      cases hc : chkB m with
      | false =>
        have HC := Lib.hid hc
        clear hc
        go_wp2_with fail
        (with_reducible refine (t36 HC.out hk HT.out hM).mono ?_)
        rintro e w' ⟨rfl, hk, -, ⟨e0, e1, e2, e3, e4⟩, g0, g1, g2, g3, g4⟩
        go_wp2_with fail
        (with_reducible refine (t52 hk).mono ?_)
        rintro e w9 ⟨rfl, hk, -⟩
        go_wp2_with fail
        go_ret
        exact ⟨rfl, hk.bel⟩
      | true =>
        have HC := Lib.hid hc
        clear hc
        go_wp2_with fail
        (with_reducible refine (t36 HC.out hk HT.out hM).mono ?_)
        rintro e w' ⟨rfl, hk, -, ⟨e0, e1, e2, e3, e4⟩, g0, g1, g2, g3, g4⟩
        cases hd : chkB n with
        | false =>
          have HD := Lib.hid hd
          clear hd
          go_wp2_with fail
          (with_reducible refine (t36' HD.out hk HU.out hN).mono ?_)
          rintro e w' ⟨rfl, hk, -, ⟨e0, e1, e2, e3, e4⟩, g0, g1, g2, g3, g4⟩
          go_wp2_with fail
          (with_reducible refine (t52 hk).mono ?_)
          rintro e w9 ⟨rfl, hk, -⟩
          go_wp2_with fail
          go_ret
          exact ⟨rfl, hk.bel⟩
        | true =>
          have HD := Lib.hid hd
          clear hd
          go_wp2_with fail
          (with_reducible refine (t36' HD.out hk HU.out hN).mono ?_)
          rintro e w' ⟨rfl, hk, -, ⟨e0, e1, e2, e3, e4⟩, g0, g1, g2, g3, g4⟩
          by_cases hlen : (l.length : Int) > 100
          · go_wp2_with fail
            (with_reducible refine (t52 hk).mono ?_)
            rintro e w9 ⟨rfl, hk, -⟩
            go_wp2_with fail
            go_ret
            exact ⟨rfl, hk.bel⟩
          · have hl : l.length ≤ 1000 := by omega
            obtain ⟨a, ha⟩ : ∃ a, evalM l m = a := ⟨_, rfl⟩
            obtain ⟨b, hb⟩ : ∃ b, evalM l n = b := ⟨_, rfl⟩
            have HA := Lib.hid (show evalB l m = a from by unfold evalB; rw [HC.out, ha]; rfl)
            have HB := Lib.hid (show evalB l n = b from by unfold evalB; rw [HD.out, hb]; rfl)
            have Ha := Lib.hid ha
            have Hb := Lib.hid hb
            clear ha hb
            go_wp2_with fail
            (with_reducible refine (t55 HA.out hk HT.out (hM.below hk.bel) hl hlc (Kd.C_below hC hk.bel)).mono ?_)
            rintro e w' ⟨rfl, hk, -, ⟨e0, e1, e2, e3, e4⟩, g0, g1, g2, g3, g4⟩
            go_wp2_with fail
            (with_reducible refine (t55' HB.out hk HU.out (hN.below hk.bel) hl hlc (Kd.C_below hC hk.bel)).mono ?_)
            rintro e w' ⟨rfl, hk, -, ⟨e0, e1, e2, e3, e4⟩, g0, g1, g2, g3, g4⟩
            obtain ⟨V, eV, hbV, ⟨mN, mB, mO⟩, x1, x2, x3⟩ := laws_world w' m n A3 c3 A4 c4 B3 b3 B4 b4 (hM.below hk.bel) (hN.below hk.bel)
            have EV := Lib.hid eV
            have hkl : KL w w' V := ⟨below_step hk.1 hbV, hbV, x1, x2, x3⟩
            obtain ⟨-, -, ⟨q0, q1, q2, q3, q4⟩, ⟨f0, f1, f2, f3, f4⟩, p0, p1, p2, p3, p4⟩ := hkl.post (Below.refl _ _)
            clear eV x1 x2 x3
            have HbM := Lib.hid (show boundL [m] from ⟨HT.out.2.1, trivial⟩)
            have HbB := Lib.hid (show boundL [m, n] from ⟨HT.out.2.1, HU.out.2.1, trivial⟩)
            have hnM : nodesL [m] ≤ 900 := by have := HT.out.2.2.2; simp only [nodesL]; omega
            have hnB : nodesL [m, n] ≤ 900 := by have := HT.out.2.2.2; have := HU.out.2.2.2; simp only [nodesL]; omega
            have hlt0 := hk.2.1.lt
            have hlt1 := hk.2.2.lt
            have hb4 : Below w'.heap.size w' ((((w'.alloc (.cells #[.int .i64 m.f0, .string m.f1, .string m.f2, .slice A3 m.f3.length c3, .slice A4 m.f4.length c4] 25)).alloc (.cells #[.int .i64 7, .string ⟨#[]⟩, .string ⟨#[]⟩, .slice none 0 0, .slice (some ⟨w'.heap.size, 0, none⟩) 1 1] 25)).alloc (.cells #[.int .i64 m.f0, .string m.f1, .string m.f2, .slice A3 m.f3.length c3, .slice A4 m.f4.length c4, .int .i64 n.f0, .string n.f1, .string n.f2, .slice B3 n.f3.length b3, .slice B4 n.f4.length b4] 25)).alloc (.cells #[.int .i64 5, .string ⟨#[]⟩, .string ⟨#[]⟩, .slice none 0 0, .slice (some ⟨w'.heap.size + 1 + 1, 0, none⟩) 2 2] 25)) := below_alloc (below_alloc (below_alloc (below_alloc (Below.refl _ _) _) _) _) _
            have hk4 := hk.step hb4
            obtain ⟨r0, r1, r2, r3, r4⟩ := hk4.2.1.cells
            obtain ⟨s0, s1, s2, s3, s4⟩ := hk4.2.2.cells
            go_wp2_with fail
            rw [EV.out]
            clear hb4 hk4 r0 r1 r2 r3 r4 s0 s1 s2 s3 s4 e0 e1 e2 e3 e4 g0 g1 g2 g3 g4 hlt0 hlt1
            replace hC := Kd.C_below hC (below_step hk.bel hbV)
            replace hk := hkl
            have hbel : Below V.heap.size V V := Below.refl _ _
            cases hq7 : chkB ⟨7, ⟨#[]⟩, ⟨#[]⟩, [], [m]⟩ with
            | false =>
              have HX := Lib.hid hq7
              clear hq7
              go_wp2_with fail
              (with_reducible refine (hk.calls (lit36 _ 7 [m] 1 (some ⟨w'.heap.size, 0, none⟩) false rfl HX.out HbM.out (mN.below hbel))).mono ?_)
              rintro e w6 ⟨rfl, hk, hbs, ⟨e0, e1, e2, e3, e4⟩, ⟨f0, f1, f2, f3, f4⟩, g0, g1, g2, g3, g4⟩
              replace hbel := below_step hbel hbs
              go_wp2_with fail
              (with_reducible refine (hk.calls (awake52 _)).mono ?_)
              rintro e w9 ⟨rfl, hk, -⟩
              go_wp2_with fail
              go_ret
              exact ⟨rfl, hk.1⟩
            | true =>
              have HX := Lib.hid hq7
              have HQ7 := Lib.hid hq7
              clear hq7
              go_wp2_with fail
              (with_reducible refine (hk.calls (lit36 _ 7 [m] 1 (some ⟨w'.heap.size, 0, none⟩) true rfl HX.out HbM.out (mN.below hbel))).mono ?_)
              rintro e w6 ⟨rfl, hk, hbs, ⟨e0, e1, e2, e3, e4⟩, ⟨f0, f1, f2, f3, f4⟩, g0, g1, g2, g3, g4⟩
              replace hbel := below_step hbel hbs
              clear HX
              cases hq5 : chkB ⟨5, ⟨#[]⟩, ⟨#[]⟩, [], [m, n]⟩ with
              | false =>
                have HX := Lib.hid hq5
                clear hq5
                go_wp2_with fail
                (with_reducible refine (hk.calls (lit36 _ 5 [m, n] 2 (some ⟨w'.heap.size + 1 + 1, 0, none⟩) false rfl HX.out HbB.out (mB.below hbel))).mono ?_)
                rintro e w6 ⟨rfl, hk, hbs, ⟨e0, e1, e2, e3, e4⟩, ⟨f0, f1, f2, f3, f4⟩, g0, g1, g2, g3, g4⟩
                replace hbel := below_step hbel hbs
                go_wp2_with fail
                (with_reducible refine (hk.calls (awake52 _)).mono ?_)
                rintro e w9 ⟨rfl, hk, -⟩
                go_wp2_with fail
                go_ret
                exact ⟨rfl, hk.1⟩
              | true =>
                have HX := Lib.hid hq5
                have HQ5 := Lib.hid hq5
                clear hq5
                go_wp2_with fail
                (with_reducible refine (hk.calls (lit36 _ 5 [m, n] 2 (some ⟨w'.heap.size + 1 + 1, 0, none⟩) true rfl HX.out HbB.out (mB.below hbel))).mono ?_)
                rintro e w6 ⟨rfl, hk, hbs, ⟨e0, e1, e2, e3, e4⟩, ⟨f0, f1, f2, f3, f4⟩, g0, g1, g2, g3, g4⟩
                replace hbel := below_step hbel hbs
                clear HX
                cases hq6 : chkB ⟨6, ⟨#[]⟩, ⟨#[]⟩, [], [m, n]⟩ with
                | false =>
                  have HX := Lib.hid hq6
                  clear hq6
                  go_wp2_with fail
                  (with_reducible refine (hk.calls (lit36 _ 6 [m, n] 2 (some ⟨w'.heap.size + 1 + 1 + 1 + 1, 0, none⟩) false rfl HX.out HbB.out (mO.below hbel))).mono ?_)
                  rintro e w6 ⟨rfl, hk, hbs, ⟨e0, e1, e2, e3, e4⟩, ⟨f0, f1, f2, f3, f4⟩, g0, g1, g2, g3, g4⟩
                  replace hbel := below_step hbel hbs
                  go_wp2_with fail
                  (with_reducible refine (hk.calls (awake52 _)).mono ?_)
                  rintro e w9 ⟨rfl, hk, -⟩
                  go_wp2_with fail
                  go_ret
                  exact ⟨rfl, hk.1⟩
                | true =>
                  have HX := Lib.hid hq6
                  have HQ6 := Lib.hid hq6
                  clear hq6
                  go_wp2_with fail
                  (with_reducible refine (hk.calls (lit36 _ 6 [m, n] 2 (some ⟨w'.heap.size + 1 + 1 + 1 + 1, 0, none⟩) true rfl HX.out HbB.out (mO.below hbel))).mono ?_)
                  rintro e w6 ⟨rfl, hk, hbs, ⟨e0, e1, e2, e3, e4⟩, ⟨f0, f1, f2, f3, f4⟩, g0, g1, g2, g3, g4⟩
                  replace hbel := below_step hbel hbs
                  clear HX
                  cases a with
                  | false =>
                    cases b with
                    | false =>
                      have HX := Lib.hid (show evalB l ⟨7, ⟨#[]⟩, ⟨#[]⟩, [], [m]⟩ = true from by unfold evalB; rw [HQ7.out, eval_not, Ha.out]; rfl)
                      go_wp2_with fail
                      (with_reducible refine (hk.calls (lit55 _ 7 [m] 1 (some ⟨w'.heap.size, 0, none⟩) true A1 c1 l rfl HX.out hnM (mN.below hbel) hl hlc (Kd.C_below hC hbel))).mono ?_)
                      rintro e w6 ⟨rfl, hk, hbs, ⟨e0, e1, e2, e3, e4⟩, ⟨f0, f1, f2, f3, f4⟩, g0, g1, g2, g3, g4⟩
                      replace hbel := below_step hbel hbs
                      clear HX
                      have HX := Lib.hid (show evalB l ⟨5, ⟨#[]⟩, ⟨#[]⟩, [], [m, n]⟩ = false from by unfold evalB; rw [HQ5.out, eval_and, Ha.out, Hb.out]; rfl)
                      go_wp2_with fail
                      (with_reducible refine (hk.calls (lit55 _ 5 [m, n] 2 (some ⟨w'.heap.size + 1 + 1, 0, none⟩) false A1 c1 l rfl HX.out hnB (mB.below hbel) hl hlc (Kd.C_below hC hbel))).mono ?_)
                      rintro e w6 ⟨rfl, hk, hbs, ⟨e0, e1, e2, e3, e4⟩, ⟨f0, f1, f2, f3, f4⟩, g0, g1, g2, g3, g4⟩
                      replace hbel := below_step hbel hbs
                      clear HX
                      have HX := Lib.hid (show evalB l ⟨6, ⟨#[]⟩, ⟨#[]⟩, [], [m, n]⟩ = false from by unfold evalB; rw [HQ6.out, eval_or, Ha.out, Hb.out]; rfl)
                      go_wp2_with fail
                      (with_reducible refine (hk.calls (lit55 _ 6 [m, n] 2 (some ⟨w'.heap.size + 1 + 1 + 1 + 1, 0, none⟩) false A1 c1 l rfl HX.out hnB (mO.below hbel) hl hlc (Kd.C_below hC hbel))).mono ?_)
                      rintro e w6 ⟨rfl, hk, hbs, ⟨e0, e1, e2, e3, e4⟩, ⟨f0, f1, f2, f3, f4⟩, g0, g1, g2, g3, g4⟩
                      replace hbel := below_step hbel hbs
                      clear HX
                      have HX := Lib.hid (show evalB l ⟨5, ⟨#[]⟩, ⟨#[]⟩, [], []⟩ = true from by unfold evalB; rw [and_chk]; rfl)
                      go_wp2_with fail
                      (with_reducible refine (hk.calls (lit55 _ 5 [] 0 none true A1 c1 l rfl HX.out (Nat.zero_le _) (mcNil _ 5) hl hlc (Kd.C_below hC hbel))).mono ?_)
                      rintro e w6 ⟨rfl, hk, hbs, ⟨e0, e1, e2, e3, e4⟩, ⟨f0, f1, f2, f3, f4⟩, g0, g1, g2, g3, g4⟩
                      replace hbel := below_step hbel hbs
                      clear HX
                      have HX := Lib.hid (show evalB l ⟨6, ⟨#[]⟩, ⟨#[]⟩, [], []⟩ = false from by unfold evalB; rw [or_chk]; rfl)
                      go_wp2_with fail
                      (with_reducible refine (hk.calls (lit55 _ 6 [] 0 none false A1 c1 l rfl HX.out (Nat.zero_le _) (mcNil _ 6) hl hlc (Kd.C_below hC hbel))).mono ?_)
                      rintro e w6 ⟨rfl, hk, hbs, ⟨e0, e1, e2, e3, e4⟩, ⟨f0, f1, f2, f3, f4⟩, g0, g1, g2, g3, g4⟩
                      replace hbel := below_step hbel hbs
                      clear HX
                      go_wp2_with fail
                      (with_reducible refine (hk.calls (awake52 _)).mono ?_)
                      rintro e w9 ⟨rfl, hk, -⟩
                      go_wp2_with fail
                      go_ret
                      exact ⟨rfl, hk.1⟩
                    | true =>
                      have HX := Lib.hid (show evalB l ⟨7, ⟨#[]⟩, ⟨#[]⟩, [], [m]⟩ = true from by unfold evalB; rw [HQ7.out, eval_not, Ha.out]; rfl)
                      go_wp2_with fail
                      (with_reducible refine (hk.calls (lit55 _ 7 [m] 1 (some ⟨w'.heap.size, 0, none⟩) true A1 c1 l rfl HX.out hnM (mN.below hbel) hl hlc (Kd.C_below hC hbel))).mono ?_)
                      rintro e w6 ⟨rfl, hk, hbs, ⟨e0, e1, e2, e3, e4⟩, ⟨f0, f1, f2, f3, f4⟩, g0, g1, g2, g3, g4⟩
                      replace hbel := below_step hbel hbs
                      clear HX
                      have HX := Lib.hid (show evalB l ⟨5, ⟨#[]⟩, ⟨#[]⟩, [], [m, n]⟩ = false from by unfold evalB; rw [HQ5.out, eval_and, Ha.out, Hb.out]; rfl)
                      go_wp2_with fail
                      (with_reducible refine (hk.calls (lit55 _ 5 [m, n] 2 (some ⟨w'.heap.size + 1 + 1, 0, none⟩) false A1 c1 l rfl HX.out hnB (mB.below hbel) hl hlc (Kd.C_below hC hbel))).mono ?_)
                      rintro e w6 ⟨rfl, hk, hbs, ⟨e0, e1, e2, e3, e4⟩, ⟨f0, f1, f2, f3, f4⟩, g0, g1, g2, g3, g4⟩
                      replace hbel := below_step hbel hbs
                      clear HX
                      have HX := Lib.hid (show evalB l ⟨6, ⟨#[]⟩, ⟨#[]⟩, [], [m, n]⟩ = true from by unfold evalB; rw [HQ6.out, eval_or, Ha.out, Hb.out]; rfl)
                      go_wp2_with fail
                      (with_reducible refine (hk.calls (lit55 _ 6 [m, n] 2 (some ⟨w'.heap.size + 1 + 1 + 1 + 1, 0, none⟩) true A1 c1 l rfl HX.out hnB (mO.below hbel) hl hlc (Kd.C_below hC hbel))).mono ?_)
                      rintro e w6 ⟨rfl, hk, hbs, ⟨e0, e1, e2, e3, e4⟩, ⟨f0, f1, f2, f3, f4⟩, g0, g1, g2, g3, g4⟩
                      replace hbel := below_step hbel hbs
                      clear HX
                      have HX := Lib.hid (show evalB l ⟨5, ⟨#[]⟩, ⟨#[]⟩, [], []⟩ = true from by unfold evalB; rw [and_chk]; rfl)
                      go_wp2_with fail
                      (with_reducible refine (hk.calls (lit55 _ 5 [] 0 none true A1 c1 l rfl HX.out (Nat.zero_le _) (mcNil _ 5) hl hlc (Kd.C_below hC hbel))).mono ?_)
                      rintro e w6 ⟨rfl, hk, hbs, ⟨e0, e1, e2, e3, e4⟩, ⟨f0, f1, f2, f3, f4⟩, g0, g1, g2, g3, g4⟩
                      replace hbel := below_step hbel hbs
                      clear HX
                      have HX := Lib.hid (show evalB l ⟨6, ⟨#[]⟩, ⟨#[]⟩, [], []⟩ = false from by unfold evalB; rw [or_chk]; rfl)
                      go_wp2_with fail
                      (with_reducible refine (hk.calls (lit55 _ 6 [] 0 none false A1 c1 l rfl HX.out (Nat.zero_le _) (mcNil _ 6) hl hlc (Kd.C_below hC hbel))).mono ?_)
                      rintro e w6 ⟨rfl, hk, hbs, ⟨e0, e1, e2, e3, e4⟩, ⟨f0, f1, f2, f3, f4⟩, g0, g1, g2, g3, g4⟩
                      replace hbel := below_step hbel hbs
                      clear HX
                      go_wp2_with fail
                      (with_reducible refine (hk.calls (awake52 _)).mono ?_)
                      rintro e w9 ⟨rfl, hk, -⟩
                      go_wp2_with fail
                      go_ret
                      exact ⟨rfl, hk.1⟩
                  | true =>
                    cases b with
                    | false =>
                      have HX := Lib.hid (show evalB l ⟨7, ⟨#[]⟩, ⟨#[]⟩, [], [m]⟩ = false from by unfold evalB; rw [HQ7.out, eval_not, Ha.out]; rfl)
                      go_wp2_with fail
                      (with_reducible refine (hk.calls (lit55 _ 7 [m] 1 (some ⟨w'.heap.size, 0, none⟩) false A1 c1 l rfl HX.out hnM (mN.below hbel) hl hlc (Kd.C_below hC hbel))).mono ?_)
                      rintro e w6 ⟨rfl, hk, hbs, ⟨e0, e1, e2, e3, e4⟩, ⟨f0, f1, f2, f3, f4⟩, g0, g1, g2, g3, g4⟩
                      replace hbel := below_step hbel hbs
                      clear HX
                      have HX := Lib.hid (show evalB l ⟨5, ⟨#[]⟩, ⟨#[]⟩, [], [m, n]⟩ = false from by unfold evalB; rw [HQ5.out, eval_and, Ha.out, Hb.out]; rfl)
                      go_wp2_with fail
                      (with_reducible refine (hk.calls (lit55 _ 5 [m, n] 2 (some ⟨w'.heap.size + 1 + 1, 0, none⟩) false A1 c1 l rfl HX.out hnB (mB.below hbel) hl hlc (Kd.C_below hC hbel))).mono ?_)
                      rintro e w6 ⟨rfl, hk, hbs, ⟨e0, e1, e2, e3, e4⟩, ⟨f0, f1, f2, f3, f4⟩, g0, g1, g2, g3, g4⟩
                      replace hbel := below_step hbel hbs
                      clear HX
                      have HX := Lib.hid (show evalB l ⟨6, ⟨#[]⟩, ⟨#[]⟩, [], [m, n]⟩ = true from by unfold evalB; rw [HQ6.out, eval_or, Ha.out, Hb.out]; rfl)
                      go_wp2_with fail
                      (with_reducible refine (hk.calls (lit55 _ 6 [m, n] 2 (some ⟨w'.heap.size + 1 + 1 + 1 + 1, 0, none⟩) true A1 c1 l rfl HX.out hnB (mO.below hbel) hl hlc (Kd.C_below hC hbel))).mono ?_)
                      rintro e w6 ⟨rfl, hk, hbs, ⟨e0, e1, e2, e3, e4⟩, ⟨f0, f1, f2, f3, f4⟩, g0, g1, g2, g3, g4⟩
                      replace hbel := below_step hbel hbs
                      clear HX
                      have HX := Lib.hid (show evalB l ⟨5, ⟨#[]⟩, ⟨#[]⟩, [], []⟩ = true from by unfold evalB; rw [and_chk]; rfl)
                      go_wp2_with fail
                      (with_reducible refine (hk.calls (lit55 _ 5 [] 0 none true A1 c1 l rfl HX.out (Nat.zero_le _) (mcNil _ 5) hl hlc (Kd.C_below hC hbel))).mono ?_)
                      rintro e w6 ⟨rfl, hk, hbs, ⟨e0, e1, e2, e3, e4⟩, ⟨f0, f1, f2, f3, f4⟩, g0, g1, g2, g3, g4⟩
                      replace hbel := below_step hbel hbs
                      clear HX
                      have HX := Lib.hid (show evalB l ⟨6, ⟨#[]⟩, ⟨#[]⟩, [], []⟩ = false from by unfold evalB; rw [or_chk]; rfl)
                      go_wp2_with fail
                      (with_reducible refine (hk.calls (lit55 _ 6 [] 0 none false A1 c1 l rfl HX.out (Nat.zero_le _) (mcNil _ 6) hl hlc (Kd.C_below hC hbel))).mono ?_)
                      rintro e w6 ⟨rfl, hk, hbs, ⟨e0, e1, e2, e3, e4⟩, ⟨f0, f1, f2, f3, f4⟩, g0, g1, g2, g3, g4⟩
                      replace hbel := below_step hbel hbs
                      clear HX
                      go_wp2_with fail
                      (with_reducible refine (hk.calls (awake52 _)).mono ?_)
                      rintro e w9 ⟨rfl, hk, -⟩
                      go_wp2_with fail
                      go_ret
                      exact ⟨rfl, hk.1⟩
                    | true =>
                      have HX := Lib.hid (show evalB l ⟨7, ⟨#[]⟩, ⟨#[]⟩, [], [m]⟩ = false from by unfold evalB; rw [HQ7.out, eval_not, Ha.out]; rfl)
                      go_wp2_with fail
                      (with_reducible refine (hk.calls (lit55 _ 7 [m] 1 (some ⟨w'.heap.size, 0, none⟩) false A1 c1 l rfl HX.out hnM (mN.below hbel) hl hlc (Kd.C_below hC hbel))).mono ?_)
                      rintro e w6 ⟨rfl, hk, hbs, ⟨e0, e1, e2, e3, e4⟩, ⟨f0, f1, f2, f3, f4⟩, g0, g1, g2, g3, g4⟩
                      replace hbel := below_step hbel hbs
                      clear HX
                      have HX := Lib.hid (show evalB l ⟨5, ⟨#[]⟩, ⟨#[]⟩, [], [m, n]⟩ = true from by unfold evalB; rw [HQ5.out, eval_and, Ha.out, Hb.out]; rfl)
                      go_wp2_with fail
                      (with_reducible refine (hk.calls (lit55 _ 5 [m, n] 2 (some ⟨w'.heap.size + 1 + 1, 0, none⟩) true A1 c1 l rfl HX.out hnB (mB.below hbel) hl hlc (Kd.C_below hC hbel))).mono ?_)
                      rintro e w6 ⟨rfl, hk, hbs, ⟨e0, e1, e2, e3, e4⟩, ⟨f0, f1, f2, f3, f4⟩, g0, g1, g2, g3, g4⟩
                      replace hbel := below_step hbel hbs
                      clear HX
                      have HX := Lib.hid (show evalB l ⟨6, ⟨#[]⟩, ⟨#[]⟩, [], [m, n]⟩ = true from by unfold evalB; rw [HQ6.out, eval_or, Ha.out, Hb.out]; rfl)
                      go_wp2_with fail
                      (with_reducible refine (hk.calls (lit55 _ 6 [m, n] 2 (some ⟨w'.heap.size + 1 + 1 + 1 + 1, 0, none⟩) true A1 c1 l rfl HX.out hnB (mO.below hbel) hl hlc (Kd.C_below hC hbel))).mono ?_)
                      rintro e w6 ⟨rfl, hk, hbs, ⟨e0, e1, e2, e3, e4⟩, ⟨f0, f1, f2, f3, f4⟩, g0, g1, g2, g3, g4⟩
                      replace hbel := below_step hbel hbs
                      clear HX
                      have HX := Lib.hid (show evalB l ⟨5, ⟨#[]⟩, ⟨#[]⟩, [], []⟩ = true from by unfold evalB; rw [and_chk]; rfl)
                      go_wp2_with fail
                      (with_reducible refine (hk.calls (lit55 _ 5 [] 0 none true A1 c1 l rfl HX.out (Nat.zero_le _) (mcNil _ 5) hl hlc (Kd.C_below hC hbel))).mono ?_)
                      rintro e w6 ⟨rfl, hk, hbs, ⟨e0, e1, e2, e3, e4⟩, ⟨f0, f1, f2, f3, f4⟩, g0, g1, g2, g3, g4⟩
                      replace hbel := below_step hbel hbs
                      clear HX
                      have HX := Lib.hid (show evalB l ⟨6, ⟨#[]⟩, ⟨#[]⟩, [], []⟩ = false from by unfold evalB; rw [or_chk]; rfl)
                      go_wp2_with fail
                      (with_reducible refine (hk.calls (lit55 _ 6 [] 0 none false A1 c1 l rfl HX.out (Nat.zero_le _) (mcNil _ 6) hl hlc (Kd.C_below hC hbel))).mono ?_)
                      rintro e w6 ⟨rfl, hk, hbs, ⟨e0, e1, e2, e3, e4⟩, ⟨f0, f1, f2, f3, f4⟩, g0, g1, g2, g3, g4⟩
                      replace hbel := below_step hbel hbs
                      clear HX
                      go_wp2_with fail
                      (with_reducible refine (hk.calls (awake52 _)).mono ?_)
                      rintro e w9 ⟨rfl, hk, -⟩
                      go_wp2_with fail
                      go_ret
                      exact ⟨rfl, hk.1⟩
end Go.Proofs.Yteafilojjdfllaa
