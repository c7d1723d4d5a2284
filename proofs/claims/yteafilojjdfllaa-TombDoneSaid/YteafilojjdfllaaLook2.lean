/- Own text: the document's own Check of a matcher. -/
import Derived.Test.YteafilojjdfllaaLook
namespace Go.Proofs.Yteafilojjdfllaa
open Go Go.RowKit Go.Proofs.YteafilojjdfllaaW.PrintWords Go.Proofs.YteafilojjdfllaaW.PrintLast Go.Proofs.YteafilojjdfllaaW.PrintMore Go.Proofs.Yteafilojjdfllaa.PAll

set_option maxRecDepth 100000 in
set_option maxHeartbeats 4000000 in
/-- varveref12.Check. -/
theorem check36 (w : World) (m : S25) (A3 : Option Addr) (c3 : Nat) (A4 : Option Addr) (c4 : Nat) (hb : boundM m) (hM : MC w m A3 c3 A4 c4) :
    Calls Try.prog 36 #[.agg #[.int .i64 m.f0, .string m.f1, .string m.f2, .slice A3 m.f3.length c3, .slice A4 m.f4.length c4]] w fun e w' => e = .returned (.bool (chkB m)) ∧ Below w.heap.size w w' := by
  have hB : Below w.heap.size w ((w.alloc (.cells #[.int .i64 m.f0, .string m.f1, .string m.f2, .slice A3 m.f3.length c3, .slice A4 m.f4.length c4] 25)).alloc (.cells #[.int .i64 0, .int .i64 0, .bool false] 122)) := below_alloc (below_alloc (Below.refl _ _) _) _
  have hI : IsS122 w ((w.alloc (.cells #[.int .i64 m.f0, .string m.f1, .string m.f2, .slice A3 m.f3.length c3, .slice A4 m.f4.length c4] 25)).alloc (.cells #[.int .i64 0, .int .i64 0, .bool false] 122)) (w.heap.size + 1) 0 0 false := by
    have := IsS122.new w (w.alloc (.cells #[.int .i64 m.f0, .string m.f1, .string m.f2, .slice A3 m.f3.length c3, .slice A4 m.f4.length c4] 25)) 0 0 false (below_alloc (Below.refl _ _) _)
    rwa [World.size_alloc] at this
  have hh := look99 (nodesM m) m (Nat.le_refl _) hb 1 0 0 A3 c3 A4 c4 (w.heap.size + 1) w _ (by decide) (by decide) (by decide) (by decide) (by decide) (by decide) hM hB hI
  go_enter Try.func36, Try.ntmps36
  go_wp2_with fail
  (with_reducible refine hh.mono ?_)
  rintro e w5 ⟨rfl, hB5, -, n', b', hI5, -⟩
  have hy := cellS122_2 hI5.1
  have hq : (!(!chk 1 m (64 - 0) (4096 - 0))) = chkB m := by rw [Bool.not_not]; rfl
  have Hq := Lib.hid hq
  clear hq
  obtain ⟨v, ev⟩ : ∃ v, (!chk 1 m (64 - 0) (4096 - 0)) = v := ⟨_, rfl⟩
  rw [ev] at hy Hq
  clear ev hI5
  go_wp2_with fail
  go_ret
  exact ⟨by rw [← Hq.out]; rfl, hB5⟩
end Go.Proofs.Yteafilojjdfllaa
