/- Own text: slices.SortStableFunc over labels, however many: what holds for the memory alone; label.Make of many labels (sym181 written by wip/gensym.py). -/
import Derived.Test.YteafilojjdfllaaLabMake
import Derived.Sort.WalkB2
import Derived.Sort.WalkB12
import Derived.Deep.LoopGhost
namespace Go.Proofs.Yteafilojjdfllaa
open Go Go.RowKit Go.Sort Go.Lib Go.Proofs.YteafilojjdfllaaW.PrintWords Go.Proofs.YteafilojjdfllaaW.PrintLast Go.Proofs.YteafilojjdfllaaW.PrintMore Go.Proofs.Yteafilojjdfllaa.PAll
set_option linter.unusedVariables false
set_option linter.unusedSimpArgs false

/-- the row holds some labels yet -/
def WK (w0 : World) (blk n : Nat) (W : World) : Prop := ∃ dk : Array S68, dk.size = n ∧ SWK encL 2 w0 blk 0 dk W
section
variable {w0 W : World} {blk n : Nat} {d0 dk : Array S68}
theorem sw_at (h : SWK encL 2 w0 blk 0 dk W) (R : RowK encL 2 w0 blk 0 d0) (hs : dk.size = d0.size) (i : Nat) (hi : i < dk.size) : W.cell? ⟨blk, i * 2, none⟩ = some (.string (dk[i]!).f0) ∧ W.cell? ⟨blk, i * 2 + 1, none⟩ = some (.string (dk[i]!).f1) := by
  have hh := h.holds R.hblk R.hH hs
  have c0 := (HoldsK.cell hh hi (c := 0) (by decide)).1
  have c1 := (HoldsK.cell hh hi (c := 1) (by decide)).1
  rw [Nat.zero_add] at c0 c1
  exact ⟨c0, c1⟩
theorem sw_fz (h : SWK encL 2 w0 blk 0 dk W) (R : RowK encL 2 w0 blk 0 d0) (hs : dk.size = d0.size) (i : Nat) (hi : i < dk.size) : W.frozen? ⟨blk, i * 2, none⟩ = false ∧ W.frozen? ⟨blk, i * 2 + 1, none⟩ = false := by
  have hh := h.holds R.hblk R.hH hs
  have c0 := (HoldsK.cell hh hi (c := 0) (by decide)).2
  have c1 := (HoldsK.cell hh hi (c := 1) (by decide)).2
  rw [Nat.zero_add] at c0 c1
  exact ⟨c0, c1⟩
theorem far2 {k p : Nat} {v u u' : Value} (h : W.cell? ⟨blk, k, none⟩ = some v) (h1 : k ≠ p) (h2 : k ≠ p + 1) : ((W.setCell ⟨blk, p, none⟩ u).setCell ⟨blk, p + 1, none⟩ u').cell? ⟨blk, k, none⟩ = some v := by
  rw [World.cell?_setCell_other _ _ _ _ (fun e => h2 (by injection e with _ e; exact e.symm)), World.cell?_setCell_other _ _ _ _ (fun e => h1 (by injection e with _ e; exact e.symm))]
  exact h
theorem sw_swap (h : SWK encL 2 w0 blk 0 dk W) (R : RowK encL 2 w0 blk 0 d0) (i j : Nat) (hi : i < dk.size) (hj : j < dk.size) (x y : S68) (ex : dk[i]! = x) (ey : dk[j]! = y) :
    WK w0 blk dk.size ((((W.setCell ⟨blk, i * 2, none⟩ (.string y.f0)).setCell ⟨blk, i * 2 + 1, none⟩ (.string y.f1)).setCell ⟨blk, j * 2, none⟩ (.string x.f0)).setCell ⟨blk, j * 2 + 1, none⟩ (.string x.f1)).drew := by
  have := h.swapped R i j hi hj
  rw [Nat.zero_add, Nat.zero_add, ex, ey] at this
  exact ⟨_, size_swp _ _ _, this⟩
end
set_option maxRecDepth 1000000 in
set_option maxHeartbeats 8000000 in
/-- slices.swapRangeCmpFunc: the row holds some labels yet. -/
theorem swap194 (w0 w : World) (blk cap n : Nat) (d0 : Array S68) (R : RowK encL 2 w0 blk 0 d0) (hn : d0.size = n) (hsz : n ≤ 1000000) (a b m : Nat) (hab : a + m ≤ b) (hb : b + m ≤ n) (hW : WK w0 blk n w) :
    Calls Try.prog 194 #[.slice (some ⟨blk, 0, none⟩) n cap, .int .i64 a, .int .i64 b, .int .i64 m, .func (.func 112) #[] #[]] w fun e w' => e = .returned (.tuple #[]) ∧ WK w0 blk n w' := by
  have HW := Lib.hid hW
  have HR := Lib.hid R
  clear hW R
  go_enter Try.func194, Try.ntmps194
  go_wp2
  go_loopw [10] (fun u10 wr => ∃ (i : Nat), u10 = .int .i64 i ∧ i ≤ m ∧ Hid (WK w0 blk n wr)) (fun u10 _ => m - (intOf u10).toNat)
  case atStart => exact ⟨0, rfl, Nat.zero_le _, HW⟩
  case round =>
    clear HW
    obtain ⟨i, rfl, hi, HW⟩ := hrel
    by_cases hlt : i < m
    · obtain ⟨dk, hds, hS⟩ := HW.out
      have S1 := Lib.hid hS
      clear hS HW
      have hltI : decide ((i : Int) < (m : Int)) = true := decide_eq_true (by omega)
      go_wp2_with fail
      have ai : IntKind.i64.wrap ((a : Int) + (i : Int)) = (a : Int) + (i : Int) := by rw [i64_w]; unfold wrap64; omega
      have bi : IntKind.i64.wrap ((b : Int) + (i : Int)) = (b : Int) + (i : Int) := by rw [i64_w]; unfold wrap64; omega
      have pa : (0 : Int) ≤ (a : Int) + (i : Int) := by omega
      have pb : (0 : Int) ≤ (b : Int) + (i : Int) := by omega
      have qa : (a : Int) + (i : Int) < (n : Int) := by omega
      have qb : (b : Int) + (i : Int) < (n : Int) := by omega
      have ta : ((a : Int) + (i : Int)).toNat = a + i := by omega
      have tb : ((b : Int) + (i : Int)).toNat = b + i := by omega
      obtain ⟨ca0, ca1⟩ := sw_at S1.out HR.out (by omega) (a + i) (by omega)
      obtain ⟨cb0, cb1⟩ := sw_at S1.out HR.out (by omega) (b + i) (by omega)
      obtain ⟨za0, za1⟩ := sw_fz S1.out HR.out (by omega) (a + i) (by omega)
      obtain ⟨zb0, zb1⟩ := sw_fz S1.out HR.out (by omega) (b + i) (by omega)
      have S2 := Lib.hid (sw_swap S1.out HR.out (a + i) (b + i) (by omega) (by omega) _ _ rfl rfl)
      rw [hds] at S2
      generalize dk[a + i]! = x at *
      generalize dk[b + i]! = y at *
      clear S1
      have cc0 := far2 (u := .string y.f0) (u' := .string y.f1) cb0 (show (b + i) * 2 ≠ (a + i) * 2 by omega) (by omega)
      have cc1 := far2 (u := .string y.f0) (u' := .string y.f1) cb1 (show (b + i) * 2 + 1 ≠ (a + i) * 2 by omega) (by omega)
      have mixed : Try.prog.follows .mixedOrders = true := by kernel_rfl
      go_big_region_o
      go_wp2
      go_roundw
      case rel => exact ⟨i + 1, by go_num, by omega, S2⟩
      case measure => simp [intOf]; omega
    · obtain rfl : i = m := by omega
      go_wp2
      go_end0
      exact ⟨rfl, HW.out⟩

theorem swap194z (w0 w : World) (blk cap n : Nat) (d0 : Array S68) (R : RowK encL 2 w0 blk 0 d0) (hn : d0.size = n) (hsz : n ≤ 1000000) (a b m : Nat) (az bz : Int) (ea : az = (a : Int)) (eb : bz = (b : Int)) (hab : a + m ≤ b) (hb : b + m ≤ n) (hW : WK w0 blk n w) :
    Calls Try.prog 194 #[.slice (some ⟨blk, 0, none⟩) n cap, .int .i64 az, .int .i64 bz, .int .i64 m, .func (.func 112) #[] #[]] w fun e w' => e = .returned (.tuple #[]) ∧ WK w0 blk n w' := by
  subst ea eb
  exact swap194 w0 w blk cap n d0 R hn hsz a b m hab hb hW
set_option maxRecDepth 1000000 in
set_option maxHeartbeats 8000000 in
/-- slices.rotateCmpFunc. -/
theorem rotate190 (w0 w : World) (blk cap n : Nat) (d0 : Array S68) (R : RowK encL 2 w0 blk 0 d0) (hn : d0.size = n) (hsz : n ≤ 1000000) (a m b : Nat) (h1 : a < m) (h2 : m < b) (h3 : b ≤ n) (hW : WK w0 blk n w) :
    Calls Try.prog 190 #[.slice (some ⟨blk, 0, none⟩) n cap, .int .i64 a, .int .i64 m, .int .i64 b, .func (.func 112) #[] #[]] w fun e w' => e = .returned (.tuple #[]) ∧ WK w0 blk n w' := by
  have HW := Lib.hid hW
  have HR := Lib.hid R
  clear hW R
  go_enter Try.func190, Try.ntmps190
  go_wp2
  go_loopw [10, 11] (fun u10 u11 wr => ∃ (i j : Nat), u10 = .int .i64 i ∧ u11 = .int .i64 j ∧ 0 < i ∧ 0 < j ∧ i ≤ m - a ∧ j ≤ b - m ∧ Hid (WK w0 blk n wr)) (fun u10 u11 _ => (intOf u10).toNat + (intOf u11).toNat)
  case atStart => exact ⟨m - a, b - m, by congr 1; omega, by congr 1; omega, by omega, by omega, Nat.le_refl _, Nat.le_refl _, HW⟩
  case round =>
    clear HW
    obtain ⟨i, j, rfl, rfl, hi0, hj0, hi, hj, HW⟩ := hrel
    by_cases hij : i = j
    · subst hij
      have t1 : ((i : Int) == (i : Int)) = true := beq_self_eq_true _
      have t2 : ((i : Int) != (i : Int)) = false := by simp
      have hs := Lib.hid (swap194z w0 wr blk cap n d0 HR.out hn hsz (m - i) m i ((m : Int) - (i : Int)) (m : Int) (by omega) rfl (by omega) (by omega) HW.out)
      go_wp2_with fail
      (with_reducible refine hs.out.mono ?_)
      rintro e w1 ⟨rfl, hW1⟩
      go_wp2
      go_end0
      exact ⟨rfl, hW1⟩
    · have t1 : ((i : Int) == (j : Int)) = false := beq_eq_false_iff_ne.2 (by omega)
      have t2 : ((i : Int) != (j : Int)) = true := by simp [bne, t1]
      by_cases hgt : j < i
      · have t3 : (j : Int) < (i : Int) := by omega
        have hs := Lib.hid (swap194z w0 wr blk cap n d0 HR.out hn hsz (m - i) m j ((m : Int) - (i : Int)) (m : Int) (by omega) rfl (by omega) (by omega) HW.out)
        go_wp2_with fail
        (with_reducible refine hs.out.mono ?_)
        rintro e w1 ⟨rfl, hW1⟩
        have HW1 := Lib.hid hW1
        clear hW1
        go_wp2
        go_roundw
        case rel => exact ⟨i - j, j, by congr 1; omega, rfl, by omega, by omega, by omega, by omega, HW1⟩
        case measure => simp [intOf]; omega
      · have t3 : ¬ (j : Int) < (i : Int) := by omega
        have hs := Lib.hid (swap194z w0 wr blk cap n d0 HR.out hn hsz (m - i) (m + j - i) i ((m : Int) - (i : Int)) ((m : Int) + (j : Int) - (i : Int)) (by omega) (by omega) (by omega) (by omega) HW.out)
        go_wp2_with fail
        (with_reducible refine hs.out.mono ?_)
        rintro e w1 ⟨rfl, hW1⟩
        have HW1 := Lib.hid hW1
        clear hW1
        go_wp2
        go_roundw
        case rel => exact ⟨i, j - i, rfl, by congr 1; omega, by omega, by omega, by omega, by omega, HW1⟩
        case measure => simp [intOf]; omega
section
variable {w0 W : World} {blk n : Nat} {d0 dk : Array S68}
theorem sw_atg (h : SWK encL 2 w0 blk 0 dk W) (R : RowK encL 2 w0 blk 0 d0) (hs : dk.size = d0.size) (i : Nat) (hi : i < dk.size) (x : S68) (ex : dk[i]! = x) : (∀ q os, (grow (W.drewN q) os).cell? ⟨blk, i * 2, none⟩ = some (.string x.f0)) ∧ ∀ q os, (grow (W.drewN q) os).cell? ⟨blk, i * 2 + 1, none⟩ = some (.string x.f1) := by
  subst ex
  exact ⟨fun q os => (sw_at (h.grown q os) R hs i hi).1, fun q os => (sw_at (h.grown q os) R hs i hi).2⟩
theorem sw_cmp (h : SWK encL 2 w0 blk 0 dk W) (x y : S68) (c : Int) (hc : cfN x y = c) (q : Nat) (os : Array Obj) :
    Calls Try.prog 112 #[.agg #[.string x.f0, .string x.f1], .agg #[.string y.f0, .string y.f1]] (grow (W.drewN q) os) fun e w' => e = .returned (.int .i64 c) ∧ ∃ q' os', w' = grow ((grow (W.drewN q) os).drewN q') os' := by
  subst hc
  exact h.cmp (cmpLays blk 0 dk.size w0) rfl x y q os
end
set_option maxRecDepth 1000000 in
set_option maxHeartbeats 16000000 in
/-- slices.symMergeCmpFunc. -/
theorem sym181 (w0 : World) (blk cap n : Nat) (d0 : Array S68) (R : RowK encL 2 w0 blk 0 d0) (hn : d0.size = n) (hsz : n ≤ 1000000) : ∀ (N a m b : Nat) (w : World), b - a ≤ N → a < m → m < b → b ≤ n → WK w0 blk n w →
    Calls Try.prog 181 #[.slice (some ⟨blk, 0, none⟩) n cap, .int .i64 a, .int .i64 m, .int .i64 b, .func (.func 112) #[] #[]] w fun e w' => e = .returned (.tuple #[]) ∧ WK w0 blk n w' := by
  intro N
  induction N with
  | zero => intro a m b w h0 h1 h2; omega
  | succ N ih =>
  intro a m b w h0 h1 h2 h3 hW
  have IH := Lib.hid ih
  have HW := Lib.hid hW
  have HR := Lib.hid R
  clear hW R ih
  have mixed : Try.prog.follows .mixedOrders = true := by kernel_rfl
  by_cases hma : m = a + 1
  · have t1 : ((m : Int) - (a : Int) == 1) = true := by rw [beq_iff_eq]; omega
    have hma1 : m ≤ a + 1 := by omega
    clear hma
    go_enter Try.func181, Try.ntmps181
    go_wp2
    clear t1
    go_loopw [10, 11, 12] (fun u10 u11 _ wr => ∃ (i j : Nat), u10 = .int .i64 i ∧ u11 = .int .i64 j ∧ m ≤ i ∧ i ≤ j ∧ j ≤ b ∧ Hid (WK w0 blk n wr)) (fun u10 u11 _ _ => (intOf u11).toNat - (intOf u10).toNat)
    case atStart => exact ⟨m, b, rfl, rfl, Nat.le_refl _, by omega, Nat.le_refl _, HW⟩
    case round =>
      clear HW
      obtain ⟨i, j, rfl, rfl, hi, hij, hj, HW⟩ := hrel
      by_cases hlt : i < j
      · have tI : (i : Int) < (j : Int) := by omega
        obtain ⟨h, eh⟩ : ∃ h : Nat, h = (i + j) / 2 := ⟨_, rfl⟩
        have ehI : ((i : Int) + (j : Int)) / 2 = (h : Int) := by omega
        have hlo : i ≤ h := by omega
        have hhi : h < j := by omega
        clear eh
        obtain ⟨dk, hds, hS⟩ := HW.out
        have S1 := Lib.hid hS
        clear hS
        obtain ⟨X, eX⟩ : ∃ X, dk[h]! = X := ⟨_, rfl⟩
        obtain ⟨Y, eY⟩ : ∃ Y, dk[a]! = Y := ⟨_, rfl⟩
        obtain ⟨lx0, lx1⟩ := sw_atg S1.out HR.out (by omega) h (by omega) X eX
        obtain ⟨ly0, ly1⟩ := sw_atg S1.out HR.out (by omega) a (by omega) Y eY
        obtain ⟨c, ec⟩ : ∃ c, cfN X Y = c := ⟨_, rfl⟩
        have HC := Lib.hid (fun q os => sw_cmp S1.out X Y c ec q os)
        clear eX eY ec
        have b1 : (h : Int) < (n : Int) := by omega
        have b2 : (a : Int) < (n : Int) := by omega
        by_cases hc : c < 0
        · have hd : decide (c < 0) = true := decide_eq_true hc
          go_wp2_with fail
          go_quiet_grown (first | (go_at_call 112; refine Calls.grown_of (HC.out _ _)))
          have HW2 := Lib.hid (show WK w0 blk n (grow (wr.drewN nq) osq) from ⟨dk, hds, S1.out.grown nq osq⟩)
          clear lx0 lx1 ly0 ly1 HC S1
          generalize grow (wr.drewN nq) osq = w2 at HW2 ⊢
          clear nq osq
          go_wp2
          go_roundw
          case rel => exact ⟨h + 1, j, by go_num, rfl, by omega, by omega, hj, HW2⟩
          case measure => simp [intOf]; omega
        · have hd : decide (c < 0) = false := decide_eq_false hc
          go_wp2_with fail
          go_quiet_grown (first | (go_at_call 112; refine Calls.grown_of (HC.out _ _)))
          have HW2 := Lib.hid (show WK w0 blk n (grow (wr.drewN nq) osq) from ⟨dk, hds, S1.out.grown nq osq⟩)
          clear lx0 lx1 ly0 ly1 HC S1
          generalize grow (wr.drewN nq) osq = w2 at HW2 ⊢
          clear nq osq
          go_wp2
          go_roundw
          case rel => exact ⟨i, h, rfl, rfl, hi, by omega, by omega, HW2⟩
          case measure => simp [intOf]; omega
      · have tI : ¬ (i : Int) < (j : Int) := by omega
        have hib : i ≤ b := by omega
        go_wp2
        clear tI hlt hij
        go_loopw [13] (fun u13 wr => ∃ (k : Nat), u13 = .int .i64 k ∧ a ≤ k ∧ k ≤ b ∧ Hid (WK w0 blk n wr)) (fun u13 _ => b - (intOf u13).toNat)
        case atStart => exact ⟨a, rfl, Nat.le_refl _, by omega, HW⟩
        case round =>
          clear HW
          obtain ⟨k, rfl, hk, hkb, HW⟩ := hrel
          by_cases hki : k + 1 < i
          · have tK : (k : Int) < (i : Int) - 1 := by omega
            obtain ⟨k1, ek1, ek1I⟩ : ∃ k1 : Nat, k1 = k + 1 ∧ IntKind.i64.wrap ((k : Int) + 1) = (k1 : Int) := ⟨k + 1, rfl, by rw [i64_w]; unfold wrap64; omega⟩
            have b1 : (k : Int) < (n : Int) := by omega
            have b2 : (k1 : Int) < (n : Int) := by omega
            have hk1 : k < k1 := by omega
            have hk2 : k1 ≤ k + 1 := by omega
            clear ek1
            obtain ⟨dk, hds, hS⟩ := HW.out
            have S1 := Lib.hid hS
            clear hS
            obtain ⟨ca0, ca1⟩ := sw_at S1.out HR.out (by omega) (k) (by omega)
            obtain ⟨cb0, cb1⟩ := sw_at S1.out HR.out (by omega) (k1) (by omega)
            obtain ⟨za0, za1⟩ := sw_fz S1.out HR.out (by omega) (k) (by omega)
            obtain ⟨zb0, zb1⟩ := sw_fz S1.out HR.out (by omega) (k1) (by omega)
            have S2 := Lib.hid (sw_swap S1.out HR.out (k) (k1) (by omega) (by omega) _ _ rfl rfl)
            rw [hds] at S2
            generalize dk[k]! = X at *
            generalize dk[k1]! = Y at *
            clear S1
            have cc0 := far2 (u := .string Y.f0) (u' := .string Y.f1) cb0 (show (k1) * 2 ≠ (k) * 2 by omega) (by omega)
            have cc1 := far2 (u := .string Y.f0) (u' := .string Y.f1) cb1 (show (k1) * 2 + 1 ≠ (k) * 2 by omega) (by omega)
            go_wp2_with fail
            go_big_region_o
            go_wp2
            go_roundw
            case rel => exact ⟨k1, rfl, by omega, by omega, S2⟩
            case measure => simp [intOf]; omega
          · have tK : ¬ (k : Int) < (i : Int) - 1 := by omega
            go_wp2
            refine bodyPost_ret (results_none rfl _ _ _) rfl ?_
            exact ⟨rfl, HW.out⟩
  · have t1 : ((m : Int) - (a : Int) == 1) = false := by rw [beq_eq_false_iff_ne]; omega
    have hma1 : a + 1 < m := by omega
    clear hma
    by_cases hmb : b = m + 1
    · have t2 : ((b : Int) - (m : Int) == 1) = true := by rw [beq_iff_eq]; omega
      have hmb1 : b ≤ m + 1 := by omega
      clear hmb
      go_enter Try.func181, Try.ntmps181
      go_wp2
      clear t1 t2
      go_loopw [14, 15, 16] (fun u14 u15 _ wr => ∃ (i j : Nat), u14 = .int .i64 i ∧ u15 = .int .i64 j ∧ a ≤ i ∧ i ≤ j ∧ j ≤ m ∧ Hid (WK w0 blk n wr)) (fun u14 u15 _ _ => (intOf u15).toNat - (intOf u14).toNat)
      case atStart => exact ⟨a, m, rfl, rfl, Nat.le_refl _, by omega, Nat.le_refl _, HW⟩
      case round =>
        clear HW
        obtain ⟨i, j, rfl, rfl, hi, hij, hj, HW⟩ := hrel
        by_cases hlt : i < j
        · have tI : (i : Int) < (j : Int) := by omega
          obtain ⟨h, eh⟩ : ∃ h : Nat, h = (i + j) / 2 := ⟨_, rfl⟩
          have ehI : ((i : Int) + (j : Int)) / 2 = (h : Int) := by omega
          have hlo : i ≤ h := by omega
          have hhi : h < j := by omega
          clear eh
          obtain ⟨dk, hds, hS⟩ := HW.out
          have S1 := Lib.hid hS
          clear hS
          obtain ⟨X, eX⟩ : ∃ X, dk[m]! = X := ⟨_, rfl⟩
          obtain ⟨Y, eY⟩ : ∃ Y, dk[h]! = Y := ⟨_, rfl⟩
          obtain ⟨lx0, lx1⟩ := sw_atg S1.out HR.out (by omega) m (by omega) X eX
          obtain ⟨ly0, ly1⟩ := sw_atg S1.out HR.out (by omega) h (by omega) Y eY
          obtain ⟨c, ec⟩ : ∃ c, cfN X Y = c := ⟨_, rfl⟩
          have HC := Lib.hid (fun q os => sw_cmp S1.out X Y c ec q os)
          clear eX eY ec
          have b1 : (h : Int) < (n : Int) := by omega
          have b2 : (m : Int) < (n : Int) := by omega
          by_cases hc : c < 0
          · have hd : decide (c < 0) = true := decide_eq_true hc
            go_wp2_with fail
            go_quiet_grown (first | (go_at_call 112; refine Calls.grown_of (HC.out _ _)))
            have HW2 := Lib.hid (show WK w0 blk n (grow (wr.drewN nq) osq) from ⟨dk, hds, S1.out.grown nq osq⟩)
            clear lx0 lx1 ly0 ly1 HC S1
            generalize grow (wr.drewN nq) osq = w2 at HW2 ⊢
            clear nq osq
            go_wp2
            go_roundw
            case rel => exact ⟨i, h, rfl, rfl, hi, by omega, by omega, HW2⟩
            case measure => simp [intOf]; omega
          · have hd : decide (c < 0) = false := decide_eq_false hc
            go_wp2_with fail
            go_quiet_grown (first | (go_at_call 112; refine Calls.grown_of (HC.out _ _)))
            have HW2 := Lib.hid (show WK w0 blk n (grow (wr.drewN nq) osq) from ⟨dk, hds, S1.out.grown nq osq⟩)
            clear lx0 lx1 ly0 ly1 HC S1
            generalize grow (wr.drewN nq) osq = w2 at HW2 ⊢
            clear nq osq
            go_wp2
            go_roundw
            case rel => exact ⟨h + 1, j, by go_num, rfl, by omega, by omega, hj, HW2⟩
            case measure => simp [intOf]; omega
        · have tI : ¬ (i : Int) < (j : Int) := by omega
          have hib : i ≤ m := by omega
          go_wp2
          clear tI hlt hij
          go_loopw [17] (fun u17 wr => ∃ (k : Nat), u17 = .int .i64 k ∧ i ≤ k ∧ k ≤ m ∧ Hid (WK w0 blk n wr)) (fun u17 _ => (intOf u17).toNat)
          case atStart => exact ⟨m, rfl, hib, Nat.le_refl _, HW⟩
          case round =>
            clear HW
            obtain ⟨k, rfl, hk, hkb, HW⟩ := hrel
            by_cases hki : i < k
            · have tK : (i : Int) < (k : Int) := by omega
              obtain ⟨k1, ek1, ek1I⟩ : ∃ k1 : Nat, k = k1 + 1 ∧ IntKind.i64.wrap ((k : Int) - 1) = (k1 : Int) := ⟨k - 1, by omega, by rw [i64_w]; unfold wrap64; omega⟩
              have b1 : (k : Int) < (n : Int) := by omega
              have b2 : (k1 : Int) < (n : Int) := by omega
              have hk1 : k1 < k := by omega
              have hk2 : k ≤ k1 + 1 := by omega
              clear ek1
              obtain ⟨dk, hds, hS⟩ := HW.out
              have S1 := Lib.hid hS
              clear hS
              obtain ⟨ca0, ca1⟩ := sw_at S1.out HR.out (by omega) (k) (by omega)
              obtain ⟨cb0, cb1⟩ := sw_at S1.out HR.out (by omega) (k1) (by omega)
              obtain ⟨za0, za1⟩ := sw_fz S1.out HR.out (by omega) (k) (by omega)
              obtain ⟨zb0, zb1⟩ := sw_fz S1.out HR.out (by omega) (k1) (by omega)
              have S2 := Lib.hid (sw_swap S1.out HR.out (k) (k1) (by omega) (by omega) _ _ rfl rfl)
              rw [hds] at S2
              generalize dk[k]! = X at *
              generalize dk[k1]! = Y at *
              clear S1
              have cc0 := far2 (u := .string Y.f0) (u' := .string Y.f1) cb0 (show (k1) * 2 ≠ (k) * 2 by omega) (by omega)
              have cc1 := far2 (u := .string Y.f0) (u' := .string Y.f1) cb1 (show (k1) * 2 + 1 ≠ (k) * 2 by omega) (by omega)
              go_wp2_with fail
              go_big_region_o
              go_wp2
              go_roundw
              case rel => exact ⟨k1, rfl, by omega, by omega, S2⟩
              case measure => simp [intOf]; omega
            · have tK : ¬ (i : Int) < (k : Int) := by omega
              go_wp2
              refine bodyPost_ret (results_none rfl _ _ _) rfl ?_
              exact ⟨rfl, HW.out⟩
    · have t2 : ((b : Int) - (m : Int) == 1) = false := by rw [beq_eq_false_iff_ne]; omega
      have hmb1 : m + 1 < b := by omega
      clear hmb
      obtain ⟨mid, emid⟩ : ∃ mid : Nat, mid = (a + b) / 2 := ⟨_, rfl⟩
      have emidI : ((a : Int) + (b : Int)) / 2 = (mid : Int) := by omega
      have hm1 : a < mid := by omega
      have hm2 : mid < b := by omega
      obtain ⟨st, rr, hst, hSR⟩ : ∃ st rr : Nat, (if (mid : Int) < (m : Int) then (Value.int .i64 ((mid : Int) + (m : Int) - (b : Int)), Value.int .i64 (mid : Int)) else (Value.int .i64 (a : Int), Value.int .i64 (m : Int))) = (Value.int .i64 (st : Int), Value.int .i64 (rr : Int)) ∧ a ≤ st ∧ st ≤ rr ∧ rr ≤ mid ∧ rr ≤ m ∧ mid + m ≤ st + b := by
        by_cases hmm : mid < m
        · refine ⟨mid + m - b, mid, ?_, by omega, by omega, by omega, by omega, by omega⟩
          rw [if_pos (by omega)]
          congr 2
          omega
        · refine ⟨a, m, ?_, by omega, by omega, by omega, by omega, by omega⟩
          rw [if_neg (by omega)]
      obtain ⟨hs1, hs2, hs3, hs4, hs5⟩ := hSR
      have hgo : ∀ (F : Value → Value → Prop), F (.int .i64 (st : Int)) (.int .i64 (rr : Int)) → True := fun _ _ => trivial
      clear hgo
      by_cases hmm : (mid : Int) < (m : Int)
      · rw [if_pos hmm] at hst
        injection hst with e1 e2
        injection e1 with _ e1
        injection e2 with _ e2
        have e2' : mid = rr := by omega
        subst e2'
        have e1I : (mid : Int) + (m : Int) - (b : Int) = (st : Int) := by omega
        clear emid e2 e1
        go_enter Try.func181, Try.ntmps181
        go_wp2
        clear t1 t2 hmm
        go_loopw [20, 21, 23] (fun u20 u21 _ wr => ∃ (i j : Nat), u20 = .int .i64 i ∧ u21 = .int .i64 j ∧ st ≤ i ∧ i ≤ j ∧ j ≤ mid ∧ Hid (WK w0 blk n wr)) (fun u20 u21 _ _ => (intOf u21).toNat - (intOf u20).toNat)
        case atStart => exact ⟨st, mid, rfl, rfl, Nat.le_refl _, by omega, Nat.le_refl _, HW⟩
        case round =>
          clear HW
          obtain ⟨i, j, rfl, rfl, hi, hij, hj, HW⟩ := hrel
          by_cases hlt : i < j
          · have tI : (i : Int) < (j : Int) := by omega
            obtain ⟨h, eh⟩ : ∃ h : Nat, h = (i + j) / 2 := ⟨_, rfl⟩
            have ehI : ((i : Int) + (j : Int)) / 2 = (h : Int) := by omega
            have hlo : i ≤ h := by omega
            have hhi : h < j := by omega
            clear eh
            obtain ⟨q, eq, eqI⟩ : ∃ q : Nat, q + h + 1 = mid + m ∧ IntKind.i64.wrap ((mid : Int) + (m : Int) - 1 - (h : Int)) = (q : Int) := ⟨mid + m - 1 - h, by omega, by rw [i64_w]; unfold wrap64; omega⟩
            have hqb : q < b := by omega
            clear eq
            obtain ⟨dk, hds, hS⟩ := HW.out
            have S1 := Lib.hid hS
            clear hS
            obtain ⟨X, eX⟩ : ∃ X, dk[q]! = X := ⟨_, rfl⟩
            obtain ⟨Y, eY⟩ : ∃ Y, dk[h]! = Y := ⟨_, rfl⟩
            obtain ⟨lx0, lx1⟩ := sw_atg S1.out HR.out (by omega) q (by omega) X eX
            obtain ⟨ly0, ly1⟩ := sw_atg S1.out HR.out (by omega) h (by omega) Y eY
            obtain ⟨c, ec⟩ : ∃ c, cfN X Y = c := ⟨_, rfl⟩
            have HC := Lib.hid (fun q os => sw_cmp S1.out X Y c ec q os)
            clear eX eY ec
            have b1 : (h : Int) < (n : Int) := by omega
            have b2 : (q : Int) < (n : Int) := by omega
            by_cases hc : c < 0
            · have hd : decide (c < 0) = true := decide_eq_true hc
              go_wp2_with fail
              go_quiet_grown (first | (go_at_call 112; refine Calls.grown_of (HC.out _ _)))
              have HW2 := Lib.hid (show WK w0 blk n (grow (wr.drewN nq) osq) from ⟨dk, hds, S1.out.grown nq osq⟩)
              clear lx0 lx1 ly0 ly1 HC S1
              generalize grow (wr.drewN nq) osq = w2 at HW2 ⊢
              clear nq osq
              go_wp2
              go_roundw
              case rel => exact ⟨i, h, rfl, rfl, hi, by omega, by omega, HW2⟩
              case measure => simp [intOf]; omega
            · have hd : decide (c < 0) = false := decide_eq_false hc
              go_wp2_with fail
              go_quiet_grown (first | (go_at_call 112; refine Calls.grown_of (HC.out _ _)))
              have HW2 := Lib.hid (show WK w0 blk n (grow (wr.drewN nq) osq) from ⟨dk, hds, S1.out.grown nq osq⟩)
              clear lx0 lx1 ly0 ly1 HC S1
              generalize grow (wr.drewN nq) osq = w2 at HW2 ⊢
              clear nq osq
              go_wp2
              go_roundw
              case rel => exact ⟨h + 1, j, by go_num, rfl, by omega, by omega, hj, HW2⟩
              case measure => simp [intOf]; omega
          · have tI : ¬ (i : Int) < (j : Int) := by omega
            obtain ⟨en, een, eenI⟩ : ∃ en : Nat, en + i = mid + m ∧ (mid : Int) + (m : Int) - (i : Int) = (en : Int) := ⟨mid + m - i, by omega, by omega⟩
            have hen : en ≤ b := by omega
            have hai : a ≤ i := by omega
            have him : i ≤ mid := by omega
            have hrot := Lib.hid (fun (h1 : i < m) (h2 : m < en) => rotate190 w0 wr blk cap n d0 HR.out hn hsz i m en h1 h2 (by omega) HW.out)
            have hl := Lib.hid (fun (W : World) (h1 : a < i) (h2 : i < mid) (hW : WK w0 blk n W) => IH.out a i mid W (by omega) h1 h2 (by omega) hW)
            have hr := Lib.hid (fun (W : World) (h1 : mid < en) (h2 : en < b) (hW : WK w0 blk n W) => IH.out mid en b W (by omega) h1 h2 (by omega) hW)
            clear hij hlt
            by_cases p1 : i < m ∧ m < en
            · have p1a : (i : Int) < (m : Int) := by omega
              have p1b : (m : Int) < (en : Int) := by omega
              have d1a : decide ((i : Int) < (m : Int)) = true := decide_eq_true p1a
              have d1b : decide ((m : Int) < (en : Int)) = true := decide_eq_true p1b
              go_wp2_with fail
              (with_reducible refine (hrot.out p1.1 p1.2).mono ?_)
              rintro e wA ⟨rfl, hWA⟩
              have HWA := Lib.hid hWA
              clear hWA p1 p1a p1b d1a d1b HW
              by_cases p2 : a < i ∧ i < mid
              · have p2a : (a : Int) < (i : Int) := by omega
                have p2b : (i : Int) < (mid : Int) := by omega
                go_wp2_with fail
                (with_reducible refine (hl.out _ p2.1 p2.2 HWA.out).mono ?_)
                rintro e wB ⟨rfl, hWB⟩
                have HWB := Lib.hid hWB
                clear hWB p2 p2a p2b HWA
                by_cases p3 : mid < en ∧ en < b
                · have p3a : (mid : Int) < (en : Int) := by omega
                  have p3b : (en : Int) < (b : Int) := by omega
                  go_wp2_with fail
                  try
                    (with_reducible refine (hr.out _ p3.1 p3.2 HWB.out).mono ?_)
                    rintro e wC ⟨rfl, hWC⟩
                    go_wp2
                    go_end0
                    exact ⟨rfl, hWC⟩
                · by_cases p3a : (mid : Int) < (en : Int)
                  · have p3b : ¬ (en : Int) < (b : Int) := by omega
                    go_wp2
                    try (go_end0; exact ⟨rfl, HWB.out⟩)
                  · go_wp2
                    try (go_end0; exact ⟨rfl, HWB.out⟩)
              · by_cases p2a : (a : Int) < (i : Int)
                · have p2b : ¬ (i : Int) < (mid : Int) := by omega
                  by_cases p3 : mid < en ∧ en < b
                  · have p3a : (mid : Int) < (en : Int) := by omega
                    have p3b : (en : Int) < (b : Int) := by omega
                    go_wp2_with fail
                    try
                      (with_reducible refine (hr.out _ p3.1 p3.2 HWA.out).mono ?_)
                      rintro e wC ⟨rfl, hWC⟩
                      go_wp2
                      go_end0
                      exact ⟨rfl, hWC⟩
                  · by_cases p3a : (mid : Int) < (en : Int)
                    · have p3b : ¬ (en : Int) < (b : Int) := by omega
                      go_wp2
                      try (go_end0; exact ⟨rfl, HWA.out⟩)
                    · go_wp2
                      try (go_end0; exact ⟨rfl, HWA.out⟩)
                · skip
                  by_cases p3 : mid < en ∧ en < b
                  · have p3a : (mid : Int) < (en : Int) := by omega
                    have p3b : (en : Int) < (b : Int) := by omega
                    go_wp2_with fail
                    try
                      (with_reducible refine (hr.out _ p3.1 p3.2 HWA.out).mono ?_)
                      rintro e wC ⟨rfl, hWC⟩
                      go_wp2
                      go_end0
                      exact ⟨rfl, hWC⟩
                  · by_cases p3a : (mid : Int) < (en : Int)
                    · have p3b : ¬ (en : Int) < (b : Int) := by omega
                      go_wp2
                      try (go_end0; exact ⟨rfl, HWA.out⟩)
                    · go_wp2
                      try (go_end0; exact ⟨rfl, HWA.out⟩)
            · have HWA := HW
              by_cases p1a : (i : Int) < (m : Int)
              · have p1b : ¬ (m : Int) < (en : Int) := by omega
                by_cases p2 : a < i ∧ i < mid
                · have p2a : (a : Int) < (i : Int) := by omega
                  have p2b : (i : Int) < (mid : Int) := by omega
                  go_wp2_with fail
                  (with_reducible refine (hl.out _ p2.1 p2.2 HWA.out).mono ?_)
                  rintro e wB ⟨rfl, hWB⟩
                  have HWB := Lib.hid hWB
                  clear hWB p2 p2a p2b HWA
                  by_cases p3 : mid < en ∧ en < b
                  · have p3a : (mid : Int) < (en : Int) := by omega
                    have p3b : (en : Int) < (b : Int) := by omega
                    go_wp2_with fail
                    try
                      (with_reducible refine (hr.out _ p3.1 p3.2 HWB.out).mono ?_)
                      rintro e wC ⟨rfl, hWC⟩
                      go_wp2
                      go_end0
                      exact ⟨rfl, hWC⟩
                  · by_cases p3a : (mid : Int) < (en : Int)
                    · have p3b : ¬ (en : Int) < (b : Int) := by omega
                      go_wp2
                      try (go_end0; exact ⟨rfl, HWB.out⟩)
                    · go_wp2
                      try (go_end0; exact ⟨rfl, HWB.out⟩)
                · by_cases p2a : (a : Int) < (i : Int)
                  · have p2b : ¬ (i : Int) < (mid : Int) := by omega
                    by_cases p3 : mid < en ∧ en < b
                    · have p3a : (mid : Int) < (en : Int) := by omega
                      have p3b : (en : Int) < (b : Int) := by omega
                      go_wp2_with fail
                      try
                        (with_reducible refine (hr.out _ p3.1 p3.2 HWA.out).mono ?_)
                        rintro e wC ⟨rfl, hWC⟩
                        go_wp2
                        go_end0
                        exact ⟨rfl, hWC⟩
                    · by_cases p3a : (mid : Int) < (en : Int)
                      · have p3b : ¬ (en : Int) < (b : Int) := by omega
                        go_wp2
                        try (go_end0; exact ⟨rfl, HWA.out⟩)
                      · go_wp2
                        try (go_end0; exact ⟨rfl, HWA.out⟩)
                  · skip
                    by_cases p3 : mid < en ∧ en < b
                    · have p3a : (mid : Int) < (en : Int) := by omega
                      have p3b : (en : Int) < (b : Int) := by omega
                      go_wp2_with fail
                      try
                        (with_reducible refine (hr.out _ p3.1 p3.2 HWA.out).mono ?_)
                        rintro e wC ⟨rfl, hWC⟩
                        go_wp2
                        go_end0
                        exact ⟨rfl, hWC⟩
                    · by_cases p3a : (mid : Int) < (en : Int)
                      · have p3b : ¬ (en : Int) < (b : Int) := by omega
                        go_wp2
                        try (go_end0; exact ⟨rfl, HWA.out⟩)
                      · go_wp2
                        try (go_end0; exact ⟨rfl, HWA.out⟩)
              · skip
                by_cases p2 : a < i ∧ i < mid
                · have p2a : (a : Int) < (i : Int) := by omega
                  have p2b : (i : Int) < (mid : Int) := by omega
                  go_wp2_with fail
                  (with_reducible refine (hl.out _ p2.1 p2.2 HWA.out).mono ?_)
                  rintro e wB ⟨rfl, hWB⟩
                  have HWB := Lib.hid hWB
                  clear hWB p2 p2a p2b HWA
                  by_cases p3 : mid < en ∧ en < b
                  · have p3a : (mid : Int) < (en : Int) := by omega
                    have p3b : (en : Int) < (b : Int) := by omega
                    go_wp2_with fail
                    try
                      (with_reducible refine (hr.out _ p3.1 p3.2 HWB.out).mono ?_)
                      rintro e wC ⟨rfl, hWC⟩
                      go_wp2
                      go_end0
                      exact ⟨rfl, hWC⟩
                  · by_cases p3a : (mid : Int) < (en : Int)
                    · have p3b : ¬ (en : Int) < (b : Int) := by omega
                      go_wp2
                      try (go_end0; exact ⟨rfl, HWB.out⟩)
                    · go_wp2
                      try (go_end0; exact ⟨rfl, HWB.out⟩)
                · by_cases p2a : (a : Int) < (i : Int)
                  · have p2b : ¬ (i : Int) < (mid : Int) := by omega
                    by_cases p3 : mid < en ∧ en < b
                    · have p3a : (mid : Int) < (en : Int) := by omega
                      have p3b : (en : Int) < (b : Int) := by omega
                      go_wp2_with fail
                      try
                        (with_reducible refine (hr.out _ p3.1 p3.2 HWA.out).mono ?_)
                        rintro e wC ⟨rfl, hWC⟩
                        go_wp2
                        go_end0
                        exact ⟨rfl, hWC⟩
                    · by_cases p3a : (mid : Int) < (en : Int)
                      · have p3b : ¬ (en : Int) < (b : Int) := by omega
                        go_wp2
                        try (go_end0; exact ⟨rfl, HWA.out⟩)
                      · go_wp2
                        try (go_end0; exact ⟨rfl, HWA.out⟩)
                  · skip
                    by_cases p3 : mid < en ∧ en < b
                    · have p3a : (mid : Int) < (en : Int) := by omega
                      have p3b : (en : Int) < (b : Int) := by omega
                      go_wp2_with fail
                      try
                        (with_reducible refine (hr.out _ p3.1 p3.2 HWA.out).mono ?_)
                        rintro e wC ⟨rfl, hWC⟩
                        go_wp2
                        go_end0
                        exact ⟨rfl, hWC⟩
                    · by_cases p3a : (mid : Int) < (en : Int)
                      · have p3b : ¬ (en : Int) < (b : Int) := by omega
                        go_wp2
                        try (go_end0; exact ⟨rfl, HWA.out⟩)
                      · go_wp2
                        try (go_end0; exact ⟨rfl, HWA.out⟩)
      · rw [if_neg hmm] at hst
        injection hst with e1 e2
        injection e1 with _ e1
        injection e2 with _ e2
        have e1' : a = st := by omega
        have e2' : m = rr := by omega
        subst e1' e2'
        clear emid e1 e2
        go_enter Try.func181, Try.ntmps181
        go_wp2
        clear t1 t2 hmm
        go_loopw [20, 21, 23] (fun u20 u21 _ wr => ∃ (i j : Nat), u20 = .int .i64 i ∧ u21 = .int .i64 j ∧ a ≤ i ∧ i ≤ j ∧ j ≤ m ∧ Hid (WK w0 blk n wr)) (fun u20 u21 _ _ => (intOf u21).toNat - (intOf u20).toNat)
        case atStart => exact ⟨a, m, rfl, rfl, Nat.le_refl _, by omega, Nat.le_refl _, HW⟩
        case round =>
          clear HW
          obtain ⟨i, j, rfl, rfl, hi, hij, hj, HW⟩ := hrel
          by_cases hlt : i < j
          · have tI : (i : Int) < (j : Int) := by omega
            obtain ⟨h, eh⟩ : ∃ h : Nat, h = (i + j) / 2 := ⟨_, rfl⟩
            have ehI : ((i : Int) + (j : Int)) / 2 = (h : Int) := by omega
            have hlo : i ≤ h := by omega
            have hhi : h < j := by omega
            clear eh
            obtain ⟨q, eq, eqI⟩ : ∃ q : Nat, q + h + 1 = mid + m ∧ IntKind.i64.wrap ((mid : Int) + (m : Int) - 1 - (h : Int)) = (q : Int) := ⟨mid + m - 1 - h, by omega, by rw [i64_w]; unfold wrap64; omega⟩
            have hqb : q < b := by omega
            clear eq
            obtain ⟨dk, hds, hS⟩ := HW.out
            have S1 := Lib.hid hS
            clear hS
            obtain ⟨X, eX⟩ : ∃ X, dk[q]! = X := ⟨_, rfl⟩
            obtain ⟨Y, eY⟩ : ∃ Y, dk[h]! = Y := ⟨_, rfl⟩
            obtain ⟨lx0, lx1⟩ := sw_atg S1.out HR.out (by omega) q (by omega) X eX
            obtain ⟨ly0, ly1⟩ := sw_atg S1.out HR.out (by omega) h (by omega) Y eY
            obtain ⟨c, ec⟩ : ∃ c, cfN X Y = c := ⟨_, rfl⟩
            have HC := Lib.hid (fun q os => sw_cmp S1.out X Y c ec q os)
            clear eX eY ec
            have b1 : (h : Int) < (n : Int) := by omega
            have b2 : (q : Int) < (n : Int) := by omega
            by_cases hc : c < 0
            · have hd : decide (c < 0) = true := decide_eq_true hc
              go_wp2_with fail
              go_quiet_grown (first | (go_at_call 112; refine Calls.grown_of (HC.out _ _)))
              have HW2 := Lib.hid (show WK w0 blk n (grow (wr.drewN nq) osq) from ⟨dk, hds, S1.out.grown nq osq⟩)
              clear lx0 lx1 ly0 ly1 HC S1
              generalize grow (wr.drewN nq) osq = w2 at HW2 ⊢
              clear nq osq
              go_wp2
              go_roundw
              case rel => exact ⟨i, h, rfl, rfl, hi, by omega, by omega, HW2⟩
              case measure => simp [intOf]; omega
            · have hd : decide (c < 0) = false := decide_eq_false hc
              go_wp2_with fail
              go_quiet_grown (first | (go_at_call 112; refine Calls.grown_of (HC.out _ _)))
              have HW2 := Lib.hid (show WK w0 blk n (grow (wr.drewN nq) osq) from ⟨dk, hds, S1.out.grown nq osq⟩)
              clear lx0 lx1 ly0 ly1 HC S1
              generalize grow (wr.drewN nq) osq = w2 at HW2 ⊢
              clear nq osq
              go_wp2
              go_roundw
              case rel => exact ⟨h + 1, j, by go_num, rfl, by omega, by omega, hj, HW2⟩
              case measure => simp [intOf]; omega
          · have tI : ¬ (i : Int) < (j : Int) := by omega
            obtain ⟨en, een, eenI⟩ : ∃ en : Nat, en + i = mid + m ∧ (mid : Int) + (m : Int) - (i : Int) = (en : Int) := ⟨mid + m - i, by omega, by omega⟩
            have hen : en ≤ b := by omega
            have hai : a ≤ i := by omega
            have him : i ≤ mid := by omega
            have hrot := Lib.hid (fun (h1 : i < m) (h2 : m < en) => rotate190 w0 wr blk cap n d0 HR.out hn hsz i m en h1 h2 (by omega) HW.out)
            have hl := Lib.hid (fun (W : World) (h1 : a < i) (h2 : i < mid) (hW : WK w0 blk n W) => IH.out a i mid W (by omega) h1 h2 (by omega) hW)
            have hr := Lib.hid (fun (W : World) (h1 : mid < en) (h2 : en < b) (hW : WK w0 blk n W) => IH.out mid en b W (by omega) h1 h2 (by omega) hW)
            clear hij hlt
            by_cases p1 : i < m ∧ m < en
            · have p1a : (i : Int) < (m : Int) := by omega
              have p1b : (m : Int) < (en : Int) := by omega
              have d1a : decide ((i : Int) < (m : Int)) = true := decide_eq_true p1a
              have d1b : decide ((m : Int) < (en : Int)) = true := decide_eq_true p1b
              go_wp2_with fail
              (with_reducible refine (hrot.out p1.1 p1.2).mono ?_)
              rintro e wA ⟨rfl, hWA⟩
              have HWA := Lib.hid hWA
              clear hWA p1 p1a p1b d1a d1b HW
              by_cases p2 : a < i ∧ i < mid
              · have p2a : (a : Int) < (i : Int) := by omega
                have p2b : (i : Int) < (mid : Int) := by omega
                go_wp2_with fail
                (with_reducible refine (hl.out _ p2.1 p2.2 HWA.out).mono ?_)
                rintro e wB ⟨rfl, hWB⟩
                have HWB := Lib.hid hWB
                clear hWB p2 p2a p2b HWA
                by_cases p3 : mid < en ∧ en < b
                · have p3a : (mid : Int) < (en : Int) := by omega
                  have p3b : (en : Int) < (b : Int) := by omega
                  go_wp2_with fail
                  try
                    (with_reducible refine (hr.out _ p3.1 p3.2 HWB.out).mono ?_)
                    rintro e wC ⟨rfl, hWC⟩
                    go_wp2
                    go_end0
                    exact ⟨rfl, hWC⟩
                · by_cases p3a : (mid : Int) < (en : Int)
                  · have p3b : ¬ (en : Int) < (b : Int) := by omega
                    go_wp2
                    try (go_end0; exact ⟨rfl, HWB.out⟩)
                  · go_wp2
                    try (go_end0; exact ⟨rfl, HWB.out⟩)
              · by_cases p2a : (a : Int) < (i : Int)
                · have p2b : ¬ (i : Int) < (mid : Int) := by omega
                  by_cases p3 : mid < en ∧ en < b
                  · have p3a : (mid : Int) < (en : Int) := by omega
                    have p3b : (en : Int) < (b : Int) := by omega
                    go_wp2_with fail
                    try
                      (with_reducible refine (hr.out _ p3.1 p3.2 HWA.out).mono ?_)
                      rintro e wC ⟨rfl, hWC⟩
                      go_wp2
                      go_end0
                      exact ⟨rfl, hWC⟩
                  · by_cases p3a : (mid : Int) < (en : Int)
                    · have p3b : ¬ (en : Int) < (b : Int) := by omega
                      go_wp2
                      try (go_end0; exact ⟨rfl, HWA.out⟩)
                    · go_wp2
                      try (go_end0; exact ⟨rfl, HWA.out⟩)
                · skip
                  by_cases p3 : mid < en ∧ en < b
                  · have p3a : (mid : Int) < (en : Int) := by omega
                    have p3b : (en : Int) < (b : Int) := by omega
                    go_wp2_with fail
                    try
                      (with_reducible refine (hr.out _ p3.1 p3.2 HWA.out).mono ?_)
                      rintro e wC ⟨rfl, hWC⟩
                      go_wp2
                      go_end0
                      exact ⟨rfl, hWC⟩
                  · by_cases p3a : (mid : Int) < (en : Int)
                    · have p3b : ¬ (en : Int) < (b : Int) := by omega
                      go_wp2
                      try (go_end0; exact ⟨rfl, HWA.out⟩)
                    · go_wp2
                      try (go_end0; exact ⟨rfl, HWA.out⟩)
            · have HWA := HW
              by_cases p1a : (i : Int) < (m : Int)
              · have p1b : ¬ (m : Int) < (en : Int) := by omega
                by_cases p2 : a < i ∧ i < mid
                · have p2a : (a : Int) < (i : Int) := by omega
                  have p2b : (i : Int) < (mid : Int) := by omega
                  go_wp2_with fail
                  (with_reducible refine (hl.out _ p2.1 p2.2 HWA.out).mono ?_)
                  rintro e wB ⟨rfl, hWB⟩
                  have HWB := Lib.hid hWB
                  clear hWB p2 p2a p2b HWA
                  by_cases p3 : mid < en ∧ en < b
                  · have p3a : (mid : Int) < (en : Int) := by omega
                    have p3b : (en : Int) < (b : Int) := by omega
                    go_wp2_with fail
                    try
                      (with_reducible refine (hr.out _ p3.1 p3.2 HWB.out).mono ?_)
                      rintro e wC ⟨rfl, hWC⟩
                      go_wp2
                      go_end0
                      exact ⟨rfl, hWC⟩
                  · by_cases p3a : (mid : Int) < (en : Int)
                    · have p3b : ¬ (en : Int) < (b : Int) := by omega
                      go_wp2
                      try (go_end0; exact ⟨rfl, HWB.out⟩)
                    · go_wp2
                      try (go_end0; exact ⟨rfl, HWB.out⟩)
                · by_cases p2a : (a : Int) < (i : Int)
                  · have p2b : ¬ (i : Int) < (mid : Int) := by omega
                    by_cases p3 : mid < en ∧ en < b
                    · have p3a : (mid : Int) < (en : Int) := by omega
                      have p3b : (en : Int) < (b : Int) := by omega
                      go_wp2_with fail
                      try
                        (with_reducible refine (hr.out _ p3.1 p3.2 HWA.out).mono ?_)
                        rintro e wC ⟨rfl, hWC⟩
                        go_wp2
                        go_end0
                        exact ⟨rfl, hWC⟩
                    · by_cases p3a : (mid : Int) < (en : Int)
                      · have p3b : ¬ (en : Int) < (b : Int) := by omega
                        go_wp2
                        try (go_end0; exact ⟨rfl, HWA.out⟩)
                      · go_wp2
                        try (go_end0; exact ⟨rfl, HWA.out⟩)
                  · skip
                    by_cases p3 : mid < en ∧ en < b
                    · have p3a : (mid : Int) < (en : Int) := by omega
                      have p3b : (en : Int) < (b : Int) := by omega
                      go_wp2_with fail
                      try
                        (with_reducible refine (hr.out _ p3.1 p3.2 HWA.out).mono ?_)
                        rintro e wC ⟨rfl, hWC⟩
                        go_wp2
                        go_end0
                        exact ⟨rfl, hWC⟩
                    · by_cases p3a : (mid : Int) < (en : Int)
                      · have p3b : ¬ (en : Int) < (b : Int) := by omega
                        go_wp2
                        try (go_end0; exact ⟨rfl, HWA.out⟩)
                      · go_wp2
                        try (go_end0; exact ⟨rfl, HWA.out⟩)
              · skip
                by_cases p2 : a < i ∧ i < mid
                · have p2a : (a : Int) < (i : Int) := by omega
                  have p2b : (i : Int) < (mid : Int) := by omega
                  go_wp2_with fail
                  (with_reducible refine (hl.out _ p2.1 p2.2 HWA.out).mono ?_)
                  rintro e wB ⟨rfl, hWB⟩
                  have HWB := Lib.hid hWB
                  clear hWB p2 p2a p2b HWA
                  by_cases p3 : mid < en ∧ en < b
                  · have p3a : (mid : Int) < (en : Int) := by omega
                    have p3b : (en : Int) < (b : Int) := by omega
                    go_wp2_with fail
                    try
                      (with_reducible refine (hr.out _ p3.1 p3.2 HWB.out).mono ?_)
                      rintro e wC ⟨rfl, hWC⟩
                      go_wp2
                      go_end0
                      exact ⟨rfl, hWC⟩
                  · by_cases p3a : (mid : Int) < (en : Int)
                    · have p3b : ¬ (en : Int) < (b : Int) := by omega
                      go_wp2
                      try (go_end0; exact ⟨rfl, HWB.out⟩)
                    · go_wp2
                      try (go_end0; exact ⟨rfl, HWB.out⟩)
                · by_cases p2a : (a : Int) < (i : Int)
                  · have p2b : ¬ (i : Int) < (mid : Int) := by omega
                    by_cases p3 : mid < en ∧ en < b
                    · have p3a : (mid : Int) < (en : Int) := by omega
                      have p3b : (en : Int) < (b : Int) := by omega
                      go_wp2_with fail
                      try
                        (with_reducible refine (hr.out _ p3.1 p3.2 HWA.out).mono ?_)
                        rintro e wC ⟨rfl, hWC⟩
                        go_wp2
                        go_end0
                        exact ⟨rfl, hWC⟩
                    · by_cases p3a : (mid : Int) < (en : Int)
                      · have p3b : ¬ (en : Int) < (b : Int) := by omega
                        go_wp2
                        try (go_end0; exact ⟨rfl, HWA.out⟩)
                      · go_wp2
                        try (go_end0; exact ⟨rfl, HWA.out⟩)
                  · skip
                    by_cases p3 : mid < en ∧ en < b
                    · have p3a : (mid : Int) < (en : Int) := by omega
                      have p3b : (en : Int) < (b : Int) := by omega
                      go_wp2_with fail
                      try
                        (with_reducible refine (hr.out _ p3.1 p3.2 HWA.out).mono ?_)
                        rintro e wC ⟨rfl, hWC⟩
                        go_wp2
                        go_end0
                        exact ⟨rfl, hWC⟩
                    · by_cases p3a : (mid : Int) < (en : Int)
                      · have p3b : ¬ (en : Int) < (b : Int) := by omega
                        go_wp2
                        try (go_end0; exact ⟨rfl, HWA.out⟩)
                      · go_wp2
                        try (go_end0; exact ⟨rfl, HWA.out⟩)

theorem ins180w (w0 w : World) (blk cap n : Nat) (d0 : Array S68) (R : RowK encL 2 w0 blk 0 d0) (hn : d0.size = n) (hsz : n ≤ 1000000) (a b : Nat) (az bz : Int) (ea : az = (a : Int)) (eb : bz = (b : Int)) (hab : a ≤ b) (hb : b ≤ n) (hW : WK w0 blk n w) :
    Calls Try.prog 180 #[.slice (some ⟨blk, 0, none⟩) n cap, .int .i64 az, .int .i64 bz, .func (.func 112) #[] #[]] w fun e w' => e = .returned (.tuple #[]) ∧ WK w0 blk n w' := by
  subst ea eb
  obtain ⟨dk, hds, hS⟩ := hW
  have h := ins180 blk 0 cap a b dk w (hS.holds R.hblk R.hH (by omega)) (hS.lt R.hblk) hab (by omega) (by omega)
  rw [hds] at h
  refine h.mono ?_
  rintro e w' ⟨rfl, m, d', os, rfl, hP, -⟩
  exact ⟨rfl, d', by rw [hP.1]; exact hds, hS.on R.hblk m d' os hP.1⟩
theorem sym181z (w0 w : World) (blk cap n : Nat) (d0 : Array S68) (R : RowK encL 2 w0 blk 0 d0) (hn : d0.size = n) (hsz : n ≤ 1000000) (a m b : Nat) (az mz bz : Int) (ea : az = (a : Int)) (em : mz = (m : Int)) (eb : bz = (b : Int)) (h1 : a < m) (h2 : m < b) (h3 : b ≤ n) (hW : WK w0 blk n w) :
    Calls Try.prog 181 #[.slice (some ⟨blk, 0, none⟩) n cap, .int .i64 az, .int .i64 mz, .int .i64 bz, .func (.func 112) #[] #[]] w fun e w' => e = .returned (.tuple #[]) ∧ WK w0 blk n w' := by
  subst ea em eb
  exact sym181 w0 blk cap n d0 R hn hsz (b - a) a m b w (Nat.le_refl _) h1 h2 h3 hW
set_option maxRecDepth 1000000 in
set_option maxHeartbeats 8000000 in
/-- slices.stableCmpFunc. -/
theorem stable160w (w0 w : World) (blk cap n : Nat) (d0 : Array S68) (R : RowK encL 2 w0 blk 0 d0) (hn : d0.size = n) (hsz : n ≤ 1000) (hW : WK w0 blk n w) :
    Calls Try.prog 160 #[.slice (some ⟨blk, 0, none⟩) n cap, .int .i64 n, .func (.func 112) #[] #[]] w fun e w' => e = .returned (.tuple #[]) ∧ WK w0 blk n w' := by
  have HW := Lib.hid hW
  have HR := Lib.hid R
  clear hW R
  go_enter Try.func160, Try.ntmps160
  go_wp2
  go_loopw [7, 8] (fun u7 u8 wr => ∃ (a b : Nat), u7 = .int .i64 a ∧ u8 = .int .i64 b ∧ a ≤ n ∧ a + 20 ≤ b ∧ b ≤ a + 20 ∧ Hid (WK w0 blk n wr)) (fun u7 _ _ => n + 20 - (intOf u7).toNat)
  case atStart => exact ⟨0, 20, rfl, rfl, Nat.zero_le _, Nat.le_refl _, Nat.le_refl _, HW⟩
  case round =>
    clear HW
    obtain ⟨a, b, rfl, rfl, ha, hb1, hb2, HW⟩ := hrel
    by_cases hlt : b ≤ n
    · have tI : (b : Int) ≤ (n : Int) := by omega
      have hs := Lib.hid (ins180w w0 wr blk cap n d0 HR.out hn (by omega) a b _ _ rfl rfl (by omega) hlt HW.out)
      go_wp2_with fail
      (with_reducible refine hs.out.mono ?_)
      rintro e w1 ⟨rfl, hW1⟩
      have HW1 := Lib.hid hW1
      clear hW1
      go_wp2
      go_roundw
      case rel => exact ⟨b, b + 20, rfl, by go_num, hlt, Nat.le_refl _, Nat.le_refl _, HW1⟩
      case measure => simp [intOf]; omega
    · have tI : ¬ (b : Int) ≤ (n : Int) := by omega
      have hs := Lib.hid (ins180w w0 wr blk cap n d0 HR.out hn (by omega) a n _ _ rfl rfl ha (Nat.le_refl _) HW.out)
      go_wp2_with fail
      (with_reducible refine hs.out.mono ?_)
      rintro e w1 ⟨rfl, hW1⟩
      have HW1 := Lib.hid hW1
      clear hW1 tI hs hlt hb1 hb2
      rename World => w1'
      go_wp2
      go_loopw [6, 7, 8, 9] (fun u6 _ _ _ wr => ∃ (q : Nat), u6 = .int .i64 q ∧ 20 ≤ q ∧ q ≤ 2000 ∧ Hid (WK w0 blk n wr)) (fun u6 _ _ _ _ => n - (intOf u6).toNat)
      case atStart => exact ⟨20, rfl, Nat.le_refl _, by omega, HW1⟩
      case round =>
        clear HW1 HW
        obtain ⟨q, rfl, hq, hq2, HW⟩ := hrel
        by_cases hqn : q < n
        · have tq : (q : Int) < (n : Int) := by omega
          rename World => wo
          go_wp2
          clear tq
          go_loopw [7, 8] (fun u7 u8 wr => ∃ (a b : Nat), u7 = .int .i64 a ∧ u8 = .int .i64 b ∧ a ≤ n ∧ a + 2 * q ≤ b ∧ b ≤ a + 2 * q ∧ Hid (WK w0 blk n wr)) (fun u7 _ _ => n + 1 - (intOf u7).toNat)
          case atStart => exact ⟨0, 2 * q, rfl, by go_num, Nat.zero_le _, by omega, by omega, HW⟩
          case round =>
            clear HW
            obtain ⟨a, b, rfl, rfl, ha, hb1, hb2, HW⟩ := hrel
            by_cases hlt : b ≤ n
            · have tI : (b : Int) ≤ (n : Int) := by omega
              have hs := Lib.hid (sym181z w0 wr blk cap n d0 HR.out hn (by omega) a (a + q) b (a : Int) ((a : Int) + (q : Int)) (b : Int) rfl (by omega) rfl (by omega) (by omega) hlt HW.out)
              go_wp2_with fail
              (with_reducible refine hs.out.mono ?_)
              rintro e w2 ⟨rfl, hW2⟩
              have HW2 := Lib.hid hW2
              clear hW2
              go_wp2
              go_roundw
              case rel => exact ⟨b, b + 2 * q, rfl, by go_num, hlt, Nat.le_refl _, Nat.le_refl _, HW2⟩
              case measure => simp [intOf]; omega
            · have tI : ¬ (b : Int) ≤ (n : Int) := by omega
              by_cases hmn : a + q < n
              · have tm : (a : Int) + (q : Int) < (n : Int) := by omega
                have hs := Lib.hid (sym181z w0 wr blk cap n d0 HR.out hn (by omega) a (a + q) n (a : Int) ((a : Int) + (q : Int)) (n : Int) rfl (by omega) rfl (by omega) hmn (Nat.le_refl _) HW.out)
                go_wp2_with fail
                (with_reducible refine hs.out.mono ?_)
                rintro e w2 ⟨rfl, hW2⟩
                have HW2 := Lib.hid hW2
                clear hW2
                go_wp2
                go_roundw
                case rel => exact ⟨q * 2, by go_num, by omega, by omega, HW2⟩
                case measure => simp [intOf]; omega
              · have tm : ¬ (a : Int) + (q : Int) < (n : Int) := by omega
                go_wp2
                go_roundw
                case rel => exact ⟨q * 2, by go_num, by omega, by omega, HW⟩
                case measure => simp [intOf]; omega
        · have tq : ¬ (q : Int) < (n : Int) := by omega
          go_wp2
          go_end0
          exact ⟨rfl, HW.out⟩
set_option maxRecDepth 100000 in
set_option maxHeartbeats 4000000 in
/-- slices.SortStableFunc. -/
theorem sort111w (w0 w : World) (blk cap n : Nat) (d0 : Array S68) (R : RowK encL 2 w0 blk 0 d0) (hn : d0.size = n) (hsz : n ≤ 1000) (hW : WK w0 blk n w) :
    Calls Try.prog 111 #[.slice (some ⟨blk, 0, none⟩) n cap, .func (.func 112) #[] #[]] w fun e w' => e = .returned (.tuple #[]) ∧ WK w0 blk n w' := by
  have h := Lib.hid (stable160w w0 w blk cap n d0 R hn hsz hW)
  clear hW R
  go_enter Try.func111, Try.ntmps111
  go_wp2_with fail
  (with_reducible refine h.out.mono ?_)
  rintro e w1 ⟨rfl, hW1⟩
  go_wp2
  go_end0
  exact ⟨rfl, hW1⟩
theorem make_many {l : List S68} (h : 9 ≤ (fullS l).length) : makeS l = none := by
  unfold makeS
  rw [if_neg]
  intro hc
  have h1 := (chkS_iff _).1 hc
  rw [sortN_len] at h1
  omega
set_option maxRecDepth 100000 in
set_option maxHeartbeats 8000000 in
/-- label.Make, where twenty labels or more have a value. -/
theorem make69b (w : World) (l : List S68) (A : Option Addr) (c : Nat) (hl : l.length ≤ 1000) (hf : 20 ≤ (fullS l).length) (hC : Kd.C k68 w A l.length l) :
    Calls Try.prog 69 #[.slice A l.length c] w (MakePost w (makeS l)) := by
  have HC := Lib.hid hC
  have HF := Lib.hid hf
  clear hC hf
  obtain ⟨o, ho⟩ : ∃ o, makeS l = o := ⟨_, rfl⟩
  rw [ho]
  have HO := Lib.hid ho
  clear ho
  go_enter Try.func69, Try.ntmps69
  go_wp2
  go_loopw [4, 6, 9] (fun u4 _ u9 wr => ∃ (j : Nat), u9 = .int .i64 j ∧ j ≤ l.length ∧ wr.ownsRow w.heap.size 68 2 u4 (fullS (l.take j)).length ((fullS (l.take j)).flatMap encL) ∧ Below w.heap.size w wr)
    (fun _ _ u9 _ => l.length - (intOf u9).toNat)
  case atStart => exact ⟨0, rfl, Nat.zero_le _, by simpa [fullS] using World.ownsRow_nil w w.heap.size 68 2, Below.refl _ _⟩
  case round =>
    obtain ⟨j, rfl, hj, hO, hB⟩ := hrel
    by_cases hlt : j < l.length
    · obtain ⟨ad, rfl, a0, a1⟩ := at_lab (Kd.C_below HC.out hB) j hlt
      have Htk := Lib.hid (takeSn l z68 j hlt)
      obtain ⟨x, ex⟩ : ∃ x, l.getD j z68 = x := ⟨_, rfl⟩
      rw [ex] at a0 a1 Htk
      clear ex
      obtain ⟨V, eV⟩ : ∃ V, V = wr.alloc (.cells #[.string x.f0, .string x.f1] 68) := ⟨_, rfl⟩
      have hBV : Below wr.heap.size wr V := eV ▸ below_alloc (Below.refl _ _) _
      have hX : V.heap[wr.heap.size]? = some (.cells #[.string x.f0, .string x.f1] 68 (0, 0)) := by rw [eV]; exact blk_new wr _
      have HBw := Lib.hid (below_step hB hBV)
      have b0 : V.cell? ⟨wr.heap.size, 0, none⟩ = some (.string x.f0) := blk_cell hX 0
      have b1 : V.cell? ⟨wr.heap.size, 1, none⟩ = some (.string x.f1) := blk_cell hX 1
      have hOV := Lib.hid (pw_own_below hO hBV)
      have hfl : (fullS (l.take j)).length ≤ 1000 := Nat.le_trans (full_len _) (by simp; omega)
      obtain ⟨Au, cu, rfl⟩ := own_slice hO
      have hwV := HBw.out.size
      clear hO
      by_cases hx : x.f1 = ⟨#[]⟩
      · have hx1 : x.f1.toList.isEmpty = true := by rw [hx, emp_list]; rfl
        have HX := Lib.hid hx
        clear hx
        go_wp2_with fail
        rw [← eV]
        go_roundw
        case rel => exact ⟨j + 1, by go_num, by omega, by rw [Htk.out, full_snoc, if_neg (by rw [HX.out]; decide), List.append_nil]; exact hOV.out, HBw.out⟩
        case measure => simp [intOf]; omega
      · have hx1 : x.f1.toList.isEmpty = false := by
          cases hq : x.f1.toList.isEmpty with
          | false => rfl
          | true => exact absurd (ba_nilD (List.isEmpty_iff.1 hq)) hx
        have HX := Lib.hid (show 1 ≤ x.f1.size from by
          rcases Nat.eq_zero_or_pos x.f1.size with h | h
          · exact absurd (ByteArray.ext (Array.eq_empty_of_size_eq_zero h)) hx
          · exact h)
        clear hx
        have hsV : V.heap.size = wr.heap.size + 1 := by rw [eV]; simp
        rw [eV] at hOV HBw b0 b1
        have hsW : (wr.alloc (.cells #[.string x.f0, .string x.f1] 68)).heap.size = wr.heap.size + 1 := by simp
        have hwr := hB.size
        clear hX hBV hwV hsV eV
        go_wp2_with (at_builtin; refine print_append_cells (w0 := w) (W := wr.alloc (.cells #[.string x.f0, .string x.f1] 68)) w.heap.size rfl (.tmp 16) (.tmp 18) 28 68 (.agg #[.string ⟨#[]⟩, .string ⟨#[]⟩]) 2 32 rfl Try.underlying28 infoLb rfl (by decide) (by decide) (.slice Au (fullS (l.take j)).length cu) (fullS (l.take j)).length ((fullS (l.take j)).flatMap encL) [.string x.f0, .string x.f1] rfl (by rw [hsW]; rfl) rfl (by intro u hu; simp only [List.mem_cons, List.not_mem_nil, or_false] at hu; rcases hu with rfl | rfl <;> rfl) hOV.out HBw.out (by rw [hsW]; omega) (by omega) ?_; intro v2 w2 hown2 hb2 hg2 hat2)
        go_roundw
        case rel =>
          refine ⟨j + 1, by go_num, by omega, ?_, hb2⟩
          rw [Htk.out, full_snoc, if_pos HX.out, List.length_append, List.flatMap_append]
          exact hown2
        case measure => simp [intOf]; omega
    · obtain rfl : j = l.length := by omega
      rw [List.take_length] at hO
      rcases hO.2 with ⟨rfl, h0⟩ | ⟨g, cap, cur, rfl, hg, hblk, hcap, -, -, -⟩
      · exact absurd HF.out (by omega)
      · have hH := holds_of_own hO
        have hgl : g < wr.heap.size := (Array.getElem?_eq_some_iff.1 hblk).1
        have hsz : (fullS l).toArray.size = (fullS l).length := by simp
        have hfl : (fullS l).length ≤ 1000 := Nat.le_trans (full_len _) hl
        have RK : RowK encL 2 wr g 0 (fullS l).toArray := ⟨encL_len, encL_one, hH, hgl⟩
        have hs0 := sort111w wr wr g cap (fullS l).length (fullS l).toArray RK hsz hfl ⟨_, hsz, SWK.start hH⟩
        have hs := Lib.hid hs0
        have HH := Lib.hid hH
        clear hO hblk hH hs0 RK
        go_wp2_with fail
        (with_reducible refine hs.out.mono ?_)
        rintro e W2 ⟨rfl, d', hds, n, os, rfl⟩
        obtain ⟨W2, eW⟩ : ∃ W2, sortWorldK encL 2 wr g 0 n d' os = W2 := ⟨_, rfl⟩
        have HB2 := Lib.hid (show Below w.heap.size w W2 from by
          rw [← eW]; exact hB.trans (below_sorted hg hgl))
        have hH2 : HoldsK encL 2 W2 g 0 d' := by
          rw [← eW]; exact holdsK_sortWorldK encL 2 wr g 0 n _ d' os hgl HH.out (by rw [hds, hsz])
        have hC2 := C_of_holds hH2 (by omega)
        rw [eW]
        clear eW hH2
        obtain ⟨x, ex⟩ : ∃ x, d'.toList = x := ⟨_, rfl⟩
        have hlen : x.length = (fullS l).length := by rw [← ex]; simpa using hds
        rw [ex] at hC2
        rw [hds, ← hlen] at hC2
        have hon : o = none := by rw [← HO.out]; exact make_many (by have := HF.out; omega)
        have hc : chkS x = false := by
          cases hq : chkS x with
          | false => rfl
          | true => have := (chkS_iff x).1 hq; have := HF.out; omega
        subst hon
        have h62 := check62 W2 x (some ⟨g, 0, none⟩) cap hC2
        rw [hc] at h62
        have H62 := Lib.hid h62
        rw [← hlen]
        clear h62 hc ex hlen hsz hds hC2
        go_wp2_with fail
        (with_reducible refine H62.out.mono ?_)
        rintro e w3 ⟨rfl, hb3⟩
        go_wp2
        go_ret2
        exact ⟨rfl, below_step HB2.out hb3⟩
/-- label.Make. -/
theorem make69 (w : World) (l : List S68) (A : Option Addr) (c : Nat) (hl : l.length ≤ 1000) (hC : Kd.C k68 w A l.length l) :
    Calls Try.prog 69 #[.slice A l.length c] w (MakePost w (makeS l)) := by
  rcases Nat.lt_or_ge (fullS l).length 20 with h | h
  · exact make69s w l A c hl h hC
  · exact make69b w l A c hl h hC
end Go.Proofs.Yteafilojjdfllaa
