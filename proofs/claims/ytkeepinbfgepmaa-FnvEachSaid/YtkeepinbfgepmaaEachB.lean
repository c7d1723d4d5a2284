/- The iterator over hashes: its loop, whatever collector's bound. -/
import Derived.Test.YtkeepinbfgepmaaEachA
import Derived.Handy
namespace Go.Proofs.Ytkeepinbfgepmaa.Each
open Go.RowKit Go.Proofs.Ytkeepinbfgepmaa Go.Proofs.Ytkeepinbfgepmaa.PFnvEach Go.Proofs.YtkeepinbfgepmaaW.PrintWords Go.Proofs.YtkeepinbfgepmaaW.PrintLast

/-- a list of texts that reads so -/
def Texts (w : World) (A : Option Addr) (n : Nat) (ss : List ByteArray) : Prop := ReadsOf Value.string ByteArray.empty w A n ss
theorem Texts.at_ {w : World} {A : Option Addr} {n : Nat} {ss : List ByteArray} (h : Texts w A n ss) (i : Nat) (hi : i < n) : ∃ ad, A = some ad ∧ w.cell? (ad.add i) = some (.string (ss.getD i ByteArray.empty)) := by
  obtain ⟨ad, e, hc⟩ := h.2.2 (by omega)
  exact ⟨ad, e, hc i hi⟩

theorem take_snoc_hash (ss : List ByteArray) (k : Nat) (h : k < ss.length) : (ss.map hashOf).take (k + 1) = (ss.map hashOf).take k ++ [hashOf (ss.getD k ByteArray.empty)] := by
  rw [List.take_succ_eq_append_getElem (by simpa using h)]
  simp [List.getD_eq_getElem?_getD, List.getElem?_eq_getElem h]
theorem take_len (ss : List ByteArray) (k : Nat) (h : k ≤ ss.length) : ((ss.map hashOf).take k).length = k := by simp; omega
theorem Col.drew {w0 w : World} {xs : List Int} {m : Int} (h : Col w0 w xs m) (d : World) (hd : Drawn0 w d) : Col w0 d xs m := by
  obtain ⟨⟨n, rfl⟩⟩ := hd
  obtain ⟨h1, h2, v, h3, h4⟩ := h
  exact ⟨below_drewN h1 n, h2, v, h3, pw_own_below h4 (below_drewN (Below.refl _ _) n)⟩

theorem each1_any (w0 w : World) (m : Int) (A : Option Addr) (n c e : Nat) (ss : List ByteArray) (hc : Col w0 w [] m) (hm : 1 ≤ m) (hcell : w0.cell? ⟨e, 0, none⟩ = some (.slice A n c)) (hr : Texts w0 A n ss)
    (hn : n * 16 ≤ 140737488351232) (hsz : ∀ i, i < n → (ss.getD i ByteArray.empty).size ≤ 140737488351232) :
    Calls Try.prog 41 #[.func (.func 42) #[] #[.pointer (some ⟨w0.heap.size + 1, 0, none⟩), .pointer (some ⟨w0.heap.size, 0, none⟩)], .pointer (some ⟨e, 0, none⟩)] w (ColPost w0 ((ss.map hashOf).take m.toNat) m (.returned (.tuple #[]))) := by
  have hcw : w.cell? ⟨e, 0, none⟩ = some (.slice A n c) := pw_cell_below hc.1 hcell
  go_enter Try.func41, Try.ntmps41
  go_wp2
  have hcw0 := hcw
  have hlen := hr.1
  go_loopw [7] (fun i wr => ∃ k : Nat, k ≤ n ∧ i = .int .i64 k ∧ (k : Int) < m ∧ Col w0 wr ((ss.map hashOf).take k) m) (fun i _ => n - (intOf i).toNat)
  case atStart => exact ⟨0, Nat.zero_le _, rfl, by omega, by simpa using hc⟩
  case round =>
    obtain ⟨k, hk, rfl, hkm, hcol⟩ := hrel
    by_cases hlt : k < n
    · obtain ⟨ad, rfl, hx0⟩ := hr.at_ k hlt
      have hx := pw_cell_below hcol.1 hx0
      have hz := hsz k hlt
      have hts := take_snoc_hash ss k (by omega)
      obtain ⟨x, ex⟩ : ∃ x, ss.getD k ByteArray.empty = x := ⟨_, rfl⟩
      rw [ex] at hx hz hts
      have Hts := Lib.hid hts
      have hlk := take_len ss k (by omega)
      obtain ⟨xs, exs⟩ : ∃ xs, (ss.map hashOf).take k = xs := ⟨_, rfl⟩
      rw [exs] at hlk hcol
      have Hxs := Lib.hid exs
      have Hlk := Lib.hid hlk
      clear hts ex exs hlk hx0 hr hcw hcw0
      by_cases hb : (k : Int) + 1 < m
      · go_wp2_with (first | (go_at_call 16; (with_reducible refine (of_any x _ hz).mono ?_); rintro e wd ⟨rfl, hd⟩; have hcd := hcol.drew _ hd) | (go_at_call 42; (with_reducible refine (yield_any w0 _ xs m (hashOf x) true (by assumption) (by rw [Hlk.out]; omega) (by rw [Hlk.out]; simpa using hb)).mono ?_); rintro e w2 ⟨rfl, hc2⟩))
        go_roundw
        case rel => exact ⟨k + 1, by omega, by go_num, by omega, by rw [Hts.out, Hxs.out]; assumption⟩
        case measure => simp [intOf]; omega
      · have em : m.toNat = k + 1 := by omega
        have Hem := Lib.hid em
        clear em
        go_wp2_with (first | (go_at_call 16; (with_reducible refine (of_any x _ hz).mono ?_); rintro e wd ⟨rfl, hd⟩; have hcd := hcol.drew _ hd) | (go_at_call 42; (with_reducible refine (yield_any w0 _ xs m (hashOf x) false (by assumption) (by rw [Hlk.out]; omega) (by rw [Hlk.out]; simpa using hb)).mono ?_); rintro e w2 ⟨rfl, hc2⟩))
        go_end0
        exact ⟨rfl, by rw [Hem.out, Hts.out, Hxs.out]; assumption⟩
    · have ek : k = n := by omega
      subst ek
      have et : (ss.map hashOf).take m.toNat = (ss.map hashOf).take k := by
        rw [List.take_of_length_le (by simp; omega), List.take_of_length_le (by simp; omega)]
      have Het := Lib.hid et
      clear et
      go_wp2
      go_end0
      exact ⟨rfl, by rw [Het.out]; exact hcol⟩
end Go.Proofs.Ytkeepinbfgepmaa.Each
