/- Own text: what every row of this program wants of the program alone, one fact a theorem (all at once they are too much for the kernel's memory; the head's text as a list of codes, else its reading alone is). -/
import Derived.Test.YteafilojjdfllaaRows
import Derived.JoinedOf
import Derived.KernelRfl
namespace Go.Proofs.Yteafilojjdfllaa
open Go
def ioCodes : List Nat := [104, 97, 114, 110, 101, 115, 115, 32, 102, 50, 56, 101, 48, 56, 101, 97, 101, 53, 53, 53, 50, 54, 100, 53, 102, 52, 51, 52, 54, 51, 51, 101, 54, 49, 52, 51, 99, 54, 54, 50, 98, 57, 51, 100, 100, 56, 102, 102, 50, 101, 54, 97, 52, 51, 51, 101, 101, 51, 51, 54, 54, 101, 97, 52, 54, 50, 101, 100, 55, 97, 54, 56, 32, 99, 117, 116, 32, 97, 116, 32, 118, 97, 114, 118, 101, 47, 118, 97, 114, 118, 101, 108, 97, 119, 49, 57, 46, 84, 111, 109, 98, 67, 104, 101, 99, 107, 115, 32, 118, 97, 114, 118, 101, 47, 118, 97, 114, 118, 101, 108, 97, 119, 49, 57, 46, 84, 111, 109, 98, 65, 112, 112, 108, 105, 101, 115, 32, 118, 97, 114, 118, 101, 47, 118, 97, 114, 118, 101, 108, 97, 119, 49, 57, 46, 84, 111, 109, 98, 79, 114, 100, 101, 114, 32, 118, 97, 114, 118, 101, 47, 118, 97, 114, 118, 101, 108, 97, 119, 49, 57, 46, 84, 111, 109, 98, 87, 104, 111, 108, 101, 32, 118, 97, 114, 118, 101, 47, 118, 97, 114, 118, 101, 108, 97, 119, 49, 57, 46, 84, 111, 109, 98, 80, 114, 117, 110, 101, 115, 32, 118, 97, 114, 118, 101, 47, 118, 97, 114, 118, 101, 108, 97, 119, 49, 57, 46, 84, 111, 109, 98, 68, 111, 110, 101, 32, 118, 97, 114, 118, 101, 47, 118, 97, 114, 118, 101, 108, 97, 119, 49, 50, 46, 77, 97, 116, 99, 104, 67, 104, 101, 99, 107, 115, 32, 118, 97, 114, 118, 101, 47, 118, 97, 114, 118, 101, 108, 97, 119, 49, 50, 46, 77, 97, 116, 99, 104, 69, 118, 97, 108, 115, 32, 118, 97, 114, 118, 101, 47, 118, 97, 114, 118, 101, 108, 97, 119, 49, 50, 46, 77, 97, 116, 99, 104, 76, 97, 119, 115, 32, 118, 97, 114, 118, 101, 47, 118, 97, 114, 118, 101, 108, 97, 119, 49, 50, 46, 77, 97, 116, 99, 104, 76, 97, 98, 101, 108, 115, 32, 118, 97, 114, 118, 101, 47, 118, 97, 114, 118, 101, 108, 97, 119, 49, 50, 46, 77, 97, 116, 99, 104, 79, 110, 99, 101, 32, 118, 97, 114, 118, 101, 47, 118, 97, 114, 118, 101, 108, 97, 119, 49, 50, 46, 77, 97, 116, 99, 104, 83, 97, 109, 101, 32, 118, 97, 114, 118, 101, 47, 118, 97, 114, 118, 101, 108, 97, 119, 49, 49, 46, 76, 97, 98, 101, 108, 67, 104, 101, 99, 107, 115, 32, 118, 97, 114, 118, 101, 47, 118, 97, 114, 118, 101, 108, 97, 119, 49, 49, 46, 76, 97, 98, 101, 108, 77, 97, 107, 101, 115, 32, 118, 97, 114, 118, 101, 47, 118, 97, 114, 118, 101, 108, 97, 119, 49, 49, 46, 76, 97, 98, 101, 108, 84, 117, 114, 110, 115, 32, 118, 97, 114, 118, 101, 47, 118, 97, 114, 118, 101, 108, 97, 119, 49, 49, 46, 76, 97, 98, 101, 108, 86, 97, 108, 117, 101, 115, 32, 118, 97, 114, 118, 101, 47, 118, 97, 114, 118, 101, 108, 97, 119, 49, 57, 46, 84, 111, 109, 98, 66, 121, 116, 101, 115, 32, 118, 97, 114, 118, 101, 47, 118, 97, 114, 118, 101, 108, 97, 119, 49, 49, 46, 76, 97, 98, 101, 108, 67, 109, 112, 115, 32, 118, 97, 114, 118, 101, 47, 118, 97, 114, 118, 101, 108, 97, 119, 49, 49, 46, 76, 97, 98, 101, 108, 79, 114, 100, 101, 114, 115, 32, 118, 97, 114, 118, 101, 47, 118, 97, 114, 118, 101, 108, 97, 119, 49, 49, 46, 76, 97, 98, 101, 108, 83, 116, 97, 114, 116, 115, 32, 118, 97, 114, 118, 101, 47, 118, 97, 114, 118, 101, 108, 97, 119, 49, 49, 46, 76, 97, 98, 101, 108, 66, 121, 116, 101, 115, 32, 118, 97, 114, 118, 101, 47, 118, 97, 114, 118, 101, 108, 97, 119, 49, 49, 46, 76, 97, 98, 101, 108, 84, 101, 120, 116, 115, 32, 118, 97, 114, 118, 101, 47, 118, 97, 114, 118, 101, 108, 97, 119, 49, 49, 46, 76, 97, 98, 101, 108, 80, 97, 114, 115, 101, 115, 32, 118, 97, 114, 118, 101, 47, 118, 97, 114, 118, 101, 108, 97, 119, 49, 49, 46, 76, 97, 98, 101, 108, 66, 114, 111, 107, 101, 110, 32, 118, 97, 114, 118, 101, 47, 118, 97, 114, 118, 101, 108, 97, 119, 49, 50, 46, 77, 97, 116, 99, 104, 66, 121, 116, 101, 115, 32, 118, 97, 114, 118, 101, 47, 118, 97, 114, 118, 101, 108, 97, 119, 49, 50, 46, 77, 97, 116, 99, 104, 84, 101, 120, 116, 115, 32, 118, 97, 114, 118, 101, 47, 118, 97, 114, 118, 101, 108, 97, 119, 49, 50, 46, 77, 97, 116, 99, 104, 80, 97, 114, 115, 101, 115, 32, 118, 97, 114, 118, 101, 47, 118, 97, 114, 118, 101, 108, 97, 119, 49, 50, 46, 77, 97, 116, 99, 104, 68, 101, 101, 112]
theorem io_str : Try.prog.initOrder = String.ofList (ioCodes.map Char.ofNat) := by kernel_rfl
theorem io_list : Try.prog.initOrder.toList = ioCodes.map Char.ofNat := by rw [io_str, String.toList_ofList]
theorem pf_lifts : Try.prog.liftsFinal = false := by
  unfold Program.liftsFinal Program.headLifts
  rw [io_list]
  kernel_rfl
def cutW : List Char := [99, 117, 116].map Char.ofNat
theorem bw_head : ((behindMainWord (wordsSigns (ioCodes.map Char.ofNat))).head? == some cutW) = true := by kernel_rfl
theorem head_cut : (behindMainWord (wordsSigns Try.prog.initOrder.toList)).head? = some cutW := by
  rw [io_list]
  exact beq_iff_eq.1 bw_head
theorem cut_strip (rest : List (List Char)) : stripLifts liftWords (cutW :: rest) = ([], cutW :: rest) := by kernel_rfl
theorem cut_gc : (cutW == "gc".toList) = false := by kernel_rfl
theorem cut_spec : (cutW == "spec".toList) = false := by kernel_rfl
theorem cut_cut : (cutW == "cut".toList) = true := by kernel_rfl
theorem cut_car : (cutW == "carried".toList) = false := by kernel_rfl
theorem cut_head (rest : List (List Char)) : ((cutW :: rest).head? == some "cut".toList) = true := by kernel_rfl
theorem make_of (P : Program) (h : (behindMainWord (wordsSigns P.initOrder.toList)).head? = some cutW) : P.make = some .cut := by
  unfold Program.make
  cases hl : behindMainWord (wordsSigns P.initOrder.toList) with
  | nil => rw [hl] at h; cases h
  | cons c rest =>
    rw [hl, List.head?_cons] at h
    cases h
    have h1 := cut_gc
    have h2 := cut_spec
    have h3 := cut_cut
    generalize cutW = c at h1 h2 h3
    simp only [h1, h2, h3, Bool.or_self, Bool.true_or, if_true]
    rfl
theorem enter_of (P : Program) (h : (behindMainWord (wordsSigns P.initOrder.toList)).head? = some cutW) (p1 : P.laysLater = false) (p2 : P.bearsReflect = false) (p3 : P.doorFits [] = true) : P.mayEnter = true := by
  unfold Program.mayEnter
  cases hl : behindMainWord (wordsSigns P.initOrder.toList) with
  | nil => rw [hl] at h; cases h
  | cons c rest =>
    rw [hl, List.head?_cons] at h
    cases h
    have h1 := cut_gc
    have h2 := cut_spec
    have h4 := cut_car
    have h5 := cut_strip rest
    have h6 := cut_head rest
    generalize cutW = c at h1 h2 h4 h5 h6
    simp only [h1, h2, h4, h5, h6, p1, p2, p3, List.contains_nil]
    rfl
theorem pf_later : Try.prog.laysLater = false := by kernel_rfl
theorem pf_refl : Try.prog.bearsReflect = false := by kernel_rfl
theorem pf_door : Try.prog.doorFits [] = true := by kernel_rfl
theorem pf_make : Try.prog.make = some .cut := make_of _ head_cut
theorem pf_enter : Try.prog.mayEnter = true := enter_of _ head_cut pf_later pf_refl pf_door
theorem pf_laid : laidOutB Try.prog = true := by kernel_rfl
theorem pf_maps : mapsRowed Try.prog = true := by kernel_rfl
theorem pf_stops : (Try.prog.stops == []) = true := by kernel_rfl
theorem pf_knobs : (Try.prog.stopKnobs == []) = true := by kernel_rfl
theorem pf_plain : Try.prog.plainKeys = true := by kernel_rfl
theorem pf_heard : Try.prog.stopsHeard = true := by kernel_rfl
end Go.Proofs.Yteafilojjdfllaa
