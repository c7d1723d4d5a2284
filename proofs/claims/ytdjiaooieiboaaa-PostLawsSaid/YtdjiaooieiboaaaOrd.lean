/- Own text: a region that draws its order, as one list for each order that its edges allow. No condition. -/
import Derived.Orders
import Derived.Tactics
namespace Go.Proofs.Ytdjiaooieiboaaa
open Go

def ordersOf (ops : Array Oper) : Nat → Array Bool → List (List Nat)
  | 0, _ => [[]]
  | f + 1, listed => match Region.ready .any ops listed with
    | [] => [[]]
    | r :: rs => (r :: rs).flatMap fun i => (ordersOf ops f (listed.setIfInBounds i true)).map (i :: ·)

theorem lin_mem (ops : Array Oper) : ∀ (fuel t : Nat) (listed : Array Bool), Region.linearise.go .any ops fuel t listed [] ∈ ordersOf ops fuel listed := by
  intro fuel
  induction fuel with
  | zero => intro t listed; simp [Region.linearise.go, ordersOf]
  | succ fuel ih =>
    intro t listed
    simp only [Region.linearise.go]
    change (match (Region.ready .any ops listed)[t % (Region.ready .any ops listed).length]? with
      | some i => Region.linearise.go .any ops fuel (t / (Region.ready .any ops listed).length) (listed.setIfInBounds i true) [i]
      | none => [].reverse) ∈ ordersOf ops (fuel + 1) listed
    cases hi : (Region.ready .any ops listed)[t % (Region.ready .any ops listed).length]? with
    | none =>
      have hnil : Region.ready .any ops listed = [] := by
        cases hr : Region.ready .any ops listed with
        | nil => rfl
        | cons x xs =>
          rw [hr] at hi
          have hlt : t % (x :: xs).length < (x :: xs).length := Nat.mod_lt _ (by simp)
          simp at hi
          simp at hlt
          omega
      simp [ordersOf, hnil]
    | some i =>
      simp only []
      rw [linearise_go_acc, List.reverse_singleton, List.singleton_append]
      have hm := List.mem_of_getElem? hi
      unfold ordersOf
      cases hr : Region.ready .any ops listed with
      | nil => rw [hr] at hm; cases hm
      | cons r rs =>
        rw [hr] at hm
        exact List.mem_flatMap.2 ⟨i, hm, List.mem_map.2 ⟨_, ih _ _, rfl⟩⟩

def opsAt (ops : Array Oper) (l : List Nat) : List Oper := l.filterMap (ops[·]?)

variable {P : Program} {ops : Array Oper} {Q : Exit → Act → World → Prop}
theorem wpOps_list : ∀ (l : List Nat) (a : Act) (w : World), wpList P ops Q (opsAt ops l) a w → wpOps P ops Q l a w
  | [], a, w => id
  | i :: l, a, w => by
    have ih := wpOps_list l
    rw [wpOps_cons]
    unfold opsAt wpOp
    cases h : ops[i]? with
    | none => simp only [List.filterMap_cons, h]; exact ih a w
    | some o =>
      simp only [List.filterMap_cons, h, wpList]
      intro hh
      split at hh
      · rename_i hw
        rw [if_pos hw]
        rcases hh with hh | hh
        · exact .inl (Oper.wp_mono (fun a w => ih a w) hh)
        · exact .inr hh
      · rename_i hw
        rw [if_neg hw]
        exact ih _ _ hh

def Every (p : List Nat → Prop) : List (List Nat) → Prop
  | [] => True
  | l :: ls => p l ∧ Every p ls
theorem Every.at {p : List Nat → Prop} : ∀ {L : List (List Nat)}, Every p L → ∀ l ∈ L, p l
  | l :: ls, h, x, hx => by
    rcases List.mem_cons.1 hx with rfl | hx
    · exact h.1
    · exact Every.at h.2 x hx

/-- Each order that the edges allow, walked as a list. -/
theorem wp_region_orders {id : Nat} {a : Act} {w : World} (L : List (List Nat)) (hm : P.follows .mixedOrders = true) (hL : ordersOf ops ops.size (Array.replicate ops.size false) = L)
    (h : Every (fun l => wpList P ops Q (opsAt ops l) a w.drew) L) : (Code.region id ops true).wp P Q a w :=
  wp_region_draw fun t => by
    simp only [Region.schedule, hm, Bool.true_or, if_true]
    exact wpOps_list _ _ _ (h.at _ (hL ▸ lin_mem ops _ _ _))
end Go.Proofs.Ytdjiaooieiboaaa
