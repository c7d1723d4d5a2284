/- Plain facts on the hash of bytes: one round, many rounds, cut anywhere. No program in sight. -/
import Derived.Test.YtkeepinbfgepmaaWWords
import Derived.Laws.Bits64
namespace Go.Proofs.Ytkeepinbfgepmaa.FnvPlain
open Go.RowKit Go.Proofs.YtkeepinbfgepmaaW.PrintWords

/-- one round over the byte c -/
def rnd (h c : Int) : Int := IntKind.u64.wrap ((Go.bits .xor .u64 h (IntKind.u64.wrap c)) * 1099511628211)
/-- n rounds from place i on -/
def go : Nat → Int → ByteArray → Int → Int
  | 0, h, _, _ => h
  | n + 1, h, s, i => go n (rnd h (bt s i)) s (i + 1)

theorem rnd_range (h c : Int) : 0 ≤ rnd h c ∧ rnd h c < 18446744073709551616 := by
  unfold rnd; rw [IntKind.wrap_u64]; omega

theorem go_add (m : Nat) (s : ByteArray) : ∀ (n : Nat) (h i : Int), go (n + m) h s i = go m (go n h s i) s (i + n)
  | 0, h, i => by simp [go]
  | n + 1, h, i => by
    rw [show n + 1 + m = (n + m) + 1 from by omega]
    simp only [go]
    rw [go_add m s n]
    congr 1
    omega

theorem go_congr (s t : ByteArray) : ∀ (n : Nat) (h i j : Int), (∀ k : Nat, k < n → bt s (i + k) = bt t (j + k)) → go n h s i = go n h t j
  | 0, _, _, _, _ => rfl
  | n + 1, h, i, j, e => by
    simp only [go]
    have e0 := e 0 (by omega)
    simp only [Int.natCast_zero, Int.add_zero] at e0
    rw [e0]
    apply go_congr s t n
    intro k hk
    have := e (k + 1) (by omega)
    rw [show i + 1 + (k : Int) = i + ((k + 1 : Nat) : Int) from by omega, show j + 1 + (k : Int) = j + ((k + 1 : Nat) : Int) from by omega]
    exact this

theorem bt_extract (s : ByteArray) (a b : Nat) (k : Int) (h0 : 0 ≤ k) (h : k < ((b - a : Nat) : Int)) (hb : b ≤ s.size) : bt (s.extract a b) k = bt s ((a : Int) + k) := by
  have hz : (s.extract a b).size = b - a := by rw [ByteArray.size_extract]; omega
  have h1 : k.toNat < (s.extract a b).size := by rw [hz]; omega
  have h2 : ((a : Int) + k).toNat < s.size := by omega
  unfold bt
  rw [dif_pos h1, dif_pos h2]
  have e : ((a : Int) + k).toNat = a + k.toNat := by omega
  congr 2
  rw [ByteArray.getElem_extract]
  congr 1
  exact e.symm

theorem bt_app_left (s t : ByteArray) (k : Int) (h0 : 0 ≤ k) (h : k < (s.size : Int)) : bt (s ++ t) k = bt s k := by
  have h1 : k.toNat < s.size := by omega
  have h2 : k.toNat < (s ++ t).size := by rw [ByteArray.size_append]; omega
  unfold bt
  rw [dif_pos h1, dif_pos h2]
  congr 2
  rw [ByteArray.getElem_append_left h1]

theorem bt_app_right (s t : ByteArray) (k : Int) (h0 : (s.size : Int) ≤ k) (h : k < (s.size : Int) + t.size) : bt (s ++ t) k = bt t (k - s.size) := by
  have h1 : (k - s.size).toNat < t.size := by omega
  have h2 : k.toNat < (s ++ t).size := by rw [ByteArray.size_append]; omega
  unfold bt
  rw [dif_pos h1, dif_pos h2]
  congr 2
  rw [ByteArray.getElem_append_right (by omega)]
  congr 1
  omega

/-- the product's factor is odd: it can be taken away -/
theorem mul_inj (x y : Int) (hx : 0 ≤ x ∧ x < 18446744073709551616) (hy : 0 ≤ y ∧ y < 18446744073709551616)
    (e : (x * 1099511628211) % 18446744073709551616 = (y * 1099511628211) % 18446744073709551616) : x = y := by
  have h : ∀ z : Int, (0 ≤ z ∧ z < 18446744073709551616) → ((z * 1099511628211) % 18446744073709551616 * 14886173955864302971) % 18446744073709551616 = z := by
    intro z hz
    rw [Int.mul_emod, Int.emod_emod, ← Int.mul_emod, Int.mul_assoc, Int.mul_emod]
    rw [show ((1099511628211 : Int) * 14886173955864302971) % 18446744073709551616 = 1 from by decide +kernel]
    rw [Int.mul_one, Int.emod_emod, Int.emod_eq_of_lt hz.1 hz.2]
  rw [← h x hx, e, h y hy]

theorem xor_range (h c : Int) : 0 ≤ Go.bits .xor .u64 h c ∧ Go.bits .xor .u64 h c < 18446744073709551616 := by
  unfold Go.bits
  rw [IntKind.wrap_u64]
  omega

theorem xor_inj (h a b : Nat) (hh : h < 18446744073709551616) (ha : a < 256) (hb : b < 256) (e : Go.bits .xor .u64 (h : Int) (a : Int) = Go.bits .xor .u64 (h : Int) (b : Int)) : a = b := by
  rw [bits_xor_u64_nat h a hh (by omega), bits_xor_u64_nat h b hh (by omega)] at e
  have e' : h ^^^ a = h ^^^ b := by exact_mod_cast e
  have := congrArg (h ^^^ ·) e'
  simpa [← Nat.xor_assoc] using this

theorem rnd_inj (h a b : Int) (hh : 0 ≤ h ∧ h < 18446744073709551616) (ha : 0 ≤ a ∧ a < 256) (hb : 0 ≤ b ∧ b < 256) (e : rnd h a = rnd h b) : a = b := by
  unfold rnd at e
  simp only [IntKind.wrap_u64] at e
  have e2 := mul_inj _ _ (xor_range _ _) (xor_range _ _) e
  rw [show a % 18446744073709551616 = a from by omega, show b % 18446744073709551616 = b from by omega] at e2
  obtain ⟨n, rfl⟩ := Int.eq_ofNat_of_zero_le hh.1
  obtain ⟨x, rfl⟩ := Int.eq_ofNat_of_zero_le ha.1
  obtain ⟨y, rfl⟩ := Int.eq_ofNat_of_zero_le hb.1
  have := xor_inj n x y (by omega) (by omega) (by omega) e2
  rw [this]

theorem go_range : ∀ (n : Nat) (h : Int) (s : ByteArray) (i : Int), (0 ≤ h ∧ h < 18446744073709551616) → 0 ≤ go n h s i ∧ go n h s i < 18446744073709551616
  | 0, h, _, _, hh => hh
  | n + 1, h, s, i, _ => by simp only [go]; exact go_range n _ s _ (rnd_range _ _)

/-- the reference's round: the product as sums of shifts -/
theorem rnd_shifts (y : Int) : (IntKind.u64.wrap ((IntKind.u64.wrap ((IntKind.u64.wrap ((IntKind.u64.wrap ((IntKind.u64.wrap ((IntKind.u64.wrap ((IntKind.u64.wrap (y * 1099511627776)) + (IntKind.u64.wrap (y * 256)))) + (IntKind.u64.wrap (y * 128)))) + (IntKind.u64.wrap (y * 32)))) + (IntKind.u64.wrap (y * 16)))) + (IntKind.u64.wrap (y * 2)))) + y)) = IntKind.u64.wrap (y * 1099511628211) := by
  simp only [IntKind.wrap_u64]
  omega

theorem go_none (h : Int) (i : Int) : go 0 h ⟨#[]⟩ i = h := rfl
theorem go_a : go 1 14695981039346656037 (⟨#[97]⟩ : ByteArray) 0 = 12638187200555641996 := by decide +kernel
end Go.Proofs.Ytkeepinbfgepmaa.FnvPlain
