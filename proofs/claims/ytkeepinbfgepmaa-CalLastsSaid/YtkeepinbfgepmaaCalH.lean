/- Plain facts on horizons and levels: no program in sight. -/
import Derived.Test.YtkeepinbfgepmaaCalG
namespace Go.Proofs.Ytkeepinbfgepmaa
open Go.RowKit
theorem hor_eq (k now : Int) (hn : 0 ≤ now) (hn1 : now ≤ 1099511627776) (hk : 1 ≤ k) (hk1 : k ≤ 100000) : horI k now = horRefI k now ∧ 0 ≤ horRefI k now ∧ horRefI k now ≤ now ∧ horRefI k now % 8640 = 0 := by
  have h1 : wrap64 (now - now % 8640) = now - now % 8640 := by unfold wrap64; omega
  have h2 : (now - now % 8640).tdiv 8640 = now / 8640 := by rw [Int.tdiv_eq_ediv_of_nonneg (by omega)]; omega
  have h3 : wrap64 (now / 8640) = now / 8640 := by unfold wrap64; omega
  have h4 : wrap64 (now / 8640 - k) = now / 8640 - k := by unfold wrap64; omega
  unfold horI horRefI timesI
  rw [h1, h2, h3, h4]
  (repeat' split) <;> omega
theorem le_times (x day : Int) (h0 : 0 ≤ x) (h1 : x ≤ 1099511627776) (h2 : x % 8640 = 0) : (x ≤ timesI day ↔ x / 8640 ≤ day) := by
  unfold timesI
  (repeat' split) <;> omega
theorem lev_eq (x0 x1 x2 x3 day : Int) (a0 : 0 ≤ x0 ∧ x0 ≤ 1099511627776 ∧ x0 % 8640 = 0) (a1 : 0 ≤ x1 ∧ x1 ≤ 1099511627776 ∧ x1 % 8640 = 0) (a2 : 0 ≤ x2 ∧ x2 ≤ 1099511627776 ∧ x2 % 8640 = 0) (a3 : 0 ≤ x3 ∧ x3 ≤ 1099511627776 ∧ x3 % 8640 = 0) :
    levI x0 x1 x2 x3 (timesI day) = levI (x0 / 8640) (x1 / 8640) (x2 / 8640) (x3 / 8640) day := by
  have e0 := le_times x0 day a0.1 a0.2.1 a0.2.2
  have e1 := le_times x1 day a1.1 a1.2.1 a1.2.2
  have e2 := le_times x2 day a2.1 a2.2.1 a2.2.2
  have e3 := le_times x3 day a3.1 a3.2.1 a3.2.2
  unfold levI
  simp only [e0, e1, e2, e3]
end Go.Proofs.Ytkeepinbfgepmaa
