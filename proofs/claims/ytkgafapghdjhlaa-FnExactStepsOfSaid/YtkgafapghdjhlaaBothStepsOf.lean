/- spec.StepsOf and impl.StepsOf answer alike, for every row and all numbers. Condition: the length's bound. -/
import Derived.Test.YtkgafapghdjhlaaSteps
namespace Go.Proofs.Ytkgafapghdjhlaa
open Go.RowKit

theorem bothStepsOf (n : Nat) (p : Nat → Int) (hn : n ≤ 1048576) (z : Int) (y : -9223372036854775808 ≤ z ∧ z ≤ 9223372036854775807) (q : Int) (y' : -9223372036854775808 ≤ q ∧ q ≤ 9223372036854775807) :
    ∃ r : Int, (∀ A c w, View w A n p → Calls Try.prog 19 #[.slice A n c, .int .i64 z, .int .i64 q] w (RetInt w r)) ∧ (∀ A c w, View w A n p → Calls Try.prog 20 #[.slice A n c, .int .i64 z, .int .i64 q] w (RetInt w r)) := by
  by_cases h : (Valid n p ∧ 0 ≤ z ∧ z < n) ∧ 0 ≤ q ∧ q ≤ 1000000
  · obtain ⟨⟨hv, h0, h1⟩, q0, q1⟩ := h
    obtain ⟨hs, es⟩ := hv.mp
    obtain ⟨x, rfl⟩ : ∃ x : Nat, z = x := ⟨z.toNat, by omega⟩
    obtain ⟨m, rfl⟩ : ∃ m : Nat, q = m := ⟨q.toNat, by omega⟩
    have hx : x < n := by omega
    obtain ⟨t, l, hle, hr⟩ := rho_ex hs hx
    exact ⟨_, fun A c w hA => sStepsOf_yes A n c x m t l _ w (hA.congr es) hs hx (by omega) hr, fun A c w hA => stepsOf_yes A n c x m t l _ w (hA.congr es) hs hx (by omega) hr⟩
  · exact ⟨-1, fun A c w hA => sStepsOf_no A n c z q p w hA (by omega) h, fun A c w hA => stepsOf_no A n c z q p w hA (by omega) h⟩

end Go.Proofs.Ytkgafapghdjhlaa
