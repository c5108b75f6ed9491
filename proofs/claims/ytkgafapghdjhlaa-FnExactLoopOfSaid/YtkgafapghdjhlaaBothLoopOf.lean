/- spec.LoopOf and impl.LoopOf answer alike, for every row and every number. Conditions: the length's bound. -/
import Derived.Test.YtkgafapghdjhlaaLoopOfSpec
import Derived.Test.YtkgafapghdjhlaaLoopOf
namespace Go.Proofs.Ytkgafapghdjhlaa
open Go.RowKit

theorem bothLoopOf (n : Nat) (p : Nat → Int) (hn : n ≤ 1048576) (z : Int) (y : -9223372036854775808 ≤ z ∧ z ≤ 9223372036854775807) :
    ∃ r : Int, (∀ A c w, View w A n p → Calls Try.prog 15 #[.slice A n c, .int .i64 z] w (RetInt w r)) ∧ (∀ A c w, View w A n p → Calls Try.prog 17 #[.slice A n c, .int .i64 z] w (RetInt w r)) := by
  by_cases h : Valid n p ∧ 0 ≤ z ∧ z < n
  · obtain ⟨hv, h0, h1⟩ := h
    obtain ⟨hs, es⟩ := hv.mp
    obtain ⟨x, rfl⟩ : ∃ x : Nat, z = x := ⟨z.toNat, by omega⟩
    have hx : x < n := by omega
    obtain ⟨t, l, hle, hr⟩ := rho_ex hs hx
    exact ⟨_, fun A c w hA => sLoopOf_yes A n c x t l _ w (hA.congr es) hs hx hr, fun A c w hA => loopOf_yes A n c x t l _ w (hA.congr es) hs hx hr⟩
  · exact ⟨-1, fun A c w hA => sLoopOf_no A n c z p w hA (by omega) h, fun A c w hA => loopOf_no A n c z p w hA (by omega) h⟩

end Go.Proofs.Ytkgafapghdjhlaa
