/- spec.WayFrom and impl.WayFrom give alike, for every row and every number. Condition: the length's bound. -/
import Derived.Test.YtlmgboipnngipaaWalked
namespace Go.Proofs.Ytlmgboipnngipaa
open Go.RowKit

theorem bothWayFrom (n : Nat) (p : Nat → Int) (hn : n ≤ 1048576) (z : Int) (y : -9223372036854775808 ≤ z ∧ z ≤ 9223372036854775807) :
    ∃ xs : List Int, xs.length ≤ 1048576 ∧ (∀ A c w, View w A n p → Calls Try.prog 21 #[.slice A n c, .int .i64 z] w (RetOwn w xs)) ∧ (∀ A c w, View w A n p → Calls Try.prog 22 #[.slice A n c, .int .i64 z] w (RetOwn w xs)) := by
  by_cases h : Valid n p ∧ 0 ≤ z ∧ z < n
  · obtain ⟨hv, h0, h1⟩ := h
    obtain ⟨hs, es⟩ := hv.mp
    obtain ⟨x, rfl⟩ : ∃ x : Nat, z = x := ⟨z.toNat, by omega⟩
    have hx : x < n := by omega
    obtain ⟨t, l, hle, hr⟩ := rho_ex hs hx
    have hl := length_lst (t + l) (way (fun k => (p k).toNat) x)
    exact ⟨_, by rw [hl]; omega, fun A c w hA => sWayFrom_yes A n c x t l _ w (hA.congr es) hs hx hr, fun A c w hA => wayFrom_yes A n c x t l _ w (hA.congr es) hs hx hr⟩
  · exact ⟨[], by simp, fun A c w hA => sWayFrom_no A n c z p w hA (by omega) h, fun A c w hA => wayFrom_no A n c z p w hA (by omega) h⟩

end Go.Proofs.Ytlmgboipnngipaa
