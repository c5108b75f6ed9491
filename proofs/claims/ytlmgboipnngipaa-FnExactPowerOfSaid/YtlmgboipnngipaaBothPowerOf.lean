/- spec.PowerOf and impl.PowerOf give alike, for every row and every number. Condition: the length's bound. -/
import Derived.Test.YtlmgboipnngipaaPower
namespace Go.Proofs.Ytlmgboipnngipaa
open Go.RowKit

theorem bothPowerOf (n : Nat) (p : Nat → Int) (hn : n ≤ 1048576) (z : Int) (y : -9223372036854775808 ≤ z ∧ z ≤ 9223372036854775807) :
    ∃ xs : List Int, xs.length ≤ 1048576 ∧ (∀ A c w, View w A n p → Calls Try.prog 48 #[.slice A n c, .int .i64 z] w (RetOwn w xs)) ∧ (∀ A c w, View w A n p → Calls Try.prog 49 #[.slice A n c, .int .i64 z] w (RetOwn w xs)) := by
  by_cases h : Valid n p ∧ 0 ≤ z ∧ z ≤ 1000000
  · obtain ⟨hv, h0, h1⟩ := h
    obtain ⟨hs, es⟩ := hv.mp
    obtain ⟨m, rfl⟩ : ∃ m : Nat, z = m := ⟨z.toNat, by omega⟩
    have hl := length_lst n (up (pw (fun k => (p k).toNat) m))
    exact ⟨_, by rw [hl]; omega, fun A c w hA => sPowerOf_yes A n c m _ w (hA.congr es) hs (by omega), fun A c w hA => powOf_yes A n c m _ w (hA.congr es) hs (by omega)⟩
  · exact ⟨[], by simp, fun A c w hA => sPowerOf_no A n c z p w hA (by omega) h, fun A c w hA => powOf_no A n c z p w hA (by omega) h⟩

end Go.Proofs.Ytlmgboipnngipaa
