/- spec.HighOf and impl.HighOf answer alike, for every row. Condition: the length's bound. -/
import Derived.Test.YtlmgboipnngipaaHigh
namespace Go.Proofs.Ytlmgboipnngipaa
open Go.RowKit

theorem bothHighOf (n : Nat) (p : Nat → Int) (hn : n ≤ 1048576) :
    ∃ r : Int, (∀ A c w, View w A n p → Calls Try.prog 42 #[.slice A n c] w (RetInt w r)) ∧ (∀ A c w, View w A n p → Calls Try.prog 43 #[.slice A n c] w (RetInt w r)) := by
  by_cases hv : Valid n p
  · obtain ⟨hs, es⟩ := hv.mp
    exact ⟨_, fun A c w hA => sHighOf_yes A n c _ w (hA.congr es) hs, fun A c w hA => highOf_yes A n c _ w (hA.congr es) hs⟩
  · exact ⟨-1, fun A c w hA => sHighOf_no A n c p w hA (by omega) hv, fun A c w hA => highOf_no A n c p w hA (by omega) hv⟩

end Go.Proofs.Ytlmgboipnngipaa
