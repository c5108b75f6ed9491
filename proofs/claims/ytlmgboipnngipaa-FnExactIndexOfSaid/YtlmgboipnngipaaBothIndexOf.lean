/- spec.IndexOf and impl.IndexOf answer alike, for every row. Condition: the length's bound. -/
import Derived.Test.YtlmgboipnngipaaIndex
namespace Go.Proofs.Ytlmgboipnngipaa
open Go.RowKit

theorem bothIndexOf (n : Nat) (p : Nat → Int) (hn : n ≤ 1048576) :
    ∃ r : Int, (∀ A c w, View w A n p → Calls Try.prog 46 #[.slice A n c] w (RetInt w r)) ∧ (∀ A c w, View w A n p → Calls Try.prog 47 #[.slice A n c] w (RetInt w r)) := by
  by_cases hv : Valid n p
  · obtain ⟨hs, es⟩ := hv.mp
    exact ⟨_, fun A c w hA => sIndexOf_yes A n c _ w (hA.congr es) hs, fun A c w hA => indexOf_yes A n c _ w (hA.congr es) hs⟩
  · exact ⟨-1, fun A c w hA => sIndexOf_no A n c p w hA (by omega) hv, fun A c w hA => indexOf_no A n c p w hA (by omega) hv⟩

end Go.Proofs.Ytlmgboipnngipaa
