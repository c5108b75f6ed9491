/- spec.PeriodOf and impl.PeriodOf answer alike, for every row. Condition: the length's bound. -/
import Derived.Test.YtanncngbmgopnaaPeriod
namespace Go.Proofs.Ytanncngbmgopnaa
open Go.RowKit

theorem bothPeriodOf (n : Nat) (p : Nat → Int) (hn : n ≤ 1048576) :
    ∃ r : Int, (∀ A c w, View w A n p → Calls Try.prog 51 #[.slice A n c] w (RetInt w r)) ∧ (∀ A c w, View w A n p → Calls Try.prog 52 #[.slice A n c] w (RetInt w r)) := by
  by_cases hv : Valid n p
  · obtain ⟨hs, es⟩ := hv.mp
    exact ⟨_, fun A c w hA => sPeriodOf_yes A n c _ w (hA.congr es) hs, fun A c w hA => periodOf_yes A n c _ w (hA.congr es) hs⟩
  · exact ⟨-1, fun A c w hA => sPeriodOf_no A n c p w hA (by omega) hv, fun A c w hA => periodOf_no A n c p w hA (by omega) hv⟩

end Go.Proofs.Ytanncngbmgopnaa
