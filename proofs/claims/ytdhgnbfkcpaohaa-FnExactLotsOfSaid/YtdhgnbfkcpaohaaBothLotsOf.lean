/- spec.LotsOf and impl.LotsOf give alike, for every row. Condition: the length's bound. -/
import Derived.Test.YtdhgnbfkcpaohaaLots
namespace Go.Proofs.Ytdhgnbfkcpaohaa
open Go.RowKit

theorem bothLotsOf (n : Nat) (p : Nat → Int) (hn : n ≤ 1048576) :
    ∃ xs : List Int, xs.length ≤ 1048576 ∧ (∀ A c w, View w A n p → Calls Try.prog 16 #[.slice A n c] w (RetOwn w xs)) ∧ (∀ A c w, View w A n p → Calls Try.prog 18 #[.slice A n c] w (RetOwn w xs)) := by
  by_cases hv : Valid n p
  · obtain ⟨hs, es⟩ := hv.mp
    have hl := length_lst n (lot (fun k => (p k).toNat))
    exact ⟨_, by rw [hl]; omega, fun A c w hA => sLotsOf_yes A n c _ w (hA.congr es) hs, fun A c w hA => lotsOf_yes A n c _ w (hA.congr es) hs⟩
  · exact ⟨[], by simp, fun A c w hA => sLotsOf_no A n c p w hA (by omega) hv, fun A c w hA => lotsOf_no A n c p w hA (by omega) hv⟩

end Go.Proofs.Ytdhgnbfkcpaohaa
