/- spec.IdempotentOk and impl.IdempotentOk answer alike, for every row. Condition: the length's bound. -/
import Derived.Test.YtbmbhaaogkhfmaaIdem
namespace Go.Proofs.Ytbmbhaaogkhfmaa
open Go.RowKit

theorem bothIdempotentOk (n : Nat) (p : Nat → Int) (hn : n ≤ 1048576) :
    ∃ r : Bool, (∀ A c w, View w A n p → Calls Try.prog 34 #[.slice A n c] w (RetBool w r)) ∧ (∀ A c w, View w A n p → Calls Try.prog 35 #[.slice A n c] w (RetBool w r)) := by
  by_cases hv : Valid n p
  · obtain ⟨hs, es⟩ := hv.mp
    refine ⟨idemB n (fun k => (p k).toNat), fun A c w hA => ?_, fun A c w hA => idem_yes A n c _ w (hA.congr es) hs⟩
    by_cases ht : Twice n (fun k => (p k).toNat)
    · rw [idemB_yes ht]; exact sIdem_yes A n c _ w (hA.congr es) hs ht
    · rw [idemB_no ht]; exact sIdem_other A n c _ w (hA.congr es) hs ht
  · exact ⟨false, fun A c w hA => sIdem_no A n c p w hA hv (by omega), fun A c w hA => idem_no A n c p w hA hv (by omega)⟩

end Go.Proofs.Ytbmbhaaogkhfmaa
