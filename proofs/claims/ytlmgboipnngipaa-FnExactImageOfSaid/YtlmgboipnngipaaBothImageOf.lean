/- spec.ImageOf and impl.ImageOf give alike, for every row. Condition: the length's bound. -/
import Derived.Test.YtlmgboipnngipaaImageI
import Derived.Test.YtlmgboipnngipaaImageSpec
namespace Go.Proofs.Ytlmgboipnngipaa
open Go.RowKit

theorem bothImageOf (n : Nat) (p : Nat → Int) (hn : n ≤ 1048576) :
    ∃ xs : List Int, xs.length ≤ 1048576 ∧ (∀ A c w, View w A n p → Calls Try.prog 41 #[.slice A n c] w (RetOwn w xs)) ∧ (∀ A c w, View w A n p → Calls Try.prog 35 #[.slice A n c] w (RetOwn w xs)) := by
  by_cases hv : Valid n p
  · obtain ⟨hs, es⟩ := hv.mp
    have hl := length_imgTo (fun k => (p k).toNat) n n
    exact ⟨_, by omega, fun A c w hA => sImageOf_yes A n c _ w (hA.congr es) hs, fun A c w hA => imageOf_yes A n c _ w (hA.congr es) hs⟩
  · exact ⟨[], by simp, fun A c w hA => sImageOf_no A n c p w hA (by omega) hv, fun A c w hA => imageOf_no A n c p w hA (by omega) hv⟩

end Go.Proofs.Ytlmgboipnngipaa
