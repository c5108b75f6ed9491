/- spec.MapOk and impl.MapOk answer alike, for every row. Condition: the length's bound. -/
import Derived.Test.YtbmbhaaogkhfmaaOkImpl
import Derived.Test.YtbmbhaaogkhfmaaOkSpec
namespace Go.Proofs.Ytbmbhaaogkhfmaa
open Go.RowKit

theorem bothMapOk (n : Nat) (p : Nat → Int) (hn : n ≤ 1048576) :
    ∃ r : Bool, (∀ A c w, View w A n p → Calls Try.prog 20 #[.slice A n c] w (RetBool w r)) ∧ (∀ A c w, View w A n p → Calls Try.prog 22 #[.slice A n c] w (RetBool w r)) := by
  by_cases hv : Valid n p
  · exact ⟨true, fun A c w hA => (sMapOk_yes A n c p w hA hv).mono fun e w' ⟨h1, h2⟩ => ⟨h1, h2 ▸ Below.refl _ _⟩, fun A c w hA => (mapOk_yes A n c p w hA hv).mono fun e w' ⟨h1, h2⟩ => ⟨h1, h2 ▸ Below.refl _ _⟩⟩
  · exact ⟨false, fun A c w hA => (sMapOk_no A n c p w hA hv (by omega)).mono fun e w' ⟨h1, h2⟩ => ⟨h1, h2 ▸ Below.refl _ _⟩, fun A c w hA => (mapOk_no A n c p w hA hv (by omega)).mono fun e w' ⟨h1, h2⟩ => ⟨h1, h2 ▸ Below.refl _ _⟩⟩

end Go.Proofs.Ytbmbhaaogkhfmaa
