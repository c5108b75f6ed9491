/- spec.MapText and impl.MapText answer alike, for every row. Condition: the length's bound. -/
import Derived.Test.YtanncngbmgopnaaMapTxt
namespace Go.Proofs.Ytanncngbmgopnaa
open Go.RowKit

theorem bothMapText (n : Nat) (p : Nat → Int) (hn : n ≤ 1048576) :
    ∃ r : ByteArray, (∀ A c w, View w A n p → Calls Try.prog 15 #[.slice A n c] w (RetStr w r)) ∧ (∀ A c w, View w A n p → Calls Try.prog 17 #[.slice A n c] w (RetStr w r)) := by
  by_cases hv : Valid n p
  · obtain ⟨hs, es⟩ := hv.mp
    exact ⟨_, fun A c w hA => sMapText_yes A n c _ w (hA.congr es) hs, fun A c w hA => mapText_yes A n c _ w (hA.congr es) hs⟩
  · exact ⟨⟨#[]⟩, fun A c w hA => sMapText_no A n c p w hA (by omega) hv, fun A c w hA => mapText_no A n c p w hA (by omega) hv⟩

end Go.Proofs.Ytanncngbmgopnaa
