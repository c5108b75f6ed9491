/- spec.ReadMap and impl.ReadMap answer alike, for every text. Condition: the length's bound. -/
import Derived.Test.YtanncngbmgopnaaReadTxt
namespace Go.Proofs.Ytanncngbmgopnaa
open Go.RowKit

theorem bothReadMap (t : ByteArray) (hn : t.size ≤ 1048576) :
    ∃ (xs : List Int) (b : Bool), xs.length ≤ 1048576 ∧ (∀ w, Calls Try.prog 19 #[.string t] w (RetOwnB w xs b)) ∧ (∀ w, Calls Try.prog 20 #[.string t] w (RetOwnB w xs b)) := by
  by_cases hv : Valid t.size (rd t)
  · exact ⟨lst t.size (rd t), true, by rw [length_lst]; exact hn, fun w => sReadMap_yes t _ rfl w hn hv, fun w => readMap_yes t _ rfl w hv⟩
  · exact ⟨[], false, Nat.zero_le _, fun w => sReadMap_no t _ rfl w hn hv, fun w => readMap_no t _ rfl w hv⟩

end Go.Proofs.Ytanncngbmgopnaa
