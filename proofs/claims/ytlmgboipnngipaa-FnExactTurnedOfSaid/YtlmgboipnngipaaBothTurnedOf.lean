/- spec.TurnedOf and impl.TurnedOf give alike, for every row. Condition: the length's bound. -/
import Derived.Test.YtlmgboipnngipaaTurned
namespace Go.Proofs.Ytlmgboipnngipaa
open Go.RowKit

theorem bothTurnedOf (n : Nat) (p : Nat → Int) (hn : n ≤ 1048576) :
    ∃ (xs : List Int) (b : Bool), xs.length ≤ 1048576 ∧ (∀ A c w, View w A n p → Calls Try.prog 23 #[.slice A n c] w (RetOwnB w xs b)) ∧ (∀ A c w, View w A n p → Calls Try.prog 24 #[.slice A n c] w (RetOwnB w xs b)) := by
  by_cases hv : Valid n p
  · obtain ⟨hs, es⟩ := hv.mp
    have hl := length_lst n (turned (fun k => (p k).toNat) n)
    by_cases hi : Inj n (fun k => (p k).toNat)
    · exact ⟨_, true, by rw [hl]; omega, fun A c w hA => sTurnedOf_yes A n c _ w (hA.congr es) hs (hi.ones fun k hk => hs.lt hk), fun A c w hA => turnedOf_yes A n c _ w (hA.congr es) hs hi⟩
    · exact ⟨[], false, by simp, fun A c w hA => sTurnedOf_other A n c _ w (hA.congr es) hs (fun ho => hi (ho.inj fun k hk => hs.lt hk)), fun A c w hA => turnedOf_other A n c _ w (hA.congr es) hs hi⟩
  · exact ⟨[], false, by simp, fun A c w hA => sTurnedOf_no A n c p w hA (by omega) hv, fun A c w hA => turnedOf_no A n c p w hA (by omega) hv⟩

end Go.Proofs.Ytlmgboipnngipaa
