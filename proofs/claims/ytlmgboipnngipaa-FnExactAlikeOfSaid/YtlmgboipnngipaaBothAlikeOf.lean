/- spec.AlikeOf and impl.AlikeOf give alike, for every row. Condition: the length's bound. -/
import Derived.Test.YtlmgboipnngipaaAlike
namespace Go.Proofs.Ytlmgboipnngipaa
open Go.RowKit

theorem bothAlikeOf (n : Nat) (p : Nat → Int) (hn : n ≤ 1048576) :
    ∃ xs : List Int, xs.length ≤ 1048576 ∧ (∀ A c w, View w A n p → Calls Try.prog 15 #[.slice A n c] w (RetOwn w xs)) ∧ (∀ A c w, View w A n p → Calls Try.prog 17 #[.slice A n c] w (RetOwn w xs)) := by
  by_cases hv : Valid n p
  · obtain ⟨hs, es⟩ := hv.mp
    have hl := length_lst n (alike (fun k => (p k).toNat) n)
    exact ⟨_, by rw [hl]; omega, fun A c w hA => sAlikeOf_yes A n c _ w (hA.congr es) hs, fun A c w hA => alikeOf_yes A n c _ w (hA.congr es) hs⟩
  · exact ⟨[], by simp, fun A c w hA => sAlikeOf_no A n c p w hA (by omega) hv, fun A c w hA => alikeOf_no A n c p w hA (by omega) hv⟩

end Go.Proofs.Ytlmgboipnngipaa
