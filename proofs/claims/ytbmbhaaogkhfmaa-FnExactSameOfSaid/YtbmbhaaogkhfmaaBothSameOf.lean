/- spec.SameOf and impl.SameOf give alike, for every number. No condition. -/
import Derived.Test.YtbmbhaaogkhfmaaSameOf
namespace Go.Proofs.Ytbmbhaaogkhfmaa
open Go.RowKit

theorem bothSameOf (z : Int) (y : -9223372036854775808 ≤ z ∧ z ≤ 9223372036854775807) :
    ∃ xs : List Int, xs.length ≤ 1048576 ∧ (∀ w, Calls Try.prog 15 #[.int .i64 z] w (RetOwn w xs)) ∧ (∀ w, Calls Try.prog 16 #[.int .i64 z] w (RetOwn w xs)) := by
  by_cases h : z < 1 ∨ 7 < z
  · exact ⟨[], by simp, fun w => (sSameOf_no z w h).mono fun e w' ⟨v, h1, h2, h3⟩ => RetOwn.of_ h1 h2 h3, fun w => (sameOf_no z w h).mono fun e w' ⟨h1, h2⟩ => RetOwn.of_ h1 (Own.nil _ _) (h2 ▸ Below.refl _ _)⟩
  · obtain ⟨n, rfl⟩ : ∃ n : Nat, z = n := ⟨z.toNat, by omega⟩
    have hl := length_lst n self
    exact ⟨lst n self, by omega, fun w => (sSameOf_yes n w (by omega) (by omega)).mono fun e w' ⟨v, h1, h2, h3⟩ => RetOwn.of_ h1 h2 h3, fun w => (sameOf_yes n w (by omega) (by omega)).mono fun e w' ⟨h1, h2, h3⟩ => RetOwn.of_ h1 h2 h3⟩

end Go.Proofs.Ytbmbhaaogkhfmaa
