/- spec.BehindOf and impl.BehindOf give alike, for every two rows. Condition: the lengths' bound. -/
import Derived.Test.YtbmbhaaogkhfmaaBehindOf
namespace Go.Proofs.Ytbmbhaaogkhfmaa
open Go.RowKit

theorem bothBehindOf (n : Nat) (p : Nat → Int) (hn : n ≤ 1048576) (m : Nat) (q : Nat → Int) (hm : m ≤ 1048576) :
    ∃ xs : List Int, xs.length ≤ 1048576 ∧ (∀ A c B d w, View w A n p → View w B m q → Calls Try.prog 36 #[.slice A n c, .slice B m d] w (RetOwn w xs)) ∧
      (∀ A c B d w, View w A n p → View w B m q → Calls Try.prog 37 #[.slice A n c, .slice B m d] w (RetOwn w xs)) := by
  by_cases h : n = m ∧ Valid n p ∧ Valid m q
  · obtain ⟨rfl, hp, hq⟩ := h
    obtain ⟨hs, es⟩ := hp.mp
    obtain ⟨ht, et⟩ := hq.mp
    have hl := length_lst n (up (behind (fun k => (p k).toNat) (fun k => (q k).toNat)))
    exact ⟨_, by rw [hl]; exact hn, fun A c B d w hA hB => sBehindOf_yes A B n c d _ _ w (hA.congr es) (hB.congr et) hs ht, fun A c B d w hA hB => behindOf_yes A B n c d _ _ w (hA.congr es) (hB.congr et) hs ht⟩
  · exact ⟨[], by simp, fun A c B d w hA hB => sBehindOf_no A B n m c d p q w hA hB (by omega) (by omega) h, fun A c B d w hA hB => behindOf_no A B n m c d p q w hA hB (by omega) (by omega) h⟩

end Go.Proofs.Ytbmbhaaogkhfmaa
