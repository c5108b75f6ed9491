/- What a function gives that makes a list, told by the list's length. No condition. -/
import Derived.Test.YtanncngbmgopnaaBase
namespace Go.Proofs.Ytanncngbmgopnaa
open Go.RowKit
set_option linter.unusedVariables false

/-- RetOwnB of a list given by its length and its numbers. -/
def RetLB (w : World) (n : Nat) (p : Nat → Int) (b : Bool) (e : Ending) (w' : World) : Prop :=
  ∃ A c, e = .returned (.tuple #[.slice A n c, .bool b]) ∧ Own w' w.heap.size (.slice A n c) (lst n p) ∧ Below w.heap.size w w'
theorem RetOwnB.lstb_ {w w' : World} {n : Nat} {p : Nat → Int} {b : Bool} {e : Ending} (h : RetOwnB w (lst n p) b e w') : RetLB w n p b e w' := by
  obtain ⟨A, c, h1, h2, h3⟩ := h
  rw [length_lst] at h1 h2
  exact ⟨A, c, h1, h2, h3⟩
/-- RetOwn of a list of m numbers. -/
def RetN (w : World) (m : Nat) (xs : List Int) (e : Ending) (w' : World) : Prop :=
  ∃ A c, e = .returned (.slice A m c) ∧ Own w' w.heap.size (.slice A m c) xs ∧ Below w.heap.size w w'
theorem RetOwn.len_ {w w' : World} {m : Nat} {xs : List Int} {e : Ending} (h : RetOwn w xs e w') (hl : xs.length = m) : RetN w m xs e w' := by
  subst hl; exact h

end Go.Proofs.Ytanncngbmgopnaa
