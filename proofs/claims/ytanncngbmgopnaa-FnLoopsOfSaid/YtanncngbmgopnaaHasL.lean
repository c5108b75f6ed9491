/- laws.hasInt at an owned list. Condition: the list's length. -/
import Derived.Test.YtanncngbmgopnaaHasInt
namespace Go.Proofs.Ytanncngbmgopnaa
open Go.RowKit
set_option linter.unusedVariables false

theorem hasF_list (xs : List Int) (z : Int) : hasF xs.length (nth xs) z = decide (z ∈ xs) := by unfold hasF; rw [lst_of_list]
theorem hasInt_in {A : Option Addr} {n c : Nat} {xs : List Int} {z : Int} {w : World} (hA : View w A n (nth xs)) (hl : xs.length = n) (hn : n ≤ 1048576) (h : z ∈ xs) :
    Calls Try.prog 29 #[.slice A n c, .int .i64 z] w fun e w' => e = .returned (.bool true) ∧ w = w' := by
  have h2 := hasInt_any A n c (nth xs) z w hA (by omega)
  subst hl
  rw [hasF_list, decide_eq_true h] at h2
  exact h2
theorem hasInt_out {A : Option Addr} {n c : Nat} {xs : List Int} {z : Int} {w : World} (hA : View w A n (nth xs)) (hl : xs.length = n) (hn : n ≤ 1048576) (h : ¬ z ∈ xs) :
    Calls Try.prog 29 #[.slice A n c, .int .i64 z] w fun e w' => e = .returned (.bool false) ∧ w = w' := by
  have h2 := hasInt_any A n c (nth xs) z w hA (by omega)
  subst hl
  rw [hasF_list, decide_eq_false h] at h2
  exact h2

end Go.Proofs.Ytanncngbmgopnaa
