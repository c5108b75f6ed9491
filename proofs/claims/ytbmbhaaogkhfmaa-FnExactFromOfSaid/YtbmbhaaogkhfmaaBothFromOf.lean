/- spec.FromOf and impl.FromOf give alike, for every row and number. Condition: the length's bound. -/
import Derived.Test.YtbmbhaaogkhfmaaFromI
import Derived.Test.YtbmbhaaogkhfmaaFromSpec
namespace Go.Proofs.Ytbmbhaaogkhfmaa
open Go.RowKit

theorem fromTo_out {s : Nat → Nat} {z : Int} : ∀ k, (∀ j, j < k → (s j : Int) ≠ z) → fromTo s z k = [] := by
  intro k
  induction k with
  | zero => intro _; rfl
  | succ k ih => intro h; rw [fromTo_miss (h k (by omega))]; exact ih fun j hj => h j (by omega)

theorem bothFromOf (n : Nat) (p : Nat → Int) (hn : n ≤ 1048576) (z : Int) (y : -9223372036854775808 ≤ z ∧ z ≤ 9223372036854775807) :
    ∃ xs : List Int, xs.length ≤ 1048576 ∧ (∀ A c w, View w A n p → Calls Try.prog 41 #[.slice A n c, .int .i64 z] w (RetOwn w xs)) ∧ (∀ A c w, View w A n p → Calls Try.prog 42 #[.slice A n c, .int .i64 z] w (RetOwn w xs)) := by
  by_cases hv : Valid n p
  · obtain ⟨hs, es⟩ := hv.mp
    have hl := length_fromTo (fun k => (p k).toNat) z n
    by_cases hz : 0 ≤ z ∧ z < n
    · obtain ⟨x, rfl⟩ : ∃ x : Nat, z = x := ⟨z.toNat, by omega⟩
      exact ⟨_, by omega, fun A c w hA => sFromOf_yes A n c x _ w (hA.congr es) hs, fun A c w hA => fromOf_yes A n c x _ w (hA.congr es) hs (by omega)⟩
    · have h0 : fromTo (fun k => (p k).toNat) z n = [] := fromTo_out n fun j hj e => by
        have h1 := hs.2.2 j hj
        have h2 : ((p j).toNat : Int) = z := e
        have h3 : (p j).toNat < n := h1
        omega
      exact ⟨[], by simp, fun A c w hA => by have h := sFromOf_yes A n c z _ w (hA.congr es) hs; rw [h0] at h; exact h, fun A c w hA => fromOf_no A n c z p w hA (by omega) (fun h => hz h.2)⟩
  · exact ⟨[], by simp, fun A c w hA => sFromOf_no A n c z p w hA (by omega) hv, fun A c w hA => fromOf_no A n c z p w hA (by omega) (fun h => hv h.1)⟩

end Go.Proofs.Ytbmbhaaogkhfmaa
