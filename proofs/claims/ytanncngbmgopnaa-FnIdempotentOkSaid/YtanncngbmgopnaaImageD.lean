/- The things to which something is led, in ascending order. No program in sight. No condition. -/
import Derived.Test.YtanncngbmgopnaaFib
namespace Go.Proofs.Ytanncngbmgopnaa
open Go.RowKit
set_option linter.unusedVariables false

/-- Those of 0 .. k - 1 to which one of the n things is led. -/
def imgTo (s : Nat → Nat) (n : Nat) : Nat → List Int
  | 0 => []
  | k + 1 => if 0 < (fromTo s k n).length then imgTo s n k ++ [(k : Int)] else imgTo s n k
theorem led_iff {s : Nat → Nat} {n k : Nat} : 0 < (fromTo s k n).length ↔ ∃ j, j < n ∧ s j = k := by
  constructor
  · intro h
    obtain ⟨z, hz⟩ := List.exists_mem_of_length_pos h
    obtain ⟨j, hj, _, e⟩ := (mem_fromTo s k z n).1 hz
    exact ⟨j, hj, Int.ofNat_inj.1 e⟩
  · rintro ⟨j, hj, rfl⟩
    exact List.length_pos_of_mem ((mem_fromTo s (s j) j n).2 ⟨j, hj, rfl, rfl⟩)
theorem imgTo_hit {s : Nat → Nat} {n k j : Nat} (hj : j < n) (h : s j = k) : imgTo s n (k + 1) = imgTo s n k ++ [(k : Int)] := by rw [imgTo, if_pos (led_iff.2 ⟨j, hj, h⟩)]
theorem imgTo_miss {s : Nat → Nat} {n k : Nat} (h : ∀ j, j < n → s j ≠ k) : imgTo s n (k + 1) = imgTo s n k := by
  rw [imgTo, if_neg]
  intro e
  obtain ⟨j, hj, e2⟩ := led_iff.1 e
  exact h j hj e2
theorem length_imgTo (s : Nat → Nat) (n k : Nat) : (imgTo s n k).length ≤ k := by
  induction k with
  | zero => simp [imgTo]
  | succ k ih =>
    simp only [imgTo]; split
    · simp; omega
    · omega
theorem imgTo_mono (s : Nat → Nat) (n : Nat) {k m : Nat} (h : k ≤ m) : (imgTo s n k).length ≤ (imgTo s n m).length := by
  induction m with
  | zero => obtain rfl : k = 0 := by omega
            exact Nat.le_refl _
  | succ m ih =>
    rcases Nat.lt_or_ge k (m + 1) with h1 | h1
    · have h2 := ih (by omega)
      simp only [imgTo]; split
      · simp; omega
      · exact h2
    · obtain rfl : k = m + 1 := by omega
      exact Nat.le_refl _
theorem mem_imgTo (s : Nat → Nat) (n : Nat) (z : Int) (k : Nat) : z ∈ imgTo s n k ↔ ∃ v, v < k ∧ z = (v : Int) ∧ ∃ j, j < n ∧ s j = v := by
  induction k with
  | zero => simp [imgTo]
  | succ k ih =>
    by_cases h : 0 < (fromTo s k n).length
    · rw [imgTo, if_pos h, List.mem_append, ih, List.mem_singleton]
      constructor
      · rintro (⟨v, hv, h2⟩ | rfl)
        · exact ⟨v, by omega, h2⟩
        · exact ⟨k, by omega, rfl, led_iff.1 h⟩
      · rintro ⟨v, hv, rfl, h2⟩
        rcases Nat.lt_succ_iff_lt_or_eq.1 hv with h3 | rfl
        · exact .inl ⟨v, h3, rfl, h2⟩
        · exact .inr rfl
    · rw [imgTo, if_neg h, ih]
      constructor
      · rintro ⟨v, hv, h2⟩
        exact ⟨v, by omega, h2⟩
      · rintro ⟨v, hv, rfl, h2⟩
        rcases Nat.lt_succ_iff_lt_or_eq.1 hv with h3 | rfl
        · exact ⟨v, h3, rfl, h2⟩
        · exact absurd (led_iff.2 h2) h

end Go.Proofs.Ytanncngbmgopnaa
