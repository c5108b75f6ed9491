/- Turned maps; how many things an image has. No program in sight. Condition: a map. -/
import Derived.Test.YtdhgnbfkcpaohaaFib
import Derived.Test.YtdhgnbfkcpaohaaImageD
namespace Go.Proofs.Ytdhgnbfkcpaohaa
open Go.RowKit
set_option linter.unusedVariables false

theorem imgTo_all {s : Nat → Nat} {n : Nat} : ∀ k, (∀ v, v < k → ∃ j, j < n ∧ s j = v) → (imgTo s n k).length = k := by
  intro k
  induction k with
  | zero => intro _; rfl
  | succ k ih =>
    intro h
    obtain ⟨j, hj, e⟩ := h k (by omega)
    rw [imgTo_hit hj e]
    have := ih (fun v hv => h v (by omega))
    simp; omega
theorem imgTo_less {s : Nat → Nat} {n : Nat} {v : Nat} (hv : ∀ j, j < n → s j ≠ v) : ∀ k, v < k → (imgTo s n k).length < k := by
  intro k
  induction k with
  | zero => intro h; omega
  | succ k ih =>
    intro h
    rcases Nat.lt_succ_iff_lt_or_eq.1 h with h1 | rfl
    · have := ih h1
      simp only [imgTo]; split
      · simp; omega
      · omega
    · rw [imgTo_miss hv]
      have := length_imgTo s n v
      omega
theorem imgTo_inj {n : Nat} {s : Nat → Nat} (hs : Mp n s) (h : Inj n s) : (imgTo s n n).length = n := imgTo_all n fun v hv => h.surj hs.2.2 hv
theorem imgTo_not {n : Nat} {s : Nat → Nat} (hs : Mp n s) (h : ¬ Inj n s) : (imgTo s n n).length < n := by
  have h2 : ¬ ∀ v, v < n → ∃ j, j < n ∧ s j = v := fun h2 => h (surj_inj hs.2.2 h2)
  obtain ⟨v, hv⟩ := Classical.not_forall.1 h2
  obtain ⟨h3, h4⟩ := Classical.not_imp.1 hv
  exact imgTo_less (fun j hj e => h4 ⟨j, hj, e⟩) n h3
/-- The map turned round, as natural numbers. -/
theorem turned_map {n : Nat} {s : Nat → Nat} (hs : Mp n s) (h : Inj n s) : ∃ t : Nat → Nat, (∀ v, v < n → turned s n v = up t v) ∧ Mp n t ∧ (∀ v, v < n → s (t v) = v) ∧ ∀ k, k < n → t (s k) = k := by
  have key : ∀ k, k < n → turned s n (s k) = (k : Int) := fun k hk => by unfold turned; rw [length_one h hk]; rfl
  refine ⟨fun v => (turned s n v).toNat, ?_, ⟨hs.1, hs.2.1, ?_⟩, ?_, ?_⟩
  · intro v hv
    obtain ⟨k, hk, rfl⟩ := h.surj hs.2.2 hv
    simp only [up, key k hk]; omega
  · intro v hv
    obtain ⟨k, hk, rfl⟩ := h.surj hs.2.2 hv
    show (turned s n (s k)).toNat < n
    rw [key k hk]; omega
  · intro v hv
    obtain ⟨k, hk, rfl⟩ := h.surj hs.2.2 hv
    show s (turned s n (s k)).toNat = s k
    rw [key k hk]; rfl
  · intro k hk
    show (turned s n (s k)).toNat = k
    rw [key k hk]; rfl

end Go.Proofs.Ytdhgnbfkcpaohaa
