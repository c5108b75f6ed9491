/- The least thing of a loop: the same from all things that lead to it. No program in sight. No condition. -/
import Derived.Test.YtanncngbmgopnaaLoopOfSpec
namespace Go.Proofs.Ytanncngbmgopnaa
open Go.RowKit
set_option linter.unusedVariables false

theorem least_le {s : Nat → Nat} {x t x' t' l : Nat} (hl : 1 ≤ l) (h : ∀ j, ∃ i, i < l ∧ it s (t' + j) x' = it s (t + i) x) : least s x t l ≤ least s x' t' l := by
  obtain ⟨j, hj, e⟩ := minTo_mem (fun j => way s x' (t' + j)) (l - 1)
  obtain ⟨i, hi, e2⟩ := h j
  have h3 := minTo_le (fun j => way s x (t + j)) (l - 1) i (by omega)
  have h4 : way s x' (t' + j) = way s x (t + i) := by unfold way; rw [e2]
  unfold least
  rw [e]
  show _ ≤ way s x' (t' + j)
  rw [h4]
  exact h3
theorem least_next {s : Nat → Nat} {x t l : Nat} (hr : Rho s x t l) : least s (s x) (t - 1) l = least s x t l := by
  have hl := hr.pos
  refine Int.le_antisymm ?_ ?_
  · refine least_le hl fun j => ?_
    rcases Nat.eq_zero_or_pos t with rfl | ht
    · refine ⟨(j + (l - 1)) % l, Nat.mod_lt _ hl, ?_⟩
      rw [← it_succ', show 0 - 1 + (j + (l - 1)) % l + 1 = 0 + ((j + (l - 1)) % l + 1) by omega, hr.eq_iff, Nat.mod_add_mod, show j + (l - 1) + 1 = j + l by omega, Nat.add_mod_right]
    · refine ⟨j % l, Nat.mod_lt _ hl, ?_⟩
      rw [← it_succ', show t - 1 + j % l + 1 = t + j % l by omega]
      exact hr.mod j
  · refine least_le hl fun j => ?_
    rcases Nat.eq_zero_or_pos t with rfl | ht
    · refine ⟨(j + 1) % l, Nat.mod_lt _ hl, ?_⟩
      rw [← it_succ', ← hr.mod]
      congr 1
    · refine ⟨j % l, Nat.mod_lt _ hl, ?_⟩
      rw [← it_succ', ← hr.mod]
      congr 1
      omega
/-- The least thing is one of the loop; from it the least is the same. -/
theorem least_at {s : Nat → Nat} {x t l : Nat} (hr : Rho s x t l) : ∃ i, i < l ∧ least s x t l = (it s (t + i) x : Int) ∧ Rho s (it s (t + i) x) 0 l ∧ least s (it s (t + i) x) 0 l = least s x t l := by
  have hl := hr.pos
  obtain ⟨i, hi, e⟩ := minTo_mem (fun j => way s x (t + j)) (l - 1)
  have h2 := hr.later (t + i)
  rw [show t - (t + i) = 0 by omega] at h2
  refine ⟨i, by omega, e, h2, Int.le_antisymm ?_ ?_⟩
  · refine least_le hl fun j => ⟨(j + (l - i)) % l, Nat.mod_lt _ hl, ?_⟩
    rw [← it_add, show 0 + (j + (l - i)) % l + (t + i) = t + ((j + (l - i)) % l + i) by omega, hr.eq_iff, Nat.mod_add_mod, show j + (l - i) + i = j + l by omega, Nat.add_mod_right]
  · refine least_le hl fun j => ⟨(j + i) % l, Nat.mod_lt _ hl, ?_⟩
    rw [← it_add, ← hr.mod]
    congr 1
    omega

end Go.Proofs.Ytanncngbmgopnaa
