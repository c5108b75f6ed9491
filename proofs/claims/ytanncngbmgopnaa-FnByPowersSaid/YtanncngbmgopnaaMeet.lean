/- Where two walkers meet. No program in sight. No condition. -/
import Derived.Test.YtanncngbmgopnaaMath
namespace Go.Proofs.Ytanncngbmgopnaa
set_option linter.unusedVariables false

/-- After m steps of the slow walker both stand on one thing first. -/
def Meet (s : Nat → Nat) (x m : Nat) : Prop := 1 ≤ m ∧ it s m x = it s (2 * m) x ∧ ∀ j, 1 ≤ j → j < m → it s j x ≠ it s (2 * j) x

theorem least_ex (P : Nat → Prop) (m : Nat) (h : P m) : ∃ k, k ≤ m ∧ P k ∧ ∀ j, j < k → ¬ P j := by
  induction m using Nat.strongRecOn with
  | _ m ih =>
    by_cases hex : ∃ j, j < m ∧ P j
    · obtain ⟨j, hj, hp⟩ := hex
      obtain ⟨k, h1, h2, h3⟩ := ih j hj hp
      exact ⟨k, by omega, h2, h3⟩
    · exact ⟨m, Nat.le_refl _, h, fun j hj hp => hex ⟨j, hj, hp⟩⟩

theorem meet_iff {s : Nat → Nat} {x t l : Nat} (hr : Rho s x t l) {m : Nat} (h1 : 1 ≤ m) : it s m x = it s (2 * m) x ↔ t ≤ m ∧ m % l = 0 := by
  have hl := hr.pos
  constructor
  · intro e
    by_cases htm : t ≤ m
    · refine ⟨htm, ?_⟩
      have e2 : it s (t + (m - t)) x = it s (t + (2 * m - t)) x := by
        rw [show t + (m - t) = m by omega, show t + (2 * m - t) = 2 * m by omega]; exact e
      have e3 := (hr.eq_iff (m - t) (2 * m - t)).1 e2
      have e4 : 2 * m - t = (m - t) + m := by omega
      rw [e4, Nat.add_mod] at e3
      have a1 := Nat.mod_lt (m - t) hl
      have a2 := Nat.mod_lt m hl
      rcases Nat.lt_or_ge ((m - t) % l + m % l) l with h2 | h2
      · have h3 := Nat.mod_eq_of_lt h2
        omega
      · have h3 : ((m - t) % l + m % l) % l = (m - t) % l + m % l - l := by rw [Nat.mod_eq_sub_mod h2, Nat.mod_eq_of_lt (by omega)]
        omega
    · exfalso
      by_cases h2 : 2 * m < t + l
      · have := hr.inj (by omega) h2 e
        omega
      · have e2 : it s (2 * m) x = it s (t + (2 * m - t) % l) x := by rw [← hr.mod]; congr 1; omega
        have a1 := Nat.mod_lt (2 * m - t) hl
        rw [e2] at e
        have := hr.inj (by omega) (by omega) e
        omega
  · rintro ⟨htm, hml⟩
    have e2 := (hr.eq_iff (m - t) (2 * m - t)).2 (by
      have e4 : 2 * m - t = (m - t) + m := by omega
      rw [e4, Nat.add_mod, hml, Nat.add_zero, Nat.mod_mod])
    rw [show t + (m - t) = m by omega, show t + (2 * m - t) = 2 * m by omega] at e2
    exact e2

theorem meet_ex {s : Nat → Nat} {x t l : Nat} (hr : Rho s x t l) : ∃ m, m ≤ t + l ∧ Meet s x m := by
  have hl := hr.pos
  have a1 := Nat.mod_lt t hl
  have hm : (t + (l - t % l)) % l = 0 := by
    have h1 := Nat.mod_add_div t l
    have h2 : t + (l - t % l) = l * (t / l + 1) := by rw [Nat.mul_add, Nat.mul_one]; omega
    rw [h2, Nat.mul_mod_right]
  obtain ⟨k, h1, ⟨h2, h3⟩, h4⟩ := least_ex (fun m => 1 ≤ m ∧ it s m x = it s (2 * m) x) (t + (l - t % l)) ⟨by omega, (meet_iff hr (by omega)).2 ⟨by omega, hm⟩⟩
  exact ⟨k, by omega, h2, h3, fun j hj1 hj2 e => h4 j hj2 ⟨hj1, e⟩⟩

theorem Meet.uniq {s : Nat → Nat} {x m m' : Nat} (h : Meet s x m) (h' : Meet s x m') : m = m' := by
  rcases Nat.lt_trichotomy m m' with h1 | h1 | h1
  · exact absurd h.2.1 (h'.2.2 m h.1 h1)
  · exact h1
  · exact absurd h'.2.1 (h.2.2 m' h'.1 h1)

/-- What is known of the meeting: a multiple of the loop, no less than the tail, the least such. -/
theorem Meet.facts {s : Nat → Nat} {x t l m : Nat} (hr : Rho s x t l) (h : Meet s x m) : m % l = 0 ∧ t ≤ m ∧ m ≤ t + l ∧ (m < t + l ∨ m = l) := by
  have hl := hr.pos
  obtain ⟨h1, h2⟩ := (meet_iff hr h.1).1 h.2.1
  obtain ⟨m', h3, h4⟩ := meet_ex hr
  obtain rfl := h.uniq h4
  refine ⟨h2, h1, h3, ?_⟩
  by_cases e : m < t + l
  · exact .inl e
  · right
    have e1 : m = t + l := by omega
    by_cases ht : t = 0
    · omega
    · exfalso
      have e2 : t % l = 0 := by rw [e1, Nat.add_mod_right] at h2; exact h2
      exact h.2.2 t (by omega) (by omega) ((meet_iff hr (by omega)).2 ⟨Nat.le_refl _, e2⟩)

end Go.Proofs.Ytanncngbmgopnaa
