/- Where a walker comes to one that is moved up at each power of two. No program in sight. No condition. -/
import Derived.Test.YtanncngbmgopnaaMath
namespace Go.Proofs.Ytanncngbmgopnaa
set_option linter.unusedVariables false

/-- A power of two at which the tail is passed and the loop fits in. -/
def Fits (t l p : Nat) : Prop := t ≤ p - 1 ∧ l ≤ p
/-- One of the first powers of two. -/
def Two (p : Nat) : Prop := p = 1 ∨ p = 2 ∨ p = 4 ∨ p = 8
/-- The least power of two that fits. -/
def PowAt (t l p : Nat) : Prop := Two p ∧ Fits t l p ∧ ∀ q, Two q → q < p → ¬ Fits t l q

theorem pow_at {t l : Nat} (h : t + l ≤ 7) (hl : 1 ≤ l) : ∃ p, PowAt t l p := by
  unfold PowAt Fits Two
  by_cases h1 : t ≤ 0 ∧ l ≤ 1
  · exact ⟨1, by omega, by omega, fun q hq hlt => by omega⟩
  · by_cases h2 : t ≤ 1 ∧ l ≤ 2
    · exact ⟨2, by omega, by omega, fun q hq hlt => by omega⟩
    · by_cases h4 : t ≤ 3 ∧ l ≤ 4
      · exact ⟨4, by omega, by omega, fun q hq hlt => by omega⟩
      · exact ⟨8, by omega, by omega, fun q hq hlt => by omega⟩

/-- Two things of the way are one just where both lie behind the tail, whole loops apart. -/
theorem Rho.same {s : Nat → Nat} {x t l : Nat} (hr : Rho s x t l) {a j : Nat} (hj : 1 ≤ j) : it s (a + j) x = it s a x ↔ t ≤ a ∧ j % l = 0 := by
  have hl := hr.pos
  constructor
  · intro e
    by_cases hta : t ≤ a
    · refine ⟨hta, ?_⟩
      have e2 : it s (t + (a + j - t)) x = it s (t + (a - t)) x := by
        rw [show t + (a + j - t) = a + j by omega, show t + (a - t) = a by omega]; exact e
      have e3 := (hr.eq_iff (a + j - t) (a - t)).1 e2
      have e4 : a + j - t = (a - t) + j := by omega
      rw [e4, Nat.add_mod] at e3
      have a1 := Nat.mod_lt (a - t) hl
      have a2 := Nat.mod_lt j hl
      rcases Nat.lt_or_ge ((a - t) % l + j % l) l with h2 | h2
      · have h3 := Nat.mod_eq_of_lt h2
        omega
      · have h3 : ((a - t) % l + j % l) % l = (a - t) % l + j % l - l := by rw [Nat.mod_eq_sub_mod h2, Nat.mod_eq_of_lt (by omega)]
        omega
    · exfalso
      by_cases h2 : a + j < t + l
      · have := hr.inj h2 (by omega) e
        omega
      · have e2 : it s (a + j) x = it s (t + (a + j - t) % l) x := by rw [← hr.mod]; congr 1; omega
        have a1 := Nat.mod_lt (a + j - t) hl
        rw [e2] at e
        have := hr.inj (by omega) (by omega) e
        omega
  · rintro ⟨hta, hm⟩
    have e2 := (hr.eq_iff (a + j - t) (a - t)).2 (by
      have e4 : a + j - t = (a - t) + j := by omega
      rw [e4, Nat.add_mod, hm, Nat.add_zero, Nat.mod_mod])
    rw [show t + (a + j - t) = a + j by omega, show t + (a - t) = a by omega] at e2
    exact e2

/-- At a power that does not fit the walker does not come back; at one that fits it does after the loop's length. -/
theorem no_fit {s : Nat → Nat} {x t l p j : Nat} (hr : Rho s x t l) (h : ¬ Fits t l p) (hj : 1 ≤ j) (hjp : j ≤ p) : it s (p - 1 + j) x ≠ it s (p - 1) x := by
  intro e
  obtain ⟨h1, h2⟩ := (hr.same hj).1 e
  have hl := hr.pos
  by_cases hjl : j < l
  · rw [Nat.mod_eq_of_lt hjl] at h2; omega
  · exact h ⟨h1, by omega⟩
theorem fit_no {s : Nat → Nat} {x t l p j : Nat} (hr : Rho s x t l) (hj : 1 ≤ j) (hjl : j < l) : it s (p - 1 + j) x ≠ it s (p - 1) x := by
  intro e
  obtain ⟨h1, h2⟩ := (hr.same hj).1 e
  rw [Nat.mod_eq_of_lt hjl] at h2; omega
theorem fit_yes {s : Nat → Nat} {x t l p : Nat} (hr : Rho s x t l) (h : Fits t l p) : it s (p - 1 + l) x = it s (p - 1) x := (hr.same hr.pos).2 ⟨h.1, Nat.mod_self _⟩

/-- The two that go on together, one a loop ahead. -/
theorem ahead_facts {s : Nat → Nat} {x t l : Nat} (hr : Rho s x t l) : it s t x = it s t (it s l x) ∧ ∀ j, j < t → it s j x ≠ it s j (it s l x) := by
  constructor
  · rw [← it_add]; exact hr.back.symm
  · intro j hj e
    rw [← it_add] at e
    have := (hr.same (a := j) hr.pos).1 e.symm
    omega

end Go.Proofs.Ytanncngbmgopnaa
