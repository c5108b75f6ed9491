/- Plain facts on a map of few things: steps on from a thing, tail and loop of its way. No program in sight. No condition. -/
import Derived.Test.YtanncngbmgopnaaBase
namespace Go.Proofs.Ytanncngbmgopnaa

/-- k steps on from x. -/
def it (s : Nat → Nat) : Nat → Nat → Nat
  | 0, x => x
  | k + 1, x => s (it s k x)

theorem it_zero (s : Nat → Nat) (x : Nat) : it s 0 x = x := rfl
theorem it_succ (s : Nat → Nat) (k x : Nat) : it s (k + 1) x = s (it s k x) := rfl
theorem it_add (s : Nat → Nat) (a b x : Nat) : it s (a + b) x = it s a (it s b x) := by
  induction a with
  | zero => simp [it]
  | succ a ih => rw [Nat.add_right_comm, it, it, ih]
theorem it_succ' (s : Nat → Nat) (k x : Nat) : it s (k + 1) x = it s k (s x) := by
  have := it_add s k 1 x
  simpa [it] using this
theorem it_lt {n : Nat} {s : Nat → Nat} (h : Mp n s) {x : Nat} (hx : x < n) (k : Nat) : it s k x < n := by
  induction k with
  | zero => exact hx
  | succ k ih => exact h.lt ih

/-- n + 1 numbers below n are not all different. -/
theorem pigeon : ∀ (n : Nat) (f : Nat → Nat), (∀ i, i ≤ n → f i < n) → ∃ i j, i < j ∧ j ≤ n ∧ f i = f j
  | 0, f, h => absurd (h 0 (Nat.le_refl _)) (by omega)
  | n + 1, f, h => by
    by_cases he : ∃ i, i ≤ n ∧ f i = f (n + 1)
    · obtain ⟨i, hi, e⟩ := he
      exact ⟨i, n + 1, by omega, Nat.le_refl _, e⟩
    · have hne : ∀ i, i ≤ n → f i ≠ f (n + 1) := fun i hi e => he ⟨i, hi, e⟩
      have hl := h (n + 1) (Nat.le_refl _)
      obtain ⟨i, j, hij, hj, e⟩ := pigeon n (fun i => if f i < f (n + 1) then f i else f i - 1) (fun i hi => by
        have h1 := h i (by omega)
        have h2 := hne i hi
        show (if f i < f (n + 1) then f i else f i - 1) < n
        split <;> omega)
      refine ⟨i, j, hij, by omega, ?_⟩
      have h1 := hne i (by omega)
      have h2 := hne j hj
      split at e <;> split at e <;> omega

/-- The way from x has t things ahead of its loop, and the loop has l things. -/
def Rho (s : Nat → Nat) (x t l : Nat) : Prop := 1 ≤ l ∧ it s (t + l) x = it s t x ∧ ∀ i j, i < j → j < t + l → it s i x ≠ it s j x

theorem rho_find (s : Nat → Nat) (x : Nat) : ∀ m, (∀ i j, i < j → j < m → it s i x ≠ it s j x) ∨ ∃ t l, t + l < m ∧ Rho s x t l
  | 0 => .inl fun i j _ h => absurd h (by omega)
  | m + 1 => by
    rcases rho_find s x m with h | ⟨t, l, h1, h2⟩
    · by_cases he : ∃ i, i < m ∧ it s i x = it s m x
      · obtain ⟨i, hi, e⟩ := he
        refine .inr ⟨i, m - i, by omega, by omega, ?_, fun a b hab hb => h a b hab (by omega)⟩
        rw [show i + (m - i) = m from by omega]
        exact e.symm
      · refine .inl fun i j hij hj => ?_
        rcases Nat.lt_succ_iff_lt_or_eq.1 hj with hj | rfl
        · exact h i j hij hj
        · exact fun e => he ⟨i, hij, e⟩
    · exact .inr ⟨t, l, by omega, h2⟩

/-- Each way has a tail and a loop, together no longer than the things. -/
theorem rho_ex {n : Nat} {s : Nat → Nat} (h : Mp n s) {x : Nat} (hx : x < n) : ∃ t l, t + l ≤ n ∧ Rho s x t l := by
  rcases rho_find s x (n + 1) with h1 | ⟨t, l, h1, h2⟩
  · obtain ⟨i, j, hij, hj, e⟩ := pigeon n (fun k => it s k x) (fun i _ => it_lt h hx i)
    exact absurd e (h1 i j hij (by omega))
  · exact ⟨t, l, by omega, h2⟩

section
variable {n : Nat} {s : Nat → Nat} {x t l : Nat}

theorem Rho.pos (h : Rho s x t l) : 1 ≤ l := h.1
theorem Rho.back (h : Rho s x t l) : it s (t + l) x = it s t x := h.2.1
theorem Rho.inj (h : Rho s x t l) {i j : Nat} (hi : i < t + l) (hj : j < t + l) (e : it s i x = it s j x) : i = j := by
  rcases Nat.lt_trichotomy i j with h1 | h1 | h1
  · exact absurd e (h.2.2 i j h1 hj)
  · exact h1
  · exact absurd e.symm (h.2.2 j i h1 hi)

theorem Rho.uniq {t' l' : Nat} (h : Rho s x t l) (h' : Rho s x t' l') : t = t' ∧ l = l' := by
  have hl := h.pos
  have hl' := h'.pos
  have e : t + l = t' + l' := by
    rcases Nat.lt_trichotomy (t + l) (t' + l') with h1 | h1 | h1
    · exact absurd h.back.symm (h'.2.2 t (t + l) (by omega) h1)
    · exact h1
    · exact absurd h'.back.symm (h.2.2 t' (t' + l') (by omega) h1)
  have e2 : it s t x = it s t' x := by rw [← h.back, e, h'.back]
  have : t = t' := h.inj (by omega) (by omega) e2
  exact ⟨this, by omega⟩

theorem Rho.le (hm : Mp n s) (hx : x < n) (h : Rho s x t l) : t + l ≤ n := by
  obtain ⟨t', l', hle, h'⟩ := rho_ex hm hx
  obtain ⟨rfl, rfl⟩ := h.uniq h'
  exact hle

/-- Behind the tail the loop comes round. -/
theorem Rho.round (h : Rho s x t l) (a : Nat) : it s (t + a + l) x = it s (t + a) x := by
  rw [show t + a + l = a + (t + l) from by omega, it_add, h.back, ← it_add, Nat.add_comm a t]

theorem Rho.rounds (h : Rho s x t l) (a m : Nat) : it s (t + a + m * l) x = it s (t + a) x := by
  induction m with
  | zero => simp
  | succ m ih => rw [Nat.succ_mul, ← Nat.add_assoc, show t + a + m * l + l = t + (a + m * l) + l from by omega, h.round, ← Nat.add_assoc, ih]

theorem Rho.mod (h : Rho s x t l) (a : Nat) : it s (t + a) x = it s (t + a % l) x := by
  have := h.rounds (a % l) (a / l)
  rw [← this]
  congr 1
  have := Nat.mod_add_div a l
  rw [Nat.mul_comm] at this
  omega

/-- Where a step from the way leads: the way's next thing. -/
theorem Rho.eq_iff (h : Rho s x t l) (a b : Nat) : it s (t + a) x = it s (t + b) x ↔ a % l = b % l := by
  constructor
  · intro e
    rw [h.mod a, h.mod b] at e
    have h1 := Nat.mod_lt a h.pos
    have h2 := Nat.mod_lt b h.pos
    have := h.inj (by omega) (by omega) e
    omega
  · intro e
    rw [h.mod a, h.mod b, e]

/-- The way from the next thing. -/
theorem Rho.next (h : Rho s x t l) : Rho s (s x) (t - 1) l := by
  have hl := h.pos
  refine ⟨hl, ?_, fun i j hij hj => ?_⟩
  · rw [← it_succ', ← it_succ']
    rcases Nat.eq_zero_or_pos t with rfl | h0
    · have h1 := h.round 1
      simp only [Nat.zero_add] at h1
      rw [show 0 - 1 + l + 1 = 1 + l from by omega]; exact h1
    · rw [show t - 1 + l + 1 = t + l from by omega, show t - 1 + 1 = t from by omega]; exact h.back
  · rw [← it_succ', ← it_succ']
    rcases Nat.eq_zero_or_pos t with rfl | h0
    · intro e
      have h1 := (h.eq_iff (i + 1) (j + 1)).1 (by simpa using e)
      simp only [Nat.zero_sub, Nat.zero_add] at hj
      by_cases hjl : j + 1 = l
      · rw [hjl, Nat.mod_self, Nat.mod_eq_of_lt (by omega)] at h1
        omega
      · rw [Nat.mod_eq_of_lt (by omega), Nat.mod_eq_of_lt (by omega)] at h1
        omega
    · exact fun e => h.2.2 (i + 1) (j + 1) (by omega) (by omega) e

/-- The way from whatever thing of the way. -/
theorem Rho.later (h : Rho s x t l) (a : Nat) : Rho s (it s a x) (t - a) l := by
  induction a with
  | zero => exact h
  | succ a ih => rw [it_succ, Nat.sub_succ]; exact ih.next
end

end Go.Proofs.Ytanncngbmgopnaa
