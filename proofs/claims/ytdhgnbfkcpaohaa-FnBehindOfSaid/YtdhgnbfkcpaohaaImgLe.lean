/- Images of maps one behind the other. No program in sight. No condition. -/
import Derived.Test.YtdhgnbfkcpaohaaImageD
import Derived.Test.YtdhgnbfkcpaohaaBehindOf
namespace Go.Proofs.Ytdhgnbfkcpaohaa
open Go.RowKit
set_option linter.unusedVariables false

theorem imgTo_step (s : Nat → Nat) (m : Nat) : ∀ N, (imgTo s (m + 1) N).length = (imgTo s m N).length + if (∀ i, i < m → s i ≠ s m) ∧ s m < N then 1 else 0 := by
  intro N
  induction N with
  | zero => simp [imgTo]
  | succ N ih =>
    by_cases h : s m = N
    · rw [imgTo_hit (j := m) (by omega) h, List.length_append, ih, if_neg (by omega)]
      by_cases hn : ∀ i, i < m → s i ≠ s m
      · rw [if_pos ⟨hn, by omega⟩, imgTo_miss (fun j hj e => hn j hj (by omega))]
        simp
      · rw [if_neg (fun e => hn e.1)]
        obtain ⟨i, hi⟩ := Classical.not_forall.1 hn
        obtain ⟨h1, h2⟩ := Classical.not_imp.1 hi
        rw [imgTo_hit (j := i) h1 (by have := Classical.not_not.1 h2; omega)]
        simp
    · have e : ((∀ i, i < m → s i ≠ s m) ∧ s m < N + 1) ↔ ((∀ i, i < m → s i ≠ s m) ∧ s m < N) := ⟨fun q => ⟨q.1, by have := q.2; omega⟩, fun q => ⟨q.1, by have := q.2; omega⟩⟩
      by_cases hh : ∃ j, j < m ∧ s j = N
      · obtain ⟨j, hj, ej⟩ := hh
        rw [imgTo_hit (n := m + 1) (j := j) (by omega) ej, imgTo_hit (n := m) hj ej, List.length_append, List.length_append, ih]
        simp only [e]
        simp only [List.length_singleton]
        omega
      · rw [imgTo_miss (n := m + 1) (fun j hj ej => by
          rcases Nat.lt_succ_iff_lt_or_eq.1 hj with h3 | rfl
          · exact hh ⟨j, h3, ej⟩
          · exact h ej), imgTo_miss (n := m) (fun j hj ej => hh ⟨j, hj, ej⟩), ih]
        simp only [e]
theorem img_none (s : Nat → Nat) (N : Nat) : imgTo s 0 N = [] := by
  induction N with
  | zero => rfl
  | succ N ih => rw [imgTo_miss (fun j hj => absurd hj (by omega)), ih]
theorem img_first {s t : Nat → Nat} {n N : Nat} (hs : ∀ k, k < n → s k < N) : ∀ m, m ≤ n → (imgTo (behind s t) m N).length ≤ (imgTo s m N).length := by
  intro m
  induction m with
  | zero => intro _; rw [img_none, img_none]; exact Nat.le_refl _
  | succ m ih =>
    intro hm
    have h1 := ih (by omega)
    rw [imgTo_step, imgTo_step]
    by_cases h : (∀ i, i < m → behind s t i ≠ behind s t m) ∧ behind s t m < N
    · rw [if_pos h, if_pos ⟨fun i hi e => h.1 i hi (by unfold behind; rw [e]), hs m (by omega)⟩]
      omega
    · rw [if_neg h]; omega
theorem img_second {s t : Nat → Nat} {n : Nat} (hs : ∀ k, k < n → s k < n) : ∀ N, (imgTo (behind s t) n N).length ≤ (imgTo t n N).length := by
  intro N
  induction N with
  | zero => exact Nat.le_refl _
  | succ N ih =>
    by_cases h : ∃ j, j < n ∧ behind s t j = N
    · obtain ⟨j, hj, e⟩ := h
      rw [imgTo_hit hj e, imgTo_hit (hs j hj) e]
      simp
      exact ih
    · rw [imgTo_miss (fun j hj e => h ⟨j, hj, e⟩)]
      have : (imgTo t n N).length ≤ (imgTo t n (N + 1)).length := imgTo_mono t n (by omega)
      omega

end Go.Proofs.Ytdhgnbfkcpaohaa
