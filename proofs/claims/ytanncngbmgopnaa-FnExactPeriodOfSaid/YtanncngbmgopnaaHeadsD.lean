/- The heads of a map's loops: the things that are the least of their loop. No program in sight. Condition: a map. -/
import Derived.Test.YtanncngbmgopnaaLots
import Derived.Test.YtanncngbmgopnaaLeastD
namespace Go.Proofs.Ytanncngbmgopnaa
open Go.RowKit
set_option linter.unusedVariables false

/-- The heads among the first k things. -/
noncomputable def heads (s : Nat → Nat) : Nat → List Nat
  | 0 => []
  | k + 1 => if lot s k = (k : Int) then heads s k ++ [k] else heads s k
/-- The loop that a head leads to, from it on. -/
noncomputable def rowOf (s : Nat → Nat) (x : Nat) : List Int := lst ((rho s x).1 + (rho s x).2) (way s x)
/-- The loops of the first k things' heads. -/
noncomputable def rows (s : Nat → Nat) (k i : Nat) : List Int := rowOf s ((heads s k).getD i 0)

theorem heads_hit {s : Nat → Nat} {k : Nat} (h : lot s k = (k : Int)) : heads s (k + 1) = heads s k ++ [k] := by rw [heads, if_pos h]
theorem heads_miss {s : Nat → Nat} {k : Nat} (h : ¬ lot s k = (k : Int)) : heads s (k + 1) = heads s k := by rw [heads, if_neg h]
theorem heads_le (s : Nat → Nat) (k : Nat) : (heads s k).length ≤ k := by
  induction k with
  | zero => simp [heads]
  | succ k ih =>
    simp only [heads]; split
    · simp; omega
    · omega
theorem mem_heads (s : Nat → Nat) (x k : Nat) : x ∈ heads s k ↔ x < k ∧ lot s x = (x : Int) := by
  induction k with
  | zero => simp [heads]
  | succ k ih =>
    simp only [heads]
    split
    · rename_i h
      simp only [List.mem_append, ih, List.mem_singleton]
      constructor
      · rintro (⟨h1, h2⟩ | rfl)
        · exact ⟨by omega, h2⟩
        · exact ⟨by omega, h⟩
      · rintro ⟨h1, h2⟩
        rcases Nat.lt_succ_iff_lt_or_eq.1 h1 with h3 | rfl
        · exact .inl ⟨h3, h2⟩
        · exact .inr rfl
    · rename_i h
      rw [ih]
      constructor
      · rintro ⟨h1, h2⟩; exact ⟨by omega, h2⟩
      · rintro ⟨h1, h2⟩
        rcases Nat.lt_succ_iff_lt_or_eq.1 h1 with h3 | rfl
        · exact ⟨h3, h2⟩
        · exact absurd h2 h
theorem heads_at {s : Nat → Nat} {k i : Nat} (h : i < (heads s k).length) : (heads s k).getD i 0 < k ∧ lot s ((heads s k).getD i 0) = (((heads s k).getD i 0 : Nat) : Int) := by
  have hm : (heads s k).getD i 0 ∈ heads s k := by
    rw [List.getD_eq_getElem?_getD, List.getElem?_eq_getElem h]
    exact List.getElem_mem _
  exact (mem_heads s _ k).1 hm
theorem rows_hit {s : Nat → Nat} {k : Nat} (h : lot s k = (k : Int)) (i : Nat) (hi : i < (heads s k).length + 1) : rows s (k + 1) i = if i < (heads s k).length then rows s k i else rowOf s k := by
  unfold rows
  rw [heads_hit h]
  by_cases h1 : i < (heads s k).length
  · rw [if_pos h1]
    congr 1
    rw [List.getD_eq_getElem?_getD, List.getD_eq_getElem?_getD, List.getElem?_append_left h1]
  · rw [if_neg h1]
    have : i = (heads s k).length := by omega
    subst this
    congr 1
    simp
theorem rows_miss {s : Nat → Nat} {k : Nat} (h : ¬ lot s k = (k : Int)) (i : Nat) : rows s (k + 1) i = rows s k i := by unfold rows; rw [heads_miss h]

/-- A head lies on its loop. -/
theorem head_tail {n : Nat} {s : Nat → Nat} (hs : Mp n s) {x : Nat} (hx : x < n) (h : lot s x = (x : Int)) : (rho s x).1 = 0 := by
  obtain ⟨i, hi, e, hr, _⟩ := least_at (rho_is hs hx)
  have e2 : it s ((rho s x).1 + i) x = x := by
    unfold lot at h
    rw [e] at h
    omega
  rw [e2] at hr
  exact (tail_is hs hx hr).1
theorem rowOf_len {n : Nat} {s : Nat → Nat} (hs : Mp n s) {x : Nat} (hx : x < n) : (rowOf s x).length = (rho s x).1 + (rho s x).2 ∧ 1 ≤ (rowOf s x).length ∧ (rowOf s x).length ≤ n := by
  have hr := rho_is hs hx
  have h1 := hr.le hs hx
  have h2 := hr.pos
  unfold rowOf
  rw [length_lst]
  omega
theorem rows_len {n : Nat} {s : Nat → Nat} (hs : Mp n s) {i : Nat} (hi : i < (heads s n).length) : 1 ≤ (rows s n i).length ∧ (rows s n i).length ≤ n := (rowOf_len hs (heads_at hi).1).2

end Go.Proofs.Ytanncngbmgopnaa
