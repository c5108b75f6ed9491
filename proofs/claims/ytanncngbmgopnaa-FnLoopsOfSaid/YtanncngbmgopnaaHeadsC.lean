/- In how many loops a thing lies: one where it is on a loop, else none. No program in sight. Condition: a map. -/
import Derived.Test.YtanncngbmgopnaaHeadsD
import Derived.Test.YtanncngbmgopnaaHasInt
import Derived.Test.YtanncngbmgopnaaFib
namespace Go.Proofs.Ytanncngbmgopnaa
open Go.RowKit
set_option linter.unusedVariables false

/-- A thing and that to which it is led have the same lot. -/
theorem lot_step {n : Nat} {s : Nat → Nat} (hs : Mp n s) {k : Nat} (hk : k < n) : lot s (s k) = lot s k := by
  have hr := rho_is hs hk
  have h2 := tail_is hs (hs.lt hk) hr.next
  unfold lot
  rw [h2.1, h2.2]
  exact least_next hr
theorem lot_it {n : Nat} {s : Nat → Nat} (hs : Mp n s) {x : Nat} (hx : x < n) (i : Nat) : lot s (it s i x) = lot s x := by
  induction i with
  | zero => rfl
  | succ i ih => rw [it_succ, lot_step hs (it_lt hs hx i), ih]
/-- The lot is a head. -/
theorem lot_head {n : Nat} {s : Nat → Nat} (hs : Mp n s) {k : Nat} (hk : k < n) : ∃ h, h < n ∧ lot s k = (h : Int) ∧ lot s h = (h : Int) := by
  obtain ⟨i, hi, e, hr, _⟩ := least_at (rho_is hs hk)
  refine ⟨it s ((rho s k).1 + i) k, it_lt hs hk _, e, ?_⟩
  rw [lot_it hs hk]
  exact e

theorem mem_rowOf {n : Nat} {s : Nat → Nat} (hs : Mp n s) {h k : Nat} (hh : h < n) (hl : lot s h = (h : Int)) (hk : k < n) : (k : Int) ∈ rowOf s h ↔ (rho s k).1 = 0 ∧ lot s k = (h : Int) := by
  have hr := rho_is hs hh
  have h0 := head_tail hs hh hl
  unfold rowOf
  rw [mem_lst]
  rw [h0] at hr ⊢
  constructor
  · rintro ⟨i, hi, e⟩
    have e2 : it s i h = k := by unfold way at e; omega
    subst e2
    refine ⟨?_, by rw [lot_it hs hh]; exact hl⟩
    have := hr.later i
    rw [Nat.zero_sub] at this
    exact (tail_is hs hk this).1
  · rintro ⟨ht, hlk⟩
    have hrk := rho_is hs hk
    rw [ht] at hrk
    obtain ⟨i, hi, e, hr2, _⟩ := least_at hrk
    have e2 : it s i k = h := by
      have h3 : lot s k = least s k 0 (rho s k).2 := by unfold lot; rw [ht]
      rw [h3, e, Nat.zero_add] at hlk
      omega
    rw [Nat.zero_add, e2] at hr2
    have h4 := (tail_is hs hh hr2).2
    by_cases hi0 : i = 0
    · subst hi0
      exact ⟨0, by have := hr.pos; omega, by show ((it s 0 h : Nat) : Int) = k; rw [← e2]; rfl⟩
    · refine ⟨(rho s k).2 - i, by omega, ?_⟩
      show ((it s ((rho s k).2 - i) h : Nat) : Int) = k
      have hb := hrk.back
      rw [Nat.zero_add] at hb
      rw [← e2, ← it_add, show (rho s k).2 - i + i = (rho s k).2 by omega, hb]
      rfl

/-- In how many of the first j loops k lies. -/
noncomputable def cntTo (s : Nat → Nat) (n k j : Nat) : Nat := ((heads s n).take j).countP (fun h => decide ((k : Int) ∈ rowOf s h))

theorem cntTo_zero (s : Nat → Nat) (n k : Nat) : cntTo s n k 0 = 0 := by simp [cntTo]
theorem cntTo_le (s : Nat → Nat) (n k j : Nat) : cntTo s n k j ≤ j := by
  unfold cntTo
  exact Nat.le_trans (List.countP_le_length) (by rw [List.length_take]; exact Nat.min_le_left _ _)
theorem cntTo_succ {s : Nat → Nat} {n k j : Nat} (hj : j < (heads s n).length) : cntTo s n k (j + 1) = cntTo s n k j + if (k : Int) ∈ rows s n j then 1 else 0 := by
  unfold cntTo
  have e : (heads s n).getD j 0 = (heads s n)[j] := by rw [List.getD_eq_getElem?_getD, List.getElem?_eq_getElem hj]; rfl
  rw [List.take_succ_eq_append_getElem hj, List.countP_append]
  unfold rows
  rw [e]
  by_cases h : (k : Int) ∈ rowOf s (heads s n)[j] <;> simp [h]
theorem cnt_in {s : Nat → Nat} {n k j : Nat} (hj : j < (heads s n).length) (h : (k : Int) ∈ rows s n j) : cntTo s n k (j + 1) = cntTo s n k j + 1 := by rw [cntTo_succ hj, if_pos h]
theorem cnt_out {s : Nat → Nat} {n k j : Nat} (hj : j < (heads s n).length) (h : ¬ (k : Int) ∈ rows s n j) : cntTo s n k (j + 1) = cntTo s n k j := by rw [cntTo_succ hj, if_neg h]; rfl

theorem count_heads {n : Nat} {s : Nat → Nat} (hs : Mp n s) {k : Nat} (hk : k < n) : ∀ m, m ≤ n → (heads s m).countP (fun h => decide ((k : Int) ∈ rowOf s h)) = if (rho s k).1 = 0 ∧ lot s k < (m : Int) then 1 else 0 := by
  obtain ⟨h, hh, e1, e2⟩ := lot_head hs hk
  intro m
  induction m with
  | zero =>
    intro _
    rw [e1, if_neg (by omega)]
    rfl
  | succ m ih =>
    intro hm
    have ih := ih (by omega)
    by_cases hl : lot s m = (m : Int)
    · rw [heads_hit hl, List.countP_append, ih]
      have hmr := mem_rowOf hs (by omega : m < n) hl hk
      rw [e1] at hmr ⊢
      by_cases h1 : (rho s k).1 = 0 ∧ (h : Int) = (m : Int)
      · have hp := hmr.2 h1
        rw [if_neg (by omega), if_pos ⟨h1.1, by omega⟩]
        simp [hp]
      · have hp : ¬ (k : Int) ∈ rowOf s m := fun hp => h1 (hmr.1 hp)
        by_cases h2 : (rho s k).1 = 0 ∧ (h : Int) < (m : Int)
        · rw [if_pos h2, if_pos ⟨h2.1, by omega⟩]; simp [hp]
        · rw [if_neg h2, if_neg (by omega)]; simp [hp]
    · rw [heads_miss hl, ih]
      have hne : h ≠ m := fun e => hl (by rw [← e]; exact e2)
      rw [e1]
      by_cases h2 : (rho s k).1 = 0 ∧ (h : Int) < (m : Int)
      · rw [if_pos h2, if_pos ⟨h2.1, by omega⟩]
      · rw [if_neg h2, if_neg (by omega)]
/-- A thing lies in one loop where it has no tail, else in none. -/
theorem cnt_all {n : Nat} {s : Nat → Nat} (hs : Mp n s) {k : Nat} (hk : k < n) : cntTo s n k (heads s n).length = if (rho s k).1 = 0 then 1 else 0 := by
  unfold cntTo
  rw [List.take_length, count_heads hs hk n (Nat.le_refl _)]
  obtain ⟨h, hh, e1, _⟩ := lot_head hs hk
  rw [e1]
  by_cases h0 : (rho s k).1 = 0
  · rw [if_pos ⟨h0, by omega⟩, if_pos h0]
  · rw [if_neg (fun h => h0 h.1), if_neg h0]

/-- How many of the first k things have no tail. -/
noncomputable def allTo (s : Nat → Nat) : Nat → Nat
  | 0 => 0
  | k + 1 => allTo s k + if (rho s k).1 = 0 then 1 else 0
theorem allTo_le (s : Nat → Nat) (k : Nat) : allTo s k ≤ k := by
  induction k with
  | zero => exact Nat.le_refl _
  | succ k ih => simp only [allTo]; split <;> omega
theorem allTo_full (s : Nat → Nat) (k : Nat) : allTo s k = k ↔ ∀ x, x < k → (rho s x).1 = 0 := by
  induction k with
  | zero => exact ⟨fun _ x hx => absurd hx (by omega), fun _ => rfl⟩
  | succ k ih =>
    have hle := allTo_le s k
    simp only [allTo]
    constructor
    · intro h x hx
      split at h
      · rename_i h0
        rcases Nat.lt_succ_iff_lt_or_eq.1 hx with h1 | rfl
        · exact ih.1 (by omega) x h1
        · exact h0
      · omega
    · intro h
      rw [if_pos (h k (by omega)), ih.2 (fun x hx => h x (by omega))]

/-- A map can be turned round just where no thing has a tail. -/
theorem inj_notail {n : Nat} {s : Nat → Nat} (hs : Mp n s) : Inj n s ↔ ∀ x, x < n → (rho s x).1 = 0 := by
  constructor
  · intro h x hx
    have hr := rho_is hs hx
    generalize (rho s x).1 = t at hr
    generalize (rho s x).2 = l at hr
    by_cases h0 : t = 0
    · exact h0
    · exfalso
      have e : s (it s (t - 1 + l) x) = s (it s (t - 1) x) := by
        show it s (t - 1 + l + 1) x = it s (t - 1 + 1) x
        rw [show t - 1 + l + 1 = t + l by omega, show t - 1 + 1 = t by omega]
        exact hr.back
      have h1 := h.eq (it_lt hs hx _) (it_lt hs hx _) e
      have h2 := hr.pos
      have := hr.inj (by omega) (by omega) h1
      omega
  · intro h
    refine surj_inj hs.2.2 fun v hv => ?_
    have hr := rho_is hs hv
    rw [h v hv] at hr
    have h2 := hr.pos
    refine ⟨it s ((rho s v).2 - 1) v, it_lt hs hv _, ?_⟩
    show it s ((rho s v).2 - 1 + 1) v = v
    rw [show (rho s v).2 - 1 + 1 = 0 + (rho s v).2 by omega]
    exact hr.back
theorem allTo_inj {n : Nat} {s : Nat → Nat} (hs : Mp n s) : Inj n s ↔ allTo s n = n := by rw [inj_notail hs, allTo_full]
/-- There is a loop. -/
theorem heads_pos {n : Nat} {s : Nat → Nat} (hs : Mp n s) : 1 ≤ (heads s n).length := by
  obtain ⟨h, hh, _, e⟩ := lot_head hs (k := 0) hs.1
  exact List.length_pos_of_mem ((mem_heads s h n).2 ⟨hh, e⟩)

end Go.Proofs.Ytanncngbmgopnaa
