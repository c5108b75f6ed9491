/- Tails and turning round: no program in sight. Condition: a map. -/
import Derived.Test.YtdhgnbfkcpaohaaHigh
import Derived.Test.YtdhgnbfkcpaohaaFib
namespace Go.Proofs.Ytdhgnbfkcpaohaa
open Go.RowKit
set_option linter.unusedVariables false

theorem hiTo_max (s : Nat → Nat) : ∀ m j, j < m → (((rho s j).1 : Nat) : Int) ≤ hiTo s m := by
  intro m
  induction m with
  | zero => intro j hj; omega
  | succ m ih =>
    intro j hj
    simp only [hiTo]
    rcases Nat.lt_succ_iff_lt_or_eq.1 hj with h | rfl
    · have := ih j h; omega
    · omega
theorem hiTo_lt {n : Nat} {s : Nat → Nat} (hs : Mp n s) (m : Nat) (hm : m ≤ n) : hiTo s m < n := by
  have h1 := hs.1
  induction m with
  | zero => simp only [hiTo]; omega
  | succ m ih =>
    have hr := rho_is hs (x := m) (by omega)
    have h2 := hr.le hs (by omega)
    have h3 := hr.pos
    have := ih (by omega)
    simp only [hiTo]; omega
theorem hiTo_zero {s : Nat → Nat} : ∀ m, (∀ j, j < m → (rho s j).1 = 0) → hiTo s m = if m = 0 then -1 else 0 := by
  intro m
  induction m with
  | zero => intro _; rfl
  | succ m ih =>
    intro h
    have h1 := ih (fun j hj => h j (by omega))
    have h2 := h m (by omega)
    simp only [hiTo, h1, h2]
    by_cases hm : m = 0
    · rw [if_pos hm, if_neg (by omega)]; rfl
    · rw [if_neg hm, if_neg (by omega)]; rfl
/-- A map can be turned round just where no thing has a tail. -/
theorem inj_tails {n : Nat} {s : Nat → Nat} (hs : Mp n s) : Inj n s ↔ ∀ x, x < n → (rho s x).1 = 0 := by
  constructor
  · intro h x hx
    have hr := rho_is hs hx
    generalize (rho s x).1 = t at hr
    generalize (rho s x).2 = l at hr
    by_cases h0 : t = 0
    · exact h0
    · exfalso
      have e : s (it s (t - 1 + l) x) = s (it s (t - 1) x) := by
        show it s (t - 1 + l + 1) x = it s (t - 1 + 1) x
        rw [show t - 1 + l + 1 = t + l by omega, show t - 1 + 1 = t by omega]
        exact hr.back
      have h1 := h.eq (it_lt hs hx _) (it_lt hs hx _) e
      have h2 := hr.pos
      have := hr.inj (by omega) (by omega) h1
      omega
  · intro h
    refine surj_inj hs.2.2 fun v hv => ?_
    have hr := rho_is hs hv
    rw [h v hv] at hr
    have h2 := hr.pos
    refine ⟨it s ((rho s v).2 - 1) v, it_lt hs hv _, ?_⟩
    show it s ((rho s v).2 - 1 + 1) v = v
    rw [show (rho s v).2 - 1 + 1 = 0 + (rho s v).2 by omega]
    exact hr.back
theorem hiTo_inj {n : Nat} {s : Nat → Nat} (hs : Mp n s) : Inj n s ↔ hiTo s n = 0 := by
  have h1 := hs.1
  rw [inj_tails hs]
  constructor
  · intro h
    rw [hiTo_zero n h, if_neg (by omega)]
  · intro h x hx
    have := hiTo_max s n x hx
    omega

end Go.Proofs.Ytdhgnbfkcpaohaa
