/- Bits of the numbers of a row, as impl.TurnedOf reckons them. No program in sight. No condition. -/
import Derived.Test.YtanncngbmgopnaaMask
namespace Go.Proofs.Ytanncngbmgopnaa
open Go.RowKit

/-- The mask of the first k numbers of s. -/
def mq (s : Nat → Nat) : Nat → Int
  | 0 => 0
  | k + 1 => bits .or .i64 (mq s k) (wrap64 (2 ^ (s k)))
/-- The same, as a natural number. -/
def mqN (s : Nat → Nat) : Nat → Nat
  | 0 => 0
  | k + 1 => mqN s k ||| 2 ^ (s k)

theorem mqN_lt {s : Nat → Nat} {n : Nat} (h : ∀ j, j < n → s j < 7) (k : Nat) (hk : k ≤ n) : mqN s k < 128 := by
  induction k with
  | zero => exact Nat.zero_lt_succ _
  | succ k ih => exact or_lt _ (ih (by omega)) _ (h k (by omega))
theorem mq_eq {s : Nat → Nat} {n : Nat} (h : ∀ j, j < n → s j < 7) (k : Nat) (hk : k ≤ n) : mq s k = (mqN s k : Int) := by
  induction k with
  | zero => rfl
  | succ k ih => rw [mq, mqN, ih (by omega)]; exact or_small _ (mqN_lt h k (by omega)) _ (h k (by omega))
theorem testBit_mqN (s : Nat → Nat) (k y : Nat) : (mqN s k).testBit y = decide (∃ j, j < k ∧ s j = y) := by
  induction k with
  | zero => simp [mqN]
  | succ k ih =>
    rw [mqN, Nat.testBit_or, ih, Nat.testBit_two_pow]
    rw [Bool.eq_iff_iff]
    simp only [Bool.or_eq_true, decide_eq_true_eq]
    constructor
    · rintro (⟨j, hj, e⟩ | e)
      · exact ⟨j, by omega, e⟩
      · exact ⟨k, by omega, e⟩
    · rintro ⟨j, hj, e⟩
      rcases Nat.lt_succ_iff_lt_or_eq.1 hj with h1 | rfl
      · exact .inl ⟨j, h1, e⟩
      · exact .inr e

theorem neq_small : ∀ m : Nat, m < 128 → ∀ x : Nat, x < 7 → (bits .and .i64 (m : Int) (wrap64 (2 ^ x)) != 0) = m.testBit x := by decide +kernel

theorem mq_clear {s : Nat → Nat} {n : Nat} (h : ∀ j, j < n → s j < 7) {k : Nat} (hk : k < n) (hn : ∀ j, j < k → s j ≠ s k) : (bits .and .i64 (mq s k) (wrap64 (2 ^ (s k))) != 0) = false := by
  rw [mq_eq h k (by omega), neq_small _ (mqN_lt h k (by omega)) _ (h k hk), testBit_mqN]
  simp only [decide_eq_false_iff_not]
  exact fun ⟨j, hj, e⟩ => hn j hj e
theorem mq_set {s : Nat → Nat} {n : Nat} (h : ∀ j, j < n → s j < 7) {k : Nat} (hk : k < n) {j : Nat} (hj : j < k) (e : s j = s k) : (bits .and .i64 (mq s k) (wrap64 (2 ^ (s k))) != 0) = true := by
  rw [mq_eq h k (by omega), neq_small _ (mqN_lt h k (by omega)) _ (h k hk), testBit_mqN]
  simp only [decide_eq_true_eq]
  exact ⟨j, hj, e⟩

end Go.Proofs.Ytanncngbmgopnaa
