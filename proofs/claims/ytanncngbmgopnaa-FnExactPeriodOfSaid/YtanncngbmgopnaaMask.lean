/- Bits of the things that were seen on a way, as the two walks reckon them. No program in sight. No condition. -/
import Derived.Test.YtanncngbmgopnaaMath
import Derived.Laws.Bits64
namespace Go.Proofs.Ytanncngbmgopnaa
open Go.RowKit

/-- The mask of the first k things on the way from x. -/
def msk (s : Nat → Nat) (x : Nat) : Nat → Int
  | 0 => 0
  | k + 1 => bits .or .i64 (msk s x k) (wrap64 (2 ^ (it s k x)))

/-- The same, as a natural number. -/
def mskN (s : Nat → Nat) (x : Nat) : Nat → Nat
  | 0 => 0
  | k + 1 => mskN s x k ||| 2 ^ (it s k x)

theorem or_small : ∀ m : Nat, m < 128 → ∀ x : Nat, x < 7 → bits .or .i64 (m : Int) (wrap64 (2 ^ x)) = ((m ||| 2 ^ x : Nat) : Int) := by decide +kernel
theorem and_small : ∀ m : Nat, m < 128 → ∀ x : Nat, x < 7 → (bits .and .i64 (m : Int) (wrap64 (2 ^ x)) == 0) = !(m.testBit x) := by decide +kernel
theorem shr_small : ∀ m : Nat, m < 128 → ∀ x : Nat, x < 7 → (((m : Int) / 2 ^ x).tmod 2 == 0) = !(m.testBit x) := by decide +kernel
theorem or_lt : ∀ m : Nat, m < 128 → ∀ x : Nat, x < 7 → m ||| 2 ^ x < 128 := by decide +kernel

theorem mskN_lt {s : Nat → Nat} {x : Nat} (h : ∀ j, it s j x < 7) (k : Nat) : mskN s x k < 128 := by
  induction k with
  | zero => exact Nat.zero_lt_succ _
  | succ k ih => exact or_lt _ ih _ (h k)
theorem msk_eq {s : Nat → Nat} {x : Nat} (h : ∀ j, it s j x < 7) (k : Nat) : msk s x k = (mskN s x k : Int) := by
  induction k with
  | zero => rfl
  | succ k ih => rw [msk, mskN, ih]; exact or_small _ (mskN_lt h k) _ (h k)
theorem testBit_mskN (s : Nat → Nat) (x : Nat) (k y : Nat) : (mskN s x k).testBit y = decide (∃ j, j < k ∧ it s j x = y) := by
  induction k with
  | zero => simp [mskN]
  | succ k ih =>
    rw [mskN, Nat.testBit_or, ih, Nat.testBit_two_pow]
    rw [Bool.eq_iff_iff]
    simp only [Bool.or_eq_true, decide_eq_true_eq]
    constructor
    · rintro (⟨j, hj, e⟩ | e)
      · exact ⟨j, by omega, e⟩
      · exact ⟨k, by omega, e⟩
    · rintro ⟨j, hj, e⟩
      rcases Nat.lt_succ_iff_lt_or_eq.1 hj with h1 | rfl
      · exact .inl ⟨j, h1, e⟩
      · exact .inr e

/-- The bit is clear where the thing was not seen. -/
theorem and_clear {s : Nat → Nat} {x k y : Nat} (h : ∀ j, it s j x < 7) (hy : y < 7) (hn : ∀ j, j < k → it s j x ≠ y) : (bits .and .i64 (msk s x k) (wrap64 (2 ^ y)) == 0) = true := by
  rw [msk_eq h, and_small _ (mskN_lt h k) _ hy, testBit_mskN]
  simp only [Bool.not_eq_true', decide_eq_false_iff_not]
  exact fun ⟨j, hj, e⟩ => hn j hj e
theorem and_set {s : Nat → Nat} {x k y : Nat} (h : ∀ j, it s j x < 7) (hy : y < 7) {j : Nat} (hj : j < k) (e : it s j x = y) : (bits .and .i64 (msk s x k) (wrap64 (2 ^ y)) == 0) = false := by
  rw [msk_eq h, and_small _ (mskN_lt h k) _ hy, testBit_mskN]
  simp only [Bool.not_eq_false', decide_eq_true_eq]
  exact ⟨j, hj, e⟩
theorem shr_clear {s : Nat → Nat} {x k y : Nat} (h : ∀ j, it s j x < 7) (hy : y < 7) (hn : ∀ j, j < k → it s j x ≠ y) : ((msk s x k / 2 ^ y).tmod 2 == 0) = true := by
  rw [msk_eq h, shr_small _ (mskN_lt h k) _ hy, testBit_mskN]
  simp only [Bool.not_eq_true', decide_eq_false_iff_not]
  exact fun ⟨j, hj, e⟩ => hn j hj e
theorem shr_set {s : Nat → Nat} {x k y : Nat} (h : ∀ j, it s j x < 7) (hy : y < 7) {j : Nat} (hj : j < k) (e : it s j x = y) : ((msk s x k / 2 ^ y).tmod 2 == 0) = false := by
  rw [msk_eq h, shr_small _ (mskN_lt h k) _ hy, testBit_mskN]
  simp only [Bool.not_eq_false', decide_eq_true_eq]
  exact ⟨j, hj, e⟩
theorem msk_bounds {s : Nat → Nat} {x : Nat} (h : ∀ j, it s j x < 7) (k : Nat) : 0 ≤ msk s x k ∧ msk s x k < 128 := by
  rw [msk_eq h]
  have := mskN_lt h k
  omega

end Go.Proofs.Ytanncngbmgopnaa
