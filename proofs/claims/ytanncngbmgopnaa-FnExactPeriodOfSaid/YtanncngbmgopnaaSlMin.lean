/- slices.Min at []int: the least of some numbers. Condition: there is one at least. -/
import Derived.Test.YtanncngbmgopnaaBase
namespace Go.Proofs.Ytanncngbmgopnaa
open Go.RowKit
set_option linter.unusedVariables false

/-- The least of p 0 .. p k. -/
def minTo (p : Nat → Int) : Nat → Int
  | 0 => p 0
  | k + 1 => min (minTo p k) (p (k + 1))
theorem minTo_le (p : Nat → Int) (k : Nat) : ∀ j, j ≤ k → minTo p k ≤ p j := by
  induction k with
  | zero => intro j hj; obtain rfl : j = 0 := by omega
            exact Int.le_refl _
  | succ k ih =>
    intro j hj
    simp only [minTo]
    rcases Nat.lt_or_ge j (k + 1) with h1 | h1
    · have := ih j (by omega); omega
    · obtain rfl : j = k + 1 := by omega
      omega
theorem minTo_mem (p : Nat → Int) (k : Nat) : ∃ j, j ≤ k ∧ minTo p k = p j := by
  induction k with
  | zero => exact ⟨0, Nat.le_refl _, rfl⟩
  | succ k ih =>
    obtain ⟨j, hj, e⟩ := ih
    by_cases h : p (k + 1) < minTo p k
    · exact ⟨k + 1, Nat.le_refl _, by simp only [minTo]; omega⟩
    · exact ⟨j, by omega, by simp only [minTo]; omega⟩
theorem minTo_congr {p q : Nat → Int} {k : Nat} (h : ∀ j, j ≤ k → p j = q j) : minTo p k = minTo q k := by
  induction k with
  | zero => exact h 0 (Nat.le_refl _)
  | succ k ih => simp only [minTo]; rw [ih (fun j hj => h j (by omega)), h (k + 1) (Nat.le_refl _)]

set_option maxHeartbeats 1000000 in
theorem slMin_any (A : Option Addr) (n c : Nat) (p : Nat → Int) (w : World) (hA : View w A n p) (h1 : 1 ≤ n) (hn : n ≤ 1099511627776) :
    Calls Try.prog 86 #[.slice A n c] w fun e w' => e = .returned (.int .i64 (minTo p (n - 1))) ∧ w = w' := by
  obtain ⟨g, off, rfl, hg, hc⟩ := hA (by omega)
  have HC := Lib.hid hc
  have c0 : w.cell? ⟨g, off, none⟩ = some (.int .i64 (p 0)) := hc 0 (by omega)
  clear hc hA
  go_enter Try.func86, Try.ntmps86
  go_wp2
  go_loop [3, 4] (fun m i => ∃ k : Nat, k + 1 ≤ n ∧ i = .int .i64 (k + 1 : Int) ∧ m = .int .i64 (minTo p k)) (fun _ i => n - (intOf i).toNat)
  case atStart => exact ⟨0, by omega, rfl, rfl⟩
  case round =>
    obtain ⟨k, hk, rfl, rfl⟩ := hrel
    by_cases hlt : k + 1 < n
    · have c1 : w.cell? ⟨g, off + (k + 1), none⟩ = some (.int .i64 (p (k + 1))) := HC.out (k + 1) hlt
      by_cases hmin : p (k + 1) < minTo p k
      · have hm : min (minTo p k) (p (k + 1)) = p (k + 1) := by omega
        go_wp2
        go_round
        case rel => exact ⟨k + 1, by omega, by go_num, by simp only [minTo]; go_num⟩
        case measure => simp [intOf]; omega
      · have hm : min (minTo p k) (p (k + 1)) = minTo p k := by omega
        go_wp2
        go_round
        case rel => exact ⟨k + 1, by omega, by go_num, by simp only [minTo]; go_num⟩
        case measure => simp [intOf]; omega
    · have hk' : n - 1 = k := by omega
      have HK := Lib.hid hk'
      clear hk'
      go_wp2
      go_ret
      exact ⟨ret_int (by rw [HK.out]), rfl⟩

end Go.Proofs.Ytanncngbmgopnaa
