/- laws.hasInt: whether a slice has a number. Condition: the length's bound. -/
import Derived.Test.YtanncngbmgopnaaBase
namespace Go.Proofs.Ytanncngbmgopnaa
open Go.RowKit
set_option linter.unusedVariables false

theorem mem_lst {n : Nat} {p : Nat → Int} {z : Int} : z ∈ lst n p ↔ ∃ k, k < n ∧ p k = z := by
  simp [lst]
/-- Whether the first n numbers of p have z. -/
def hasF (n : Nat) (p : Nat → Int) (z : Int) : Bool := decide (z ∈ lst n p)
theorem hasF_yes {n k : Nat} {p : Nat → Int} {z : Int} (h : k < n) (e : p k = z) : hasF n p z = true := by
  unfold hasF; rw [decide_eq_true_eq, mem_lst]; exact ⟨k, h, e⟩
theorem hasF_no {n : Nat} {p : Nat → Int} {z : Int} (h : ∀ k, k < n → p k ≠ z) : hasF n p z = false := by
  unfold hasF; rw [decide_eq_false_iff_not, mem_lst]; rintro ⟨k, hk, e⟩; exact h k hk e

set_option maxHeartbeats 1000000 in
theorem hasInt_any (A : Option Addr) (n c : Nat) (p : Nat → Int) (z : Int) (w : World) (hA : View w A n p) (hn : n ≤ 1099511627776) :
    Calls Try.prog 29 #[.slice A n c, .int .i64 z] w fun e w' => e = .returned (.bool (hasF n p z)) ∧ w = w' := by
  have HV := Lib.hid hA
  clear hA
  go_enter Try.func29, Try.ntmps29
  go_wp2
  go_loopw [5] (fun i wr => ∃ k : Nat, k ≤ n ∧ i = .int .i64 k ∧ (∀ j, j < k → p j ≠ z) ∧ w = wr) (fun i _ => n - (intOf i).toNat)
  case atStart => exact ⟨0, Nat.zero_le _, rfl, fun j hj => absurd hj (by omega), rfl⟩
  case round =>
    obtain ⟨k, hk, rfl, hno, rfl⟩ := hrel
    have HNO := Lib.hid hno
    clear hno
    by_cases hlt : k < n
    · obtain ⟨g, off, rfl, hg, hc⟩ := HV.out (by omega)
      have c1 := hc k hlt
      clear hc
      by_cases he : p k = z
      · have hb : (p k == z) = true := by simp [he]
        have HE := Lib.hid he
        clear he
        go_wp2
        go_ret
        exact ⟨ret_bool (hasF_yes hlt HE.out).symm, rfl⟩
      · have hb : (p k == z) = false := by simp [he]
        have HE := Lib.hid he
        clear he
        go_wp2
        go_roundw
        case rel => exact ⟨k + 1, by omega, by go_num, fun j hj => by rcases Nat.lt_succ_iff_lt_or_eq.1 hj with h1 | rfl; exact HNO.out j h1; exact HE.out, by trivial⟩
        case measure => simp [intOf]; omega
    · obtain rfl : k = n := by omega
      go_wp2
      go_ret
      exact ⟨ret_bool (hasF_no HNO.out).symm, rfl⟩

end Go.Proofs.Ytanncngbmgopnaa
