/- slices.Index at []int: the first place at which a number stands. Condition: the length's bound. -/
import Derived.Test.YtanncngbmgopnaaBase
namespace Go.Proofs.Ytanncngbmgopnaa
open Go.RowKit

/-- None of the first k numbers is v. -/
def NoneTo (k : Nat) (p : Nat → Int) (v : Int) : Prop := ∀ j, j < k → p j ≠ v
theorem NoneTo.zero (p : Nat → Int) (v : Int) : NoneTo 0 p v := fun _ h => absurd h (by omega)
theorem NoneTo.succ {k : Nat} {p : Nat → Int} {v : Int} (h : NoneTo k p v) (e : p k ≠ v) : NoneTo (k + 1) p v := fun j hj => by
  rcases Nat.lt_succ_iff_lt_or_eq.1 hj with h1 | rfl
  · exact h j h1
  · exact e

set_option maxHeartbeats 400000 in
theorem slIndex_at (A : Option Addr) (n c t : Nat) (p : Nat → Int) (v : Int) (w : World) (hA : View w A n p) (hn : n ≤ 1099511627776) (ht : t < n) (hv : p t = v) (hf : NoneTo t p v) :
    Calls Try.prog 77 #[.slice A n c, .int .i64 v] w fun e w' => e = .returned (.int .i64 t) ∧ w = w' := by
  obtain ⟨g, off, rfl, hg, hc⟩ := hA (by omega)
  have HC := Lib.hid hc
  have HV := Lib.hid hv
  have HF := Lib.hid hf
  clear hc hA hv hf
  go_enter Try.func77, Try.ntmps77
  go_wp2
  go_loop [8] (fun i => ∃ k : Nat, k ≤ t ∧ i = .int .i64 k) (fun i => n - (intOf i).toNat)
  case atStart => exact ⟨0, Nat.zero_le _, rfl⟩
  case round =>
    obtain ⟨k, hk, rfl⟩ := hrel
    have hlt : k < n := by omega
    have c1 := HC.out k hlt
    by_cases hkt : k < t
    · have he : (v == p k) = false := by
        have := HF.out k hkt
        simp only [beq_eq_false_iff_ne, ne_eq]
        exact fun e => this e.symm
      go_wp2
      go_round
      case rel => exact ⟨k + 1, by omega, by go_num⟩
      case measure => simp [intOf]; omega
    · obtain rfl : k = t := by omega
      have he : (v == p k) = true := by
        simp only [beq_iff_eq]
        exact HV.out.symm
      go_wp2
      go_ret
      exact ⟨rfl, rfl⟩

end Go.Proofs.Ytanncngbmgopnaa
