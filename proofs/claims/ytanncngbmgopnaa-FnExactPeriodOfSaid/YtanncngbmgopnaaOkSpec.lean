/- spec.MapOk: whether a row is a map, for every row. Condition: the length's bound. -/
import Derived.Test.YtanncngbmgopnaaBase
namespace Go.Proofs.Ytanncngbmgopnaa
open Go.RowKit

set_option maxHeartbeats 400000 in
theorem sMapOk_yes (A : Option Addr) (n c : Nat) (p : Nat → Int) (w : World) (hA : View w A n p) (hv : Valid n p) :
    Calls Try.prog 46 #[.slice A n c] w fun e w' => e = .returned (.bool true) ∧ w = w' := by
  obtain ⟨h1, h7, hin⟩ := hv
  obtain ⟨g, off, rfl, hg, hc⟩ := hA (by omega)
  have HC := Lib.hid hc
  have HI := Lib.hid hin
  clear hc hin hA
  go_enter Try.func46, Try.ntmps46
  go_wp2
  go_loop [3] (fun i => ∃ k : Nat, k ≤ n ∧ i = .int .i64 k) (fun i => n - (intOf i).toNat)
  case atStart => exact ⟨0, Nat.zero_le _, rfl⟩
  case round =>
    obtain ⟨k, hk, rfl⟩ := hrel
    by_cases hlt : k < n
    · have c1 := HC.out k hlt
      obtain ⟨i0, i1⟩ := HI.out k hlt
      have i2 : p k ≤ n - 1 := by omega
      go_wp2
      go_round
      case rel => exact ⟨k + 1, by omega, by go_num⟩
      case measure => simp [intOf]; omega
    · obtain rfl : k = n := by omega
      go_wp2
      go_ret
      exact ⟨ret_bool (decide_eq_true (by omega)), rfl⟩

set_option maxHeartbeats 400000 in
theorem sMapOk_no (A : Option Addr) (n c : Nat) (p : Nat → Int) (w : World) (hA : View w A n p) (hv : ¬ Valid n p) (_hn : n ≤ 1099511627776) :
    Calls Try.prog 46 #[.slice A n c] w fun e w' => e = .returned (.bool false) ∧ w = w' := by
  go_enter Try.func46, Try.ntmps46
  go_wp2
  go_loop [3] (fun i => ∃ k : Nat, k ≤ n ∧ i = .int .i64 k ∧ InTo k n p) (fun i => n - (intOf i).toNat)
  case atStart => exact ⟨0, Nat.zero_le _, rfl, InTo.zero _ _⟩
  case round =>
    obtain ⟨k, hk, rfl, hin⟩ := hrel
    by_cases hlt : k < n
    · obtain ⟨g, off, rfl, hg, hc⟩ := hA (by omega)
      have c1 := hc k hlt
      clear hc hA
      by_cases i0 : 0 ≤ p k
      · by_cases i1 : p k < n
        · have i2 : p k ≤ n - 1 := by omega
          go_wp2
          go_round
          case rel => exact ⟨k + 1, by omega, by go_num, hin.succ i0 i1⟩
          case measure => simp [intOf]; omega
        · have i2 : ¬ p k ≤ n - 1 := by omega
          go_wp2
          go_ret
          exact ⟨rfl, rfl⟩
      · go_wp2
        go_ret
        exact ⟨rfl, rfl⟩
    · obtain rfl : k = n := by omega
      by_cases h1 : 1 ≤ k
      · have h7 : ¬ k ≤ 7 := fun h7 => hv ⟨h1, h7, hin⟩
        go_wp2
        go_ret
        exact ⟨ret_bool (decide_eq_false (by omega)), rfl⟩
      · go_wp2
        go_ret
        exact ⟨rfl, rfl⟩

end Go.Proofs.Ytanncngbmgopnaa
