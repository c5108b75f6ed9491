/- slices.Contains at a map of things: whether one of its numbers is v. Condition: the length's bound. -/
import Derived.Test.YtdhgnbfkcpaohaaBase
namespace Go.Proofs.Ytdhgnbfkcpaohaa
open Go.RowKit
set_option linter.unusedVariables false

set_option maxHeartbeats 400000 in
theorem indexM_yes (A : Option Addr) (n c t : Nat) (p : Nat → Int) (v : Int) (w : World) (hA : View w A n p) (hn : n ≤ 1099511627776) (ht : t < n) (hv : p t = v) :
    Calls Try.prog 104 #[.slice A n c, .int .i64 v] w fun e w' => ∃ r : Nat, e = .returned (.int .i64 r) ∧ w = w' := by
  obtain ⟨g, off, rfl, hg, hc⟩ := hA (by omega)
  have HC := Lib.hid hc
  have HV := Lib.hid hv
  clear hc hA hv
  go_enter Try.func104, Try.ntmps104
  go_wp2
  go_loop [8] (fun i => ∃ k : Nat, k ≤ t ∧ i = .int .i64 k) (fun i => n - (intOf i).toNat)
  case atStart => exact ⟨0, Nat.zero_le _, rfl⟩
  case round =>
    obtain ⟨k, hk, rfl⟩ := hrel
    have hlt : k < n := by omega
    have c1 := HC.out k hlt
    by_cases hkv : p k = v
    · have he : (v == p k) = true := by simp [hkv]
      clear hkv
      go_wp2
      go_ret
      first | exact ⟨k, rfl, rfl⟩ | exact ⟨⟨k, rfl⟩, rfl⟩
    · have he : (v == p k) = false := by simp; exact fun e => hkv e.symm
      have hkt : k < t := by
        rcases Nat.lt_or_ge k t with h | h
        · exact h
        · obtain rfl : k = t := by omega
          exact absurd HV.out hkv
      clear hkv
      go_wp2
      go_round
      case rel => exact ⟨k + 1, by omega, by go_num⟩
      case measure => simp [intOf]; omega

set_option maxHeartbeats 400000 in
theorem indexM_no (A : Option Addr) (n c : Nat) (p : Nat → Int) (v : Int) (w : World) (hA : View w A n p) (hn : n ≤ 1099511627776) (hv : ∀ j, j < n → p j ≠ v) :
    Calls Try.prog 104 #[.slice A n c, .int .i64 v] w fun e w' => e = .returned (.int .i64 (-1)) ∧ w = w' := by
  have HA := Lib.hid hA
  have HV := Lib.hid hv
  clear hA hv
  go_enter Try.func104, Try.ntmps104
  go_wp2
  go_loop [8] (fun i => ∃ k : Nat, k ≤ n ∧ i = .int .i64 k) (fun i => n - (intOf i).toNat)
  case atStart => exact ⟨0, Nat.zero_le _, rfl⟩
  case round =>
    obtain ⟨k, hk, rfl⟩ := hrel
    by_cases hlt : k < n
    · obtain ⟨g, off, rfl, hg, hc⟩ := HA.out (by omega)
      have c1 := hc k hlt
      have he : (v == p k) = false := by simp; exact fun e => HV.out k hlt e.symm
      clear hc
      go_wp2
      go_round
      case rel => exact ⟨k + 1, by omega, by go_num⟩
      case measure => simp [intOf]; omega
    · obtain rfl : k = n := by omega
      go_wp2
      go_ret
      exact ⟨rfl, rfl⟩

set_option maxHeartbeats 400000 in
theorem containsM_yes (A : Option Addr) (n c t : Nat) (p : Nat → Int) (v : Int) (w : World) (hA : View w A n p) (hn : n ≤ 1099511627776) (ht : t < n) (hv : p t = v) :
    Calls Try.prog 100 #[.slice A n c, .int .i64 v] w fun e w' => e = .returned (.bool true) ∧ w = w' := by
  have HV := Lib.hid hv
  clear hv
  go_enter Try.func100, Try.ntmps100
  go_wp2_with fail
  refine (indexM_yes A n c t p v w hA hn ht HV.out).mono ?_
  rintro e w_ ⟨r, rfl, rfl⟩
  go_wp2
  go_ret
  exact ⟨rfl, rfl⟩
set_option maxHeartbeats 400000 in
theorem containsM_no (A : Option Addr) (n c : Nat) (p : Nat → Int) (v : Int) (w : World) (hA : View w A n p) (hn : n ≤ 1099511627776) (hv : ∀ j, j < n → p j ≠ v) :
    Calls Try.prog 100 #[.slice A n c, .int .i64 v] w fun e w' => e = .returned (.bool false) ∧ w = w' := by
  have HV := Lib.hid hv
  clear hv
  go_enter Try.func100, Try.ntmps100
  go_wp2_with fail
  refine (indexM_no A n c p v w hA hn HV.out).mono ?_
  rintro e w_ ⟨rfl, rfl⟩
  go_wp2
  go_ret
  exact ⟨rfl, rfl⟩

end Go.Proofs.Ytdhgnbfkcpaohaa
