/- The greatest common divisor, as the program and the reference reckon it; the period so far. Conditions: positive numbers, bounds. -/
import Derived.Test.YtanncngbmgopnaaBase
import Derived.Deep.QuietTactic
import Derived.BigQuiet
import Derived.IntWalk
namespace Go.Proofs.Ytanncngbmgopnaa
open Go.RowKit
set_option linter.unusedVariables false

/-- The period of the first j loops, by their lengths. -/
def perTo (len : Nat → Nat) : Nat → Nat
  | 0 => 1
  | j + 1 => perTo len j / Nat.gcd (perTo len j) (len j) * len j

theorem step_le {a b : Nat} (hb : b ≤ 7) : a / Nat.gcd a b * b ≤ 7 * a := by
  have h1 : a / Nat.gcd a b ≤ a := Nat.div_le_self _ _
  calc a / Nat.gcd a b * b ≤ a * 7 := Nat.mul_le_mul h1 hb
    _ = 7 * a := Nat.mul_comm _ _
theorem step_pos {a b : Nat} (ha : 1 ≤ a) (hb : 1 ≤ b) : 1 ≤ a / Nat.gcd a b * b := by
  have h1 : 0 < a / Nat.gcd a b := Nat.div_pos (Nat.gcd_le_left _ ha) (Nat.gcd_pos_of_pos_left _ ha)
  exact Nat.mul_pos h1 hb
theorem perTo_pos {len : Nat → Nat} {n : Nat} (h : ∀ i, i < n → 1 ≤ len i) : ∀ j, j ≤ n → 1 ≤ perTo len j
  | 0, _ => Nat.le_refl _
  | j + 1, hj => step_pos (perTo_pos h j (by omega)) (h j (by omega))
theorem perTo_le {len : Nat → Nat} {n : Nat} (h : ∀ i, i < n → len i ≤ 7) : ∀ j, j ≤ n → perTo len j ≤ 7 ^ j
  | 0, _ => Nat.le_refl _
  | j + 1, hj => by
    have h1 := perTo_le h j (by omega)
    have h2 := step_le (a := perTo len j) (h j (by omega))
    rw [Nat.pow_succ]
    show perTo len j / Nat.gcd (perTo len j) (len j) * len j ≤ _
    omega
theorem perTo_bound {len : Nat → Nat} {n : Nat} (hn : n ≤ 7) (h : ∀ i, i < n → len i ≤ 7) (j : Nat) (hj : j ≤ n) : perTo len j ≤ 823543 :=
  Nat.le_trans (perTo_le h j hj) (Nat.le_trans (Nat.pow_le_pow_right (by omega) (by omega : j ≤ 7)) (by decide))

theorem gcd_step (x y : Nat) : Nat.gcd y (x % y) = Nat.gcd x y := by rw [Nat.gcd_comm x y, Nat.gcd_rec y x, Nat.gcd_comm]

set_option maxHeartbeats 1000000 in
theorem l4Common_any (a b : Nat) (w : World) (ha : 1 ≤ a) (ha2 : a ≤ 1000000) (hb : 1 ≤ b) (hb2 : b ≤ 7) :
    Calls Try.prog 82 #[.int .i64 a, .int .i64 b] w fun e w' => e = .returned (.int .i64 ((a / Nat.gcd a b * b : Nat) : Int)) ∧ w = w' := by
  have HG := Lib.hid (Nat.gcd_pos_of_pos_left b ha)
  have HST := Lib.hid (step_le (a := a) hb2)
  go_enter Try.func82, Try.ntmps82
  go_wp2
  go_loop [5, 6, 7] (fun u v z => ∃ x y : Nat, u = .int .i64 x ∧ v = .int .i64 y ∧ x ≤ 1000000 ∧ y ≤ 1000000 ∧ Hid (Nat.gcd x y = Nat.gcd a b)) (fun _ v _ => (intOf v).toNat)
  case atStart => exact ⟨a, b, rfl, rfl, ha2, by omega, Lib.hid rfl⟩
  case round =>
    obtain ⟨x, y, rfl, rfl, hx, hy, HXY⟩ := hrel
    by_cases h0 : 0 < y
    · have em : (x : Int) % (y : Int) = ((x % y : Nat) : Int) := (Int.natCast_emod x y).symm
      have hlt := Nat.mod_lt x h0
      have HS := Lib.hid (gcd_step x y)
      obtain ⟨r, hr⟩ : ∃ r, x % y = r := ⟨_, rfl⟩
      rw [hr] at em hlt HS
      clear hr
      go_wp2
      go_round
      case rel => exact ⟨y, r, rfl, congrArg (Value.int .i64) em, hy, by omega, Lib.hid (HS.out.trans HXY.out)⟩
      case measure => simp [intOf, em]; omega
    · obtain rfl : y = 0 := by omega
      have hxg : x = Nat.gcd a b := by have := HXY.out; rw [Nat.gcd_zero_right] at this; exact this
      have hx1 : 1 ≤ x := by have := HG.out; omega
      have HXG := Lib.hid hxg
      have e1 : (a : Int) / (x : Int) = ((a / x : Nat) : Int) := (Int.natCast_ediv a x).symm
      have hst : a / x * b ≤ 7 * a := by have := HST.out; rw [← hxg] at this; exact this
      have hdl : a / x ≤ a := Nat.div_le_self _ _
      clear hxg HXY
      obtain ⟨d, hd⟩ : ∃ d, a / x = d := ⟨_, rfl⟩
      rw [hd] at e1 hst hdl
      have HD := Lib.hid hd
      clear hd
      have e2 : (d : Int) * (b : Int) = ((d * b : Nat) : Int) := (Int.natCast_mul d b).symm
      obtain ⟨m, hm⟩ : ∃ m, d * b = m := ⟨_, rfl⟩
      rw [hm] at e2 hst
      have HMM := Lib.hid hm
      clear hm
      go_wp2
      go_ret
      exact ⟨ret_int (by rw [← HXG.out, e1, e2]), rfl⟩

set_option maxHeartbeats 1000000 in
theorem commonDivisor_any (a b : Nat) (w : World) (ha2 : a ≤ 1000000) (hb2 : b ≤ 1000000) :
    Calls Try.prog 84 #[.int .i64 a, .int .i64 b] w fun e w' => e = .returned (.int .i64 ((Nat.gcd a b : Nat) : Int)) ∧ Below w.heap.size w w' := by
  go_enter Try.func84, Try.ntmps84
  go_wp2
  go_loopw [0, 1] (fun u v wr => ∃ x y : Nat, u = .int .i64 x ∧ v = .int .i64 y ∧ x ≤ 1000000 ∧ y ≤ 1000000 ∧ Hid (Nat.gcd x y = Nat.gcd a b) ∧ Below w.heap.size w wr) (fun _ v _ => (intOf v).toNat)
  case atStart => exact ⟨a, b, rfl, rfl, ha2, hb2, Lib.hid rfl, Below.refl _ _⟩
  case round =>
    obtain ⟨x, y, rfl, rfl, hx, hy, HXY, hb⟩ := hrel
    have HB := Lib.hid hb
    clear hb
    by_cases h0 : 0 < y
    · have em : (x : Int) % (y : Int) = ((x % y : Nat) : Int) := (Int.natCast_emod x y).symm
      have et : (x : Int).tmod (y : Int) = ((x % y : Nat) : Int) := by rw [Int.tmod_eq_emod_of_nonneg (by omega)]; exact em
      have hlt := Nat.mod_lt x h0
      have hy0 : ((y : Int) != 0) = true := by simp; omega
      have HS := Lib.hid (gcd_step x y)
      obtain ⟨r, hr⟩ : ∃ r, x % y = r := ⟨_, rfl⟩
      rw [hr] at em et hlt HS
      clear hr
      go_wp2_with fail
      go_quiet (fail)
      have B9 := Lib.hid (below_drewN HB.out nq)
      clear em et
      go_wp2
      go_roundw
      case rel => exact ⟨y, r, rfl, rfl, hy, by omega, Lib.hid (HS.out.trans HXY.out), B9.out⟩
      case measure => simp [intOf]; omega
    · obtain rfl : y = 0 := by omega
      have HXG : Hid (x = Nat.gcd a b) := Lib.hid (by have := HXY.out; rw [Nat.gcd_zero_right] at this; exact this)
      clear HXY
      go_wp2
      go_ret
      exact ⟨ret_int (by rw [← HXG.out]), HB.out⟩

end Go.Proofs.Ytanncngbmgopnaa
