/- The draws' reader: odd. Condition: how often was drawn. -/
import Derived.Test.YtanncngbmgopnaaPick
namespace Go.Proofs.Ytanncngbmgopnaa
open Go.RowKit
set_option linter.unusedVariables false

set_option maxHeartbeats 1000000 in
theorem odd_any (b p n : Nat) (w : World) (hr : Rd w b p) (hm : n ≤ 1000000) (hp : p ≤ 1000000) :
    Calls Try.prog 85 #[.pointer (some ⟨b, 0, none⟩), .int .i64 n] w fun e w' => ∃ t : Bool, (n = 0 → t = false) ∧ e = .returned (.bool t) ∧ (∃ p', p' ≤ p + 1 ∧ Rd w' b p') ∧ w.grownBy w' (some b) := by
  have HR := Lib.hid hr
  rcases Nat.eq_zero_or_pos n with rfl | hn
  · go_enter Try.func85, Try.ntmps85
    go_wp2
    go_ret
    exact ⟨false, fun _ => rfl, rfl, ⟨p, by omega, HR.out⟩, grownBy_below (Below.refl _ _) _⟩
  · have g2 : (0 < (n : Int)) = True := by simp; omega
    have HN := Lib.hid hn
    clear hr
    go_enter Try.func85, Try.ntmps85
    go_wp2_with fail
    refine (pick_any b p n _ HR.out hn hm hp).mono ?_
    rintro e w1 ⟨k, hk, rfl, r1, g1⟩
    have R1 := Lib.hid r1
    have G1 := Lib.hid g1
    clear r1 g1
    go_wp2
    go_ret
    exact ⟨_, fun h => absurd h (by have := HN.out; omega), rfl, ⟨p + 1, by omega, R1.out⟩, G1.out⟩

end Go.Proofs.Ytanncngbmgopnaa
