/- spec.DrawByPowers: a drawn list and a number. Condition: the code's bounds. -/
import Derived.Test.YtanncngbmgopnaaL20At
namespace Go.Proofs.Ytanncngbmgopnaa
open Go.RowKit
set_option linter.unusedVariables false

set_option maxHeartbeats 400000 in
theorem drawByPowers_any (A : Option Addr) (n c : Nat) (q : Nat → Int) (w : World) (hA : Bytes w A n c q) :
    Calls Try.prog 49 #[.slice A n c] w (RetDrawnAt w) := by
  have HA := Lib.hid hA
  clear hA
  go_enter Try.func49, Try.ntmps49
  go_wp2_with fail
  refine (l20Open_any A n c q w HA.out).mono ?_
  rintro e w1 ⟨rfl, r1, b1⟩
  have B1 := Lib.hid b1
  go_wp2_with fail
  refine (l20At_any w.heap.size 0 12 _ r1 (by omega) (by omega)).mono ?_
  rintro e w2 ⟨A2, k, c2, zs, x, hk, rfl, hx1, hx2, how, _, b2, hs⟩
  have HO := Lib.hid how
  have B2 := Lib.hid b2
  have hs1 := b1.size
  clear r1 b1 b2 how
  go_wp2
  go_ret2
  exact ⟨A2, k, c2, zs, x, hk, rfl, hx1, hx2, HO.out.mono hs1, B1.out.trans B2.out⟩

end Go.Proofs.Ytanncngbmgopnaa
