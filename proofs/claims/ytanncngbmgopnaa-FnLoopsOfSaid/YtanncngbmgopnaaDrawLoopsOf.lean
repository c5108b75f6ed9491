/- spec.DrawLoopsOf: a drawn list. Condition: the code's bounds. -/
import Derived.Test.YtanncngbmgopnaaL20At
namespace Go.Proofs.Ytanncngbmgopnaa
open Go.RowKit
set_option linter.unusedVariables false

set_option maxHeartbeats 400000 in
theorem drawLoopsOf_any (A : Option Addr) (n c : Nat) (q : Nat → Int) (w : World) (hA : Bytes w A n c q) :
    Calls Try.prog 23 #[.slice A n c] w (RetDrawn w) := by
  have HA := Lib.hid hA
  clear hA
  go_enter Try.func23, Try.ntmps23
  go_wp2_with fail
  refine (l20Open_any A n c q w HA.out).mono ?_
  rintro e w1 ⟨rfl, r1, b1⟩
  have B1 := Lib.hid b1
  go_wp2_with fail
  refine (l20Map_any w.heap.size 0 9 _ r1 (by omega) (by omega)).mono ?_
  rintro e w2 ⟨A2, k, c2, zs, hk, rfl, how, _, b2, hs, _⟩
  have HO := Lib.hid how
  have B2 := Lib.hid b2
  have hs1 := b1.size
  clear r1 b1 b2 how
  go_wp2
  go_ret
  exact ⟨A2, k, c2, zs, hk, rfl, HO.out.mono hs1, B1.out.trans B2.out⟩

end Go.Proofs.Ytanncngbmgopnaa
