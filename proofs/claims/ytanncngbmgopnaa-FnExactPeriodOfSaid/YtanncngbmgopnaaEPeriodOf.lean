/- laws.FnExactPeriodOf: the walk of the law: it answers true whatever comes in. No condition. -/
import Derived.Test.YtanncngbmgopnaaToIntS
import Derived.Test.YtanncngbmgopnaaEqIntS
import Derived.Test.YtanncngbmgopnaaBothPeriodOf
namespace Go.Proofs.Ytanncngbmgopnaa
open Go.RowKit

set_option maxHeartbeats 1000000 in
set_option maxRecDepth 100000 in
theorem exactPeriodOf_walk (A0 : Option Addr) (n0 c0 : Nat) (p0 : Nat → Int) (w : World) (hA0 : View w A0 n0 p0) :
    Calls Try.prog 12 #[.slice A0 n0 c0] w fun e w' => e = .returned (.bool true) ∧ Below w.heap.size w w' := by
  by_cases g0 : 1048576 < n0
  · go_enter Try.func12, Try.ntmps12
    go_wp2_with fail
    go_ret
    exact ⟨rfl, Below.refl _ _⟩
  have h0 : n0 ≤ 1048576 := by omega
  obtain ⟨r, hS, hI⟩ := bothPeriodOf n0 p0 h0
  have HS := Lib.hid hS
  have HI := Lib.hid hI
  clear hS hI
  have bel : Below w.heap.size w w := Below.refl _ _
  go_enter Try.func12, Try.ntmps12
  go_wp2_with fail
  refine (toIntS_any _ _ _ _ _ (hA0.below bel) (by omega)).mono ?_
  rintro e w1 ⟨rfl, t1, b1⟩
  replace bel := below_more bel b1
  have s1 := b1.size
  clear b1
  go_wp2_with fail
  refine (HS.out _ _ _ t1.viewL).mono ?_
  rintro e w2 ⟨rfl, b2⟩
  replace t1 := Own.below t1 b2
  replace bel := below_more bel b2
  have s2 := b2.size
  clear b2
  clear t1
  go_wp2_with fail
  refine (toIntS_any _ _ _ _ _ (hA0.below bel) (by omega)).mono ?_
  rintro e w3 ⟨rfl, x0, b3⟩
  replace bel := below_more bel b3
  have s3 := b3.size
  clear b3
  go_wp2_with fail
  refine (HI.out _ _ _ x0.viewL).mono ?_
  rintro e w4 ⟨rfl, b4⟩
  replace x0 := Own.below x0 b4
  replace bel := below_more bel b4
  have s4 := b4.size
  clear b4
  go_wp2_with fail
  refine (toIntS_any _ _ _ _ _ (hA0.below bel) (by omega)).mono ?_
  rintro e w5 ⟨rfl, t2, b5⟩
  replace x0 := Own.below x0 b5
  replace bel := below_more bel b5
  have s5 := b5.size
  clear b5
  go_wp2_with fail
  refine (eqIntS_yes _ _ _ _ _ _ _ x0.viewL t2.viewL (by omega)).mono ?_
  rintro e w6 ⟨rfl, b6⟩
  replace x0 := Own.below x0 b6
  replace t2 := Own.below t2 b6
  replace bel := below_more bel b6
  have s6 := b6.size
  clear b6
  clear t2
  go_wp2_with fail
  go_ret
  exact ⟨rfl, bel⟩

end Go.Proofs.Ytanncngbmgopnaa
