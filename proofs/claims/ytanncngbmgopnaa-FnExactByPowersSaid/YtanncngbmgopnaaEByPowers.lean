/- laws.FnExactByPowers: the walk of the law: it answers true whatever comes in. No condition. -/
import Derived.Test.YtanncngbmgopnaaToIntS
import Derived.Test.YtanncngbmgopnaaEqIntS
import Derived.Test.YtanncngbmgopnaaEqFound
import Derived.Test.YtanncngbmgopnaaBothByPowers
namespace Go.Proofs.Ytanncngbmgopnaa
open Go.RowKit
set_option linter.unusedVariables false

set_option maxHeartbeats 1000000 in
set_option maxRecDepth 100000 in
theorem exactByPowers_walk (A0 : Option Addr) (n0 c0 : Nat) (p0 : Nat → Int) (z1 : Int) (w : World) (hA0 : View w A0 n0 p0) (y1 : -9223372036854775808 ≤ z1 ∧ z1 ≤ 9223372036854775807) :
    Calls Try.prog 7 #[.slice A0 n0 c0, .int .i64 z1] w fun e w' => e = .returned (.bool true) ∧ Below w.heap.size w w' := by
  by_cases g0 : 1048576 < n0
  · go_enter Try.func7, Try.ntmps7
    go_wp2_with fail
    go_ret
    exact ⟨rfl, Below.refl _ _⟩
  have h0 : n0 ≤ 1048576 := by omega
  obtain ⟨a, b, c, t, hS, hI⟩ := bothByPowers n0 p0 h0 z1 y1
  have HS := Lib.hid hS
  have HI := Lib.hid hI
  clear hS hI
  have bel : Below w.heap.size w w := Below.refl _ _
  go_enter Try.func7, Try.ntmps7
  go_wp2_with fail
  refine (toIntS_any _ _ _ _ _ (hA0.below bel) (by omega)).mono ?_
  rintro e w1 ⟨rfl, t1, b1⟩
  replace bel := below_more bel b1
  go_wp2_with fail
  refine (HS.out _ _ _ t1.viewL).mono ?_
  rintro e w2 ⟨rfl, b2⟩
  replace bel := below_more bel b2
  clear t1 b1 b2
  have k2 := Lib.hid (Bk.new w2 #[.int .i64 a, .int .i64 b, .int .i64 c] 41)
  have s2 := bel.size
  replace bel := bel.alloc bel.size (.cells #[.int .i64 a, .int .i64 b, .int .i64 c] 41)
  go_wp2_with fail
  refine (toIntS_any _ _ _ _ _ (hA0.below bel) (by omega)).mono ?_
  rintro e w3 ⟨rfl, x0, b3⟩
  simp only [World.size_alloc] at x0
  replace bel := below_more bel b3
  have k3 := Lib.hid (k2.out.below b3)
  clear b3 k2
  go_wp2_with fail
  refine (HI.out _ _ _ x0.viewL).mono ?_
  rintro e w4 ⟨rfl, b4⟩
  replace bel := below_more bel b4
  have k4 := Lib.hid (k3.out.below b4)
  replace x0 := Own.below x0 b4
  clear b4 k3
  have k5 := (Bk.new w4 #[.int .i64 a, .int .i64 b, .int .i64 c] 41)
  have k6 := (k4.out.alloc (.cells #[.int .i64 a, .int .i64 b, .int .i64 c] 41))
  replace x0 := Own.below x0 ((Below.refl _ _).alloc (Nat.le_refl _) (.cells #[.int .i64 a, .int .i64 b, .int .i64 c] 41))
  replace bel := bel.alloc bel.size (.cells #[.int .i64 a, .int .i64 b, .int .i64 c] 41)
  have c50 := k5.cell 0
  have c51 := k5.cell 1
  have c52 := k5.cell 2
  have c60 := k6.cell 0
  have c61 := k6.cell 1
  have c62 := k6.cell 2
  clear k4 k5 k6
  go_wp2_with fail
  refine (eqFound_any a b c _).mono ?_
  rintro e w5 ⟨rfl, b5⟩
  replace bel := below_more bel b5
  replace x0 := Own.below x0 b5
  clear b5 c50 c51 c52 c60 c61 c62
  go_wp2_with fail
  refine (toIntS_any _ _ _ _ _ (hA0.below bel) (by omega)).mono ?_
  rintro e w6 ⟨rfl, t2, b6⟩
  replace bel := below_more bel b6
  replace x0 := Own.below x0 b6
  clear b6
  go_wp2_with fail
  refine (eqIntS_yes _ _ _ _ _ _ _ x0.viewL t2.viewL (by omega)).mono ?_
  rintro e w7 ⟨rfl, b7⟩
  replace bel := below_more bel b7
  go_wp2_with fail
  go_ret
  exact ⟨rfl, bel⟩

end Go.Proofs.Ytanncngbmgopnaa
