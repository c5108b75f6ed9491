/- laws.FnExactReadMap: the walk of the law: it answers true whatever comes in. No condition. -/
import Derived.Test.YtanncngbmgopnaaEqIntS
import Derived.Test.YtanncngbmgopnaaMarkIntS
import Derived.Test.YtanncngbmgopnaaBothReadMap
namespace Go.Proofs.Ytanncngbmgopnaa
open Go.RowKit

set_option maxHeartbeats 1000000 in
set_option maxRecDepth 100000 in
theorem exactReadMap_walk (t0 : ByteArray) (w : World) (y0 : t0.size ≤ maxLen) :
    Calls Try.prog 4 #[.string t0] w fun e w' => e = .returned (.bool true) ∧ Below w.heap.size w w' := by
  have y0' : t0.size ≤ 9223372036854775807 := by unfold maxLen at y0; omega
  by_cases g0 : 1048576 < t0.size
  · go_enter Try.func4, Try.ntmps4
    go_wp2_with fail
    go_ret
    exact ⟨rfl, Below.refl _ _⟩
  have h0 : t0.size ≤ 1048576 := by omega
  obtain ⟨xs, bx, hl, hS, hI⟩ := bothReadMap t0 h0
  have hl' : xs.length ≤ 1099511627776 := by omega
  have HS := Lib.hid hS
  have HI := Lib.hid hI
  clear hS hI
  have bel : Below w.heap.size w w := Below.refl _ _
  go_enter Try.func4, Try.ntmps4
  go_wp2_with fail
  refine (HS.out _ ).mono ?_
  rintro e w1 ⟨Aow, cow, rfl, ow, b1⟩
  replace bel := below_more bel b1
  have s1 := b1.size
  clear b1
  have Qow := Lib.hid (Own.block ow)
  go_wp2_with fail
  refine (HI.out _ ).mono ?_
  rintro e w2 ⟨Aog, cog, rfl, og, b2⟩
  replace ow := Own.below ow b2
  replace bel := below_more bel b2
  have s2 := b2.size
  clear b2
  have Qog := Lib.hid (Own.block og)
  go_wp2_with fail
  refine (eqIntS_yes _ _ _ _ _ _ _ og.view ow.view hl').mono ?_
  rintro e w3 ⟨rfl, b3⟩
  replace ow := Own.below ow b3
  replace og := Own.below og b3
  replace bel := below_more bel b3
  have s3 := b3.size
  clear b3
  go_wp2_with fail
  refine (markIntS_any _ _ _ _ _ _ _ og (by omega) (by omega) (by omega)).mono ?_
  rintro e w4 ⟨rfl, og', g4⟩
  replace ow := Own.kept ow g4 (apart_blocks Qow.out Qog.out (by omega))
  replace bel := bel.grown g4 bel.size (fun k hk => by have := (Qog.out k hk).1; omega)
  have s4 := g4.size
  clear g4
  clear og
  have og := og'
  clear og'
  go_wp2_with fail
  refine (heldIntS_any _ _ _ _ _ og.viewL (by omega) (by omega) (by omega)).mono ?_
  rintro e w_ ⟨rfl, rfl⟩
  go_wp2_with fail
  refine (HI.out _ ).mono ?_
  rintro e w5 ⟨Aoh, coh, rfl, oh, b5⟩
  replace ow := Own.below ow b5
  replace og := Own.below og b5
  replace bel := below_more bel b5
  have s5 := b5.size
  clear b5
  go_wp2_with fail
  refine (eqIntS_yes _ _ _ _ _ _ _ oh.view ow.view hl').mono ?_
  rintro e w6 ⟨rfl, b6⟩
  replace ow := Own.below ow b6
  replace og := Own.below og b6
  replace oh := Own.below oh b6
  replace bel := below_more bel b6
  have s6 := b6.size
  clear b6
  go_wp2_with fail
  refine (heldIntS_any _ _ _ _ _ og.viewL (by omega) (by omega) (by omega)).mono ?_
  rintro e w_ ⟨rfl, rfl⟩
  go_wp2_with fail
  go_ret
  exact ⟨rfl, bel⟩

end Go.Proofs.Ytanncngbmgopnaa
