/- laws.FnExactImageOf: the walk of the law: it answers true whatever comes in. No condition. -/
import Derived.Test.YtlmgboipnngipaaToIntS
import Derived.Test.YtlmgboipnngipaaEqIntS
import Derived.Test.YtlmgboipnngipaaMarkIntS
import Derived.Test.YtlmgboipnngipaaBothImageOf
namespace Go.Proofs.Ytlmgboipnngipaa
open Go.RowKit

set_option maxHeartbeats 1000000 in
set_option maxRecDepth 100000 in
theorem exactImageOf_walk (A0 : Option Addr) (n0 c0 : Nat) (p0 : Nat → Int) (w : World) (hA0 : View w A0 n0 p0) :
    Calls Try.prog 10 #[.slice A0 n0 c0] w fun e w' => e = .returned (.bool true) ∧ Below w.heap.size w w' := by
  by_cases g0 : 1048576 < n0
  · go_enter Try.func10, Try.ntmps10
    go_wp2_with fail
    go_ret
    exact ⟨rfl, Below.refl _ _⟩
  have h0 : n0 ≤ 1048576 := by omega
  obtain ⟨xs, hl, hS, hI⟩ := bothImageOf n0 p0 h0
  have hl' : xs.length ≤ 1099511627776 := by omega
  have HS := Lib.hid hS
  have HI := Lib.hid hI
  clear hS hI
  have bel : Below w.heap.size w w := Below.refl _ _
  go_enter Try.func10, Try.ntmps10
  go_wp2_with fail
  refine (toIntS_any _ _ _ _ _ (hA0.below bel) (by omega)).mono ?_
  rintro e w1 ⟨rfl, t1, b1⟩
  replace bel := below_more bel b1
  have s1 := b1.size
  clear b1
  go_wp2_with fail
  refine (HS.out _ _ _ t1.viewL).mono ?_
  rintro e w2 ⟨Aow, cow, rfl, ow, b2⟩
  replace t1 := Own.below t1 b2
  replace bel := below_more bel b2
  have s2 := b2.size
  clear b2
  clear t1
  have Qow := Lib.hid (Own.block ow)
  go_wp2_with fail
  refine (toIntS_any _ _ _ _ _ (hA0.below bel) (by omega)).mono ?_
  rintro e w3 ⟨rfl, x0, b3⟩
  replace ow := Own.below ow b3
  replace bel := below_more bel b3
  have s3 := b3.size
  clear b3
  have Qx0 := Lib.hid (Own.block x0)
  go_wp2_with fail
  refine (HI.out _ _ _ x0.viewL).mono ?_
  rintro e w4 ⟨Aog, cog, rfl, og, b4⟩
  replace ow := Own.below ow b4
  replace x0 := Own.below x0 b4
  replace bel := below_more bel b4
  have s4 := b4.size
  clear b4
  have Qog := Lib.hid (Own.block og)
  go_wp2_with fail
  refine (eqIntS_yes _ _ _ _ _ _ _ og.view ow.view hl').mono ?_
  rintro e w5 ⟨rfl, b5⟩
  replace ow := Own.below ow b5
  replace x0 := Own.below x0 b5
  replace og := Own.below og b5
  replace bel := below_more bel b5
  have s5 := b5.size
  clear b5
  go_wp2_with fail
  refine (toIntS_any _ _ _ _ _ (hA0.below bel) (by omega)).mono ?_
  rintro e w6 ⟨rfl, t2, b6⟩
  replace ow := Own.below ow b6
  replace x0 := Own.below x0 b6
  replace og := Own.below og b6
  replace bel := below_more bel b6
  have s6 := b6.size
  clear b6
  go_wp2_with fail
  refine (eqIntS_yes _ _ _ _ _ _ _ x0.viewL t2.viewL (by omega)).mono ?_
  rintro e w7 ⟨rfl, b7⟩
  replace ow := Own.below ow b7
  replace x0 := Own.below x0 b7
  replace og := Own.below og b7
  replace t2 := Own.below t2 b7
  replace bel := below_more bel b7
  have s7 := b7.size
  clear b7
  clear t2
  go_wp2_with fail
  refine (markIntS_any _ _ _ _ _ _ _ x0 (by omega) (by omega) (by omega)).mono ?_
  rintro e w8 ⟨rfl, x0', g8⟩
  replace ow := Own.kept ow g8 (apart_blocks Qow.out Qx0.out (by omega))
  replace og := Own.kept og g8 (apart_blocks Qog.out Qx0.out (by omega))
  replace bel := bel.grown g8 bel.size (fun k hk => by have := (Qx0.out k hk).1; omega)
  have s8 := g8.size
  clear g8
  clear x0
  have x0 := x0'
  clear x0'
  go_wp2_with fail
  refine (eqIntS_yes _ _ _ _ _ _ _ og.view ow.view hl').mono ?_
  rintro e w9 ⟨rfl, b9⟩
  replace ow := Own.below ow b9
  replace x0 := Own.below x0 b9
  replace og := Own.below og b9
  replace bel := below_more bel b9
  have s9 := b9.size
  clear b9
  go_wp2_with fail
  refine (markIntS_any _ _ _ _ _ _ _ og (by omega) (by omega) (by omega)).mono ?_
  rintro e w10 ⟨rfl, og', g10⟩
  replace ow := Own.kept ow g10 (apart_blocks Qow.out Qog.out (by omega))
  replace x0 := Own.kept x0 g10 (apart_blocks Qx0.out Qog.out (by omega))
  replace bel := bel.grown g10 bel.size (fun k hk => by have := (Qog.out k hk).1; omega)
  have s10 := g10.size
  clear g10
  clear og
  have og := og'
  clear og'
  go_wp2_with fail
  refine (heldIntS_any _ _ _ _ _ og.viewL (by omega) (by omega) (by omega)).mono ?_
  rintro e w_ ⟨rfl, rfl⟩
  go_wp2_with fail
  refine (toIntS_any _ _ _ _ _ (hA0.below bel) (by omega)).mono ?_
  rintro e w11 ⟨rfl, t3, b11⟩
  replace ow := Own.below ow b11
  replace x0 := Own.below x0 b11
  replace og := Own.below og b11
  replace bel := below_more bel b11
  have s11 := b11.size
  clear b11
  go_wp2_with fail
  refine (HI.out _ _ _ t3.viewL).mono ?_
  rintro e w12 ⟨Aoh, coh, rfl, oh, b12⟩
  replace ow := Own.below ow b12
  replace x0 := Own.below x0 b12
  replace og := Own.below og b12
  replace t3 := Own.below t3 b12
  replace bel := below_more bel b12
  have s12 := b12.size
  clear b12
  clear t3
  go_wp2_with fail
  refine (eqIntS_yes _ _ _ _ _ _ _ oh.view ow.view hl').mono ?_
  rintro e w13 ⟨rfl, b13⟩
  replace ow := Own.below ow b13
  replace x0 := Own.below x0 b13
  replace og := Own.below og b13
  replace oh := Own.below oh b13
  replace bel := below_more bel b13
  have s13 := b13.size
  clear b13
  go_wp2_with fail
  refine (heldIntS_any _ _ _ _ _ og.viewL (by omega) (by omega) (by omega)).mono ?_
  rintro e w_ ⟨rfl, rfl⟩
  go_wp2_with fail
  go_ret
  exact ⟨rfl, bel⟩

end Go.Proofs.Ytlmgboipnngipaa
