/- laws.FnExactBehindOf: the walk of the law: it answers true whatever comes in. No condition. -/
import Derived.Test.YtbmbhaaogkhfmaaToIntS
import Derived.Test.YtbmbhaaogkhfmaaEqIntS
import Derived.Test.YtbmbhaaogkhfmaaMarkIntS
import Derived.Test.YtbmbhaaogkhfmaaBothBehindOf
namespace Go.Proofs.Ytbmbhaaogkhfmaa
open Go.RowKit

set_option maxHeartbeats 1000000 in
set_option maxRecDepth 100000 in
theorem exactBehindOf_walk (A0 : Option Addr) (n0 c0 : Nat) (p0 : Nat → Int) (A1 : Option Addr) (n1 c1 : Nat) (p1 : Nat → Int) (w : World) (hA0 : View w A0 n0 p0) (hA1 : View w A1 n1 p1) :
    Calls Try.prog 10 #[.slice A0 n0 c0, .slice A1 n1 c1] w fun e w' => e = .returned (.bool true) ∧ Below w.heap.size w w' := by
  by_cases g0 : 1048576 < n0
  · go_enter Try.func10, Try.ntmps10
    go_wp2_with fail
    go_ret
    exact ⟨rfl, Below.refl _ _⟩
  by_cases g1 : 1048576 < n1
  · go_enter Try.func10, Try.ntmps10
    go_wp2_with fail
    go_ret
    exact ⟨rfl, Below.refl _ _⟩
  have h0 : n0 ≤ 1048576 := by omega
  have h1 : n1 ≤ 1048576 := by omega
  obtain ⟨xs, hl, hS, hI⟩ := bothBehindOf n0 p0 h0 n1 p1 h1
  have hl' : xs.length ≤ 1099511627776 := by omega
  have HS := Lib.hid hS
  have HI := Lib.hid hI
  clear hS hI
  have bel : Below w.heap.size w w := Below.refl _ _
  go_enter Try.func10, Try.ntmps10
  go_wp2_with fail
  refine (toIntS_any _ _ _ _ _ (hA0.below bel) (by omega)).mono ?_
  rintro e w1 ⟨rfl, t1, b1⟩
  replace bel := below_more bel b1
  have s1 := b1.size
  clear b1
  go_wp2_with fail
  refine (toIntS_any _ _ _ _ _ (hA1.below bel) (by omega)).mono ?_
  rintro e w2 ⟨rfl, t2, b2⟩
  replace t1 := Own.below t1 b2
  replace bel := below_more bel b2
  have s2 := b2.size
  clear b2
  go_wp2_with fail
  refine (HS.out _ _ _ _ _ t1.viewL t2.viewL).mono ?_
  rintro e w3 ⟨Aow, cow, rfl, ow, b3⟩
  replace t1 := Own.below t1 b3
  replace t2 := Own.below t2 b3
  replace bel := below_more bel b3
  have s3 := b3.size
  clear b3
  clear t1
  clear t2
  have Qow := Lib.hid (Own.block ow)
  go_wp2_with fail
  refine (toIntS_any _ _ _ _ _ (hA0.below bel) (by omega)).mono ?_
  rintro e w4 ⟨rfl, x0, b4⟩
  replace ow := Own.below ow b4
  replace bel := below_more bel b4
  have s4 := b4.size
  clear b4
  have Qx0 := Lib.hid (Own.block x0)
  go_wp2_with fail
  refine (toIntS_any _ _ _ _ _ (hA1.below bel) (by omega)).mono ?_
  rintro e w5 ⟨rfl, x1, b5⟩
  replace ow := Own.below ow b5
  replace x0 := Own.below x0 b5
  replace bel := below_more bel b5
  have s5 := b5.size
  clear b5
  have Qx1 := Lib.hid (Own.block x1)
  go_wp2_with fail
  refine (HI.out _ _ _ _ _ x0.viewL x1.viewL).mono ?_
  rintro e w6 ⟨Aog, cog, rfl, og, b6⟩
  replace ow := Own.below ow b6
  replace x0 := Own.below x0 b6
  replace x1 := Own.below x1 b6
  replace bel := below_more bel b6
  have s6 := b6.size
  clear b6
  have Qog := Lib.hid (Own.block og)
  go_wp2_with fail
  refine (eqIntS_yes _ _ _ _ _ _ _ og.view ow.view hl').mono ?_
  rintro e w7 ⟨rfl, b7⟩
  replace ow := Own.below ow b7
  replace x0 := Own.below x0 b7
  replace x1 := Own.below x1 b7
  replace og := Own.below og b7
  replace bel := below_more bel b7
  have s7 := b7.size
  clear b7
  go_wp2_with fail
  refine (toIntS_any _ _ _ _ _ (hA0.below bel) (by omega)).mono ?_
  rintro e w8 ⟨rfl, t3, b8⟩
  replace ow := Own.below ow b8
  replace x0 := Own.below x0 b8
  replace x1 := Own.below x1 b8
  replace og := Own.below og b8
  replace bel := below_more bel b8
  have s8 := b8.size
  clear b8
  go_wp2_with fail
  refine (eqIntS_yes _ _ _ _ _ _ _ x0.viewL t3.viewL (by omega)).mono ?_
  rintro e w9 ⟨rfl, b9⟩
  replace ow := Own.below ow b9
  replace x0 := Own.below x0 b9
  replace x1 := Own.below x1 b9
  replace og := Own.below og b9
  replace t3 := Own.below t3 b9
  replace bel := below_more bel b9
  have s9 := b9.size
  clear b9
  clear t3
  go_wp2_with fail
  refine (toIntS_any _ _ _ _ _ (hA1.below bel) (by omega)).mono ?_
  rintro e w10 ⟨rfl, t4, b10⟩
  replace ow := Own.below ow b10
  replace x0 := Own.below x0 b10
  replace x1 := Own.below x1 b10
  replace og := Own.below og b10
  replace bel := below_more bel b10
  have s10 := b10.size
  clear b10
  go_wp2_with fail
  refine (eqIntS_yes _ _ _ _ _ _ _ x1.viewL t4.viewL (by omega)).mono ?_
  rintro e w11 ⟨rfl, b11⟩
  replace ow := Own.below ow b11
  replace x0 := Own.below x0 b11
  replace x1 := Own.below x1 b11
  replace og := Own.below og b11
  replace t4 := Own.below t4 b11
  replace bel := below_more bel b11
  have s11 := b11.size
  clear b11
  clear t4
  go_wp2_with fail
  refine (markIntS_any _ _ _ _ _ _ _ x0 (by omega) (by omega) (by omega)).mono ?_
  rintro e w12 ⟨rfl, x0', g12⟩
  replace ow := Own.kept ow g12 (apart_blocks Qow.out Qx0.out (by omega))
  replace x1 := Own.kept x1 g12 (apart_blocks Qx1.out Qx0.out (by omega))
  replace og := Own.kept og g12 (apart_blocks Qog.out Qx0.out (by omega))
  replace bel := bel.grown g12 bel.size (fun k hk => by have := (Qx0.out k hk).1; omega)
  have s12 := g12.size
  clear g12
  clear x0
  have x0 := x0'
  clear x0'
  go_wp2_with fail
  refine (markIntS_any _ _ _ _ _ _ _ x1 (by omega) (by omega) (by omega)).mono ?_
  rintro e w13 ⟨rfl, x1', g13⟩
  replace ow := Own.kept ow g13 (apart_blocks Qow.out Qx1.out (by omega))
  replace x0 := Own.kept x0 g13 (apart_blocks Qx0.out Qx1.out (by omega))
  replace og := Own.kept og g13 (apart_blocks Qog.out Qx1.out (by omega))
  replace bel := bel.grown g13 bel.size (fun k hk => by have := (Qx1.out k hk).1; omega)
  have s13 := g13.size
  clear g13
  clear x1
  have x1 := x1'
  clear x1'
  go_wp2_with fail
  refine (eqIntS_yes _ _ _ _ _ _ _ og.view ow.view hl').mono ?_
  rintro e w14 ⟨rfl, b14⟩
  replace ow := Own.below ow b14
  replace x0 := Own.below x0 b14
  replace x1 := Own.below x1 b14
  replace og := Own.below og b14
  replace bel := below_more bel b14
  have s14 := b14.size
  clear b14
  go_wp2_with fail
  refine (markIntS_any _ _ _ _ _ _ _ og (by omega) (by omega) (by omega)).mono ?_
  rintro e w15 ⟨rfl, og', g15⟩
  replace ow := Own.kept ow g15 (apart_blocks Qow.out Qog.out (by omega))
  replace x0 := Own.kept x0 g15 (apart_blocks Qx0.out Qog.out (by omega))
  replace x1 := Own.kept x1 g15 (apart_blocks Qx1.out Qog.out (by omega))
  replace bel := bel.grown g15 bel.size (fun k hk => by have := (Qog.out k hk).1; omega)
  have s15 := g15.size
  clear g15
  clear og
  have og := og'
  clear og'
  go_wp2_with fail
  refine (heldIntS_any _ _ _ _ _ og.viewL (by omega) (by omega) (by omega)).mono ?_
  rintro e w_ ⟨rfl, rfl⟩
  go_wp2_with fail
  refine (toIntS_any _ _ _ _ _ (hA0.below bel) (by omega)).mono ?_
  rintro e w16 ⟨rfl, t5, b16⟩
  replace ow := Own.below ow b16
  replace x0 := Own.below x0 b16
  replace x1 := Own.below x1 b16
  replace og := Own.below og b16
  replace bel := below_more bel b16
  have s16 := b16.size
  clear b16
  go_wp2_with fail
  refine (toIntS_any _ _ _ _ _ (hA1.below bel) (by omega)).mono ?_
  rintro e w17 ⟨rfl, t6, b17⟩
  replace ow := Own.below ow b17
  replace x0 := Own.below x0 b17
  replace x1 := Own.below x1 b17
  replace og := Own.below og b17
  replace t5 := Own.below t5 b17
  replace bel := below_more bel b17
  have s17 := b17.size
  clear b17
  go_wp2_with fail
  refine (HI.out _ _ _ _ _ t5.viewL t6.viewL).mono ?_
  rintro e w18 ⟨Aoh, coh, rfl, oh, b18⟩
  replace ow := Own.below ow b18
  replace x0 := Own.below x0 b18
  replace x1 := Own.below x1 b18
  replace og := Own.below og b18
  replace t5 := Own.below t5 b18
  replace t6 := Own.below t6 b18
  replace bel := below_more bel b18
  have s18 := b18.size
  clear b18
  clear t5
  clear t6
  go_wp2_with fail
  refine (eqIntS_yes _ _ _ _ _ _ _ oh.view ow.view hl').mono ?_
  rintro e w19 ⟨rfl, b19⟩
  replace ow := Own.below ow b19
  replace x0 := Own.below x0 b19
  replace x1 := Own.below x1 b19
  replace og := Own.below og b19
  replace oh := Own.below oh b19
  replace bel := below_more bel b19
  have s19 := b19.size
  clear b19
  go_wp2_with fail
  refine (heldIntS_any _ _ _ _ _ og.viewL (by omega) (by omega) (by omega)).mono ?_
  rintro e w_ ⟨rfl, rfl⟩
  go_wp2_with fail
  go_ret
  exact ⟨rfl, bel⟩

end Go.Proofs.Ytbmbhaaogkhfmaa
