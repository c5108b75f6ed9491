/- laws.FnExactLoopsOf: the walk of the law: it answers true whatever comes in. No condition. -/
import Derived.Test.YtanncngbmgopnaaToIntS
import Derived.Test.YtanncngbmgopnaaEqIntS
import Derived.Test.YtanncngbmgopnaaMarkIntS
import Derived.Test.YtanncngbmgopnaaEqSS
import Derived.Test.YtanncngbmgopnaaLoopsS
namespace Go.Proofs.Ytanncngbmgopnaa
open Go.RowKit
set_option linter.unusedVariables false

set_option maxHeartbeats 2000000 in
set_option maxRecDepth 100000 in
theorem exactLoopsOf_walk (A0 : Option Addr) (n0 c0 : Nat) (p0 : Nat → Int) (w : World) (hA0 : View w A0 n0 p0) :
    Calls Try.prog 13 #[.slice A0 n0 c0] w fun e w' => e = .returned (.bool true) ∧ Below w.heap.size w w' := by
  by_cases g0 : 1048576 < n0
  · go_enter Try.func13, Try.ntmps13
    go_wp2_with fail
    go_ret
    exact ⟨rfl, Below.refl _ _⟩
  have h0 : n0 ≤ 1048576 := by omega
  obtain ⟨m, xs, hm, hl, hS, hI⟩ := bothLoopsOf n0 p0 h0
  have HS := Lib.hid hS
  have HI := Lib.hid hI
  have HL := Lib.hid hl
  have HL2 : Hid (∀ i, i < m → (xs i).length ≤ 1048576) := Lib.hid (fun i hi => by have := hl i hi; omega)
  obtain ⟨T, hT⟩ : ∃ T : Nat, preL (fun i => (xs i).length) m = T := ⟨_, rfl⟩
  have HT := Lib.hid hT
  have hT49 : T ≤ 49 := by have := preL_le hl m (Nat.le_refl _); omega
  clear hS hI hl hT
  have bel : Below w.heap.size w w := Below.refl _ _
  go_enter Try.func13, Try.ntmps13
  go_wp2_with fail
  refine (toIntS_any _ _ _ _ _ (hA0.below bel) (by omega)).mono ?_
  rintro e w1 ⟨rfl, t1, b1⟩
  replace bel := below_more bel b1
  have s1 := bel.size
  clear b1
  go_wp2_with fail
  refine (HS.out _ _ _ t1.viewL).mono ?_
  rintro e w2 ⟨Aow, cow, vw, rfl, ow, b2⟩
  replace bel := below_more bel b2
  have s2 := b2.size
  have QW := Lib.hid ow.inside
  have OW := Lib.hid ow
  clear b2 t1 ow
  go_wp2_with fail
  refine (toIntS_any _ _ _ _ _ (hA0.below bel) (by omega)).mono ?_
  rintro e w3 ⟨rfl, x0, b3⟩
  replace OW := Lib.hid (OW.out.below b3)
  replace bel := below_more bel b3
  have s3 := b3.size
  have QX := Lib.hid (Own.block x0)
  clear b3
  go_wp2_with fail
  refine (HI.out _ _ _ x0.viewL).mono ?_
  rintro e w4 ⟨Aog, cog, vg, rfl, og, b4⟩
  replace OW := Lib.hid (OW.out.below b4)
  replace x0 := Own.below x0 b4
  replace bel := below_more bel b4
  have s4 := b4.size
  have QG := Lib.hid og.inside
  have OG := Lib.hid og
  clear b4 og
  go_wp2_with fail
  refine (eqIntSS_yes _ _ _ _ _ xs _ OG.out.view OW.out.view (by omega) HL2.out).mono ?_
  rintro e w5 ⟨rfl, b5⟩
  replace OW := Lib.hid (OW.out.below b5)
  replace OG := Lib.hid (OG.out.below b5)
  replace x0 := Own.below x0 b5
  replace bel := below_more bel b5
  clear b5
  go_wp2_with fail
  refine (toIntS_any _ _ _ _ _ (hA0.below bel) (by omega)).mono ?_
  rintro e w6 ⟨rfl, t2, b6⟩
  replace OW := Lib.hid (OW.out.below b6)
  replace OG := Lib.hid (OG.out.below b6)
  replace x0 := Own.below x0 b6
  replace bel := below_more bel b6
  clear b6
  go_wp2_with fail
  refine (eqIntS_yes _ _ _ _ _ _ _ x0.viewL t2.viewL (by omega)).mono ?_
  rintro e w7 ⟨rfl, b7⟩
  replace OW := Lib.hid (OW.out.below b7)
  replace OG := Lib.hid (OG.out.below b7)
  replace x0 := Own.below x0 b7
  replace bel := below_more bel b7
  clear b7 t2
  go_wp2_with fail
  refine (markIntS_any _ _ _ _ _ _ _ x0 (by omega) (by omega) (by omega)).mono ?_
  rintro e w8 ⟨rfl, _, g8⟩
  have ou := Out.of_grown g8 QX.out
  replace OW := Lib.hid (OW.out.outK ou QW.out (.inl (Nat.le_refl _)))
  replace OG := Lib.hid (OG.out.outK ou QG.out (.inr (Nat.le_refl _)))
  replace bel := bel.trans (ou.below bel.size (by omega))
  clear g8 ou x0
  go_wp2_with fail
  refine (eqIntSS_yes _ _ _ _ _ xs _ OG.out.view OW.out.view (by omega) HL2.out).mono ?_
  rintro e w9 ⟨rfl, b9⟩
  replace OW := Lib.hid (OW.out.below b9)
  replace OG := Lib.hid (OG.out.below b9)
  replace bel := below_more bel b9
  clear b9
  go_wp2_with fail
  refine (markIntSS_any _ _ _ _ _ _ _ _ _ _ OG.out QG.out hm HL.out (by omega) (by omega)).mono ?_
  rintro e w10 ⟨rfl, og, ou⟩
  replace OW := Lib.hid (OW.out.outK ou QW.out (.inl s3))
  replace OG := Lib.hid og
  replace bel := bel.trans (ou.below bel.size (by omega))
  rw [HT.out]
  clear og ou
  go_wp2_with fail
  refine (heldIntSS_any _ _ _ _ _ _ OG.out.view hm HL.out (by omega) (by omega)).mono ?_
  rintro e w_ ⟨rfl, rfl⟩
  rw [HT.out]
  go_wp2_with fail
  refine (toIntS_any _ _ _ _ _ (hA0.below bel) (by omega)).mono ?_
  rintro e w11 ⟨rfl, t3, b11⟩
  replace OW := Lib.hid (OW.out.below b11)
  replace OG := Lib.hid (OG.out.below b11)
  replace bel := below_more bel b11
  clear b11
  go_wp2_with fail
  refine (HI.out _ _ _ t3.viewL).mono ?_
  rintro e w12 ⟨Aoh, coh, vh, rfl, oh, b12⟩
  replace OW := Lib.hid (OW.out.below b12)
  replace OG := Lib.hid (OG.out.below b12)
  replace bel := below_more bel b12
  have OH := Lib.hid oh
  clear b12 t3 oh
  go_wp2_with fail
  refine (eqIntSS_yes _ _ _ _ _ xs _ OH.out.view OW.out.view (by omega) HL2.out).mono ?_
  rintro e w13 ⟨rfl, b13⟩
  replace OG := Lib.hid (OG.out.below b13)
  replace bel := below_more bel b13
  clear b13
  go_wp2_with fail
  refine (heldIntSS_any _ _ _ _ _ _ OG.out.view hm HL.out (by omega) (by omega)).mono ?_
  rintro e w_ ⟨rfl, rfl⟩
  rw [HT.out]
  go_wp2_with fail
  go_ret
  exact ⟨rfl, bel⟩

end Go.Proofs.Ytanncngbmgopnaa
