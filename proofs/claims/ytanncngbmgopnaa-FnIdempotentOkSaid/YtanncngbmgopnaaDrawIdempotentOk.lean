/- spec.DrawIdempotentOk: a drawn list, or a settled power of it. Condition: the code's bounds. -/
import Derived.Test.YtanncngbmgopnaaL20At
import Derived.Test.YtanncngbmgopnaaSettle
namespace Go.Proofs.Ytanncngbmgopnaa
open Go.RowKit
set_option linter.unusedVariables false

set_option maxHeartbeats 1000000 in
theorem drawIdempotentOk_any (A : Option Addr) (n c : Nat) (q : Nat → Int) (w : World) (hA : Bytes w A n c q) :
    Calls Try.prog 43 #[.slice A n c] w (RetDrawn w) := by
  have HA := Lib.hid hA
  clear hA
  go_enter Try.func43, Try.ntmps43
  go_wp2_with fail
  refine (l20Open_any A n c q w HA.out).mono ?_
  rintro e w1 ⟨rfl, r1, b1⟩
  have B1 := Lib.hid b1
  have hs1 := b1.size
  have hlt1 := r1.lt
  go_wp2_with fail
  refine (l20Map_any w.heap.size 0 9 _ r1 (by omega) (by omega)).mono ?_
  rintro e w2 ⟨A2, k, c2, zs, hk, rfl, how, ⟨p2, hp2, rd2⟩, b2, hs, _⟩
  have HO := Lib.hid how
  have HV := Lib.hid how.viewL
  have B2 := Lib.hid (B1.out.trans b2)
  have RD := Lib.hid rd2
  clear r1 b1 b2 how rd2
  by_cases hv : Valid k zs
  · obtain ⟨hs', hzs⟩ := hv.mp
    generalize (fun k => (zs k).toNat) = s at hs' hzs
    have HS := Lib.hid hs'
    have HZ := Lib.hid hzs
    have HVV := Lib.hid hv
    clear hv hs' hzs
    go_wp2_with fail
    refine (sMapOk_yes _ _ _ _ _ HV.out HVV.out).mono ?_
    rintro e w_ ⟨rfl, rfl⟩
    go_wp2_with fail
    refine (pick_any w.heap.size p2 2 _ RD.out (by omega) (by omega) (by omega)).mono ?_
    rintro e w3 ⟨x, hx, rfl, _, g3⟩
    have s3 := g3.size
    have O3 := Lib.hid (HO.out.kept g3 (.inr fun e => by have := (HO.out.block _ e).1; omega))
    have B3 := Lib.hid (B2.out.grown g3 B2.out.size (fun k e => by injection e; omega))
    have V3 := Lib.hid (O3.out.viewL.congr HZ.out)
    clear g3
    by_cases hx0 : x = 0
    · have hx1 : ((x : Int) == 0) = true := by simp; omega
      obtain rfl := hx0
      go_wp2_with fail
      refine (sSettledOf_yes _ _ _ s _ V3.out HS.out).mono ?_
      rintro e w4 ⟨A4, c4, m, rfl, o4, b4⟩
      have O4 := Lib.hid o4
      have B4 := Lib.hid (below_more B3.out b4)
      clear o4 b4
      go_wp2
      go_ret
      exact ⟨A4, k, c4, up (pw s m), hk, rfl, O4.out.mono (by omega), B4.out⟩
    · have hx1 : ((x : Int) == 0) = false := by simp; omega
      go_wp2
      go_ret
      exact ⟨A2, k, c2, zs, hk, rfl, O3.out.mono (by omega), B3.out⟩
  · have HVV := Lib.hid hv
    clear hv
    go_wp2_with fail
    refine (sMapOk_no _ _ _ _ _ HV.out HVV.out (by omega)).mono ?_
    rintro e w_ ⟨rfl, rfl⟩
    go_wp2
    go_ret
    exact ⟨A2, k, c2, zs, hk, rfl, HO.out.mono (by omega), B2.out⟩

end Go.Proofs.Ytanncngbmgopnaa
