/- laws.FnMeetingOf answers true. Condition: the code's bounds. -/
import Derived.Test.YtdhgnbfkcpaohaaDrawMeetingOf
import Derived.Test.YtdhgnbfkcpaohaaAlive
import Derived.Test.YtdhgnbfkcpaohaaMeetingOf
import Derived.Test.YtdhgnbfkcpaohaaMeetSpec
import Derived.Test.YtdhgnbfkcpaohaaTail
import Derived.Test.YtdhgnbfkcpaohaaLoopLongI
import Derived.Test.YtdhgnbfkcpaohaaOnLoopI
import Derived.Test.YtdhgnbfkcpaohaaRhoD
namespace Go.Proofs.Ytdhgnbfkcpaohaa
open Go.RowKit
set_option linter.unusedVariables false

set_option maxHeartbeats 1000000 in
theorem lawMeetingOf_walk (A0 : Option Addr) (n0 c0 : Nat) (p0 : Nat → Int) (w : World) (h : Bytes w A0 n0 c0 p0) :
    Calls Try.prog 8 #[.slice A0 n0 c0] w fun e w' => e = .returned (.bool true) ∧ Below w.heap.size w w' := by
  have H := Lib.hid h
  clear h
  by_cases hbig : 1048576 < n0
  · go_enter Try.func8, Try.ntmps8
    go_wp2
    go_ret
    exact ⟨rfl, Below.refl _ _⟩
  go_enter Try.func8, Try.ntmps8
  go_wp2_with fail
  refine (drawMeetingOf_any A0 n0 c0 p0 w H.out).mono ?_
  rintro e w1 ⟨A, n, c, zs, x, hn8, rfl, hx1, hx2, how, hb1⟩
  have HV := Lib.hid how.viewL
  have HO := Lib.hid how
  have HB1 := Lib.hid hb1
  clear how hb1 hbig
  by_cases hv : Valid n zs ∧ 0 ≤ x ∧ x < n
  · skip
    obtain ⟨hv, hx0, hxn⟩ := hv
    obtain ⟨X, rfl⟩ : ∃ X : Nat, x = X := ⟨x.toNat, by omega⟩
    have hX : X < n := by omega
    obtain ⟨hs, hzs⟩ := hv.mp
    generalize (fun k => (zs k).toNat) = s at hs hzs
    have HS := Lib.hid hs
    have V := Lib.hid (HV.out.congr hzs)
    have hn1 := hs.1
    have hn7 := hs.2.1
    have HR := Lib.hid (rho_is hs hX)
    have HI := Lib.hid (it_lt hs hX)
    clear hs hzs hv HV HO
    have B := HB1
    clear HB1
    have hle := HR.out.le HS.out hX
    have hlp := HR.out.pos
    generalize (rho s X).1 = t at HR hle
    generalize (rho s X).2 = l at HR hle hlp
    obtain ⟨m, _, hm⟩ := meet_ex HR.out
    have HM := Lib.hid hm
    obtain ⟨f1, f2, f3, f4⟩ := hm.facts HR.out
    have hm1 := hm.1
    have HL := HR.out.later m
    rw [show t - m = 0 by omega] at HL
    have HL := Lib.hid HL
    have HIM := HI.out m
    have hz : ((m : Int) % (l : Int)) = 0 := by rw [← Int.natCast_emod, f1]; rfl
    have HZ := Lib.hid hz
    have F4 := Lib.hid f4
    clear f1 hm hz f4
    go_wp2_with fail
    refine (meetingOf_yes _ _ _ X t l m s _ V.out HS.out hX HR.out HM.out).mono ?_
    rintro e w2 ⟨rfl, b2⟩
    replace V := Lib.hid (V.out.below b2)
    replace B := Lib.hid (below_more B.out b2)
    clear b2
    go_wp2_with fail
    refine (sMeetingOf_yes _ _ _ X t l m s _ V.out HS.out hX HR.out HM.out).mono ?_
    rintro e w3 ⟨rfl, b3⟩
    replace V := Lib.hid (V.out.below b3)
    replace B := Lib.hid (below_more B.out b3)
    clear b3
    go_wp2_with fail
    refine (tailOf_yes _ _ _ X t l s _ V.out HS.out hX HR.out).mono ?_
    rintro e w4 ⟨rfl, b4⟩
    replace V := Lib.hid (V.out.below b4)
    replace B := Lib.hid (below_more B.out b4)
    clear b4
    go_wp2_with fail
    refine (loopLong_yes _ _ _ X t l s _ V.out HS.out hX HR.out).mono ?_
    rintro e w5 ⟨rfl, b5⟩
    replace V := Lib.hid (V.out.below b5)
    replace B := Lib.hid (below_more B.out b5)
    clear b5
    go_wp2_with fail
    refine (onLoop_yes _ _ _ (it s m X) 0 l s _ V.out HS.out HIM HL.out).mono ?_
    rintro e w6 ⟨rfl, b6⟩
    replace V := Lib.hid (V.out.below b6)
    replace B := Lib.hid (below_more B.out b6)
    clear b6
    have hz := HZ.out
    have hb : (decide ((m : Int) - l < t) || ((m : Int) == l)) = true := by
      have := F4.out
      simp
      omega
    go_wp2
    all_goals go_ret
    all_goals exact ⟨by first | rfl | exact ret_bool (by simp; omega) | exact ret_bool (by simp), B.out⟩
  · skip
    have HA := Lib.hid hv
    have V := HV
    have B := HB1
    clear hv HV HB1
    go_wp2_with fail
    refine (meetingOf_no _ _ _ x zs _ V.out (by omega) HA.out).mono ?_
    rintro e w2 ⟨rfl, b2⟩
    replace V := Lib.hid (V.out.below b2)
    replace B := Lib.hid (below_more B.out b2)
    clear b2
    go_wp2_with fail
    refine (sMeetingOf_no _ _ _ x zs _ V.out (by omega) HA.out).mono ?_
    rintro e w3 ⟨rfl, b3⟩
    replace V := Lib.hid (V.out.below b3)
    replace B := Lib.hid (below_more B.out b3)
    clear b3
    go_wp2_with fail
    refine (alive_any _).mono ?_
    rintro e w4 ⟨rfl, b4⟩
    replace V := Lib.hid (V.out.below b4)
    replace B := Lib.hid (below_more B.out b4)
    clear b4
    go_wp2
    all_goals go_ret
    all_goals exact ⟨by first | rfl | exact ret_bool (by simp; omega) | exact ret_bool (by simp), B.out⟩

end Go.Proofs.Ytdhgnbfkcpaohaa
