/- laws.FnLoopOf answers true. Condition: the code's bounds. -/
import Derived.Test.YtdhgnbfkcpaohaaDrawLoopOf
import Derived.Test.YtdhgnbfkcpaohaaAlive
import Derived.Test.YtdhgnbfkcpaohaaLoopOf
import Derived.Test.YtdhgnbfkcpaohaaLoopOfSpec
import Derived.Test.YtdhgnbfkcpaohaaLeastD
import Derived.Test.YtdhgnbfkcpaohaaOnLoopI
import Derived.Test.YtdhgnbfkcpaohaaWalked
import Derived.Test.YtdhgnbfkcpaohaaHasInt
import Derived.Test.YtdhgnbfkcpaohaaRhoD
namespace Go.Proofs.Ytdhgnbfkcpaohaa
open Go.RowKit
set_option linter.unusedVariables false

set_option maxHeartbeats 1000000 in
theorem lawLoopOf_walk (A0 : Option Addr) (n0 c0 : Nat) (p0 : Nat → Int) (w : World) (h : Bytes w A0 n0 c0 p0) :
    Calls Try.prog 10 #[.slice A0 n0 c0] w fun e w' => e = .returned (.bool true) ∧ Below w.heap.size w w' := by
  have H := Lib.hid h
  clear h
  by_cases hbig : 1048576 < n0
  · go_enter Try.func10, Try.ntmps10
    go_wp2
    go_ret
    exact ⟨rfl, Below.refl _ _⟩
  go_enter Try.func10, Try.ntmps10
  go_wp2_with fail
  refine (drawLoopOf_any A0 n0 c0 p0 w H.out).mono ?_
  rintro e w1 ⟨A, n, c, zs, x, hn8, rfl, hx1, hx2, how, hb1⟩
  have HV := Lib.hid how.viewL
  have HO := Lib.hid how
  have HB1 := Lib.hid hb1
  clear how hb1 hbig
  by_cases hv : Valid n zs ∧ 0 ≤ x ∧ x < n
  · skip
    obtain ⟨hv, hx0, hxn⟩ := hv
    obtain ⟨X, rfl⟩ : ∃ X : Nat, x = X := ⟨x.toNat, by omega⟩
    have hX : X < n := by omega
    obtain ⟨hs, hzs⟩ := hv.mp
    generalize (fun k => (zs k).toNat) = s at hs hzs
    have HS := Lib.hid hs
    have V := Lib.hid (HV.out.congr hzs)
    have hn1 := hs.1
    have hn7 := hs.2.1
    have HR := Lib.hid (rho_is hs hX)
    have HI := Lib.hid (it_lt hs hX)
    clear hs hzs hv HV HO
    have B := HB1
    clear HB1
    have hle := HR.out.le HS.out hX
    have hlp := HR.out.pos
    have HN := Lib.hid HR.out.next
    have hsX := HS.out.lt hX
    generalize (rho s X).1 = t at HR HN hle
    generalize (rho s X).2 = l at HR HN hle hlp
    have hnx := least_next HR.out
    obtain ⟨i, hi, hM, hry, hly⟩ := least_at HR.out
    have hyn := HI.out (t + i)
    have HYI := Lib.hid (show way s X (t + i) = (it s (t + i) X : Int) from rfl)
    generalize it s (t + i) X = y at hM hry hly hyn HYI
    have HNX := Lib.hid hnx
    have HM := Lib.hid hM
    have HRY := Lib.hid hry
    have HLY := Lib.hid hly
    clear hnx hM hry hly
    have C1 := fun (w : World) (hV : View w A n (up s)) => loopOf_yes A n c X t l s w hV HS.out hX HR.out
    have C2 := fun (w : World) (hV : View w A n (up s)) => sLoopOf_yes A n c X t l s w hV HS.out hX HR.out
    have C3 := fun (w : World) (hV : View w A n (up s)) => loopOf_yes A n c (s X) (t - 1) l s w hV HS.out hsX HN.out
    have C4 := fun (w : World) (hV : View w A n (up s)) => loopOf_yes A n c y 0 l s w hV HS.out hyn HRY.out
    simp only [HNX.out, HLY.out, HM.out] at C1 C2 C3 C4
    have C1 := Lib.hid C1
    have C2 := Lib.hid C2
    have C3 := Lib.hid C3
    have C4 := Lib.hid C4
    go_wp2_with fail
    refine (C1.out _ V.out).mono ?_
    rintro e w2 ⟨rfl, b2⟩
    replace V := Lib.hid (V.out.below b2)
    replace B := Lib.hid (below_more B.out b2)
    clear b2
    go_wp2_with fail
    refine (C2.out _ V.out).mono ?_
    rintro e w3 ⟨rfl, b3⟩
    replace V := Lib.hid (V.out.below b3)
    replace B := Lib.hid (below_more B.out b3)
    clear b3
    obtain ⟨g, off, rfl, hg, hc⟩ := V.out (by omega)
    have hcX : w3.cell? ⟨g, off + X, none⟩ = some (.int .i64 (s X : Int)) := hc X hX
    clear hc
    go_wp2_with fail
    refine (C3.out _ V.out).mono ?_
    rintro e w4 ⟨rfl, b4⟩
    replace V := Lib.hid (V.out.below b4)
    replace B := Lib.hid (below_more B.out b4)
    clear b4
    go_wp2_with fail
    refine (onLoop_yes _ _ _ y 0 l s _ V.out HS.out hyn HRY.out).mono ?_
    rintro e w5 ⟨rfl, b5⟩
    replace V := Lib.hid (V.out.below b5)
    replace B := Lib.hid (below_more B.out b5)
    clear b5
    go_wp2_with fail
    refine ((wayFrom_yes _ _ _ X t l s _ V.out HS.out hX HR.out).mono fun _ _ h => h.lst_).mono ?_
    rintro e w6 ⟨A6, c6, rfl, o6, b6⟩
    replace V := Lib.hid (V.out.below b6)
    replace B := Lib.hid (below_more B.out b6)
    have O6 := Lib.hid o6.viewL
    clear o6
    clear b6
    have hh : hasF (t + l) (way s X) (y : Int) = true := hasF_yes (k := t + i) (by omega) HYI.out
    go_wp2_with fail
    refine (hasInt_any _ _ _ (way s X) y _ O6.out (by omega)).mono ?_
    rintro e w_ ⟨rfl, rfl⟩
    go_wp2_with fail
    refine (C4.out _ V.out).mono ?_
    rintro e w7 ⟨rfl, b7⟩
    replace V := Lib.hid (V.out.below b7)
    replace B := Lib.hid (below_more B.out b7)
    clear b7
    go_wp2
    all_goals go_ret
    all_goals exact ⟨by first | rfl | exact ret_bool (by simp; omega) | exact ret_bool (by simp), B.out⟩
  · skip
    have HA := Lib.hid hv
    have V := HV
    have B := HB1
    clear hv HV HB1
    go_wp2_with fail
    refine (loopOf_no _ _ _ x zs _ V.out (by omega) HA.out).mono ?_
    rintro e w2 ⟨rfl, b2⟩
    replace V := Lib.hid (V.out.below b2)
    replace B := Lib.hid (below_more B.out b2)
    clear b2
    go_wp2_with fail
    refine (sLoopOf_no _ _ _ x zs _ V.out (by omega) HA.out).mono ?_
    rintro e w3 ⟨rfl, b3⟩
    replace V := Lib.hid (V.out.below b3)
    replace B := Lib.hid (below_more B.out b3)
    clear b3
    go_wp2_with fail
    refine (alive_any _).mono ?_
    rintro e w4 ⟨rfl, b4⟩
    replace V := Lib.hid (V.out.below b4)
    replace B := Lib.hid (below_more B.out b4)
    clear b4
    go_wp2
    all_goals go_ret
    all_goals exact ⟨by first | rfl | exact ret_bool (by simp; omega) | exact ret_bool (by simp), B.out⟩

end Go.Proofs.Ytdhgnbfkcpaohaa
