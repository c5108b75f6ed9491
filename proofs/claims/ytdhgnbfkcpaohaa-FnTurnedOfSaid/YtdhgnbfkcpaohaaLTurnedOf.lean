/- laws.FnTurnedOf answers true. Condition: the code's bounds. -/
import Derived.Test.YtdhgnbfkcpaohaaDrawTurnedOf
import Derived.Test.YtdhgnbfkcpaohaaAlive
import Derived.Test.YtdhgnbfkcpaohaaLstB
import Derived.Test.YtdhgnbfkcpaohaaTurnL
import Derived.Test.YtdhgnbfkcpaohaaTurned
import Derived.Test.YtdhgnbfkcpaohaaSameOf
import Derived.Test.YtdhgnbfkcpaohaaBehindOf
import Derived.Test.YtdhgnbfkcpaohaaSameInts
import Derived.Test.YtdhgnbfkcpaohaaImageI
import Derived.Test.YtdhgnbfkcpaohaaOkSpec
namespace Go.Proofs.Ytdhgnbfkcpaohaa
open Go.RowKit
set_option linter.unusedVariables false

set_option maxHeartbeats 2000000 in
theorem lawTurnedOf_walk (A0 : Option Addr) (n0 c0 : Nat) (p0 : Nat → Int) (w : World) (h : Bytes w A0 n0 c0 p0) :
    Calls Try.prog 11 #[.slice A0 n0 c0] w fun e w' => e = .returned (.bool true) ∧ Below w.heap.size w w' := by
  have H := Lib.hid h
  clear h
  by_cases hbig : 1048576 < n0
  · go_enter Try.func11, Try.ntmps11
    go_wp2
    go_ret
    exact ⟨rfl, Below.refl _ _⟩
  go_enter Try.func11, Try.ntmps11
  go_wp2_with fail
  refine (drawTurnedOf_any A0 n0 c0 p0 w H.out).mono ?_
  rintro e w1 ⟨A, n, c, zs, hn8, rfl, how, hb1⟩
  have HV := Lib.hid how.viewL
  have HO := Lib.hid how
  have HB1 := Lib.hid hb1
  clear how hb1 hbig
  by_cases hv : Valid n zs
  · skip
    obtain ⟨hs, hzs⟩ := hv.mp
    generalize (fun k => (zs k).toNat) = s at hs hzs
    have HS := Lib.hid hs
    have V := Lib.hid (HV.out.congr hzs)
    have hn1 := hs.1
    have hn7 := hs.2.1
    clear hs hzs hv HV HO
    have B := HB1
    clear HB1
    by_cases hi : Inj n s
    · have HONES := Lib.hid (hi.ones HS.out.2.2)
      have HLEN := Lib.hid (imgTo_inj HS.out hi)
      obtain ⟨t, ht1, ht2, ht3, ht4⟩ := turned_map HS.out hi
      have HINJ := Lib.hid hi
      have HT1 := Lib.hid ht1
      have HT2 := Lib.hid ht2
      have HT3 := Lib.hid ht3
      have HT4 := Lib.hid ht4
      clear hi ht1 ht2 ht3 ht4
      go_wp2_with fail
      refine ((turnedOf_yes _ _ _ s _ V.out HS.out HINJ.out).mono fun _ _ h => h.lstb_).mono ?_
      rintro e w2 ⟨A2, c2, rfl, o2, b2⟩
      replace V := Lib.hid (V.out.below b2)
      replace B := Lib.hid (below_more B.out b2)
      have O2 := Lib.hid o2.viewL
      clear o2
      clear b2
      go_wp2_with fail
      refine ((sTurnedOf_yes _ _ _ s _ V.out HS.out HONES.out).mono fun _ _ h => h.lstb_).mono ?_
      rintro e w3 ⟨A3, c3, rfl, o3, b3⟩
      replace V := Lib.hid (V.out.below b3)
      replace O2 := Lib.hid (O2.out.below b3)
      replace B := Lib.hid (below_more B.out b3)
      have O3 := Lib.hid o3.viewL
      clear o3
      clear b3
      go_wp2_with fail
      refine (sameInts_yes _ _ _ _ _ (turned s n) _ O2.out O3.out (by omega)).mono ?_
      rintro e w4 ⟨rfl, b4⟩
      replace V := Lib.hid (V.out.below b4)
      replace O2 := Lib.hid (O2.out.below b4)
      replace B := Lib.hid (below_more B.out b4)
      clear b4
      go_wp2_with fail
      refine (sMapOk_yes _ _ _ _ _ V.out HS.out.valid).mono ?_
      rintro e w_ ⟨rfl, rfl⟩
      go_wp2_with fail
      refine (sameOf_yes n _ hn1 hn7).mono ?_
      rintro e w5 ⟨rfl, o5, b5⟩
      have O5 := Lib.hid o5.viewL
      replace V := Lib.hid (V.out.below b5)
      replace B := Lib.hid (below_more B.out b5)
      replace O2 := Lib.hid ((O2.out.below b5).congr HT1.out)
      clear b5 o5 O3
      go_wp2_with fail
      refine ((behindOf_yes _ _ _ _ _ s t _ V.out O2.out HS.out HT2.out).mono fun _ _ h => h.lst_).mono ?_
      rintro e w6 ⟨A6, c6, rfl, o6, b6⟩
      replace V := Lib.hid (V.out.below b6)
      replace O2 := Lib.hid (O2.out.below b6)
      replace O5 := Lib.hid (O5.out.below b6)
      replace B := Lib.hid (below_more B.out b6)
      have O6 := Lib.hid o6.viewL
      clear o6
      clear b6
      have O6' := Lib.hid (O6.out.congr (q := self) (fun k hk => by show ((t (s k) : Nat) : Int) = k; rw [HT4.out k hk]))
      go_wp2_with fail
      refine (sameInts_yes _ _ _ _ _ self _ O6'.out O5.out (by omega)).mono ?_
      rintro e w7 ⟨rfl, b7⟩
      replace V := Lib.hid (V.out.below b7)
      replace O2 := Lib.hid (O2.out.below b7)
      replace O5 := Lib.hid (O5.out.below b7)
      replace B := Lib.hid (below_more B.out b7)
      clear b7
      go_wp2_with fail
      refine ((behindOf_yes _ _ _ _ _ t s _ O2.out V.out HT2.out HS.out).mono fun _ _ h => h.lst_).mono ?_
      rintro e w8 ⟨A8, c8, rfl, o8, b8⟩
      replace V := Lib.hid (V.out.below b8)
      replace O5 := Lib.hid (O5.out.below b8)
      replace B := Lib.hid (below_more B.out b8)
      have O8 := Lib.hid o8.viewL
      clear o8
      clear b8
      have O8' := Lib.hid (O8.out.congr (q := self) (fun k hk => by show ((s (t k) : Nat) : Int) = k; rw [HT3.out k hk]))
      go_wp2_with fail
      refine (sameInts_yes _ _ _ _ _ self _ O8'.out O5.out (by omega)).mono ?_
      rintro e w9 ⟨rfl, b9⟩
      replace V := Lib.hid (V.out.below b9)
      replace B := Lib.hid (below_more B.out b9)
      clear b9
      go_wp2_with fail
      refine ((imageOf_yes _ _ _ s _ V.out HS.out).mono fun _ _ h => h.len_ (HLEN.out)).mono ?_
      rintro e w10 ⟨A10, c10, rfl, o10, b10⟩
      replace V := Lib.hid (V.out.below b10)
      replace B := Lib.hid (below_more B.out b10)
      have O10 := Lib.hid o10
      clear o10
      clear b10
      go_wp2
      all_goals go_ret
      all_goals exact ⟨by first | rfl | exact ret_bool (by simp; omega) | exact ret_bool (by simp), B.out⟩
    · have HONES : Hid (¬ Ones n n s) := Lib.hid (fun h => hi (h.inj HS.out.2.2))
      have hlt := imgTo_not HS.out hi
      obtain ⟨N, hN⟩ : ∃ N, (imgTo s n n).length = N := ⟨_, rfl⟩
      rw [hN] at hlt
      have HN := Lib.hid hN
      have HINJ := Lib.hid hi
      clear hi hN
      go_wp2_with fail
      refine (turnedOf_other _ _ _ s _ V.out HS.out HINJ.out).mono ?_
      rintro e w2 ⟨A2, c2, rfl, o2, b2⟩
      replace V := Lib.hid (V.out.below b2)
      replace B := Lib.hid (below_more B.out b2)
      have O2 := Lib.hid o2
      clear o2
      clear b2
      go_wp2_with fail
      refine (sTurnedOf_other _ _ _ s _ V.out HS.out HONES.out).mono ?_
      rintro e w3 ⟨A3, c3, rfl, o3, b3⟩
      replace V := Lib.hid (V.out.below b3)
      replace O2 := Lib.hid (O2.out.below b3)
      replace B := Lib.hid (below_more B.out b3)
      have O3 := Lib.hid o3
      clear o3
      clear b3
      go_wp2_with fail
      refine (sameInts_yes _ _ 0 _ _ (nth []) _ O2.out.view O3.out.view (by omega)).mono ?_
      rintro e w4 ⟨rfl, b4⟩
      replace V := Lib.hid (V.out.below b4)
      replace B := Lib.hid (below_more B.out b4)
      clear b4
      go_wp2_with fail
      refine (sMapOk_yes _ _ _ _ _ V.out HS.out.valid).mono ?_
      rintro e w_ ⟨rfl, rfl⟩
      go_wp2_with fail
      refine ((imageOf_yes _ _ _ s _ V.out HS.out).mono fun _ _ h => h.len_ (HN.out)).mono ?_
      rintro e w10 ⟨A10, c10, rfl, o10, b10⟩
      replace V := Lib.hid (V.out.below b10)
      replace B := Lib.hid (below_more B.out b10)
      have O10 := Lib.hid o10
      clear o10
      clear b10
      go_wp2
      all_goals go_ret
      all_goals exact ⟨by first | rfl | exact ret_bool (by simp; omega) | exact ret_bool (by simp), B.out⟩
  · skip
    have HA := Lib.hid hv
    have V := HV
    have B := HB1
    clear hv HV HB1
    go_wp2_with fail
    refine (turnedOf_no _ _ _ zs _ V.out (by omega) HA.out).mono ?_
    rintro e w2 ⟨A2, c2, rfl, o2, b2⟩
    replace V := Lib.hid (V.out.below b2)
    replace B := Lib.hid (below_more B.out b2)
    have O2 := Lib.hid o2
    clear o2
    clear b2
    go_wp2_with fail
    refine (sTurnedOf_no _ _ _ zs _ V.out (by omega) HA.out).mono ?_
    rintro e w3 ⟨A3, c3, rfl, o3, b3⟩
    replace V := Lib.hid (V.out.below b3)
    replace O2 := Lib.hid (O2.out.below b3)
    replace B := Lib.hid (below_more B.out b3)
    have O3 := Lib.hid o3
    clear o3
    clear b3
    go_wp2_with fail
    refine (sameInts_yes _ _ 0 _ _ (nth []) _ O2.out.view O3.out.view (by omega)).mono ?_
    rintro e w4 ⟨rfl, b4⟩
    replace V := Lib.hid (V.out.below b4)
    replace B := Lib.hid (below_more B.out b4)
    clear b4
    go_wp2_with fail
    refine (sMapOk_no _ _ _ _ _ V.out HA.out (by omega)).mono ?_
    rintro e w_ ⟨rfl, rfl⟩
    go_wp2_with fail
    refine (alive_any _).mono ?_
    rintro e w5 ⟨rfl, b5⟩
    replace V := Lib.hid (V.out.below b5)
    replace B := Lib.hid (below_more B.out b5)
    clear b5
    go_wp2
    all_goals go_ret
    all_goals exact ⟨by first | rfl | exact ret_bool (by simp; omega) | exact ret_bool (by simp), B.out⟩

end Go.Proofs.Ytdhgnbfkcpaohaa
