/- laws.FnPowerOf answers true. Condition: the code's bounds. -/
import Derived.Test.YtbmbhaaogkhfmaaAlive
import Derived.Test.YtbmbhaaogkhfmaaDrawPowerOf
import Derived.Test.YtbmbhaaogkhfmaaLstB
import Derived.Test.YtbmbhaaogkhfmaaKeep
import Derived.Test.YtbmbhaaogkhfmaaPower
import Derived.Test.YtbmbhaaogkhfmaaSteps
import Derived.Test.YtbmbhaaogkhfmaaSameOf
import Derived.Test.YtbmbhaaogkhfmaaBehindOf
import Derived.Test.YtbmbhaaogkhfmaaSameInts
import Derived.Test.YtbmbhaaogkhfmaaRhoD
namespace Go.Proofs.Ytbmbhaaogkhfmaa
open Go.RowKit
set_option linter.unusedVariables false

set_option maxHeartbeats 4000000 in
theorem lawPowerOf_walk (A0 : Option Addr) (n0 c0 : Nat) (p0 : Nat → Int) (w : World) (h : Bytes w A0 n0 c0 p0) :
    Calls Try.prog 14 #[.slice A0 n0 c0] w fun e w' => e = .returned (.bool true) ∧ Below w.heap.size w w' := by
  have H := Lib.hid h
  clear h
  by_cases hbig : 1048576 < n0
  · go_enter Try.func14, Try.ntmps14
    go_wp2
    go_ret
    exact ⟨rfl, Below.refl _ _⟩
  go_enter Try.func14, Try.ntmps14
  go_wp2_with fail
  refine (drawPowerOf_any A0 n0 c0 p0 w H.out).mono ?_
  rintro e w1 ⟨A, n, c, zs, x, hn8, rfl, hx1, hx2, how, hb1⟩
  have HV := Lib.hid how.viewL
  have HB1 := Lib.hid hb1
  have HO := Lib.hid how
  clear how hb1 hbig
  by_cases hv : Valid n zs ∧ 0 ≤ x ∧ x ≤ 1000000
  · obtain ⟨hv, hx0, hxn⟩ := hv
    obtain ⟨m, rfl⟩ : ∃ m : Nat, x = m := ⟨x.toNat, by omega⟩
    have hm : m ≤ 1000000 := by omega
    obtain ⟨hs, hzs⟩ := hv.mp
    generalize (fun k => (zs k).toNat) = s at hs hzs
    have HS := Lib.hid hs
    have V := Lib.hid (HV.out.congr hzs)
    have hn1 := hs.1
    have hn7 := hs.2.1
    clear hs hzs hv HV HO
    have B := HB1
    clear HB1
    have HPW := Lib.hid (pw_mp HS.out m)
    have hn0 : ((n : Int) == 0) = false := by simp; omega
    go_wp2_with fail
    refine ((powOf_yes _ _ _ m s _ V.out HS.out hm).mono fun _ _ h => h.lst_).mono ?_
    rintro e w2 ⟨A2, c2, rfl, o2, b2⟩
    replace V := Lib.hid (V.out.below b2)
    replace B := Lib.hid (below_more B.out b2)
    have O2 := Lib.hid o2.viewL
    clear o2
    clear b2
    go_wp2_with fail
    refine ((sPowerOf_yes _ _ _ m s _ V.out HS.out hm).mono fun _ _ h => h.lst_).mono ?_
    rintro e w3 ⟨A3, c3, rfl, o3, b3⟩
    replace V := Lib.hid (V.out.below b3)
    replace O2 := Lib.hid (O2.out.below b3)
    replace B := Lib.hid (below_more B.out b3)
    have O3 := Lib.hid o3.viewL
    clear o3
    clear b3
    go_wp2_with fail
    refine (sameInts_yes _ _ n _ _ (up (pw s m)) _ O2.out O3.out (by omega)).mono ?_
    rintro e w4 ⟨rfl, b4⟩
    replace V := Lib.hid (V.out.below b4)
    replace O2 := Lib.hid (O2.out.below b4)
    replace B := Lib.hid (below_more B.out b4)
    clear b4
    clear O3
    go_wp2
    go_loopw [6] (fun i wr => ∃ k : Nat, k ≤ n ∧ i = .int .i64 k ∧ View wr A n (up s) ∧ View wr A2 n (up (pw s m)) ∧ Below w.heap.size w wr) (fun i _ => n - (intOf i).toNat)
    case atStart => exact ⟨0, Nat.zero_le _, rfl, V.out, O2.out, B.out⟩
    case round =>
      obtain ⟨k, hk, rfl, v_, o_, b_⟩ := hrel
      have V0 := v_
      have O0 := o_
      have V := Lib.hid v_
      have B := Lib.hid b_
      clear v_ b_
      have O := Lib.hid o_
      clear o_
      by_cases hlt : k < n
      · obtain ⟨g2, off2, rfl, hg2, hc2⟩ := O.out (by omega)
        have d1 : wr.cell? ⟨g2, off2 + k, none⟩ = some (.int .i64 (it s m k : Int)) := hc2 k hlt
        have C5 := Lib.hid (fun (w : World) (hV : View w A n (up s)) => stepsOf_yes A n c k m _ _ s w hV HS.out hlt hm (rho_is HS.out hlt))
        have BB := B.out
        clear hc2
        go_wp2_with fail
        go_region_held3 (fun w' => w'.cell? ⟨g2, off2 + k, none⟩ = some (.int .i64 (it s m k : Int)) ∧ View w' A n (up s) ∧ View w' (some ⟨g2, off2, none⟩) n (up (pw s m)) ∧ Below w.heap.size w w')
          ((go_split_ands; refine ⟨?_, ?_, ?_, ?_⟩ <;> first | assumption | exact keepV_drew (by assumption) | exact keepB_drew (by assumption) | exact keepC bb (by assumption) | exact keepV bb (by assumption) | exact keepB bb (by assumption) | go_keep))
          ((go_at_call 47; (try go_split_ands); refine (C5.out _ (by assumption)).mono ?_; rintro e w' ⟨rfl, bb⟩))
        go_split_ands
        have v9 : View w' A n (up s) := by assumption
        have o9 : View w' (some ⟨g2, off2, none⟩) n (up (pw s m)) := by assumption
        have b9 : Below w.heap.size w w' := by assumption
        have V9 := Lib.hid v9
        have O9 := Lib.hid o9
        have B9 := Lib.hid b9
        clear v9 o9 b9 d1
        go_wp2
        go_roundw
        case rel => exact ⟨k + 1, by omega, by go_num, V9.out, O9.out, B9.out⟩
        case measure => simp [intOf]; omega
      · obtain rfl : k = n := by omega
        clear V0 O0
        have H0 : Hid (Mp k (pw s 0)) := Lib.hid (pw_mp HS.out 0)
        go_wp2_with fail
        refine (mapOk_yes _ _ _ _ _ O.out HPW.out.valid).mono ?_
        rintro e w_ ⟨rfl, rfl⟩
        by_cases hbig2 : 1000000 < 2 * (m : Int)
        · skip
          go_wp2_with fail
          refine ((powOf_yes _ _ _ 0 s _ V.out HS.out (by omega)).mono fun _ _ h => h.lst_).mono ?_
          rintro e w5 ⟨A5, c5, rfl, o5, b5⟩
          replace V := Lib.hid (V.out.below b5)
          replace O := Lib.hid (O.out.below b5)
          replace B := Lib.hid (below_more B.out b5)
          have O5 := Lib.hid o5.viewL
          clear o5
          clear b5
          go_wp2_with fail
          refine (sameOf_yes k _ hn1 hn7).mono ?_
          rintro e w7 ⟨rfl, o7, b7⟩
          have O7 := Lib.hid o7.viewL
          replace O5 : Hid (View w7 A5 k self) := Lib.hid (O5.out.below b7)
          replace V := Lib.hid (V.out.below b7)
          replace B := Lib.hid (below_more B.out b7)
          clear b7 o7
          go_wp2_with fail
          refine (sameInts_yes _ _ k _ _ self _ O5.out O7.out (by omega)).mono ?_
          rintro e w8 ⟨rfl, b8⟩
          replace V := Lib.hid (V.out.below b8)
          replace B := Lib.hid (below_more B.out b8)
          clear b8
          go_wp2
          all_goals go_ret
          all_goals exact ⟨by first | rfl | exact ret_bool (by simp; omega) | exact ret_bool (by simp), B.out⟩
        · have e2 : (2 : Int) * m = ((m + m : Nat) : Int) := by omega
          go_wp2_with fail
          refine ((powOf_yes _ _ _ (m + m) s _ V.out HS.out (by omega)).mono fun _ _ h => h.lst_).mono ?_
          rintro e w9 ⟨A9, c9, rfl, o9, b9⟩
          replace V := Lib.hid (V.out.below b9)
          replace O := Lib.hid (O.out.below b9)
          replace B := Lib.hid (below_more B.out b9)
          have O9 := Lib.hid o9.viewL
          clear o9
          clear b9
          go_wp2_with fail
          refine ((behindOf_yes _ _ _ _ _ (pw s m) (pw s m) _ O.out O.out HPW.out HPW.out).mono fun _ _ h => h.lst_).mono ?_
          rintro e w10 ⟨A10, c10, rfl, o10, b10⟩
          replace V := Lib.hid (V.out.below b10)
          replace O := Lib.hid (O.out.below b10)
          replace O9 := Lib.hid (O9.out.below b10)
          replace B := Lib.hid (below_more B.out b10)
          have O10 := Lib.hid o10.viewL
          clear o10
          clear b10
          have O10' : Hid (View w10 A10 k (up (pw s (m + m)))) := by have h := O10.out; rw [behind_pw] at h; exact Lib.hid h
          go_wp2_with fail
          refine (sameInts_yes _ _ k _ _ (up (pw s (m + m))) _ O9.out O10'.out (by omega)).mono ?_
          rintro e w11 ⟨rfl, b11⟩
          replace V := Lib.hid (V.out.below b11)
          replace O := Lib.hid (O.out.below b11)
          replace B := Lib.hid (below_more B.out b11)
          clear b11
          clear O9 O10 O10'
          go_wp2_with fail
          refine ((powOf_yes _ _ _ 0 s _ V.out HS.out (by omega)).mono fun _ _ h => h.lst_).mono ?_
          rintro e w5 ⟨A5, c5, rfl, o5, b5⟩
          replace V := Lib.hid (V.out.below b5)
          replace O := Lib.hid (O.out.below b5)
          replace B := Lib.hid (below_more B.out b5)
          have O5 := Lib.hid o5.viewL
          clear o5
          clear b5
          go_wp2_with fail
          refine (sameOf_yes k _ hn1 hn7).mono ?_
          rintro e w7 ⟨rfl, o7, b7⟩
          have O7 := Lib.hid o7.viewL
          replace O5 : Hid (View w7 A5 k self) := Lib.hid (O5.out.below b7)
          replace V := Lib.hid (V.out.below b7)
          replace B := Lib.hid (below_more B.out b7)
          clear b7 o7
          go_wp2_with fail
          refine (sameInts_yes _ _ k _ _ self _ O5.out O7.out (by omega)).mono ?_
          rintro e w8 ⟨rfl, b8⟩
          replace V := Lib.hid (V.out.below b8)
          replace B := Lib.hid (below_more B.out b8)
          clear b8
          go_wp2
          all_goals go_ret
          all_goals exact ⟨by first | rfl | exact ret_bool (by simp; omega) | exact ret_bool (by simp), B.out⟩
  · skip
    have HA := Lib.hid hv
    have V := HV
    have B := HB1
    clear hv HV HB1
    go_wp2_with fail
    refine (powOf_no _ _ _ x zs _ V.out (by omega) HA.out).mono ?_
    rintro e w2 ⟨A2, c2, rfl, o2, b2⟩
    replace V := Lib.hid (V.out.below b2)
    replace B := Lib.hid (below_more B.out b2)
    have O2 := Lib.hid o2
    clear o2
    clear b2
    go_wp2_with fail
    refine (sPowerOf_no _ _ _ x zs _ V.out (by omega) HA.out).mono ?_
    rintro e w3 ⟨A3, c3, rfl, o3, b3⟩
    replace V := Lib.hid (V.out.below b3)
    replace O2 := Lib.hid (O2.out.below b3)
    replace B := Lib.hid (below_more B.out b3)
    have O3 := Lib.hid o3
    clear o3
    clear b3
    go_wp2_with fail
    refine (sameInts_yes _ _ 0 _ _ (nth []) _ O2.out.view O3.out.view (by omega)).mono ?_
    rintro e w4 ⟨rfl, b4⟩
    replace V := Lib.hid (V.out.below b4)
    replace B := Lib.hid (below_more B.out b4)
    clear b4
    go_wp2_with fail
    refine (alive_any _).mono ?_
    rintro e w5 ⟨rfl, b5⟩
    replace V := Lib.hid (V.out.below b5)
    replace B := Lib.hid (below_more B.out b5)
    clear b5
    go_wp2
    all_goals go_ret
    all_goals exact ⟨by first | rfl | exact ret_bool (by simp; omega) | exact ret_bool (by simp), B.out⟩

end Go.Proofs.Ytbmbhaaogkhfmaa
