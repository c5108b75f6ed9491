/- laws.FnImageOf answers true. Condition: the code's bounds. -/
import Derived.Test.YtdhgnbfkcpaohaaDrawImageOf
import Derived.Test.YtdhgnbfkcpaohaaAlive
import Derived.Test.YtdhgnbfkcpaohaaLstB
import Derived.Test.YtdhgnbfkcpaohaaFromI
import Derived.Test.YtdhgnbfkcpaohaaImageI
import Derived.Test.YtdhgnbfkcpaohaaImageSpec
import Derived.Test.YtdhgnbfkcpaohaaSameInts
import Derived.Test.YtdhgnbfkcpaohaaAscend
import Derived.Test.YtdhgnbfkcpaohaaOkSpec
import Derived.Test.YtdhgnbfkcpaohaaHasL
namespace Go.Proofs.Ytdhgnbfkcpaohaa
open Go.RowKit
set_option linter.unusedVariables false

set_option maxHeartbeats 2000000 in
theorem lawImageOf_walk (A0 : Option Addr) (n0 c0 : Nat) (p0 : Nat → Int) (w : World) (h : Bytes w A0 n0 c0 p0) :
    Calls Try.prog 6 #[.slice A0 n0 c0] w fun e w' => e = .returned (.bool true) ∧ Below w.heap.size w w' := by
  have H := Lib.hid h
  clear h
  by_cases hbig : 1048576 < n0
  · go_enter Try.func6, Try.ntmps6
    go_wp2
    go_ret
    exact ⟨rfl, Below.refl _ _⟩
  go_enter Try.func6, Try.ntmps6
  go_wp2_with fail
  refine (drawImageOf_any A0 n0 c0 p0 w H.out).mono ?_
  rintro e w1 ⟨A, n, c, zs, hn8, rfl, how, hb1⟩
  have HV := Lib.hid how.viewL
  have HO := Lib.hid how
  have HB1 := Lib.hid hb1
  clear how hb1 hbig
  by_cases hv : Valid n zs
  · skip
    obtain ⟨hs, hzs⟩ := hv.mp
    generalize (fun k => (zs k).toNat) = s at hs hzs
    have HS := Lib.hid hs
    have V := Lib.hid (HV.out.congr hzs)
    have hn1 := hs.1
    have hn7 := hs.2.1
    clear hs hzs hv HV HO
    have B := HB1
    clear HB1
    have hle := length_imgTo s n n
    have HASC := Lib.hid (asc_imgTo s n n)
    obtain ⟨N, hN⟩ : ∃ N, (imgTo s n n).length = N := ⟨_, rfl⟩
    have HN := Lib.hid hN
    rw [hN] at hle
    clear hN
    go_wp2_with fail
    refine ((imageOf_yes _ _ _ s _ V.out HS.out).mono fun _ _ h => h.len_ (HN.out)).mono ?_
    rintro e w2 ⟨A2, c2, rfl, o2, b2⟩
    replace V := Lib.hid (V.out.below b2)
    replace B := Lib.hid (below_more B.out b2)
    have O2 := Lib.hid o2
    clear o2
    clear b2
    go_wp2_with fail
    refine ((sImageOf_yes _ _ _ s _ V.out HS.out).mono fun _ _ h => h.len_ (HN.out)).mono ?_
    rintro e w3 ⟨A3, c3, rfl, o3, b3⟩
    replace V := Lib.hid (V.out.below b3)
    replace O2 := Lib.hid (O2.out.below b3)
    replace B := Lib.hid (below_more B.out b3)
    have O3 := Lib.hid o3
    clear o3
    clear b3
    go_wp2_with fail
    refine (sameInts_yes _ _ _ _ _ (nth (imgTo s n n)) _ O2.out.view O3.out.view (by omega)).mono ?_
    rintro e w4 ⟨rfl, b4⟩
    replace V := Lib.hid (V.out.below b4)
    replace O2 := Lib.hid (O2.out.below b4)
    replace B := Lib.hid (below_more B.out b4)
    clear b4
    clear O3
    go_wp2_with fail
    refine (sMapOk_yes _ _ _ _ _ V.out HS.out.valid).mono ?_
    rintro e w_ ⟨rfl, rfl⟩
    go_wp2
    go_loopw [5] (fun i wr => ∃ k : Nat, k ≤ n ∧ i = .int .i64 k ∧ View wr A n (up s) ∧ View wr A2 N (nth (imgTo s n n)) ∧ Below w.heap.size w wr) (fun i _ => n - (intOf i).toNat)
    case atStart => exact ⟨0, Nat.zero_le _, rfl, V.out, O2.out.view, B.out⟩
    case round =>
      obtain ⟨k, hk, rfl, v_, o_, b_⟩ := hrel
      have V := Lib.hid v_
      have B := Lib.hid b_
      clear v_ b_
      have O := Lib.hid o_
      clear o_
      by_cases hlt : k < n
      · obtain ⟨L, hL⟩ : ∃ L, (fromTo s k n).length = L := ⟨_, rfl⟩
        have hskm : Hid ((s k : Int) ∈ imgTo s n n) := Lib.hid ((mem_imgTo s n _ n).2 ⟨s k, HS.out.lt hlt, rfl, k, hlt, rfl⟩)
        by_cases hpos : 0 < L
        · have hin : Hid ((k : Int) ∈ imgTo s n n) := Lib.hid ((mem_imgTo s n _ n).2 ⟨k, hlt, rfl, led_iff.1 (by rw [hL]; exact hpos)⟩)
          have HL := Lib.hid hL
          clear hL
          go_wp2_with fail
          refine (hasInt_in O.out HN.out (by omega) hin.out).mono ?_
          rintro e w_ ⟨rfl, rfl⟩
          go_wp2_with fail
          refine ((fromOf_yes _ _ _ k s _ V.out HS.out hlt).mono fun _ _ h => h.len_ (HL.out)).mono ?_
          rintro e w5 ⟨A5, c5, rfl, o5, b5⟩
          replace V := Lib.hid (V.out.below b5)
          replace O := Lib.hid (O.out.below b5)
          replace B := Lib.hid (below_more B.out b5)
          have O5 := Lib.hid o5
          clear o5
          clear b5
          obtain ⟨g, off, rfl, hg, hc⟩ := V.out (by omega)
          have d1 : w5.cell? ⟨g, off + k, none⟩ = some (.int .i64 (s k : Int)) := hc k hlt
          clear hc
          go_wp2_with fail
          refine (hasInt_in O.out HN.out (by omega) hskm.out).mono ?_
          rintro e w_ ⟨rfl, rfl⟩
          go_wp2
          go_roundw
          case rel => exact ⟨k + 1, by omega, by go_num, V.out, O.out, B.out⟩
          case measure => simp [intOf]; omega
        · have hin : Hid (¬ (k : Int) ∈ imgTo s n n) := Lib.hid (fun h => by
            obtain ⟨v, _, e, h2⟩ := (mem_imgTo s n _ n).1 h
            obtain rfl := Int.ofNat_inj.1 e
            have := led_iff.2 h2
            omega)
          obtain rfl : L = 0 := by omega
          have HL := Lib.hid hL
          clear hL
          go_wp2_with fail
          refine (hasInt_out O.out HN.out (by omega) hin.out).mono ?_
          rintro e w_ ⟨rfl, rfl⟩
          go_wp2_with fail
          refine ((fromOf_yes _ _ _ k s _ V.out HS.out hlt).mono fun _ _ h => h.len_ (HL.out)).mono ?_
          rintro e w5 ⟨A5, c5, rfl, o5, b5⟩
          replace V := Lib.hid (V.out.below b5)
          replace O := Lib.hid (O.out.below b5)
          replace B := Lib.hid (below_more B.out b5)
          have O5 := Lib.hid o5
          clear o5
          clear b5
          obtain ⟨g, off, rfl, hg, hc⟩ := V.out (by omega)
          have d1 : w5.cell? ⟨g, off + k, none⟩ = some (.int .i64 (s k : Int)) := hc k hlt
          clear hc
          go_wp2_with fail
          refine (hasInt_in O.out HN.out (by omega) hskm.out).mono ?_
          rintro e w_ ⟨rfl, rfl⟩
          go_wp2
          go_roundw
          case rel => exact ⟨k + 1, by omega, by go_num, V.out, O.out, B.out⟩
          case measure => simp [intOf]; omega
      · obtain rfl : k = n := by omega
        go_wp2_with fail
        refine (ascend_yes _ _ _ (nth (imgTo s k k)) _ O.out (by omega) (fun i hi => HASC.out i (by rw [HN.out]; exact hi))).mono ?_
        rintro e w5 ⟨rfl, b5⟩
        replace V := Lib.hid (V.out.below b5)
        replace B := Lib.hid (below_more B.out b5)
        clear b5
        go_wp2
        all_goals go_ret
        all_goals exact ⟨by first | rfl | exact ret_bool (by simp; omega) | exact ret_bool (by simp), B.out⟩
  · skip
    have HA := Lib.hid hv
    have V := HV
    have B := HB1
    clear hv HV HB1
    go_wp2_with fail
    refine (imageOf_no _ _ _ zs _ V.out (by omega) HA.out).mono ?_
    rintro e w2 ⟨A2, c2, rfl, o2, b2⟩
    replace V := Lib.hid (V.out.below b2)
    replace B := Lib.hid (below_more B.out b2)
    have O2 := Lib.hid o2
    clear o2
    clear b2
    go_wp2_with fail
    refine (sImageOf_no _ _ _ zs _ V.out (by omega) HA.out).mono ?_
    rintro e w3 ⟨A3, c3, rfl, o3, b3⟩
    replace V := Lib.hid (V.out.below b3)
    replace O2 := Lib.hid (O2.out.below b3)
    replace B := Lib.hid (below_more B.out b3)
    have O3 := Lib.hid o3
    clear o3
    clear b3
    go_wp2_with fail
    refine (sameInts_yes _ _ 0 _ _ (nth []) _ O2.out.view O3.out.view (by omega)).mono ?_
    rintro e w4 ⟨rfl, b4⟩
    replace V := Lib.hid (V.out.below b4)
    replace B := Lib.hid (below_more B.out b4)
    clear b4
    go_wp2_with fail
    refine (sMapOk_no _ _ _ _ _ V.out HA.out (by omega)).mono ?_
    rintro e w_ ⟨rfl, rfl⟩
    go_wp2_with fail
    refine (alive_any _).mono ?_
    rintro e w5 ⟨rfl, b5⟩
    replace V := Lib.hid (V.out.below b5)
    replace B := Lib.hid (below_more B.out b5)
    clear b5
    go_wp2
    all_goals go_ret
    all_goals exact ⟨by first | rfl | exact ret_bool (by simp; omega) | exact ret_bool (by simp), B.out⟩

end Go.Proofs.Ytdhgnbfkcpaohaa
