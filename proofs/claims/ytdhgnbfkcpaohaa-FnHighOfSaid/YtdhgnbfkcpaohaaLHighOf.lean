/- laws.FnHighOf answers true. Condition: the code's bounds. -/
import Derived.Test.YtdhgnbfkcpaohaaDrawHighOf
import Derived.Test.YtdhgnbfkcpaohaaAlive
import Derived.Test.YtdhgnbfkcpaohaaHighL
import Derived.Test.YtdhgnbfkcpaohaaTurned
namespace Go.Proofs.Ytdhgnbfkcpaohaa
open Go.RowKit
set_option linter.unusedVariables false

set_option maxHeartbeats 1000000 in
theorem lawHighOf_walk (A0 : Option Addr) (n0 c0 : Nat) (p0 : Nat → Int) (w : World) (h : Bytes w A0 n0 c0 p0) :
    Calls Try.prog 4 #[.slice A0 n0 c0] w fun e w' => e = .returned (.bool true) ∧ Below w.heap.size w w' := by
  have H := Lib.hid h
  clear h
  by_cases hbig : 1048576 < n0
  · go_enter Try.func4, Try.ntmps4
    go_wp2
    go_ret
    exact ⟨rfl, Below.refl _ _⟩
  go_enter Try.func4, Try.ntmps4
  go_wp2_with fail
  refine (drawHighOf_any A0 n0 c0 p0 w H.out).mono ?_
  rintro e w1 ⟨A, n, c, zs, hn8, rfl, how, hb1⟩
  have HV := Lib.hid how.viewL
  have HO := Lib.hid how
  have HB1 := Lib.hid hb1
  clear how hb1 hbig
  by_cases hv : Valid n zs
  · obtain ⟨hs, hzs⟩ := hv.mp
    generalize (fun k => (zs k).toNat) = s at hs hzs
    have HS := Lib.hid hs
    have VU := Lib.hid (HV.out.congr hzs)
    have h1 := hs.1
    have HMX := Lib.hid (hiTo_max s n)
    have HLT := Lib.hid (hiTo_lt hs n (Nat.le_refl _))
    have HIN := Lib.hid (hiTo_inj hs)
    have HGE := Lib.hid (hiTo_ge s n)
    clear hs hzs hv HV HO
    go_wp2_with fail
    refine (highOf_yes _ _ _ _ _ VU.out HS.out).mono ?_
    rintro e w2 ⟨rfl, b2⟩
    have VU2 := Lib.hid (VU.out.below b2)
    have HB2 := Lib.hid (below_more HB1.out b2)
    clear b2 VU HB1
    go_wp2_with fail
    refine (sHighOf_yes _ _ _ _ _ VU2.out HS.out).mono ?_
    rintro e w3 ⟨rfl, b3⟩
    have VU3 := Lib.hid (VU2.out.below b3)
    have HB3 := Lib.hid (below_more HB2.out b3)
    clear b3 VU2 HB2
    generalize hiTo s n = M at HMX HLT HIN HGE
    have hM0 : 0 ≤ M := by have := HMX.out 0 (by omega); omega
    have hM1 := HLT.out
    go_wp2
    go_loopw [5] (fun i wr => ∃ j : Nat, j ≤ n ∧ i = .int .i64 j ∧ View wr A n (up s) ∧ Below w.heap.size w wr) (fun i _ => n - (intOf i).toNat)
    case atStart => exact ⟨0, Nat.zero_le _, rfl, VU3.out, HB3.out⟩
    case round =>
      obtain ⟨j, hj, rfl, vr, br⟩ := hrel
      have VR := Lib.hid vr
      have BR := Lib.hid br
      clear vr br
      by_cases hlt : j < n
      · go_wp2_with fail
        refine (tailOf_yes _ _ _ j _ _ s _ VR.out HS.out hlt (rho_is HS.out hlt)).mono ?_
        rintro e w4 ⟨rfl, b4⟩
        have V4 := Lib.hid (VR.out.below b4)
        have B4 := Lib.hid (below_more BR.out b4)
        have hmx := HMX.out j hlt
        clear b4 VR BR
        go_wp2
        go_roundw
        case rel => exact ⟨j + 1, by omega, by go_num, V4.out, B4.out⟩
        case measure => simp [intOf]; omega
      · obtain rfl : j = n := by omega
        by_cases hi : Inj j s
        · obtain rfl : M = 0 := HIN.out.1 hi
          have HI := Lib.hid hi
          clear hi
          go_wp2_with fail
          refine (turnedOf_yes _ _ _ _ _ VR.out HS.out HI.out).mono ?_
          rintro e w5 ⟨A5, c5, rfl, _, b5⟩
          have B5 := Lib.hid (below_more BR.out b5)
          clear b5
          go_wp2
          go_ret
          exact ⟨ret_bool (by simp; omega), B5.out⟩
        · have hM : (M == 0) = false := by
            simp
            intro e
            exact hi (HIN.out.2 e)
          have HI := Lib.hid hi
          clear hi
          go_wp2_with fail
          refine (turnedOf_other _ _ _ _ _ VR.out HS.out HI.out).mono ?_
          rintro e w5 ⟨A5, c5, rfl, _, b5⟩
          have B5 := Lib.hid (below_more BR.out b5)
          clear b5
          go_wp2
          go_ret
          exact ⟨rfl, B5.out⟩
  · have HA := Lib.hid hv
    clear hv
    go_wp2_with fail
    refine (highOf_no _ _ _ _ _ HV.out (by omega) HA.out).mono ?_
    rintro e w2 ⟨rfl, b2⟩
    have V2 := Lib.hid (HV.out.below b2)
    have HB2 := Lib.hid (below_more HB1.out b2)
    clear b2
    go_wp2_with fail
    refine (sHighOf_no _ _ _ _ _ V2.out (by omega) HA.out).mono ?_
    rintro e w3 ⟨rfl, b3⟩
    have HB3 := Lib.hid (below_more HB2.out b3)
    clear b3
    go_wp2_with fail
    refine (alive_any _).mono ?_
    rintro e w4 ⟨rfl, b4⟩
    have HB4 := Lib.hid (below_more HB3.out b4)
    clear b4
    go_wp2
    go_ret
    exact ⟨rfl, HB4.out⟩

end Go.Proofs.Ytdhgnbfkcpaohaa
