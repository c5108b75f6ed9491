/- laws.FnLoopsOf answers true. Condition: the code's bounds. -/
import Derived.Test.YtanncngbmgopnaaDrawLoopsOf
import Derived.Test.YtanncngbmgopnaaAlive
import Derived.Test.YtanncngbmgopnaaLstB
import Derived.Test.YtanncngbmgopnaaHeadsC
import Derived.Test.YtanncngbmgopnaaLoopsS
import Derived.Test.YtanncngbmgopnaaSameSS
import Derived.Test.YtanncngbmgopnaaHasL
import Derived.Test.YtanncngbmgopnaaOnLoopI
import Derived.Test.YtanncngbmgopnaaTurned
import Derived.Test.YtanncngbmgopnaaOkImpl
namespace Go.Proofs.Ytanncngbmgopnaa
open Go.RowKit
set_option linter.unusedVariables false

set_option maxHeartbeats 4000000 in
theorem lawLoopsOf_walk (A0 : Option Addr) (n0 c0 : Nat) (p0 : Nat → Int) (w : World) (h : Bytes w A0 n0 c0 p0) :
    Calls Try.prog 5 #[.slice A0 n0 c0] w fun e w' => e = .returned (.bool true) ∧ Below w.heap.size w w' := by
  have H := Lib.hid h
  clear h
  by_cases hbig : 1048576 < n0
  · go_enter Try.func5, Try.ntmps5
    go_wp2
    go_ret
    exact ⟨rfl, Below.refl _ _⟩
  go_enter Try.func5, Try.ntmps5
  go_wp2_with fail
  refine (drawLoopsOf_any A0 n0 c0 p0 w H.out).mono ?_
  rintro e w1 ⟨A, n, c, zs, hn8, rfl, how, hb1⟩
  have HV := Lib.hid how.viewL
  have HO := Lib.hid how
  have HB1 := Lib.hid hb1
  clear how hb1 hbig
  by_cases hv : Valid n zs
  · skip
    obtain ⟨hs, hzs⟩ := hv.mp
    generalize (fun k => (zs k).toNat) = s at hs hzs
    have HS := Lib.hid hs
    have V := Lib.hid (HV.out.congr hzs)
    have hn1 := hs.1
    have hn7 := hs.2.1
    clear hs hzs hv HV HO
    have B := HB1
    clear HB1
    have hhl := heads_le s n
    have hhp := heads_pos HS.out
    obtain ⟨m, hm⟩ : ∃ m, (heads s n).length = m := ⟨_, rfl⟩
    have HM := Lib.hid hm
    rw [hm] at hhl hhp
    have hm0 : ((m : Int) == 0) = false := by simp; omega
    have HRL : Hid (∀ i, i < m → 1 ≤ (rows s n i).length ∧ (rows s n i).length ≤ 1048576) := Lib.hid (fun i hi => by have := rows_len HS.out (i := i) (by omega); omega)
    have C1 := fun (w : World) (hV : View w A n (up s)) => loopsOf_yes A n c s w hV HS.out
    have C2 := fun (w : World) (hV : View w A n (up s)) => sLoopsOf_yes A n c s w hV HS.out
    simp only [hm] at C1 C2
    have C1 := Lib.hid C1
    have C2 := Lib.hid C2
    clear hm
    go_wp2_with fail
    refine (C1.out _ V.out).mono ?_
    rintro e w2 ⟨A2, c2, vs2, rfl, o2, b2⟩
    replace V := Lib.hid (V.out.below b2)
    replace B := Lib.hid (below_more B.out b2)
    have O2 := Lib.hid o2.view
    clear o2 b2
    go_wp2_with fail
    refine (C2.out _ V.out).mono ?_
    rintro e w3 ⟨A3, c3, vs3, rfl, o3, b3⟩
    replace V := Lib.hid (V.out.below b3)
    replace B := Lib.hid (below_more B.out b3)
    replace O2 := Lib.hid (O2.out.below b3)
    have O3 := Lib.hid o3.view
    clear o3 b3
    go_wp2_with fail
    refine (sameRows_yes _ _ _ _ _ (rows s n) _ O2.out O3.out (by omega) (fun i hi => (HRL.out i hi).2)).mono ?_
    rintro e w4 ⟨rfl, b4⟩
    replace V := Lib.hid (V.out.below b4)
    replace B := Lib.hid (below_more B.out b4)
    replace O2 := Lib.hid (O2.out.below b4)
    clear b4 O3 C1 C2
    go_wp2
    go_loopw [5, 6] (fun a i wr => ∃ k : Nat, k ≤ n ∧ i = .int .i64 k ∧ a = .int .i64 ((allTo s k : Nat) : Int) ∧ View wr A n (up s) ∧ ViewSS wr A2 m (rows s n) ∧ Below w.heap.size w wr) (fun _ i _ => n - (intOf i).toNat)
    case atStart => exact ⟨0, Nat.zero_le _, rfl, rfl, V.out, O2.out, B.out⟩
    case round =>
      obtain ⟨k, hk, rfl, rfl, v_, o_, b_⟩ := hrel
      have V := Lib.hid v_
      have B := Lib.hid b_
      clear v_ b_
      have O := Lib.hid o_
      clear o_
      have hak := allTo_le s k
      obtain ⟨a, ha⟩ : ∃ a, allTo s k = a := ⟨_, rfl⟩
      rw [ha] at hak ⊢
      have HAA := Lib.hid ha
      clear ha
      by_cases hlt : k < n
      · have HCL : Hid (∀ j, cntTo s n k j ≤ j) := Lib.hid (cntTo_le s n k)
        obtain ⟨wo, rfl⟩ : ∃ wo : World, wo = wr := ⟨_, rfl⟩
        go_wp2
        go_loop [7, 8] (fun q i => ∃ j : Nat, j ≤ m ∧ i = .int .i64 j ∧ q = .int .i64 ((cntTo s n k j : Nat) : Int)) (fun _ i => m - (intOf i).toNat)
        case atStart => exact ⟨0, Nat.zero_le _, rfl, by rw [cntTo_zero]; rfl⟩
        case round =>
          obtain ⟨j, hj, rfl, rfl⟩ := hrel
          have hcj := HCL.out j
          obtain ⟨q, hq⟩ : ∃ q, cntTo s n k j = q := ⟨_, rfl⟩
          rw [hq] at hcj ⊢
          have HQ := Lib.hid hq
          clear hq
          by_cases hjl : j < m
          · obtain ⟨g, off, rfl, hg, hc⟩ := O.out (by omega)
            obtain ⟨B5, c5, d5, v5⟩ := hc j hjl
            have V5 := Lib.hid v5
            have hln := (HRL.out j hjl).2
            have HJM : Hid (j < (heads s n).length) := Lib.hid (by rw [HM.out]; exact hjl)
            clear hc v5
            by_cases hin : (k : Int) ∈ rows s n j
            · have HX : Hid (cntTo s n k (j + 1) = q + 1) := Lib.hid (by rw [cnt_in HJM.out hin, HQ.out])
              have HIN := Lib.hid hin
              clear hin
              go_wp2_with fail
              refine (hasInt_in V5.out rfl hln HIN.out).mono ?_
              rintro e w_ ⟨rfl, rfl⟩
              go_wp2
              go_round
              case rel => exact ⟨j + 1, by omega, by go_num, by rw [HX.out]; go_num⟩
              case measure => simp [intOf]; omega
            · have HX : Hid (cntTo s n k (j + 1) = q) := Lib.hid (by rw [cnt_out HJM.out hin, HQ.out])
              have HIN := Lib.hid hin
              clear hin
              go_wp2_with fail
              refine (hasInt_out V5.out rfl hln HIN.out).mono ?_
              rintro e w_ ⟨rfl, rfl⟩
              go_wp2
              go_round
              case rel => exact ⟨j + 1, by omega, by go_num, by rw [HX.out]⟩
              case measure => simp [intOf]; omega
          · obtain rfl : j = m := by omega
            have hca := cnt_all HS.out hlt
            rw [HM.out, HQ.out] at hca
            have HR := Lib.hid (rho_is HS.out hlt)
            by_cases h0 : (rho s k).1 = 0
            · have HX : Hid (allTo s (k + 1) = a + 1) := Lib.hid (by simp only [allTo]; rw [if_pos h0, HAA.out])
              rw [if_pos h0] at hca
              have H0 := Lib.hid (decide_eq_true h0)
              subst hca
              clear h0
              go_wp2_with fail
              refine ((onLoop_yes _ _ _ k _ _ s _ V.out HS.out hlt HR.out).mono (R' := RetBool wo true) fun _ _ h => by rw [H0.out] at h; exact h).mono ?_
              rintro e w5 ⟨rfl, b5⟩
              replace V := Lib.hid (V.out.below b5)
              replace O := Lib.hid (O.out.below b5)
              replace B := Lib.hid (below_more B.out b5)
              clear b5
              go_wp2
              go_roundw
              case rel => exact ⟨k + 1, by omega, by go_num, by rw [HX.out]; try go_num, V.out, O.out, B.out⟩
              case measure => simp [intOf]; omega
            · have HX : Hid (allTo s (k + 1) = a) := Lib.hid (by simp only [allTo]; rw [if_neg h0, HAA.out]; rfl)
              rw [if_neg h0] at hca
              have H0 := Lib.hid (decide_eq_false h0)
              subst hca
              clear h0
              go_wp2_with fail
              refine ((onLoop_yes _ _ _ k _ _ s _ V.out HS.out hlt HR.out).mono (R' := RetBool wo false) fun _ _ h => by rw [H0.out] at h; exact h).mono ?_
              rintro e w5 ⟨rfl, b5⟩
              replace V := Lib.hid (V.out.below b5)
              replace O := Lib.hid (O.out.below b5)
              replace B := Lib.hid (below_more B.out b5)
              clear b5
              go_wp2
              go_roundw
              case rel => exact ⟨k + 1, by omega, by go_num, by rw [HX.out]; try go_num, V.out, O.out, B.out⟩
              case measure => simp [intOf]; omega
      · obtain rfl : k = n := by omega
        by_cases hi : Inj k s
        · have hak2 : a = k := by have := (allTo_inj HS.out).1 hi; rw [HAA.out] at this; exact this
          subst hak2
          have HI2 := Lib.hid hi
          clear hi
          go_wp2_with fail
          refine (turnedOf_yes _ _ _ s _ V.out HS.out HI2.out).mono ?_
          rintro e w5 ⟨A5, c5, rfl, _, b5⟩
          replace B := Lib.hid (below_more B.out b5)
          clear b5
          go_wp2
          all_goals go_ret
          all_goals exact ⟨by first | rfl | exact ret_bool (by simp; omega) | exact ret_bool (by simp), B.out⟩
        · have hak2 : ¬ a = k := fun e => hi ((allTo_inj HS.out).2 (by rw [HAA.out]; exact e))
          have hab : ((a : Int) == (k : Int)) = false := by simp; omega
          have HI2 := Lib.hid hi
          clear hi hak2
          go_wp2_with fail
          refine (turnedOf_other _ _ _ s _ V.out HS.out HI2.out).mono ?_
          rintro e w5 ⟨A5, c5, rfl, _, b5⟩
          replace B := Lib.hid (below_more B.out b5)
          clear b5
          go_wp2
          all_goals go_ret
          all_goals exact ⟨by first | rfl | exact ret_bool (by simp; omega) | exact ret_bool (by simp), B.out⟩
  · skip
    have HA := Lib.hid hv
    have V := HV
    have B := HB1
    clear hv HV HB1
    go_wp2_with fail
    refine (loopsOf_no _ _ _ zs (fun _ => []) _ V.out (by omega) HA.out).mono ?_
    rintro e w2 ⟨A2, c2, vs2, rfl, o2, b2⟩
    replace V := Lib.hid (V.out.below b2)
    replace B := Lib.hid (below_more B.out b2)
    have O2 := Lib.hid o2.view
    clear o2 b2
    go_wp2_with fail
    refine (sLoopsOf_no _ _ _ zs (fun _ => []) _ V.out (by omega) HA.out).mono ?_
    rintro e w3 ⟨A3, c3, vs3, rfl, o3, b3⟩
    replace V := Lib.hid (V.out.below b3)
    replace B := Lib.hid (below_more B.out b3)
    replace O2 := Lib.hid (O2.out.below b3)
    have O3 := Lib.hid o3.view
    clear o3 b3
    go_wp2_with fail
    refine (sameRows_yes _ _ _ _ _ (fun _ => []) _ O2.out O3.out (by omega) (fun i hi => absurd hi (by omega))).mono ?_
    rintro e w4 ⟨rfl, b4⟩
    replace V := Lib.hid (V.out.below b4)
    replace B := Lib.hid (below_more B.out b4)
    clear b4 O3
    go_wp2_with fail
    refine (mapOk_no _ _ _ _ _ V.out HA.out (by omega)).mono ?_
    rintro e w_ ⟨rfl, rfl⟩
    go_wp2_with fail
    refine (alive_any _).mono ?_
    rintro e w5 ⟨rfl, b5⟩
    replace V := Lib.hid (V.out.below b5)
    replace B := Lib.hid (below_more B.out b5)
    clear b5
    go_wp2
    all_goals go_ret
    all_goals exact ⟨by first | rfl | exact ret_bool (by simp; omega) | exact ret_bool (by simp), B.out⟩

end Go.Proofs.Ytanncngbmgopnaa
