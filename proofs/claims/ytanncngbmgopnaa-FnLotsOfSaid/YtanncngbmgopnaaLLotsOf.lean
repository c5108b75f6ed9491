/- laws.FnLotsOf answers true. Condition: the code's bounds. -/
import Derived.Test.YtanncngbmgopnaaDrawLotsOf
import Derived.Test.YtanncngbmgopnaaAlive
import Derived.Test.YtanncngbmgopnaaLstB
import Derived.Test.YtanncngbmgopnaaLots
import Derived.Test.YtanncngbmgopnaaHeadsD
import Derived.Test.YtanncngbmgopnaaLoops
import Derived.Test.YtanncngbmgopnaaSameInts
import Derived.Test.YtanncngbmgopnaaOkImpl
import Derived.Deep.QuietTactic
import Derived.BigQuiet
namespace Go.Proofs.Ytanncngbmgopnaa
open Go.RowKit
set_option linter.unusedVariables false

/-- A thing and that to which it is led have the same lot. -/
theorem lot_next {n : Nat} {s : Nat → Nat} (hs : Mp n s) {k : Nat} (hk : k < n) : lot s (s k) = lot s k := by
  have hr := rho_is hs hk
  have h2 := tail_is hs (hs.lt hk) hr.next
  unfold lot
  rw [h2.1, h2.2]
  exact least_next hr

set_option maxHeartbeats 2000000 in
theorem lawLotsOf_walk (A0 : Option Addr) (n0 c0 : Nat) (p0 : Nat → Int) (w : World) (h : Bytes w A0 n0 c0 p0) :
    Calls Try.prog 14 #[.slice A0 n0 c0] w fun e w' => e = .returned (.bool true) ∧ Below w.heap.size w w' := by
  have H := Lib.hid h
  clear h
  by_cases hbig : 1048576 < n0
  · go_enter Try.func14, Try.ntmps14
    go_wp2
    go_ret
    exact ⟨rfl, Below.refl _ _⟩
  go_enter Try.func14, Try.ntmps14
  go_wp2_with fail
  refine (drawLotsOf_any A0 n0 c0 p0 w H.out).mono ?_
  rintro e w1 ⟨A, n, c, zs, hn8, rfl, how, hb1⟩
  have HV := Lib.hid how.viewL
  have HO := Lib.hid how
  have HB1 := Lib.hid hb1
  clear how hb1 hbig
  by_cases hv : Valid n zs
  · skip
    obtain ⟨hs, hzs⟩ := hv.mp
    generalize (fun k => (zs k).toNat) = s at hs hzs
    have HS := Lib.hid hs
    have V := Lib.hid (HV.out.congr hzs)
    have hn1 := hs.1
    have hn7 := hs.2.1
    clear hs hzs hv HV HO
    have B := HB1
    clear HB1
    have hn0 : ((n : Int) == 0) = false := by simp; omega
    have hhl := heads_le s n
    go_wp2_with fail
    refine ((lotsOf_yes _ _ _ s _ V.out HS.out).mono fun _ _ h => h.lst_).mono ?_
    rintro e w2 ⟨A2, c2, rfl, o2, b2⟩
    replace V := Lib.hid (V.out.below b2)
    replace B := Lib.hid (below_more B.out b2)
    have O2 := Lib.hid o2.viewL
    clear o2
    clear b2
    go_wp2_with fail
    refine ((sLotsOf_yes _ _ _ s _ V.out HS.out).mono fun _ _ h => h.lst_).mono ?_
    rintro e w3 ⟨A3, c3, rfl, o3, b3⟩
    replace V := Lib.hid (V.out.below b3)
    replace O2 := Lib.hid (O2.out.below b3)
    replace B := Lib.hid (below_more B.out b3)
    have O3 := Lib.hid o3.viewL
    clear o3
    clear b3
    go_wp2_with fail
    refine (sameInts_yes _ _ n _ _ (lot s) _ O2.out O3.out (by omega)).mono ?_
    rintro e w4 ⟨rfl, b4⟩
    replace V := Lib.hid (V.out.below b4)
    replace O2 := Lib.hid (O2.out.below b4)
    replace B := Lib.hid (below_more B.out b4)
    clear b4
    clear O3
    go_wp2
    go_loopw [5, 6] (fun q i wr => ∃ k : Nat, k ≤ n ∧ i = .int .i64 k ∧ q = .int .i64 ((heads s k).length : Nat) ∧ View wr A n (up s) ∧ View wr A2 n (lot s) ∧ Below w.heap.size w wr) (fun _ i _ => n - (intOf i).toNat)
    case atStart => exact ⟨0, Nat.zero_le _, rfl, rfl, V.out, O2.out, B.out⟩
    case round =>
      obtain ⟨k, hk, rfl, rfl, v_, o_, b_⟩ := hrel
      have V := Lib.hid v_
      have B := Lib.hid b_
      clear v_ b_
      have O := Lib.hid o_
      clear o_
      have hlk := heads_le s k
      obtain ⟨L, hL⟩ : ∃ L, (heads s k).length = L := ⟨_, rfl⟩
      rw [hL] at hlk ⊢
      have HLL := Lib.hid hL
      clear hL
      by_cases hlt : k < n
      · obtain ⟨g, off, rfl, hg, hc⟩ := V.out (by omega)
        obtain ⟨g2, off2, rfl, hg2, hc2⟩ := O.out (by omega)
        have hsk := HS.out.lt hlt
        have en := lot_next HS.out hlt
        have d3 : wr.cell? ⟨g2, off2 + s k, none⟩ = some (.int .i64 (lot s k)) := by rw [hc2 (s k) hsk, en]
        have d2 : wr.cell? ⟨g2, off2 + k, none⟩ = some (.int .i64 (lot s k)) := hc2 k hlt
        have d1 : wr.cell? ⟨g, off + k, none⟩ = some (.int .i64 (s k : Int)) := hc k hlt
        have HH : Hid (lot s k = (k : Int) → (heads s (k + 1)).length = L + 1) := Lib.hid (fun h => by rw [heads_hit h, List.length_append, HLL.out]; rfl)
        have HM : Hid (¬ lot s k = (k : Int) → (heads s (k + 1)).length = L) := Lib.hid (fun h => by rw [heads_miss h, HLL.out])
        generalize lot s k = m at d2 d3 HH HM
        have e0 : (m != m) = false := by simp
        clear hc hc2 en
        go_wp2_with fail
        go_quiet (fail)
        have d2' : (wr.drewN nq).cell? ⟨g2, off2 + k, none⟩ = some (.int .i64 m) := by simpa using d2
        replace V := Lib.hid (V.out.drewN nq)
        replace O := Lib.hid (O.out.drewN nq)
        replace B := Lib.hid (below_drewN B.out nq)
        by_cases hm : m = (k : Int)
        · have e1 : (m == (k : Int)) = true := by simp [hm]
          have hh := HH.out hm
          have HX := Lib.hid hh
          clear hm hh HH HM d1 d3
          go_wp2
          go_roundw
          case rel => exact ⟨k + 1, by omega, by go_num, by rw [HX.out]; go_num, V.out, O.out, B.out⟩
          case measure => simp [intOf]; omega
        · have e1 : (m == (k : Int)) = false := by simpa using hm
          have HX := Lib.hid (HM.out hm)
          clear hm HH HM d1 d3
          go_wp2
          go_roundw
          case rel => exact ⟨k + 1, by omega, by go_num, by rw [HX.out], V.out, O.out, B.out⟩
          case measure => simp [intOf]; omega
      · obtain rfl : k = n := by omega
        have C := loopsOf_yes _ _ c s _ V.out HS.out
        rw [HLL.out] at C
        have CC := Lib.hid C
        clear C
        go_wp2_with fail
        refine (CC.out).mono ?_
        rintro e w5 ⟨A5, c5, vs5, rfl, o5, b5⟩
        replace B := Lib.hid (below_more B.out b5)
        clear o5 b5 CC
        go_wp2
        all_goals go_ret
        all_goals exact ⟨by first | rfl | exact ret_bool (by simp; omega) | exact ret_bool (by simp), B.out⟩
  · skip
    have HA := Lib.hid hv
    have V := HV
    have B := HB1
    clear hv HV HB1
    go_wp2_with fail
    refine (lotsOf_no _ _ _ zs _ V.out (by omega) HA.out).mono ?_
    rintro e w2 ⟨A2, c2, rfl, o2, b2⟩
    replace V := Lib.hid (V.out.below b2)
    replace B := Lib.hid (below_more B.out b2)
    have O2 := Lib.hid o2
    clear o2
    clear b2
    go_wp2_with fail
    refine (sLotsOf_no _ _ _ zs _ V.out (by omega) HA.out).mono ?_
    rintro e w3 ⟨A3, c3, rfl, o3, b3⟩
    replace V := Lib.hid (V.out.below b3)
    replace O2 := Lib.hid (O2.out.below b3)
    replace B := Lib.hid (below_more B.out b3)
    have O3 := Lib.hid o3
    clear o3
    clear b3
    go_wp2_with fail
    refine (sameInts_yes _ _ 0 _ _ (nth []) _ O2.out.view O3.out.view (by omega)).mono ?_
    rintro e w4 ⟨rfl, b4⟩
    replace V := Lib.hid (V.out.below b4)
    replace B := Lib.hid (below_more B.out b4)
    clear b4
    go_wp2_with fail
    refine (mapOk_no _ _ _ _ _ V.out HA.out (by omega)).mono ?_
    rintro e w_ ⟨rfl, rfl⟩
    go_wp2_with fail
    refine (alive_any _).mono ?_
    rintro e w5 ⟨rfl, b5⟩
    replace V := Lib.hid (V.out.below b5)
    replace B := Lib.hid (below_more B.out b5)
    clear b5
    go_wp2
    all_goals go_ret
    all_goals exact ⟨by first | rfl | exact ret_bool (by simp; omega) | exact ret_bool (by simp), B.out⟩

end Go.Proofs.Ytanncngbmgopnaa
