/- laws.FnReadMap answers true. Condition: the code's bounds. -/
import Derived.Test.YtanncngbmgopnaaAlive
import Derived.Test.YtanncngbmgopnaaDrawReadMap
import Derived.Test.YtanncngbmgopnaaMapTxt
import Derived.Test.YtanncngbmgopnaaReadTxt
import Derived.Test.YtanncngbmgopnaaSameInts
import Derived.Test.YtanncngbmgopnaaLstB
namespace Go.Proofs.Ytanncngbmgopnaa
open Go.RowKit
set_option linter.unusedVariables false

/-- A text that tells a map is that map's text. -/
theorem txt_rd {t : ByteArray} {n : Nat} (hn : t.size = n) (hv : Valid n (rd t)) : txt n (fun k => (rd t k).toNat) = t := by
  apply ByteArray.ext
  apply Array.toList_inj.1
  show digL n (fun k => (rd t k).toNat) = t.data.toList
  have hl : t.data.toList.length = n := by simpa using hn
  apply List.ext_getElem
  · rw [digL_len, hl]
  · intro k h1 h2
    have hk : k < n := by rw [digL_len] at h1; exact h1
    have hr := hv.2.2 k hk
    have e : rd t k = (t.data.toList[k].toNat : Int) - 48 := by
      unfold rd
      rw [List.getD_eq_getElem?_getD, List.getElem?_eq_getElem h2]
      rfl
    simp only [digL, List.getElem_map, List.getElem_range]
    have e2 : 48 + (rd t k).toNat = t.data.toList[k].toNat := by omega
    rw [e2, UInt8.ofNat_toNat]

set_option maxHeartbeats 2000000 in
theorem lawReadMap_walk (A0 : Option Addr) (n0 c0 : Nat) (p0 : Nat → Int) (w : World) (h : Bytes w A0 n0 c0 p0) :
    Calls Try.prog 8 #[.slice A0 n0 c0] w fun e w' => e = .returned (.bool true) ∧ Below w.heap.size w w' := by
  have H := Lib.hid h
  clear h
  by_cases hbig : 1048576 < n0
  · go_enter Try.func8, Try.ntmps8
    go_wp2
    go_ret
    exact ⟨rfl, Below.refl _ _⟩
  go_enter Try.func8, Try.ntmps8
  go_wp2_with fail
  refine (drawReadMap_any A0 n0 c0 p0 w H.out).mono ?_
  rintro e w1 ⟨t, ht, rfl, hb1⟩
  have B := Lib.hid hb1
  clear hb1 hbig
  obtain ⟨n, hn⟩ : ∃ n, t.size = n := ⟨_, rfl⟩
  have HN := Lib.hid hn
  by_cases hv : Valid n (rd t)
  · have HVR := Lib.hid hv
    have HTX := Lib.hid (txt_rd hn hv)
    obtain ⟨hs, hzs⟩ := hv.mp
    have hn1 := hs.1
    have hn7 := hs.2.1
    have HTT : Hid (txt n (fun k => (rd t k).toNat) = t) := HTX
    generalize (fun k => (rd t k).toNat) = s at hs hzs HTT
    have HS := Lib.hid hs
    have HZ := Lib.hid hzs
    clear hv hs hzs HTX
    go_wp2_with fail
    refine ((readMap_yes t n HN.out _ HVR.out).mono fun _ _ h => h.lstb_).mono ?_
    rintro e w2 ⟨A2, c2, rfl, o2, b2⟩
    replace B := Lib.hid (below_more B.out b2)
    have O2 := Lib.hid o2.viewL
    clear o2 b2
    go_wp2_with fail
    refine ((sReadMap_yes t n HN.out _ (by omega) HVR.out).mono fun _ _ h => h.lstb_).mono ?_
    rintro e w3 ⟨A3, c3, rfl, o3, b3⟩
    replace B := Lib.hid (below_more B.out b3)
    replace O2 := Lib.hid (O2.out.below b3)
    have O3 := Lib.hid o3.viewL
    clear o3 b3
    go_wp2_with fail
    refine (sameInts_yes _ _ n _ _ (rd t) _ O2.out O3.out (by omega)).mono ?_
    rintro e w4 ⟨rfl, b4⟩
    replace B := Lib.hid (below_more B.out b4)
    replace O2 := Lib.hid (O2.out.below b4)
    clear b4 O3
    go_wp2_with fail
    refine (mapOk_yes _ _ _ _ _ O2.out HVR.out).mono ?_
    rintro e w_ ⟨rfl, rfl⟩
    have C := mapText_yes _ _ c2 s _ (O2.out.congr HZ.out) HS.out
    rw [HTT.out] at C
    have CC := Lib.hid C
    clear C
    go_wp2_with fail
    refine (CC.out).mono ?_
    rintro e w5 ⟨rfl, b5⟩
    replace B := Lib.hid (below_more B.out b5)
    clear b5 CC
    go_wp2
    all_goals go_ret
    all_goals exact ⟨by first | rfl | exact ret_bool (by simp; omega) | exact ret_bool (by simp), B.out⟩
  · have HVR := Lib.hid hv
    clear hv
    go_wp2_with fail
    refine (readMap_no t n HN.out _ HVR.out).mono ?_
    rintro e w2 ⟨A2, c2, rfl, o2, b2⟩
    replace B := Lib.hid (below_more B.out b2)
    have O2 := Lib.hid o2
    clear o2 b2
    go_wp2_with fail
    refine (sReadMap_no t n HN.out _ (by omega) HVR.out).mono ?_
    rintro e w3 ⟨A3, c3, rfl, o3, b3⟩
    replace B := Lib.hid (below_more B.out b3)
    replace O2 := Lib.hid (O2.out.below b3)
    have O3 := Lib.hid o3
    clear o3 b3
    go_wp2_with fail
    refine (sameInts_yes _ _ 0 _ _ (nth []) _ O2.out.view O3.out.view (by omega)).mono ?_
    rintro e w4 ⟨rfl, b4⟩
    replace B := Lib.hid (below_more B.out b4)
    clear b4
    go_wp2_with fail
    refine (alive_any _).mono ?_
    rintro e w5 ⟨rfl, b5⟩
    replace B := Lib.hid (below_more B.out b5)
    clear b5
    go_wp2
    all_goals go_ret
    all_goals exact ⟨by first | rfl | exact ret_bool (by simp; omega) | exact ret_bool (by simp), B.out⟩

end Go.Proofs.Ytanncngbmgopnaa
