/- laws.FnMapText answers true. Condition: the code's bounds. -/
import Derived.Test.YtanncngbmgopnaaDrawMapText
import Derived.Test.YtanncngbmgopnaaAlive
import Derived.Test.YtanncngbmgopnaaMapTxt
import Derived.Test.YtanncngbmgopnaaReadTxt
import Derived.Test.YtanncngbmgopnaaSameInts
import Derived.Test.YtanncngbmgopnaaLstB
namespace Go.Proofs.Ytanncngbmgopnaa
open Go.RowKit
set_option linter.unusedVariables false

/-- A map's text tells its numbers. -/
theorem rd_txt {n k : Nat} {s : Nat → Nat} (hk : k < n) (h : s k < 10) : rd (txt n s) k = (s k : Int) := by
  have h1 : k < (txt n s).size := by rw [txt_size]; exact hk
  rw [← rd_at h1, txt_at s h1 h]
  omega

set_option maxHeartbeats 2000000 in
theorem lawMapText_walk (A0 : Option Addr) (n0 c0 : Nat) (p0 : Nat → Int) (w : World) (h : Bytes w A0 n0 c0 p0) :
    Calls Try.prog 6 #[.slice A0 n0 c0] w fun e w' => e = .returned (.bool true) ∧ Below w.heap.size w w' := by
  have H := Lib.hid h
  clear h
  by_cases hbig : 1048576 < n0
  · go_enter Try.func6, Try.ntmps6
    go_wp2
    go_ret
    exact ⟨rfl, Below.refl _ _⟩
  go_enter Try.func6, Try.ntmps6
  go_wp2_with fail
  refine (drawMapText_any A0 n0 c0 p0 w H.out).mono ?_
  rintro e w1 ⟨A, n, c, zs, hn8, rfl, how, hb1⟩
  have HV := Lib.hid how.viewL
  have HO := Lib.hid how
  have HB1 := Lib.hid hb1
  clear how hb1 hbig
  by_cases hv : Valid n zs
  · skip
    obtain ⟨hs, hzs⟩ := hv.mp
    generalize (fun k => (zs k).toNat) = s at hs hzs
    have HS := Lib.hid hs
    have V := Lib.hid (HV.out.congr hzs)
    have hn1 := hs.1
    have hn7 := hs.2.1
    clear hs hzs hv HV HO
    have B := HB1
    clear HB1
    have HD : Hid (∀ k, k < n → rd (txt n s) k = up s k) := Lib.hid (fun k hk => rd_txt hk (by have := HS.out.lt hk; omega))
    have HVR : Hid (Valid n (rd (txt n s))) := Lib.hid ⟨hn1, hn7, fun k hk => by have := HS.out.lt hk; have h2 := HD.out k hk; simp only [up] at h2; omega⟩
    have HL : Hid (lst n (rd (txt n s)) = lst n (up s)) := Lib.hid (lst_congr HD.out)
    have hts := txt_size n s
    go_wp2_with fail
    refine (mapText_yes _ _ _ s _ V.out HS.out).mono ?_
    rintro e w2 ⟨rfl, b2⟩
    replace V := Lib.hid (V.out.below b2)
    replace B := Lib.hid (below_more B.out b2)
    clear b2
    go_wp2_with fail
    refine (sMapText_yes _ _ _ s _ V.out HS.out).mono ?_
    rintro e w3 ⟨rfl, b3⟩
    replace V := Lib.hid (V.out.below b3)
    replace B := Lib.hid (below_more B.out b3)
    clear b3
    generalize (txt n s) = t at *
    have he : t.toList.isEmpty = false := by
      rw [Lib.toList_data]
      cases h : t.data.toList with
      | nil => have h2 : t.data.toList.length = n := by simpa using hts
               rw [h] at h2; simp at h2; omega
      | cons _ _ => rfl
    go_wp2_with fail
    refine ((readMap_yes t n hts _ HVR.out).mono fun _ _ h => h.lstb_).mono ?_
    rintro e w4 ⟨A4, c4, rfl, o4, b4⟩
    replace V := Lib.hid (V.out.below b4)
    replace B := Lib.hid (below_more B.out b4)
    have O4 := Lib.hid o4.viewL
    clear o4
    clear b4
    have O5 : Hid (View w4 A4 n (up s)) := Lib.hid (O4.out.congr HD.out)
    go_wp2_with fail
    refine (sameInts_yes _ _ n _ _ (up s) _ O5.out V.out (by omega)).mono ?_
    rintro e w6 ⟨rfl, b6⟩
    replace V := Lib.hid (V.out.below b6)
    replace B := Lib.hid (below_more B.out b6)
    clear b6
    go_wp2
    all_goals go_ret
    all_goals exact ⟨by first | rfl | exact ret_bool (by simp; omega) | exact ret_bool (by simp), B.out⟩
  · skip
    have HA := Lib.hid hv
    have V := HV
    have B := HB1
    clear hv HV HB1
    go_wp2_with fail
    refine (mapText_no _ _ _ zs _ V.out (by omega) HA.out).mono ?_
    rintro e w2 ⟨rfl, b2⟩
    replace V := Lib.hid (V.out.below b2)
    replace B := Lib.hid (below_more B.out b2)
    clear b2
    go_wp2_with fail
    refine (sMapText_no _ _ _ zs _ V.out (by omega) HA.out).mono ?_
    rintro e w3 ⟨rfl, b3⟩
    replace V := Lib.hid (V.out.below b3)
    replace B := Lib.hid (below_more B.out b3)
    clear b3
    go_wp2_with fail
    refine (mapOk_no _ _ _ _ _ V.out HA.out (by omega)).mono ?_
    rintro e w_ ⟨rfl, rfl⟩
    go_wp2_with fail
    refine (alive_any _).mono ?_
    rintro e w5 ⟨rfl, b5⟩
    replace V := Lib.hid (V.out.below b5)
    replace B := Lib.hid (below_more B.out b5)
    clear b5
    go_wp2
    all_goals go_ret
    all_goals exact ⟨by first | rfl | exact ret_bool (by simp; omega) | exact ret_bool (by simp), B.out⟩

end Go.Proofs.Ytanncngbmgopnaa
