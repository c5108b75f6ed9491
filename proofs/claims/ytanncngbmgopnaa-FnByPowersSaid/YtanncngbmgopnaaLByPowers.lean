/- laws.FnByPowers answers true. Condition: the code's bounds. -/
import Derived.Test.YtanncngbmgopnaaDrawByPowers
import Derived.Test.YtanncngbmgopnaaAlive
import Derived.Test.YtanncngbmgopnaaByPowers
import Derived.Test.YtanncngbmgopnaaByTwo
import Derived.Test.YtanncngbmgopnaaRhoD
namespace Go.Proofs.Ytanncngbmgopnaa
open Go.RowKit
set_option linter.unusedVariables false

set_option maxHeartbeats 2000000 in
theorem lawByPowers_walk (A0 : Option Addr) (n0 c0 : Nat) (p0 : Nat → Int) (w : World) (h : Bytes w A0 n0 c0 p0) :
    Calls Try.prog 11 #[.slice A0 n0 c0] w fun e w' => e = .returned (.bool true) ∧ Below w.heap.size w w' := by
  have H := Lib.hid h
  clear h
  by_cases hbig : 1048576 < n0
  · go_enter Try.func11, Try.ntmps11
    go_wp2
    go_ret
    exact ⟨rfl, Below.refl _ _⟩
  go_enter Try.func11, Try.ntmps11
  go_wp2_with fail
  refine (drawByPowers_any A0 n0 c0 p0 w H.out).mono ?_
  rintro e w1 ⟨A, n, c, zs, x, hn8, rfl, hx1, hx2, how, hb1⟩
  have HV := Lib.hid how.viewL
  have HO := Lib.hid how
  have HB1 := Lib.hid hb1
  clear how hb1 hbig
  by_cases hv : Valid n zs ∧ 0 ≤ x ∧ x < n
  · skip
    obtain ⟨hv, hx0, hxn⟩ := hv
    obtain ⟨X, rfl⟩ : ∃ X : Nat, x = X := ⟨x.toNat, by omega⟩
    have hX : X < n := by omega
    obtain ⟨hs, hzs⟩ := hv.mp
    generalize (fun k => (zs k).toNat) = s at hs hzs
    have HS := Lib.hid hs
    have V := Lib.hid (HV.out.congr hzs)
    have hn1 := hs.1
    have hn7 := hs.2.1
    have HR := Lib.hid (rho_is hs hX)
    have HI := Lib.hid (it_lt hs hX)
    clear hs hzs hv HV HO
    have B := HB1
    clear HB1
    have hle := HR.out.le HS.out hX
    have hlp := HR.out.pos
    generalize (rho s X).1 = t at HR hle
    generalize (rho s X).2 = l at HR hle hlp
    obtain ⟨m, _, hm⟩ := meet_ex HR.out
    have HM := Lib.hid hm
    obtain ⟨P, hP⟩ := pow_ex hle hn7 HR.out
    have HP := Lib.hid hP
    have hP1 : 1 ≤ P := by have := hP.1; unfold Two at this; omega
    clear hm hP
    obtain ⟨ak, hak⟩ : ∃ ak : Nat, ((P : Int) - 1 + 2 * l + 2 * t) = ak := ⟨P - 1 + 2 * l + 2 * t, by omega⟩
    obtain ⟨bk, hbk⟩ : ∃ bk : Nat, (3 * (m : Int) + 2 * t + l) = bk := ⟨3 * m + 2 * t + l, by omega⟩
    have C1 := fun (w : World) (hV : View w A n (up s)) => byPowers_yes A n c X t l P s w hV HS.out hX HR.out HP.out
    have C2 := fun (w : World) (hV : View w A n (up s)) => sByPowers_yes A n c X t l P s w hV HS.out hX HR.out HP.out
    have C3 := fun (w : World) (hV : View w A n (up s)) => byTwo_yes A n c X t l m s w hV HS.out hX HR.out HM.out
    rw [hak] at C1 C2
    rw [hbk] at C3
    have C1 := Lib.hid C1
    have C2 := Lib.hid C2
    have C3 := Lib.hid C3
    clear hak hbk
    go_wp2_with fail
    refine (C1.out _ V.out).mono ?_
    rintro e w2 ⟨rfl, b2⟩
    replace V := Lib.hid (V.out.below b2)
    replace B := Lib.hid (below_more B.out b2)
    clear b2
    have b2 := (Below.refl w2.heap.size w2).alloc (Nat.le_refl _) (.cells #[.int .i64 t, .int .i64 l, .int .i64 ak] 41)
    have f2 := Bk.new w2 #[.int .i64 t, .int .i64 l, .int .i64 ak] 41
    replace V := Lib.hid (V.out.below b2)
    replace B := Lib.hid (below_more B.out b2)
    have F2 := Lib.hid f2
    have hF := f2.lt
    clear b2 f2
    go_wp2_with fail
    refine (C2.out _ V.out).mono ?_
    rintro e w3 ⟨rfl, b3⟩
    have hF3 := Nat.lt_of_lt_of_le hF b3.size
    have f3 := F2.out.below b3
    have b4 := (Below.refl w3.heap.size w3).alloc (Nat.le_refl _) (.cells #[.int .i64 t, .int .i64 l, .int .i64 ak] 41)
    have f4 := f3.below b4
    replace V := Lib.hid ((V.out.below b3).below b4)
    replace B := Lib.hid (below_more (below_more B.out b3) b4)
    have g0 : w3.cell? ⟨w2.heap.size, 0, none⟩ = some (.int .i64 t) := f3.cell 0
    have g1 : w3.cell? ⟨w2.heap.size, 1, none⟩ = some (.int .i64 l) := f3.cell 1
    have g2 : w3.cell? ⟨w2.heap.size, 2, none⟩ = some (.int .i64 ak) := f3.cell 2
    have F4 := Lib.hid f4
    clear b3 b4 f3 f4 hF
    go_wp2_with fail
    clear g0 g1 g2
    generalize w3.alloc (.cells #[.int .i64 t, .int .i64 l, .int .i64 ak] 41) = w4 at F4 V B ⊢
    refine (C3.out _ V.out).mono ?_
    rintro e w5 ⟨rfl, b5⟩
    have f5 := F4.out.below b5
    have hF5 := f5.lt
    have b6 := (Below.refl w5.heap.size w5).alloc (Nat.le_refl _) (.cells #[.int .i64 t, .int .i64 l, .int .i64 bk] 41)
    replace B := Lib.hid (below_more (below_more B.out b5) b6)
    have g0 : w5.cell? ⟨w2.heap.size, 0, none⟩ = some (.int .i64 t) := f5.cell 0
    have g1 : w5.cell? ⟨w2.heap.size, 1, none⟩ = some (.int .i64 l) := f5.cell 1
    have g2 : w5.cell? ⟨w2.heap.size, 2, none⟩ = some (.int .i64 ak) := f5.cell 2
    clear b5 b6 f5
    go_wp2
    all_goals go_ret
    all_goals exact ⟨by first | rfl | exact ret_bool (by simp; omega) | exact ret_bool (by simp), B.out⟩
  · skip
    have HA := Lib.hid hv
    have V := HV
    have B := HB1
    clear hv HV HB1
    go_wp2_with fail
    refine (byPowers_no _ _ _ x zs _ V.out (by omega) HA.out).mono ?_
    rintro e w2 ⟨rfl, b2⟩
    replace V := Lib.hid (V.out.below b2)
    replace B := Lib.hid (below_more B.out b2)
    clear b2
    have b2 := (Below.refl w2.heap.size w2).alloc (Nat.le_refl _) (.cells #[.int .i64 0, .int .i64 0, .int .i64 0] 41)
    have f2 := Bk.new w2 #[.int .i64 0, .int .i64 0, .int .i64 0] 41
    replace V := Lib.hid (V.out.below b2)
    replace B := Lib.hid (below_more B.out b2)
    have F2 := Lib.hid f2
    have hF := f2.lt
    clear b2 f2
    go_wp2_with fail
    refine (sByPowers_no _ _ _ x zs _ V.out (by omega) HA.out).mono ?_
    rintro e w3 ⟨rfl, b3⟩
    have hF3 := Nat.lt_of_lt_of_le hF b3.size
    have f3 := F2.out.below b3
    have b4 := (Below.refl w3.heap.size w3).alloc (Nat.le_refl _) (.cells #[.int .i64 0, .int .i64 0, .int .i64 0] 41)
    replace B := Lib.hid (below_more (below_more B.out b3) b4)
    have g0 : w3.cell? ⟨w2.heap.size, 0, none⟩ = some (.int .i64 0) := f3.cell 0
    have g1 : w3.cell? ⟨w2.heap.size, 1, none⟩ = some (.int .i64 0) := f3.cell 1
    have g2 : w3.cell? ⟨w2.heap.size, 2, none⟩ = some (.int .i64 0) := f3.cell 2
    clear b3 b4 f3 hF
    go_wp2_with fail
    refine (alive_any _).mono ?_
    rintro e w5 ⟨rfl, b5⟩
    replace B := Lib.hid (below_more B.out b5)
    clear b5
    go_wp2
    all_goals go_ret
    all_goals exact ⟨by first | rfl | exact ret_bool (by simp; omega) | exact ret_bool (by simp), B.out⟩

end Go.Proofs.Ytanncngbmgopnaa
