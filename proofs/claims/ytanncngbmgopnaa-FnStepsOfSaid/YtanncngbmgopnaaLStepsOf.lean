/- laws.FnStepsOf answers true. Condition: the code's bounds. -/
import Derived.Test.YtanncngbmgopnaaAlive
import Derived.Test.YtanncngbmgopnaaDrawStepsOf
import Derived.Test.YtanncngbmgopnaaLater
import Derived.Test.YtanncngbmgopnaaSteps
import Derived.Test.YtanncngbmgopnaaTail
import Derived.Test.YtanncngbmgopnaaLoopLongI
import Derived.Test.YtanncngbmgopnaaRhoD
namespace Go.Proofs.Ytanncngbmgopnaa
open Go.RowKit
set_option linter.unusedVariables false

set_option maxHeartbeats 4000000 in
theorem lawStepsOf_walk (A0 : Option Addr) (n0 c0 : Nat) (p0 : Nat → Int) (w : World) (h : Bytes w A0 n0 c0 p0) :
    Calls Try.prog 9 #[.slice A0 n0 c0] w fun e w' => e = .returned (.bool true) ∧ Below w.heap.size w w' := by
  have H := Lib.hid h
  clear h
  by_cases hbig : 1048576 < n0
  · go_enter Try.func9, Try.ntmps9
    go_wp2
    go_ret
    exact ⟨rfl, Below.refl _ _⟩
  go_enter Try.func9, Try.ntmps9
  go_wp2_with fail
  refine (drawStepsOf_any A0 n0 c0 p0 w H.out).mono ?_
  rintro e w1 ⟨A, n, c, zs, x, y, hn8, rfl, hx1, hx2, hy1, hy2, how, hb1⟩
  have HV := Lib.hid how.viewL
  have HB1 := Lib.hid hb1
  have HO := Lib.hid how
  clear how hb1 hbig
  by_cases hv : (Valid n zs ∧ 0 ≤ x ∧ x < n) ∧ 0 ≤ y ∧ y ≤ 1000000
  · obtain ⟨hv, hy0, hym⟩ := hv
    obtain ⟨m, rfl⟩ : ∃ m : Nat, y = m := ⟨y.toNat, by omega⟩
    have hm : m ≤ 1000000 := by omega
    obtain ⟨hv, hx0, hxn⟩ := hv
    obtain ⟨X, rfl⟩ : ∃ X : Nat, x = X := ⟨x.toNat, by omega⟩
    have hX : X < n := by omega
    obtain ⟨hs, hzs⟩ := hv.mp
    generalize (fun k => (zs k).toNat) = s at hs hzs
    have HS := Lib.hid hs
    have V := Lib.hid (HV.out.congr hzs)
    have hn1 := hs.1
    have hn7 := hs.2.1
    have HR := Lib.hid (rho_is hs hX)
    have HI := Lib.hid (it_lt hs hX)
    clear hs hzs hv HV HO
    have B := HB1
    clear HB1
    have hle := HR.out.le HS.out hX
    have hlp := HR.out.pos
    generalize (rho s X).1 = t at HR hle
    generalize (rho s X).2 = l at HR hle hlp
    obtain ⟨Y, hYe⟩ : ∃ Y, it s m X = Y := ⟨_, rfl⟩
    have hY : Y < n := hYe ▸ HI.out m
    have C1 := fun (w : World) (hV : View w A n (up s)) => stepsOf_yes A n c X m t l s w hV HS.out hX hm HR.out
    have C2 := fun (w : World) (hV : View w A n (up s)) => sStepsOf_yes A n c X m t l s w hV HS.out hX hm HR.out
    have C0 : Hid (∀ (w : World), View w A n (up s) → Calls Try.prog 39 #[.slice A n c, .int .i64 X, .int .i64 0] w (RetInt w X)) := Lib.hid fun w hV => stepsOf_yes A n c X 0 t l s w hV HS.out hX (by omega) HR.out
    have CT := Lib.hid fun (w : World) (hV : View w A n (up s)) => tailOf_yes A n c X t l s w hV HS.out hX HR.out
    have CL := Lib.hid fun (w : World) (hV : View w A n (up s)) => loopLong_yes A n c X t l s w hV HS.out hX HR.out
    simp only [hYe] at C1 C2
    have C1 := Lib.hid C1
    have C2 := Lib.hid C2
    go_wp2_with fail
    refine (C1.out _ V.out).mono ?_
    rintro e w2 ⟨rfl, b2⟩
    replace V := Lib.hid (V.out.below b2)
    replace B := Lib.hid (below_more B.out b2)
    clear b2
    go_wp2_with fail
    refine (C2.out _ V.out).mono ?_
    rintro e w3 ⟨rfl, b3⟩
    replace V := Lib.hid (V.out.below b3)
    replace B := Lib.hid (below_more B.out b3)
    clear b3
    go_wp2_with fail
    refine (CL.out _ V.out).mono ?_
    rintro e w4 ⟨rfl, b4⟩
    replace V := Lib.hid (V.out.below b4)
    replace B := Lib.hid (below_more B.out b4)
    clear b4
    obtain ⟨M1, hM1⟩ : ∃ M1, m + 1 = M1 := ⟨_, rfl⟩
    obtain ⟨M2, hM2⟩ : ∃ M2, m + l = M2 := ⟨_, rfl⟩
    have D1 : Hid (m < 1000000 → ∀ (w : World), View w A n (up s) → Calls Try.prog 39 #[.slice A n c, .int .i64 X, .int .i64 M1] w (RetInt w (s Y))) := Lib.hid fun h w hV => by
      subst hM1
      rw [← hYe]
      exact stepsOf_yes A n c X (m + 1) t l s w hV HS.out hX (by omega) HR.out
    have D2 : Hid (t ≤ m → M2 ≤ 1000000 → ∀ (w : World), View w A n (up s) → Calls Try.prog 39 #[.slice A n c, .int .i64 X, .int .i64 M2] w (RetInt w Y)) := Lib.hid fun h h2 w hV => by
      subst hM2
      have e := HR.out.round (m - t)
      rw [show t + (m - t) + l = m + l by omega, show t + (m - t) = m by omega, hYe] at e
      rw [← e]
      exact stepsOf_yes A n c X (m + l) t l s w hV HS.out hX h2 HR.out
    obtain ⟨g2, off2, rfl, hg2, hc2⟩ := V.out (by omega)
    have d1 : w4.cell? ⟨g2, off2 + Y, none⟩ = some (.int .i64 (s Y : Int)) := hc2 Y hY
    have VV := V.out
    have BB := B.out
    have s1 : IntKind.i64.wrap ((m : Int) + 1) = M1 := by rw [← hM1]; exact IntWalk.i64_in _ (by omega)
    have s2 : IntKind.i64.wrap ((m : Int) + l) = M2 := by rw [← hM2]; exact IntWalk.i64_in _ (by omega)
    clear hc2 hYe C1 C2 CL hM1
    go_wp2_with fail
    have lc : ∀ q : Later w4, q.w.cell? ⟨g2, off2 + Y, none⟩ = some (.int .i64 (s Y : Int)) := fun q => q.cell d1
    by_cases ha : m = 1000000
    · have k1 : ((m : Int) == 1000000) = true := by simp; omega
      have k2 : decide (m < t) = false := by simp; omega
      have s3 : IntKind.i64.wrap ((1000000 : Int) + l) = M2 := by rw [← s2, ha]; rfl
      have k3 : decide ((1000000 : Int) < M2) = true := by simp; omega
      replace ha := Lib.hid ha
      refine wp_region_later (by kernel_rfl) (by kernel_rfl) ?_
      repeat (go_big_quiet_step (first
        | (go_at_call 42; with_reducible exact later_int (CT.out _ (Later.view _ VV)))
        | (go_at_call 39; with_reducible exact later_int (C0.out _ (Later.view _ VV)))))
      refine wpQuiet_nil ?_
      rintro _ ⟨q, rfl⟩
      have B9 := Lib.hid (below_more BB q.b)
      clear lc
      go_wp2
      all_goals go_ret
      all_goals exact ⟨rfl, B9.out⟩
    have hlt : m < 1000000 := by omega
    have k1 : ((m : Int) == 1000000) = false := by simp; omega
    by_cases hmt : m < t
    · have k2 : decide ((m : Int) < t) = true := by simp; omega
      refine wp_region_later (by kernel_rfl) (by kernel_rfl) ?_
      repeat (go_big_quiet_step (first
        | (go_at_call 42; with_reducible exact later_int (CT.out _ (Later.view _ VV)))
        | (go_at_call 39; with_reducible exact later_int (C0.out _ (Later.view _ VV)))
        | (go_at_call 39; with_reducible exact later_int (D1.out hlt _ (Later.view _ VV)))))
      refine wpQuiet_nil ?_
      rintro _ ⟨q, rfl⟩
      have B9 := Lib.hid (below_more BB q.b)
      clear lc
      go_wp2
      all_goals go_ret
      all_goals exact ⟨rfl, B9.out⟩
    have htm : t ≤ m := by omega
    have k2 : decide ((m : Int) < t) = false := by simp; omega
    by_cases hM : 1000000 < M2
    · have k3 : decide ((1000000 : Int) < M2) = true := by simp; omega
      refine wp_region_later (by kernel_rfl) (by kernel_rfl) ?_
      repeat (go_big_quiet_step (first
        | (go_at_call 42; with_reducible exact later_int (CT.out _ (Later.view _ VV)))
        | (go_at_call 39; with_reducible exact later_int (C0.out _ (Later.view _ VV)))
        | (go_at_call 39; with_reducible exact later_int (D1.out hlt _ (Later.view _ VV)))))
      refine wpQuiet_nil ?_
      rintro _ ⟨q, rfl⟩
      have B9 := Lib.hid (below_more BB q.b)
      clear lc
      go_wp2
      all_goals go_ret
      all_goals exact ⟨rfl, B9.out⟩
    · replace hM : M2 ≤ 1000000 := by omega
      have k3 : decide ((1000000 : Int) < M2) = false := by simp; omega
      refine wp_region_later (by kernel_rfl) (by kernel_rfl) ?_
      repeat (go_big_quiet_step (first
        | (go_at_call 42; with_reducible exact later_int (CT.out _ (Later.view _ VV)))
        | (go_at_call 39; with_reducible exact later_int (C0.out _ (Later.view _ VV)))
        | (go_at_call 39; with_reducible exact later_int (D1.out hlt _ (Later.view _ VV)))
        | (go_at_call 39; with_reducible exact later_int (D2.out htm hM _ (Later.view _ VV)))))
      refine wpQuiet_nil ?_
      rintro _ ⟨q, rfl⟩
      have B9 := Lib.hid (below_more BB q.b)
      clear lc
      go_wp2
      all_goals go_ret
      all_goals exact ⟨rfl, B9.out⟩
  · skip
    have HA := Lib.hid hv
    have V := HV
    have B := HB1
    clear hv HV HB1
    go_wp2_with fail
    refine (stepsOf_no _ _ _ x y zs _ V.out (by omega) HA.out).mono ?_
    rintro e w2 ⟨rfl, b2⟩
    replace V := Lib.hid (V.out.below b2)
    replace B := Lib.hid (below_more B.out b2)
    clear b2
    go_wp2_with fail
    refine (sStepsOf_no _ _ _ x y zs _ V.out (by omega) HA.out).mono ?_
    rintro e w3 ⟨rfl, b3⟩
    replace V := Lib.hid (V.out.below b3)
    replace B := Lib.hid (below_more B.out b3)
    clear b3
    go_wp2_with fail
    refine (alive_any _).mono ?_
    rintro e w4 ⟨rfl, b4⟩
    replace V := Lib.hid (V.out.below b4)
    replace B := Lib.hid (below_more B.out b4)
    clear b4
    go_wp2
    all_goals go_ret
    all_goals exact ⟨by first | rfl | exact ret_bool (by simp; omega) | exact ret_bool (by simp), B.out⟩

end Go.Proofs.Ytanncngbmgopnaa
