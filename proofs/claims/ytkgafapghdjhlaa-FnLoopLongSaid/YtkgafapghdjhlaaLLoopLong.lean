/- laws.FnLoopLong answers true. Condition: the code's bounds. -/
import Derived.Test.YtkgafapghdjhlaaDrawLoopLong
import Derived.Test.YtkgafapghdjhlaaAlive
import Derived.Test.YtkgafapghdjhlaaLoopLong
import Derived.Test.YtkgafapghdjhlaaTail
import Derived.Test.YtkgafapghdjhlaaRhoD
namespace Go.Proofs.Ytkgafapghdjhlaa
open Go.RowKit
set_option linter.unusedVariables false

set_option maxHeartbeats 1000000 in
theorem lawLoopLong_walk (A0 : Option Addr) (n0 c0 : Nat) (p0 : Nat → Int) (w : World) (h : Bytes w A0 n0 c0 p0) :
    Calls Try.prog 14 #[.slice A0 n0 c0] w fun e w' => e = .returned (.bool true) ∧ Below w.heap.size w w' := by
  have H := Lib.hid h
  clear h
  by_cases hbig : 1048576 < n0
  · go_enter Try.func14, Try.ntmps14
    go_wp2
    go_ret
    exact ⟨rfl, Below.refl _ _⟩
  go_enter Try.func14, Try.ntmps14
  go_wp2_with fail
  refine (drawLoopLong_any A0 n0 c0 p0 w H.out).mono ?_
  rintro e w1 ⟨A, n, c, zs, x, hn8, rfl, hx1, hx2, how, hb1⟩
  have HV := Lib.hid how.viewL
  have HO := Lib.hid how
  have HB1 := Lib.hid hb1
  clear how hb1 hbig
  by_cases hv : Valid n zs ∧ 0 ≤ x ∧ x < n
  · skip
    obtain ⟨hv, hx0, hxn⟩ := hv
    obtain ⟨X, rfl⟩ : ∃ X : Nat, x = X := ⟨x.toNat, by omega⟩
    have hX : X < n := by omega
    obtain ⟨hs, hzs⟩ := hv.mp
    generalize (fun k => (zs k).toNat) = s at hs hzs
    have HS := Lib.hid hs
    have V := Lib.hid (HV.out.congr hzs)
    have hn1 := hs.1
    have hn7 := hs.2.1
    have HR := Lib.hid (rho_is hs hX)
    have HI := Lib.hid (it_lt hs hX)
    clear hs hzs hv HV HO
    have B := HB1
    clear HB1
    have hle := HR.out.le HS.out hX
    have hlp := HR.out.pos
    generalize (rho s X).1 = t at HR hle
    generalize (rho s X).2 = l at HR hle hlp
    go_wp2_with fail
    refine (loopLong_yes _ _ _ X t l s _ V.out HS.out hX HR.out).mono ?_
    rintro e w2 ⟨rfl, b2⟩
    replace V := Lib.hid (V.out.below b2)
    replace B := Lib.hid (below_more B.out b2)
    clear b2
    go_wp2_with fail
    refine (sLoopLong_yes _ _ _ X t l s _ V.out HS.out hX HR.out).mono ?_
    rintro e w3 ⟨rfl, b3⟩
    replace V := Lib.hid (V.out.below b3)
    replace B := Lib.hid (below_more B.out b3)
    clear b3
    go_wp2
    go_loopw [6, 7] (fun a i wr => ∃ k : Nat, k ≤ t ∧ a = .int .i64 (it s k X : Int) ∧ i = .int .i64 k ∧ View wr A n (up s) ∧ Below w.heap.size w wr) (fun _ i _ => t - (intOf i).toNat)
    case atStart => exact ⟨0, Nat.zero_le _, rfl, rfl, V.out, B.out⟩
    case round =>
      obtain ⟨k, hk, rfl, rfl, v_, b_⟩ := hrel
      have V := Lib.hid v_
      have B := Lib.hid b_
      clear v_ b_
      go_wp2_with fail
      refine (tailOf_yes _ _ _ X t l s _ V.out HS.out hX HR.out).mono ?_
      rintro e w4 ⟨rfl, b4⟩
      replace V := Lib.hid (V.out.below b4)
      replace B := Lib.hid (below_more B.out b4)
      clear b4
      have hik := HI.out k
      obtain ⟨g, off, rfl, hg, hc⟩ := V.out (by omega)
      have c1 : w4.cell? ⟨g, off + it s k X, none⟩ = some (.int .i64 (it s (k + 1) X : Int)) := hc _ hik
      clear hc
      by_cases hlt : k < t
      · go_wp2
        go_roundw
        case rel => exact ⟨k + 1, by omega, rfl, by go_num, V.out, B.out⟩
        case measure => simp [intOf]; omega
      · obtain rfl : k = t := by omega
        go_wp2
        go_loopw [8, 9] (fun a i wr => ∃ j : Nat, 1 ≤ j ∧ j ≤ l ∧ a = .int .i64 (it s (k + j) X : Int) ∧ i = .int .i64 j ∧ View wr (some ⟨g, off, none⟩) n (up s) ∧ Below w.heap.size w wr) (fun _ i _ => l - (intOf i).toNat)
        case atStart => exact ⟨1, Nat.le_refl _, hlp, rfl, rfl, V.out, B.out⟩
        case round =>
          obtain ⟨j, hj1, hj, rfl, rfl, v_, b_⟩ := hrel
          have V := Lib.hid v_
          have B := Lib.hid b_
          clear v_ b_
          by_cases hlt2 : j < l
          · have hb : ((it s (k + j) X : Int) == (it s k X : Int)) = false := by
              simp
              intro e
              have := HR.out.inj (by omega) (by omega) (Int.ofNat_inj.1 e)
              omega
            have hij := HI.out (k + j)
            obtain ⟨g2, off2, e2, hg2, hc⟩ := V.out (by omega)
            injection e2 with e2
            injection e2 with e2 e3 _
            subst e2 e3
            have c2 := hc _ hij
            have c3 : up s (it s (k + j) X) = (it s (k + (j + 1)) X : Int) := rfl
            rw [c3] at c2
            clear hc c3 c1
            go_wp2
            go_roundw
            case rel => exact ⟨j + 1, by omega, by omega, rfl, by go_num, V.out, B.out⟩
            case measure => simp [intOf]; omega
          · obtain rfl : j = l := by omega
            have hb : ((it s (k + j) X : Int) == (it s k X : Int)) = true := by
              rw [HR.out.back]; simp
            go_wp2
            go_ret
            exact ⟨by first | rfl | exact ret_bool (by simp; omega) | exact ret_bool (by simp), B.out⟩
  · skip
    have HA := Lib.hid hv
    have V := HV
    have B := HB1
    clear hv HV HB1
    go_wp2_with fail
    refine (loopLong_no _ _ _ x zs _ V.out (by omega) HA.out).mono ?_
    rintro e w2 ⟨rfl, b2⟩
    replace V := Lib.hid (V.out.below b2)
    replace B := Lib.hid (below_more B.out b2)
    clear b2
    go_wp2_with fail
    refine (sLoopLong_no _ _ _ x zs _ V.out (by omega) HA.out).mono ?_
    rintro e w3 ⟨rfl, b3⟩
    replace V := Lib.hid (V.out.below b3)
    replace B := Lib.hid (below_more B.out b3)
    clear b3
    go_wp2_with fail
    refine (alive_any _).mono ?_
    rintro e w4 ⟨rfl, b4⟩
    replace V := Lib.hid (V.out.below b4)
    replace B := Lib.hid (below_more B.out b4)
    clear b4
    go_wp2
    go_ret
    exact ⟨by first | rfl | exact ret_bool (by simp; omega) | exact ret_bool (by simp), B.out⟩

end Go.Proofs.Ytkgafapghdjhlaa
