/- laws.FnWayFrom answers true. Condition: the code's bounds. -/
import Derived.Test.YtkgafapghdjhlaaDrawWayFrom
import Derived.Test.YtkgafapghdjhlaaAlive
import Derived.Test.YtkgafapghdjhlaaWay
import Derived.Test.YtkgafapghdjhlaaWalked
import Derived.Test.YtkgafapghdjhlaaHasInt
import Derived.Test.YtkgafapghdjhlaaSameInts
import Derived.Test.YtkgafapghdjhlaaRhoD
import Derived.Deep.QuietTactic
import Derived.BigQuiet
import Derived.IntWalk
namespace Go.Proofs.Ytkgafapghdjhlaa
open Go.RowKit
set_option linter.unusedVariables false

theorem View.cut {w : World} {A : Option Addr} {n k : Nat} {p : Nat → Int} (h : View w A n p) (hk : k ≤ n) : View w A k p := fun h0 => by
  obtain ⟨g, off, e, hg, hc⟩ := h (by omega)
  exact ⟨g, off, e, hg, fun j hj => hc j (by omega)⟩

set_option maxHeartbeats 2000000 in
theorem lawWayFrom_walk (A0 : Option Addr) (n0 c0 : Nat) (p0 : Nat → Int) (w : World) (h : Bytes w A0 n0 c0 p0) :
    Calls Try.prog 9 #[.slice A0 n0 c0] w fun e w' => e = .returned (.bool true) ∧ Below w.heap.size w w' := by
  have H := Lib.hid h
  clear h
  by_cases hbig : 1048576 < n0
  · go_enter Try.func9, Try.ntmps9
    go_wp2
    go_ret
    exact ⟨rfl, Below.refl _ _⟩
  go_enter Try.func9, Try.ntmps9
  go_wp2_with fail
  refine (drawWayFrom_any A0 n0 c0 p0 w H.out).mono ?_
  rintro e w1 ⟨A, n, c, zs, x, hn8, rfl, hx1, hx2, how, hb1⟩
  have HV := Lib.hid how.viewL
  have HO := Lib.hid how
  have HB1 := Lib.hid hb1
  clear how hb1 hbig
  by_cases hv : Valid n zs ∧ 0 ≤ x ∧ x < n
  · skip
    obtain ⟨hv, hx0, hxn⟩ := hv
    obtain ⟨X, rfl⟩ : ∃ X : Nat, x = X := ⟨x.toNat, by omega⟩
    have hX : X < n := by omega
    obtain ⟨hs, hzs⟩ := hv.mp
    generalize (fun k => (zs k).toNat) = s at hs hzs
    have HS := Lib.hid hs
    have V := Lib.hid (HV.out.congr hzs)
    have hn1 := hs.1
    have hn7 := hs.2.1
    have HR := Lib.hid (rho_is hs hX)
    have HI := Lib.hid (it_lt hs hX)
    clear hs hzs hv HV HO
    have B := HB1
    clear HB1
    have hle := HR.out.le HS.out hX
    have hlp := HR.out.pos
    generalize (rho s X).1 = t at HR hle
    generalize (rho s X).2 = l at HR hle hlp
    obtain ⟨N, hN⟩ : ∃ N, t + l = N := ⟨_, rfl⟩
    have C1 := fun (w : World) (hV : View w A n (up s)) => (wayFrom_yes A n c X t l s w hV HS.out hX HR.out).mono fun _ _ h => h.lst_
    have C2 := fun (w : World) (hV : View w A n (up s)) => (sWayFrom_yes A n c X t l s w hV HS.out hX HR.out).mono fun _ _ h => h.lst_
    rw [hN] at C1 C2
    have C1 := Lib.hid C1
    have C2 := Lib.hid C2
    have hN1 : 1 ≤ N := by omega
    have hN7 : N ≤ 8 := by omega
    have HINJ : Hid (∀ j k, j < k → k < N → way s X j ≠ way s X k) := Lib.hid (fun j k h1 h2 e => HR.out.2.2 j k h1 (by omega) (Int.ofNat_inj.1 e))
    have HBK : Hid (∃ j, j < N ∧ way s X j = (it s N X : Int)) := Lib.hid ⟨t, by omega, by unfold way; rw [← hN, HR.out.back]⟩
    clear hN hle hlp HR
    go_wp2_with fail
    refine (C1.out _ V.out).mono ?_
    rintro e w2 ⟨A2, c2, rfl, o2, b2⟩
    replace V := Lib.hid (V.out.below b2)
    replace B := Lib.hid (below_more B.out b2)
    have O2 := Lib.hid o2.viewL
    have cap2 := o2.at_ (by omega)
    have K2 : Hid (N ≤ c2) := by
      obtain ⟨g2, rfl, _, _⟩ := cap2
      exact Lib.hid o2.cap
    clear o2 b2
    go_wp2_with fail
    refine (C2.out _ V.out).mono ?_
    rintro e w3 ⟨A3, c3, rfl, o3, b3⟩
    replace V := Lib.hid (V.out.below b3)
    replace B := Lib.hid (below_more B.out b3)
    replace O2 := Lib.hid (O2.out.below b3)
    have O3 := Lib.hid o3.viewL
    clear o3 b3
    have heq : eqF N (way s X) N (way s X) = true := eqF_yes (fun _ _ => rfl)
    go_wp2_with fail
    refine (sameInts_any _ _ _ _ _ _ (way s X) (way s X) _ O2.out O3.out (by omega) (by omega)).mono ?_
    rintro e w4 ⟨rfl, b4⟩
    replace V := Lib.hid (V.out.below b4)
    replace O2 := Lib.hid (O2.out.below b4)
    replace B := Lib.hid (below_more B.out b4)
    clear b4
    clear O3
    have hN0 : ((N : Int) == 0) = false := by simp; omega
    go_wp2
    go_loopw [6] (fun i wr => ∃ k : Nat, k ≤ N ∧ i = .int .i64 k ∧ View wr A n (up s) ∧ View wr A2 N (way s X) ∧ Below w.heap.size w wr) (fun i _ => N - (intOf i).toNat)
    case atStart => exact ⟨0, Nat.zero_le _, rfl, V.out, O2.out, B.out⟩
    case round =>
      obtain ⟨k, hk, rfl, v_, o_, b_⟩ := hrel
      have V := Lib.hid v_
      have B := Lib.hid b_
      clear v_ b_
      have O := Lib.hid o_
      clear o_
      by_cases hlt : k < N
      · obtain ⟨g2, off2, rfl, hg2, hc2⟩ := O.out (by omega)
        have c1 : wr.cell? ⟨g2, off2 + k, none⟩ = some (.int .i64 (it s k X : Int)) := hc2 k hlt
        have K2 := K2.out
        have hh : hasF k (way s X) (it s k X : Int) = false := hasF_no (fun j hj => HINJ.out j k hj hlt)
        have OC := Lib.hid (O.out.cut (k := k) (by omega))
        rcases Nat.eq_zero_or_pos k with rfl | hpos
        · have d1 : wr.cell? ⟨g2, off2, none⟩ = some (.int .i64 (X : Int)) := hc2 0 hlt
          have hh0 : hasF 0 (way s X) (X : Int) = false := hh
          have Q := fun m => quiet_same (hasInt_any (some ⟨g2, off2, none⟩) 0 c2 (way s X) (X : Int) (wr.drewN m) (OC.out.drewN m) (by omega))
          simp only [hh0] at Q
          have QQ := Lib.hid Q
          clear hc2 c1 hh hh0 Q
          go_wp2_with fail
          go_quiet ((go_at_call 42; exact QQ.out _))
          have V9 := Lib.hid (V.out.drewN nq)
          have O9 := Lib.hid (O.out.drewN nq)
          have B9 := Lib.hid (below_drewN B.out nq)
          clear d1 QQ
          go_wp2
          go_roundw
          case rel => exact ⟨0 + 1, by omega, by go_num, V9.out, O9.out, B9.out⟩
          case measure => simp [intOf]; omega
        · obtain ⟨j, rfl⟩ : ∃ j, k = j + 1 := ⟨k - 1, by omega⟩
          have d2 : wr.cell? ⟨g2, off2 + j, none⟩ = some (.int .i64 (it s j X : Int)) := hc2 j (by omega)
          obtain ⟨g, off, rfl, hg, hc⟩ := V.out (by omega)
          have d3 : wr.cell? ⟨g, off + it s j X, none⟩ = some (.int .i64 (it s (j + 1) X : Int)) := hc _ (HI.out j)
          have hij := HI.out j
          have i1 : (j : Int) + 1 ≤ c2 := by omega
          have i2 : (j : Int) + 1 < N := by omega
          have i3 : (0 : Int) ≤ (j : Int) + 1 := by omega
          have i5 : (0 : Int) < (j : Int) + 1 := by omega
          have i6 : IntKind.i64.wrap ((j : Int) + 1 - 1) = (j : Int) := by rw [IntWalk.i64_in _ (by omega)]; omega
          have i4 : ((j : Int) + 1).toNat = j + 1 := by omega
          have Q := fun m => quiet_same (hasInt_any (some ⟨g2, off2, none⟩) (j + 1) c2 (way s X) (it s (j + 1) X : Int) (wr.drewN m) (OC.out.drewN m) (by omega))
          simp only [hh] at Q
          have QQ := Lib.hid Q
          clear hc hc2 hh Q
          go_wp2_with fail
          go_quiet ((go_at_call 42; exact QQ.out _))
          have V9 := Lib.hid (V.out.drewN nq)
          have O9 := Lib.hid (O.out.drewN nq)
          have B9 := Lib.hid (below_drewN B.out nq)
          clear i1 i2 i3 i4 i5 i6 d2 d3 c1 QQ
          go_wp2
          go_roundw
          case rel => exact ⟨j + 1 + 1, by omega, by go_num, V9.out, O9.out, B9.out⟩
          case measure => simp [intOf]; omega
      · obtain rfl : k = N := by omega
        obtain ⟨M, rfl⟩ : ∃ M, k = M + 1 := ⟨k - 1, by omega⟩
        obtain ⟨g2, off2, rfl, hg2, hc2⟩ := O.out (by omega)
        obtain ⟨g, off, rfl, hg, hc⟩ := V.out (by omega)
        have d1 : wr.cell? ⟨g2, off2, none⟩ = some (.int .i64 (X : Int)) := hc2 0 (by omega)
        have d2 : wr.cell? ⟨g2, off2 + M, none⟩ = some (.int .i64 (it s M X : Int)) := hc2 M (by omega)
        have d3 : wr.cell? ⟨g, off + it s M X, none⟩ = some (.int .i64 (it s (M + 1) X : Int)) := hc _ (HI.out M)
        have hiM := HI.out M
        have hh : hasF (M + 1) (way s X) (it s (M + 1) X : Int) = true := by
          obtain ⟨j, hj, e⟩ := HBK.out
          exact hasF_yes hj e
        have Q := hasInt_any (some ⟨g2, off2, none⟩) (M + 1) c2 (way s X) (it s (M + 1) X : Int) wr O.out (by omega)
        simp only [hh] at Q
        have QQ := Lib.hid Q
        clear hc hc2 hh Q
        go_wp2_with fail
        refine (QQ.out).mono ?_
        rintro e w_ ⟨rfl, rfl⟩
        go_wp2
        all_goals go_ret
        all_goals exact ⟨by first | rfl | exact ret_bool (by simp; omega) | exact ret_bool (by simp), B.out⟩
  · skip
    have HA := Lib.hid hv
    have V := HV
    have B := HB1
    clear hv HV HB1
    go_wp2_with fail
    refine (wayFrom_no _ _ _ x zs _ V.out (by omega) HA.out).mono ?_
    rintro e w2 ⟨A2, c2, rfl, o2, b2⟩
    replace V := Lib.hid (V.out.below b2)
    replace B := Lib.hid (below_more B.out b2)
    have O2 := Lib.hid o2
    clear o2
    clear b2
    go_wp2_with fail
    refine (sWayFrom_no _ _ _ x zs _ V.out (by omega) HA.out).mono ?_
    rintro e w3 ⟨A3, c3, rfl, o3, b3⟩
    replace V := Lib.hid (V.out.below b3)
    replace O2 := Lib.hid (O2.out.below b3)
    replace B := Lib.hid (below_more B.out b3)
    have O3 := Lib.hid o3
    clear o3
    clear b3
    go_wp2_with fail
    refine (sameInts_any _ _ 0 0 _ _ (nth []) (nth []) _ O2.out.view O3.out.view (by omega) (by omega)).mono ?_
    rintro e w4 ⟨rfl, b4⟩
    replace V := Lib.hid (V.out.below b4)
    replace B := Lib.hid (below_more B.out b4)
    clear b4
    have heq : eqF 0 (nth []) 0 (nth []) = true := eqF_yes (fun _ _ => rfl)
    go_wp2_with fail
    refine (alive_any _).mono ?_
    rintro e w5 ⟨rfl, b5⟩
    replace V := Lib.hid (V.out.below b5)
    replace B := Lib.hid (below_more B.out b5)
    clear b5
    go_wp2
    all_goals go_ret
    all_goals exact ⟨by first | rfl | exact ret_bool (by simp; omega) | exact ret_bool (by simp), B.out⟩

end Go.Proofs.Ytkgafapghdjhlaa
