/- laws.FnIdempotentOk answers true. Condition: the code's bounds. -/
import Derived.Test.YtanncngbmgopnaaDrawIdempotentOk
import Derived.Test.YtanncngbmgopnaaAlive
import Derived.Test.YtanncngbmgopnaaLstB
import Derived.Test.YtanncngbmgopnaaImageD
import Derived.Test.YtanncngbmgopnaaImageSpec
import Derived.Test.YtanncngbmgopnaaIdem
import Derived.Test.YtanncngbmgopnaaSameOf
import Derived.Test.YtanncngbmgopnaaOkSpec
import Derived.Test.YtanncngbmgopnaaHasL
import Derived.Deep.QuietTactic
import Derived.BigQuiet
namespace Go.Proofs.Ytanncngbmgopnaa
open Go.RowKit
set_option linter.unusedVariables false

theorem img_at {s : Nat → Nat} {n N k : Nat} (hN : (imgTo s n n).length = N) (hk : k < N) : ∃ v j, v < n ∧ nth (imgTo s n n) k = (v : Int) ∧ j < n ∧ s j = v := by
  have hm : nth (imgTo s n n) k ∈ imgTo s n n := by
    unfold nth
    rw [List.getD_eq_getElem?_getD, List.getElem?_eq_getElem (by omega)]
    exact List.getElem_mem _
  obtain ⟨v, hv, e, j, hj, e2⟩ := (mem_imgTo s n _ n).1 hm
  exact ⟨v, j, hv, e, hj, e2⟩
theorem at_img {s : Nat → Nat} {n N j : Nat} (hN : (imgTo s n n).length = N) (hj : j < n) (hs : s j < n) : ∃ k, k < N ∧ nth (imgTo s n n) k = (s j : Int) := by
  have hm : (s j : Int) ∈ imgTo s n n := (mem_imgTo s n _ n).2 ⟨s j, hs, rfl, j, hj, rfl⟩
  obtain ⟨k, hk, e⟩ := List.getElem_of_mem hm
  refine ⟨k, by omega, ?_⟩
  unfold nth
  rw [List.getD_eq_getElem?_getD, List.getElem?_eq_getElem hk]
  exact e
theorem mp_self {n : Nat} (h1 : 1 ≤ n) (h7 : n ≤ 7) : Mp n (fun k => k) := ⟨h1, h7, fun k hk => hk⟩
/-- Where b holds, the first k things of the image are led to themselves. -/
def AllFix (s : Nat → Nat) (n k : Nat) (b : Bool) : Prop := b = true → ∀ i, i < k → ∃ v : Nat, nth (imgTo s n n) i = (v : Int) ∧ s v = v
theorem allFix_false (s : Nat → Nat) (n k : Nat) : AllFix s n k false := fun h => by cases h
theorem AllFix.succ {s : Nat → Nat} {n k v : Nat} (h : AllFix s n k true) (e : nth (imgTo s n n) k = (v : Int)) (hv : s v = v) : AllFix s n (k + 1) true := fun _ i hi => by
  rcases Nat.lt_succ_iff_lt_or_eq.1 hi with h1 | rfl
  · exact h rfl i h1
  · exact ⟨v, e, hv⟩
theorem AllFix.twice {s : Nat → Nat} {n N : Nat} (h : AllFix s n N true) (hq : ∀ j, j < n → ∃ k, k < N ∧ nth (imgTo s n n) k = (s j : Int)) : Twice n s := fun j hj => by
  obtain ⟨k, hk, e⟩ := hq j hj
  obtain ⟨v, e2, hv⟩ := h rfl k hk
  have : v = s j := by omega
  rw [← this]; exact hv

set_option maxHeartbeats 2000000 in
theorem lawIdempotentOk_walk (A0 : Option Addr) (n0 c0 : Nat) (p0 : Nat → Int) (w : World) (h : Bytes w A0 n0 c0 p0) :
    Calls Try.prog 10 #[.slice A0 n0 c0] w fun e w' => e = .returned (.bool true) ∧ Below w.heap.size w w' := by
  have H := Lib.hid h
  clear h
  by_cases hbig : 1048576 < n0
  · go_enter Try.func10, Try.ntmps10
    go_wp2
    go_ret
    exact ⟨rfl, Below.refl _ _⟩
  go_enter Try.func10, Try.ntmps10
  go_wp2_with fail
  refine (drawIdempotentOk_any A0 n0 c0 p0 w H.out).mono ?_
  rintro e w1 ⟨A, n, c, zs, hn8, rfl, how, hb1⟩
  have HV := Lib.hid how.viewL
  have HO := Lib.hid how
  have HB1 := Lib.hid hb1
  clear how hb1 hbig
  by_cases hv : Valid n zs
  · skip
    obtain ⟨hs, hzs⟩ := hv.mp
    generalize (fun k => (zs k).toNat) = s at hs hzs
    have HS := Lib.hid hs
    have V := Lib.hid (HV.out.congr hzs)
    have hn1 := hs.1
    have hn7 := hs.2.1
    clear hs hzs hv HV HO
    have B := HB1
    clear HB1
    have hle := length_imgTo s n n
    obtain ⟨N, hN⟩ : ∃ N, (imgTo s n n).length = N := ⟨_, rfl⟩
    have HN := Lib.hid hN
    rw [hN] at hle
    have HP := Lib.hid (fun k hk => img_at (k := k) hN hk)
    have HQ := Lib.hid (fun j hj => at_img (j := j) hN hj (HS.out.lt hj))
    clear hN
    have HSF := Lib.hid (idemB_yes (n := n) (s := fun k => k) (fun _ _ => rfl))
    by_cases ht : Twice n s
    · have HT := Lib.hid ht
      have ci := fun (w : World) (hV : View w A n (up s)) => idem_yes A n c s w hV HS.out
      rw [idemB_yes ht] at ci
      have CI := Lib.hid ci
      clear ht ci
      go_wp2_with fail
      refine (CI.out _ V.out).mono ?_
      rintro e w2 ⟨rfl, b2⟩
      replace V := Lib.hid (V.out.below b2)
      replace B := Lib.hid (below_more B.out b2)
      clear b2
      go_wp2_with fail
      refine (sIdem_yes _ _ _ _ _ V.out HS.out HT.out).mono ?_
      rintro e w3 ⟨rfl, b3⟩
      replace V := Lib.hid (V.out.below b3)
      replace B := Lib.hid (below_more B.out b3)
      clear b3
      go_wp2_with fail
      refine (sMapOk_yes _ _ _ _ _ V.out HS.out.valid).mono ?_
      rintro e w_ ⟨rfl, rfl⟩
      go_wp2_with fail
      refine ((sImageOf_yes _ _ _ s _ V.out HS.out).mono fun _ _ h => h.len_ (HN.out)).mono ?_
      rintro e w4 ⟨A4, c4, rfl, o4, b4⟩
      replace V := Lib.hid (V.out.below b4)
      replace B := Lib.hid (below_more B.out b4)
      have O4 := Lib.hid o4
      clear o4
      clear b4
      go_wp2
      go_loopw [5, 7] (fun a i wr => ∃ k : Nat, k ≤ N ∧ i = .int .i64 k ∧ a = .bool true ∧ View wr A n (up s) ∧ View wr A4 N (nth (imgTo s n n)) ∧ Below w.heap.size w wr) (fun _ i _ => N - (intOf i).toNat)
      case atStart => exact ⟨0, Nat.zero_le _, rfl, rfl, V.out, O4.out.view, B.out⟩
      case round =>
        obtain ⟨k, hk, rfl, rfl, v_, o_, b_⟩ := hrel
        have V := Lib.hid v_
        have B := Lib.hid b_
        clear v_ b_
        have O := Lib.hid o_
        clear o_
        by_cases hlt : k < N
        · obtain ⟨v, j, hv, e1, hj, e2⟩ := HP.out k hlt
          obtain ⟨g, off, rfl, hg, hc⟩ := V.out (by omega)
          obtain ⟨g2, off2, rfl, hg2, hc2⟩ := O.out (by omega)
          have d2 : wr.cell? ⟨g2, off2 + k, none⟩ = some (.int .i64 (v : Int)) := by rw [hc2 k hlt, e1]
          have e3 : s v = v := by rw [← e2]; exact HT.out j hj
          have d1 : wr.cell? ⟨g, off + v, none⟩ = some (.int .i64 (v : Int)) := by rw [hc v hv]; simp only [up, e3]
          clear hc hc2 e1 e2 e3
          have e0 : ((v : Int) == (v : Int)) = true := by simp
          go_wp2_with fail
          go_quiet (fail)
          replace V := Lib.hid (V.out.drewN nq)
          replace O := Lib.hid (O.out.drewN nq)
          replace B := Lib.hid (below_drewN B.out nq)
          go_wp2
          go_roundw
          case rel => exact ⟨k + 1, by omega, by go_num, rfl, V.out, O.out, B.out⟩
          case measure => simp [intOf]; omega
        · obtain rfl : k = N := by omega
          go_wp2_with fail
          refine (sameOf_yes n _ hn1 hn7).mono ?_
          rintro e w7 ⟨rfl, o7, b7⟩
          have O7 := Lib.hid o7.viewL
          replace V := Lib.hid (V.out.below b7)
          replace B := Lib.hid (below_more B.out b7)
          clear b7 o7
          have ci := fun (w : World) (A : Option Addr) (c : Nat) (hV : View w A n self) => idem_yes A n c (fun k => k) w hV (mp_self hn1 hn7)
          rw [HSF.out] at ci
          have CI := Lib.hid ci
          clear ci
          go_wp2_with fail
          refine (CI.out _ _ _ O7.out).mono ?_
          rintro e w8 ⟨rfl, b8⟩
          replace V := Lib.hid (V.out.below b8)
          replace B := Lib.hid (below_more B.out b8)
          clear b8
          go_wp2
          all_goals go_ret
          all_goals exact ⟨by first | rfl | exact ret_bool (by simp; omega) | exact ret_bool (by simp), B.out⟩
    · have HT := Lib.hid ht
      have ci := fun (w : World) (hV : View w A n (up s)) => idem_yes A n c s w hV HS.out
      rw [idemB_no ht] at ci
      have CI := Lib.hid ci
      clear ht ci
      go_wp2_with fail
      refine (CI.out _ V.out).mono ?_
      rintro e w2 ⟨rfl, b2⟩
      replace V := Lib.hid (V.out.below b2)
      replace B := Lib.hid (below_more B.out b2)
      clear b2
      go_wp2_with fail
      refine (sIdem_other _ _ _ _ _ V.out HS.out HT.out).mono ?_
      rintro e w3 ⟨rfl, b3⟩
      replace V := Lib.hid (V.out.below b3)
      replace B := Lib.hid (below_more B.out b3)
      clear b3
      go_wp2_with fail
      refine (sMapOk_yes _ _ _ _ _ V.out HS.out.valid).mono ?_
      rintro e w_ ⟨rfl, rfl⟩
      go_wp2_with fail
      refine ((sImageOf_yes _ _ _ s _ V.out HS.out).mono fun _ _ h => h.len_ (HN.out)).mono ?_
      rintro e w4 ⟨A4, c4, rfl, o4, b4⟩
      replace V := Lib.hid (V.out.below b4)
      replace B := Lib.hid (below_more B.out b4)
      have O4 := Lib.hid o4
      clear o4
      clear b4
      go_wp2
      go_loopw [5, 7] (fun a i wr => ∃ (k : Nat) (b : Bool), k ≤ N ∧ i = .int .i64 k ∧ a = .bool b ∧ AllFix s n k b ∧ View wr A n (up s) ∧ View wr A4 N (nth (imgTo s n n)) ∧ Below w.heap.size w wr) (fun _ i _ => N - (intOf i).toNat)
      case atStart => exact ⟨0, true, Nat.zero_le _, rfl, rfl, fun _ i h => absurd h (by omega), V.out, O4.out.view, B.out⟩
      case round =>
        obtain ⟨k, b, hk, rfl, rfl, f_, v_, o_, b_⟩ := hrel
        have V := Lib.hid v_
        have B := Lib.hid b_
        clear v_ b_
        have O := Lib.hid o_
        have F := Lib.hid f_
        clear o_ f_
        by_cases hlt : k < N
        · obtain ⟨v, j, hv, e1, hj, e2⟩ := HP.out k hlt
          obtain ⟨g, off, rfl, hg, hc⟩ := V.out (by omega)
          obtain ⟨g2, off2, rfl, hg2, hc2⟩ := O.out (by omega)
          have d2 : wr.cell? ⟨g2, off2 + k, none⟩ = some (.int .i64 (v : Int)) := by rw [hc2 k hlt, e1]
          have d1 : wr.cell? ⟨g, off + v, none⟩ = some (.int .i64 (s v : Int)) := hc v hv
          have E1 := Lib.hid e1
          clear hc hc2 e1 e2
          cases b
          · have F2 := Lib.hid (allFix_false s n (k + 1))
            go_wp2_with fail
            go_quiet (fail)
            replace V := Lib.hid (V.out.drewN nq)
            replace O := Lib.hid (O.out.drewN nq)
            replace B := Lib.hid (below_drewN B.out nq)
            go_wp2
            go_roundw
            case rel => exact ⟨k + 1, false, by omega, by go_num, rfl, F2.out, V.out, O.out, B.out⟩
            case measure => simp [intOf]; omega
          · by_cases he : s v = v
            · have e0 : ((s v : Int) == (v : Int)) = true := by simp [he]
              have F2 := Lib.hid (F.out.succ E1.out he)
              clear he
              go_wp2_with fail
              go_quiet (fail)
              replace V := Lib.hid (V.out.drewN nq)
              replace O := Lib.hid (O.out.drewN nq)
              replace B := Lib.hid (below_drewN B.out nq)
              clear e0
              go_wp2
              go_roundw
              case rel => exact ⟨k + 1, true, by omega, by go_num, rfl, F2.out, V.out, O.out, B.out⟩
              case measure => simp [intOf]; omega
            · have e0 : ((s v : Int) == (v : Int)) = false := by simp; omega
              have F2 := Lib.hid (allFix_false s n (k + 1))
              clear he
              go_wp2_with fail
              go_quiet (fail)
              replace V := Lib.hid (V.out.drewN nq)
              replace O := Lib.hid (O.out.drewN nq)
              replace B := Lib.hid (below_drewN B.out nq)
              clear e0
              go_wp2
              go_roundw
              case rel => exact ⟨k + 1, false, by omega, by go_num, rfl, F2.out, V.out, O.out, B.out⟩
              case measure => simp [intOf]; omega
        · obtain rfl : k = N := by omega
          cases b
          · clear F
            go_wp2_with fail
            refine (sameOf_yes n _ hn1 hn7).mono ?_
            rintro e w7 ⟨rfl, o7, b7⟩
            have O7 := Lib.hid o7.viewL
            replace V := Lib.hid (V.out.below b7)
            replace B := Lib.hid (below_more B.out b7)
            clear b7 o7
            have ci := fun (w : World) (A : Option Addr) (c : Nat) (hV : View w A n self) => idem_yes A n c (fun k => k) w hV (mp_self hn1 hn7)
            rw [HSF.out] at ci
            have CI := Lib.hid ci
            clear ci
            go_wp2_with fail
            refine (CI.out _ _ _ O7.out).mono ?_
            rintro e w8 ⟨rfl, b8⟩
            replace V := Lib.hid (V.out.below b8)
            replace B := Lib.hid (below_more B.out b8)
            clear b8
            go_wp2
            all_goals go_ret
            all_goals exact ⟨by first | rfl | exact ret_bool (by simp; omega) | exact ret_bool (by simp), B.out⟩
          · exact absurd (F.out.twice HQ.out) HT.out
  · skip
    have HA := Lib.hid hv
    have V := HV
    have B := HB1
    clear hv HV HB1
    go_wp2_with fail
    refine (idem_no _ _ _ zs _ V.out HA.out (by omega)).mono ?_
    rintro e w2 ⟨rfl, b2⟩
    replace V := Lib.hid (V.out.below b2)
    replace B := Lib.hid (below_more B.out b2)
    clear b2
    go_wp2_with fail
    refine (sIdem_no _ _ _ zs _ V.out HA.out (by omega)).mono ?_
    rintro e w3 ⟨rfl, b3⟩
    replace V := Lib.hid (V.out.below b3)
    replace B := Lib.hid (below_more B.out b3)
    clear b3
    go_wp2_with fail
    refine (sMapOk_no _ _ _ _ _ V.out HA.out (by omega)).mono ?_
    rintro e w_ ⟨rfl, rfl⟩
    go_wp2_with fail
    refine (alive_any _).mono ?_
    rintro e w4 ⟨rfl, b4⟩
    replace V := Lib.hid (V.out.below b4)
    replace B := Lib.hid (below_more B.out b4)
    clear b4
    go_wp2
    all_goals go_ret
    all_goals exact ⟨by first | rfl | exact ret_bool (by simp; omega) | exact ret_bool (by simp), B.out⟩

end Go.Proofs.Ytanncngbmgopnaa
