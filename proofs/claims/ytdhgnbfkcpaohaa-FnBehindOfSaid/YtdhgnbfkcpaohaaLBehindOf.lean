/- laws.FnBehindOf answers true. Condition: the codes' bounds. -/
import Derived.Test.YtdhgnbfkcpaohaaL20Two
import Derived.Test.YtdhgnbfkcpaohaaAlive
import Derived.Test.YtdhgnbfkcpaohaaLstB
import Derived.Test.YtdhgnbfkcpaohaaBehindOf
import Derived.Test.YtdhgnbfkcpaohaaSameOf
import Derived.Test.YtdhgnbfkcpaohaaSameInts
import Derived.Test.YtdhgnbfkcpaohaaImageI
import Derived.Test.YtdhgnbfkcpaohaaImgLe
namespace Go.Proofs.Ytdhgnbfkcpaohaa
open Go.RowKit
set_option linter.unusedVariables false

set_option maxHeartbeats 4000000 in
theorem lawBehindOf_walk (A0 : Option Addr) (n0 c0 : Nat) (p0 : Nat → Int) (A1 : Option Addr) (n1 c1 : Nat) (p1 : Nat → Int) (w : World) (h0 : Bytes w A0 n0 c0 p0) (h1 : Bytes w A1 n1 c1 p1) :
    Calls Try.prog 5 #[.slice A0 n0 c0, .slice A1 n1 c1] w fun e w' => e = .returned (.bool true) ∧ Below w.heap.size w w' := by
  have H := Lib.hid h0
  have H1 := Lib.hid h1
  have hm1 := h1.1
  have hm2 := h1.2.1
  clear h0 h1
  by_cases hbig : 1048576 < n0
  · go_enter Try.func5, Try.ntmps5
    go_wp2
    go_ret
    exact ⟨rfl, Below.refl _ _⟩
  by_cases hbig1 : 1048576 < n1
  · go_enter Try.func5, Try.ntmps5
    go_wp2
    go_ret
    exact ⟨rfl, Below.refl _ _⟩
  go_enter Try.func5, Try.ntmps5
  go_wp2_with fail
  refine (drawBehindOf_any A0 n0 c0 p0 w H.out).mono ?_
  rintro e w1 ⟨A, n, c, zs, D, m, d, ys, hn8, hm9, rfl, v1, v2, hb1⟩
  have V := Lib.hid v1
  have U := Lib.hid v2
  have B := Lib.hid hb1
  clear v1 v2 hb1 hbig
  by_cases hv : n = m ∧ Valid n zs ∧ Valid m ys
  · obtain ⟨rfl, hv, hu⟩ := hv
    obtain ⟨hs, hzs⟩ := hv.mp
    obtain ⟨ht, hyt⟩ := hu.mp
    generalize (fun k => (zs k).toNat) = s at hs hzs
    generalize (fun k => (ys k).toNat) = t at ht hyt
    have HS := Lib.hid hs
    have HT := Lib.hid ht
    replace V := Lib.hid (V.out.congr hzs)
    replace U := Lib.hid (U.out.congr hyt)
    have hn1 := hs.1
    have hn7 := hs.2.1
    have HST := Lib.hid (behind_mp hs ht)
    clear hs ht hv hu hzs hyt
    have hn0 : ((n : Int) == 0) = false := by simp; omega
    go_wp2_with fail
    refine ((behindOf_yes _ _ _ _ _ s t _ V.out U.out HS.out HT.out).mono fun _ _ h => h.lst_).mono ?_
    rintro e w2 ⟨A2, c2, rfl, o2, b2⟩
    replace V := Lib.hid (V.out.below b2)
    replace U := Lib.hid (U.out.below b2)
    replace B := Lib.hid (below_more B.out b2)
    have O2 := Lib.hid o2.viewL
    clear o2
    clear b2
    go_wp2_with fail
    refine ((sBehindOf_yes _ _ _ _ _ s t _ V.out U.out HS.out HT.out).mono fun _ _ h => h.lst_).mono ?_
    rintro e w3 ⟨A3, c3, rfl, o3, b3⟩
    replace V := Lib.hid (V.out.below b3)
    replace U := Lib.hid (U.out.below b3)
    replace O2 := Lib.hid (O2.out.below b3)
    replace B := Lib.hid (below_more B.out b3)
    have O3 := Lib.hid o3.viewL
    clear o3
    clear b3
    go_wp2_with fail
    refine (sameInts_yes _ _ _ _ _ (up (behind s t)) _ O2.out O3.out (by omega)).mono ?_
    rintro e w4 ⟨rfl, b4⟩
    replace V := Lib.hid (V.out.below b4)
    replace U := Lib.hid (U.out.below b4)
    replace O2 := Lib.hid (O2.out.below b4)
    replace B := Lib.hid (below_more B.out b4)
    clear b4
    clear O3
    have hbE := (Below.refl w4.heap.size w4).alloc (Nat.le_refl _) (.cells #[] 3)
    have OH0 : Hid (Own (w4.alloc (.cells #[] 3)) w4.heap.size (.slice (some ⟨w4.heap.size, 0, none⟩) 0 0) []) := Lib.hid (own_mt w4)
    have V5 := Lib.hid (V.out.below hbE)
    have U5 := Lib.hid (U.out.below hbE)
    have O5 := Lib.hid (O2.out.below hbE)
    have B5 := Lib.hid (below_more B.out hbE)
    have hs5 := hbE.size
    have AT : Hid ((∀ g off, A = some ⟨g, off, none⟩ → g < w4.heap.size) ∧ (∀ g off, D = some ⟨g, off, none⟩ → g < w4.heap.size) ∧ (∀ g off, A2 = some ⟨g, off, none⟩ → g < w4.heap.size)) := by
      obtain ⟨ga, oa, ea, ha, _⟩ := V.out (by omega)
      obtain ⟨gb, ob, eb, hb, _⟩ := U.out (by omega)
      obtain ⟨gc, oc, ec, hc, _⟩ := O2.out (by omega)
      refine Lib.hid ⟨fun g off e => ?_, fun g off e => ?_, fun g off e => ?_⟩
      · rw [ea] at e; injection e with e; injection e with e _ _; omega
      · rw [eb] at e; injection e with e; injection e with e _ _; omega
      · rw [ec] at e; injection e with e; injection e with e _ _; omega
    have B4 := Lib.hid (B.out)
    clear hbE
    go_wp2
    go_loopw [8, 9] (fun v i wr => ∃ k : Nat, k ≤ n ∧ i = .int .i64 k ∧ (∃ xs : List Int, xs.length = k ∧ (∀ z ∈ xs, 0 ≤ z ∧ z < n) ∧ Own wr w4.heap.size v xs) ∧ View wr A n (up s) ∧ View wr D n (up t) ∧ View wr A2 n (up (behind s t)) ∧ Below w.heap.size w wr ∧ Below w4.heap.size w4 wr) (fun _ i _ => n - (intOf i).toNat)
    case atStart => exact ⟨0, Nat.zero_le _, rfl, ⟨[], rfl, fun z hz => by simp at hz, OH0.out⟩, V5.out, U5.out, O5.out, B5.out, (Below.refl _ _).alloc (Nat.le_refl _) _⟩
    case round =>
      obtain ⟨k, hk, rfl, ⟨xs, hxl, hxz, how⟩, vr, ur, orr, br, bw⟩ := hrel
      have HO := Lib.hid how
      have HZ := Lib.hid hxz
      have VR := Lib.hid vr
      have UR := Lib.hid ur
      have OR := Lib.hid orr
      have BR := Lib.hid br
      have BW := Lib.hid bw
      have hsW := bw
      clear how hxz vr ur orr br bw
      by_cases hlt : k < n
      · by_cases hk1 : k < n1
        · obtain ⟨g1, off1, e1, hg1, hc1⟩ := H1.out.2.2 (by omega)
          subst e1
          obtain ⟨q, hq⟩ : ∃ q : Nat, p1 k = q := ⟨(p1 k).toNat, by have := (hc1 k hk1).2; omega⟩
          have d1 : wr.cell? ⟨g1, off1 + k, none⟩ = some (.int .u8 (q : Int)) := by
            rw [← hq]; exact (BR.out.cell (p := ⟨g1, off1 + k, none⟩) hg1).trans (hc1 k hk1).1
          have hq5 : q ≤ 255 := by have := (hc1 k hk1).2; omega
          have hqm : (q : Int) % (n : Int) < n := Int.emod_lt_of_pos _ (by omega)
          have hq0 : 0 ≤ (q : Int) % (n : Int) := Int.emod_nonneg _ (by omega)
          have HQ := Lib.hid (And.intro hq0 hqm)
          clear hc1 hqm hq0
          go_wp2_with (at_builtin; refine wpList_app1 rfl (.tmp 57) (.tmp 59) rfl w4.heap.size _ _ rfl HO.out _ rfl (by omega) hsW.size ?_; intro v1 w6 how6 _ hb6)
          have HO6 := Lib.hid how6
          have VR6 := Lib.hid (VR.out.keep hb6 (fun g off e => (AT.out.1 g off e)))
          have UR6 := Lib.hid (UR.out.keep hb6 (fun g off e => (AT.out.2.1 g off e)))
          have OR6 := Lib.hid (OR.out.keep hb6 (fun g off e => (AT.out.2.2 g off e)))
          have BR6 := Lib.hid (BR.out.trans (hb6.mono (by have := B4.out.size; omega)))
          have BW6 := Lib.hid (BW.out.trans hb6)
          have hz6 : ∀ y ∈ xs ++ [(q : Int) % (n : Int)], 0 ≤ y ∧ y < (n : Int) := by
            intro y hy
            rcases List.mem_append.1 hy with hy | hy
            · exact HZ.out y hy
            · have := List.mem_singleton.1 hy
              subst this
              exact HQ.out
          have HZ6 := Lib.hid hz6
          have hl6 : (xs ++ [(q : Int) % (n : Int)]).length = k + 1 := by simp [hxl]
          have HL6 := Lib.hid hl6
          clear how6 hb6 hz6 hl6
          go_roundw
          case rel => exact ⟨k + 1, by omega, by go_num, ⟨_, HL6.out, HZ6.out, HO6.out⟩, VR6.out, UR6.out, OR6.out, BR6.out, BW6.out⟩
          case measure => simp [intOf]; omega
        · go_wp2_with (at_builtin; refine wpList_app1 rfl (.tmp 57) (.tmp 59) rfl w4.heap.size _ _ rfl HO.out _ rfl (by omega) hsW.size ?_; intro v1 w6 how6 _ hb6)
          have HO6 := Lib.hid how6
          have VR6 := Lib.hid (VR.out.keep hb6 (fun g off e => (AT.out.1 g off e)))
          have UR6 := Lib.hid (UR.out.keep hb6 (fun g off e => (AT.out.2.1 g off e)))
          have OR6 := Lib.hid (OR.out.keep hb6 (fun g off e => (AT.out.2.2 g off e)))
          have BR6 := Lib.hid (BR.out.trans (hb6.mono (by have := B4.out.size; omega)))
          have BW6 := Lib.hid (BW.out.trans hb6)
          have hz6 : ∀ y ∈ xs ++ [(0 : Int)], 0 ≤ y ∧ y < (n : Int) := by
            intro y hy
            rcases List.mem_append.1 hy with hy | hy
            · exact HZ.out y hy
            · have := List.mem_singleton.1 hy
              subst this
              omega
          have HZ6 := Lib.hid hz6
          have hl6 : (xs ++ [(0 : Int)]).length = k + 1 := by simp [hxl]
          have HL6 := Lib.hid hl6
          clear how6 hb6 hz6 hl6
          go_roundw
          case rel => exact ⟨k + 1, by omega, by go_num, ⟨_, HL6.out, HZ6.out, HO6.out⟩, VR6.out, UR6.out, OR6.out, BR6.out, BW6.out⟩
          case measure => simp [intOf]; omega
      · obtain rfl : k = n := by omega
        obtain ⟨A8, c8, rfl, _⟩ := HO.out.form
        have HV8 := HO.out.view
        rw [hxl] at HV8
        simp only [hxl]
        obtain ⟨u, hu, hux⟩ : ∃ u : Nat → Nat, Mp k u ∧ ∀ j, j < k → nth xs j = up u j := by
          have hb : ∀ j, j < k → 0 ≤ nth xs j ∧ nth xs j < k := fun j hj => by
            refine HZ.out _ ?_
            unfold nth
            rw [List.getD_eq_getElem?_getD, List.getElem?_eq_getElem (by omega)]
            exact List.getElem_mem _
          refine ⟨fun j => (nth xs j).toNat, ⟨hn1, hn7, fun j hj => ?_⟩, fun j hj => ?_⟩
          · have := hb j hj
            show (nth xs j).toNat < k
            omega
          · have := hb j hj
            simp only [up]
            omega
        have HH := Lib.hid (HV8.congr hux)
        have HU := Lib.hid hu
        have V := VR
        have U := UR
        have O2 := OR
        have B := BR
        obtain ⟨N1, hN1⟩ : ∃ N1, (imgTo (behind s t) k k).length = N1 := ⟨_, rfl⟩
        obtain ⟨N2, hN2⟩ : ∃ N2, (imgTo s k k).length = N2 := ⟨_, rfl⟩
        obtain ⟨N3, hN3⟩ : ∃ N3, (imgTo t k k).length = N3 := ⟨_, rfl⟩
        have hle1 : N1 ≤ N2 := by rw [← hN1, ← hN2]; exact img_first HS.out.2.2 k (Nat.le_refl _)
        have hle2 : N1 ≤ N3 := by rw [← hN1, ← hN3]; exact img_second HS.out.2.2 k
        have HN1 := Lib.hid hN1
        have HN2 := Lib.hid hN2
        have HN3 := Lib.hid hN3
        have HID : Hid (Mp k (fun j => j)) := Lib.hid ⟨hn1, hn7, fun _ h => h⟩
        clear hN1 hN2 hN3 hu hux HV8 VR UR OR BR BW HZ HO hxl
        go_wp2_with fail
        refine (sameOf_yes k _ hn1 hn7).mono ?_
        rintro e w7 ⟨rfl, o7, b7⟩
        have OW : Hid (View w7 (some ⟨wr.heap.size, 0, none⟩) k (up (fun j => j))) := Lib.hid o7.viewL
        replace V := Lib.hid (V.out.below b7)
        replace U := Lib.hid (U.out.below b7)
        replace O2 := Lib.hid (O2.out.below b7)
        replace HH := Lib.hid (HH.out.below b7)
        replace B := Lib.hid (below_more B.out b7)
        clear b7 o7
        go_wp2_with fail
        refine (mapOk_yes _ _ _ _ _ O2.out HST.out.valid).mono ?_
        rintro e w_ ⟨rfl, rfl⟩
        go_wp2_with fail
        refine ((behindOf_yes _ _ _ _ _ (behind s t) u _ O2.out HH.out HST.out HU.out).mono fun _ _ h => h.lst_).mono ?_
        rintro e w10 ⟨A10, c10, rfl, o10, b10⟩
        replace V := Lib.hid (V.out.below b10)
        replace U := Lib.hid (U.out.below b10)
        replace O2 := Lib.hid (O2.out.below b10)
        replace HH := Lib.hid (HH.out.below b10)
        replace OW := Lib.hid (OW.out.below b10)
        replace B := Lib.hid (below_more B.out b10)
        have O10 := Lib.hid o10.viewL
        clear o10
        clear b10
        go_wp2_with fail
        refine ((behindOf_yes _ _ _ _ _ t u _ U.out HH.out HT.out HU.out).mono fun _ _ h => h.lst_).mono ?_
        rintro e w11 ⟨A11, c11, rfl, o11, b11⟩
        replace V := Lib.hid (V.out.below b11)
        replace U := Lib.hid (U.out.below b11)
        replace O2 := Lib.hid (O2.out.below b11)
        replace HH := Lib.hid (HH.out.below b11)
        replace OW := Lib.hid (OW.out.below b11)
        replace O10 := Lib.hid (O10.out.below b11)
        replace B := Lib.hid (below_more B.out b11)
        have O11 := Lib.hid o11.viewL
        clear o11
        clear b11
        go_wp2_with fail
        refine ((behindOf_yes _ _ _ _ _ s (behind t u) _ V.out O11.out HS.out (behind_mp HT.out HU.out)).mono fun _ _ h => h.lst_).mono ?_
        rintro e w12 ⟨A12, c12, rfl, o12, b12⟩
        replace V := Lib.hid (V.out.below b12)
        replace U := Lib.hid (U.out.below b12)
        replace O2 := Lib.hid (O2.out.below b12)
        replace OW := Lib.hid (OW.out.below b12)
        replace O10 := Lib.hid (O10.out.below b12)
        replace B := Lib.hid (below_more B.out b12)
        have O12 := Lib.hid o12.viewL
        clear o12
        clear b12
        have O12' : Hid (View w12 A12 k (up (behind (behind s t) u))) := Lib.hid O12.out
        go_wp2_with fail
        refine (sameInts_yes _ _ k _ _ (up (behind (behind s t) u)) _ O10.out O12'.out (by omega)).mono ?_
        rintro e w13 ⟨rfl, b13⟩
        replace V := Lib.hid (V.out.below b13)
        replace U := Lib.hid (U.out.below b13)
        replace O2 := Lib.hid (O2.out.below b13)
        replace OW := Lib.hid (OW.out.below b13)
        replace B := Lib.hid (below_more B.out b13)
        clear b13
        clear O10 O11 O12 O12' HH
        go_wp2_with fail
        refine ((behindOf_yes _ _ _ _ _ (fun j => j) s _ OW.out V.out HID.out HS.out).mono fun _ _ h => h.lst_).mono ?_
        rintro e w14 ⟨A14, c14, rfl, o14, b14⟩
        replace V := Lib.hid (V.out.below b14)
        replace U := Lib.hid (U.out.below b14)
        replace O2 := Lib.hid (O2.out.below b14)
        replace OW := Lib.hid (OW.out.below b14)
        replace B := Lib.hid (below_more B.out b14)
        have O14 := Lib.hid o14.viewL
        clear o14
        clear b14
        have O14' : Hid (View w14 A14 k (up s)) := Lib.hid O14.out
        go_wp2_with fail
        refine (sameInts_yes _ _ k _ _ (up s) _ O14'.out V.out (by omega)).mono ?_
        rintro e w15 ⟨rfl, b15⟩
        replace V := Lib.hid (V.out.below b15)
        replace U := Lib.hid (U.out.below b15)
        replace O2 := Lib.hid (O2.out.below b15)
        replace OW := Lib.hid (OW.out.below b15)
        replace B := Lib.hid (below_more B.out b15)
        clear b15
        clear O14 O14'
        go_wp2_with fail
        refine ((behindOf_yes _ _ _ _ _ s (fun j => j) _ V.out OW.out HS.out HID.out).mono fun _ _ h => h.lst_).mono ?_
        rintro e w16 ⟨A16, c16, rfl, o16, b16⟩
        replace V := Lib.hid (V.out.below b16)
        replace U := Lib.hid (U.out.below b16)
        replace O2 := Lib.hid (O2.out.below b16)
        replace B := Lib.hid (below_more B.out b16)
        have O16 := Lib.hid o16.viewL
        clear o16
        clear b16
        have O16' : Hid (View w16 A16 k (up s)) := Lib.hid O16.out
        go_wp2_with fail
        refine (sameInts_yes _ _ k _ _ (up s) _ O16'.out V.out (by omega)).mono ?_
        rintro e w17 ⟨rfl, b17⟩
        replace V := Lib.hid (V.out.below b17)
        replace U := Lib.hid (U.out.below b17)
        replace O2 := Lib.hid (O2.out.below b17)
        replace B := Lib.hid (below_more B.out b17)
        clear b17
        clear O16 O16' OW
        go_wp2_with fail
        refine ((imageOf_yes _ _ _ (behind s t) _ O2.out HST.out).mono fun _ _ h => h.len_ (HN1.out)).mono ?_
        rintro e w18 ⟨A18, c18, rfl, o18, b18⟩
        replace V := Lib.hid (V.out.below b18)
        replace U := Lib.hid (U.out.below b18)
        replace O2 := Lib.hid (O2.out.below b18)
        replace B := Lib.hid (below_more B.out b18)
        have O18 := Lib.hid o18
        clear o18
        clear b18
        go_wp2_with fail
        refine ((imageOf_yes _ _ _ s _ V.out HS.out).mono fun _ _ h => h.len_ (HN2.out)).mono ?_
        rintro e w19 ⟨A19, c19, rfl, o19, b19⟩
        replace V := Lib.hid (V.out.below b19)
        replace U := Lib.hid (U.out.below b19)
        replace O2 := Lib.hid (O2.out.below b19)
        replace B := Lib.hid (below_more B.out b19)
        have O19 := Lib.hid o19
        clear o19
        clear b19
        go_wp2_with fail
        refine ((imageOf_yes _ _ _ (behind s t) _ O2.out HST.out).mono fun _ _ h => h.len_ (HN1.out)).mono ?_
        rintro e w20 ⟨A20, c20, rfl, o20, b20⟩
        replace V := Lib.hid (V.out.below b20)
        replace U := Lib.hid (U.out.below b20)
        replace O2 := Lib.hid (O2.out.below b20)
        replace B := Lib.hid (below_more B.out b20)
        have O20 := Lib.hid o20
        clear o20
        clear b20
        go_wp2_with fail
        refine ((imageOf_yes _ _ _ t _ U.out HT.out).mono fun _ _ h => h.len_ (HN3.out)).mono ?_
        rintro e w21 ⟨A21, c21, rfl, o21, b21⟩
        replace V := Lib.hid (V.out.below b21)
        replace U := Lib.hid (U.out.below b21)
        replace O2 := Lib.hid (O2.out.below b21)
        replace B := Lib.hid (below_more B.out b21)
        have O21 := Lib.hid o21
        clear o21
        clear b21
        go_wp2
        all_goals go_ret
        all_goals exact ⟨by first | rfl | exact ret_bool (by simp; omega) | exact ret_bool (by simp), B.out⟩
  · have HA := Lib.hid hv
    clear hv
    go_wp2_with fail
    refine (behindOf_no _ _ _ _ _ _ zs ys _ V.out U.out (by omega) (by omega) HA.out).mono ?_
    rintro e w2 ⟨A2, c2, rfl, o2, b2⟩
    replace V := Lib.hid (V.out.below b2)
    replace U := Lib.hid (U.out.below b2)
    replace B := Lib.hid (below_more B.out b2)
    have O2 := Lib.hid o2
    clear o2 b2
    go_wp2_with fail
    refine (sBehindOf_no _ _ _ _ _ _ zs ys _ V.out U.out (by omega) (by omega) HA.out).mono ?_
    rintro e w3 ⟨A3, c3, rfl, o3, b3⟩
    replace B := Lib.hid (below_more B.out b3)
    replace O2 := Lib.hid (O2.out.below b3)
    have O3 := Lib.hid o3
    clear o3 b3
    go_wp2_with fail
    refine (sameInts_yes _ _ 0 _ _ (nth []) _ O2.out.view O3.out.view (by omega)).mono ?_
    rintro e w4 ⟨rfl, b4⟩
    replace B := Lib.hid (below_more B.out b4)
    clear b4
    go_wp2_with fail
    refine (alive_any _).mono ?_
    rintro e w5 ⟨rfl, b5⟩
    replace B := Lib.hid (below_more B.out b5)
    clear b5
    go_wp2
    go_ret
    exact ⟨rfl, B.out⟩

end Go.Proofs.Ytdhgnbfkcpaohaa
