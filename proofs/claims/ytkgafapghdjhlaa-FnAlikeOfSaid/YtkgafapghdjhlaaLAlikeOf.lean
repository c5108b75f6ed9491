/- laws.FnAlikeOf answers true. Condition: the code's bounds. -/
import Derived.Test.YtkgafapghdjhlaaDrawAlikeOf
import Derived.Test.YtkgafapghdjhlaaAlive
import Derived.Test.YtkgafapghdjhlaaLstB
import Derived.Test.YtkgafapghdjhlaaAlike
import Derived.Test.YtkgafapghdjhlaaImageI
import Derived.Test.YtkgafapghdjhlaaSameInts
import Derived.Deep.QuietTactic
import Derived.BigQuiet
namespace Go.Proofs.Ytkgafapghdjhlaa
open Go.RowKit
set_option linter.unusedVariables false

theorem imgTo_more (s : Nat → Nat) (m : Nat) : ∀ N, (imgTo s (m + 1) N).length = (imgTo s m N).length + if (∀ i, i < m → s i ≠ s m) ∧ s m < N then 1 else 0 := by
  intro N
  induction N with
  | zero => simp [imgTo]
  | succ N ih =>
    by_cases h : s m = N
    · rw [imgTo_hit (j := m) (by omega) h, List.length_append, ih, if_neg (by omega)]
      by_cases hn : ∀ i, i < m → s i ≠ s m
      · rw [if_pos ⟨hn, by omega⟩, imgTo_miss (fun j hj e => hn j hj (by omega))]
        simp
      · rw [if_neg (fun e => hn e.1)]
        obtain ⟨i, hi⟩ := Classical.not_forall.1 hn
        obtain ⟨h1, h2⟩ := Classical.not_imp.1 hi
        rw [imgTo_hit (j := i) h1 (by have := Classical.not_not.1 h2; omega)]
        simp
    · have e : ((∀ i, i < m → s i ≠ s m) ∧ s m < N + 1) ↔ ((∀ i, i < m → s i ≠ s m) ∧ s m < N) := ⟨fun q => ⟨q.1, by have := q.2; omega⟩, fun q => ⟨q.1, by have := q.2; omega⟩⟩
      by_cases hh : ∃ j, j < m ∧ s j = N
      · obtain ⟨j, hj, ej⟩ := hh
        rw [imgTo_hit (n := m + 1) (j := j) (by omega) ej, imgTo_hit (n := m) hj ej, List.length_append, List.length_append, ih]
        simp only [e]
        simp only [List.length_singleton]
        omega
      · rw [imgTo_miss (n := m + 1) (fun j hj ej => by
          rcases Nat.lt_succ_iff_lt_or_eq.1 hj with h3 | rfl
          · exact hh ⟨j, h3, ej⟩
          · exact h ej), imgTo_miss (n := m) (fun j hj ej => hh ⟨j, hj, ej⟩), ih]
        simp only [e]
/-- The first thing that is led alike. -/
theorem alike_first {s : Nat → Nat} {n k : Nat} (hk : k < n) : ∃ t, t ≤ k ∧ s t = s k ∧ (∀ i, i < t → s i ≠ s k) ∧ alike s n k = (t : Int) := by
  obtain ⟨t, _, h1, h2, h3, h4, _⟩ := fromTo_first n k hk rfl
  exact ⟨t, h1, Int.ofNat_inj.1 h2, fun i hi e => h3 i hi (by rw [e]), h4⟩
theorem alike_iff {s : Nat → Nat} {n k j : Nat} (hk : k < n) (hj : j < n) : alike s n k = alike s n j ↔ s k = s j := by
  constructor
  · intro e
    obtain ⟨t, _, h1, _, h2⟩ := alike_first (s := s) hk
    obtain ⟨u, _, h3, _, h4⟩ := alike_first (s := s) hj
    rw [h2, h4] at e
    obtain rfl := Int.ofNat_inj.1 e
    rw [← h1, h3]
  · intro e
    unfold alike
    rw [e]
theorem alike_own {s : Nat → Nat} {n k : Nat} (hk : k < n) : alike s n k = (k : Int) ↔ ∀ i, i < k → s i ≠ s k := by
  obtain ⟨t, h0, h1, h2, h3⟩ := alike_first (s := s) hk
  rw [h3]
  constructor
  · intro e
    obtain rfl := Int.ofNat_inj.1 e
    exact h2
  · intro h
    rcases Nat.lt_or_ge t k with h4 | h4
    · exact absurd h1 (h t h4)
    · obtain rfl : t = k := by omega
      rfl
/-- How many of the first k things are the first of their kind. -/
noncomputable def kindsTo (s : Nat → Nat) (n : Nat) : Nat → Nat
  | 0 => 0
  | k + 1 => kindsTo s n k + if alike s n k = (k : Int) then 1 else 0
theorem kindsTo_img {s : Nat → Nat} {n : Nat} (hs : ∀ k, k < n → s k < n) : ∀ m, m ≤ n → kindsTo s n m = (imgTo s m n).length := by
  intro m
  induction m with
  | zero =>
    intro _
    have : ∀ N, imgTo s 0 N = [] := fun N => by
      induction N with
      | zero => rfl
      | succ N ih => rw [imgTo_miss (fun j hj => absurd hj (by omega)), ih]
    rw [this]; rfl
  | succ m ih =>
    intro hm
    rw [imgTo_more, kindsTo, ih (by omega)]
    by_cases h : alike s n m = (m : Int)
    · rw [if_pos h, if_pos ⟨(alike_own (by omega)).1 h, hs m (by omega)⟩]
    · rw [if_neg h, if_neg (fun q => h ((alike_own (by omega)).2 q.1))]
theorem kindsTo_le (s : Nat → Nat) (n k : Nat) : kindsTo s n k ≤ k := by
  induction k with
  | zero => exact Nat.le_refl _
  | succ k ih => simp only [kindsTo]; split <;> omega

set_option maxHeartbeats 2000000 in
theorem lawAlikeOf_walk (A0 : Option Addr) (n0 c0 : Nat) (p0 : Nat → Int) (w : World) (h : Bytes w A0 n0 c0 p0) :
    Calls Try.prog 13 #[.slice A0 n0 c0] w fun e w' => e = .returned (.bool true) ∧ Below w.heap.size w w' := by
  have H := Lib.hid h
  clear h
  by_cases hbig : 1048576 < n0
  · go_enter Try.func13, Try.ntmps13
    go_wp2
    go_ret
    exact ⟨rfl, Below.refl _ _⟩
  go_enter Try.func13, Try.ntmps13
  go_wp2_with fail
  refine (drawAlikeOf_any A0 n0 c0 p0 w H.out).mono ?_
  rintro e w1 ⟨A, n, c, zs, hn8, rfl, how, hb1⟩
  have HV := Lib.hid how.viewL
  have HO := Lib.hid how
  have HB1 := Lib.hid hb1
  clear how hb1 hbig
  by_cases hv : Valid n zs
  · skip
    obtain ⟨hs, hzs⟩ := hv.mp
    generalize (fun k => (zs k).toNat) = s at hs hzs
    have HS := Lib.hid hs
    have V := Lib.hid (HV.out.congr hzs)
    have hn1 := hs.1
    have hn7 := hs.2.1
    clear hs hzs hv HV HO
    have B := HB1
    clear HB1
    have HAL : Hid (∀ k j, k < n → j < n → (alike s n k = alike s n j ↔ s k = s j)) := Lib.hid (fun k j hk hj => alike_iff hk hj)
    have hkn := kindsTo_img HS.out.2.2 n (Nat.le_refl _)
    have HK := Lib.hid hkn
    clear hkn
    have hn0 : ((n : Int) == 0) = false := by simp; omega
    go_wp2_with fail
    refine ((alikeOf_yes _ _ _ s _ V.out HS.out).mono fun _ _ h => h.lst_).mono ?_
    rintro e w2 ⟨A2, c2, rfl, o2, b2⟩
    replace V := Lib.hid (V.out.below b2)
    replace B := Lib.hid (below_more B.out b2)
    have O2 := Lib.hid o2.viewL
    clear o2
    clear b2
    go_wp2_with fail
    refine ((sAlikeOf_yes _ _ _ s _ V.out HS.out).mono fun _ _ h => h.lst_).mono ?_
    rintro e w3 ⟨A3, c3, rfl, o3, b3⟩
    replace V := Lib.hid (V.out.below b3)
    replace O2 := Lib.hid (O2.out.below b3)
    replace B := Lib.hid (below_more B.out b3)
    have O3 := Lib.hid o3.viewL
    clear o3
    clear b3
    go_wp2_with fail
    refine (sameInts_yes _ _ _ _ _ (alike s n) _ O2.out O3.out (by omega)).mono ?_
    rintro e w4 ⟨rfl, b4⟩
    replace V := Lib.hid (V.out.below b4)
    replace O2 := Lib.hid (O2.out.below b4)
    replace B := Lib.hid (below_more B.out b4)
    clear b4
    clear O3
    go_wp2
    go_loopw [5, 6] (fun a i wr => ∃ k : Nat, k ≤ n ∧ a = .int .i64 (kindsTo s n k : Nat) ∧ i = .int .i64 k ∧ View wr A n (up s) ∧ View wr A2 n (alike s n) ∧ Below w.heap.size w wr) (fun _ i _ => n - (intOf i).toNat)
    case atStart => exact ⟨0, Nat.zero_le _, rfl, rfl, V.out, O2.out, B.out⟩
    case round =>
      obtain ⟨k, hk, rfl, rfl, v_, o_, b_⟩ := hrel
      have V := Lib.hid v_
      have B := Lib.hid b_
      clear v_ b_
      have O := Lib.hid o_
      clear o_
      have hkk := kindsTo_le s n k
      by_cases hlt : k < n
      · obtain ⟨g0, off0, e0, hg0, hc0⟩ := O.out (by omega)
        subst e0
        have d0 : wr.cell? ⟨g0, off0 + k, none⟩ = some (.int .i64 (alike s n k)) := hc0 k hlt
        clear hc0
        by_cases he : alike s n k = (k : Int)
        · have hkb : (alike s n k == (k : Int)) = true := by simp [he]
          have HNEW : Hid (kindsTo s n (k + 1) = kindsTo s n k + 1) := Lib.hid (by simp [kindsTo, he])
          clear he
          go_wp2
          go_loopw [7] (fun i w2 => ∃ j : Nat, j ≤ n ∧ i = .int .i64 j ∧ View w2 A n (up s) ∧ View w2 (some ⟨g0, off0, none⟩) n (alike s n) ∧ Below w.heap.size w w2) (fun i _ => n - (intOf i).toNat)
          case atStart => exact ⟨0, Nat.zero_le _, rfl, V.out, O.out, B.out⟩
          case round =>
            obtain ⟨j, hj, rfl, v_, o_, b_⟩ := hrel
            have V := Lib.hid v_
            have B := Lib.hid b_
            clear v_ b_
            have O := Lib.hid o_
            clear o_
            by_cases hlj : j < n
            · obtain ⟨g2, off2, e2, hg2, hc2⟩ := O.out (by omega)
              injection e2 with e2
              injection e2 with e2 e3 _
              subst e2 e3
              obtain ⟨g, off, rfl, hg, hc⟩ := V.out (by omega)
              have hb : ((alike s n k == alike s n j) == ((s k : Int) == (s j : Int))) = true := by
                have := HAL.out k j hlt hlj
                by_cases e : s k = s j
                · simp [e, this.2 e]
                · have e2 : alike s n k ≠ alike s n j := fun h => e (this.1 h)
                  have e3 : ((s k : Int) == (s j : Int)) = false := by simp; omega
                  rw [e3]
                  simp [e2]
              have d1 : wr.cell? ⟨g0, off0 + k, none⟩ = some (.int .i64 (alike s n k)) := hc2 k hlt
              have d2 : wr.cell? ⟨g0, off0 + j, none⟩ = some (.int .i64 (alike s n j)) := hc2 j hlj
              have d3 : wr.cell? ⟨g, off + k, none⟩ = some (.int .i64 (s k : Int)) := hc k hlt
              have d4 : wr.cell? ⟨g, off + j, none⟩ = some (.int .i64 (s j : Int)) := hc j hlj
              clear hc hc2
              go_wp2_with fail
              go_quiet (fail)
              have V9 := Lib.hid (V.out.drewN nq)
              have O9 := Lib.hid (O.out.drewN nq)
              have B9 := Lib.hid (below_drewN B.out nq)
              clear d1 d2 d3 d4
              go_wp2
              go_roundw
              case rel => exact ⟨j + 1, by omega, by go_num, V9.out, O9.out, B9.out⟩
              case measure => simp [intOf]; omega
            · obtain rfl : j = n := by omega
              go_wp2
              go_roundw
              case rel => exact ⟨k + 1, by omega, by rw [HNEW.out]; go_num, by go_num, V.out, O.out, B.out⟩
              case measure => simp [intOf]; omega
        · have hkb : (alike s n k == (k : Int)) = false := by simp [he]
          have HNEW : Hid (kindsTo s n (k + 1) = kindsTo s n k) := Lib.hid (by simp [kindsTo, he])
          clear he
          go_wp2
          go_loopw [7] (fun i w2 => ∃ j : Nat, j ≤ n ∧ i = .int .i64 j ∧ View w2 A n (up s) ∧ View w2 (some ⟨g0, off0, none⟩) n (alike s n) ∧ Below w.heap.size w w2) (fun i _ => n - (intOf i).toNat)
          case atStart => exact ⟨0, Nat.zero_le _, rfl, V.out, O.out, B.out⟩
          case round =>
            obtain ⟨j, hj, rfl, v_, o_, b_⟩ := hrel
            have V := Lib.hid v_
            have B := Lib.hid b_
            clear v_ b_
            have O := Lib.hid o_
            clear o_
            by_cases hlj : j < n
            · obtain ⟨g2, off2, e2, hg2, hc2⟩ := O.out (by omega)
              injection e2 with e2
              injection e2 with e2 e3 _
              subst e2 e3
              obtain ⟨g, off, rfl, hg, hc⟩ := V.out (by omega)
              have hb : ((alike s n k == alike s n j) == ((s k : Int) == (s j : Int))) = true := by
                have := HAL.out k j hlt hlj
                by_cases e : s k = s j
                · simp [e, this.2 e]
                · have e2 : alike s n k ≠ alike s n j := fun h => e (this.1 h)
                  have e3 : ((s k : Int) == (s j : Int)) = false := by simp; omega
                  rw [e3]
                  simp [e2]
              have d1 : wr.cell? ⟨g0, off0 + k, none⟩ = some (.int .i64 (alike s n k)) := hc2 k hlt
              have d2 : wr.cell? ⟨g0, off0 + j, none⟩ = some (.int .i64 (alike s n j)) := hc2 j hlj
              have d3 : wr.cell? ⟨g, off + k, none⟩ = some (.int .i64 (s k : Int)) := hc k hlt
              have d4 : wr.cell? ⟨g, off + j, none⟩ = some (.int .i64 (s j : Int)) := hc j hlj
              clear hc hc2
              go_wp2_with fail
              go_quiet (fail)
              have V9 := Lib.hid (V.out.drewN nq)
              have O9 := Lib.hid (O.out.drewN nq)
              have B9 := Lib.hid (below_drewN B.out nq)
              clear d1 d2 d3 d4
              go_wp2
              go_roundw
              case rel => exact ⟨j + 1, by omega, by go_num, V9.out, O9.out, B9.out⟩
              case measure => simp [intOf]; omega
            · obtain rfl : j = n := by omega
              go_wp2
              go_roundw
              case rel => exact ⟨k + 1, by omega, by rw [HNEW.out], by go_num, V.out, O.out, B.out⟩
              case measure => simp [intOf]; omega
      · obtain rfl : k = n := by omega
        have HL := Lib.hid HK.out.symm
        go_wp2_with fail
        refine ((imageOf_yes _ _ _ s _ V.out HS.out).mono fun _ _ h => h.len_ (HL.out)).mono ?_
        rintro e w5 ⟨A5, c5, rfl, o5, b5⟩
        replace V := Lib.hid (V.out.below b5)
        replace B := Lib.hid (below_more B.out b5)
        have O5 := Lib.hid o5
        clear o5
        clear b5
        go_wp2
        all_goals go_ret
        all_goals exact ⟨by first | rfl | exact ret_bool (by simp; omega) | exact ret_bool (by simp), B.out⟩
  · skip
    have HA := Lib.hid hv
    have V := HV
    have B := HB1
    clear hv HV HB1
    go_wp2_with fail
    refine (alikeOf_no _ _ _ zs _ V.out (by omega) HA.out).mono ?_
    rintro e w2 ⟨A2, c2, rfl, o2, b2⟩
    replace V := Lib.hid (V.out.below b2)
    replace B := Lib.hid (below_more B.out b2)
    have O2 := Lib.hid o2
    clear o2
    clear b2
    go_wp2_with fail
    refine (sAlikeOf_no _ _ _ zs _ V.out (by omega) HA.out).mono ?_
    rintro e w3 ⟨A3, c3, rfl, o3, b3⟩
    replace V := Lib.hid (V.out.below b3)
    replace O2 := Lib.hid (O2.out.below b3)
    replace B := Lib.hid (below_more B.out b3)
    have O3 := Lib.hid o3
    clear o3
    clear b3
    go_wp2_with fail
    refine (sameInts_yes _ _ 0 _ _ (nth []) _ O2.out.view O3.out.view (by omega)).mono ?_
    rintro e w4 ⟨rfl, b4⟩
    replace V := Lib.hid (V.out.below b4)
    replace B := Lib.hid (below_more B.out b4)
    clear b4
    go_wp2_with fail
    refine (mapOk_no _ _ _ _ _ V.out HA.out (by omega)).mono ?_
    rintro e w_ ⟨rfl, rfl⟩
    go_wp2_with fail
    refine (alive_any _).mono ?_
    rintro e w5 ⟨rfl, b5⟩
    replace V := Lib.hid (V.out.below b5)
    replace B := Lib.hid (below_more B.out b5)
    clear b5
    go_wp2
    all_goals go_ret
    all_goals exact ⟨by first | rfl | exact ret_bool (by simp; omega) | exact ret_bool (by simp), B.out⟩

end Go.Proofs.Ytkgafapghdjhlaa
