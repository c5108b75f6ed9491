/- laws.FnFromOf answers true. Condition: the code's bounds. -/
import Derived.Test.YtkgafapghdjhlaaDrawFromOf
import Derived.Test.YtkgafapghdjhlaaAlive
import Derived.Test.YtkgafapghdjhlaaLstB
import Derived.Test.YtkgafapghdjhlaaFromI
import Derived.Test.YtkgafapghdjhlaaFromSpec
import Derived.Test.YtkgafapghdjhlaaSameInts
import Derived.Test.YtkgafapghdjhlaaAscend
import Derived.Test.YtkgafapghdjhlaaOkSpec
namespace Go.Proofs.Ytkgafapghdjhlaa
open Go.RowKit
set_option linter.unusedVariables false

/-- How many things are led to one of the first m. -/
def totTo (s : Nat → Nat) (n : Nat) : Nat → Nat
  | 0 => 0
  | m + 1 => totTo s n m + (fromTo s m n).length
theorem totTo_succ (s : Nat → Nat) (n : Nat) : ∀ m, totTo s (n + 1) m = totTo s n m + if s n < m then 1 else 0 := by
  intro m
  induction m with
  | zero => simp [totTo]
  | succ m ih =>
    simp only [totTo, ih]
    by_cases h : (s n : Int) = (m : Int)
    · have h' := Int.ofNat_inj.1 h
      rw [fromTo_hit h, if_neg (by omega), if_pos (by omega)]
      simp
      omega
    · rw [fromTo_miss h]
      by_cases h2 : s n < m
      · rw [if_pos h2, if_pos (by omega)]; omega
      · rw [if_neg h2, if_neg (by omega)]; omega
theorem totTo_zero (s : Nat → Nat) (m : Nat) : totTo s 0 m = 0 := by
  induction m with
  | zero => rfl
  | succ m ih => simp [totTo, ih, fromTo]
theorem totTo_all {s : Nat → Nat} {m : Nat} : ∀ n, (∀ k, k < n → s k < m) → totTo s n m = n := by
  intro n
  induction n with
  | zero => intro _; exact totTo_zero s m
  | succ n ih =>
    intro h
    rw [totTo_succ, ih (fun k hk => h k (by omega)), if_pos (h n (by omega))]
theorem totTo_le (s : Nat → Nat) (n m : Nat) : totTo s n m ≤ n := by
  induction n with
  | zero => rw [totTo_zero]; omega
  | succ n ih => rw [totTo_succ]; split <;> omega

set_option maxHeartbeats 2000000 in
theorem lawFromOf_walk (A0 : Option Addr) (n0 c0 : Nat) (p0 : Nat → Int) (w : World) (h : Bytes w A0 n0 c0 p0) :
    Calls Try.prog 7 #[.slice A0 n0 c0] w fun e w' => e = .returned (.bool true) ∧ Below w.heap.size w w' := by
  have H := Lib.hid h
  clear h
  by_cases hbig : 1048576 < n0
  · go_enter Try.func7, Try.ntmps7
    go_wp2
    go_ret
    exact ⟨rfl, Below.refl _ _⟩
  go_enter Try.func7, Try.ntmps7
  go_wp2_with fail
  refine (drawFromOf_any A0 n0 c0 p0 w H.out).mono ?_
  rintro e w1 ⟨A, n, c, zs, x, hn8, rfl, hx1, hx2, how, hb1⟩
  have HV := Lib.hid how.viewL
  have HO := Lib.hid how
  have HB1 := Lib.hid hb1
  clear how hb1 hbig
  by_cases hv : Valid n zs
  · obtain ⟨hs, hzs⟩ := hv.mp
    generalize (fun k => (zs k).toNat) = s at hs hzs
    have HS := Lib.hid hs
    have V := Lib.hid (HV.out.congr hzs)
    have hn1 := hs.1
    have hn7 := hs.2.1
    have HTOT := Lib.hid (totTo_all n hs.2.2)
    have hle := length_fromTo s x n
    have HASC := Lib.hid (asc_fromTo s x n)
    have C1 : ∀ w, View w A n (up s) → Calls Try.prog 32 #[.slice A n c, .int .i64 x] w (RetOwn w (fromTo s x n)) := fun w hV => by
      by_cases hx : 0 ≤ x ∧ x < n
      · obtain ⟨X, rfl⟩ : ∃ X : Nat, x = X := ⟨x.toNat, by omega⟩
        exact fromOf_yes A n c X s w hV HS.out (by omega)
      · have h0 : fromTo s x n = [] := by
          cases h9 : fromTo s x n with
          | nil => rfl
          | cons z ys =>
            obtain ⟨j, hj, _, e⟩ := (mem_fromTo s x z n).1 (by rw [h9]; exact List.mem_cons_self)
            have := HS.out.lt hj
            exact absurd ⟨by omega, by omega⟩ hx
        rw [h0]
        exact fromOf_no A n c x (up s) w hV (by omega) (fun h => hx h.2)
    have HC1 := Lib.hid C1
    clear hs hzs hv HV HO C1
    have B := HB1
    clear HB1
    obtain ⟨N, hN⟩ : ∃ N, (fromTo s x n).length = N := ⟨_, rfl⟩
    have HN := Lib.hid hN
    rw [hN] at hle
    clear hN
    go_wp2_with fail
    refine ((HC1.out _ V.out).mono fun _ _ h => h.len_ (HN.out)).mono ?_
    rintro e w2 ⟨A2, c2, rfl, o2, b2⟩
    replace V := Lib.hid (V.out.below b2)
    replace B := Lib.hid (below_more B.out b2)
    have O2 := Lib.hid o2
    clear o2
    clear b2
    go_wp2_with fail
    refine ((sFromOf_yes _ _ _ x s _ V.out HS.out).mono fun _ _ h => h.len_ (HN.out)).mono ?_
    rintro e w3 ⟨A3, c3, rfl, o3, b3⟩
    replace V := Lib.hid (V.out.below b3)
    replace O2 := Lib.hid (O2.out.below b3)
    replace B := Lib.hid (below_more B.out b3)
    have O3 := Lib.hid o3
    clear o3
    clear b3
    go_wp2_with fail
    refine (sameInts_yes _ _ _ _ _ (nth (fromTo s x n)) _ O2.out.view O3.out.view (by omega)).mono ?_
    rintro e w4 ⟨rfl, b4⟩
    replace V := Lib.hid (V.out.below b4)
    replace O2 := Lib.hid (O2.out.below b4)
    replace B := Lib.hid (below_more B.out b4)
    clear b4
    clear O3
    go_wp2_with fail
    refine (sMapOk_yes _ _ _ _ _ V.out HS.out.valid).mono ?_
    rintro e w_ ⟨rfl, rfl⟩
    go_wp2
    go_loopw [6, 7] (fun a i wr => ∃ k : Nat, k ≤ n ∧ a = .int .i64 (totTo s n k : Nat) ∧ i = .int .i64 k ∧ View wr A n (up s) ∧ View wr A2 N (nth (fromTo s x n)) ∧ Below w.heap.size w wr) (fun _ i _ => n - (intOf i).toNat)
    case atStart => exact ⟨0, Nat.zero_le _, rfl, rfl, V.out, O2.out.view, B.out⟩
    case round =>
      obtain ⟨k, hk, rfl, rfl, v_, o_, b_⟩ := hrel
      have V := Lib.hid v_
      have B := Lib.hid b_
      clear v_ b_
      have O := Lib.hid o_
      clear o_
      have ht1 := totTo_le s n k
      have ht2 := totTo_le s n (k + 1)
      by_cases hlt : k < n
      · obtain ⟨L, hL⟩ : ∃ L, (fromTo s k n).length = L := ⟨_, rfl⟩
        have hs1 : totTo s n (k + 1) = totTo s n k + L := by rw [← hL]; rfl
        have HL := Lib.hid hL
        have HS1 := Lib.hid hs1
        rw [hs1] at ht2
        clear hL hs1
        go_wp2_with fail
        refine ((fromOf_yes _ _ _ k s _ V.out HS.out hlt).mono fun _ _ h => h.len_ (HL.out)).mono ?_
        rintro e w5 ⟨A5, c5, rfl, o5, b5⟩
        replace V := Lib.hid (V.out.below b5)
        replace O := Lib.hid (O.out.below b5)
        replace B := Lib.hid (below_more B.out b5)
        have O5 := Lib.hid o5
        clear o5
        clear b5
        go_wp2
        go_roundw
        case rel => exact ⟨k + 1, by omega, by rw [HS1.out]; go_num, by go_num, V.out, O.out, B.out⟩
        case measure => simp [intOf]; omega
      · obtain rfl : k = n := by omega
        rw [HTOT.out]
        go_wp2_with fail
        refine (ascend_yes _ _ _ (nth (fromTo s x k)) _ O.out (by omega) (fun i hi => HASC.out i (by rw [HN.out]; exact hi))).mono ?_
        rintro e w5 ⟨rfl, b5⟩
        replace V := Lib.hid (V.out.below b5)
        replace B := Lib.hid (below_more B.out b5)
        clear b5
        go_wp2_with fail
        refine (alive_any _).mono ?_
        rintro e w6 ⟨rfl, b6⟩
        replace V := Lib.hid (V.out.below b6)
        replace B := Lib.hid (below_more B.out b6)
        clear b6
        go_wp2
        all_goals go_ret
        all_goals exact ⟨by first | rfl | exact ret_bool (by simp; omega) | exact ret_bool (by simp), B.out⟩
  · skip
    have HA := Lib.hid hv
    have V := HV
    have B := HB1
    clear hv HV HB1
    go_wp2_with fail
    refine (fromOf_no _ _ _ x zs _ V.out (by omega) (fun h => HA.out h.1)).mono ?_
    rintro e w2 ⟨A2, c2, rfl, o2, b2⟩
    replace V := Lib.hid (V.out.below b2)
    replace B := Lib.hid (below_more B.out b2)
    have O2 := Lib.hid o2
    clear o2
    clear b2
    go_wp2_with fail
    refine (sFromOf_no _ _ _ x zs _ V.out (by omega) HA.out).mono ?_
    rintro e w3 ⟨A3, c3, rfl, o3, b3⟩
    replace V := Lib.hid (V.out.below b3)
    replace O2 := Lib.hid (O2.out.below b3)
    replace B := Lib.hid (below_more B.out b3)
    have O3 := Lib.hid o3
    clear o3
    clear b3
    go_wp2_with fail
    refine (sameInts_yes _ _ 0 _ _ (nth []) _ O2.out.view O3.out.view (by omega)).mono ?_
    rintro e w4 ⟨rfl, b4⟩
    replace V := Lib.hid (V.out.below b4)
    replace B := Lib.hid (below_more B.out b4)
    clear b4
    go_wp2_with fail
    refine (sMapOk_no _ _ _ _ _ V.out HA.out (by omega)).mono ?_
    rintro e w_ ⟨rfl, rfl⟩
    go_wp2_with fail
    refine (alive_any _).mono ?_
    rintro e w5 ⟨rfl, b5⟩
    replace V := Lib.hid (V.out.below b5)
    replace B := Lib.hid (below_more B.out b5)
    clear b5
    go_wp2
    all_goals go_ret
    all_goals exact ⟨by first | rfl | exact ret_bool (by simp; omega) | exact ret_bool (by simp), B.out⟩

end Go.Proofs.Ytkgafapghdjhlaa
