/- laws.FnOnLoop answers true. Condition: the code's bounds. -/
import Derived.Test.YtkgafapghdjhlaaDrawOnLoop
import Derived.Test.YtkgafapghdjhlaaAlive
import Derived.Test.YtkgafapghdjhlaaOnLoop
import Derived.Test.YtkgafapghdjhlaaWay
import Derived.Test.YtkgafapghdjhlaaRhoD
namespace Go.Proofs.Ytkgafapghdjhlaa
open Go.RowKit
set_option linter.unusedVariables false

/-- Whether one of the first k things is led to X and lies on a loop. -/
noncomputable def onTo (s : Nat → Nat) (X : Nat) : Nat → Bool
  | 0 => false
  | k + 1 => onTo s X k || (decide (s k = X) && decide ((rho s k).1 = 0))
theorem onTo_iff (s : Nat → Nat) (X : Nat) : ∀ k, onTo s X k = true ↔ ∃ j, j < k ∧ s j = X ∧ (rho s j).1 = 0 := by
  intro k
  induction k with
  | zero => simp [onTo]
  | succ k ih =>
    simp only [onTo, Bool.or_eq_true, Bool.and_eq_true, decide_eq_true_eq, ih]
    constructor
    · rintro (⟨j, hj, h⟩ | h)
      · exact ⟨j, by omega, h⟩
      · exact ⟨k, by omega, h⟩
    · rintro ⟨j, hj, h⟩
      rcases Nat.lt_succ_iff_lt_or_eq.1 hj with h1 | rfl
      · exact .inl ⟨j, h1, h⟩
      · exact .inr h
theorem onTo_is {n : Nat} {s : Nat → Nat} (hs : Mp n s) {X t l : Nat} (hX : X < n) (hr : Rho s X t l) : onTo s X n = decide (t = 0) := by
  rw [Bool.eq_iff_iff, onTo_iff, decide_eq_true_eq]
  constructor
  · rintro ⟨j, hj, rfl, h0⟩
    have h1 := (rho_is hs hj).next
    rw [h0] at h1
    exact (hr.uniq h1).1
  · rintro rfl
    have hl := hr.pos
    refine ⟨it s (l - 1) X, it_lt hs hX _, ?_, ?_⟩
    · show it s (l - 1 + 1) X = X
      rw [show l - 1 + 1 = 0 + l by omega]
      exact hr.back
    · have h1 := hr.later (l - 1)
      rw [Nat.zero_sub] at h1
      exact (tail_is hs (it_lt hs hX _) h1).1

set_option maxHeartbeats 1000000 in
theorem lawOnLoop_walk (A0 : Option Addr) (n0 c0 : Nat) (p0 : Nat → Int) (w : World) (h : Bytes w A0 n0 c0 p0) :
    Calls Try.prog 11 #[.slice A0 n0 c0] w fun e w' => e = .returned (.bool true) ∧ Below w.heap.size w w' := by
  have H := Lib.hid h
  clear h
  by_cases hbig : 1048576 < n0
  · go_enter Try.func11, Try.ntmps11
    go_wp2
    go_ret
    exact ⟨rfl, Below.refl _ _⟩
  go_enter Try.func11, Try.ntmps11
  go_wp2_with fail
  refine (drawOnLoop_any A0 n0 c0 p0 w H.out).mono ?_
  rintro e w1 ⟨A, n, c, zs, x, hn8, rfl, hx1, hx2, how, hb1⟩
  have HV := Lib.hid how.viewL
  have HO := Lib.hid how
  have HB1 := Lib.hid hb1
  clear how hb1 hbig
  by_cases hv : Valid n zs ∧ 0 ≤ x ∧ x < n
  · skip
    obtain ⟨hv, hx0, hxn⟩ := hv
    obtain ⟨X, rfl⟩ : ∃ X : Nat, x = X := ⟨x.toNat, by omega⟩
    have hX : X < n := by omega
    obtain ⟨hs, hzs⟩ := hv.mp
    generalize (fun k => (zs k).toNat) = s at hs hzs
    have HS := Lib.hid hs
    have V := Lib.hid (HV.out.congr hzs)
    have hn1 := hs.1
    have hn7 := hs.2.1
    have HR := Lib.hid (rho_is hs hX)
    have HI := Lib.hid (it_lt hs hX)
    clear hs hzs hv HV HO
    have B := HB1
    clear HB1
    have hle := HR.out.le HS.out hX
    have hlp := HR.out.pos
    have HN := Lib.hid HR.out.next
    have hsX := HS.out.lt hX
    generalize (rho s X).1 = t at HR HN hle
    generalize (rho s X).2 = l at HR HN hle hlp
    have HON := Lib.hid (onTo_is HS.out hX HR.out)
    go_wp2_with fail
    refine (onLoop_yes _ _ _ X t l s _ V.out HS.out hX HR.out).mono ?_
    rintro e w2 ⟨rfl, b2⟩
    replace V := Lib.hid (V.out.below b2)
    replace B := Lib.hid (below_more B.out b2)
    clear b2
    go_wp2_with fail
    refine (sOnLoop_yes _ _ _ X t l s _ V.out HS.out hX HR.out).mono ?_
    rintro e w3 ⟨rfl, b3⟩
    replace V := Lib.hid (V.out.below b3)
    replace B := Lib.hid (below_more B.out b3)
    clear b3
    go_wp2_with fail
    refine ((sWayFrom_yes _ _ _ X t l s _ V.out HS.out hX HR.out).mono fun _ _ h => h.lst_).mono ?_
    rintro e w4 ⟨A4, c4, rfl, o4, b4⟩
    replace V := Lib.hid (V.out.below b4)
    replace B := Lib.hid (below_more B.out b4)
    have O4 := Lib.hid o4.viewL
    clear o4
    clear b4
    have hl0 : ((t : Int) + l == 0) = false := by simp; omega
    generalize hd : decide (t = 0) = d at HON
    go_wp2
    go_loopw [6, 7] (fun a i wr => ∃ k : Nat, k ≤ n ∧ a = .bool (onTo s X k) ∧ i = .int .i64 k ∧ View wr A n (up s) ∧ Below w.heap.size w wr) (fun _ i _ => n - (intOf i).toNat)
    case atStart => exact ⟨0, Nat.zero_le _, rfl, rfl, V.out, B.out⟩
    case round =>
      obtain ⟨k, hk, rfl, rfl, v_, b_⟩ := hrel
      have V := Lib.hid v_
      have B := Lib.hid b_
      clear v_ b_
      by_cases hlt : k < n
      · obtain ⟨g, off, rfl, hg, hc⟩ := V.out (by omega)
        have c1 : wr.cell? ⟨g, off + k, none⟩ = some (.int .i64 (s k : Int)) := hc k hlt
        clear hc
        cases hsm : onTo s X k with
        | true =>
          have HSM := Lib.hid hsm
          clear hsm
          go_wp2
          go_roundw
          case rel => exact ⟨k + 1, by omega, by simp [onTo, HSM.out], by go_num, V.out, B.out⟩
          case measure => simp [intOf]; omega
        | false =>
          have HSM := Lib.hid hsm
          clear hsm
          by_cases hsk : s k = X
          · have hb : ((s k : Int) == (X : Int)) = true := by simp [hsk]
            have HSK := Lib.hid hsk
            clear hsk
            go_wp2_with fail
            refine (onLoop_yes _ _ _ k _ _ s _ V.out HS.out hlt (rho_is HS.out hlt)).mono ?_
            rintro e w5 ⟨rfl, b5⟩
            replace V := Lib.hid (V.out.below b5)
            replace B := Lib.hid (below_more B.out b5)
            clear b5
            have hnew : onTo s X (k + 1) = decide ((rho s k).1 = 0) := by simp [onTo, HSM.out, HSK.out]
            have HNEW := Lib.hid hnew
            clear hnew
            go_wp2
            go_roundw
            case rel => exact ⟨k + 1, by omega, by rw [HNEW.out], by go_num, V.out, B.out⟩
            case measure => simp [intOf]; omega
          · have hb : ((s k : Int) == (X : Int)) = false := by simp; omega
            have HSK := Lib.hid hsk
            clear hsk
            go_wp2
            go_roundw
            case rel => exact ⟨k + 1, by omega, by simp [onTo, HSM.out, HSK.out], by go_num, V.out, B.out⟩
            case measure => simp [intOf]; omega
      · obtain rfl : k = n := by omega
        rw [HON.out]
        cases d with
        | true =>
          have ht0 : t = 0 := by simpa using hd
          rw [show t - 1 = 0 by omega] at HN
          clear hd ht0
          obtain ⟨g, off, rfl, hg, hc⟩ := V.out (by omega)
          have c1 : wr.cell? ⟨g, off + X, none⟩ = some (.int .i64 (s X : Int)) := hc X hX
          clear hc
          go_wp2_with fail
          refine (onLoop_yes _ _ _ (s X) 0 l s _ V.out HS.out hsX HN.out).mono ?_
          rintro e w5 ⟨rfl, b5⟩
          replace V := Lib.hid (V.out.below b5)
          replace B := Lib.hid (below_more B.out b5)
          clear b5
          go_wp2
          all_goals go_ret
          all_goals exact ⟨by first | rfl | exact ret_bool (by simp; omega) | exact ret_bool (by simp), B.out⟩
        | false =>
          clear hd
          go_wp2
          all_goals go_ret
          all_goals exact ⟨by first | rfl | exact ret_bool (by simp; omega) | exact ret_bool (by simp), B.out⟩
  · skip
    have HA := Lib.hid hv
    have V := HV
    have B := HB1
    clear hv HV HB1
    go_wp2_with fail
    refine (onLoop_no _ _ _ x zs _ V.out (by omega) HA.out).mono ?_
    rintro e w2 ⟨rfl, b2⟩
    replace V := Lib.hid (V.out.below b2)
    replace B := Lib.hid (below_more B.out b2)
    clear b2
    go_wp2_with fail
    refine (sOnLoop_no _ _ _ x zs _ V.out (by omega) HA.out).mono ?_
    rintro e w3 ⟨rfl, b3⟩
    replace V := Lib.hid (V.out.below b3)
    replace B := Lib.hid (below_more B.out b3)
    clear b3
    go_wp2_with fail
    refine (sWayFrom_no _ _ _ x zs _ V.out (by omega) HA.out).mono ?_
    rintro e w4 ⟨A4, c4, rfl, o4, b4⟩
    replace V := Lib.hid (V.out.below b4)
    replace B := Lib.hid (below_more B.out b4)
    have O4 := Lib.hid o4
    clear o4
    clear b4
    go_wp2_with fail
    refine (alive_any _).mono ?_
    rintro e w5 ⟨rfl, b5⟩
    replace V := Lib.hid (V.out.below b5)
    replace B := Lib.hid (below_more B.out b5)
    clear b5
    go_wp2
    all_goals go_ret
    all_goals exact ⟨by first | rfl | exact ret_bool (by simp; omega) | exact ret_bool (by simp), B.out⟩

end Go.Proofs.Ytkgafapghdjhlaa
