/- The reference's LoopsOf. Conditions: a map, or none. -/
import Derived.Test.YtanncngbmgopnaaLoops
namespace Go.Proofs.Ytanncngbmgopnaa
open Go.RowKit
set_option linter.unusedVariables false

theorem below_ss (w : World) : Below w.heap.size w (w.alloc (.cells #[] 22)) := (Below.refl _ _).alloc (Nat.le_refl _) _

set_option maxHeartbeats 1000000 in
theorem sLoopsOf_yes (A : Option Addr) (n c : Nat) (s : Nat → Nat) (w : World) (hA : View w A n (up s)) (hs : Mp n s) :
    Calls Try.prog 26 #[.slice A n c] w (RetSS w (heads s n).length (rows s n)) := by
  have hn7 := hs.2.1
  have HS := Lib.hid hs
  clear hs
  go_enter Try.func26, Try.ntmps26
  go_wp2
  go_loopw [3, 4] (fun v i wr => ∃ (k : Nat) (vs : Nat → Value), k ≤ n ∧ i = .int .i64 k ∧ Lp w wr s v k vs) (fun _ i _ => n - (intOf i).toNat)
  case atStart => exact ⟨0, fun _ => undef, Nat.zero_le _, rfl, OwnSS.empty w _ _, below_ss w⟩
  case round =>
    obtain ⟨k, vs, hk, rfl, lp⟩ := hrel
    have LP := Lib.hid lp
    have hA' := hA.below lp.2
    clear lp
    by_cases hlt : k < n
    · have HR := Lib.hid (rho_is HS.out hlt)
      go_wp2_with fail
      refine (sMapOk_yes _ _ _ _ _ hA' HS.out.valid).mono ?_
      rintro e w_ ⟨rfl, rfl⟩
      by_cases h0 : (rho s k).1 = 0
      · have H0 := Lib.hid (decide_eq_true h0)
        clear h0
        go_wp2_with fail
        refine ((sOnLoop_yes _ _ _ _ _ _ _ _ hA' HS.out hlt HR.out).mono (R' := RetBool wr true) fun _ _ h => by rw [H0.out] at h; exact h).mono ?_
        rintro e w1 ⟨rfl, b1⟩
        have hA1 := hA'.below b1
        have HB1 := Lib.hid b1
        clear b1
        go_wp2_with fail
        refine ((sLoopOf_yes _ _ _ _ _ _ _ _ hA1 HS.out hlt HR.out).mono (R' := RetInt w1 (lot s k)) fun _ _ h => h).mono ?_
        rintro e w2 ⟨rfl, b2⟩
        have hA2 := hA1.below b2
        have HB2 := Lib.hid (below_more HB1.out b2)
        clear b2
        by_cases hm : lot s k = (k : Int)
        · have ht : (lot s k == (k : Int)) = true := by simp [hm]
          have HM := Lib.hid hm
          have O2 := Lib.hid (LP.out.1.below HB2.out)
          have B2 := Lib.hid (below_more LP.out.2 HB2.out)
          clear hm HB1 HB2
          go_wp2_with fail
          refine ((sWayFrom_yes _ _ _ _ _ _ _ _ hA2 HS.out hlt HR.out).mono (R' := RetOwn w2 (rowOf s k)) fun _ _ h => h).mono ?_
          rintro e w3 ⟨A3, c3, rfl, o3, b3⟩
          have HO := Lib.hid (O2.out.below b3)
          have B3 := Lib.hid (below_more B2.out b3)
          have HAP := Lib.hid (new_ap O2.out o3)
          have HO3 := Lib.hid (o3.mono B2.out.size)
          have hhl := heads_le s k
          have hsz := B3.out.size
          clear o3 b3 O2 B2
          go_wp2_with (at_builtin; refine wpList_appSS rfl (.tmp 26) (.tmp 30) rfl w.heap.size _ _ vs _ rfl HO.out _ _ HO3.out HAP.out rfl (by omega) hsz ?_; intro v4 w4 how4 hb4)
          have L4 := Lib.hid (Lp.hit HM.out how4 (B3.out.trans hb4))
          clear how4 hb4 ht
          go_roundw
          case rel => exact ⟨k + 1, _, by omega, by go_num, L4.out⟩
          case measure => simp [intOf]; omega
        · have ht : (lot s k == (k : Int)) = false := by simpa using hm
          have L3 := Lib.hid (LP.out.miss HB2.out hm)
          clear hm LP HB1 HB2
          go_wp2
          go_roundw
          case rel => exact ⟨k + 1, _, by omega, by go_num, L3.out⟩
          case measure => simp [intOf]; omega
      · have H0 := Lib.hid (decide_eq_false h0)
        have HM : Hid (¬ lot s k = (k : Int)) := Lib.hid (fun hm => h0 (head_tail HS.out hlt hm))
        clear h0
        go_wp2_with fail
        refine ((sOnLoop_yes _ _ _ _ _ _ _ _ hA' HS.out hlt HR.out).mono (R' := RetBool wr false) fun _ _ h => by rw [H0.out] at h; exact h).mono ?_
        rintro e w1 ⟨rfl, b1⟩
        have L3 := Lib.hid (LP.out.miss b1 HM.out)
        clear b1 LP
        go_wp2
        go_roundw
        case rel => exact ⟨k + 1, _, by omega, by go_num, L3.out⟩
        case measure => simp [intOf]; omega
    · obtain rfl : k = n := by omega
      go_wp2
      go_ret
      exact RetSS.of_ rfl LP.out.1 LP.out.2

set_option maxHeartbeats 400000 in
theorem sLoopsOf_no (A : Option Addr) (n c : Nat) (p : Nat → Int) (xs : Nat → List Int) (w : World) (hA : View w A n p) (hn : n ≤ 1099511627776) (hv : ¬ Valid n p) :
    Calls Try.prog 26 #[.slice A n c] w (RetSS w 0 xs) := by
  have HV := Lib.hid hv
  clear hv
  by_cases h0 : 0 < n
  · go_enter Try.func26, Try.ntmps26
    go_wp2
    refine wp_loop_rounds 1 ?_
    rw [rounds_succ]
    go_wp2_with fail
    refine (sMapOk_no _ _ _ _ _ (hA.below (below_ss w)) HV.out hn).mono ?_
    rintro e w_ ⟨rfl, rfl⟩
    go_wp2
    go_ret
    exact RetSS.of_ rfl (OwnSS.empty w (fun _ => undef) _) (below_ss w)
  · go_enter Try.func26, Try.ntmps26
    go_wp2
    refine wp_loop_rounds 1 ?_
    rw [rounds_succ]
    go_wp2
    go_ret
    exact RetSS.of_ rfl (OwnSS.empty w (fun _ => undef) _) (below_ss w)

/-- spec.LoopsOf and impl.LoopsOf give alike. -/
theorem bothLoopsOf (n : Nat) (p : Nat → Int) (hn : n ≤ 1048576) :
    ∃ (m : Nat) (xs : Nat → List Int), m ≤ 7 ∧ (∀ i, i < m → (xs i).length ≤ 7) ∧ (∀ A c w, View w A n p → Calls Try.prog 26 #[.slice A n c] w (RetSS w m xs)) ∧ (∀ A c w, View w A n p → Calls Try.prog 24 #[.slice A n c] w (RetSS w m xs)) := by
  by_cases hv : Valid n p
  · obtain ⟨hs, es⟩ := hv.mp
    exact ⟨_, _, by have := heads_le (fun k => (p k).toNat) n; have := hs.2.1; omega, fun i hi => by have := (rows_len hs hi).2; have := hs.2.1; omega, fun A c w hA => sLoopsOf_yes A n c _ w (hA.congr es) hs, fun A c w hA => loopsOf_yes A n c _ w (hA.congr es) hs⟩
  · exact ⟨0, fun _ => [], by omega, fun i hi => by omega, fun A c w hA => sLoopsOf_no A n c p _ w hA (by omega) hv, fun A c w hA => loopsOf_no A n c p _ w hA (by omega) hv⟩

end Go.Proofs.Ytanncngbmgopnaa
