/- laws.FnSameOf answers true. Condition: the code's bounds. -/
import Derived.Test.YtlmgboipnngipaaAlive
import Derived.Test.YtlmgboipnngipaaDrawSameOf
import Derived.Test.YtlmgboipnngipaaLstB
import Derived.Test.YtlmgboipnngipaaSameOf
import Derived.Test.YtlmgboipnngipaaSameInts
import Derived.Test.YtlmgboipnngipaaImageI
namespace Go.Proofs.Ytlmgboipnngipaa
open Go.RowKit
set_option linter.unusedVariables false

theorem imgTo_self (n : Nat) : ∀ k, k ≤ n → imgTo (fun j => j) n k = lst k self := by
  intro k
  induction k with
  | zero => intro _; rfl
  | succ k ih =>
    intro h
    rw [imgTo_hit (j := k) (by omega) rfl, ih (by omega), lst_succ]
    rfl

set_option maxHeartbeats 1000000 in
theorem lawSameOf_walk (A0 : Option Addr) (n0 c0 : Nat) (p0 : Nat → Int) (w : World) (h : Bytes w A0 n0 c0 p0) :
    Calls Try.prog 8 #[.slice A0 n0 c0] w fun e w' => e = .returned (.bool true) ∧ Below w.heap.size w w' := by
  have H := Lib.hid h
  clear h
  by_cases hbig : 1048576 < n0
  · go_enter Try.func8, Try.ntmps8
    go_wp2
    go_ret
    exact ⟨rfl, Below.refl _ _⟩
  go_enter Try.func8, Try.ntmps8
  go_wp2_with fail
  refine (drawSameOf_any A0 n0 c0 p0 w H.out).mono ?_
  rintro e w1 ⟨k, hk, rfl, hb1⟩
  have B := Lib.hid hb1
  clear hb1 hbig
  by_cases hv : 1 ≤ (k : Int) - 1 ∧ (k : Int) - 1 ≤ 7
  · obtain ⟨n, rfl⟩ : ∃ n, k = n + 1 := ⟨k - 1, by omega⟩
    have e1 : ((n + 1 : Nat) : Int) - 1 = n := by omega
    simp only [e1] at *
    have hn1 : 1 ≤ n := by omega
    have hn7 : n ≤ 7 := by omega
    have HMP : Hid (Mp n (fun j => j)) := Lib.hid ⟨hn1, hn7, fun _ h => h⟩
    have HIMG := Lib.hid (imgTo_self n n (Nat.le_refl _))
    clear e1 hv hk
    go_wp2_with fail
    refine (sameOf_yes n _ hn1 hn7).mono ?_
    rintro e w2 ⟨rfl, o2, b2⟩
    have O2 : Hid (View w2 (some ⟨w1.heap.size, 0, none⟩) n self) := Lib.hid o2.viewL
    replace B := Lib.hid (below_more B.out b2)
    clear o2 b2
    go_wp2_with fail
    refine (sSameOf_yes n _ hn1 hn7).mono ?_
    rintro e w3 ⟨v3, rfl, o3, b3⟩
    obtain ⟨A3, c3, rfl, _⟩ := o3.form
    rw [length_lst] at o3
    simp only [length_lst]
    have O3 := Lib.hid o3.viewL
    replace O2 := Lib.hid (O2.out.below b3)
    replace B := Lib.hid (below_more B.out b3)
    clear o3 b3
    go_wp2_with fail
    refine (sameInts_yes _ _ n _ _ self _ O2.out O3.out (by omega)).mono ?_
    rintro e w4 ⟨rfl, b4⟩
    have V : Hid (View w4 (some ⟨w1.heap.size, 0, none⟩) n (up (fun j => j))) := Lib.hid (O2.out.below b4)
    replace B := Lib.hid (below_more B.out b4)
    clear b4 O3 O2
    have hn0 : ((n : Int) == 0) = false := by simp; omega
    go_wp2_with fail
    refine (mapOk_yes _ _ _ _ _ V.out HMP.out.valid).mono ?_
    rintro e w_ ⟨rfl, rfl⟩
    go_wp2_with fail
    refine ((imageOf_yes _ _ _ (fun j => j) _ V.out HMP.out).mono fun _ _ h => by rw [HIMG.out] at h; exact h.lst_).mono ?_
    rintro e w5 ⟨A5, c5, rfl, o5, b5⟩
    have O5 := Lib.hid o5.viewL
    replace V := Lib.hid (V.out.below b5)
    replace B := Lib.hid (below_more B.out b5)
    clear o5 b5
    go_wp2_with fail
    refine (sameInts_yes _ _ n _ _ self _ O5.out V.out (by omega)).mono ?_
    rintro e w6 ⟨rfl, b6⟩
    replace V := Lib.hid (V.out.below b6)
    replace B := Lib.hid (below_more B.out b6)
    clear b6
    go_wp2
    all_goals go_ret
    all_goals exact ⟨by first | rfl | exact ret_bool (by simp; omega) | exact ret_bool (by simp), B.out⟩
  · have hv' : (k : Int) - 1 < 1 ∨ 7 < (k : Int) - 1 := by omega
    have HV := Lib.hid hv'
    go_wp2_with fail
    refine (sameOf_no _ _ HV.out).mono ?_
    rintro e w_ ⟨rfl, rfl⟩
    go_wp2_with fail
    refine (sSameOf_no _ _ HV.out).mono ?_
    rintro e w3 ⟨v3, rfl, o3, b3⟩
    obtain ⟨A3, c3, rfl, _⟩ := o3.form
    have O3 := Lib.hid o3.view
    replace B := Lib.hid (below_more B.out b3)
    clear o3 b3
    go_wp2_with fail
    refine (sameInts_yes none _ 0 _ _ (nth []) _ (fun h => absurd h (by omega)) O3.out (by omega)).mono ?_
    rintro e w4 ⟨rfl, b4⟩
    replace B := Lib.hid (below_more B.out b4)
    clear b4 O3
    have hd : (decide ((k : Int) - 1 < 1) || decide (7 < (k : Int) - 1)) = true := by
      have := HV.out
      simp
      omega
    go_wp2_with fail
    all_goals refine (alive_any _).mono ?_
    all_goals rintro e w5 ⟨rfl, b5⟩
    all_goals replace B := Lib.hid (below_more B.out b5)
    all_goals clear b5
    all_goals go_wp2
    all_goals go_ret
    all_goals exact ⟨by first | rfl | exact ret_bool (by simp; omega) | exact ret_bool (by simp), B.out⟩

end Go.Proofs.Ytlmgboipnngipaa
