/- impl.thingOk: whether a row is a map and a number one of its things. Condition: the length's bound. -/
import Derived.Test.YtanncngbmgopnaaOkImpl
namespace Go.Proofs.Ytanncngbmgopnaa
open Go.RowKit

set_option maxHeartbeats 400000 in
theorem thingOk_yes (A : Option Addr) (n c x : Nat) (p : Nat → Int) (w : World) (hA : View w A n p) (hv : Valid n p) (hx : x < n) :
    Calls Try.prog 70 #[.slice A n c, .int .i64 x] w fun e w' => e = .returned (.bool true) ∧ w = w' := by
  have h7 := hv.2.1
  have HV := Lib.hid hv
  clear hv
  go_enter Try.func70, Try.ntmps70
  go_wp2_with fail
  refine (mapOk_yes _ _ _ _ _ hA HV.out).mono ?_
  rintro e w_ ⟨rfl, rfl⟩
  go_wp2
  go_ret
  exact ⟨rfl, rfl⟩

set_option maxHeartbeats 400000 in
theorem thingOk_no (A : Option Addr) (n c : Nat) (x : Int) (p : Nat → Int) (w : World) (hA : View w A n p) (hn : n ≤ 1099511627776) (h : ¬ (Valid n p ∧ 0 ≤ x ∧ x < n)) :
    Calls Try.prog 70 #[.slice A n c, .int .i64 x] w fun e w' => e = .returned (.bool false) ∧ w = w' := by
  by_cases hv : Valid n p
  · have HV := Lib.hid hv
    by_cases h0 : 0 ≤ x
    · have h1 : ¬ x < n := fun h1 => h ⟨hv, h0, h1⟩
      clear hv h
      go_enter Try.func70, Try.ntmps70
      go_wp2_with fail
      refine (mapOk_yes _ _ _ _ _ hA HV.out).mono ?_
      rintro e w_ ⟨rfl, rfl⟩
      go_wp2
      go_ret
      exact ⟨ret_bool (decide_eq_false (by omega)), rfl⟩
    · clear hv h
      go_enter Try.func70, Try.ntmps70
      go_wp2_with fail
      refine (mapOk_yes _ _ _ _ _ hA HV.out).mono ?_
      rintro e w_ ⟨rfl, rfl⟩
      go_wp2
      go_ret
      exact ⟨rfl, rfl⟩
  · have HV := Lib.hid hv
    clear hv h
    go_enter Try.func70, Try.ntmps70
    go_wp2_with fail
    refine (mapOk_no _ _ _ _ _ hA HV.out hn).mono ?_
    rintro e w_ ⟨rfl, rfl⟩
    go_wp2
    go_ret
    exact ⟨rfl, rfl⟩

end Go.Proofs.Ytanncngbmgopnaa
