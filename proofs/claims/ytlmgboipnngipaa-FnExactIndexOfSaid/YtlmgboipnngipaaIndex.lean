/- IndexOf of the reference and of the program. Conditions: a map, or none. -/
import Derived.Test.YtlmgboipnngipaaHigh
namespace Go.Proofs.Ytlmgboipnngipaa
open Go.RowKit
set_option linter.unusedVariables false

set_option maxHeartbeats 400000 in
theorem sIndexOf_yes (A : Option Addr) (n c : Nat) (s : Nat → Nat) (w : World) (hA : View w A n (up s)) (hs : Mp n s) :
    Calls Try.prog 46 #[.slice A n c] w (RetInt w (max 1 (hiTo s n))) := by
  have HS := Lib.hid hs
  clear hs
  go_enter Try.func46, Try.ntmps46
  go_wp2_with fail
  refine (sMapOk_yes _ _ _ _ _ hA HS.out.valid).mono ?_
  rintro e w_ ⟨rfl, rfl⟩
  go_wp2_with fail
  refine (sHighOf_yes _ _ _ _ _ hA HS.out).mono ?_
  rintro e w1 ⟨rfl, b1⟩
  go_wp2
  all_goals
    go_ret
    exact ⟨ret_int (by omega), b1⟩

set_option maxHeartbeats 400000 in
theorem sIndexOf_no (A : Option Addr) (n c : Nat) (p : Nat → Int) (w : World) (hA : View w A n p) (hn : n ≤ 1099511627776) (hv : ¬ Valid n p) :
    Calls Try.prog 46 #[.slice A n c] w (RetInt w (-1)) := by
  have HV := Lib.hid hv
  clear hv
  go_enter Try.func46, Try.ntmps46
  go_wp2_with fail
  refine (sMapOk_no _ _ _ _ _ hA HV.out hn).mono ?_
  rintro e w_ ⟨rfl, rfl⟩
  go_wp2
  go_ret
  exact ⟨rfl, Below.refl _ _⟩

set_option maxHeartbeats 400000 in
theorem indexOf_yes (A : Option Addr) (n c : Nat) (s : Nat → Nat) (w : World) (hA : View w A n (up s)) (hs : Mp n s) :
    Calls Try.prog 47 #[.slice A n c] w (RetInt w (max 1 (hiTo s n))) := by
  have HS := Lib.hid hs
  clear hs
  go_enter Try.func47, Try.ntmps47
  go_wp2_with fail
  refine (mapOk_yes _ _ _ _ _ hA HS.out.valid).mono ?_
  rintro e w_ ⟨rfl, rfl⟩
  go_wp2_with fail
  refine (highOf_yes _ _ _ _ _ hA HS.out).mono ?_
  rintro e w1 ⟨rfl, b1⟩
  go_wp2
  all_goals
    go_ret
    exact ⟨ret_int (by omega), b1⟩

set_option maxHeartbeats 400000 in
theorem indexOf_no (A : Option Addr) (n c : Nat) (p : Nat → Int) (w : World) (hA : View w A n p) (hn : n ≤ 1099511627776) (hv : ¬ Valid n p) :
    Calls Try.prog 47 #[.slice A n c] w (RetInt w (-1)) := by
  have HV := Lib.hid hv
  clear hv
  go_enter Try.func47, Try.ntmps47
  go_wp2_with fail
  refine (mapOk_no _ _ _ _ _ hA HV.out hn).mono ?_
  rintro e w_ ⟨rfl, rfl⟩
  go_wp2
  go_ret
  exact ⟨rfl, Below.refl _ _⟩

end Go.Proofs.Ytlmgboipnngipaa
