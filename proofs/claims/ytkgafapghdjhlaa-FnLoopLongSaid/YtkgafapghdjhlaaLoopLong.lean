/- LoopLong of the reference and of the program. Conditions: a map and one of its things, or none. -/
import Derived.Test.YtkgafapghdjhlaaTailSpec
import Derived.Test.YtkgafapghdjhlaaTail
import Derived.Test.YtkgafapghdjhlaaLoopLongI
namespace Go.Proofs.Ytkgafapghdjhlaa
open Go.RowKit
set_option linter.unusedVariables false

set_option maxHeartbeats 400000 in
theorem sLoopLong_yes (A : Option Addr) (n c x t l : Nat) (s : Nat → Nat) (w : World) (hA : View w A n (up s)) (hs : Mp n s) (hx : x < n) (hr : Rho s x t l) :
    Calls Try.prog 56 #[.slice A n c, .int .i64 x] w (RetInt w l) := by
  have h7 := hs.2.1
  have hle := hr.le hs hx
  have HS := Lib.hid hs
  have HR := Lib.hid hr
  clear hs hr
  go_enter Try.func56, Try.ntmps56
  go_wp2_with fail
  refine (sTailOf_yes _ _ _ _ _ _ _ _ hA HS.out hx HR.out).mono ?_
  rintro e w1 ⟨rfl, b1⟩
  go_wp2_with fail
  refine ((sWayFrom_yes _ _ _ _ _ _ _ _ (hA.below b1) HS.out hx HR.out).mono fun _ _ h => RetOwn.lst_ h).mono ?_
  rintro e w2 ⟨A2, c2, rfl, o2, b2⟩
  replace b1 := below_more b1 b2
  go_wp2_with fail
  refine (sTailOf_yes _ _ _ _ _ _ _ _ (hA.below b1) HS.out hx HR.out).mono ?_
  rintro e w3 ⟨rfl, b3⟩
  go_wp2
  go_ret
  exact ⟨ret_int (by omega), below_more b1 b3⟩

set_option maxHeartbeats 400000 in
theorem sLoopLong_no (A : Option Addr) (n c : Nat) (x : Int) (p : Nat → Int) (w : World) (hA : View w A n p) (hn : n ≤ 1099511627776) (h : ¬ (Valid n p ∧ 0 ≤ x ∧ x < n)) :
    Calls Try.prog 56 #[.slice A n c, .int .i64 x] w (RetInt w (-1)) := by
  have HH := Lib.hid h
  clear h
  go_enter Try.func56, Try.ntmps56
  go_wp2_with fail
  refine (sTailOf_no _ _ _ _ _ _ hA hn HH.out).mono ?_
  rintro e w1 ⟨rfl, b1⟩
  go_wp2
  go_ret
  exact ⟨rfl, b1⟩

end Go.Proofs.Ytkgafapghdjhlaa
