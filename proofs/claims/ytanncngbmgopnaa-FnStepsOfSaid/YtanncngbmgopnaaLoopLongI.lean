/- impl.LoopLong. Conditions: a map and one of its things, or none. -/
import Derived.Test.YtanncngbmgopnaaTail
namespace Go.Proofs.Ytanncngbmgopnaa
open Go.RowKit
set_option linter.unusedVariables false

set_option maxHeartbeats 400000 in
theorem loopLong_yes (A : Option Addr) (n c x t l : Nat) (s : Nat → Nat) (w : World) (hA : View w A n (up s)) (hs : Mp n s) (hx : x < n) (hr : Rho s x t l) :
    Calls Try.prog 41 #[.slice A n c, .int .i64 x] w (RetInt w l) := by
  have h7 := hs.2.1
  have hle := hr.le hs hx
  have HS := Lib.hid hs
  have HR := Lib.hid hr
  clear hs hr
  go_enter Try.func41, Try.ntmps41
  go_wp2_with fail
  refine (thingOk_yes _ _ _ _ _ _ hA HS.out.valid hx).mono ?_
  rintro e w_ ⟨rfl, rfl⟩
  go_wp2_with fail
  refine ((wayFrom_yes _ _ _ _ _ _ _ _ hA HS.out hx HR.out).mono fun _ _ h => RetOwn.lst_ h).mono ?_
  rintro e w2 ⟨A2, c2, rfl, o2, b2⟩
  go_wp2_with fail
  refine (tailOf_yes _ _ _ _ _ _ _ _ (hA.below b2) HS.out hx HR.out).mono ?_
  rintro e w3 ⟨rfl, b3⟩
  go_wp2
  go_ret
  exact ⟨ret_int (by omega), below_more b2 b3⟩

set_option maxHeartbeats 400000 in
theorem loopLong_no (A : Option Addr) (n c : Nat) (x : Int) (p : Nat → Int) (w : World) (hA : View w A n p) (hn : n ≤ 1099511627776) (h : ¬ (Valid n p ∧ 0 ≤ x ∧ x < n)) :
    Calls Try.prog 41 #[.slice A n c, .int .i64 x] w (RetInt w (-1)) := by
  have HH := Lib.hid h
  clear h
  go_enter Try.func41, Try.ntmps41
  go_wp2_with fail
  refine (thingOk_no _ _ _ _ _ _ hA hn HH.out).mono ?_
  rintro e w_ ⟨rfl, rfl⟩
  go_wp2
  go_ret
  exact ⟨rfl, Below.refl _ _⟩

end Go.Proofs.Ytanncngbmgopnaa
