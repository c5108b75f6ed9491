/- OnLoop and LoopLong of the reference and of the program. Conditions: a map and one of its things, or none. -/
import Derived.Test.YtanncngbmgopnaaTailSpec
import Derived.Test.YtanncngbmgopnaaTail
import Derived.Test.YtanncngbmgopnaaOnLoopI
namespace Go.Proofs.Ytanncngbmgopnaa
open Go.RowKit
set_option linter.unusedVariables false

set_option maxHeartbeats 400000 in
theorem sOnLoop_yes (A : Option Addr) (n c x t l : Nat) (s : Nat → Nat) (w : World) (hA : View w A n (up s)) (hs : Mp n s) (hx : x < n) (hr : Rho s x t l) :
    Calls Try.prog 65 #[.slice A n c, .int .i64 x] w (RetBool w (decide (t = 0))) := by
  have HS := Lib.hid hs
  have HR := Lib.hid hr
  clear hs hr
  by_cases h0 : t = 0
  · subst h0
    go_enter Try.func65, Try.ntmps65
    go_wp2_with fail
    refine (sTailOf_yes _ _ _ _ _ _ _ _ hA HS.out hx HR.out).mono ?_
    rintro e w1 ⟨rfl, b1⟩
    go_wp2
    go_ret
    exact ⟨rfl, b1⟩
  · have ht : ((t : Int) == 0) = false := by simp; omega
    have HD := Lib.hid (decide_eq_false h0)
    clear h0
    go_enter Try.func65, Try.ntmps65
    go_wp2_with fail
    refine (sTailOf_yes _ _ _ _ _ _ _ _ hA HS.out hx HR.out).mono ?_
    rintro e w1 ⟨rfl, b1⟩
    go_wp2
    go_ret
    exact ⟨ret_bool HD.out.symm, b1⟩

set_option maxHeartbeats 400000 in
theorem sOnLoop_no (A : Option Addr) (n c : Nat) (x : Int) (p : Nat → Int) (w : World) (hA : View w A n p) (hn : n ≤ 1099511627776) (h : ¬ (Valid n p ∧ 0 ≤ x ∧ x < n)) :
    Calls Try.prog 65 #[.slice A n c, .int .i64 x] w (RetBool w false) := by
  have HH := Lib.hid h
  clear h
  go_enter Try.func65, Try.ntmps65
  go_wp2_with fail
  refine (sTailOf_no _ _ _ _ _ _ hA hn HH.out).mono ?_
  rintro e w1 ⟨rfl, b1⟩
  go_wp2
  go_ret
  exact ⟨rfl, b1⟩

end Go.Proofs.Ytanncngbmgopnaa
