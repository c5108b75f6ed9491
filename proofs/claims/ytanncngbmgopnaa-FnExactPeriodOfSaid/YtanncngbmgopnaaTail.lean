/- impl.TailOf: how many things the way from a thing has ahead of its loop. Conditions: a map and one of its things, or none. -/
import Derived.Test.YtanncngbmgopnaaWalked
import Derived.Test.YtanncngbmgopnaaSlIndex
namespace Go.Proofs.Ytanncngbmgopnaa
open Go.RowKit
set_option linter.unusedVariables false

set_option maxHeartbeats 1000000 in
theorem tailOf_yes (A : Option Addr) (n c x t l : Nat) (s : Nat → Nat) (w : World) (hA : View w A n (up s)) (hs : Mp n s) (hx : x < n) (hr : Rho s x t l) :
    Calls Try.prog 42 #[.slice A n c, .int .i64 x] w (RetInt w t) := by
  have h7 := hs.2.1
  have hle := hr.le hs hx
  have hlp := hr.pos
  have HS := Lib.hid hs
  have HR := Lib.hid hr
  clear hs hr
  go_enter Try.func42, Try.ntmps42
  go_wp2_with fail
  refine (thingOk_yes _ _ _ _ _ _ hA HS.out.valid hx).mono ?_
  rintro e w_ ⟨rfl, rfl⟩
  go_wp2_with fail
  refine (walked_any _ _ _ _ _ _ _ _ hA HS.out hx HR.out).mono ?_
  rintro e w1 ⟨A1, c1, rfl, o1, b1⟩
  go_wp2_with fail
  rw [length_lst] at o1
  have v1 := o1.viewL
  refine (slIndex_at _ _ _ t _ _ _ (by rw [length_lst]; exact v1) (by rw [length_lst]; omega) (by rw [length_lst]; omega) rfl ?_).mono ?_
  · intro j hj e
    have h1 := HR.out.2.2 j t hj (by omega)
    simp only [way] at e
    omega
  rintro e w_ ⟨rfl, rfl⟩
  go_wp2
  go_ret
  exact ⟨rfl, b1⟩

set_option maxHeartbeats 1000000 in
theorem tailOf_no (A : Option Addr) (n c : Nat) (x : Int) (p : Nat → Int) (w : World) (hA : View w A n p) (hn : n ≤ 1099511627776) (h : ¬ (Valid n p ∧ 0 ≤ x ∧ x < n)) :
    Calls Try.prog 42 #[.slice A n c, .int .i64 x] w (RetInt w (-1)) := by
  have HH := Lib.hid h
  clear h
  go_enter Try.func42, Try.ntmps42
  go_wp2_with fail
  refine (thingOk_no _ _ _ _ _ _ hA hn HH.out).mono ?_
  rintro e w_ ⟨rfl, rfl⟩
  go_wp2
  go_ret
  exact ⟨rfl, Below.refl _ _⟩

end Go.Proofs.Ytanncngbmgopnaa
