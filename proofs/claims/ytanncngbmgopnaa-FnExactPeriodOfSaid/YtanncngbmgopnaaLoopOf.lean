/- impl.LoopOf: the least thing of the loop to which a way leads. Conditions: a map and one of its things, or none. -/
import Derived.Test.YtanncngbmgopnaaTail
import Derived.Test.YtanncngbmgopnaaLoopOfSpec
namespace Go.Proofs.Ytanncngbmgopnaa
open Go.RowKit
set_option linter.unusedVariables false

set_option maxHeartbeats 1000000 in
theorem loopOf_yes (A : Option Addr) (n c x t l : Nat) (s : Nat → Nat) (w : World) (hA : View w A n (up s)) (hs : Mp n s) (hx : x < n) (hr : Rho s x t l) :
    Calls Try.prog 63 #[.slice A n c, .int .i64 x] w (RetInt w (least s x t l)) := by
  have h7 := hs.2.1
  have hle := hr.le hs hx
  have hlp := hr.pos
  have HS := Lib.hid hs
  have HR := Lib.hid hr
  clear hs hr
  go_enter Try.func63, Try.ntmps63
  go_wp2_with fail
  refine (thingOk_yes _ _ _ _ _ _ hA HS.out.valid hx).mono ?_
  rintro e w_ ⟨rfl, rfl⟩
  go_wp2_with fail
  refine ((wayFrom_yes _ _ _ _ _ _ _ _ hA HS.out hx HR.out).mono fun _ _ h => RetOwn.lst_ h).mono ?_
  rintro e w2 ⟨A2, c2, rfl, o2, b2⟩
  obtain ⟨g2, rfl, hg1, hg2⟩ := o2.at_ (by omega)
  have hcap := o2.cap
  go_wp2_with fail
  refine (tailOf_yes _ _ _ _ _ _ _ _ (hA.below b2) HS.out hx HR.out).mono ?_
  rintro e w3 ⟨rfl, b3⟩
  have o3 := Own.below o2 b3
  have hne : ¬ c2 = t := by omega
  go_wp2_with fail
  refine (slMin_any _ l _ (fun j => way s x (t + j)) _ (fun _ => ⟨g2, t, rfl, Nat.lt_of_lt_of_le hg2 b3.size, fun k hk => o3.cellL (t + k) (by omega)⟩) hlp (by omega)).mono ?_
  rintro e w_ ⟨rfl, rfl⟩
  go_wp2
  go_ret
  exact ⟨rfl, below_more b2 b3⟩

set_option maxHeartbeats 400000 in
theorem loopOf_no (A : Option Addr) (n c : Nat) (x : Int) (p : Nat → Int) (w : World) (hA : View w A n p) (hn : n ≤ 1099511627776) (h : ¬ (Valid n p ∧ 0 ≤ x ∧ x < n)) :
    Calls Try.prog 63 #[.slice A n c, .int .i64 x] w (RetInt w (-1)) := by
  have HH := Lib.hid h
  clear h
  go_enter Try.func63, Try.ntmps63
  go_wp2_with fail
  refine (thingOk_no _ _ _ _ _ _ hA hn HH.out).mono ?_
  rintro e w_ ⟨rfl, rfl⟩
  go_wp2
  go_ret
  exact ⟨rfl, Below.refl _ _⟩

end Go.Proofs.Ytanncngbmgopnaa
