/- impl.MeetingOf: where two walkers meet. Conditions: a map and one of its things, or none. -/
import Derived.Test.YtdhgnbfkcpaohaaMeetSpec
namespace Go.Proofs.Ytdhgnbfkcpaohaa
open Go.RowKit
set_option linter.unusedVariables false

theorem ctr_one : Ctr (fun q => #[.int .i64 q]) 0 := ⟨fun q => rfl, fun q r => rfl⟩

set_option maxHeartbeats 1000000 in
theorem meetingOf_yes (A : Option Addr) (n c x t l m : Nat) (s : Nat → Nat) (w : World) (hA : View w A n (up s)) (hs : Mp n s) (hx : x < n) (hr : Rho s x t l) (hmt : Meet s x m) :
    Calls Try.prog 46 #[.slice A n c, .int .i64 x] w (RetTri w m (it s m x) true) := by
  have h7 := hs.2.1
  have hle := hr.le hs hx
  have hml := (hmt.facts hr).2.2.1
  have HS := Lib.hid hs
  have HM := Lib.hid hmt
  clear hs hmt hr
  obtain ⟨gm, off, rfl, hg, hc⟩ := hA (by omega)
  have HC : Hid (Map w gm off n s) := Lib.hid hc
  clear hc
  go_enter Try.func46, Try.ntmps46
  go_wp2_with fail
  refine (thingOk_yes _ _ _ _ _ _ hA HS.out.valid hx).mono ?_
  rintro e w_ ⟨rfl, rfl⟩
  have hb := (Below.refl w.heap.size w).alloc (Nat.le_refl _) (.cells #[.int .i64 0] 3)
  have bk := Bk.new w #[.int .i64 0] 3
  go_wp2_with fail
  refine (meeting_any x m w.heap.size 0 gm off n c 0 s 3 (fun q => #[.int .i64 q]) _ HS.out hx (by omega) (by omega) (HC.out.below hg hb) bk ctr_one hg (by simp) HM.out (by omega)).mono ?_
  rintro e w2 ⟨rfl, bk2, gr2⟩
  go_wp2_with fail
  go_ret3
  exact ⟨rfl, (hb.trans ⟨gr2.os, gr2.tape, gr2.output, gr2.size, fun k hk => gr2.block k (by simp; omega) (fun e => by injection e; omega)⟩)⟩

set_option maxHeartbeats 400000 in
theorem meetingOf_no (A : Option Addr) (n c : Nat) (x : Int) (p : Nat → Int) (w : World) (hA : View w A n p) (hn : n ≤ 1099511627776) (h : ¬ (Valid n p ∧ 0 ≤ x ∧ x < n)) :
    Calls Try.prog 46 #[.slice A n c, .int .i64 x] w (RetTri w (-1) (-1) false) := by
  have HH := Lib.hid h
  clear h
  go_enter Try.func46, Try.ntmps46
  go_wp2_with fail
  refine (thingOk_no _ _ _ _ _ _ hA hn HH.out).mono ?_
  rintro e w_ ⟨rfl, rfl⟩
  go_wp2
  go_ret3
  exact ⟨rfl, Below.refl _ _⟩

end Go.Proofs.Ytdhgnbfkcpaohaa
