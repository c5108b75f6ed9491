/- spec.DrawFromOf: a drawn list and a number. Condition: the code's bounds. -/
import Derived.Test.YtkgafapghdjhlaaL20At
namespace Go.Proofs.Ytkgafapghdjhlaa
open Go.RowKit
set_option linter.unusedVariables false

set_option maxHeartbeats 400000 in
theorem drawFromOf_any (A : Option Addr) (n c : Nat) (q : Nat → Int) (w : World) (hA : Bytes w A n c q) :
    Calls Try.prog 31 #[.slice A n c] w (RetDrawnAt w) := by
  have HA := Lib.hid hA
  clear hA
  go_enter Try.func31, Try.ntmps31
  go_wp2_with fail
  refine (l20Open_any A n c q w HA.out).mono ?_
  rintro e w1 ⟨rfl, r1, b1⟩
  have B1 := Lib.hid b1
  go_wp2_with fail
  refine (l20Map_any w.heap.size 0 12 _ r1 (by omega) (by omega)).mono ?_
  rintro e w2 ⟨A2, k, c2, zs, hk, rfl, how, ⟨p2, hp2, rd2⟩, b2, hs, _⟩
  have hs1 := b1.size
  have hlt := r1.lt
  have HO := Lib.hid how
  have B2 := Lib.hid b2
  clear r1 b1 b2 how
  go_wp2_with fail
  refine (pick_any w.heap.size p2 9 _ rd2 (by omega) (by omega) (by omega)).mono ?_
  rintro e w3 ⟨x3, hx3, rfl, r3, g3⟩
  have HO3 := Lib.hid (HO.out.kept g3 (.inr fun e => by have := (HO.out.block _ e).1; omega))
  have B3 := Lib.hid (B2.out.grown g3 (by omega) (fun k e => by injection e; omega))
  clear g3 r3 rd2
  go_wp2
  go_ret2
  exact ⟨A2, k, c2, zs, _, hk, rfl, by omega, by omega, HO3.out.mono hs1, B1.out.trans B3.out⟩

end Go.Proofs.Ytkgafapghdjhlaa
