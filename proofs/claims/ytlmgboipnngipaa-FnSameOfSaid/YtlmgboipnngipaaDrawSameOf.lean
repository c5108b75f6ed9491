/- spec.DrawSameOf: a drawn number. Condition: the code's bounds. -/
import Derived.Test.YtlmgboipnngipaaPick
namespace Go.Proofs.Ytlmgboipnngipaa
open Go.RowKit
set_option linter.unusedVariables false

set_option maxHeartbeats 400000 in
theorem drawSameOf_any (A : Option Addr) (n c : Nat) (q : Nat → Int) (w : World) (hA : Bytes w A n c q) :
    Calls Try.prog 29 #[.slice A n c] w fun e w' => ∃ k : Nat, k < 10 ∧ e = .returned (.int .i64 (k - 1 : Int)) ∧ Below w.heap.size w w' := by
  have HA := Lib.hid hA
  clear hA
  go_enter Try.func29, Try.ntmps29
  go_wp2_with fail
  refine (l20Open_any A n c q w HA.out).mono ?_
  rintro e w1 ⟨rfl, r1, b1⟩
  have B1 := Lib.hid b1
  have hlt := r1.lt
  go_wp2_with fail
  refine (pick_any w.heap.size 0 10 _ r1 (by omega) (by omega) (by omega)).mono ?_
  rintro e w3 ⟨x3, hx3, rfl, r3, g3⟩
  have B3 := Lib.hid (B1.out.grown g3 (by omega) (fun k e => by injection e; omega))
  clear g3 r3 r1 b1
  go_wp2
  go_ret
  exact ⟨x3, hx3, rfl, B3.out⟩

end Go.Proofs.Ytlmgboipnngipaa
