/- laws.eqFound: whether two results are one, at two that are one. No condition. -/
import Derived.Test.YtanncngbmgopnaaWalker
namespace Go.Proofs.Ytanncngbmgopnaa
open Go.RowKit
set_option linter.unusedVariables false

theorem eqFound_any (a b c : Int) (w : World) :
    Calls Try.prog 36 #[.agg #[.int .i64 a, .int .i64 b, .int .i64 c], .agg #[.int .i64 a, .int .i64 b, .int .i64 c]] w fun e w' => e = .returned (.bool true) ∧ Below w.heap.size w w' := by
  have k1 := (Bk.new w #[.int .i64 a, .int .i64 b, .int .i64 c] 41).alloc (.cells #[.int .i64 a, .int .i64 b, .int .i64 c] 41)
  have k2 := Bk.new (w.alloc (.cells #[.int .i64 a, .int .i64 b, .int .i64 c] 41)) #[.int .i64 a, .int .i64 b, .int .i64 c] 41
  rw [World.size_alloc] at k2
  have c10 := k1.cell 0
  have c11 := k1.cell 1
  have c12 := k1.cell 2
  have c20 := k2.cell 0
  have c21 := k2.cell 1
  have c22 := k2.cell 2
  clear k1 k2
  go_enter Try.func36, Try.ntmps36
  go_wp2
  go_ret
  exact ⟨rfl, ((Below.refl _ _).alloc (Nat.le_refl _) _).alloc (by simp) _⟩

end Go.Proofs.Ytanncngbmgopnaa
