/- laws.alive answers true. No condition. -/
import Derived.Test.YtanncngbmgopnaaOkImpl
import Derived.Test.YtanncngbmgopnaaWalker
namespace Go.Proofs.Ytanncngbmgopnaa
open Go.RowKit
set_option linter.unusedVariables false

theorem lit2_view (w : World) (a b : Int) : View (w.alloc (.cells #[.int .i64 a, .int .i64 b] 3)) (some ⟨w.heap.size, 0, none⟩) 2 (nth [a, b]) := fun _ => by
  have h := Bk.new w #[.int .i64 a, .int .i64 b] 3
  refine ⟨w.heap.size, 0, rfl, h.lt, fun k hk => ?_⟩
  have hk2 : k = 0 ∨ k = 1 := by omega
  rcases hk2 with rfl | rfl
  · exact h.cell 0
  · exact h.cell 1
theorem below_lit2 (w : World) (a b : Int) : Below w.heap.size w (w.alloc (.cells #[.int .i64 a, .int .i64 b] 3)) := (Below.refl _ _).alloc (Nat.le_refl _) _

theorem valid10 : Valid 2 (nth [1, 0]) := ⟨by omega, by omega, fun k hk => by
  have hk2 : k = 0 ∨ k = 1 := by omega
  rcases hk2 with rfl | rfl
  · decide
  · decide⟩
theorem valid20 : ¬ Valid 2 (nth [2, 0]) := fun h => by
  have := h.2.2 0 (by omega)
  revert this
  decide

set_option maxHeartbeats 400000 in
theorem alive_any (w : World) : Calls Try.prog 28 #[] w (RetBool w true) := by
  have b1 := Lib.hid (below_lit2 w 1 0)
  have b2 := Lib.hid (below_lit2 (w.alloc (.cells #[.int .i64 1, .int .i64 0] 3)) 2 0)
  go_enter Try.func28, Try.ntmps28
  go_wp2_with fail
  refine (mapOk_yes _ _ _ _ _ (lit2_view w 1 0) valid10).mono ?_
  rintro e w_ ⟨rfl, rfl⟩
  go_wp2_with fail
  have hv := lit2_view (w.alloc (.cells #[.int .i64 1, .int .i64 0] 3)) 2 0
  simp only [World.size_alloc] at hv
  refine (mapOk_no _ _ _ _ _ hv valid20 (by omega)).mono ?_
  rintro e w_ ⟨rfl, rfl⟩
  go_wp2
  go_ret
  exact ⟨rfl, below_more b1.out b2.out⟩

end Go.Proofs.Ytanncngbmgopnaa
