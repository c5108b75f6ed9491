/- spec.l1In: whether a number lies between two others. No condition. -/
import Derived.Test.YtanncngbmgopnaaBase
namespace Go.Proofs.Ytanncngbmgopnaa
open Go.RowKit

theorem l1In_yes (a lo hi : Int) (w : World) (h0 : lo ≤ a) (h1 : a ≤ hi) :
    Calls Try.prog 69 #[.int .i64 a, .int .i64 lo, .int .i64 hi] w fun e w' => e = .returned (.bool true) ∧ w = w' := by
  go_enter Try.func69, Try.ntmps69
  go_wp2
  go_ret
  exact ⟨rfl, rfl⟩

theorem l1In_no (a lo hi : Int) (w : World) (h : ¬ (lo ≤ a ∧ a ≤ hi)) :
    Calls Try.prog 69 #[.int .i64 a, .int .i64 lo, .int .i64 hi] w fun e w' => e = .returned (.bool false) ∧ w = w' := by
  by_cases h0 : lo ≤ a
  · have h1 : ¬ a ≤ hi := fun h1 => h ⟨h0, h1⟩
    clear h
    go_enter Try.func69, Try.ntmps69
    go_wp2
    go_ret
    first | exact ⟨rfl, rfl⟩ | exact ⟨ret_bool (decide_eq_false (by omega)), rfl⟩
  · clear h
    go_enter Try.func69, Try.ntmps69
    go_wp2
    go_ret
    exact ⟨rfl, rfl⟩

end Go.Proofs.Ytanncngbmgopnaa
