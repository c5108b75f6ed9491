/- Words for the ways. No condition. -/
import Derived.Test.YtanncngbmgopnaaApp
import Derived.Test.YtanncngbmgopnaaMask
import Derived.Test.YtanncngbmgopnaaOkImpl
import Derived.Test.YtanncngbmgopnaaThingOk
import Derived.Test.YtanncngbmgopnaaL1In
namespace Go.Proofs.Ytanncngbmgopnaa
open Go.RowKit
set_option linter.unusedVariables false

/-- The k-th thing on the way from x. -/
def way (s : Nat → Nat) (x : Nat) (k : Nat) : Int := (it s k x : Int)

/-- A slice's length. -/
def lenOf : Value → Nat | .slice _ n _ => n | _ => 0
theorem lenOf_own {w : World} {base : Nat} {v : Value} {xs : List Int} (h : Own w base v xs) : lenOf v = xs.length := by
  obtain ⟨A, c, rfl, _⟩ := h.form
  rfl
theorem own_empty' (w : World) : Own (w.alloc (.cells #[] 3)) w.heap.size (.slice (some ⟨w.heap.size, 0, none⟩) 0 0) [] := World.ownsRow_lit w #[] 0 (Nat.le_refl _) (Nat.zero_le _) rfl
theorem below_empty' (w : World) : Below w.heap.size w (w.alloc (.cells #[] 3)) := (Below.refl _ _).alloc (Nat.le_refl _) _

end Go.Proofs.Ytanncngbmgopnaa
