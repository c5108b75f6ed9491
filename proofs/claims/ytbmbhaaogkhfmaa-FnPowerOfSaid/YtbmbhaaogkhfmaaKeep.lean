/- What is held over a region that draws its order. No condition. -/
import Derived.Test.YtbmbhaaogkhfmaaBase
import Derived.Deep.RegionHeld3
import Derived.IntWalk
namespace Go.Proofs.Ytbmbhaaogkhfmaa
open Go.RowKit
set_option linter.unusedVariables false

theorem keepV_drew {w : World} {A : Option Addr} {n : Nat} {p : Nat → Int} (h : View w A n p) : View w.drew A n p := h.below (Below.refl _ _).drew
theorem keepB_drew {B : Nat} {a w : World} (h : Below B a w) : Below B a w.drew := h.drew
theorem keepC {w w' : World} {p : Addr} {v : Value} (bb : Below w.heap.size w w') (h : w.cell? p = some v) : w'.cell? p = some v := (bb.cell (World.block_lt_of_cell? _ _ h)).trans h
theorem keepV {w w' : World} {A : Option Addr} {n : Nat} {p : Nat → Int} (bb : Below w.heap.size w w') (h : View w A n p) : View w' A n p := h.below bb
theorem keepB {w w0 w' : World} (bb : Below w.heap.size w w') (h : Below w0.heap.size w0 w) : Below w0.heap.size w0 w' := below_more h bb
theorem keepO_drew {w : World} {b : Nat} {v : Value} {xs : List Int} (h : Own w b v xs) : Own w.drew b v xs := h.below (Below.refl _ _).drew
theorem keepO {w w' : World} {b : Nat} {v : Value} {xs : List Int} (bb : Below w.heap.size w w') (h : Own w b v xs) : Own w' b v xs := h.below bb

end Go.Proofs.Ytbmbhaaogkhfmaa
