/- A region that draws its order, whose operations read and whose calls make memory alone: one walk in the order of the text (the kit's wp_region_quiet over the class of the later worlds). No condition. -/
import Derived.Test.YtanncngbmgopnaaBase
import Derived.Deep.QuietTactic
import Derived.BigQuiet
import Derived.IntWalk
namespace Go.Proofs.Ytanncngbmgopnaa
open Go.RowKit
set_option linter.unusedVariables false

/-- A world in which all that W holds is as it was. -/
structure Later (W : World) where
  w : World
  b : Below W.heap.size W w

instance laterNonempty (W : World) : Nonempty (Later W) := ⟨⟨W, Below.refl _ _⟩⟩

theorem Later.cell {W : World} (q : Later W) {p : Addr} {v : Value} (h : W.cell? p = some v) : q.w.cell? p = some v := (q.b.cell (World.block_lt_of_cell? _ _ h)).trans h
theorem Later.view {W : World} (q : Later W) {A : Option Addr} {n : Nat} {p : Nat → Int} (h : View W A n p) : View q.w A n p := h.below q.b
theorem later_int {P : Program} {f : FuncId} {args : Array Value} {W : World} {q : Later W} {r : Int} (h : Calls P f args q.w (RetInt q.w r)) :
    Calls P f args q.w fun e w'' => e = .returned (.int .i64 r) ∧ ∃ q' : Later W, w'' = q'.w := h.mono fun e w'' ⟨he, hb⟩ => ⟨he, ⟨w'', below_more q.b hb⟩, rfl⟩
theorem later_bool {P : Program} {f : FuncId} {args : Array Value} {W : World} {q : Later W} {r : Bool} (h : Calls P f args q.w (RetBool q.w r)) :
    Calls P f args q.w fun e w'' => e = .returned (.bool r) ∧ ∃ q' : Later W, w'' = q'.w := h.mono fun e w'' ⟨he, hb⟩ => ⟨he, ⟨w'', below_more q.b hb⟩, rfl⟩
theorem later_same {P : Program} {f : FuncId} {args : Array Value} {W : World} {q : Later W} {v : Value} (h : Calls P f args q.w fun e w' => e = .returned v ∧ q.w = w') :
    Calls P f args q.w fun e w'' => e = .returned v ∧ ∃ q' : Later W, w'' = q'.w := h.mono fun e w'' ⟨he, hb⟩ => ⟨he, q, hb.symm⟩

theorem wp_region_later {P : Program} {id : Nat} {Q : Exit → Act → World → Prop} {a : Act} {W : World} {l : List Oper} (hm : P.follows .mixedOrders = true) (hB : Region.lexB .any l.toArray = true)
    (h : wpQuiet P l.toArray (fun w' => ∃ q : Later W, w' = q.w) (fun a' => ∀ w', (∃ q : Later W, w' = q.w) → Q .normal a' w') l a) : (Code.region id l.toArray true).wp P Q a W :=
  wp_region_quiet (C := fun w' => ∃ q : Later W, w' = q.w) hm hB ⟨⟨_, (Below.refl _ _).drew⟩, rfl⟩ (by simpa using h)

end Go.Proofs.Ytanncngbmgopnaa
