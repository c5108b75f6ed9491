/- Words for the two finders: what they hand back, their counters' cells. No condition. -/
import Derived.Test.YtanncngbmgopnaaMeeting
namespace Go.Proofs.Ytanncngbmgopnaa
open Go.RowKit
set_option linter.unusedVariables false

/-- What is found, and whether. -/
def RetFound (w : World) (a b c : Int) (t : Bool) (e : Ending) (w' : World) : Prop := e = .returned (.tuple #[.agg #[.int .i64 a, .int .i64 b, .int .i64 c], .bool t]) ∧ Below w.heap.size w w'

theorem ctr_found (a b : Int) : Ctr (fun q => #[.int .i64 a, .int .i64 b, .int .i64 q]) 2 := ⟨fun q => rfl, fun q r => rfl⟩

theorem Bk.grown {w w' : World} {b g : Nat} {cs : Array Value} {t : TypeId} (h : Bk w b cs t) (hg : w.grownBy w' (some g)) (hne : b ≠ g) : Bk w' b cs t := (hg.block b h.lt (fun e => hne (by injection e))).trans h
theorem Map.grown {w w' : World} {gm off n g : Nat} {s : Nat → Nat} (h : Map w gm off n s) (hg : w.grownBy w' (some g)) (hlt : gm < w.heap.size) (hne : gm ≠ g) : Map w' gm off n s := fun j hj =>
  (World.cell?_of_block (hg.block gm hlt (fun e => hne (by injection e)))).trans (h j hj)
theorem below_grown {W w w' : World} {g : Nat} (h : Below W.heap.size W w) (hg : w.grownBy w' (some g)) (hle : W.heap.size ≤ g) : Below W.heap.size W w' :=
  h.trans ⟨hg.os, hg.tape, hg.output, hg.size, fun k hk => hg.block k (Nat.lt_of_lt_of_le hk h.size) (fun e => by injection e; omega)⟩
theorem Wk.set_ {w : World} {b gm off n c x g o : Nat} (h : Wk w b gm off n c x g o) {a : Addr} (hlt : a.block < b) (u : Value) : Wk (w.setCell a u) b gm off n c x g o :=
  ⟨h.f.far (by omega) u, h.x.far (by omega) u, h.p.far (by omega) u⟩
theorem Map.set_ {w : World} {gm off n : Nat} {s : Nat → Nat} (h : Map w gm off n s) {a : Addr} (hlt : gm ≠ a.block) (u : Value) : Map (w.setCell a u) gm off n s := fun j hj =>
  (World.cell?_of_block (Below.heap_setCell w a u gm hlt)).trans (h j hj)
theorem grown_set {W w : World} {g : Nat} (h : W.grownBy w (some g)) (o : Nat) (u : Value) : W.grownBy (w.setCell ⟨g, o, none⟩ u) (some g) :=
  ⟨h.os, h.tape, h.output, by rw [World.size_setCell]; exact h.size, fun k hk hne => (Below.heap_setCell w ⟨g, o, none⟩ u k (fun e => hne (by rw [e]))).trans (h.block k hk hne)⟩

end Go.Proofs.Ytanncngbmgopnaa
