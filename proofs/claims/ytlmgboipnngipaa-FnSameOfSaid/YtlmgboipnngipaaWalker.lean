/- Words for blocks and their cells. No condition. -/
import Derived.Test.YtlmgboipnngipaaMath
import Derived.OneCell
namespace Go.Proofs.Ytlmgboipnngipaa
open Go.RowKit
set_option linter.unusedVariables false

/-- Block b is just the cells cs. -/
def Bk (w : World) (b : Nat) (cs : Array Value) (t : TypeId) : Prop := w.heap[b]? = some (.cells cs t (0, 0))

/-- All blocks but two are as they were, and no block has come. -/
structure Only (w w' : World) (p q : Nat) : Prop where
  os : w'.os = w.os
  tape : w'.tape = w.tape
  output : w'.output = w.output
  size : w'.heap.size = w.heap.size
  block : ∀ i, i ≠ p → i ≠ q → w'.heap[i]? = w.heap[i]?

section
variable {w w' : World} {b g p q : Nat} {cs : Array Value} {t : TypeId}
theorem Bk.lt (h : Bk w b cs t) : b < w.heap.size := lt_of_block h
theorem Bk.cell (h : Bk w b cs t) (o : Nat) : w.cell? ⟨b, o, none⟩ = cs[o]? := cell_of_row w b o cs t (0, 0) h
theorem Bk.free (h : Bk w b cs t) (o : Nat) : w.frozen? ⟨b, o, none⟩ = false := by
  unfold Bk at h
  simp [World.frozen?, h]
theorem Bk.new (w : World) (cs : Array Value) (t : TypeId) : Bk (w.alloc (.cells cs t)) w.heap.size cs t := heap_alloc_new w _
theorem Bk.alloc (h : Bk w b cs t) (o : Obj) : Bk (w.alloc o) b cs t := (Below.heap_alloc w o b h.lt).trans h
theorem Bk.set_ (h : Bk w b cs t) (o : Nat) (u : Value) : Bk (w.setCell ⟨b, o, none⟩ u) b (cs.setIfInBounds o u) t := by
  unfold Bk at h ⊢
  simp [World.setCell, Array.getElem?_modify, h]
theorem Bk.far (h : Bk w b cs t) {a : Addr} (hne : b ≠ a.block) (u : Value) : Bk (w.setCell a u) b cs t := (Below.heap_setCell w a u b hne).trans h
theorem Bk.below (h : Bk w b cs t) (hb : Below w.heap.size w w') : Bk w' b cs t := (hb.block b h.lt).trans h
theorem Bk.only (h : Bk w b cs t) (ho : Only w w' p q) (h1 : b ≠ p) (h2 : b ≠ q) : Bk w' b cs t := (ho.block b h1 h2).trans h
theorem Only.refl (w : World) (p q : Nat) : Only w w p q := ⟨rfl, rfl, rfl, rfl, fun _ _ _ => rfl⟩
theorem Only.set1 {a : World} (h : Only w a p q) (o : Nat) (u : Value) : Only w (a.setCell ⟨p, o, none⟩ u) p q :=
  ⟨h.os, h.tape, h.output, by rw [← h.size]; simp [World.setCell], fun i h1 h2 => (Below.heap_setCell a ⟨p, o, none⟩ u i h1).trans (h.block i h1 h2)⟩
theorem Only.set2 {a : World} (h : Only w a p q) (o : Nat) (u : Value) : Only w (a.setCell ⟨q, o, none⟩ u) p q :=
  ⟨h.os, h.tape, h.output, by rw [← h.size]; simp [World.setCell], fun i h1 h2 => (Below.heap_setCell a ⟨q, o, none⟩ u i h2).trans (h.block i h1 h2)⟩
theorem Only.cell (h : Only w w' p q) {i o : Nat} (h1 : i ≠ p) (h2 : i ≠ q) : w'.cell? ⟨i, o, none⟩ = w.cell? ⟨i, o, none⟩ := World.cell?_of_block (h.block i h1 h2)
theorem Only.below {B : Nat} (h : Only w w' p q) (h1 : B ≤ p) (h2 : B ≤ q) : Below B w w' := ⟨h.os, h.tape, h.output, by rw [h.size]; exact Nat.le_refl _, fun k hk => h.block k (by omega) (by omega)⟩
theorem Only.grown (h : Only w w' p q) {B : World} (hB : Below B.heap.size B w) (h1 : B.heap.size ≤ p) : B.grownBy w' (some q) :=
  ⟨h.os.trans hB.os, h.tape.trans hB.tape, h.output.trans hB.output, by rw [h.size]; exact hB.size, fun k hk hne => (h.block k (by omega) (fun e => hne (by rw [e]))).trans (hB.block k hk)⟩
end

end Go.Proofs.Ytlmgboipnngipaa
