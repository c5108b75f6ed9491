/- impl.walkerOn: a walker on the way from a thing, that counts how often it asks the map. Conditions: a map, and where the blocks lie. -/
import Derived.Test.YtanncngbmgopnaaMath
import Derived.OneCell
namespace Go.Proofs.Ytanncngbmgopnaa
open Go.RowKit
set_option linter.unusedVariables false

/-- Block b is just the cells cs. -/
def Bk (w : World) (b : Nat) (cs : Array Value) (t : TypeId) : Prop := w.heap[b]? = some (.cells cs t (0, 0))

/-- All blocks but two are as they were, and no block has come. -/
structure Only (w w' : World) (p q : Nat) : Prop where
  os : w'.os = w.os
  tape : w'.tape = w.tape
  output : w'.output = w.output
  size : w'.heap.size = w.heap.size
  block : ∀ i, i ≠ p → i ≠ q → w'.heap[i]? = w.heap[i]?

section
variable {w w' : World} {b g p q : Nat} {cs : Array Value} {t : TypeId}
theorem Bk.lt (h : Bk w b cs t) : b < w.heap.size := lt_of_block h
theorem Bk.cell (h : Bk w b cs t) (o : Nat) : w.cell? ⟨b, o, none⟩ = cs[o]? := cell_of_row w b o cs t (0, 0) h
theorem Bk.free (h : Bk w b cs t) (o : Nat) : w.frozen? ⟨b, o, none⟩ = false := by
  unfold Bk at h
  simp [World.frozen?, h]
theorem Bk.new (w : World) (cs : Array Value) (t : TypeId) : Bk (w.alloc (.cells cs t)) w.heap.size cs t := heap_alloc_new w _
theorem Bk.alloc (h : Bk w b cs t) (o : Obj) : Bk (w.alloc o) b cs t := (Below.heap_alloc w o b h.lt).trans h
theorem Bk.set_ (h : Bk w b cs t) (o : Nat) (u : Value) : Bk (w.setCell ⟨b, o, none⟩ u) b (cs.setIfInBounds o u) t := by
  unfold Bk at h ⊢
  simp [World.setCell, Array.getElem?_modify, h]
theorem Bk.far (h : Bk w b cs t) {a : Addr} (hne : b ≠ a.block) (u : Value) : Bk (w.setCell a u) b cs t := (Below.heap_setCell w a u b hne).trans h
theorem Bk.below (h : Bk w b cs t) (hb : Below w.heap.size w w') : Bk w' b cs t := (hb.block b h.lt).trans h
theorem Bk.only (h : Bk w b cs t) (ho : Only w w' p q) (h1 : b ≠ p) (h2 : b ≠ q) : Bk w' b cs t := (ho.block b h1 h2).trans h
theorem Only.refl (w : World) (p q : Nat) : Only w w p q := ⟨rfl, rfl, rfl, rfl, fun _ _ _ => rfl⟩
theorem Only.set1 {a : World} (h : Only w a p q) (o : Nat) (u : Value) : Only w (a.setCell ⟨p, o, none⟩ u) p q :=
  ⟨h.os, h.tape, h.output, by rw [← h.size]; simp [World.setCell], fun i h1 h2 => (Below.heap_setCell a ⟨p, o, none⟩ u i h1).trans (h.block i h1 h2)⟩
theorem Only.set2 {a : World} (h : Only w a p q) (o : Nat) (u : Value) : Only w (a.setCell ⟨q, o, none⟩ u) p q :=
  ⟨h.os, h.tape, h.output, by rw [← h.size]; simp [World.setCell], fun i h1 h2 => (Below.heap_setCell a ⟨q, o, none⟩ u i h2).trans (h.block i h1 h2)⟩
theorem Only.cell (h : Only w w' p q) {i o : Nat} (h1 : i ≠ p) (h2 : i ≠ q) : w'.cell? ⟨i, o, none⟩ = w.cell? ⟨i, o, none⟩ := World.cell?_of_block (h.block i h1 h2)
theorem Only.below {B : Nat} (h : Only w w' p q) (h1 : B ≤ p) (h2 : B ≤ q) : Below B w w' := ⟨h.os, h.tape, h.output, by rw [h.size]; exact Nat.le_refl _, fun k hk => h.block k (by omega) (by omega)⟩
theorem Only.grown (h : Only w w' p q) {B : World} (hB : Below B.heap.size B w) (h1 : B.heap.size ≤ p) : B.grownBy w' (some q) :=
  ⟨h.os.trans hB.os, h.tape.trans hB.tape, h.output.trans hB.output, by rw [h.size]; exact hB.size, fun k hk hne => (h.block k (by omega) (fun e => hne (by rw [e]))).trans (hB.block k hk)⟩
end

/-- The walker at block b stands on x; it walks the map at gm and counts at g, o. -/
structure Wk (w : World) (b gm off n c x g o : Nat) : Prop where
  f : Bk w b #[.slice (some ⟨gm, off, none⟩) n c] 22
  x : Bk w (b + 1) #[.int .i64 (x : Int)] 3
  p : Bk w (b + 2) #[.pointer (some ⟨g, o, none⟩)] 63

/-- A counter in the cells of a block. -/
structure Ctr (C : Int → Array Value) (o : Nat) : Prop where
  get : ∀ q, (C q)[o]? = some (.int .i64 q)
  put : ∀ q r, (C q).setIfInBounds o (.int .i64 r) = C r

/-- The walker's value. -/
def wkv (b : Nat) : Value := .func (.func 88) #[] #[.pointer (some ⟨b, 0, none⟩), .pointer (some ⟨b + 1, 0, none⟩), .pointer (some ⟨b + 2, 0, none⟩)]

/-- What a walker's call gives: where it stands, the counter k more, all else as it was. -/
def Stepped (w : World) (b gm off n c y g o : Nat) (C : Int → Array Value) (tC : TypeId) (q : Int) (e : Ending) (w' : World) : Prop :=
  e = .returned (.int .i64 (y : Int)) ∧ Wk w' b gm off n c y g o ∧ Bk w' g (C q) tC ∧ Only w w' (b + 1) g

set_option maxHeartbeats 1000000 in
theorem walker_step (k x b g o gm off n c : Nat) (q : Int) (s : Nat → Nat) (tC : TypeId) (C : Int → Array Value) (w : World) (hs : Mp n s) (hx : x < n) (hk : k ≤ 1000) (q0 : 0 ≤ q) (q1 : q ≤ 1000000)
    (hm : ∀ j, j < n → w.cell? ⟨gm, off + j, none⟩ = some (.int .i64 (s j : Int))) (hw : Wk w b gm off n c x g o) (hC : Bk w g (C q) tC) (ct : Ctr C o) (d1 : gm < g) (d2 : g < b) :
    Calls Try.prog 88 #[.int .i64 k, .pointer (some ⟨b, 0, none⟩), .pointer (some ⟨b + 1, 0, none⟩), .pointer (some ⟨b + 2, 0, none⟩)] w (Stepped w b gm off n c (it s k x) g o C tC (q + k)) := by
  have hn7 := hs.2.1
  have HI := Lib.hid (it_lt hs hx)
  have HM := Lib.hid hm
  obtain ⟨w1, w2, w3⟩ := hw
  clear hs hm
  go_enter Try.func88, Try.ntmps88
  go_wp2
  go_loopw [7] (fun i wr => ∃ j : Nat, j ≤ k ∧ i = .int .i64 j ∧ Bk wr (b + 1) #[.int .i64 (it s j x : Int)] 3 ∧ Bk wr g (C (q + j)) tC ∧ Only w wr (b + 1) g) (fun i _ => k - (intOf i).toNat)
  case atStart => exact ⟨0, Nat.zero_le _, rfl, w2, by rw [show q + ((0 : Nat) : Int) = q by omega]; exact hC, Only.refl _ _ _⟩
  case round =>
    obtain ⟨j, hj, rfl, hx', hc', ho⟩ := hrel
    have f' : Bk wr b _ _ := w1.only ho (by omega) (by omega)
    have p' : Bk wr (b + 2) _ _ := w3.only ho (by omega) (by omega)
    by_cases hlt : j < k
    · have hi := HI.out j
      have e1 : wr.cell? ⟨b, 0, none⟩ = some (.slice (some ⟨gm, off, none⟩) n c) := f'.cell 0
      have e2 : wr.cell? ⟨b + 1, 0, none⟩ = some (.int .i64 (it s j x : Int)) := hx'.cell 0
      have e2f := hx'.free 0
      have e3 : wr.cell? ⟨gm, off + it s j x, none⟩ = some (.int .i64 (it s (j + 1) x : Int)) := (ho.cell (by omega) (by omega)).trans (HM.out _ hi)
      have hc2 := hc'.far (a := ⟨b + 1, 0, none⟩) (show g ≠ b + 1 by omega) (.int .i64 (it s (j + 1) x : Int))
      have p2 := p'.far (a := ⟨b + 1, 0, none⟩) (show b + 2 ≠ b + 1 by omega) (.int .i64 (it s (j + 1) x : Int))
      have x2 := hx'.set_ 0 (.int .i64 (it s (j + 1) x : Int))
      have e4 : (wr.setCell ⟨b + 1, 0, none⟩ (.int .i64 (it s (j + 1) x : Int))).cell? ⟨b + 2, 0, none⟩ = some (.pointer (some ⟨g, o, none⟩)) := p2.cell 0
      have e4' : wr.cell? ⟨b + 2, 0, none⟩ = some (.pointer (some ⟨g, o, none⟩)) := p'.cell 0
      have e5 : (wr.setCell ⟨b + 1, 0, none⟩ (.int .i64 (it s (j + 1) x : Int))).cell? ⟨g, o, none⟩ = some (.int .i64 (q + j)) := (hc2.cell o).trans (ct.get _)
      have e5f := hc2.free o
      have hc3 := hc2.set_ o (.int .i64 (q + j + 1))
      rw [ct.put] at hc3
      have x3 := x2.far (a := ⟨g, o, none⟩) (show b + 1 ≠ g by omega) (.int .i64 (q + j + 1))
      have ho3 := (ho.set1 0 (.int .i64 (it s (j + 1) x : Int))).set2 o (.int .i64 (q + j + 1))
      go_wp2
      go_roundw
      case rel => exact ⟨j + 1, by omega, by go_num, x3, by rw [show q + ((j + 1 : Nat) : Int) = q + j + 1 by omega]; exact hc3, ho3⟩
      case measure => simp [intOf]; omega
    · obtain rfl : j = k := by omega
      have e2 : wr.cell? ⟨b + 1, 0, none⟩ = some (.int .i64 (it s j x : Int)) := hx'.cell 0
      go_wp2
      go_ret
      exact ⟨rfl, ⟨f', hx', p'⟩, hc', ho⟩

set_option maxHeartbeats 1000000 in
theorem walkerOn_any (x g o gm off n c : Nat) (w : World) :
    Calls Try.prog 71 #[.slice (some ⟨gm, off, none⟩) n c, .int .i64 x, .pointer (some ⟨g, o, none⟩)] w fun e w' => e = .returned (wkv w.heap.size) ∧ Wk w' w.heap.size gm off n c x g o ∧ Below w.heap.size w w' ∧ w'.heap.size = w.heap.size + 3 := by
  go_enter Try.func71, Try.ntmps71
  go_wp2
  go_ret
  have b1 := Bk.new w #[.slice (some ⟨gm, off, none⟩) n c] 22
  have b2 := Bk.new (w.alloc (.cells #[.slice (some ⟨gm, off, none⟩) n c] 22)) #[.int .i64 (x : Int)] 3
  have b3 := Bk.new ((w.alloc (.cells #[.slice (some ⟨gm, off, none⟩) n c] 22)).alloc (.cells #[.int .i64 (x : Int)] 3)) #[.pointer (some ⟨g, o, none⟩)] 63
  simp only [World.size_alloc] at b2 b3
  exact ⟨rfl, ⟨(b1.alloc _).alloc _, b2.alloc _, b3⟩, (((Below.refl _ _).alloc (Nat.le_refl _) _).alloc (by simp) _).alloc (by simp; omega) _, by simp⟩

end Go.Proofs.Ytanncngbmgopnaa
