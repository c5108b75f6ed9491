/- The draws' reader: what is held of it; l20Open; pick. Condition: the code's length; how often was drawn. -/
import Derived.Test.YtanncngbmgopnaaRowView
import Derived.Test.YtanncngbmgopnaaWalker
import Derived.Laws.Bits64
import Derived.IntWalk
namespace Go.Proofs.Ytanncngbmgopnaa
open Go.RowKit
set_option linter.unusedVariables false

theorem bits_xor_nat (a b : Nat) (ha : a < 4611686018427387904) (hb : b < 4611686018427387904) : bits .xor .i64 (a : Int) (b : Int) = ((a ^^^ b : Nat) : Int) := by
  have hab : a ^^^ b < 4611686018427387904 := Nat.xor_lt_two_pow (n := 62) (by omega) (by omega)
  have h1 : (BitVec.ofInt 64 (a : Int)).toNat = a := by
    rw [BitVec.ofInt_natCast, BitVec.toNat_ofNat]; exact Nat.mod_eq_of_lt (by omega)
  have h2 : (BitVec.ofInt 64 (b : Int)).toNat = b := by
    rw [BitVec.ofInt_natCast, BitVec.toNat_ofNat]; exact Nat.mod_eq_of_lt (by omega)
  show IntKind.i64.wrap ((BitVec.ofInt 64 (a : Int) ^^^ BitVec.ofInt 64 (b : Int)).toNat : Int) = _
  rw [BitVec.toNat_xor, h1, h2]
  exact IntWalk.i64_in _ (by omega)

/-- The reader at block b: it reads at most 2000 bytes that lie before it, and has drawn p times. -/
def Rd (w : World) (b p : Nat) : Prop := ∃ (A : Option Addr) (n c : Nat) (q : Nat → Int), Bk w b #[.slice A n c, .int .i64 p] 77 ∧ n ≤ 2000 ∧
  (0 < n → ∃ g off, A = some ⟨g, off, none⟩ ∧ g < b ∧ ∀ k, k < n → w.cell? ⟨g, off + k, none⟩ = some (.int .u8 (q k)) ∧ 0 ≤ q k ∧ q k ≤ (255 : Int))

theorem Rd.lt {w : World} {b p : Nat} (h : Rd w b p) : b < w.heap.size := by obtain ⟨_, _, _, _, h, _⟩ := h; exact h.lt
theorem Rd.grown {w w' : World} {b p g : Nat} (h : Rd w b p) (hg : w.grownBy w' (some g)) (hb : b < g) : Rd w' b p := by
  obtain ⟨A, n, c, q, h1, h2, h3⟩ := h
  refine ⟨A, n, c, q, (hg.block b h1.lt (fun e => by injection e; omega)).trans h1, h2, fun hn => ?_⟩
  obtain ⟨gg, off, e, hlt, hc⟩ := h3 hn
  exact ⟨gg, off, e, hlt, fun k hk => ⟨(World.cell?_of_block (hg.block gg (Nat.lt_trans hlt h1.lt) (fun e => by injection e; omega))).trans (hc k hk).1, (hc k hk).2⟩⟩
theorem Rd.below {w w' : World} {b p : Nat} (h : Rd w b p) (hb : Below w.heap.size w w') : Rd w' b p := by
  have := h.lt
  exact h.grown (g := w.heap.size) (grownBy_below hb _) (by omega)

set_option maxHeartbeats 1000000 in
theorem l20Open_any (A : Option Addr) (n c : Nat) (q : Nat → Int) (w : World) (hA : Bytes w A n c q) :
    Calls Try.prog 62 #[.slice A n c] w fun e w' => e = .returned (.pointer (some ⟨w.heap.size, 0, none⟩)) ∧ Rd w' w.heap.size 0 ∧ Below w.heap.size w w' := by
  obtain ⟨h1, h2, h3⟩ := hA
  have hb := fun (m cc : Nat) => (Below.refl w.heap.size w).alloc (Nat.le_refl _) (.cells #[.slice A m cc, .int .i64 0] 77)
  have bk := fun (m cc : Nat) => Bk.new w #[.slice A m cc, .int .i64 0] 77
  by_cases hn : n ≤ 2000
  · go_enter Try.func62, Try.ntmps62
    go_wp2
    go_ret
    refine ⟨rfl, ⟨A, n, c, q, bk n c, hn, fun h0 => ?_⟩, hb n c⟩
    obtain ⟨g, off, e, hg, hc⟩ := h3 h0
    exact ⟨g, off, e, hg, fun k hk => ⟨((hb n c).cell (p := ⟨g, off + k, none⟩) hg).trans (hc k hk).1, (hc k hk).2⟩⟩
  · obtain ⟨g, off, rfl, hg, hc⟩ := h3 (by omega)
    go_enter Try.func62, Try.ntmps62
    go_wp2
    go_ret
    refine ⟨rfl, ⟨_, 2000, _, q, bk _ _, by omega, fun h0 => ⟨g, off, rfl, hg, fun k hk => ⟨((hb _ _).cell (p := ⟨g, off + k, none⟩) hg).trans (hc k (by omega)).1, (hc k (by omega)).2⟩⟩⟩, hb _ _⟩

end Go.Proofs.Ytanncngbmgopnaa
