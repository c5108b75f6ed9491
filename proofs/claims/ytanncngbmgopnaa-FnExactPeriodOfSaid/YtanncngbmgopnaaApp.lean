/- One more number at the end of an owned row: the builtin append at a slice of ints, as the walks meet it. Condition: the row's length. -/
import Derived.Test.YtanncngbmgopnaaBase
import Derived.Maps.AppendAt
namespace Go.Proofs.Ytanncngbmgopnaa
open Go.RowKit

theorem wpList_app1 {w : World} {ops : Array Oper} {rest : List Oper} {o : Oper} {a : Act} {Q : Exit → Act → World → Prop} (hgd : o.guard = none) (s x : Operand)
    (ho : o.op = .call { callee := .builtin .append, args := #[s, x], argTypes := #[22, 22] })
    (base : Nat) (v : Value) (xs : List Int) (hs : a.eval s = v) (hown : Own w base v xs) (u : Int) (hx : a.eval x = .slice (some ⟨w.heap.size, 0, none⟩) 1 1)
    (hlen : xs.length ≤ 1099511627776) (hbase : base ≤ w.heap.size)
    (h : ∀ v' w', Own w' base v' (xs ++ [u]) → w.grownBy w' v.ownBlock → Below base w w' → wpList Try.prog ops Q rest (a.put o.dst v') w') :
    wpList Try.prog ops Q (o :: rest) a (w.alloc (.cells #[.int .i64 u] 3)) := by
  obtain ⟨i0, hi0, hz0, hz1, hz2⟩ := info_parts int_info
  refine wpList_append_own _ hgd s x 22 ho base 3 i0 (.int .i64 0) 1 8 Try.underlying22 hi0 hz0 hz1 hz2 rfl (by decide) v xs.length (xs.map (Value.int .i64)) hs
    (World.ownsRow.alloc hown _) ⟨w.heap.size, 0, none⟩ 1 1 [.int .i64 u] hx rfl (cell_one_new _ _ _) (by intro z hz; simp at hz; subst hz; rfl) (by unfold maxLen; omega) (by omega)
    (Nat.le_trans hbase (by simp)) ?_
  intro v' w' hown' hgr _
  have hgr2 : w.grownBy w' v.ownBlock := grownBy_trans (World.grownBy_alloc w _ _) hgr
  refine h v' w' ?_ hgr2 ((Below.refl _ _).grown hgr2 hbase (fun k hk => (World.ownsRow.lt hown k hk).1))
  unfold Own
  simpa using hown'

end Go.Proofs.Ytanncngbmgopnaa
