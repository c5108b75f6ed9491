/- A whole slice of ints at the end of an owned row: the builtin append, as the walks meet it. Condition: the lengths. -/
import Derived.Test.YtanncngbmgopnaaBase
import Derived.Maps.AppendAt
namespace Go.Proofs.Ytanncngbmgopnaa
open Go.RowKit

theorem wpList_appView {w : World} {ops : Array Oper} {rest : List Oper} {o : Oper} {a : Act} {Q : Exit → Act → World → Prop} (hgd : o.guard = none) (s x : Operand)
    (ho : o.op = .call { callee := .builtin .append, args := #[s, x], argTypes := #[22, 22] })
    (base : Nat) (v : Value) (xs : List Int) (hs : a.eval s = v) (hown : Own w base v xs) (g off n c : Nat) (p : Nat → Int) (hx : a.eval x = .slice (some ⟨g, off, none⟩) n c)
    (hc : ∀ k, k < n → w.cell? ⟨g, off + k, none⟩ = some (.int .i64 (p k)))
    (hlen : xs.length + n ≤ 1099511627776) (hbase : base ≤ w.heap.size)
    (h : ∀ v' w', Own w' base v' (xs ++ lst n p) → w.grownBy w' v.ownBlock → Below base w w' → wpList Try.prog ops Q rest (a.put o.dst v') w') :
    wpList Try.prog ops Q (o :: rest) a w := by
  obtain ⟨i0, hi0, hz0, hz1, hz2⟩ := info_parts int_info
  have hadd : ∀ k, (⟨g, off, none⟩ : Addr).add k = ⟨g, off + k, none⟩ := fun k => by unfold Addr.add; split <;> simp_all
  refine wpList_append_own _ hgd s x 22 ho base 3 i0 (.int .i64 0) 1 8 Try.underlying22 hi0 hz0 hz1 hz2 rfl (by decide) v xs.length (xs.map (Value.int .i64)) hs
    hown ⟨g, off, none⟩ n c ((lst n p).map (Value.int .i64)) hx (by simp [length_lst]) ?_ (ints_oneCell _ _) (by unfold maxLen; omega) (by omega) hbase ?_
  · intro j u hj
    rw [List.getElem?_map] at hj
    by_cases hjn : j < n
    · rw [hadd, hc j hjn]
      simp [lst, hjn] at hj
      rw [← hj]
    · rw [List.getElem?_eq_none (by rw [length_lst]; omega)] at hj
      cases hj
  · intro v' w' hown' hgr _
    refine h v' w' ?_ hgr ((Below.refl _ _).grown hgr hbase (fun k hk => (World.ownsRow.lt hown k hk).1))
    unfold Own
    rw [List.length_append, length_lst, List.map_append]
    exact hown'

end Go.Proofs.Ytanncngbmgopnaa
