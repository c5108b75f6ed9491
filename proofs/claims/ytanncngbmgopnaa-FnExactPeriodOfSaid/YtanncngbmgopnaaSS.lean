/- Rows of rows of the call's own: what is held of them, how they are carried on, one row more. No condition but the lengths. -/
import Derived.Test.YtanncngbmgopnaaBase
import Derived.Maps.AppendAt
namespace Go.Proofs.Ytanncngbmgopnaa
open Go.RowKit
set_option linter.unusedVariables false

theorem ss_info : (Try.prog.info? 22).map (fun i => (i.zero, i.size, i.bytes)) = some (some (.slice none 0 0), 1, 24) := by kernel_rfl

/-- u's block is not v's. -/
def Ap (u v : Value) : Prop := u.ownBlock = none ∨ u.ownBlock ≠ v.ownBlock

/-- v is a slice of n rows of the call's own (blocks from base on): its cells hold vs 0, vs 1, ..; the slice vs i holds the numbers xs i; no two rows share a block. -/
def OwnSS (w : World) (base : Nat) (v : Value) (n : Nat) (vs : Nat → Value) (xs : Nat → List Int) : Prop :=
  w.ownsRow base 22 1 v n ((List.range n).map vs) ∧ (∀ i, i < n → Own w base (vs i) (xs i)) ∧ ∀ i j, i < n → j < n → i ≠ j → Ap (vs i) (vs j)

/-- The blocks of a slice of rows, and of its rows, lie from lo on and below hi. -/
def InSS (v : Value) (n : Nat) (vs : Nat → Value) (lo hi : Nat) : Prop := (∀ g, v.ownBlock = some g → lo ≤ g ∧ g < hi) ∧ ∀ i, i < n → ∀ g, (vs i).ownBlock = some g → lo ≤ g ∧ g < hi

/-- All blocks but those from lo on and below hi are as they were. -/
structure Out (lo hi : Nat) (w w' : World) : Prop where
  os : w'.os = w.os
  tape : w'.tape = w.tape
  output : w'.output = w.output
  size : w.heap.size ≤ w'.heap.size
  block : ∀ g, g < w.heap.size → (g < lo ∨ hi ≤ g) → w'.heap[g]? = w.heap[g]?

section
variable {w w' w2 : World} {base lo hi n : Nat} {v : Value} {vs : Nat → Value} {xs : Nat → List Int} {ys : List Int}

theorem Out.refl (lo hi : Nat) (w : World) : Out lo hi w w := ⟨rfl, rfl, rfl, Nat.le_refl _, fun _ _ _ => rfl⟩
theorem Out.trans (h : Out lo hi w w') (k : Out lo hi w' w2) : Out lo hi w w2 :=
  ⟨k.os.trans h.os, k.tape.trans h.tape, k.output.trans h.output, Nat.le_trans h.size k.size, fun g hg hn => (k.block g (Nat.lt_of_lt_of_le hg h.size) hn).trans (h.block g hg hn)⟩
theorem Out.of_grown {row : Option Nat} (h : w.grownBy w' row) (hr : ∀ g, row = some g → lo ≤ g ∧ g < hi) : Out lo hi w w' :=
  ⟨h.os, h.tape, h.output, h.size, fun g hg hn => h.block g hg (fun e => by have := hr g e.symm; omega)⟩
theorem Out.below (h : Out lo hi w w') (hb : base ≤ w.heap.size) (hl : base ≤ lo) : Below base w w' :=
  ⟨h.os, h.tape, h.output, h.size, fun g hg => h.block g (by omega) (.inl (by omega))⟩
theorem Below.out_ (h : Below w.heap.size w w') (lo hi : Nat) : Out lo hi w w' := ⟨h.os, h.tape, h.output, h.size, fun g hg _ => h.block g hg⟩

theorem row_of_block {e : TypeId} {size m : Nat} {cs : List Value} (h : w.ownsRow base e size v m cs) (hb : ∀ g, v.ownBlock = some g → w'.heap[g]? = w.heap[g]?) : w'.ownsRow base e size v m cs := by
  obtain ⟨h1, h2⟩ := h
  refine ⟨h1, ?_⟩
  rcases h2 with h2 | ⟨g, cap, cur, rfl, hg, hh, r⟩
  · exact .inl h2
  · exact .inr ⟨g, cap, cur, rfl, hg, (hb g rfl).trans hh, r⟩
theorem Own.outK {v : Value} (h : Own w base v ys) (ho : Out lo hi w w') (hn : ∀ g, v.ownBlock = some g → g < lo ∨ hi ≤ g) : Own w' base v ys :=
  row_of_block h fun g hg => ho.block g (h.block g hg).2 (hn g hg)

theorem OwnSS.inside (h : OwnSS w base v n vs xs) : InSS v n vs base w.heap.size := ⟨World.ownsRow.lt h.1, fun i hi g hg => (h.2.1 i hi).block g hg⟩
theorem OwnSS.outK {l2 h2 : Nat} (h : OwnSS w base v n vs xs) (ho : Out lo hi w w') (hi' : InSS v n vs l2 h2) (hap : h2 ≤ lo ∨ hi ≤ l2) : OwnSS w' base v n vs xs :=
  ⟨row_of_block h.1 fun g hg => ho.block g (World.ownsRow.lt h.1 g hg).2 (by have := hi'.1 g hg; omega), fun i hi => (h.2.1 i hi).outK ho (fun g hg => by have := hi'.2 i hi g hg; omega), h.2.2⟩
theorem OwnSS.below (h : OwnSS w base v n vs xs) (hb : Below w.heap.size w w') : OwnSS w' base v n vs xs :=
  ⟨row_of_block h.1 fun g hg => hb.block g (World.ownsRow.lt h.1 g hg).2, fun i hi => (h.2.1 i hi).below hb, h.2.2⟩
theorem row_mono {b : Nat} {e : TypeId} {size m : Nat} {cs : List Value} (h : w.ownsRow base e size v m cs) (hb : b ≤ base) : w.ownsRow b e size v m cs := by
  obtain ⟨h1, h2⟩ := h
  refine ⟨h1, ?_⟩
  rcases h2 with h2 | ⟨g, cap, cur, hv, hg, r⟩
  · exact .inl h2
  · exact .inr ⟨g, cap, cur, hv, Nat.le_trans hb hg, r⟩
theorem OwnSS.mono {b : Nat} (h : OwnSS w base v n vs xs) (hb : b ≤ base) : OwnSS w b v n vs xs := ⟨row_mono h.1 hb, fun i hi => (h.2.1 i hi).mono hb, h.2.2⟩
theorem OwnSS.nil (w : World) (base : Nat) (vs : Nat → Value) (xs : Nat → List Int) : OwnSS w base (.slice none 0 0) 0 vs xs := ⟨World.ownsRow_nil w base _ _, fun i hi => absurd hi (by omega), fun i j hi => absurd hi (by omega)⟩
theorem OwnSS.empty (w : World) (vs : Nat → Value) (xs : Nat → List Int) : OwnSS (w.alloc (.cells #[] 22)) w.heap.size (.slice (some ⟨w.heap.size, 0, none⟩) 0 0) 0 vs xs :=
  ⟨World.ownsRow_lit w #[] 0 (Nat.le_refl _) (Nat.zero_le _) rfl, fun i hi => absurd hi (by omega), fun i j hi => absurd hi (by omega)⟩
theorem OwnSS.congr {us : Nat → Value} {zs : Nat → List Int} (h : OwnSS w base v n vs xs) (hv : ∀ i, i < n → us i = vs i) (hx : ∀ i, i < n → zs i = xs i) : OwnSS w base v n us zs := by
  refine ⟨?_, fun i hi => by rw [hv i hi, hx i hi]; exact h.2.1 i hi, fun i j hi hj hne => by rw [hv i hi, hv j hj]; exact h.2.2 i j hi hj hne⟩
  have e : (List.range n).map us = (List.range n).map vs := List.map_congr_left (fun i hi => hv i (by simpa using hi))
  rw [e]; exact h.1
theorem OwnSS.form (h : OwnSS w base v n vs xs) : ∃ A c, v = .slice A n c ∧ (0 < n → ∃ g, A = some ⟨g, 0, none⟩ ∧ base ≤ g ∧ g < w.heap.size) := by
  rcases h.1.2 with ⟨rfl, h0⟩ | ⟨g, cap, cur, rfl, hg, hh, _⟩
  · exact ⟨none, 0, by rw [h0], fun hn => by omega⟩
  · exact ⟨_, _, rfl, fun _ => ⟨g, rfl, hg, (Array.getElem?_eq_some_iff.1 hh).1⟩⟩

/-- The slice of the rows lies in no row's block. -/
theorem ap_types {b1 b2 m : Nat} {v u : Value} {cs : List Value} (h : w.ownsRow b1 22 1 v m cs) (k : Own w b2 u ys) : Ap v u := by
  rcases h.2 with ⟨rfl, _⟩ | ⟨g, cap, cur, rfl, _, hh, _⟩
  · exact .inl rfl
  · refine .inr fun e => ?_
    rcases k.2 with ⟨rfl, _⟩ | ⟨g', cap', cur', rfl, _, hh', _⟩
    · cases e
    · injection e with e
      subst e
      rw [hh] at hh'
      injection hh' with hh'
      injection hh' with _ h2 _
      exact absurd h2 (by decide)
theorem types_ap {b1 b2 m : Nat} {v u : Value} {cs : List Value} (h : w.ownsRow b1 22 1 v m cs) (k : Own w b2 u ys) : Ap u v := by
  rcases k.2 with ⟨rfl, _⟩ | ⟨g', cap', cur', rfl, _, hh', _⟩
  · exact .inl rfl
  · refine .inr fun e => ?_
    rcases h.2 with ⟨rfl, _⟩ | ⟨g, cap, cur, rfl, _, hh, _⟩
    · cases e
    · injection e with e
      subst e
      rw [hh] at hh'
      injection hh' with hh'
      injection hh' with _ h2 _
      exact absurd h2 (by decide)

/-- Blocks that lie in different stretches. -/
theorem ap_ranges {u v : Value} {a b c d : Nat} (hu : ∀ k, u.ownBlock = some k → a ≤ k ∧ k < b) (hv : ∀ k, v.ownBlock = some k → c ≤ k ∧ k < d) (h : b ≤ c ∨ d ≤ a) : Ap u v := apart_blocks hu hv h
end

/-- One row more. -/
theorem wpList_appSS {w : World} {ops : Array Oper} {rest : List Oper} {o : Oper} {a : Act} {Q : Exit → Act → World → Prop} (hgd : o.guard = none) (s x : Operand)
    (ho : o.op = .call { callee := .builtin .append, args := #[s, x], argTypes := #[33, 33] })
    (base : Nat) (v : Value) (n : Nat) (vs : Nat → Value) (xs : Nat → List Int) (hs : a.eval s = v) (hown : OwnSS w base v n vs xs) (v1 : Value) (ys : List Int) (h1 : Own w base v1 ys) (hap : ∀ i, i < n → Ap (vs i) v1 ∧ Ap v1 (vs i))
    (hx : a.eval x = .slice (some ⟨w.heap.size, 0, none⟩) 1 1) (hlen : n ≤ 1048576) (hbase : base ≤ w.heap.size)
    (h : ∀ v' w', OwnSS w' base v' (n + 1) (fun i => if i < n then vs i else v1) (fun i => if i < n then xs i else ys) → Below base w w' → wpList Try.prog ops Q rest (a.put o.dst v') w') :
    wpList Try.prog ops Q (o :: rest) a (w.alloc (.cells #[v1] 22)) := by
  obtain ⟨i0, hi0, hz0, hz1, hz2⟩ := info_parts ss_info
  have hone : v1.oneCell' = true := by obtain ⟨A, c, rfl, _⟩ := h1.form; rfl
  refine wpList_append_own _ hgd s x 33 ho base 22 i0 (.slice none 0 0) 1 24 Try.underlying33 hi0 hz0 hz1 hz2 rfl (by decide) v n ((List.range n).map vs) hs
    (World.ownsRow.alloc hown.1 _) ⟨w.heap.size, 0, none⟩ 1 1 [v1] hx rfl (cell_one_new _ _ _) (by intro z hz; simp at hz; subst hz; exact hone) (by unfold maxLen; omega) (by omega)
    (Nat.le_trans hbase (by simp)) ?_
  intro v' w' hown' hgr _
  have hgr2 : w.grownBy w' v.ownBlock := grownBy_trans (World.grownBy_alloc w _ _) hgr
  refine h v' w' ⟨?_, fun i hi => ?_, fun i j hi hj hne => ?_⟩ ((Below.refl _ _).grown hgr2 hbase (fun k hk => (World.ownsRow.lt hown.1 k hk).1))
  · have e : (List.range (n + 1)).map (fun i => if i < n then vs i else v1) = (List.range n).map vs ++ [v1] := by
      rw [List.range_succ, List.map_append]
      congr 1
      · exact List.map_congr_left (fun i hi => by rw [if_pos (by simpa using hi)])
      · simp
    rw [e]; exact hown'
  · by_cases hlt : i < n
    · simp only [if_pos hlt]
      exact (hown.2.1 i hlt).kept hgr2 (types_ap hown.1 (hown.2.1 i hlt))
    · simp only [if_neg hlt]
      exact h1.kept hgr2 (types_ap hown.1 h1)
  · by_cases h2 : i < n <;> by_cases h3 : j < n
    · simp only [if_pos h2, if_pos h3]; exact hown.2.2 i j h2 h3 hne
    · simp only [if_pos h2, if_neg h3]; exact (hap i h2).1
    · simp only [if_neg h2, if_pos h3]; exact (hap j h3).2
    · omega

/-- What a function gives that makes rows. -/
def RetSS (w : World) (n : Nat) (xs : Nat → List Int) (e : Ending) (w' : World) : Prop :=
  ∃ A c vs, e = .returned (.slice A n c) ∧ OwnSS w' w.heap.size (.slice A n c) n vs xs ∧ Below w.heap.size w w'
theorem RetSS.of_ {w w' : World} {n : Nat} {vs : Nat → Value} {xs : Nat → List Int} {v : Value} {e : Ending} (h1 : e = .returned v) (h2 : OwnSS w' w.heap.size v n vs xs) (h3 : Below w.heap.size w w') : RetSS w n xs e w' := by
  obtain ⟨A, c, rfl, _⟩ := h2.form
  exact ⟨A, c, vs, h1, h2, h3⟩

end Go.Proofs.Ytanncngbmgopnaa
