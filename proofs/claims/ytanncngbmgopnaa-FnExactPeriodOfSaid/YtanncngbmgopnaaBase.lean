/- The vocabulary of this seat's walks: a slice of ints that reads as a function (View), a row of the call's own (Own), and how both are carried from world to world. No condition. -/
import Derived.Test.YtanncngbmgopnaaRows
import Derived.WalkKit
import Derived.WalkSpells
import Derived.WalkLawsBesides
import Derived.Deep.QuietTactic
import Derived.BigQuiet
import Derived.Lib.Hide
namespace Go.Proofs.Ytanncngbmgopnaa
open Go.RowKit
set_option linter.unusedVariables false

theorem int_info : (Try.prog.info? 3).map (fun i => (i.zero, i.size, i.bytes)) = some (some (.int .i64 0), 1, 8) := by kernel_rfl

/-- The slice at A of n elements reads as the numbers p 0, p 1, .. -/
def View (w : World) (A : Option Addr) (n : Nat) (p : Nat → Int) : Prop :=
  0 < n → ∃ g off, A = some ⟨g, off, none⟩ ∧ g < w.heap.size ∧ ∀ k, k < n → w.cell? ⟨g, off + k, none⟩ = some (.int .i64 (p k))

/-- The block g holds, from its head on, n numbers p 0, p 1, .. -/
def Ints (w : World) (g n : Nat) (p : Nat → Int) : Prop :=
  g < w.heap.size ∧ ∀ k, k < n → w.cell? ⟨g, k, none⟩ = some (.int .i64 (p k))

/-- The numbers p 0 .. p (n - 1), as a list. -/
def lst (n : Nat) (p : Nat → Int) : List Int := (List.range n).map p

/-- The k-th number of a list (0 behind its end). -/
def nth (xs : List Int) (k : Nat) : Int := xs.getD k 0

/-- The value v is a slice of the call's own (from block base on) that holds the numbers xs. -/
def Own (w : World) (base : Nat) (v : Value) (xs : List Int) : Prop := w.ownsRow base 3 1 v xs.length (xs.map (Value.int .i64))

section
variable {w w' : World} {A : Option Addr} {n g base : Nat} {p : Nat → Int} {v : Value} {xs : List Int}

theorem View.below (h : View w A n p) (hb : Below w.heap.size w w') : View w' A n p := fun hn => by
  obtain ⟨g, off, e, hg, hc⟩ := h hn
  exact ⟨g, off, e, Nat.lt_of_lt_of_le hg hb.size, fun k hk => (hb.cell (p := ⟨g, off + k, none⟩) hg).trans (hc k hk)⟩

theorem View.keep {B : Nat} (h : View w A n p) (hb : Below B w w') (hB : ∀ g off, A = some ⟨g, off, none⟩ → g < B) : View w' A n p := fun hn => by
  obtain ⟨g, off, e, hg, hc⟩ := h hn
  exact ⟨g, off, e, Nat.lt_of_lt_of_le hg hb.size, fun k hk => (hb.cell (p := ⟨g, off + k, none⟩) (hB g off e)).trans (hc k hk)⟩

theorem Ints.below (h : Ints w g n p) (hb : Below w.heap.size w w') : Ints w' g n p :=
  ⟨Nat.lt_of_lt_of_le h.1 hb.size, fun k hk => (hb.cell (p := ⟨g, k, none⟩) h.1).trans (h.2 k hk)⟩

theorem Ints.keep {B : Nat} (h : Ints w g n p) (hb : Below B w w') (hB : g < B) : Ints w' g n p :=
  ⟨Nat.lt_of_lt_of_le h.1 hb.size, fun k hk => (hb.cell (p := ⟨g, k, none⟩) hB).trans (h.2 k hk)⟩

theorem Ints.view (h : Ints w g n p) : View w (some ⟨g, 0, none⟩) n p := fun _ =>
  ⟨g, 0, rfl, h.1, fun k hk => by rw [Nat.zero_add]; exact h.2 k hk⟩

theorem below_all {B : Nat} (h : Below w.heap.size w w') (hB : B ≤ w.heap.size) : Below B w w' := h.mono hB

theorem Own.below (h : Own w base v xs) (hb : Below w.heap.size w w') : Own w' base v xs := by
  obtain ⟨h1, h2⟩ := h
  refine ⟨h1, ?_⟩
  rcases h2 with h2 | ⟨g, cap, cur, hv, hg, hh, r⟩
  · exact Or.inl h2
  · exact Or.inr ⟨g, cap, cur, hv, hg, by rw [hb.block g (Array.getElem?_eq_some_iff.1 hh).1]; exact hh, r⟩

theorem Own.mono {base' : Nat} (h : Own w base v xs) (hb : base' ≤ base) : Own w base' v xs := by
  obtain ⟨h1, h2⟩ := h
  refine ⟨h1, ?_⟩
  rcases h2 with h2 | ⟨g, cap, cur, hv, hg, r⟩
  · exact Or.inl h2
  · exact Or.inr ⟨g, cap, cur, hv, Nat.le_trans hb hg, r⟩

theorem Own.nil (w : World) (base : Nat) : Own w base (.slice none 0 0) [] := World.ownsRow_nil w base _ _

/-- What an owned slice looks like. -/
theorem Own.form (h : Own w base v xs) : ∃ A c, v = .slice A xs.length c ∧ (0 < xs.length → ∃ g, A = some ⟨g, 0, none⟩ ∧ base ≤ g ∧ g < w.heap.size) := by
  rcases h.2 with ⟨rfl, h0⟩ | ⟨g, cap, cur, rfl, hg, hh, _⟩
  · exact ⟨none, 0, by rw [h0], fun hn => by omega⟩
  · exact ⟨_, _, rfl, fun _ => ⟨g, rfl, hg, (Array.getElem?_eq_some_iff.1 hh).1⟩⟩

theorem Own.cellsAt {c : Nat} (h : Own w base (.slice (some ⟨g, 0, none⟩) n c) xs) (k : Nat) (hk : k < xs.length) : w.cell? ⟨g, k, none⟩ = some (.int .i64 (xs.getD k 0)) := by
  have hn : n = xs.length := by
    rcases h.2 with ⟨h1, _⟩ | ⟨_, _, _, h1, _⟩
    · cases h1
    · injection h1
  subst hn
  rw [World.ownsRow.cellAt h k (by omega), List.getElem?_map, List.getElem?_eq_getElem hk]
  simp [List.getD_eq_getElem?_getD, List.getElem?_eq_getElem hk]

theorem Own.view {c : Nat} (h : Own w base (.slice A n c) xs) : View w A n (nth xs) := fun hn => by
  have hl : n = xs.length := by
    rcases h.2 with ⟨h1, h0⟩ | ⟨_, _, _, h1, _⟩
    · injection h1; omega
    · injection h1
  subst hl
  obtain ⟨A', c', e, hf⟩ := h.form
  injection e with e1 _ _
  subst e1
  obtain ⟨g, rfl, _, hg⟩ := hf hn
  exact ⟨g, 0, rfl, hg, fun k hk => by rw [Nat.zero_add]; exact h.cellsAt k hk⟩

theorem Own.ints {c : Nat} (h : Own w base (.slice (some ⟨g, 0, none⟩) n c) xs) : Ints w g n (nth xs) := by
  have hl : n = xs.length := by
    rcases h.2 with ⟨h1, h0⟩ | ⟨_, _, _, h1, _⟩
    · injection h1; omega
    · injection h1
  subst hl
  rcases h.2 with ⟨h1, _⟩ | ⟨g', cap, cur, h1, hg, hh, _⟩
  · cases h1
  · injection h1 with h1 _ _
    injection h1 with h1
    injection h1 with h1
    subst h1
    exact ⟨(Array.getElem?_eq_some_iff.1 hh).1, fun k hk => h.cellsAt k hk⟩

end

theorem length_lst (n : Nat) (p : Nat → Int) : (lst n p).length = n := by simp [lst]
theorem lst_succ (n : Nat) (p : Nat → Int) : lst (n + 1) p = lst n p ++ [p n] := by simp [lst, List.range_succ]
theorem getD_lst {n k : Nat} (p : Nat → Int) (h : k < n) : (lst n p).getD k 0 = p k := by simp [lst, List.getD_eq_getElem?_getD, h]
theorem lst_of_list (xs : List Int) : lst xs.length (nth xs) = xs := by
  apply List.ext_getElem?
  intro j
  by_cases hj : j < xs.length
  · simp [lst, nth, hj, List.getD_eq_getElem?_getD]
  · simp [lst, hj]
theorem lst_congr {n : Nat} {p q : Nat → Int} (h : ∀ k, k < n → p k = q k) : lst n p = lst n q := by
  simp only [lst]
  exact List.map_congr_left (fun k hk => h k (by simpa using hk))

/-- The first n numbers of both are the same. -/
def Agree (n : Nat) (p q : Nat → Int) : Prop := ∀ k, k < n → p k = q k

theorem Agree.zero (p q : Nat → Int) : Agree 0 p q := fun _ h => absurd h (by omega)
theorem Agree.succ {n : Nat} {p q : Nat → Int} (h : Agree n p q) (e : p n = q n) : Agree (n + 1) p q := fun k hk => by
  rcases Nat.lt_succ_iff_lt_or_eq.1 hk with h1 | rfl
  · exact h k h1
  · exact e

/-- Whether two slices read alike. -/
def eqF (n : Nat) (p : Nat → Int) (m : Nat) (q : Nat → Int) : Bool := decide (lst n p = lst m q)

theorem eqF_len {n m : Nat} {p q : Nat → Int} (h : n ≠ m) : eqF n p m q = false := by
  simp only [eqF, decide_eq_false_iff_not]
  intro e
  exact h (by simpa [length_lst] using congrArg List.length e)
theorem eqF_yes {n : Nat} {p q : Nat → Int} (h : Agree n p q) : eqF n p n q = true := by
  simp only [eqF, decide_eq_true_eq]; exact lst_congr h
theorem eqF_no {n k : Nat} {p q : Nat → Int} (hk : k < n) (h : p k ≠ q k) : eqF n p n q = false := by
  simp only [eqF, decide_eq_false_iff_not]
  intro e
  apply h
  have := congrArg (fun l => List.getD l k 0) e
  simp only [getD_lst _ hk] at this
  exact this

/-- The number k and its followers. -/
def upFrom (k : Int) (j : Nat) : Int := k + j

/-- The first k numbers of p, then zeros: n in all. -/
def part (k n : Nat) (p : Nat → Int) : List Int := lst k p ++ List.replicate (n - k) 0

theorem part_zero (n : Nat) (p : Nat → Int) : part 0 n p = List.replicate n 0 := by simp [part, lst]
theorem part_full (n : Nat) (p : Nat → Int) : part n n p = lst n p := by simp [part]
theorem length_part {k n : Nat} (p : Nat → Int) (h : k ≤ n) : (part k n p).length = n := by simp [part, length_lst]; omega
theorem part_set {k n : Nat} (p : Nat → Int) (h : k < n) : (part k n p).set k (p k) = part (k + 1) n p := by
  have e : n - k = (n - (k + 1)) + 1 := by omega
  simp only [part, lst_succ]
  rw [e, List.replicate_succ, List.set_append_right _ _ (by simp [length_lst])]
  simp [length_lst]

/-- The first k numbers of p, then those of q: n in all. -/
def over (k n : Nat) (p q : Nat → Int) : Nat → Int := fun j => if j < k then p j else q j

section
variable {w w' : World} {A : Option Addr} {n g base : Nat} {p : Nat → Int} {v : Value} {xs : List Int}

theorem Own.len {c : Nat} (h : Own w base (.slice A n c) xs) : xs.length = n := by
  rcases h.2 with ⟨h1, h0⟩ | ⟨_, _, _, h1, _⟩
  · injection h1; omega
  · injection h1; omega

theorem Own.frozen {c : Nat} (h : Own w base (.slice (some ⟨g, 0, none⟩) n c) xs) (k : Nat) : w.frozen? ⟨g, k, none⟩ = false := by
  have hl := h.len
  subst hl
  exact World.ownsRow.frozenAt h k

theorem Own.stored {c : Nat} (h : Own w base (.slice (some ⟨g, 0, none⟩) n c) xs) (j : Nat) (u : Int) :
    Own (w.setCell ⟨g, j, none⟩ (.int .i64 u)) base (.slice (some ⟨g, 0, none⟩) n c) (xs.set j u) ∧ w.grownBy (w.setCell ⟨g, j, none⟩ (.int .i64 u)) (some g) := by
  have hl := h.len
  subst hl
  have := World.ownsRow.stored h j (.int .i64 u)
  unfold Own
  rw [List.length_set, List.map_set]
  exact this

theorem Own.made {c : Nat} (h : w.ownsRow base 3 1 (.slice (some ⟨g, 0, none⟩) n c) n (madeCells (Value.int .i64 0).cells (n * 1)).toList) : Own w base (.slice (some ⟨g, 0, none⟩) n c) (List.replicate n 0) := by
  unfold Own
  have e : (List.replicate n (0 : Int)).map (Value.int .i64) = List.replicate n (Value.int .i64 0) := by simp
  rw [List.length_replicate, e, ← toList_madeCells_one]
  simpa [Value.cells] using h

theorem Own.kept {row : Option Nat} (h : Own w base v xs) (hg : w.grownBy w' row) (hne : v.ownBlock = none ∨ v.ownBlock ≠ row) : Own w' base v xs := World.ownsRow.kept h hg hne

theorem View.congr {q : Nat → Int} (h : View w A n p) (e : ∀ k, k < n → p k = q k) : View w A n q := fun hn => by
  obtain ⟨g, off, e1, hg, hc⟩ := h hn
  exact ⟨g, off, e1, hg, fun k hk => by rw [← e k hk]; exact hc k hk⟩

/-- A slice that reads keeps reading while another block is written. -/
theorem View.grown {row : Option Nat} (h : View w A n p) (hg : w.grownBy w' row) (hne : ∀ g off, A = some ⟨g, off, none⟩ → row ≠ some g) : View w' A n p := fun hn => by
  obtain ⟨g, off, e, hlt, hc⟩ := h hn
  exact ⟨g, off, e, Nat.lt_of_lt_of_le hlt hg.size, fun k hk => hg.cell (hc k hk) (fun e' => hne g off e e'.symm)⟩

theorem Own.viewL {c : Nat} (h : Own w base (.slice A n c) (lst n p)) : View w A n p := h.view.congr fun _ hk => getD_lst p hk

theorem Own.block (h : Own w base v xs) : ∀ k, v.ownBlock = some k → base ≤ k ∧ k < w.heap.size := World.ownsRow.lt h

/-- The address of an owned slice. -/
theorem Own.at_ {c : Nat} (h : Own w base (.slice A n c) xs) (hn : 0 < n) : ∃ g, A = some ⟨g, 0, none⟩ ∧ base ≤ g ∧ g < w.heap.size := by
  have hl := h.len
  obtain ⟨A', c', e, hf⟩ := h.form
  injection e with e1 _ _
  subst e1
  exact hf (by omega)
end

/-- A map of n things by the numbers p: one to seven things, each led to one of them. -/
def Valid (n : Nat) (p : Nat → Int) : Prop := 1 ≤ n ∧ n ≤ 7 ∧ ∀ k, k < n → 0 ≤ p k ∧ p k < n

/-- The same, of natural numbers. -/
def Mp (n : Nat) (s : Nat → Nat) : Prop := 1 ≤ n ∧ n ≤ 7 ∧ ∀ k, k < n → s k < n

/-- A row of natural numbers as ints. -/
def up (s : Nat → Nat) : Nat → Int := fun k => (s k : Int)

theorem Valid.mp {n : Nat} {p : Nat → Int} (h : Valid n p) : Mp n (fun k => (p k).toNat) ∧ ∀ k, k < n → p k = up (fun k => (p k).toNat) k := by
  refine ⟨⟨h.1, h.2.1, fun k hk => ?_⟩, fun k hk => ?_⟩
  · have := h.2.2 k hk
    show (p k).toNat < n
    omega
  · have := h.2.2 k hk
    simp only [up]
    omega
theorem Mp.valid {n : Nat} {s : Nat → Nat} (h : Mp n s) : Valid n (up s) := ⟨h.1, h.2.1, fun k hk => by have := h.2.2 k hk; simp only [up]; omega⟩
theorem Mp.lt {n : Nat} {s : Nat → Nat} (h : Mp n s) {k : Nat} (hk : k < n) : s k < n := h.2.2 k hk

/-- The first k numbers of p lie in 0 .. n - 1. -/
def InTo (k n : Nat) (p : Nat → Int) : Prop := ∀ j, j < k → 0 ≤ p j ∧ p j < n
theorem InTo.zero (n : Nat) (p : Nat → Int) : InTo 0 n p := fun _ h => absurd h (by omega)
theorem InTo.succ {k n : Nat} {p : Nat → Int} (h : InTo k n p) (h0 : 0 ≤ p k) (h1 : p k < n) : InTo (k + 1) n p := fun j hj => by
  rcases Nat.lt_succ_iff_lt_or_eq.1 hj with h2 | rfl
  · exact h j h2
  · exact ⟨h0, h1⟩

/-- The first j numbers marked from k on, the rest as it was. -/
def marked (j : Nat) (k : Int) (xs : List Int) : List Int := lst j (upFrom k) ++ xs.drop j

theorem marked_zero (k : Int) (xs : List Int) : marked 0 k xs = xs := by simp [marked, lst]
theorem marked_full (k : Int) (xs : List Int) : marked xs.length k xs = lst xs.length (upFrom k) := by simp [marked]
theorem length_marked {j : Nat} (k : Int) {xs : List Int} (h : j ≤ xs.length) : (marked j k xs).length = xs.length := by simp [marked, length_lst]; omega
theorem marked_set {j : Nat} (k : Int) {xs : List Int} (h : j < xs.length) : (marked j k xs).set j (k + j) = marked (j + 1) k xs := by
  simp only [marked, lst_succ]
  rw [List.set_append_right _ _ (by simp [length_lst])]
  simp only [length_lst, Nat.sub_self, List.append_assoc]
  rw [List.drop_eq_getElem_cons h, List.set_cons_zero]
  rfl

theorem grownBy_trans {a b c : World} {row : Option Nat} (h : a.grownBy b row) (k : b.grownBy c row) : a.grownBy c row :=
  ⟨k.os.trans h.os, k.tape.trans h.tape, k.output.trans h.output, Nat.le_trans h.size k.size, fun i hi hr => (k.block i (Nat.lt_of_lt_of_le hi h.size) hr).trans (h.block i hi hr)⟩
theorem grownBy_below {w w' : World} (h : Below w.heap.size w w') (row : Option Nat) : w.grownBy w' row := ⟨h.os, h.tape, h.output, h.size, fun i hi _ => h.block i hi⟩

theorem below_more {w a b : World} (h : Below w.heap.size w a) (k : Below a.heap.size a b) : Below w.heap.size w b := h.trans (k.mono h.size)

/-- What a function gives that makes a list of ints: a slice of the call's own that holds xs; nothing that was there has turned. -/
def RetOwn (w : World) (xs : List Int) (e : Ending) (w' : World) : Prop :=
  ∃ A c, e = .returned (.slice A xs.length c) ∧ Own w' w.heap.size (.slice A xs.length c) xs ∧ Below w.heap.size w w'
/-- The same with a truth behind it. -/
def RetOwnB (w : World) (xs : List Int) (b : Bool) (e : Ending) (w' : World) : Prop :=
  ∃ A c, e = .returned (.tuple #[.slice A xs.length c, .bool b]) ∧ Own w' w.heap.size (.slice A xs.length c) xs ∧ Below w.heap.size w w'
/-- What a function gives that answers a number. -/
def RetInt (w : World) (r : Int) (e : Ending) (w' : World) : Prop := e = .returned (.int .i64 r) ∧ Below w.heap.size w w'
/-- What a function gives that answers a truth. -/
def RetBool (w : World) (b : Bool) (e : Ending) (w' : World) : Prop := e = .returned (.bool b) ∧ Below w.heap.size w w'

/-- Two slices of the call's own that were made at different times lie in different blocks. -/
theorem apart_blocks {v u : Value} {a b c d : Nat} (hv : ∀ k, v.ownBlock = some k → a ≤ k ∧ k < b) (hu : ∀ k, u.ownBlock = some k → c ≤ k ∧ k < d) (h : b ≤ c ∨ d ≤ a) : v.ownBlock = none ∨ v.ownBlock ≠ u.ownBlock := by
  cases e : v.ownBlock with
  | none => exact .inl rfl
  | some k =>
    refine .inr fun e2 => ?_
    have h1 := hv k e
    have h2 := hu k e2.symm
    omega

theorem RetOwn.of_ {w w' : World} {xs : List Int} {v : Value} {e : Ending} (h1 : e = .returned v) (h2 : Own w' w.heap.size v xs) (h3 : Below w.heap.size w w') : RetOwn w xs e w' := by
  obtain ⟨A, c, rfl, _⟩ := h2.form
  exact ⟨A, c, h1, h2, h3⟩
theorem RetOwnB.of_ {w w' : World} {xs : List Int} {v : Value} {b : Bool} {e : Ending} (h1 : e = .returned (.tuple #[v, .bool b])) (h2 : Own w' w.heap.size v xs) (h3 : Below w.heap.size w w') : RetOwnB w xs b e w' := by
  obtain ⟨A, c, rfl, _⟩ := h2.form
  exact ⟨A, c, h1, h2, h3⟩

/-- A callee that leaves the world as it is, within a region that draws its order. -/
theorem quiet_same {P : Program} {f : FuncId} {args : Array Value} {w : World} {n : Nat} {v : Value}
    (h : Calls P f args (w.drewN n) fun e w' => e = .returned v ∧ w.drewN n = w') : Calls P f args (w.drewN n) fun e w'' => e = .returned v ∧ ∃ m, w'' = w.drewN m :=
  h.mono fun _ _ ⟨he, hm⟩ => ⟨he, n, hm.symm⟩
theorem View.drewN {w : World} {A : Option Addr} {n : Nat} {p : Nat → Int} (h : View w A n p) (k : Nat) : View (w.drewN k) A n p := h.below (below_drewN (Below.refl _ _) k)

theorem Own.cellL {w : World} {base g n c : Nat} {p : Nat → Int} (h : Own w base (.slice (some ⟨g, 0, none⟩) n c) (lst n p)) (k : Nat) (hk : k < n) : w.cell? ⟨g, k, none⟩ = some (.int .i64 (p k)) := by
  rw [h.cellsAt k (by rw [length_lst]; exact hk), getD_lst p hk]
theorem Own.cap {w : World} {base g n c : Nat} {xs : List Int} (h : Own w base (.slice (some ⟨g, 0, none⟩) n c) xs) : n ≤ c := by
  rcases h.2 with ⟨h1, _⟩ | ⟨g', cap, cur, h1, _, _, hc, _⟩
  · cases h1
  · injection h1 with _ e1 e2
    omega

/-- RetOwn of a list given by its length and its numbers. -/
def RetL (w : World) (n : Nat) (p : Nat → Int) (e : Ending) (w' : World) : Prop :=
  ∃ A c, e = .returned (.slice A n c) ∧ Own w' w.heap.size (.slice A n c) (lst n p) ∧ Below w.heap.size w w'
theorem RetOwn.lst_ {w w' : World} {n : Nat} {p : Nat → Int} {e : Ending} (h : RetOwn w (lst n p) e w') : RetL w n p e w' := by
  obtain ⟨A, c, h1, h2, h3⟩ := h
  rw [length_lst] at h1 h2
  exact ⟨A, c, h1, h2, h3⟩

theorem ret_bool {a b : Bool} (h : a = b) : Ending.returned (.bool a) = .returned (.bool b) := by rw [h]
theorem ret_int {k : IntKind} {a b : Int} (h : a = b) : Ending.returned (.int k a) = .returned (.int k b) := by rw [h]

end Go.Proofs.Ytanncngbmgopnaa
