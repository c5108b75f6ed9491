/- spec.DrawStepsOf: a drawn list and two numbers. Condition: the code's bounds. -/
import Derived.Test.YtanncngbmgopnaaL20At
import Derived.Deep.RegionWith
import Derived.IntWalk
namespace Go.Proofs.Ytanncngbmgopnaa
open Go.RowKit
set_option linter.unusedVariables false

/-- What a draw of a map and two numbers gives. -/
def RetDrawnAt2 (w : World) (e : Ending) (w' : World) : Prop :=
  ∃ A k c zs x y, k ≤ 8 ∧ e = .returned (.tuple #[.slice A k c, .int .i64 x, .int .i64 y]) ∧ -1000 ≤ x ∧ x ≤ 1000 ∧ -1 ≤ y ∧ y ≤ 1000001 ∧ Own w' w.heap.size (.slice A k c) (lst k zs) ∧ Below w.heap.size w w'
theorem at_five {w : World} {b i : Nat} {a1 a2 a3 a4 a5 : Int} (h : Bk w b #[.int .i64 a1, .int .i64 a2, .int .i64 a3, .int .i64 a4, .int .i64 a5] 3) (hi : i < 5) : ∃ y, w.cell? ⟨b, i, none⟩ = some (.int .i64 y) ∧ (y = a1 ∨ y = a2 ∨ y = a3 ∨ y = a4 ∨ y = a5) := by
  have h5 : i = 0 ∨ i = 1 ∨ i = 2 ∨ i = 3 ∨ i = 4 := by omega
  rcases h5 with rfl | rfl | rfl | rfl | rfl
  · exact ⟨a1, h.cell 0, .inl rfl⟩
  · exact ⟨a2, h.cell 1, .inr (.inl rfl)⟩
  · exact ⟨a3, h.cell 2, .inr (.inr (.inl rfl))⟩
  · exact ⟨a4, h.cell 3, .inr (.inr (.inr (.inl rfl)))⟩
  · exact ⟨a5, h.cell 4, .inr (.inr (.inr (.inr rfl)))⟩
/-- The drawn index. -/
theorem idx_at {a b : Nat} (ha : a < 11) (hb : b < 2) : ∃ m d i : Nat, IntKind.i64.wrap (m : Int) = m ∧ (a : Int) * b = m ∧ (m : Int).tdiv 3 = d ∧ (m : Int) / 3 = d ∧ IntKind.i64.wrap (d : Int) = d ∧ (d : Int).tmod 5 = i ∧ (d : Int) % 5 = i ∧ IntKind.i64.wrap (i : Int) = i ∧ i < 5 ∧ (i : Int) < 5 ∧ (0 : Int) ≤ i ∧ (i : Int).toNat = i := by
  have hm : a * b ≤ 10 := by
    have h2 : b = 0 ∨ b = 1 := by omega
    rcases h2 with rfl | rfl <;> omega
  have e1 : (a : Int) * b = ((a * b : Nat) : Int) := (Int.natCast_mul a b).symm
  refine ⟨a * b, a * b / 3, a * b / 3 % 5, ?_, e1, ?_, ?_, IntWalk.i64_in _ (by omega), ?_, ?_, IntWalk.i64_in _ (by omega), by omega, by omega, by omega, by omega⟩
  · exact IntWalk.i64_in _ (by omega)
  · rw [Int.tdiv_eq_ediv_of_nonneg (by omega)]; omega
  · omega
  · rw [Int.tmod_eq_emod_of_nonneg (by omega)]; omega
  · omega

theorem keep_own {a b : World} {B R : Nat} {v : Value} {xs : List Int} (h : Own a B v xs) (g : a.grownBy b (some R)) (hR : R < B) : Own b B v xs :=
  h.kept g (.inr fun e => by have := (h.block _ e).1; omega)
theorem keep_bel {w a b : World} (h : Below w.heap.size w a) (g : a.grownBy b (some w.heap.size)) : Below w.heap.size w b := h.grown g h.size (fun k e => by injection e; omega)
theorem new_own {a : World} {B : Nat} {v : Value} {xs : List Int} (o : Obj) (h : Own a B v xs) : Own (a.alloc o) B v xs := h.below ((Below.refl _ _).alloc (Nat.le_refl _) o)
theorem new_bel {w a : World} (o : Obj) (h : Below w.heap.size w a) : Below w.heap.size w (a.alloc o) := h.alloc h.size o

/-- A pick at a world in which the reader stands. -/
theorem pick_at (b p n : Nat) (z : Int) (hz : z = (n : Int)) (w : World) (hr : Rd w b p) (hn : 1 ≤ n) (hm : n ≤ 1000000) (hp : p ≤ 1000000) :
    Calls Try.prog 73 #[.pointer (some ⟨b, 0, none⟩), .int .i64 z] w fun e w' => ∃ k : Nat, k < n ∧ e = .returned (.int .i64 k) ∧ Rd w' b (p + 1) ∧ w.grownBy w' (some b) := hz ▸ pick_any b p n w hr hn hm hp

attribute [local irreducible] Rd in
set_option maxHeartbeats 8000000 in
theorem drawStepsOf_any (A : Option Addr) (n c : Nat) (q : Nat → Int) (w : World) (hA : Bytes w A n c q) :
    Calls Try.prog 38 #[.slice A n c] w (RetDrawnAt2 w) := by
  have HA := Lib.hid hA
  clear hA
  go_enter Try.func38, Try.ntmps38
  go_wp2_with fail
  refine (l20Open_any A n c q w HA.out).mono ?_
  rintro e w1 ⟨rfl, r1, b1⟩
  have B1 := Lib.hid b1
  go_wp2_with fail
  refine (l20At_any w.heap.size 0 12 _ r1 (by omega) (by omega)).mono ?_
  rintro e w2 ⟨A2, k, c2, zs, x, hk, rfl, hx1, hx2, how, ⟨p2, hp2, rd2⟩, b2, hs⟩
  have HO := Lib.hid (how.below (Below.refl _ _).drew)
  have BB := Lib.hid (B1.out.trans b2).drew
  have RR := Lib.hid (rd2.below (Below.refl _ _).drew)
  have hsz := r1.lt
  have hs2 := rd2.lt
  clear r1 b1 b2 how rd2
  have n3 : (1 : Nat) ≤ 3 := by omega
  have n11 : (1 : Nat) ≤ 11 := by omega
  have n2 : (1 : Nat) ≤ 2 := by omega
  have m3 : (3 : Nat) ≤ 1000000 := by omega
  have m11 : (11 : Nat) ≤ 1000000 := by omega
  have m2 : (2 : Nat) ≤ 1000000 := by omega
  have q3 : p2 + 1 + 1 ≤ 1000000 := by omega
  have q11 : p2 + 1 + 1 + 1 ≤ 1000000 := by omega
  have q2 : p2 + 1 + 1 + 1 + 1 ≤ 1000000 := by omega
  go_wp2_with fail
  go_region_with (first
    | (go_at_call 73; refine (pick_any w.heap.size p2 10 _ RR.out (by omega) (by omega) (by omega)).mono ?_; rintro e w3 ⟨ka, hka, rfl, r3, g3⟩; have R3 := Lib.hid r3; have G3 := Lib.hid g3; clear r3 g3 RR)
    | (go_at_call 73; refine (pick_any w.heap.size (p2 + 1) 200 _ R3.out (by omega) (by omega) (by omega)).mono ?_; rintro e w4 ⟨kb, hkb, rfl, r4, g4⟩; have R4 := Lib.hid r4; have G4 := Lib.hid g4; clear r4 g4 R3)
    | (go_at_call 73; refine (pick_any w.heap.size (p2 + 1 + 1) 3 _ R4.out n3 m3 q3).mono ?_; rintro e w5 ⟨kc, hkc, rfl, r5, g5⟩; have R5 := Lib.hid r5; have G5 := Lib.hid g5; obtain ⟨y3, hw3, hy3, hz3, hb3⟩ : ∃ y3 : Int, IntKind.i64.wrap (1000000 - (kc : Int)) = y3 ∧ (1000000 : Int) - kc = y3 ∧ IntKind.i64.wrap y3 = y3 ∧ (999998 ≤ y3 ∧ y3 ≤ 1000000) := ⟨1000000 - kc, IntWalk.i64_in _ (by omega), rfl, IntWalk.i64_in _ (by omega), by omega, by omega⟩; have HB3 := Lib.hid hb3; clear r5 g5 R4 hb3)
    | (go_at_call 73; (with_reducible refine (pick_at w.heap.size (p2 + 1 + 1 + 1) 11 11 rfl _ R5.out n11 m11 q11).mono ?_); rintro e w6 ⟨kd, hkd, rfl, r6, g6⟩; have R6 := Lib.hid r6; have G6 := Lib.hid g6; clear r6 g6 R5)
    | (go_at_call 73; (have r5' : Rd (w5.alloc (.cells #[.int .i64 ka, .int .i64 kb, .int .i64 y3, .int .i64 1000001, .int .i64 (-1)] 3)) w.heap.size (p2 + 1 + 1 + 1) := R5.out.below ((Below.refl _ _).alloc (Nat.le_refl _) _)); (with_reducible refine (pick_at w.heap.size (p2 + 1 + 1 + 1) 11 11 rfl _ r5' n11 m11 q11).mono ?_); rintro e w6 ⟨kd, hkd, rfl, r6, g6⟩; have bk6 : Hid (Bk w6 w5.heap.size #[.int .i64 ka, .int .i64 kb, .int .i64 y3, .int .i64 1000001, .int .i64 (-1)] 3) := Lib.hid ((g6.block w5.heap.size (by simp) (fun e => by injection e with e; have := R5.out.lt; omega)).trans (Bk.new w5 #[.int .i64 ka, .int .i64 kb, .int .i64 y3, .int .i64 1000001, .int .i64 (-1)] 3)); have R6 := Lib.hid r6; have G6 := Lib.hid g6; clear r6 g6 r5')
    | (go_at_call 73; (with_reducible refine (pick_at w.heap.size (p2 + 1 + 1 + 1 + 1) 2 2 rfl _ R6.out n2 m2 q2).mono ?_); have bk6' := bk6.out; rintro e w7 ⟨ke, hke, rfl, r7, g7⟩; obtain ⟨m, d, i, i1, i2, i3, i4, i5, i6, i7, i8, i9, ia, ib, ic⟩ := idx_at hkd hke; obtain ⟨y, hy, hyo⟩ := at_five ((g7.block w5.heap.size bk6'.lt (fun e => by injection e with e; have := R5.out.lt; omega)).trans bk6') i9; have G7 := Lib.hid g7; have HY := Lib.hid hyo; clear r7 g7 hyo bk6 bk6' R5 R6)
    | (go_at_call 73; (with_reducible refine (pick_at w.heap.size (p2 + 1 + 1 + 1 + 1) 2 2 rfl _ R6.out n2 m2 q2).mono ?_); rintro e w7 ⟨ke, hke, rfl, r7, g7⟩; obtain ⟨m, d, i, i1, i2, i3, i4, i5, i6, i7, i8, i9, ia, ib, ic⟩ := idx_at hkd hke; obtain ⟨y, hy, hyo⟩ := at_five (Bk.new w7 #[.int .i64 ka, .int .i64 kb, .int .i64 y3, .int .i64 1000001, .int .i64 (-1)] 3) i9; have G7 := Lib.hid g7; have HY := Lib.hid hyo; clear r7 g7 hyo R6)
    | (go_at_call 73; (have r6' : Rd (w6.alloc (.cells #[.int .i64 ka, .int .i64 kb, .int .i64 y3, .int .i64 1000001, .int .i64 (-1)] 3)) w.heap.size (p2 + 1 + 1 + 1 + 1) := R6.out.below ((Below.refl _ _).alloc (Nat.le_refl _) _)); (with_reducible refine (pick_at w.heap.size (p2 + 1 + 1 + 1 + 1) 2 2 rfl _ r6' n2 m2 q2).mono ?_); rintro e w7 ⟨ke, hke, rfl, r7, g7⟩; obtain ⟨m, d, i, i1, i2, i3, i4, i5, i6, i7, i8, i9, ia, ib, ic⟩ := idx_at hkd hke; obtain ⟨y, hy, hyo⟩ := at_five ((g7.block w6.heap.size (by simp) (fun e => by injection e with e; have := R6.out.lt; omega)).trans (Bk.new w6 #[.int .i64 ka, .int .i64 kb, .int .i64 y3, .int .i64 1000001, .int .i64 (-1)] 3)) i9; have G7 := Lib.hid g7; have HY := Lib.hid hyo; clear r7 g7 hyo r6' R6))
  · have o5 := keep_own (keep_own (keep_own HO.out G3.out hsz) G4.out hsz) G5.out hsz
    have e5 := keep_bel (keep_bel (keep_bel BB.out G3.out) G4.out) G5.out
    have O9 := Lib.hid (keep_own (keep_own (new_own _ o5) G6.out hsz) G7.out hsz)
    have E9 := Lib.hid (keep_bel (keep_bel (new_bel _ e5) G6.out) G7.out)
    clear o5 e5
    go_wp2
    go_ret3
    exact ⟨A2, k, c2, zs, x, y, hk, rfl, hx1, hx2, by have := HY.out; have := HB3.out; omega, by have := HY.out; have := HB3.out; omega, (O9.out).mono (by omega), E9.out⟩
  · have o5 := keep_own (keep_own (keep_own HO.out G3.out hsz) G4.out hsz) G5.out hsz
    have e5 := keep_bel (keep_bel (keep_bel BB.out G3.out) G4.out) G5.out
    have O9 := Lib.hid (keep_own (new_own _ (keep_own o5 G6.out hsz)) G7.out hsz)
    have E9 := Lib.hid (keep_bel (new_bel _ (keep_bel e5 G6.out)) G7.out)
    clear o5 e5
    go_wp2
    go_ret3
    exact ⟨A2, k, c2, zs, x, y, hk, rfl, hx1, hx2, by have := HY.out; have := HB3.out; omega, by have := HY.out; have := HB3.out; omega, (O9.out).mono (by omega), E9.out⟩
  · have o5 := keep_own (keep_own (keep_own HO.out G3.out hsz) G4.out hsz) G5.out hsz
    have e5 := keep_bel (keep_bel (keep_bel BB.out G3.out) G4.out) G5.out
    have O9 := Lib.hid (new_own (.cells #[.int .i64 ka, .int .i64 kb, .int .i64 y3, .int .i64 1000001, .int .i64 (-1)] 3) (keep_own (keep_own o5 G6.out hsz) G7.out hsz))
    have E9 := Lib.hid (new_bel (.cells #[.int .i64 ka, .int .i64 kb, .int .i64 y3, .int .i64 1000001, .int .i64 (-1)] 3) (keep_bel (keep_bel e5 G6.out) G7.out))
    clear o5 e5
    go_wp2
    go_ret3
    exact ⟨A2, k, c2, zs, x, y, hk, rfl, hx1, hx2, by have := HY.out; have := HB3.out; omega, by have := HY.out; have := HB3.out; omega, (O9.out).mono (by omega), E9.out⟩

end Go.Proofs.Ytanncngbmgopnaa
