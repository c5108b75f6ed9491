/- spec.DrawPowerOf: a drawn list and a number. Condition: the code's bounds. -/
import Derived.Test.YtbmbhaaogkhfmaaL20At
import Derived.Deep.RegionWith
import Derived.IntWalk
namespace Go.Proofs.Ytbmbhaaogkhfmaa
open Go.RowKit
set_option linter.unusedVariables false

/-- What a draw of a map and a number of times gives. -/
def RetDrawnBig (w : World) (e : Ending) (w' : World) : Prop :=
  ∃ A k c zs x, k ≤ 8 ∧ e = .returned (.tuple #[.slice A k c, .int .i64 x]) ∧ -1 ≤ x ∧ x ≤ 1000001 ∧ Own w' w.heap.size (.slice A k c) (lst k zs) ∧ Below w.heap.size w w'

theorem five_at {w : World} {b i : Nat} {a1 a2 a3 a4 a5 : Int} (h : Bk w b #[.int .i64 a1, .int .i64 a2, .int .i64 a3, .int .i64 a4, .int .i64 a5] 3) (hi : i < 5) : ∃ y, w.cell? ⟨b, i, none⟩ = some (.int .i64 y) ∧ (y = a1 ∨ y = a2 ∨ y = a3 ∨ y = a4 ∨ y = a5) := by
  have h5 : i = 0 ∨ i = 1 ∨ i = 2 ∨ i = 3 ∨ i = 4 := by omega
  rcases h5 with rfl | rfl | rfl | rfl | rfl
  · exact ⟨a1, h.cell 0, .inl rfl⟩
  · exact ⟨a2, h.cell 1, .inr (.inl rfl)⟩
  · exact ⟨a3, h.cell 2, .inr (.inr (.inl rfl))⟩
  · exact ⟨a4, h.cell 3, .inr (.inr (.inr (.inl rfl)))⟩
  · exact ⟨a5, h.cell 4, .inr (.inr (.inr (.inr rfl)))⟩
theorem half_at {k : Nat} (h : k < 9) : ∃ i : Nat, (k : Int).tdiv 2 = i ∧ (k : Int) / 2 = i ∧ i < 5 ∧ (i : Int) < 5 ∧ (0 : Int) ≤ i ∧ (i : Int).toNat = i ∧ IntKind.i64.wrap (i : Int) = i := ⟨k / 2, by rw [Int.tdiv_eq_ediv_of_nonneg (by omega)]; omega, by omega, by omega, by omega, by omega, by omega, IntWalk.i64_in _ (by omega)⟩

set_option maxHeartbeats 4000000 in
theorem drawPowerOf_any (A : Option Addr) (n c : Nat) (q : Nat → Int) (w : World) (hA : Bytes w A n c q) :
    Calls Try.prog 43 #[.slice A n c] w (RetDrawnBig w) := by
  have HA := Lib.hid hA
  clear hA
  go_enter Try.func43, Try.ntmps43
  go_wp2_with fail
  refine (l20Open_any A n c q w HA.out).mono ?_
  rintro e w1 ⟨rfl, r1, b1⟩
  have B1 := Lib.hid b1
  have RD := Lib.hid (r1.below (Below.refl _ _).drew)
  have hsz := r1.lt
  clear r1 b1
  go_wp2_with fail
  go_region_with (first
    | (go_at_call 61; refine (l20Map_any w.heap.size 0 12 _ RD.out (by omega) (by omega)).mono ?_; rintro e w2 ⟨A2, k, c2, zs, hk, rfl, how, ⟨p2, hp2, rd2⟩, b2, hs, _⟩; have HO := Lib.hid how; have RR := Lib.hid rd2; have BB := Lib.hid b2; clear how rd2 b2)
    | (go_at_call 65; refine (pick_any w.heap.size p2 6 _ RR.out (by omega) (by omega) (by omega)).mono ?_; rintro e w3 ⟨ka, hka, rfl, r3, g3⟩; have R3 := Lib.hid r3; have G3 := Lib.hid g3; clear r3 g3 RR)
    | (go_at_call 65; refine (pick_any w.heap.size (p2 + 1) 60 _ R3.out (by omega) (by omega) (by omega)).mono ?_; rintro e w4 ⟨kb, hkb, rfl, r4, g4⟩; have R4 := Lib.hid r4; have G4 := Lib.hid g4; clear r4 g4 R3)
    | (go_at_call 65; refine (pick_any w.heap.size (p2 + 1 + 1) 9 _ R4.out (by omega) (by omega) (by omega)).mono ?_; rintro e w5 ⟨kc, hkc, rfl, _, g5⟩; obtain ⟨i, hi, hi2, hi5, hi6, hi7, hi8, hi9⟩ := half_at hkc; obtain ⟨y, hy, hyo⟩ := five_at (Bk.new w5 #[.int .i64 ka, .int .i64 kb, .int .i64 1000000, .int .i64 (-1), .int .i64 1000001] 3) hi5; have G5 := Lib.hid g5; have HY := Lib.hid hyo; clear g5 hyo R4)
    | (go_at_call 65; refine (pick_any w.heap.size (p2 + 1 + 1) 9 _ (R4.out.below ((Below.refl _ _).alloc (Nat.le_refl _) _)) (by omega) (by omega) (by omega)).mono ?_; rintro e w5 ⟨kc, hkc, rfl, _, g5⟩; obtain ⟨i, hi, hi2, hi5, hi6, hi7, hi8, hi9⟩ := half_at hkc; have bk5 : Bk w5 w4.heap.size #[.int .i64 ka, .int .i64 kb, .int .i64 1000000, .int .i64 (-1), .int .i64 1000001] 3 := (g5.block w4.heap.size (by simp) (fun e => by injection e with e; have := R4.out.lt; omega)).trans (Bk.new w4 #[.int .i64 ka, .int .i64 kb, .int .i64 1000000, .int .i64 (-1), .int .i64 1000001] 3); obtain ⟨y, hy, hyo⟩ := five_at bk5 hi5; have G5 := Lib.hid g5; have HY := Lib.hid hyo; clear g5 hyo bk5 R4))
  · have hsz1 : w1.drew.heap.size = w1.heap.size := rfl
    have o3 := HO.out.kept G3.out (.inr fun e => by have := (HO.out.block _ e).1; omega)
    have o4 := o3.kept G4.out (.inr fun e => by have := (o3.block _ e).1; omega)
    have e3 := (B1.out.drew.trans BB.out).grown G3.out (by omega) (fun k e => by injection e; omega)
    have s3 := G3.out.size
    have e4 := e3.grown G4.out (by omega) (fun k e => by injection e; omega)
    have s4 := G4.out.size
    have hal := (Below.refl w4.heap.size w4).alloc (Nat.le_refl _) (.cells #[.int .i64 ka, .int .i64 kb, .int .i64 1000000, .int .i64 (-1), .int .i64 1000001] 3)
    have o5 := o4.below hal
    have e5 := e4.trans (hal.mono (by omega))
    have s5 := hal.size
    have o6 := o5.kept G5.out (.inr fun e => by have := (o5.block _ e).1; omega)
    have e6 := e5.grown G5.out (by omega) (fun k e => by injection e; omega)
    have O9 := Lib.hid o6
    have E9 := Lib.hid e6
    clear o3 o4 o5 o6 e3 e4 e5 e6 hal
    go_wp2
    go_ret2
    exact ⟨A2, k, c2, zs, y, hk, rfl, by have := HY.out; omega, by have := HY.out; omega, (O9.out).mono (by omega), E9.out⟩
  · have hsz1 : w1.drew.heap.size = w1.heap.size := rfl
    have o3 := HO.out.kept G3.out (.inr fun e => by have := (HO.out.block _ e).1; omega)
    have o4 := o3.kept G4.out (.inr fun e => by have := (o3.block _ e).1; omega)
    have e3 := (B1.out.drew.trans BB.out).grown G3.out (by omega) (fun k e => by injection e; omega)
    have s3 := G3.out.size
    have e4 := e3.grown G4.out (by omega) (fun k e => by injection e; omega)
    have s4 := G4.out.size
    have o5 := o4.kept G5.out (.inr fun e => by have := (o4.block _ e).1; omega)
    have e5 := e4.grown G5.out (by omega) (fun k e => by injection e; omega)
    have s5 := G5.out.size
    have hal := (Below.refl w5.heap.size w5).alloc (Nat.le_refl _) (.cells #[.int .i64 ka, .int .i64 kb, .int .i64 1000000, .int .i64 (-1), .int .i64 1000001] 3)
    have o6 := o5.below hal
    have e6 := e5.trans (hal.mono (by omega))
    have O9 := Lib.hid o6
    have E9 := Lib.hid e6
    clear o3 o4 o5 o6 e3 e4 e5 e6 hal
    go_wp2
    go_ret2
    exact ⟨A2, k, c2, zs, y, hk, rfl, by have := HY.out; omega, by have := HY.out; omega, (O9.out).mono (by omega), E9.out⟩

end Go.Proofs.Ytbmbhaaogkhfmaa
