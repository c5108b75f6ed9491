/- l20At: a drawn list and a number; what the draws give. Condition: how often was drawn. -/
import Derived.Test.YtanncngbmgopnaaL20Map
namespace Go.Proofs.Ytanncngbmgopnaa
open Go.RowKit
set_option linter.unusedVariables false

/-- A list of at most eight ints of the call's own, and a small number; the reader at b has gone on. -/
def RetMapAt (w : World) (b p : Nat) (e : Ending) (w' : World) : Prop :=
  ∃ A k c zs x, k ≤ 8 ∧ e = .returned (.tuple #[.slice A k c, .int .i64 x]) ∧ -1000 ≤ x ∧ x ≤ 1000 ∧ Own w' w.heap.size (.slice A k c) (lst k zs) ∧ (∃ p', p' ≤ p + 40 ∧ Rd w' b p') ∧ Below b w w' ∧ w.heap.size ≤ w'.heap.size

set_option maxHeartbeats 1000000 in
theorem l20At_any (b p n : Nat) (w : World) (hr : Rd w b p) (hm : n ≤ 1000000) (hp : p ≤ 900) :
    Calls Try.prog 74 #[.pointer (some ⟨b, 0, none⟩), .int .i64 n] w (RetMapAt w b p) := by
  have hbR := hr.lt
  have HR := Lib.hid hr
  clear hr
  go_enter Try.func74, Try.ntmps74
  go_wp2_with fail
  refine (l20Map_any b p n _ HR.out hm (by omega)).mono ?_
  rintro e w1 ⟨A, k, c, zs, hk, rfl, how, ⟨p1, hp1, rd1⟩, hb1, hs1, _⟩
  have HO1 := Lib.hid how
  have HB1 := Lib.hid hb1
  clear how hb1 HR
  go_wp2_with fail
  case inl =>
    refine (pick_any b p1 1 _ rd1 (by omega) (by omega) (by omega)).mono ?_
    rintro e w2 ⟨x1, hx1, rfl, r2, g2⟩
    have how2 := Lib.hid (HO1.out.kept g2 (.inr fun e => by have := (HO1.out.block b e).1; omega))
    have hb2 := Lib.hid (HB1.out.grown g2 (by omega) (fun k e => by injection e; omega))
    have hs2 := Nat.le_trans hs1 g2.size
    clear HO1 HB1 g2 rd1
    go_wp2_with fail
    refine (pick_any b (p1 + 1) 30 _ r2 (by omega) (by omega) (by omega)).mono ?_
    rintro e w3 ⟨x2, hx2, rfl, r3, g3⟩
    have how3 := Lib.hid (how2.out.kept g3 (.inr fun e => by have := (how2.out.block b e).1; omega))
    have hb3 := Lib.hid (hb2.out.grown g3 (by omega) (fun k e => by injection e; omega))
    have hs3 := Nat.le_trans hs2 g3.size
    clear how2 hb2 g3 r2
    go_wp2_with fail
    refine (pick_any b (p1 + 1 + 1) 40 _ r3 (by omega) (by omega) (by omega)).mono ?_
    rintro e w4 ⟨x3, hx3, rfl, r4, g4⟩
    have how4 := Lib.hid (how3.out.kept g4 (.inr fun e => by have := (how3.out.block b e).1; omega))
    have hb4 := Lib.hid (hb3.out.grown g4 (by omega) (fun k e => by injection e; omega))
    have hs4 := Nat.le_trans hs3 g4.size
    have R4 := Lib.hid r4
    clear how3 hb3 g4 r3 r4
    go_wp2
    go_ret2
    exact ⟨A, k, c, zs, _, hk, rfl, by omega, by omega, how4.out, ⟨_, by omega, R4.out⟩, hb4.out, hs4⟩
  case inr =>
    refine (pick_any b p1 k _ rd1 (by omega) (by omega) (by omega)).mono ?_
    rintro e w2 ⟨x1, hx1, rfl, r2, g2⟩
    have how2 := Lib.hid (HO1.out.kept g2 (.inr fun e => by have := (HO1.out.block b e).1; omega))
    have hb2 := Lib.hid (HB1.out.grown g2 (by omega) (fun k e => by injection e; omega))
    have hs2 := Nat.le_trans hs1 g2.size
    clear HO1 HB1 g2 rd1
    go_wp2_with fail
    refine (pick_any b (p1 + 1) 30 _ r2 (by omega) (by omega) (by omega)).mono ?_
    rintro e w3 ⟨x2, hx2, rfl, r3, g3⟩
    have how3 := Lib.hid (how2.out.kept g3 (.inr fun e => by have := (how2.out.block b e).1; omega))
    have hb3 := Lib.hid (hb2.out.grown g3 (by omega) (fun k e => by injection e; omega))
    have hs3 := Nat.le_trans hs2 g3.size
    clear how2 hb2 g3 r2
    go_wp2_with fail
    refine (pick_any b (p1 + 1 + 1) 40 _ r3 (by omega) (by omega) (by omega)).mono ?_
    rintro e w4 ⟨x3, hx3, rfl, r4, g4⟩
    have how4 := Lib.hid (how3.out.kept g4 (.inr fun e => by have := (how3.out.block b e).1; omega))
    have hb4 := Lib.hid (hb3.out.grown g4 (by omega) (fun k e => by injection e; omega))
    have hs4 := Nat.le_trans hs3 g4.size
    have R4 := Lib.hid r4
    clear how3 hb3 g4 r3 r4
    go_wp2
    go_ret2
    exact ⟨A, k, c, zs, _, hk, rfl, by omega, by omega, how4.out, ⟨_, by omega, R4.out⟩, hb4.out, hs4⟩

/-- What a draw of a map gives. -/
def RetDrawn (w : World) (e : Ending) (w' : World) : Prop :=
  ∃ A k c zs, k ≤ 8 ∧ e = .returned (.slice A k c) ∧ Own w' w.heap.size (.slice A k c) (lst k zs) ∧ Below w.heap.size w w'
/-- What a draw of a map and a number gives. -/
def RetDrawnAt (w : World) (e : Ending) (w' : World) : Prop :=
  ∃ A k c zs x, k ≤ 8 ∧ e = .returned (.tuple #[.slice A k c, .int .i64 x]) ∧ -1000 ≤ x ∧ x ≤ 1000 ∧ Own w' w.heap.size (.slice A k c) (lst k zs) ∧ Below w.heap.size w w'

end Go.Proofs.Ytanncngbmgopnaa
