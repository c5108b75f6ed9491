/- l20Two: two lists, drawn; spec.DrawBehindOf. Condition: how often was drawn; the code's bounds. -/
import Derived.Test.YtdhgnbfkcpaohaaL20Map
namespace Go.Proofs.Ytdhgnbfkcpaohaa
open Go.RowKit
set_option linter.unusedVariables false

/-- Two lists of at most nine ints. -/
def RetTwo (w : World) (b : Nat) (e : Ending) (w' : World) : Prop :=
  ∃ A k c zs B m d ys, k ≤ 8 ∧ m ≤ 9 ∧ e = .returned (.tuple #[.slice A k c, .slice B m d]) ∧ View w' A k zs ∧ View w' B m ys ∧ Below b w w' ∧ w.heap.size ≤ w'.heap.size

set_option maxHeartbeats 2000000 in
theorem l20Two_any (b p n : Nat) (w : World) (hr : Rd w b p) (hm : n ≤ 1000000) (hp : p ≤ 900) :
    Calls Try.prog 76 #[.pointer (some ⟨b, 0, none⟩), .int .i64 7, .int .i64 n] w (RetTwo w b) := by
  have hbR := hr.lt
  have HR := Lib.hid hr
  clear hr
  go_enter Try.func76, Try.ntmps76
  go_wp2_with fail
  refine (l20Map_any b p n _ HR.out hm (by omega)).mono ?_
  rintro e w1 ⟨A1, k1, c1, zs, hk1, rfl, how1, ⟨p1, hp1, rd1⟩, hb1, hs1, _⟩
  have hv1 := how1.viewL
  have hat := how1.at_
  have hat1 : ∀ g off, 0 < k1 → A1 = some ⟨g, off, none⟩ → b < g ∧ g < w1.heap.size := fun g off hn e => by
    obtain ⟨g', e', h1, h2⟩ := hat hn
    rw [e'] at e
    injection e with e
    injection e with e _ _
    omega
  have HAT := Lib.hid hat1
  have D0 : Hid (Own (w1.alloc (.cells #[] 3)) w1.heap.size (.slice (some ⟨w1.heap.size, 0, none⟩) 0 0) []) := Lib.hid (own_mt w1)
  have V0 := Lib.hid (hv1.below (below_mt w1))
  have RD0 := Lib.hid (rd1.below (below_mt w1))
  have B0 := Lib.hid (hb1.trans ((below_mt w1).mono (by omega)))
  have hs0 := Nat.le_trans hs1 (below_mt w1).size
  have hsA := (below_mt w1).size
  clear hv1 hat hat1 how1 rd1 hb1 HR
  go_wp2_with fail
  go_loopw [9, 10] (fun v i wr => ∃ k : Nat, k ≤ k1 ∧ i = .int .i64 k ∧ (∃ ys : List Int, ys.length = k ∧ Own wr w1.heap.size v ys) ∧ View wr A1 k1 zs ∧ (∃ p', p' ≤ p + 30 + k ∧ Rd wr b p') ∧ Below b w wr ∧ w1.heap.size ≤ wr.heap.size) (fun _ i _ => k1 - (intOf i).toNat)
  case atStart => exact ⟨0, Nat.zero_le _, rfl, ⟨[], rfl, D0.out⟩, V0.out, ⟨p1, by omega, RD0.out⟩, B0.out, hsA⟩
  case round =>
    obtain ⟨k, hk, rfl, ⟨ys, hyl, how⟩, hv, ⟨p2, hp2, rd2⟩, hb, hs⟩ := hrel
    have HO := Lib.hid how
    have HV := Lib.hid hv
    have HB := Lib.hid hb
    have R2 := Lib.hid rd2
    clear how hv hb rd2
    by_cases hlt : k < k1
    · go_wp2_with fail
      refine (pick_any b p2 k1 _ R2.out (by omega) (by omega) (by omega)).mono ?_
      rintro e w3 ⟨z, hz, rfl, r3, g3⟩
      have HO3 := Lib.hid (HO.out.kept g3 (.inr fun e => by have := (HO.out.block b e).1; omega))
      have HV3 := Lib.hid (HV.out.grown g3 (fun g off e e2 => by have := HAT.out g off (by omega) e; injection e2; omega))
      have HB3 := Lib.hid (HB.out.grown g3 (by omega) (fun k e => by injection e; omega))
      have hs3 := Nat.le_trans hs g3.size
      have R3 := Lib.hid r3
      clear g3 r3
      go_wp2_with (at_builtin; refine wpList_app1 rfl (.tmp 22) (.tmp 27) rfl w1.heap.size _ _ rfl HO3.out _ rfl (by omega) hs3 ?_; intro v1 w4 how4 _ hb4)
      have HO4 := Lib.hid how4
      have HV4 := Lib.hid (HV3.out.keep hb4 (fun g off e => (HAT.out g off (by omega) e).2))
      have HB4 := Lib.hid (HB3.out.trans (hb4.mono (by omega)))
      have R4 := Lib.hid (R3.out.keep hb4 (by omega))
      have hs4 := Nat.le_trans hs3 hb4.size
      have hyl4 : (ys ++ [(z : Int)]).length = k + 1 := by simp [hyl]
      have HYL := Lib.hid hyl4
      clear how4 hb4 hyl4
      go_roundw
      case rel => exact ⟨k + 1, by omega, by go_num, ⟨_, HYL.out, HO4.out⟩, HV4.out, ⟨p2 + 1, by omega, R4.out⟩, HB4.out, hs4⟩
      case measure => simp [intOf]; omega
    · obtain rfl : k = k1 := by omega
      go_wp2_with fail
      refine (odd_any b p2 14 _ R2.out (by omega) (by omega)).mono ?_
      rintro e w3 ⟨t, _, rfl, _, g3⟩
      have HO3 := Lib.hid (HO.out.kept g3 (.inr fun e => by have := (HO.out.block b e).1; omega))
      have HV3 : Hid (View w3 A1 k zs) := Lib.hid (fun hn => (HV.out.grown g3 (fun g off e e2 => by have := HAT.out g off hn e; injection e2; omega)) hn)
      have HB3 := Lib.hid (HB.out.grown g3 (by omega) (fun k e => by injection e; omega))
      have hs3 := Nat.le_trans hs g3.size
      clear g3
      cases t with
      | true =>
        go_wp2_with (at_builtin; refine wpList_app1 rfl (.tmp 32) (.tmp 33) rfl w1.heap.size _ _ rfl HO3.out 0 rfl (by omega) hs3 ?_; intro v1 w4 how4 _ hb4)
        obtain ⟨A4, c4, rfl, _⟩ := how4.form
        have HV4 : Hid (View w4 A1 k zs) := Lib.hid (fun hn => (HV3.out.keep hb4 (fun g off e => (HAT.out g off hn e).2)) hn)
        have HB4 := Lib.hid (HB3.out.trans (hb4.mono (by omega)))
        have V4 := Lib.hid how4.view
        have hl4 : (ys ++ [(0 : Int)]).length ≤ 9 := by simp; omega
        have HL4 := Lib.hid hl4
        have hs4 := Nat.le_trans hs3 hb4.size
        clear how4 hb4 hl4
        go_wp2
        go_ret2
        exact ⟨A1, k, c1, zs, A4, _, c4, _, hk1, HL4.out, rfl, HV4.out, V4.out, HB4.out, by omega⟩
      | false =>
        obtain ⟨A4, c4, rfl, _⟩ := HO3.out.form
        have V4 := Lib.hid HO3.out.view
        rw [hyl] at V4
        go_wp2
        go_ret2
        exact ⟨A1, k, c1, zs, A4, _, c4, _, hk1, by omega, rfl, HV3.out, V4.out, HB3.out, by omega⟩

/-- Two drawn lists. -/
def RetDrawn2 (w : World) (e : Ending) (w' : World) : Prop :=
  ∃ A k c zs B m d ys, k ≤ 8 ∧ m ≤ 9 ∧ e = .returned (.tuple #[.slice A k c, .slice B m d]) ∧ View w' A k zs ∧ View w' B m ys ∧ Below w.heap.size w w'

set_option maxHeartbeats 400000 in
theorem drawBehindOf_any (A : Option Addr) (n c : Nat) (q : Nat → Int) (w : World) (hA : Bytes w A n c q) :
    Calls Try.prog 28 #[.slice A n c] w (RetDrawn2 w) := by
  have HA := Lib.hid hA
  clear hA
  go_enter Try.func28, Try.ntmps28
  go_wp2_with fail
  refine (l20Open_any A n c q w HA.out).mono ?_
  rintro e w1 ⟨rfl, r1, b1⟩
  have B1 := Lib.hid b1
  go_wp2_with fail
  refine (l20Two_any w.heap.size 0 14 _ r1 (by omega) (by omega)).mono ?_
  rintro e w2 ⟨A2, k, c2, zs, B2, m, d2, ys, hk, hm, rfl, v1, v2, b2, _⟩
  have V1 := Lib.hid v1
  have V2 := Lib.hid v2
  have BB := Lib.hid (B1.out.trans b2)
  clear r1 b1 b2 v1 v2
  go_wp2
  go_ret2
  exact ⟨A2, k, c2, zs, B2, m, d2, ys, hk, hm, rfl, V1.out, V2.out, BB.out⟩

end Go.Proofs.Ytdhgnbfkcpaohaa
