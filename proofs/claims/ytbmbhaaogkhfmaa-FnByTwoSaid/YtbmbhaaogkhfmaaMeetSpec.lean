/- spec.MeetingOf: where two walkers meet. Conditions: a map and one of its things, or none. -/
import Derived.Test.YtbmbhaaogkhfmaaMeeting
import Derived.Test.YtbmbhaaogkhfmaaOkSpec
import Derived.Test.YtbmbhaaogkhfmaaL1In
namespace Go.Proofs.Ytbmbhaaogkhfmaa
open Go.RowKit
set_option linter.unusedVariables false

/-- Two numbers and a truth. -/
def RetTri (w : World) (a b : Int) (t : Bool) (e : Ending) (w' : World) : Prop := e = .returned (.tuple #[.int .i64 a, .int .i64 b, .bool t]) ∧ Below w.heap.size w w'

set_option maxHeartbeats 1000000 in
theorem sMeetingOf_yes (A : Option Addr) (n c x t l m : Nat) (s : Nat → Nat) (w : World) (hA : View w A n (up s)) (hs : Mp n s) (hx : x < n) (hr : Rho s x t l) (hmt : Meet s x m) :
    Calls Try.prog 39 #[.slice A n c, .int .i64 x] w (RetTri w m (it s m x) true) := by
  have h7 := hs.2.1
  have hle := hr.le hs hx
  have hml := (hmt.facts hr).2.2.1
  have hm1 := hmt.1
  have HS := Lib.hid hs
  have HI := Lib.hid (it_lt hs hx)
  have HM := Lib.hid hmt
  clear hs hmt hr
  obtain ⟨gm, off, rfl, hg, hc⟩ := hA (by omega)
  have HC : Hid (Map w gm off n s) := Lib.hid hc
  clear hc
  go_enter Try.func39, Try.ntmps39
  go_wp2_with fail
  refine (sMapOk_yes _ _ _ _ _ hA HS.out.valid).mono ?_
  rintro e w_ ⟨rfl, rfl⟩
  go_wp2_with fail
  refine (l1In_yes _ _ _ _ (by omega) (by omega)).mono ?_
  rintro e w_ ⟨rfl, rfl⟩
  have i1 := HI.out 1
  have c0 : w.cell? ⟨gm, off + x, none⟩ = some (.int .i64 (it s 1 x : Int)) := HC.out x hx
  have c1 : w.cell? ⟨gm, off + it s 1 x, none⟩ = some (.int .i64 (it s 2 x : Int)) := HC.out _ i1
  go_wp2_with fail
  go_loop [7, 8, 9] (fun a b i => ∃ j : Nat, 1 ≤ j ∧ j ≤ m ∧ i = .int .i64 (j : Int) ∧ a = .int .i64 (it s j x : Int) ∧ b = .int .i64 (it s (2 * j) x : Int)) (fun _ _ i => m - (intOf i).toNat)
  case atStart => exact ⟨1, by omega, hm1, rfl, rfl, rfl⟩
  case round =>
    obtain ⟨j, hj1, hj, rfl, rfl, rfl⟩ := hrel
    have k1 := HI.out j
    have k2 := HI.out (2 * j)
    have k3 := HI.out (2 * j + 1)
    have d1 : w.cell? ⟨gm, off + it s j x, none⟩ = some (.int .i64 (it s (j + 1) x : Int)) := HC.out _ k1
    have d2 : w.cell? ⟨gm, off + it s (2 * j) x, none⟩ = some (.int .i64 (it s (2 * j + 1) x : Int)) := HC.out _ k2
    have d3 : w.cell? ⟨gm, off + it s (2 * j + 1) x, none⟩ = some (.int .i64 (it s (2 * (j + 1)) x : Int)) := HC.out _ k3
    by_cases hlt : j < m
    · have ht : ((it s j x : Int) != (it s (2 * j) x : Int)) = true := by
        have := HM.out.2.2 j hj1 hlt
        simp; omega
      go_wp2
      go_round
      case rel => exact ⟨j + 1, by omega, hlt, by go_num, rfl, rfl⟩
      case measure => simp [intOf]; omega
    · obtain rfl : j = m := by omega
      have ht : ((it s j x : Int) != (it s (2 * j) x : Int)) = false := by
        have := HM.out.2.1
        simp; omega
      go_wp2
      go_ret3
      exact ⟨rfl, Below.refl _ _⟩

set_option maxHeartbeats 400000 in
theorem sMeetingOf_no (A : Option Addr) (n c : Nat) (x : Int) (p : Nat → Int) (w : World) (hA : View w A n p) (hn : n ≤ 1099511627776) (h : ¬ (Valid n p ∧ 0 ≤ x ∧ x < n)) :
    Calls Try.prog 39 #[.slice A n c, .int .i64 x] w (RetTri w (-1) (-1) false) := by
  by_cases hv : Valid n p
  · have HV := Lib.hid hv
    have hx : Hid (¬ (0 ≤ x ∧ x ≤ (n : Int) - 1)) := Lib.hid (fun hx => h ⟨hv, hx.1, by omega⟩)
    clear hv h
    go_enter Try.func39, Try.ntmps39
    go_wp2_with fail
    refine (sMapOk_yes _ _ _ _ _ hA HV.out).mono ?_
    rintro e w_ ⟨rfl, rfl⟩
    have h7 := HV.out.2.1
    go_wp2_with fail
    refine (l1In_no _ _ _ _ hx.out).mono ?_
    rintro e w_ ⟨rfl, rfl⟩
    go_wp2
    go_ret3
    exact ⟨rfl, Below.refl _ _⟩
  · have HV := Lib.hid hv
    clear hv h
    go_enter Try.func39, Try.ntmps39
    go_wp2_with fail
    refine (sMapOk_no _ _ _ _ _ hA HV.out hn).mono ?_
    rintro e w_ ⟨rfl, rfl⟩
    go_wp2
    go_ret3
    exact ⟨rfl, Below.refl _ _⟩

end Go.Proofs.Ytbmbhaaogkhfmaa
