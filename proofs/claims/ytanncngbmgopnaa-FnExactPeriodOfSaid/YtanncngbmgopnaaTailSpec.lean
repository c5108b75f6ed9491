/- spec.TailOf: how many things the way from a thing has ahead of its loop. Conditions: a map and one of its things, or none. -/
import Derived.Test.YtanncngbmgopnaaWay
namespace Go.Proofs.Ytanncngbmgopnaa
open Go.RowKit
set_option linter.unusedVariables false

set_option maxHeartbeats 1000000 in
theorem sTailOf_yes (A : Option Addr) (n c x t l : Nat) (s : Nat → Nat) (w : World) (hA : View w A n (up s)) (hs : Mp n s) (hx : x < n) (hr : Rho s x t l) :
    Calls Try.prog 75 #[.slice A n c, .int .i64 x] w (RetInt w t) := by
  have h7 := hs.2.1
  have hle := hr.le hs hx
  have hlp := hr.pos
  have HI := Lib.hid (it_lt hs hx)
  have HS := Lib.hid hs
  have HR := Lib.hid hr
  clear hs hr
  go_enter Try.func75, Try.ntmps75
  go_wp2_with fail
  refine ((sWayFrom_yes _ _ _ _ _ _ _ _ hA HS.out hx HR.out).mono fun _ _ h => RetOwn.lst_ h).mono ?_
  rintro e w1 ⟨A1, c1, rfl, o1, b1⟩
  obtain ⟨g1, rfl, hg1, hg2⟩ := o1.at_ (by omega)
  obtain ⟨g, off, rfl, hg, hc⟩ := (hA.below b1) (by omega)
  have HC := Lib.hid hc
  clear hc hA
  go_wp2
  go_loopw [6] (fun i wr => ∃ k : Nat, k ≤ t ∧ i = .int .i64 k ∧ Below w1.heap.size w1 wr) (fun i _ => n - (intOf i).toNat)
  case atStart => exact ⟨0, Nat.zero_le _, rfl, Below.refl _ _⟩
  case round =>
    obtain ⟨k, hk, rfl, hb⟩ := hrel
    have hlt : k < t + l := by omega
    have hi := HI.out (t + l - 1)
    have d1 : wr.cell? ⟨g1, k, none⟩ = some (.int .i64 (it s k x : Int)) := (hb.cell (p := ⟨g1, k, none⟩) hg2).trans (o1.cellL k hlt)
    have d2 : wr.cell? ⟨g1, t + l - 1, none⟩ = some (.int .i64 (it s (t + l - 1) x : Int)) := (hb.cell (p := ⟨g1, t + l - 1, none⟩) hg2).trans (o1.cellL (t + l - 1) (by omega))
    have d3 : wr.cell? ⟨g, off + it s (t + l - 1) x, none⟩ = some (.int .i64 (it s t x : Int)) := by
      rw [(hb.cell (p := ⟨g, off + it s (t + l - 1) x, none⟩) hg), HC.out _ hi]
      show some (Value.int .i64 ((it s (t + l - 1 + 1) x : Nat) : Int)) = _
      rw [show t + l - 1 + 1 = t + l from by omega, HR.out.back]
    by_cases hkt : k < t
    · have he : ((it s k x : Int) == (it s t x : Int)) = false := by
        have := HR.out.2.2 k t hkt (by omega)
        simp; omega
      go_wp2_with fail
      go_quiet (fail)
      go_wp2
      go_roundw
      case rel => exact ⟨k + 1, by omega, by go_num, below_drewN hb _⟩
      case measure => simp [intOf]; omega
    · obtain rfl : k = t := by omega
      have he : ((it s k x : Int) == (it s k x : Int)) = true := by simp
      go_wp2_with fail
      go_quiet (fail)
      go_wp2
      go_ret
      exact ⟨rfl, below_more b1 (below_drewN hb _)⟩

set_option maxHeartbeats 1000000 in
theorem sTailOf_no (A : Option Addr) (n c : Nat) (x : Int) (p : Nat → Int) (w : World) (hA : View w A n p) (hn : n ≤ 1099511627776) (h : ¬ (Valid n p ∧ 0 ≤ x ∧ x < n)) :
    Calls Try.prog 75 #[.slice A n c, .int .i64 x] w (RetInt w (-1)) := by
  have HH := Lib.hid h
  clear h
  go_enter Try.func75, Try.ntmps75
  go_wp2_with fail
  refine (sWayFrom_no _ _ _ _ _ _ hA hn HH.out).mono ?_
  rintro e w1 ⟨A1, c1, rfl, o1, b1⟩
  go_wp2
  refine wp_loop_rounds 1 ?_
  rw [rounds_succ]
  go_wp2
  go_ret
  exact ⟨rfl, b1⟩

end Go.Proofs.Ytanncngbmgopnaa
