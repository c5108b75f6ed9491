/- The ways: spec.WayFrom, impl.walked, impl.WayFrom: the things on the way from a thing. Conditions: the length's bound. -/
import Derived.Test.YtanncngbmgopnaaApp
import Derived.Test.YtanncngbmgopnaaWayD
import Derived.Test.YtanncngbmgopnaaMask
import Derived.Test.YtanncngbmgopnaaOkImpl
import Derived.Test.YtanncngbmgopnaaOkSpec
import Derived.Test.YtanncngbmgopnaaThingOk
import Derived.Test.YtanncngbmgopnaaL1In
namespace Go.Proofs.Ytanncngbmgopnaa
open Go.RowKit
set_option linter.unusedVariables false

set_option maxHeartbeats 1000000 in
theorem sWayFrom_yes (A : Option Addr) (n c x t l : Nat) (s : Nat → Nat) (w : World) (hA : View w A n (up s)) (hs : Mp n s) (hx : x < n) (hr : Rho s x t l) :
    Calls Try.prog 67 #[.slice A n c, .int .i64 x] w (RetOwn w (lst (t + l) (way s x))) := by
  have h7 := hs.2.1
  have hle := hr.le hs hx
  have hlp := hr.pos
  have hi : ∀ j, it s j x < n := it_lt hs hx
  have hi7 : ∀ j, it s j x < 7 := fun j => Nat.lt_of_lt_of_le (hi j) h7
  have HI := Lib.hid hi
  have HI7 := Lib.hid hi7
  have HV := Lib.hid hs.valid
  have HR := Lib.hid hr
  clear hi hi7 hs hr
  have hA1 := hA.below (below_empty' w)
  have hxl : (x : Int) ≤ n - 1 := by omega
  obtain ⟨g, off, rfl, hg, hc⟩ := hA (by omega)
  have HC := Lib.hid hc
  clear hc
  go_enter Try.func67, Try.ntmps67
  go_wp2_with fail
  refine (sMapOk_yes _ _ _ _ _ hA1 HV.out).mono ?_
  rintro e w_ ⟨rfl, rfl⟩
  clear hA1
  go_wp2_with fail
  refine (l1In_yes _ _ _ _ (by omega) hxl).mono ?_
  rintro e w_ ⟨rfl, rfl⟩
  go_wp2
  go_loopw [5, 6, 7] (fun v q i wr => ∃ k : Nat, k ≤ t + l ∧ q = .int .i64 (msk s x k) ∧ i = .int .i64 (it s k x : Int) ∧ Own wr w.heap.size v (lst k (way s x)) ∧ Below w.heap.size w wr) (fun v _ _ _ => t + l - lenOf v)
  case atStart => exact ⟨0, Nat.zero_le _, rfl, rfl, own_empty' w, below_empty' w⟩
  case round =>
    obtain ⟨k, hk, rfl, rfl, how, hb⟩ := hrel
    have hm := msk_bounds HI7.out k
    obtain ⟨m0, m1⟩ := hm
    have hik := HI.out k
    have hik7 := HI7.out k
    by_cases hlt : k < t + l
    · have ht : ((msk s x k / 2 ^ (it s k x)).tmod 2 == 0) = true := shr_clear HI7.out hik7 (fun j hj => HR.out.2.2 j k hj hlt)
      have c1 : wr.cell? ⟨g, off + it s k x, none⟩ = some (.int .i64 (it s (k + 1) x : Int)) := (hb.cell (p := ⟨g, off + it s k x, none⟩) hg).trans (HC.out _ hik)
      go_wp2_with (at_builtin; refine wpList_app1 rfl (.tmp 31) (.tmp 33) rfl w.heap.size _ _ rfl how _ rfl (by rw [length_lst]; omega) hb.size ?_; intro v1 w1 how1 _ hb1; have c2 := (hb1.cell (p := ⟨g, off + it s k x, none⟩) hg).trans c1)
      have how2 : Own w1 w.heap.size v1 (lst (k + 1) (way s x)) := by rw [lst_succ]; exact how1
      clear how1
      go_roundw
      case rel => exact ⟨k + 1, by omega, rfl, rfl, how2, hb.trans hb1⟩
      case measure => rw [lenOf_own how2, lenOf_own how, length_lst, length_lst]; omega
    · obtain rfl : k = t + l := by omega
      have ht : ((msk s x (t + l) / 2 ^ (it s (t + l) x)).tmod 2 == 0) = false := shr_set HI7.out hik7 (j := t) (by omega) HR.out.back.symm
      go_wp2
      go_ret
      exact RetOwn.of_ rfl how hb

set_option maxHeartbeats 1000000 in
theorem sWayFrom_no (A : Option Addr) (n c : Nat) (x : Int) (p : Nat → Int) (w : World) (hA : View w A n p) (hn : n ≤ 1099511627776) (h : ¬ (Valid n p ∧ 0 ≤ x ∧ x < n)) :
    Calls Try.prog 67 #[.slice A n c, .int .i64 x] w (RetOwn w []) := by
  have hA1 := hA.below (below_empty' w)
  by_cases hv : Valid n p
  · have HV := Lib.hid hv
    by_cases h0 : 0 ≤ x
    · have h1 : ¬ x ≤ n - 1 := fun h1 => h ⟨hv, h0, by omega⟩
      clear hv h
      go_enter Try.func67, Try.ntmps67
      go_wp2_with fail
      refine (sMapOk_yes _ _ _ _ _ hA1 HV.out).mono ?_
      rintro e w_ ⟨rfl, rfl⟩
      go_wp2_with fail
      refine (l1In_no _ _ _ _ (by omega)).mono ?_
      rintro e w_ ⟨rfl, rfl⟩
      go_wp2
      go_ret
      exact RetOwn.of_ rfl (own_empty' w) (below_empty' w)
    · clear hv h
      go_enter Try.func67, Try.ntmps67
      go_wp2_with fail
      refine (sMapOk_yes _ _ _ _ _ hA1 HV.out).mono ?_
      rintro e w_ ⟨rfl, rfl⟩
      go_wp2_with fail
      refine (l1In_no _ _ _ _ (by omega)).mono ?_
      rintro e w_ ⟨rfl, rfl⟩
      go_wp2
      go_ret
      exact RetOwn.of_ rfl (own_empty' w) (below_empty' w)
  · have HV := Lib.hid hv
    clear hv h
    go_enter Try.func67, Try.ntmps67
    go_wp2_with fail
    refine (sMapOk_no _ _ _ _ _ hA1 HV.out hn).mono ?_
    rintro e w_ ⟨rfl, rfl⟩
    go_wp2
    go_ret
    exact RetOwn.of_ rfl (own_empty' w) (below_empty' w)

end Go.Proofs.Ytanncngbmgopnaa
