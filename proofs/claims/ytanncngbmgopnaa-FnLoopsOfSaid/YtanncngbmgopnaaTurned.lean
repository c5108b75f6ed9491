/- impl.TurnedOf: the map that leads back. Conditions: a map, or none. -/
import Derived.Test.YtanncngbmgopnaaFib
import Derived.Test.YtanncngbmgopnaaMaskQ
import Derived.Test.YtanncngbmgopnaaOkImpl
namespace Go.Proofs.Ytanncngbmgopnaa
open Go.RowKit
set_option linter.unusedVariables false

theorem ret_ob {v : Value} {a b : Bool} (h : a = b) : Ending.returned (.tuple #[v, .bool a]) = .returned (.tuple #[v, .bool b]) := by rw [h]

/-- The row at g in the making. -/
theorem own_turn {w : World} {base g n c : Nat} {s : Nat → Nat} {k : Nat} (h : Own w base (.slice (some ⟨g, 0, none⟩) n c) (turnTo s n k)) (hk : s k < n) :
    Own (w.setCell ⟨g, s k, none⟩ (.int .i64 (k : Int))) base (.slice (some ⟨g, 0, none⟩) n c) (turnTo s n (k + 1)) := (h.stored (s k) (k : Int)).1

set_option maxHeartbeats 1000000 in
theorem turnedOf_yes (A : Option Addr) (n c : Nat) (s : Nat → Nat) (w : World) (hA : View w A n (up s)) (hs : Mp n s) (hi : Inj n s) :
    Calls Try.prog 31 #[.slice A n c] w (RetOwnB w (lst n (turned s n)) true) := by
  have hn1 := hs.1
  have hn7 := hs.2.1
  have HS := Lib.hid hs
  have HI := Lib.hid hi
  have H7 : Hid (∀ j, j < n → s j < 7) := Lib.hid (fun j hj => Nat.lt_of_lt_of_le (hs.lt hj) hn7)
  clear hs hi
  obtain ⟨i0, hi0, hz0, hz1, hz2⟩ := info_parts int_info
  go_enter Try.func31, Try.ntmps31
  go_wp2_with fail
  refine (mapOk_yes _ _ _ _ _ hA HS.out.valid).mono ?_
  rintro e w_ ⟨rfl, rfl⟩
  go_wp2_with (at_make; refine wpList_make_full _ rfl _ _ 22 rfl w.heap.size 3 i0 (.int .i64 0) 1 Try.underlying22 hi0 hz0 hz1 .i64 .i64 _ _ n rfl rfl rfl rfl (by rw [hz2]; omega) (by unfold maxLen; omega) (Nat.le_refl _) ?_; intro w1 hown1 hgr1)
  have how1 := Own.made hown1
  have hb1 : Below w.heap.size w w1 := (Below.refl _ _).grown hgr1 (Nat.le_refl _) (by intro k hk; cases hk)
  clear hown1 hgr1
  go_loopw [5, 16] (fun q i wr => ∃ k : Nat, k ≤ n ∧ i = .int .i64 k ∧ q = .int .i64 (mq s k) ∧ Own wr w.heap.size (.slice (some ⟨w.heap.size, 0, none⟩) n n) (turnTo s n k) ∧ Below w.heap.size w wr) (fun _ i _ => n - (intOf i).toNat)
  case atStart => exact ⟨0, Nat.zero_le _, rfl, rfl, how1, hb1⟩
  case round =>
    obtain ⟨k, hk, rfl, rfl, how, hb⟩ := hrel
    have hA' := hA.below hb
    by_cases hlt : k < n
    · obtain ⟨g, off, rfl, hg, hc⟩ := hA' (by omega)
      have c1 : wr.cell? ⟨g, off + k, none⟩ = some (.int .i64 (s k : Int)) := hc k hlt
      clear hc
      have hsk := HS.out.lt hlt
      have ht := mq_clear H7.out hlt (fun j hj => HI.out j k hj hlt)
      have cf := how.frozen (s k)
      have cs := how.cellsAt (s k) (by rw [length_turnTo]; exact hsk)
      have st := own_turn how hsk
      go_wp2
      go_roundw
      case rel => exact ⟨k + 1, by omega, by go_num, rfl, st, hb.setCell (p := ⟨w.heap.size, s k, none⟩) (Nat.le_refl _) _⟩
      case measure => simp [intOf]; omega
    · obtain rfl : k = n := by omega
      rw [turnTo_full (fun j hj => HS.out.lt hj) HI.out] at how
      go_wp2
      go_ret2
      exact RetOwnB.of_ rfl how hb

set_option maxHeartbeats 1000000 in
theorem turnedOf_other (A : Option Addr) (n c : Nat) (s : Nat → Nat) (w : World) (hA : View w A n (up s)) (hs : Mp n s) (hi : ¬ Inj n s) :
    Calls Try.prog 31 #[.slice A n c] w (RetOwnB w [] false) := by
  have hn1 := hs.1
  have hn7 := hs.2.1
  have HS := Lib.hid hs
  have HI := Lib.hid hi
  have H7 : Hid (∀ j, j < n → s j < 7) := Lib.hid (fun j hj => Nat.lt_of_lt_of_le (hs.lt hj) hn7)
  clear hs hi
  obtain ⟨i0, hi0, hz0, hz1, hz2⟩ := info_parts int_info
  go_enter Try.func31, Try.ntmps31
  go_wp2_with fail
  refine (mapOk_yes _ _ _ _ _ hA HS.out.valid).mono ?_
  rintro e w_ ⟨rfl, rfl⟩
  go_wp2_with (at_make; refine wpList_make_full _ rfl _ _ 22 rfl w.heap.size 3 i0 (.int .i64 0) 1 Try.underlying22 hi0 hz0 hz1 .i64 .i64 _ _ n rfl rfl rfl rfl (by rw [hz2]; omega) (by unfold maxLen; omega) (Nat.le_refl _) ?_; intro w1 hown1 hgr1)
  have how1 := Own.made hown1
  have hb1 : Below w.heap.size w w1 := (Below.refl _ _).grown hgr1 (Nat.le_refl _) (by intro k hk; cases hk)
  clear hown1 hgr1
  go_loopw [5, 16] (fun q i wr => ∃ k : Nat, k ≤ n ∧ i = .int .i64 k ∧ q = .int .i64 (mq s k) ∧ Inj k s ∧ Own wr w.heap.size (.slice (some ⟨w.heap.size, 0, none⟩) n n) (turnTo s n k) ∧ Below w.heap.size w wr) (fun _ i _ => n - (intOf i).toNat)
  case atStart => exact ⟨0, Nat.zero_le _, rfl, rfl, Inj.zero _, how1, hb1⟩
  case round =>
    obtain ⟨k, hk, rfl, rfl, hin, how, hb⟩ := hrel
    have HIN := Lib.hid hin
    clear hin
    have hA' := hA.below hb
    by_cases hlt : k < n
    · obtain ⟨g, off, rfl, hg, hc⟩ := hA' (by omega)
      have c1 : wr.cell? ⟨g, off + k, none⟩ = some (.int .i64 (s k : Int)) := hc k hlt
      clear hc
      have hsk := HS.out.lt hlt
      by_cases hd : ∃ j, j < k ∧ s j = s k
      · obtain ⟨j, hj, e⟩ := hd
        have ht := mq_set H7.out hlt hj e
        clear e
        go_wp2
        go_ret2
        exact RetOwnB.of_ rfl (Own.nil _ _) hb
      · have ht := mq_clear H7.out hlt (fun j hj e => hd ⟨j, hj, e⟩)
        have HD := Lib.hid hd
        clear hd
        have cf := how.frozen (s k)
        have cs := how.cellsAt (s k) (by rw [length_turnTo]; exact hsk)
        have st := own_turn how hsk
        go_wp2
        go_roundw
        case rel => exact ⟨k + 1, by omega, by go_num, rfl, HIN.out.succ (fun j hj e => HD.out ⟨j, hj, e⟩), st, hb.setCell (p := ⟨w.heap.size, s k, none⟩) (Nat.le_refl _) _⟩
        case measure => simp [intOf]; omega
    · obtain rfl : k = n := by omega
      exact absurd HIN.out HI.out

set_option maxHeartbeats 400000 in
theorem turnedOf_no (A : Option Addr) (n c : Nat) (p : Nat → Int) (w : World) (hA : View w A n p) (hn : n ≤ 1099511627776) (hv : ¬ Valid n p) :
    Calls Try.prog 31 #[.slice A n c] w (RetOwnB w [] false) := by
  have HV := Lib.hid hv
  clear hv
  go_enter Try.func31, Try.ntmps31
  go_wp2_with fail
  refine (mapOk_no _ _ _ _ _ hA HV.out hn).mono ?_
  rintro e w_ ⟨rfl, rfl⟩
  go_wp2
  go_ret2
  exact RetOwnB.of_ rfl (Own.nil _ _) (Below.refl _ _)

end Go.Proofs.Ytanncngbmgopnaa
