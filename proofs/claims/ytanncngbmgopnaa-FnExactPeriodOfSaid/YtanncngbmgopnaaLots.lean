/- spec.LotsOf and impl.LotsOf: for each thing the least thing of its loop. Conditions: a map, or none. -/
import Derived.Test.YtanncngbmgopnaaLoopOf
import Derived.Test.YtanncngbmgopnaaRhoD
namespace Go.Proofs.Ytanncngbmgopnaa
open Go.RowKit
set_option linter.unusedVariables false

/-- The least thing of the loop to which k leads. -/
noncomputable def lot (s : Nat → Nat) (k : Nat) : Int := least s k (rho s k).1 (rho s k).2

set_option maxHeartbeats 1000000 in
theorem sLotsOf_yes (A : Option Addr) (n c : Nat) (s : Nat → Nat) (w : World) (hA : View w A n (up s)) (hs : Mp n s) :
    Calls Try.prog 58 #[.slice A n c] w (RetOwn w (lst n (lot s))) := by
  have h1 := hs.1
  have h7 := hs.2.1
  have HS := Lib.hid hs
  clear hs
  go_enter Try.func58, Try.ntmps58
  go_wp2
  go_loopw [3, 4] (fun v i wr => ∃ k : Nat, k ≤ n ∧ i = .int .i64 k ∧ Own wr w.heap.size v (lst k (lot s)) ∧ Below w.heap.size w wr) (fun _ i _ => n - (intOf i).toNat)
  case atStart => exact ⟨0, Nat.zero_le _, rfl, own_empty' w, below_empty' w⟩
  case round =>
    obtain ⟨k, hk, rfl, how, hb⟩ := hrel
    have hA' := hA.below hb
    by_cases hlt : k < n
    · go_wp2_with fail
      refine (sMapOk_yes _ _ _ _ _ hA' HS.out.valid).mono ?_
      rintro e w_ ⟨rfl, rfl⟩
      go_wp2_with fail
      refine ((sLoopOf_yes _ _ _ _ _ _ _ _ hA' HS.out hlt (rho_is HS.out hlt)).mono (R' := RetInt wr (lot s k)) fun _ _ h => h).mono ?_
      rintro e w1 ⟨rfl, b1⟩
      have how' := Own.below how b1
      have hb' := below_more hb b1
      clear how
      go_wp2_with (at_builtin; refine wpList_app1 rfl (.tmp 16) (.tmp 20) rfl w.heap.size _ _ rfl how' _ rfl (by rw [length_lst]; omega) hb'.size ?_; intro v2 w2 how2 _ hb2)
      have how3 : Own w2 w.heap.size v2 (lst (k + 1) (lot s)) := by rw [lst_succ]; exact how2
      clear how2
      go_roundw
      case rel => exact ⟨k + 1, by omega, by go_num, how3, hb'.trans hb2⟩
      case measure => simp [intOf]; omega
    · obtain rfl : k = n := by omega
      go_wp2
      go_ret
      exact RetOwn.of_ rfl how hb

set_option maxHeartbeats 400000 in
theorem sLotsOf_no (A : Option Addr) (n c : Nat) (p : Nat → Int) (w : World) (hA : View w A n p) (hn : n ≤ 1099511627776) (hv : ¬ Valid n p) :
    Calls Try.prog 58 #[.slice A n c] w (RetOwn w []) := by
  have HV := Lib.hid hv
  clear hv
  by_cases h0 : 0 < n
  · go_enter Try.func58, Try.ntmps58
    go_wp2
    refine wp_loop_rounds 1 ?_
    rw [rounds_succ]
    go_wp2_with fail
    refine (sMapOk_no _ _ _ _ _ (hA.below (below_empty' w)) HV.out hn).mono ?_
    rintro e w_ ⟨rfl, rfl⟩
    go_wp2
    go_ret
    exact RetOwn.of_ rfl (own_empty' w) (below_empty' w)
  · go_enter Try.func58, Try.ntmps58
    go_wp2
    refine wp_loop_rounds 1 ?_
    rw [rounds_succ]
    go_wp2
    go_ret
    exact RetOwn.of_ rfl (own_empty' w) (below_empty' w)

set_option maxHeartbeats 1000000 in
theorem lotsOf_yes (A : Option Addr) (n c : Nat) (s : Nat → Nat) (w : World) (hA : View w A n (up s)) (hs : Mp n s) :
    Calls Try.prog 57 #[.slice A n c] w (RetOwn w (lst n (lot s))) := by
  have hn1 := hs.1
  have hn7 := hs.2.1
  have HS := Lib.hid hs
  clear hs
  obtain ⟨i0, hi0, hz0, hz1, hz2⟩ := info_parts int_info
  go_enter Try.func57, Try.ntmps57
  go_wp2_with fail
  refine (mapOk_yes _ _ _ _ _ hA HS.out.valid).mono ?_
  rintro e w_ ⟨rfl, rfl⟩
  go_wp2_with (at_make; refine wpList_make_full _ rfl _ _ 22 rfl w.heap.size 3 i0 (.int .i64 0) 1 Try.underlying22 hi0 hz0 hz1 .i64 .i64 _ _ n rfl rfl rfl rfl (by rw [hz2]; omega) (by unfold maxLen; omega) (Nat.le_refl _) ?_; intro w1 hown1 hgr1)
  have how1 := Own.made hown1
  have hb1 : Below w.heap.size w w1 := (Below.refl _ _).grown hgr1 (Nat.le_refl _) (by intro k hk; cases hk)
  clear hown1 hgr1
  go_loopw [13] (fun i wr => ∃ k : Nat, k ≤ n ∧ i = .int .i64 k ∧ Own wr w.heap.size (.slice (some ⟨w.heap.size, 0, none⟩) n n) (part k n (lot s)) ∧ Below w.heap.size w wr) (fun i _ => n - (intOf i).toNat)
  case atStart => exact ⟨0, Nat.zero_le _, rfl, by rw [part_zero]; exact how1, hb1⟩
  case round =>
    obtain ⟨k, hk, rfl, how, hb⟩ := hrel
    have hA' := hA.below hb
    by_cases hlt : k < n
    · go_wp2_with fail
      refine ((loopOf_yes _ _ _ _ _ _ _ _ hA' HS.out hlt (rho_is HS.out hlt)).mono (R' := RetInt wr (lot s k)) fun _ _ h => h).mono ?_
      rintro e w2 ⟨rfl, b2⟩
      have how' := Own.below how b2
      have hb' := below_more hb b2
      clear how
      have cf := how'.frozen k
      have cs := how'.cellsAt k (by rw [length_part _ (by omega)]; exact hlt)
      have st := (how'.stored k (lot s k)).1
      rw [part_set _ hlt] at st
      go_wp2
      go_roundw
      case rel => exact ⟨k + 1, by omega, by go_num, st, hb'.setCell (p := ⟨w.heap.size, k, none⟩) (Nat.le_refl _) _⟩
      case measure => simp [intOf]; omega
    · obtain rfl : k = n := by omega
      rw [part_full] at how
      go_wp2
      go_ret
      exact RetOwn.of_ rfl how hb

set_option maxHeartbeats 400000 in
theorem lotsOf_no (A : Option Addr) (n c : Nat) (p : Nat → Int) (w : World) (hA : View w A n p) (hn : n ≤ 1099511627776) (hv : ¬ Valid n p) :
    Calls Try.prog 57 #[.slice A n c] w (RetOwn w []) := by
  have HV := Lib.hid hv
  clear hv
  go_enter Try.func57, Try.ntmps57
  go_wp2_with fail
  refine (mapOk_no _ _ _ _ _ hA HV.out hn).mono ?_
  rintro e w_ ⟨rfl, rfl⟩
  go_wp2
  go_ret
  exact RetOwn.of_ rfl (Own.nil _ _) (Below.refl _ _)

end Go.Proofs.Ytanncngbmgopnaa
