/- spec.AlikeOf and impl.AlikeOf: for each thing the least one that is led to the same. Conditions: a map, or none. -/
import Derived.Test.YtkgafapghdjhlaaFromSpec
import Derived.Test.YtkgafapghdjhlaaSlIndex
import Derived.Test.YtkgafapghdjhlaaOkImpl
namespace Go.Proofs.Ytkgafapghdjhlaa
open Go.RowKit
set_option linter.unusedVariables false

/-- The least thing that is led where k is led. -/
def alike (s : Nat → Nat) (n k : Nat) : Int := nth (fromTo s (s k : Int) n) 0

set_option maxHeartbeats 1000000 in
theorem sAlikeOf_yes (A : Option Addr) (n c : Nat) (s : Nat → Nat) (w : World) (hA : View w A n (up s)) (hs : Mp n s) :
    Calls Try.prog 52 #[.slice A n c] w (RetOwn w (lst n (alike s n))) := by
  have h1 := hs.1
  have h7 := hs.2.1
  have HS := Lib.hid hs
  clear hs
  go_enter Try.func52, Try.ntmps52
  go_wp2
  go_loopw [3, 4] (fun v i wr => ∃ k : Nat, k ≤ n ∧ i = .int .i64 k ∧ Own wr w.heap.size v (lst k (alike s n)) ∧ Below w.heap.size w wr) (fun _ i _ => n - (intOf i).toNat)
  case atStart => exact ⟨0, Nat.zero_le _, rfl, own_none w, below_none w⟩
  case round =>
    obtain ⟨k, hk, rfl, how, hb⟩ := hrel
    have hA' := hA.below hb
    by_cases hlt : k < n
    · obtain ⟨g, off, rfl, hg, hc⟩ := hA' (by omega)
      have c1 : wr.cell? ⟨g, off + k, none⟩ = some (.int .i64 (s k : Int)) := hc k hlt
      clear hc
      have hpos : 0 < (fromTo s (s k : Int) n).length := by
        obtain ⟨t, _, _, _, _, _, h6⟩ := fromTo_first (s := s) (v := (s k : Int)) n k hlt rfl
        exact h6
      have hlen := length_fromTo s (s k : Int) n
      go_wp2_with fail
      refine (sMapOk_yes _ _ _ _ _ hA' HS.out.valid).mono ?_
      rintro e w_ ⟨rfl, rfl⟩
      go_wp2_with fail
      refine (sFromOf_yes _ _ _ _ _ _ hA' HS.out).mono ?_
      rintro e w1 ⟨A1, c1', rfl, o1, b1⟩
      obtain ⟨g1, rfl, hg1, hg2⟩ := o1.at_ hpos
      have d1 : w1.cell? ⟨g1, 0, none⟩ = some (.int .i64 (alike s n k)) := o1.cellsAt 0 hpos
      have how' := Own.below how b1
      have hb' := below_more hb b1
      clear how
      go_wp2_with (at_builtin; refine wpList_app1 rfl (.tmp 16) (.tmp 25) rfl w.heap.size _ _ rfl how' _ rfl (by rw [length_lst]; omega) hb'.size ?_; intro v2 w2 how2 _ hb2)
      have how3 : Own w2 w.heap.size v2 (lst (k + 1) (alike s n)) := by rw [lst_succ]; exact how2
      clear how2
      go_roundw
      case rel => exact ⟨k + 1, by omega, by go_num, how3, hb'.trans hb2⟩
      case measure => simp [intOf]; omega
    · obtain rfl : k = n := by omega
      go_wp2
      go_ret
      exact RetOwn.of_ rfl how hb

set_option maxHeartbeats 400000 in
theorem sAlikeOf_no (A : Option Addr) (n c : Nat) (p : Nat → Int) (w : World) (hA : View w A n p) (hn : n ≤ 1099511627776) (hv : ¬ Valid n p) :
    Calls Try.prog 52 #[.slice A n c] w (RetOwn w []) := by
  have HV := Lib.hid hv
  clear hv
  by_cases h0 : 0 < n
  · go_enter Try.func52, Try.ntmps52
    go_wp2
    refine wp_loop_rounds 1 ?_
    rw [rounds_succ]
    go_wp2_with fail
    refine (sMapOk_no _ _ _ _ _ (hA.below (below_none w)) HV.out hn).mono ?_
    rintro e w_ ⟨rfl, rfl⟩
    go_wp2
    go_ret
    exact RetOwn.of_ rfl (own_none w) (below_none w)
  · go_enter Try.func52, Try.ntmps52
    go_wp2
    refine wp_loop_rounds 1 ?_
    rw [rounds_succ]
    go_wp2
    go_ret
    exact RetOwn.of_ rfl (own_none w) (below_none w)

set_option maxHeartbeats 1000000 in
theorem alikeOf_yes (A : Option Addr) (n c : Nat) (s : Nat → Nat) (w : World) (hA : View w A n (up s)) (hs : Mp n s) :
    Calls Try.prog 51 #[.slice A n c] w (RetOwn w (lst n (alike s n))) := by
  have hn1 := hs.1
  have hn7 := hs.2.1
  have HS := Lib.hid hs
  clear hs
  obtain ⟨i0, hi0, hz0, hz1, hz2⟩ := info_parts int_info
  go_enter Try.func51, Try.ntmps51
  go_wp2_with fail
  refine (mapOk_yes _ _ _ _ _ hA HS.out.valid).mono ?_
  rintro e w_ ⟨rfl, rfl⟩
  go_wp2_with (at_make; refine wpList_make_full _ rfl _ _ 22 rfl w.heap.size 3 i0 (.int .i64 0) 1 Try.underlying22 hi0 hz0 hz1 .i64 .i64 _ _ n rfl rfl rfl rfl (by rw [hz2]; omega) (by unfold maxLen; omega) (Nat.le_refl _) ?_; intro w1 hown1 hgr1)
  have how1 := Own.made hown1
  have hb1 : Below w.heap.size w w1 := (Below.refl _ _).grown hgr1 (Nat.le_refl _) (by intro k hk; cases hk)
  clear hown1 hgr1
  go_loopw [14] (fun i wr => ∃ k : Nat, k ≤ n ∧ i = .int .i64 k ∧ Own wr w.heap.size (.slice (some ⟨w.heap.size, 0, none⟩) n n) (part k n (alike s n)) ∧ Below w.heap.size w wr) (fun i _ => n - (intOf i).toNat)
  case atStart => exact ⟨0, Nat.zero_le _, rfl, by rw [part_zero]; exact how1, hb1⟩
  case round =>
    obtain ⟨k, hk, rfl, how, hb⟩ := hrel
    have hA' := hA.below hb
    by_cases hlt : k < n
    · obtain ⟨g, off, rfl, hg, hc⟩ := hA' (by omega)
      have c1 : wr.cell? ⟨g, off + k, none⟩ = some (.int .i64 (s k : Int)) := hc k hlt
      clear hc
      have cf := how.frozen k
      have cs := how.cellsAt k (by rw [length_part _ (by omega)]; exact hlt)
      obtain ⟨t, t1, t2, t3, t4, t5, _⟩ := fromTo_first (s := s) (v := (s k : Int)) n k hlt rfl
      have st := (how.stored k (alike s n k)).1
      rw [part_set _ hlt] at st
      have e : alike s n k = (t : Int) := t5
      rw [e] at st
      have T3 := Lib.hid t3
      have T4 := Lib.hid t4
      clear t3 t4 t5 e
      go_wp2_with fail
      refine (slIndex_at _ _ _ t _ _ _ hA' (by omega) t1 T3.out T4.out).mono ?_
      rintro e w_ ⟨rfl, rfl⟩
      go_wp2
      go_roundw
      case rel => exact ⟨k + 1, by omega, by go_num, st, hb.setCell (p := ⟨w.heap.size, k, none⟩) (Nat.le_refl _) _⟩
      case measure => simp [intOf]; omega
    · obtain rfl : k = n := by omega
      rw [part_full] at how
      go_wp2
      go_ret
      exact RetOwn.of_ rfl how hb

set_option maxHeartbeats 400000 in
theorem alikeOf_no (A : Option Addr) (n c : Nat) (p : Nat → Int) (w : World) (hA : View w A n p) (hn : n ≤ 1099511627776) (hv : ¬ Valid n p) :
    Calls Try.prog 51 #[.slice A n c] w (RetOwn w []) := by
  have HV := Lib.hid hv
  clear hv
  go_enter Try.func51, Try.ntmps51
  go_wp2_with fail
  refine (mapOk_no _ _ _ _ _ hA HV.out hn).mono ?_
  rintro e w_ ⟨rfl, rfl⟩
  go_wp2
  go_ret
  exact RetOwn.of_ rfl (Own.nil _ _) (Below.refl _ _)

end Go.Proofs.Ytkgafapghdjhlaa
