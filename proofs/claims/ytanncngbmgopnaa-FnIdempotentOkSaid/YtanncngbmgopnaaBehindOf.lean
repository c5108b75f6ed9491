/- spec.BehindOf and impl.BehindOf: the map that leads by a first map and then by a second one, for every two rows. Condition: the lengths' bound. -/
import Derived.Test.YtanncngbmgopnaaApp
import Derived.Test.YtanncngbmgopnaaOkImpl
import Derived.Test.YtanncngbmgopnaaOkSpec
namespace Go.Proofs.Ytanncngbmgopnaa
open Go.RowKit
set_option linter.unusedVariables false

/-- By s, then by t. -/
def behind (s t : Nat → Nat) (k : Nat) : Nat := t (s k)

theorem behind_mp {n : Nat} {s t : Nat → Nat} (hs : Mp n s) (ht : Mp n t) : Mp n (behind s t) := ⟨hs.1, hs.2.1, fun k hk => ht.lt (hs.lt hk)⟩

theorem own_empty (w : World) : Own (w.alloc (.cells #[] 3)) w.heap.size (.slice (some ⟨w.heap.size, 0, none⟩) 0 0) [] := World.ownsRow_lit w #[] 0 (Nat.le_refl _) (Nat.zero_le _) rfl
theorem below_empty (w : World) : Below w.heap.size w (w.alloc (.cells #[] 3)) := (Below.refl _ _).alloc (Nat.le_refl _) _

set_option maxHeartbeats 1000000 in
theorem sBehindOf_yes (A B : Option Addr) (n c d : Nat) (s t : Nat → Nat) (w : World) (hA : View w A n (up s)) (hB : View w B n (up t)) (hs : Mp n s) (ht : Mp n t) :
    Calls Try.prog 91 #[.slice A n c, .slice B n d] w (RetOwn w (lst n (up (behind s t)))) := by
  have hn1 := hs.1
  have hn7 := hs.2.1
  have hvs := Lib.hid hs.valid
  have hvt := Lib.hid ht.valid
  have hs' := Lib.hid hs
  have ht' := Lib.hid ht
  clear hs ht
  go_enter Try.func91, Try.ntmps91
  go_wp2
  go_loopw [5, 6] (fun v i wr => ∃ k : Nat, k ≤ n ∧ i = .int .i64 k ∧ Own wr w.heap.size v (lst k (up (behind s t))) ∧ Below w.heap.size w wr) (fun _ i _ => n - (intOf i).toNat)
  case atStart => exact ⟨0, Nat.zero_le _, rfl, own_empty w, below_empty w⟩
  case round =>
    obtain ⟨k, hk, rfl, how, hb⟩ := hrel
    by_cases hlt : k < n
    · have hA' := hA.below hb
      have hB' := hB.below hb
      obtain ⟨g, off, rfl, hg, hc⟩ := hA' (by omega)
      obtain ⟨g', off', rfl, hg', hc'⟩ := hB' (by omega)
      have hsk := hs'.out.lt hlt
      have htk := ht'.out.lt hsk
      have c1 : wr.cell? ⟨g, off + k, none⟩ = some (.int .i64 (s k : Int)) := hc k hlt
      have c2 : wr.cell? ⟨g', off' + s k, none⟩ = some (.int .i64 (t (s k) : Int)) := hc' (s k) hsk
      clear hc hc'
      go_wp2_with fail
      refine (sMapOk_yes _ _ _ _ _ hA' hvs.out).mono ?_
      rintro e w_ ⟨rfl, rfl⟩
      go_wp2_with fail
      refine (sMapOk_yes _ _ _ _ _ hB' hvt.out).mono ?_
      rintro e w_ ⟨rfl, rfl⟩
      go_wp2_with (at_builtin; refine wpList_app1 rfl (.tmp 29) (.tmp 37) rfl w.heap.size _ _ rfl how _ rfl (by rw [length_lst]; omega) hb.size ?_; intro v1 w1 how1 _ hb1)
      have how2 : Own w1 w.heap.size v1 (lst (k + 1) (up (behind s t))) := by rw [lst_succ]; exact how1
      clear how1
      go_wp2
      go_roundw
      case rel => exact ⟨k + 1, by omega, by go_num, how2, hb.trans hb1⟩
      case measure => simp [intOf]; omega
    · obtain rfl : k = n := by omega
      go_wp2
      go_ret
      exact RetOwn.of_ rfl how hb

set_option maxHeartbeats 1000000 in
theorem sBehindOf_no (A B : Option Addr) (n m c d : Nat) (p q : Nat → Int) (w : World) (hA : View w A n p) (hB : View w B m q) (hn : n ≤ 1099511627776) (hm : m ≤ 1099511627776) (h : ¬ (n = m ∧ Valid n p ∧ Valid m q)) :
    Calls Try.prog 91 #[.slice A n c, .slice B m d] w (RetOwn w []) := by
  have hA' := hA.below (below_empty w)
  have hB' := hB.below (below_empty w)
  by_cases h0 : 0 < n
  · by_cases hnm : n = m
    · subst hnm
      by_cases hp : Valid n p
      · have hq : ¬ Valid n q := fun hq => h ⟨rfl, hp, hq⟩
        go_enter Try.func91, Try.ntmps91
        go_wp2
        refine wp_loop_rounds 1 ?_
        rw [rounds_succ]
        go_wp2_with fail
        refine (sMapOk_yes _ _ _ _ _ hA' hp).mono ?_
        rintro e w_ ⟨rfl, rfl⟩
        go_wp2_with fail
        refine (sMapOk_no _ _ _ _ _ hB' hq hm).mono ?_
        rintro e w_ ⟨rfl, rfl⟩
        go_wp2
        go_ret
        exact RetOwn.of_ rfl (own_empty w) (below_empty w)
      · go_enter Try.func91, Try.ntmps91
        go_wp2
        refine wp_loop_rounds 1 ?_
        rw [rounds_succ]
        go_wp2_with fail
        refine (sMapOk_no _ _ _ _ _ hA' hp hn).mono ?_
        rintro e w_ ⟨rfl, rfl⟩
        go_wp2
        go_ret
        exact RetOwn.of_ rfl (own_empty w) (below_empty w)
    · have hne : ((n : Int) == (m : Int)) = false := by simp; omega
      go_enter Try.func91, Try.ntmps91
      go_wp2
      refine wp_loop_rounds 1 ?_
      rw [rounds_succ]
      go_wp2
      go_ret
      exact RetOwn.of_ rfl (own_empty w) (below_empty w)
  · go_enter Try.func91, Try.ntmps91
    go_wp2
    refine wp_loop_rounds 1 ?_
    rw [rounds_succ]
    go_wp2
    go_ret
    exact RetOwn.of_ rfl (own_empty w) (below_empty w)

set_option maxHeartbeats 1000000 in
theorem behindOf_yes (A B : Option Addr) (n c d : Nat) (s t : Nat → Nat) (w : World) (hA : View w A n (up s)) (hB : View w B n (up t)) (hs : Mp n s) (ht : Mp n t) :
    Calls Try.prog 80 #[.slice A n c, .slice B n d] w (RetOwn w (lst n (up (behind s t)))) := by
  have hn1 := hs.1
  have hn7 := hs.2.1
  have hvs := Lib.hid hs.valid
  have hvt := Lib.hid ht.valid
  have hs' := Lib.hid hs
  have ht' := Lib.hid ht
  clear hs ht
  obtain ⟨i0, hi0, hz0, hz1, hz2⟩ := info_parts int_info
  go_enter Try.func80, Try.ntmps80
  go_wp2_with fail
  refine (mapOk_yes _ _ _ _ _ hA hvs.out).mono ?_
  rintro e w_ ⟨rfl, rfl⟩
  go_wp2_with fail
  refine (mapOk_yes _ _ _ _ _ hB hvt.out).mono ?_
  rintro e w_ ⟨rfl, rfl⟩
  go_wp2_with (at_make; refine wpList_make_full _ rfl _ _ 22 rfl w.heap.size 3 i0 (.int .i64 0) 1 Try.underlying22 hi0 hz0 hz1 .i64 .i64 _ _ n rfl rfl rfl rfl (by rw [hz2]; omega) (by unfold maxLen; omega) (Nat.le_refl _) ?_; intro w1 hown1 hgr1)
  have how1 := Own.made hown1
  have hb1 : Below w.heap.size w w1 := (Below.refl _ _).grown hgr1 (Nat.le_refl _) (by intro k hk; cases hk)
  clear hown1 hgr1
  go_loopw [28] (fun i wr => ∃ k : Nat, k ≤ n ∧ i = .int .i64 k ∧ Own wr w.heap.size (.slice (some ⟨w.heap.size, 0, none⟩) n n) (part k n (up (behind s t))) ∧ Below w.heap.size w wr) (fun i _ => n - (intOf i).toNat)
  case atStart => exact ⟨0, Nat.zero_le _, rfl, by rw [part_zero]; exact how1, hb1⟩
  case round =>
    obtain ⟨k, hk, rfl, how, hb⟩ := hrel
    by_cases hlt : k < n
    · obtain ⟨g, off, rfl, hg, hc⟩ := (hA.below hb) (by omega)
      obtain ⟨g', off', rfl, hg', hc'⟩ := (hB.below hb) (by omega)
      have hsk := hs'.out.lt hlt
      have htk := ht'.out.lt hsk
      have c1 : wr.cell? ⟨g, off + k, none⟩ = some (.int .i64 (s k : Int)) := hc k hlt
      have c2 : wr.cell? ⟨g', off' + s k, none⟩ = some (.int .i64 (t (s k) : Int)) := hc' (s k) hsk
      have cf := how.frozen k
      have cs := how.cellsAt k (by rw [length_part _ (by omega)]; exact hlt)
      have st := (how.stored k (up (behind s t) k)).1
      rw [part_set _ hlt] at st
      clear hc hc'
      go_wp2
      go_roundw
      case rel => exact ⟨k + 1, by omega, by go_num, st, hb.setCell (p := ⟨w.heap.size, k, none⟩) (Nat.le_refl _) _⟩
      case measure => simp [intOf]; omega
    · obtain rfl : k = n := by omega
      rw [part_full] at how
      go_wp2
      go_ret
      exact RetOwn.of_ rfl how hb

set_option maxHeartbeats 1000000 in
theorem behindOf_no (A B : Option Addr) (n m c d : Nat) (p q : Nat → Int) (w : World) (hA : View w A n p) (hB : View w B m q) (hn : n ≤ 1099511627776) (hm : m ≤ 1099511627776) (h : ¬ (n = m ∧ Valid n p ∧ Valid m q)) :
    Calls Try.prog 80 #[.slice A n c, .slice B m d] w (RetOwn w []) := by
  by_cases hp : Valid n p
  · by_cases hq : Valid m q
    · have hne : ((n : Int) != (m : Int)) = true := by
        have : n ≠ m := fun e => h ⟨e, hp, hq⟩
        simp; omega
      go_enter Try.func80, Try.ntmps80
      go_wp2_with fail
      refine (mapOk_yes _ _ _ _ _ hA hp).mono ?_
      rintro e w_ ⟨rfl, rfl⟩
      go_wp2_with fail
      refine (mapOk_yes _ _ _ _ _ hB hq).mono ?_
      rintro e w_ ⟨rfl, rfl⟩
      go_wp2
      go_ret
      exact RetOwn.of_ rfl (Own.nil _ _) (Below.refl _ _)
    · go_enter Try.func80, Try.ntmps80
      go_wp2_with fail
      refine (mapOk_yes _ _ _ _ _ hA hp).mono ?_
      rintro e w_ ⟨rfl, rfl⟩
      go_wp2_with fail
      refine (mapOk_no _ _ _ _ _ hB hq hm).mono ?_
      rintro e w_ ⟨rfl, rfl⟩
      go_wp2
      go_ret
      exact RetOwn.of_ rfl (Own.nil _ _) (Below.refl _ _)
  · go_enter Try.func80, Try.ntmps80
    go_wp2_with fail
    refine (mapOk_no _ _ _ _ _ hA hp hn).mono ?_
    rintro e w_ ⟨rfl, rfl⟩
    go_wp2
    go_ret
    exact RetOwn.of_ rfl (Own.nil _ _) (Below.refl _ _)

end Go.Proofs.Ytanncngbmgopnaa
